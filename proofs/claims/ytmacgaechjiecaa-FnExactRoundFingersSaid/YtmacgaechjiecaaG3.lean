/- Contracts of functions of the given program, for the law FnExactRoundFingers: what they return and what they write, under the bounds that each theorem states. -/
import Derived.Test.YtmacgaechjiecaaG2
namespace Go.AM
set_option linter.unusedVariables false
set_option linter.unusedSimpArgs false
namespace Fz
/-- loop.example/g00837/spec.BaseTypes -/
def m58 : MC :=
  (.seq
   (.reg [⟨(some 0), none, .a (.asg (.nils 43 6))⟩])
   (.seq
    (.reg [⟨(some 1), none, .a (.build [0, 2, 5] [0, 2, 5] [1, 1, 1] [.v (.int .i64 0), .v (.int .i64 0), .v (.int .i64 0), .f 3, .v (.string ({ data := #[] })), .v (.string ({ data := #[] }))] [.c (.int .i64 1), .c (.int .i64 (-1)), .c (.string ({ data := #[73, 78, 84] }))])⟩,
      ⟨(some 2), none, .a (.build [0, 2, 5] [0, 2, 5] [1, 1, 1] [.v (.int .i64 0), .v (.int .i64 0), .v (.int .i64 0), .f 3, .v (.string ({ data := #[] })), .v (.string ({ data := #[] }))] [.c (.int .i64 2), .c (.int .i64 (-1)), .c (.string ({ data := #[66, 79, 79, 76] }))])⟩,
      ⟨(some 3), none, .a (.build [0, 2, 5] [0, 2, 5] [1, 1, 1] [.v (.int .i64 0), .v (.int .i64 0), .v (.int .i64 0), .f 3, .v (.string ({ data := #[] })), .v (.string ({ data := #[] }))] [.c (.int .i64 3), .c (.int .i64 (-1)), .c (.string ({ data := #[67, 72, 65, 82] }))])⟩,
      ⟨(some 4), none, .a (.bsl 43 6 [.t 1, .t 2, .t 3])⟩,
      ⟨(some 0), none, .a (.asg (.t 4))⟩])
    .ret))


theorem d58 : Does Go.Proofs.Try.prog 58 [] false (.usl 43 6 (baseTs.map Ty.z)) [] := by
  refine does_intro (mc := m58) (N := 5) (rs := [0]) (fx := []) 0 rfl (by decide +kernel) ?_
  simp only [m58, baseTs, Ty.z, EV, Nat.reduceEqDiff, Nat.reduceBEq, Nat.reduceLT, Nat.reduceLeDiff, Nat.reduceAdd, Nat.reduceSub, reduceIte]
  simp only [EV, Nat.reduceEqDiff, Nat.reduceBEq, Nat.reduceLT, Nat.reduceLeDiff, Nat.reduceAdd, Nat.reduceSub, reduceIte, evRE, retVC, cellV', evR, nfz, nfzs, nfzss, List.contains_nil, List.contains_cons, Bool.or_false, or_true]
  exact Or.inr rfl
end Fz

theorem base_at {i : Nat} (h : i < baseTs.length) : baseTs[i].long = 0 ∧ baseTs[i].base = -1 ∧ baseTs[i].fields = [] ∧ baseTs[i].owner = ⟨#[]⟩ := by
  have : i = 0 ∨ i = 1 ∨ i = 2 := by rw [base_len] at h; omega
  rcases this with rfl | rfl | rfl <;> exact ⟨rfl, rfl, rfl, rfl⟩

theorem eqL_nil {α : Type} {q : α → α → Bool} (a : List α) : eqL q a [] = !decide (0 < (a.length : Int)) := by
  cases a with
  | nil => simp [eqL, eqTo]
  | cons x a => simp [eqL]

theorem sameTy_at (t : Ty) {i : Nat} (h : i < baseTs.length) : sameTy t baseTs[i] = ((t.kind == baseTs[i].kind) && ((t.long == 0) && ((t.base == -1) && (!decide (0 < (t.fields.length : Int)) && ((t.owner.toList == (⟨#[]⟩ : ByteArray).toList) && (t.name.toList == baseTs[i].name.toList)))))) := by
  obtain ⟨h1, h2, h3, h4⟩ := base_at h
  unfold sameTy
  rw [h1, h2, h3, h4, eqL_nil]

noncomputable def baseOk (l : List Ty) : Bool := decide (3 ≤ (l.length : Int)) && eqL sameTy (l.take 3) baseTs

/-- loop.example/g00837/spec.l3Base -/
def m37 : MC :=
  (.seq
   (.reg [⟨(some 2), none, .a (.asg (.c (.bool false)))⟩])
   (.seq
    (.seq
     (.reg [⟨(some 6), none, .q (.mov (.t 0))⟩,
       ⟨(some 7), none, .q (.len false (.t 6))⟩,
       ⟨(some 8), none, .q (.bin false .lss (.t 7) (.c (.int .i64 3)))⟩])
     (.cond (.t 8)
      (.seq
       (.reg [⟨(some 2), none, .a (.asg (.c (.bool false)))⟩])
       .ret)
      .skip))
    (.seq
     (.seq
      (.reg [⟨(some 9), none, .a (.call (.fn 58) false [])⟩,
        ⟨(some 10), none, .q (.len false (.t 9))⟩,
        ⟨(some 11), none, .q (.mov (.c (.int .i64 0)))⟩])
      (.block 0
       (.loop [0, 9, 10, 11]
        (.seq
         (.reg [⟨(some 12), none, .q (.bin false .lss (.t 11) (.t 10))⟩])
         (.seq
          (.cond (.t 12)
           .skip
           (.exit 0))
          (.seq
           (.block 1
            (.seq
             (.reg [⟨(some 13), none, .q (.mov (.t 11))⟩,
               ⟨(some 14), none, .q (.iad 6 (.t 9) (.t 11))⟩,
               ⟨(some 15), none, .q (.load true 6 (.t 14))⟩,
               ⟨(some 4), none, .a (.alloc 43 [.v (.int .i64 0), .v (.int .i64 0), .v (.int .i64 0), .s 54 3, .v (.string ({ data := #[] })), .v (.string ({ data := #[] }))])⟩,
               ⟨(some 3), none, .a (.asg (.t 13))⟩,
               ⟨none, none, .a (.store 6 (.t 4) (.t 15))⟩])
             (.seq
              (.reg [⟨(some 16), none, .q (.mov (.t 0))⟩,
                ⟨(some 17), none, .q (.mov (.t 3))⟩,
                ⟨(some 18), none, .q (.iad 6 (.t 16) (.t 17))⟩,
                ⟨(some 19), none, .q (.load true 6 (.t 18))⟩,
                ⟨(some 5), none, .a (.alloc 43 [.v (.int .i64 0), .v (.int .i64 0), .v (.int .i64 0), .s 54 3, .v (.string ({ data := #[] })), .v (.string ({ data := #[] }))])⟩,
                ⟨none, none, .a (.store 6 (.t 5) (.t 19))⟩])
              (.seq
               (.reg [⟨(some 20), none, .q (.fad 0 (.t 5))⟩,
                 ⟨(some 21), none, .q (.load false 1 (.t 20))⟩,
                 ⟨(some 22), none, .q (.fad 0 (.t 4))⟩,
                 ⟨(some 23), none, .q (.load false 1 (.t 22))⟩,
                 ⟨(some 24), none, .q (.bin false .neq (.t 21) (.t 23))⟩,
                 ⟨(some 25), none, .q (.mov (.t 24))⟩,
                 ⟨(some 26), (some (25, false)), .q (.fad 1 (.t 5))⟩,
                 ⟨(some 27), (some (25, false)), .q (.load false 1 (.t 26))⟩,
                 ⟨(some 28), (some (25, false)), .q (.bin false .neq (.t 27) (.c (.int .i64 0)))⟩,
                 ⟨(some 29), none, .q (.pick (.t 25) (.c (.bool true)) (.t 28))⟩,
                 ⟨(some 30), none, .q (.mov (.t 29))⟩,
                 ⟨(some 31), (some (30, false)), .q (.fad 2 (.t 5))⟩,
                 ⟨(some 32), (some (30, false)), .q (.load false 1 (.t 31))⟩,
                 ⟨(some 33), (some (30, false)), .q (.bin false .neq (.t 32) (.c (.int .i64 (-1))))⟩,
                 ⟨(some 34), none, .q (.pick (.t 30) (.c (.bool true)) (.t 33))⟩,
                 ⟨(some 35), none, .q (.mov (.t 34))⟩,
                 ⟨(some 36), (some (35, false)), .q (.fad 3 (.t 5))⟩,
                 ⟨(some 37), (some (35, false)), .q (.load false 1 (.t 36))⟩,
                 ⟨(some 38), (some (35, false)), .q (.len false (.t 37))⟩,
                 ⟨(some 39), (some (35, false)), .q (.bin false .gtr (.t 38) (.c (.int .i64 0)))⟩,
                 ⟨(some 40), none, .q (.pick (.t 35) (.c (.bool true)) (.t 39))⟩,
                 ⟨(some 41), none, .q (.mov (.t 40))⟩,
                 ⟨(some 42), (some (41, false)), .q (.fad 4 (.t 5))⟩,
                 ⟨(some 43), (some (41, false)), .q (.load false 1 (.t 42))⟩,
                 ⟨(some 44), (some (41, false)), .q (.bin false .neq (.t 43) (.c (.string ({ data := #[] }))))⟩,
                 ⟨(some 45), none, .q (.pick (.t 41) (.c (.bool true)) (.t 44))⟩,
                 ⟨(some 46), none, .q (.mov (.t 45))⟩,
                 ⟨(some 47), (some (46, false)), .q (.fad 5 (.t 5))⟩,
                 ⟨(some 48), (some (46, false)), .q (.load false 1 (.t 47))⟩,
                 ⟨(some 49), (some (46, false)), .q (.fad 5 (.t 4))⟩,
                 ⟨(some 50), (some (46, false)), .q (.load false 1 (.t 49))⟩,
                 ⟨(some 51), (some (46, false)), .q (.bin false .neq (.t 48) (.t 50))⟩,
                 ⟨(some 52), none, .q (.pick (.t 46) (.c (.bool true)) (.t 51))⟩])
               (.cond (.t 52)
                (.seq
                 (.reg [⟨(some 2), none, .a (.asg (.c (.bool false)))⟩])
                 .ret)
                .skip)))))
           (.reg [⟨(some 53), none, .q (.bin false .add (.t 11) (.c (.int .i64 1)))⟩,
             ⟨(some 11), none, .q (.mov (.t 53))⟩])))))))
     (.seq
      (.reg [⟨(some 2), none, .a (.asg (.c (.bool true)))⟩])
      .ret))))

set_option maxHeartbeats 1000000 in
set_option maxRecDepth 100000 in
theorem d37 (l : List Ty) (hl : (l.length : Int) ≤ 1048576) : Does Go.Proofs.Try.prog 37 [.fsl 6 (l.map Ty.z)] false (.v (.bool (baseOk l))) [.dead] := by
  refine does_intro (mc := m37) (N := 54) (rs := [2]) (fx := []) 1 rfl (by decide +kernel) ?_
  simp only [m37, EV, Nat.reduceEqDiff, Nat.reduceBEq, Nat.reduceLT, Nat.reduceLeDiff, Nat.reduceAdd, Nat.reduceSub, reduceIte]
  refine cK_cut (fun h => ?_) (fun h => ?_)
  · have h0 : ¬ 3 ≤ (l.length : Int) := by simpa using h
    have e : baseOk l = false := by unfold baseOk; rw [decide_eq_false h0, Bool.false_and]
    simp only [EV, Nat.reduceEqDiff, Nat.reduceBEq, Nat.reduceLT, Nat.reduceLeDiff, Nat.reduceAdd, Nat.reduceSub, reduceIte]
    simp only [e, EV, Nat.reduceEqDiff, Nat.reduceBEq, Nat.reduceLT, Nat.reduceLeDiff, Nat.reduceAdd, Nat.reduceSub, reduceIte, evRE, retVC, cellV', evR, nfz, nfzs, nfzss, List.contains_nil, List.contains_cons, Bool.or_false, or_true]
  have h3 : 3 ≤ (l.length : Int) := by simpa using h
  have hb : baseOk l = eqL sameTy (l.take 3) baseTs := by unfold baseOk; rw [decide_eq_true h3, Bool.true_and]
  have ht3 : (l.take 3).length = 3 := by simp; omega
  clear h
  simp only [EV, Nat.reduceEqDiff, Nat.reduceBEq, Nat.reduceLT, Nat.reduceLeDiff, Nat.reduceAdd, Nat.reduceSub, reduceIte]
  refine callK_i Fz.d58 ?_
  have h3' : ((3 : Nat) : Int) = 3 := rfl
  simp only [base_len, h3', EV, Nat.reduceEqDiff, Nat.reduceBEq, Nat.reduceLT, Nat.reduceLeDiff, Nat.reduceAdd, Nat.reduceSub, reduceIte]
  refine awp_loop (fun i : Nat => i ≤ 3 ∧ eqTo sameTy (l.take 3) baseTs i) (fun i => stl [(0, .fsl 6 (l.map Ty.z)), (9, .usl 43 6 (baseTs.map Ty.z)), (10, .v (.int .i64 3)), (11, .v (.int .i64 (i : Int)))]) (fun i => 3 - i) 0 ⟨Nat.zero_le _, fun j _ _ hj => absurd hj (by omega)⟩ ?_ ?_
  · simp only [EV, Nat.reduceEqDiff, Nat.reduceBEq, Nat.reduceLT, Nat.reduceLeDiff, Nat.reduceAdd, Nat.reduceSub, reduceIte]
    rfl
  · rintro i ⟨hi, hok⟩
    simp only [EV, Nat.reduceEqDiff, Nat.reduceBEq, Nat.reduceLT, Nat.reduceLeDiff, Nat.reduceAdd, Nat.reduceSub, reduceIte]
    refine cK_cut (fun h => ?_) (fun h => ?_)
    · have h1 : i < 3 := by have : (i : Int) < 3 := by simpa using h
                            omega
      have hn : i < baseTs.length := by rw [base_len]; exact h1
      have hl' : i < l.length := by omega
      have h2 : (i : Int) < 3 := by omega
      have h4 : (i : Int) < (l.length : Int) := by omega
      have hto : (l.take 3)[i]'(by omega) = l[i] := by rw [List.getElem_take]
      have hs := sameTy_at l[i] hn
      have no : sameTy l[i] baseTs[i] = false → baseOk l = false := by
        intro e; rw [hb]; exact eqL_no (by omega) hn (by rw [hto]; exact e)
      clear h
      simp only [bne, TyE, nth_map hl', nth_map hn, h2, h1, h4, base_len, h3', Ty.z, EV, Nat.reduceEqDiff, Nat.reduceBEq, Nat.reduceLT, Nat.reduceLeDiff, Nat.reduceAdd, Nat.reduceSub, reduceIte]
      repeat' (first
    | (refine gK_cut (fun h => ?_) (fun h => ?_) <;> simp only [h, bne, EV, Nat.reduceEqDiff, Nat.reduceBEq, Nat.reduceLT, Nat.reduceLeDiff, Nat.reduceAdd, Nat.reduceSub, reduceIte])
    | (refine cK_cut (fun h => ?_) (fun h => ?_) <;> simp only [h, bne, EV, Nat.reduceEqDiff, Nat.reduceBEq, Nat.reduceLT, Nat.reduceLeDiff, Nat.reduceAdd, Nat.reduceSub, reduceIte]))
      all_goals simp only [Bool.not_eq_true', Bool.not_eq_false'] at *
      all_goals first
        | (have e : baseOk l = false := no (by rw [hs]; simp only [*, Bool.not_true, Bool.and_false, Bool.false_and])
           simp only [e, Ty.nfz, EV, Nat.reduceEqDiff, Nat.reduceBEq, Nat.reduceLT, Nat.reduceLeDiff, Nat.reduceAdd, Nat.reduceSub, reduceIte, evRE, retVC, cellV', evR, nfz, nfzs, nfzss, List.contains_nil, List.contains_cons, Bool.or_false, or_true]
           done)
        | (have e : sameTy l[i] baseTs[i] = true := by rw [hs]; simp only [*, Bool.not_false, Bool.and_true]
           rw [w64 _ (by omega)]
           exact ⟨i + 1, ⟨h1, eqTo_succ (h1 := by omega) (h2 := hn) hok (by rw [hto]; exact e)⟩, by omega, rfl⟩)
    · have h1 : i = 3 := by have : ¬ (i : Int) < 3 := by simpa using h
                            omega
      subst h1
      have e : baseOk l = true := by rw [hb]; exact eqL_yes (by rw [ht3, base_len]) (by rw [ht3]; exact hok)
      simp only [EV, Nat.reduceEqDiff, Nat.reduceBEq, Nat.reduceLT, Nat.reduceLeDiff, Nat.reduceAdd, Nat.reduceSub, reduceIte]
      simp only [e, EV, Nat.reduceEqDiff, Nat.reduceBEq, Nat.reduceLT, Nat.reduceLeDiff, Nat.reduceAdd, Nat.reduceSub, reduceIte, evRE, retVC, cellV', evR, nfz, nfzs, nfzss, List.contains_nil, List.contains_cons, Bool.or_false, or_true]

end Go.AM
namespace Go.AM
set_option linter.unusedVariables false
set_option linter.unusedSimpArgs false
theorem tyNm_comm (x o : Ty) : tyNm x o = ((x.name.toList == o.name.toList) && (x.owner.toList == o.owner.toList)) := by
  unfold tyNm
  rw [Bool.beq_comm, Bool.beq_comm (a := o.owner.toList)]

theorem tysOk_base' {l : List Ty} (h : baseOk l = false) : tysOk l = false := by
  unfold tysOk
  unfold baseOk at h
  rcases e : decide (3 ≤ (l.length : Int)) with _ | _
  · simp only [Bool.false_and]
  · rw [e, Bool.true_and] at h
    simp only [h, Bool.false_and, Bool.and_false]

theorem tysOk_long {l : List Ty} (h : 24 < (l.length : Int)) : tysOk l = false := by
  unfold tysOk
  have : decide ((l.length : Int) ≤ 24) = false := decide_eq_false (by omega)
  simp only [this, Bool.false_and, Bool.and_false]

/-- loop.example/g00837/spec.l3Nearly -/
def m25 : MC :=
  (.seq
   (.reg [⟨(some 2), none, .a (.asg (.c (.bool false)))⟩])
   (.seq
    (.seq
     (.reg [⟨(some 7), none, .q (.mov (.t 0))⟩,
       ⟨(some 8), none, .a (.call (.fn 37) false [.lend (.t 7)])⟩,
       ⟨(some 9), none, .q (.un .not (.t 8))⟩,
       ⟨(some 10), none, .q (.mov (.t 9))⟩,
       ⟨(some 11), (some (10, false)), .q (.mov (.t 0))⟩,
       ⟨(some 12), (some (10, false)), .q (.len false (.t 11))⟩,
       ⟨(some 13), (some (10, false)), .q (.bin false .gtr (.t 12) (.c (.int .i64 24)))⟩,
       ⟨(some 14), none, .q (.pick (.t 10) (.c (.bool true)) (.t 13))⟩])
     (.cond (.t 14)
      (.seq
       (.reg [⟨(some 2), none, .a (.asg (.c (.bool false)))⟩])
       .ret)
      .skip))
    (.seq
     (.seq
      (.reg [⟨(some 15), none, .q (.mov (.t 0))⟩,
        ⟨(some 16), none, .q (.slc false 6 (.t 15) (some (.c (.int .i64 3))) none)⟩,
        ⟨(some 17), none, .q (.len false (.t 16))⟩,
        ⟨(some 18), none, .q (.mov (.c (.int .i64 0)))⟩])
      (.block 0
       (.loop [0, 15, 16, 17, 18]
        (.seq
         (.reg [⟨(some 19), none, .q (.bin false .lss (.t 18) (.t 17))⟩])
         (.seq
          (.cond (.t 19)
           .skip
           (.exit 0))
          (.seq
           (.block 1
            (.seq
             (.reg [⟨(some 20), none, .q (.mov (.t 18))⟩,
               ⟨(some 21), none, .q (.iad 6 (.t 16) (.t 18))⟩,
               ⟨(some 22), none, .q (.load true 6 (.t 21))⟩,
               ⟨(some 4), none, .a (.alloc 43 [.v (.int .i64 0), .v (.int .i64 0), .v (.int .i64 0), .s 54 3, .v (.string ({ data := #[] })), .v (.string ({ data := #[] }))])⟩,
               ⟨(some 3), none, .a (.asg (.t 20))⟩,
               ⟨none, none, .a (.store 6 (.t 4) (.t 22))⟩])
             (.seq
              (.seq
               (.reg [⟨(some 23), none, .q (.mov (.t 0))⟩,
                 ⟨(some 24), none, .q (.load true 6 (.t 4))⟩,
                 ⟨(some 25), none, .a (.call (.fn 38) false [.lend (.t 23), .lend (.t 24)])⟩,
                 ⟨(some 26), none, .q (.un .not (.t 25))⟩])
               (.cond (.t 26)
                (.seq
                 (.reg [⟨(some 2), none, .a (.asg (.c (.bool false)))⟩])
                 .ret)
                .skip))
              (.seq
               (.reg [⟨(some 27), none, .q (.mov (.t 0))⟩,
                 ⟨(some 28), none, .q (.mov (.t 3))⟩,
                 ⟨(some 29), none, .q (.bin false .add (.c (.int .i64 3)) (.t 28))⟩,
                 ⟨(some 30), none, .q (.slc false 6 (.t 27) (some (.c (.int .i64 3))) (some (.t 29)))⟩,
                 ⟨(some 31), none, .q (.len false (.t 30))⟩,
                 ⟨(some 32), none, .q (.mov (.c (.int .i64 0)))⟩])
               (.block 2
                (.loop [0, 4, 15, 16, 17, 18, 27, 29, 30, 31, 32]
                 (.seq
                  (.reg [⟨(some 33), none, .q (.bin false .lss (.t 32) (.t 31))⟩])
                  (.seq
                   (.cond (.t 33)
                    .skip
                    (.exit 2))
                   (.seq
                    (.block 3
                     (.seq
                      (.reg [⟨(some 34), none, .q (.iad 6 (.t 30) (.t 32))⟩,
                        ⟨(some 35), none, .q (.load true 6 (.t 34))⟩,
                        ⟨(some 6), none, .a (.alloc 43 [.v (.int .i64 0), .v (.int .i64 0), .v (.int .i64 0), .s 54 3, .v (.string ({ data := #[] })), .v (.string ({ data := #[] }))])⟩,
                        ⟨none, none, .a (.store 6 (.t 6) (.t 35))⟩])
                      (.seq
                       (.reg [⟨(some 36), none, .q (.fad 5 (.t 4))⟩,
                         ⟨(some 37), none, .q (.load false 1 (.t 36))⟩,
                         ⟨(some 38), none, .q (.bin false .neq (.t 37) (.c (.string ({ data := #[] }))))⟩,
                         ⟨(some 39), none, .q (.mov (.t 38))⟩,
                         ⟨(some 40), (some (39, true)), .q (.fad 5 (.t 4))⟩,
                         ⟨(some 41), (some (39, true)), .q (.load false 1 (.t 40))⟩,
                         ⟨(some 42), (some (39, true)), .q (.fad 5 (.t 6))⟩,
                         ⟨(some 43), (some (39, true)), .q (.load false 1 (.t 42))⟩,
                         ⟨(some 44), (some (39, true)), .q (.bin false .eql (.t 41) (.t 43))⟩,
                         ⟨(some 45), none, .q (.pick (.t 39) (.t 44) (.c (.bool false)))⟩,
                         ⟨(some 46), none, .q (.mov (.t 45))⟩,
                         ⟨(some 47), (some (46, true)), .q (.fad 4 (.t 4))⟩,
                         ⟨(some 48), (some (46, true)), .q (.load false 1 (.t 47))⟩,
                         ⟨(some 49), (some (46, true)), .q (.fad 4 (.t 6))⟩,
                         ⟨(some 50), (some (46, true)), .q (.load false 1 (.t 49))⟩,
                         ⟨(some 51), (some (46, true)), .q (.bin false .eql (.t 48) (.t 50))⟩,
                         ⟨(some 52), none, .q (.pick (.t 46) (.t 51) (.c (.bool false)))⟩])
                       (.cond (.t 52)
                        (.seq
                         (.reg [⟨(some 2), none, .a (.asg (.c (.bool false)))⟩])
                         .ret)
                        .skip))))
                    (.reg [⟨(some 53), none, .q (.bin false .add (.t 32) (.c (.int .i64 1)))⟩,
                      ⟨(some 32), none, .q (.mov (.t 53))⟩]))))))))))
           (.reg [⟨(some 54), none, .q (.bin false .add (.t 18) (.c (.int .i64 1)))⟩,
             ⟨(some 18), none, .q (.mov (.t 54))⟩])))))))
     (.seq
      (.reg [⟨(some 2), none, .a (.asg (.c (.bool true)))⟩])
      .ret))))

set_option maxHeartbeats 1000000 in
set_option maxRecDepth 100000 in
theorem d25 (l : List Ty) (hl : (l.length : Int) ≤ 1048576) (hs : ∀ s ∈ l, s.sm) : Does Go.Proofs.Try.prog 25 [.fsl 6 (l.map Ty.z)] false (.v (.bool (tysOk l))) [.dead] := by
  refine does_intro (mc := m25) (N := 55) (rs := [2]) (fx := []) 1 rfl (by decide +kernel) ?_
  simp only [m25, EV, Nat.reduceEqDiff, Nat.reduceBEq, Nat.reduceLT, Nat.reduceLeDiff, Nat.reduceAdd, Nat.reduceSub, reduceIte]
  refine callK_i (d37 l hl) ?_
  simp only [EV, Nat.reduceEqDiff, Nat.reduceBEq, Nat.reduceLT, Nat.reduceLeDiff, Nat.reduceAdd, Nat.reduceSub, reduceIte]
  rcases hb : baseOk l with _ | _
  · have e : tysOk l = false := tysOk_base' hb
    simp only [EV, Nat.reduceEqDiff, Nat.reduceBEq, Nat.reduceLT, Nat.reduceLeDiff, Nat.reduceAdd, Nat.reduceSub, reduceIte]
    simp only [e, EV, Nat.reduceEqDiff, Nat.reduceBEq, Nat.reduceLT, Nat.reduceLeDiff, Nat.reduceAdd, Nat.reduceSub, reduceIte, evRE, retVC, cellV', evR, nfz, nfzs, nfzss, List.contains_nil, List.contains_cons, Bool.or_false, or_true]
  simp only [EV, Nat.reduceEqDiff, Nat.reduceBEq, Nat.reduceLT, Nat.reduceLeDiff, Nat.reduceAdd, Nat.reduceSub, reduceIte]
  refine cK_cut (fun h => ?_) (fun h => ?_)
  · have e : tysOk l = false := tysOk_long (by simpa using h)
    simp only [EV, Nat.reduceEqDiff, Nat.reduceBEq, Nat.reduceLT, Nat.reduceLeDiff, Nat.reduceAdd, Nat.reduceSub, reduceIte]
    simp only [e, EV, Nat.reduceEqDiff, Nat.reduceBEq, Nat.reduceLT, Nat.reduceLeDiff, Nat.reduceAdd, Nat.reduceSub, reduceIte, evRE, retVC, cellV', evR, nfz, nfzs, nfzss, List.contains_nil, List.contains_cons, Bool.or_false, or_true]
  have h24 : (l.length : Int) ≤ 24 := by have : ¬ 24 < (l.length : Int) := by simpa using h
                                         omega
  have hbo := hb
  simp only [baseOk, Bool.and_eq_true, decide_eq_true_eq] at hbo
  obtain ⟨hl3, e2⟩ := hbo
  have e1 : (decide (3 ≤ (l.length : Int)) && decide ((l.length : Int) ≤ 24)) = true := by rw [decide_eq_true hl3, decide_eq_true h24]; rfl
  clear h
  have h3 : ((3 : Nat) : Int) = 3 := rfl
  have t3 : (3 : Int).toNat = 3 := rfl
  simp only [h3, EV, Nat.reduceEqDiff, Nat.reduceBEq, Nat.reduceLT, Nat.reduceLeDiff, Nat.reduceAdd, Nat.reduceSub, reduceIte]
  refine ⟨by omega, hl3, by omega, ?_⟩
  simp only [← List.map_drop, ← List.map_take, t3]
  have hm : ∃ m, l.drop 3 = m := ⟨_, rfl⟩
  obtain ⟨m, hm⟩ := hm
  have hml : (m.length : Int) = (l.length : Int) - 3 := by rw [← hm]; simp; omega
  have hsub : ∀ x ∈ m, x ∈ l := by rw [← hm]; exact fun x hx => List.mem_of_mem_drop hx
  have p9 : ∀ i (h : i < m.length), tyAt l m i h = false → tysOk l = false := by
    subst hm; exact fun i h e => tysOk_no h e
  refine awp_loop (fun i : Nat => i ≤ m.length ∧ tyTo l m i) (fun i => stl [(0, .fsl 6 (l.map Ty.z)), (15, .fsl 6 (l.map Ty.z)), (16, .fsl 6 (m.map Ty.z)), (17, .v (.int .i64 (m.length : Int))), (18, .v (.int .i64 (i : Int)))]) (fun i => m.length - i) 0 ⟨Nat.zero_le _, fun j hj h => absurd h (by omega)⟩ ?_ ?_
  · have htk : List.take (l.length - 3) m = m := List.take_of_length_le (by omega)
    simp only [hm, htk, EV, Nat.reduceEqDiff, Nat.reduceBEq, Nat.reduceLT, Nat.reduceLeDiff, Nat.reduceAdd, Nat.reduceSub, reduceIte]
    rfl
  · rintro i ⟨hi, hok⟩
    simp only [EV, Nat.reduceEqDiff, Nat.reduceBEq, Nat.reduceLT, Nat.reduceLeDiff, Nat.reduceAdd, Nat.reduceSub, reduceIte]
    refine cK_cut (fun h => ?_) (fun h => ?_)
    · have h1 : i < m.length := by simpa using h
      have h2 : (i : Int) < (m.length : Int) := by omega
      have hso : m[i].sm := hs m[i] (hsub _ (List.getElem_mem h1))
      clear h
      have hw : IntKind.i64.wrap (3 + (i : Int)) = ((3 + i : Nat) : Int) := by rw [w64 _ (by omega)]; omega
      have hdt : List.take (3 + i - 3) (List.drop 3 (l.map Ty.z)) = (m.take i).map Ty.z := by
        rw [← hm, Nat.add_sub_cancel_left, ← List.map_drop, ← List.map_take]
      have ht : (m.take i).length = i := by simp; omega
      have hcl : Ty.z m[i] = [.v (.int .i64 m[i].kind), .v (.int .i64 m[i].long), .v (.int .i64 m[i].base), .fsl 3 (m[i].fields.map Fd.z), .v (.string m[i].owner), .v (.string m[i].name)] := rfl
      have d7 := d38 l m[i] hl hso
      rw [hcl] at d7
      have en : (m[i].name.toList == (⟨#[]⟩ : ByteArray).toList) = nil' m[i].name := rfl
      simp only [TyE, nth_map h1, h2, h3, Ty.z, EV, Nat.reduceEqDiff, Nat.reduceBEq, Nat.reduceLT, Nat.reduceLeDiff, Nat.reduceAdd, Nat.reduceSub, reduceIte]
      refine callK_i d7 ?_
      simp only [EV, Nat.reduceEqDiff, Nat.reduceBEq, Nat.reduceLT, Nat.reduceLeDiff, Nat.reduceAdd, Nat.reduceSub, reduceIte]
      rcases e5 : tyOk l m[i] with _ | _
      · have e : tysOk l = false := p9 i h1 (by simp only [tyAt, e5, Bool.and_false])
        simp only [EV, Nat.reduceEqDiff, Nat.reduceBEq, Nat.reduceLT, Nat.reduceLeDiff, Nat.reduceAdd, Nat.reduceSub, reduceIte]
        simp only [e, EV, Nat.reduceEqDiff, Nat.reduceBEq, Nat.reduceLT, Nat.reduceLeDiff, Nat.reduceAdd, Nat.reduceSub, reduceIte, evRE, retVC, cellV', evR, nfz, nfzs, nfzss, List.contains_nil, List.contains_cons, Bool.or_false, or_true]
      simp only [h3, hw, t3, EV, Nat.reduceEqDiff, Nat.reduceBEq, Nat.reduceLT, Nat.reduceLeDiff, Nat.reduceAdd, Nat.reduceSub, reduceIte]
      refine ⟨by omega, by omega, by omega, ?_⟩
      rw [hdt]
      refine awp_loop (fun k : Nat => k ≤ i ∧ (nil' m[i].name = true ∨ ((m.take i).take k).any (tyNm m[i]) = false)) (fun k => stl [(0, .fsl 6 (l.map Ty.z)), (4, .box 43 m[i].z), (15, .fsl 6 (l.map Ty.z)), (16, .fsl 6 (m.map Ty.z)), (17, .v (.int .i64 (m.length : Int))), (18, .v (.int .i64 (i : Int))), (27, .fsl 6 (l.map Ty.z)), (29, .v (.int .i64 ((3 + i : Nat) : Int))), (30, .fsl 6 ((m.take i).map Ty.z)), (31, .v (.int .i64 (i : Int))), (32, .v (.int .i64 (k : Int)))]) (fun k => i - k) 0 ⟨Nat.zero_le _, Or.inr (by simp)⟩ ?_ ?_
      · simp only [Ty.z, EV, Nat.reduceEqDiff, Nat.reduceBEq, Nat.reduceLT, Nat.reduceLeDiff, Nat.reduceAdd, Nat.reduceSub, reduceIte]
        rw [ht]
        rfl
      · rintro k ⟨hk, hno⟩
        simp only [Ty.z, EV, Nat.reduceEqDiff, Nat.reduceBEq, Nat.reduceLT, Nat.reduceLeDiff, Nat.reduceAdd, Nat.reduceSub, reduceIte]
        refine cK_cut (fun h => ?_) (fun h => ?_)
        · have k3 : k < i := by have : (k : Int) < i := by simpa using h
                                omega
          have k1 : k < (m.take i).length := by rw [ht]; exact k3
          have k2 : (k : Int) < i := by omega
          clear h
          have hnx : tyNm m[i] (m.take i)[k] = false → ∃ a, (a ≤ i ∧ (nil' m[i].name = true ∨ ((m.take i).take a).any (tyNm m[i]) = false)) ∧ i - a < i - k ∧ a = k + 1 := by
            intro e
            refine ⟨k + 1, ⟨by omega, ?_⟩, by omega, rfl⟩
            rcases hno with hno | hno
            · exact .inl hno
            · exact .inr (any_take k1 hno e)
          simp only [TyE, nth_map k1, k2, k3, ht, Ty.z, EV, Nat.reduceEqDiff, Nat.reduceBEq, Nat.reduceLT, Nat.reduceLeDiff, Nat.reduceAdd, Nat.reduceSub, reduceIte]
          rw [en]
          have hcm := tyNm_comm m[i] (m.take i)[k]
          rcases e3 : nil' m[i].name with _ | _
          · simp only [Bool.not_false, TyE, nth_map k1, k2, k3, ht, Ty.z, EV, Nat.reduceEqDiff, Nat.reduceBEq, Nat.reduceLT, Nat.reduceLeDiff, Nat.reduceAdd, Nat.reduceSub, reduceIte]
            repeat' (first
    | (refine gK_cut (fun h => ?_) (fun h => ?_) <;> simp only [h, EV, Nat.reduceEqDiff, Nat.reduceBEq, Nat.reduceLT, Nat.reduceLeDiff, Nat.reduceAdd, Nat.reduceSub, reduceIte])
    | (refine cK_cut (fun h => ?_) (fun h => ?_) <;> simp only [h, EV, Nat.reduceEqDiff, Nat.reduceBEq, Nat.reduceLT, Nat.reduceLeDiff, Nat.reduceAdd, Nat.reduceSub, reduceIte]))
            all_goals first
              | (have e4 : tyNm m[i] (m.take i)[k] = true := by rw [hcm]; simp only [*, Bool.and_self]
                 have e : tysOk l = false := p9 i h1 (by
                   have := any_at k1 e4
                   simp only [tyAt, e3, this, Bool.not_false, Bool.true_and, Bool.not_true, Bool.false_and])
                 simp only [e, EV, Nat.reduceEqDiff, Nat.reduceBEq, Nat.reduceLT, Nat.reduceLeDiff, Nat.reduceAdd, Nat.reduceSub, reduceIte, evRE, retVC, cellV', evR, nfz, nfzs, nfzss, List.contains_nil, List.contains_cons, Bool.or_false, or_true]
                 done)
              | (have e4 : tyNm m[i] (m.take i)[k] = false := by rw [hcm]; simp only [*, Bool.false_and, Bool.and_false]
                 obtain ⟨a, q1, q2, rfl⟩ := hnx e4
                 rw [w64 _ (by omega)]
                 exact ⟨k + 1, ⟨q1.1, by rcases q1.2 with q | q; exact absurd (e3.symm.trans q) Bool.false_ne_true; exact Or.inr q⟩, q2, rfl⟩)
          · simp only [Bool.not_true, EV, Nat.reduceEqDiff, Nat.reduceBEq, Nat.reduceLT, Nat.reduceLeDiff, Nat.reduceAdd, Nat.reduceSub, reduceIte]
            rw [w64 _ (by omega)]
            exact ⟨k + 1, ⟨by omega, Or.inl trivial⟩, by omega, rfl⟩
        · have k1 : k = i := by have : ¬ (k : Int) < i := by simpa using h
                                omega
          subst k1
          have hq : tyAt l m k h1 = true := by
            simp only [tyAt, e5, Bool.and_true]
            rcases hno with hno | hno
            · rw [hno]; rfl
            · rw [List.take_take, Nat.min_self] at hno
              rw [hno, Bool.and_false]; rfl
          simp only [EV, Nat.reduceEqDiff, Nat.reduceBEq, Nat.reduceLT, Nat.reduceLeDiff, Nat.reduceAdd, Nat.reduceSub, reduceIte]
          rw [w64 _ (by omega)]
          exact ⟨k + 1, ⟨h1, tyTo_succ h1 hok hq⟩, by omega, rfl⟩
    · have h1 : i = m.length := by have : ¬ (i : Int) < m.length := by simpa using h
                                   omega
      subst h1
      have e : tysOk l = true := tysOk_yes e1 e2 (by rw [hm]; exact hok)
      simp only [EV, Nat.reduceEqDiff, Nat.reduceBEq, Nat.reduceLT, Nat.reduceLeDiff, Nat.reduceAdd, Nat.reduceSub, reduceIte]
      simp only [e, EV, Nat.reduceEqDiff, Nat.reduceBEq, Nat.reduceLT, Nat.reduceLeDiff, Nat.reduceAdd, Nat.reduceSub, reduceIte, evRE, retVC, cellV', evR, nfz, nfzs, nfzss, List.contains_nil, List.contains_cons, Bool.or_false, or_true]

end Go.AM
namespace Go.AM
set_option linter.unusedVariables false
set_option linter.unusedSimpArgs false
def noRd (l : List Ty) (n : Nat) : Prop := ∀ j : Nat, j < n → roundAt l (j : Int) = false

theorem tabOk_yes {l : List Ty} (h : tysOk l = true) (h2 : noRd l l.length) : tabOk l = true := by
  simp only [tabOk, h, Bool.true_and, List.all_eq_true, List.mem_range]
  intro n hn
  rw [h2 n hn]; rfl

theorem tabOk_no {l : List Ty} {i : Nat} (h : i < l.length) (h2 : roundAt l (i : Int) = true) : tabOk l = false := by
  rcases e : tabOk l with _ | _
  · rfl
  · have := tabOk_round e (n := (i : Int)) (by omega) (by omega)
    rw [h2] at this; cases this

theorem tabOk_tno {l : List Ty} (h : tysOk l = false) : tabOk l = false := by simp only [tabOk, h, Bool.false_and]

/-- loop.example/g00837/impl.isTable -/
def m18 : MC :=
  (.seq
   (.reg [⟨(some 2), none, .a (.asg (.c (.bool false)))⟩])
   (.seq
    (.seq
     (.reg [⟨(some 4), none, .q (.mov (.t 0))⟩,
       ⟨(some 5), none, .a (.call (.fn 31) false [.lend (.t 4)])⟩,
       ⟨(some 6), none, .q (.un .not (.t 5))⟩])
     (.cond (.t 6)
      (.seq
       (.reg [⟨(some 2), none, .a (.asg (.c (.bool false)))⟩])
       .ret)
      .skip))
    (.seq
     (.seq
      (.reg [⟨(some 7), none, .q (.mov (.t 0))⟩,
        ⟨(some 8), none, .q (.len false (.t 7))⟩,
        ⟨(some 9), none, .q (.mov (.c (.int .i64 0)))⟩])
      (.block 0
       (.loop [0, 8, 9]
        (.seq
         (.reg [⟨(some 10), none, .q (.bin false .lss (.t 9) (.t 8))⟩])
         (.seq
          (.cond (.t 10)
           .skip
           (.exit 0))
          (.seq
           (.block 1
            (.seq
             (.reg [⟨(some 11), none, .q (.mov (.t 9))⟩,
               ⟨(some 3), none, .a (.asg (.t 11))⟩])
             (.seq
              (.reg [⟨(some 12), none, .q (.mov (.t 0))⟩,
                ⟨(some 13), none, .q (.mov (.t 3))⟩,
                ⟨(some 14), none, .a (.call (.fn 32) false [.lend (.t 12), .lend (.t 13)])⟩])
              (.cond (.t 14)
               (.seq
                (.reg [⟨(some 2), none, .a (.asg (.c (.bool false)))⟩])
                .ret)
               .skip))))
           (.reg [⟨(some 15), none, .q (.bin false .add (.t 9) (.c (.int .i64 1)))⟩,
             ⟨(some 9), none, .q (.mov (.t 15))⟩])))))))
     (.seq
      (.reg [⟨(some 2), none, .a (.asg (.c (.bool true)))⟩])
      .ret))))

set_option maxRecDepth 100000 in
theorem d18 (l : List Ty) (hl : (l.length : Int) ≤ 1048576) (hs : ∀ s ∈ l, s.sm) : Does Go.Proofs.Try.prog 18 [.fsl 6 (l.map Ty.z)] false (.v (.bool (tabOk l))) [.dead] := by
  refine does_intro (mc := m18) (N := 16) (rs := [2]) (fx := []) 1 rfl (by decide +kernel) ?_
  simp only [m18, EV, Nat.reduceEqDiff, Nat.reduceBEq, Nat.reduceLT, Nat.reduceLeDiff, Nat.reduceAdd, Nat.reduceSub, reduceIte]
  refine callK_i (d31 l hl hs) ?_
  simp only [EV, Nat.reduceEqDiff, Nat.reduceBEq, Nat.reduceLT, Nat.reduceLeDiff, Nat.reduceAdd, Nat.reduceSub, reduceIte]
  rcases ht : tysOk l with _ | _
  · have e : tabOk l = false := tabOk_tno ht
    simp only [Bool.not_false, EV, Nat.reduceEqDiff, Nat.reduceBEq, Nat.reduceLT, Nat.reduceLeDiff, Nat.reduceAdd, Nat.reduceSub, reduceIte]
    simp only [e, EV, Nat.reduceEqDiff, Nat.reduceBEq, Nat.reduceLT, Nat.reduceLeDiff, Nat.reduceAdd, Nat.reduceSub, reduceIte, evRE, retVC, cellV', evR, nfz, nfzs, nfzss, List.contains_nil, List.contains_cons, Bool.or_false, or_true]
  simp only [Bool.not_true, EV, Nat.reduceEqDiff, Nat.reduceBEq, Nat.reduceLT, Nat.reduceLeDiff, Nat.reduceAdd, Nat.reduceSub, reduceIte]
  refine awp_loop (fun i : Nat => i ≤ l.length ∧ noRd l i) (fun i => stl [(0, .fsl 6 (l.map Ty.z)), (8, .v (.int .i64 (l.length : Int))), (9, .v (.int .i64 (i : Int)))]) (fun i => l.length - i) 0 ⟨Nat.zero_le _, fun j h => absurd h (by omega)⟩ ?_ ?_
  · simp only [EV, Nat.reduceEqDiff, Nat.reduceBEq, Nat.reduceLT, Nat.reduceLeDiff, Nat.reduceAdd, Nat.reduceSub, reduceIte]
    rfl
  · rintro i ⟨hi, hno⟩
    simp only [EV, Nat.reduceEqDiff, Nat.reduceBEq, Nat.reduceLT, Nat.reduceLeDiff, Nat.reduceAdd, Nat.reduceSub, reduceIte]
    refine cK_cut (fun h => ?_) (fun h => ?_)
    · have h1 : i < l.length := by simpa using h
      simp only [EV, Nat.reduceEqDiff, Nat.reduceBEq, Nat.reduceLT, Nat.reduceLeDiff, Nat.reduceAdd, Nat.reduceSub, reduceIte]
      refine callK_i (d32 l (i : Int) hl hs ht (by omega) (by omega)) ?_
      simp only [EV, Nat.reduceEqDiff, Nat.reduceBEq, Nat.reduceLT, Nat.reduceLeDiff, Nat.reduceAdd, Nat.reduceSub, reduceIte]
      rcases e1 : roundAt l (i : Int) with _ | _
      · simp only [EV, Nat.reduceEqDiff, Nat.reduceBEq, Nat.reduceLT, Nat.reduceLeDiff, Nat.reduceAdd, Nat.reduceSub, reduceIte]
        rw [w64 _ (by omega)]
        refine ⟨i + 1, ⟨h1, fun j hj => ?_⟩, by omega, rfl⟩
        by_cases e : j = i
        · subst e; exact e1
        · exact hno j (by omega)
      · have e : tabOk l = false := tabOk_no h1 e1
        simp only [EV, Nat.reduceEqDiff, Nat.reduceBEq, Nat.reduceLT, Nat.reduceLeDiff, Nat.reduceAdd, Nat.reduceSub, reduceIte]
        simp only [e, EV, Nat.reduceEqDiff, Nat.reduceBEq, Nat.reduceLT, Nat.reduceLeDiff, Nat.reduceAdd, Nat.reduceSub, reduceIte, evRE, retVC, cellV', evR, nfz, nfzs, nfzss, List.contains_nil, List.contains_cons, Bool.or_false, or_true]
    · have h1 : i = l.length := by have : ¬ (i : Int) < l.length := by simpa using h
                                   omega
      subst h1
      have e : tabOk l = true := tabOk_yes ht hno
      simp only [EV, Nat.reduceEqDiff, Nat.reduceBEq, Nat.reduceLT, Nat.reduceLeDiff, Nat.reduceAdd, Nat.reduceSub, reduceIte]
      simp only [e, EV, Nat.reduceEqDiff, Nat.reduceBEq, Nat.reduceLT, Nat.reduceLeDiff, Nat.reduceAdd, Nat.reduceSub, reduceIte, evRE, retVC, cellV', evR, nfz, nfzs, nfzss, List.contains_nil, List.contains_cons, Bool.or_false, or_true]

/-- loop.example/g00837/spec.l3Good -/
def m14 : MC :=
  (.seq
   (.reg [⟨(some 2), none, .a (.asg (.c (.bool false)))⟩])
   (.seq
    (.seq
     (.reg [⟨(some 4), none, .q (.mov (.t 0))⟩,
       ⟨(some 5), none, .a (.call (.fn 25) false [.lend (.t 4)])⟩,
       ⟨(some 6), none, .q (.un .not (.t 5))⟩])
     (.cond (.t 6)
      (.seq
       (.reg [⟨(some 2), none, .a (.asg (.c (.bool false)))⟩])
       .ret)
      .skip))
    (.seq
     (.seq
      (.reg [⟨(some 7), none, .q (.mov (.t 0))⟩,
        ⟨(some 8), none, .q (.len false (.t 7))⟩,
        ⟨(some 9), none, .q (.mov (.c (.int .i64 0)))⟩])
      (.block 0
       (.loop [0, 8, 9]
        (.seq
         (.reg [⟨(some 10), none, .q (.bin false .lss (.t 9) (.t 8))⟩])
         (.seq
          (.cond (.t 10)
           .skip
           (.exit 0))
          (.seq
           (.block 1
            (.seq
             (.reg [⟨(some 11), none, .q (.mov (.t 9))⟩,
               ⟨(some 3), none, .a (.asg (.t 11))⟩])
             (.seq
              (.reg [⟨(some 12), none, .q (.mov (.t 0))⟩,
                ⟨(some 13), none, .q (.mov (.t 3))⟩,
                ⟨(some 14), none, .a (.call (.fn 26) false [.lend (.t 12), .lend (.t 13)])⟩])
              (.cond (.t 14)
               (.seq
                (.reg [⟨(some 2), none, .a (.asg (.c (.bool false)))⟩])
                .ret)
               .skip))))
           (.reg [⟨(some 15), none, .q (.bin false .add (.t 9) (.c (.int .i64 1)))⟩,
             ⟨(some 9), none, .q (.mov (.t 15))⟩])))))))
     (.seq
      (.reg [⟨(some 2), none, .a (.asg (.c (.bool true)))⟩])
      .ret))))

set_option maxRecDepth 100000 in
theorem d14 (l : List Ty) (hl : (l.length : Int) ≤ 1048576) (hs : ∀ s ∈ l, s.sm) : Does Go.Proofs.Try.prog 14 [.fsl 6 (l.map Ty.z)] false (.v (.bool (tabOk l))) [.dead] := by
  refine does_intro (mc := m14) (N := 16) (rs := [2]) (fx := []) 1 rfl (by decide +kernel) ?_
  simp only [m14, EV, Nat.reduceEqDiff, Nat.reduceBEq, Nat.reduceLT, Nat.reduceLeDiff, Nat.reduceAdd, Nat.reduceSub, reduceIte]
  refine callK_i (d25 l hl hs) ?_
  simp only [EV, Nat.reduceEqDiff, Nat.reduceBEq, Nat.reduceLT, Nat.reduceLeDiff, Nat.reduceAdd, Nat.reduceSub, reduceIte]
  rcases ht : tysOk l with _ | _
  · have e : tabOk l = false := tabOk_tno ht
    simp only [Bool.not_false, EV, Nat.reduceEqDiff, Nat.reduceBEq, Nat.reduceLT, Nat.reduceLeDiff, Nat.reduceAdd, Nat.reduceSub, reduceIte]
    simp only [e, EV, Nat.reduceEqDiff, Nat.reduceBEq, Nat.reduceLT, Nat.reduceLeDiff, Nat.reduceAdd, Nat.reduceSub, reduceIte, evRE, retVC, cellV', evR, nfz, nfzs, nfzss, List.contains_nil, List.contains_cons, Bool.or_false, or_true]
  simp only [Bool.not_true, EV, Nat.reduceEqDiff, Nat.reduceBEq, Nat.reduceLT, Nat.reduceLeDiff, Nat.reduceAdd, Nat.reduceSub, reduceIte]
  refine awp_loop (fun i : Nat => i ≤ l.length ∧ noRd l i) (fun i => stl [(0, .fsl 6 (l.map Ty.z)), (8, .v (.int .i64 (l.length : Int))), (9, .v (.int .i64 (i : Int)))]) (fun i => l.length - i) 0 ⟨Nat.zero_le _, fun j h => absurd h (by omega)⟩ ?_ ?_
  · simp only [EV, Nat.reduceEqDiff, Nat.reduceBEq, Nat.reduceLT, Nat.reduceLeDiff, Nat.reduceAdd, Nat.reduceSub, reduceIte]
    rfl
  · rintro i ⟨hi, hno⟩
    simp only [EV, Nat.reduceEqDiff, Nat.reduceBEq, Nat.reduceLT, Nat.reduceLeDiff, Nat.reduceAdd, Nat.reduceSub, reduceIte]
    refine cK_cut (fun h => ?_) (fun h => ?_)
    · have h1 : i < l.length := by simpa using h
      simp only [EV, Nat.reduceEqDiff, Nat.reduceBEq, Nat.reduceLT, Nat.reduceLeDiff, Nat.reduceAdd, Nat.reduceSub, reduceIte]
      refine callK_i (d26 l (i : Int) hl hs ht (by omega) (by omega)) ?_
      simp only [EV, Nat.reduceEqDiff, Nat.reduceBEq, Nat.reduceLT, Nat.reduceLeDiff, Nat.reduceAdd, Nat.reduceSub, reduceIte]
      rcases e1 : roundAt l (i : Int) with _ | _
      · simp only [EV, Nat.reduceEqDiff, Nat.reduceBEq, Nat.reduceLT, Nat.reduceLeDiff, Nat.reduceAdd, Nat.reduceSub, reduceIte]
        rw [w64 _ (by omega)]
        refine ⟨i + 1, ⟨h1, fun j hj => ?_⟩, by omega, rfl⟩
        by_cases e : j = i
        · subst e; exact e1
        · exact hno j (by omega)
      · have e : tabOk l = false := tabOk_no h1 e1
        simp only [EV, Nat.reduceEqDiff, Nat.reduceBEq, Nat.reduceLT, Nat.reduceLeDiff, Nat.reduceAdd, Nat.reduceSub, reduceIte]
        simp only [e, EV, Nat.reduceEqDiff, Nat.reduceBEq, Nat.reduceLT, Nat.reduceLeDiff, Nat.reduceAdd, Nat.reduceSub, reduceIte, evRE, retVC, cellV', evR, nfz, nfzs, nfzss, List.contains_nil, List.contains_cons, Bool.or_false, or_true]
    · have h1 : i = l.length := by have : ¬ (i : Int) < l.length := by simpa using h
                                   omega
      subst h1
      have e : tabOk l = true := tabOk_yes ht hno
      simp only [EV, Nat.reduceEqDiff, Nat.reduceBEq, Nat.reduceLT, Nat.reduceLeDiff, Nat.reduceAdd, Nat.reduceSub, reduceIte]
      simp only [e, EV, Nat.reduceEqDiff, Nat.reduceBEq, Nat.reduceLT, Nat.reduceLeDiff, Nat.reduceAdd, Nat.reduceSub, reduceIte, evRE, retVC, cellV', evR, nfz, nfzs, nfzss, List.contains_nil, List.contains_cons, Bool.or_false, or_true]

end Go.AM
namespace Go.AM
set_option linter.unusedVariables false
set_option linter.unusedSimpArgs false
theorem tabOk_len {l : List Ty} (h : tabOk l = true) : l.length ≤ 24 := (tysOk_len (tabOk_tys h)).2

end Go.AM
namespace Go.AM
set_option linter.unusedVariables false
set_option linter.unusedSimpArgs false
def capS (t : Ty) (s : Int) : Int := min 1000000001 (if (t.kind == 4) = true then s * t.long else s)

def sumZ (g : Int → Int) : List Int → Int
  | [] => 0
  | k :: ks => g k + sumZ g ks

def oneT (t : Ty) (g : Int → Int) : Int :=
  if (t.kind == 1) = true then 4 else if (t.kind == 2 || t.kind == 3) = true then 1 else if (t.kind == 6) = true then 8 else capS t (sumZ g (prt false t))

def szN (l : List Ty) : Nat → Int → Int
  | 0, _ => 0
  | f + 1, n => match l[n.toNat]? with
    | some t => oneT t (szN l f)
    | none => 0

def sz (l : List Ty) (n : Int) : Int := szN l (l.length + 1) n

/-- .. where some sizes are not known yet (below nought). -/
def getS (s : List Int) (k : Int) : Int := s[k.toNat]?.getD 0

end Go.AM
namespace Go.AM
set_option linter.unusedVariables false
set_option linter.unusedSimpArgs false
def head1 (t : Ty) : Int := mixL [t.kind, t.long, textN t.owner, textN t.name, (t.fields.length : Int)]

def fstL (l : List Ty) : List Int := l.map head1

def baseN (now : List Int) (t : Ty) : Int := if decide (0 ≤ t.base) = true then getS now t.base else 7

def fldN (now : List Int) (f : Fd) : List Int := [textN f.name, f.mark, getS now f.typ]

def fldsN (now : List Int) (fs : List Fd) : List Int := fs.flatMap (fldN now)

def prtN (fst now : List Int) (k : Nat) (t : Ty) : List Int := [getS fst (k : Int), baseN now t] ++ fldsN now t.fields

def rowN (fst now : List Int) (l : List Ty) : List Int := l.mapIdx fun k t => mixL (prtN fst now k t)

def rnd (l : List Ty) : Nat → List Int
  | 0 => fstL l
  | k + 1 => rowN (fstL l) (rnd l k) l

theorem fstL_len (l : List Ty) : (fstL l).length = l.length := by simp [fstL]

theorem rowN_len (fst now : List Int) (l : List Ty) : (rowN fst now l).length = l.length := by simp [rowN]

theorem rnd_len (l : List Ty) : ∀ k, (rnd l k).length = l.length
  | 0 => fstL_len l
  | k + 1 => rowN_len _ _ l

theorem fstL_take {l : List Ty} {i : Nat} (h : i < l.length) : (fstL l).take (i + 1) = (fstL l).take i ++ [head1 l[i]] := by
  have h1 : i < (fstL l).length := by rw [fstL_len]; exact h
  rw [List.take_succ_eq_append_getElem h1]; simp [fstL]

theorem rowN_take {fst now : List Int} {l : List Ty} {i : Nat} (h : i < l.length) : (rowN fst now l).take (i + 1) = (rowN fst now l).take i ++ [mixL (prtN fst now i l[i])] := by
  have h1 : i < (rowN fst now l).length := by rw [rowN_len]; exact h
  rw [List.take_succ_eq_append_getElem h1]; simp [rowN]

theorem fldsN_take {now : List Int} {fs : List Fd} {i : Nat} (h : i < fs.length) : fldsN now (fs.take (i + 1)) = fldsN now (fs.take i) ++ fldN now fs[i] := by
  unfold fldsN; rw [List.take_succ_eq_append_getElem h, List.flatMap_append, List.flatMap_singleton]

theorem fldsN_len (now : List Int) : ∀ fs : List Fd, (fldsN now fs).length = 3 * fs.length
  | [] => rfl
  | f :: fs => by
    have := fldsN_len now fs
    simp only [fldsN, List.flatMap_cons, List.length_append, List.length_cons] at this ⊢
    rw [this]; simp [fldN]; omega

theorem getS_nat {s : List Int} {k : Int} (h : k.toNat < s.length) : s[k.toNat] = getS s k := by simp [getS, h]

theorem tys_base {l : List Ty} (ht : tysOk l = true) {i : Nat} (h : i < l.length) (hb : 0 ≤ l[i].base) : l[i].base < (l.length : Int) := by
  rcases (tysOk_good ht h).base with h1 | h1
  · omega
  · exact (isNum_in.1 h1).2

theorem tys_fld {l : List Ty} (ht : tysOk l = true) {i : Nat} (h : i < l.length) {j : Nat} (hj : j < l[i].fields.length) : 0 ≤ l[i].fields[j].typ ∧ l[i].fields[j].typ < (l.length : Int) :=
  isNum_in.1 ((tysOk_good ht h).flds _ (List.getElem_mem hj))

/-- loop.example/g00837/spec.l8Rounds -/
def m16 : MC :=
  (.seq
   (.reg [⟨(some 4), none, .a (.asg (.nils 3 1))⟩])
   (.seq
    (.reg [⟨(some 5), none, .a (.asg (.nils 3 1))⟩])
    (.seq
     (.seq
      (.reg [⟨(some 15), none, .q (.mov (.t 0))⟩,
        ⟨(some 16), none, .q (.len false (.t 15))⟩,
        ⟨(some 17), none, .q (.mov (.c (.int .i64 0)))⟩])
      (.block 0
       (.loop [0, 1, 5, 15, 16, 17, 38]
        (.seq
         (.reg [⟨(some 18), none, .q (.bin false .lss (.t 17) (.t 16))⟩])
         (.seq
          (.cond (.t 18)
           .skip
           (.exit 0))
          (.seq
           (.block 1
            (.seq
             (.reg [⟨(some 19), none, .q (.iad 6 (.t 15) (.t 17))⟩,
               ⟨(some 20), none, .q (.load true 6 (.t 19))⟩,
               ⟨(some 7), none, .a (.alloc 43 [.v (.int .i64 0), .v (.int .i64 0), .v (.int .i64 0), .s 54 3, .v (.string ({ data := #[] })), .v (.string ({ data := #[] }))])⟩,
               ⟨none, none, .a (.store 6 (.t 7) (.t 20))⟩])
             (.mix [7] [0, 1, 5, 15, 16, 17, 38] [] [] [1, 2, 3, 4, 5, 6, 8, 9, 11, 12, 13] [0, 7, 10, 14, 15, 16, 17, 18]
               [⟨(some 22), none, .q (.fad 0 (.t 7))⟩,
                ⟨(some 23), none, .q (.load false 1 (.t 22))⟩,
                ⟨(some 24), none, .q (.fad 1 (.t 7))⟩,
                ⟨(some 25), none, .q (.load false 1 (.t 24))⟩,
                ⟨(some 26), none, .q (.fad 4 (.t 7))⟩,
                ⟨(some 27), none, .q (.load false 1 (.t 26))⟩,
                ⟨(some 29), none, .q (.fad 5 (.t 7))⟩,
                ⟨(some 30), none, .q (.load false 1 (.t 29))⟩,
                ⟨(some 32), none, .q (.fad 3 (.t 7))⟩,
                ⟨(some 33), none, .q (.load false 1 (.t 32))⟩,
                ⟨(some 34), none, .q (.len false (.t 33))⟩]
               [⟨(some 21), none, .q (.mov (.t 5))⟩,
                ⟨(some 28), none, .a (.call (.fn 28) false [.lend (.t 27)])⟩,
                ⟨(some 31), none, .a (.call (.fn 28) false [.lend (.t 30)])⟩,
                ⟨(some 35), none, .a (.bsl 3 1 [.t 23, .t 25, .t 28, .t 31, .t 34])⟩,
                ⟨(some 36), none, .a (.call (.fn 27) false [.lend (.t 35)])⟩,
                ⟨(some 37), none, .a (.bsl 3 1 [.t 36])⟩,
                ⟨(some 38), none, .a (.app true 3 1 8 (.t 21) (.t 37))⟩,
                ⟨(some 5), none, .a (.asg (.t 38))⟩])))
           (.reg [⟨(some 39), none, .q (.bin false .add (.t 17) (.c (.int .i64 1)))⟩,
             ⟨(some 17), none, .q (.mov (.t 39))⟩])))))))
     (.seq
      (.reg [⟨(some 40), none, .q (.mov (.t 5))⟩,
        ⟨(some 41), none, .a (.call (.fn 29) false [.lend (.t 40)])⟩,
        ⟨(some 8), none, .a (.asg (.t 41))⟩])
      (.seq
       (.block 2
        (.loop [0, 1, 5, 8, 9, 38, 41, 93, 95]
         (.seq
          (.seq
           (.reg [⟨(some 42), none, .q (.mov (.t 1))⟩,
             ⟨(some 43), none, .q (.bin false .gtr (.t 42) (.c (.int .i64 0)))⟩])
           (.cond (.t 43)
            .skip
            (.exit 2)))
          (.seq
           (.block 3
            (.seq
             (.reg [⟨(some 9), none, .a (.asg (.nils 3 1))⟩])
             (.seq
              (.seq
               (.reg [⟨(some 46), none, .q (.mov (.t 0))⟩,
                 ⟨(some 47), none, .q (.len false (.t 46))⟩,
                 ⟨(some 48), none, .q (.mov (.c (.int .i64 0)))⟩])
               (.block 4
                (.loop [0, 1, 5, 8, 9, 38, 41, 46, 47, 48, 93, 95]
                 (.seq
                  (.reg [⟨(some 49), none, .q (.bin false .lss (.t 48) (.t 47))⟩])
                  (.seq
                   (.cond (.t 49)
                    .skip
                    (.exit 4))
                   (.join [0, 1, 5, 8, 9, 38, 41, 46, 47, 48, 93, 95]
                    (.block 5
                     (.seq
                      (.reg [⟨(some 50), none, .q (.mov (.t 48))⟩,
                        ⟨(some 51), none, .q (.iad 6 (.t 46) (.t 48))⟩,
                        ⟨(some 52), none, .q (.load true 6 (.t 51))⟩,
                        ⟨(some 11), none, .a (.alloc 43 [.v (.int .i64 0), .v (.int .i64 0), .v (.int .i64 0), .s 54 3, .v (.string ({ data := #[] })), .v (.string ({ data := #[] }))])⟩,
                        ⟨(some 10), none, .a (.asg (.t 50))⟩,
                        ⟨none, none, .a (.store 6 (.t 11) (.t 52))⟩])
                      (.seq
                       (.reg [⟨(some 53), none, .q (.mov (.t 5))⟩,
                         ⟨(some 54), none, .q (.mov (.t 10))⟩,
                         ⟨(some 55), none, .q (.iad 1 (.t 53) (.t 54))⟩,
                         ⟨(some 56), none, .q (.load false 1 (.t 55))⟩,
                         ⟨(some 57), none, .a (.bsl 3 1 [.t 56, .c (.int .i64 7)])⟩,
                         ⟨(some 12), none, .a (.asg (.t 57))⟩])
                       (.join [0, 1, 5, 8, 9, 11, 12, 38, 41, 46, 47, 48, 57, 87, 93, 95]
                        (.seq
                         (.reg [⟨(some 58), none, .q (.fad 2 (.t 11))⟩,
                           ⟨(some 59), none, .q (.load false 1 (.t 58))⟩,
                           ⟨(some 60), none, .q (.bin false .geq (.t 59) (.c (.int .i64 0)))⟩])
                         (.cond (.t 60)
                          (.reg [⟨(some 61), none, .q (.mov (.t 12))⟩,
                            ⟨(some 62), none, .q (.mov (.t 8))⟩,
                            ⟨(some 63), none, .q (.fad 2 (.t 11))⟩,
                            ⟨(some 64), none, .q (.load false 1 (.t 63))⟩,
                            ⟨(some 65), none, .q (.iad 1 (.t 62) (.t 64))⟩,
                            ⟨(some 66), none, .q (.load false 1 (.t 65))⟩,
                            ⟨(some 67), none, .q (.iad 1 (.t 61) (.c (.int .i64 1)))⟩,
                            ⟨none, none, .a (.store 1 (.t 67) (.t 66))⟩])
                          .skip))
                        (.seq
                         (.seq
                          (.reg [⟨(some 68), none, .q (.fad 3 (.t 11))⟩,
                            ⟨(some 69), none, .q (.load false 1 (.t 68))⟩,
                            ⟨(some 70), none, .q (.len false (.t 69))⟩,
                            ⟨(some 71), none, .q (.mov (.c (.int .i64 0)))⟩])
                          (.block 6
                           (.loop [0, 1, 5, 8, 9, 11, 12, 38, 41, 46, 47, 48, 57, 68, 69, 70, 71, 87, 93, 95]
                            (.seq
                             (.reg [⟨(some 72), none, .q (.bin false .lss (.t 71) (.t 70))⟩])
                             (.seq
                              (.cond (.t 72)
                               .skip
                               (.exit 6))
                              (.seq
                               (.block 7
                                (.seq
                                 (.reg [⟨(some 73), none, .q (.iad 3 (.t 69) (.t 71))⟩,
                                   ⟨(some 74), none, .q (.load true 3 (.t 73))⟩,
                                   ⟨(some 14), none, .a (.alloc 54 [.v (.string ({ data := #[] })), .v (.int .i64 0), .v (.int .i64 0)])⟩,
                                   ⟨none, none, .a (.store 3 (.t 14) (.t 74))⟩])
                                 (.mixt [14] [0, 1, 5, 8, 9, 11, 12, 38, 41, 46, 47, 48, 57, 68, 69, 70, 71, 87, 93, 95] [] [] [1, 2, 4, 5, 7, 8]
                                   [⟨(some 76), none, .q (.fad 0 (.t 14))⟩,
                                    ⟨(some 77), none, .q (.load false 1 (.t 76))⟩,
                                    ⟨(some 79), none, .q (.fad 1 (.t 14))⟩,
                                    ⟨(some 80), none, .q (.load false 1 (.t 79))⟩,
                                    ⟨(some 82), none, .q (.fad 2 (.t 14))⟩,
                                    ⟨(some 83), none, .q (.load false 1 (.t 82))⟩]
                                   (.step 0 ⟨(some 75), none, .q (.mov (.t 12))⟩
                                   (.step 6 ⟨(some 81), none, .q (.mov (.t 8))⟩
                                    (.step 9 ⟨(some 84), none, .q (.iad 1 (.t 81) (.t 83))⟩
                                     (.alt (.step 3 ⟨(some 78), none, .a (.call (.fn 28) false [.lend (.t 77)])⟩
                                      (.step 10 ⟨(some 85), none, .q (.load false 1 (.t 84))⟩
                                       (.step 11 ⟨(some 86), none, .a (.bsl 3 1 [.t 78, .t 80, .t 85])⟩
                                        (.step 12 ⟨(some 87), none, .a (.app true 3 1 8 (.t 75) (.t 86))⟩
                                         (.step 13 ⟨(some 12), none, .a (.asg (.t 87))⟩
                                          .nil)))))
                                      (.step 10 ⟨(some 85), none, .q (.load false 1 (.t 84))⟩
                                      (.step 3 ⟨(some 78), none, .a (.call (.fn 28) false [.lend (.t 77)])⟩
                                       (.step 11 ⟨(some 86), none, .a (.bsl 3 1 [.t 78, .t 80, .t 85])⟩
                                        (.step 12 ⟨(some 87), none, .a (.app true 3 1 8 (.t 75) (.t 86))⟩
                                         (.step 13 ⟨(some 12), none, .a (.asg (.t 87))⟩
                                          .nil))))))))))))
                               (.reg [⟨(some 88), none, .q (.bin false .add (.t 71) (.c (.int .i64 1)))⟩,
                                 ⟨(some 71), none, .q (.mov (.t 88))⟩])))))))
                         (.reg [⟨(some 89), none, .q (.mov (.t 9))⟩,
                           ⟨(some 90), none, .q (.mov (.t 12))⟩,
                           ⟨(some 91), none, .a (.call (.fn 27) false [.lend (.t 90)])⟩,
                           ⟨(some 92), none, .a (.bsl 3 1 [.t 91])⟩,
                           ⟨(some 93), none, .a (.app true 3 1 8 (.t 89) (.t 92))⟩,
                           ⟨(some 9), none, .a (.asg (.t 93))⟩]))))))
                    (.reg [⟨(some 94), none, .q (.bin false .add (.t 48) (.c (.int .i64 1)))⟩,
                      ⟨(some 48), none, .q (.mov (.t 94))⟩])))))))
              (.reg [⟨(some 95), none, .q (.mov (.t 9))⟩,
                ⟨(some 8), none, .a (.asg (.t 95))⟩]))))
           (.reg [⟨(some 44), none, .q (.mov (.t 1))⟩,
             ⟨(some 45), none, .q (.bin false .sub (.t 44) (.c (.int .i64 1)))⟩,
             ⟨(some 1), none, .a (.asg (.t 45))⟩])))))
       (.seq
        (.reg [⟨(some 96), none, .q (.mov (.t 8))⟩,
          ⟨(some 4), none, .a (.asg (.t 96))⟩])
        .ret))))))

set_option maxHeartbeats 4000000 in
set_option maxRecDepth 100000 in
theorem d16 (l : List Ty) (r : Int) (h24 : l.length ≤ 24) (hs : ∀ s ∈ l, s.sm) (ht : tysOk l = true) (h0 : 0 ≤ r) (h1 : r ≤ 25) :
    Does Go.Proofs.Try.prog 16 [.fsl 6 (l.map Ty.z), .v (.int .i64 r)] false (.usl 3 1 ((rnd l r.toNat).map iv)) [.dead, .dead] := by
  have hfl := fstL_len l
  refine does_intro (mc := m16) (N := 97) (rs := [4]) (fx := []) 2 rfl (by decide +kernel) ?_
  simp only [m16, EV, Nat.reduceEqDiff, Nat.reduceBEq, Nat.reduceLT, Nat.reduceLeDiff, Nat.reduceAdd, Nat.reduceSub, reduceIte]
  refine awp_loop (fun i : Nat => i ≤ l.length) (fun i => stl [(0, .fsl 6 (l.map Ty.z)), (1, .v (.int .i64 r)), (5, .usl 3 1 (((fstL l).take i).map iv)), (15, .fsl 6 (l.map Ty.z)), (16, .v (.int .i64 (l.length : Int))), (17, .v (.int .i64 (i : Int))), (38, .dead)]) (fun i => l.length - i) 0 (Nat.zero_le _) ?_ ?_
  · simp only [List.take_zero, List.map_nil, EV, Nat.reduceEqDiff, Nat.reduceBEq, Nat.reduceLT, Nat.reduceLeDiff, Nat.reduceAdd, Nat.reduceSub, reduceIte]
    rfl
  intro i hi
  simp only [EV, Nat.reduceEqDiff, Nat.reduceBEq, Nat.reduceLT, Nat.reduceLeDiff, Nat.reduceAdd, Nat.reduceSub, reduceIte]
  refine cK_cut (fun h => ?_) (fun h => ?_)
  · have q1 : i < l.length := by simpa using h
    have q2 : (i : Int) < (l.length : Int) := by omega
    have hsm := hs _ (List.getElem_mem q1)
    have hsm' := hsm
    unfold Ty.sm at hsm'
    clear h
    simp only [q1, q2, nth_map q1, Ty.z, EV, Nat.reduceEqDiff, Nat.reduceBEq, Nat.reduceLT, Nat.reduceLeDiff, Nat.reduceAdd, Nat.reduceSub, reduceIte]
    refine callK_i (d28 l[i].owner hsm'.2.2.2.2.1) ?_
    simp only [EV, Nat.reduceEqDiff, Nat.reduceBEq, Nat.reduceLT, Nat.reduceLeDiff, Nat.reduceAdd, Nat.reduceSub, reduceIte]
    refine callK_i (d28 l[i].name hsm'.2.2.2.2.2) ?_
    simp only [EV, Nat.reduceEqDiff, Nat.reduceBEq, Nat.reduceLT, Nat.reduceLeDiff, Nat.reduceAdd, Nat.reduceSub, reduceIte]
    refine callK_i (d27 [l[i].kind, l[i].long, textN l[i].owner, textN l[i].name, (l[i].fields.length : Int)] (by simp)) ?_
    simp only [EV, Nat.reduceEqDiff, Nat.reduceBEq, Nat.reduceLT, Nat.reduceLeDiff, Nat.reduceAdd, Nat.reduceSub, reduceIte]
    refine ⟨by simp; omega, by simp; omega, ?_⟩
    rw [w64 _ (by omega)]
    exact ⟨i + 1, q1, by omega, by rw [fstL_take q1, List.map_append]; rfl⟩
  have q1 : i = l.length := by have : ¬ (i : Int) < l.length := by simpa using h
                               omega
  subst q1
  have e : (fstL l).take l.length = fstL l := by rw [List.take_of_length_le]; omega
  rw [e]
  clear h hi e
  simp only [iv_frz, EV, Nat.reduceEqDiff, Nat.reduceBEq, Nat.reduceLT, Nat.reduceLeDiff, Nat.reduceAdd, Nat.reduceSub, reduceIte]
  refine callK_i (d29 (fstL l) (by omega)) ?_
  simp only [EV, Nat.reduceEqDiff, Nat.reduceBEq, Nat.reduceLT, Nat.reduceLeDiff, Nat.reduceAdd, Nat.reduceSub, reduceIte]
  refine awp_loop (fun k : Nat => (k : Int) ≤ r) (fun k => stl [(0, .fsl 6 (l.map Ty.z)), (1, .v (.int .i64 (r - (k : Int)))), (5, .usl 3 1 ((fstL l).map iv)), (8, .usl 3 1 ((rnd l k).map iv)), (9, .dead), (38, .dead), (41, .dead), (93, .dead), (95, .dead)]) (fun k => r.toNat - k) 0 (by omega) ?_ ?_
  · simp only [rnd, Int.natCast_zero, Int.sub_zero, EV, Nat.reduceEqDiff, Nat.reduceBEq, Nat.reduceLT, Nat.reduceLeDiff, Nat.reduceAdd, Nat.reduceSub, reduceIte]
  intro k hk
  simp only [EV, Nat.reduceEqDiff, Nat.reduceBEq, Nat.reduceLT, Nat.reduceLeDiff, Nat.reduceAdd, Nat.reduceSub, reduceIte]
  refine cK_cut (fun h => ?_) (fun h => ?_)
  rotate_left
  · have q1 : r.toNat = k := by have : ¬ 0 < r - (k : Int) := by simpa using h
                                omega
    simp only [EV, Nat.reduceEqDiff, Nat.reduceBEq, Nat.reduceLT, Nat.reduceLeDiff, Nat.reduceAdd, Nat.reduceSub, reduceIte]
    simp only [q1, iv_nfz, EV, Nat.reduceEqDiff, Nat.reduceBEq, Nat.reduceLT, Nat.reduceLeDiff, Nat.reduceAdd, Nat.reduceSub, reduceIte, evRE, retVC, cellV', evR, nfz, nfzs, nfzss, List.contains_nil, List.contains_cons, Bool.or_false, or_true]
  have q1 : (k : Int) < r := by have : 0 < r - (k : Int) := by simpa using h
                                omega
  clear h
  have hnl := rnd_len l k
  simp only [EV, Nat.reduceEqDiff, Nat.reduceBEq, Nat.reduceLT, Nat.reduceLeDiff, Nat.reduceAdd, Nat.reduceSub, reduceIte]
  refine awp_loop (fun i : Nat => i ≤ l.length) (fun i => stl [(0, .fsl 6 (l.map Ty.z)), (1, .v (.int .i64 (r - (k : Int)))), (5, .usl 3 1 ((fstL l).map iv)), (8, .usl 3 1 ((rnd l k).map iv)), (9, .usl 3 1 (((rowN (fstL l) (rnd l k) l).take i).map iv)), (38, .dead), (41, .dead), (46, .fsl 6 (l.map Ty.z)), (47, .v (.int .i64 (l.length : Int))), (48, .v (.int .i64 (i : Int))), (93, .dead), (95, .dead)]) (fun i => l.length - i) 0 (Nat.zero_le _) ?_ ?_
  · simp only [List.take_zero, List.map_nil, EV, Nat.reduceEqDiff, Nat.reduceBEq, Nat.reduceLT, Nat.reduceLeDiff, Nat.reduceAdd, Nat.reduceSub, reduceIte]
    rfl
  intro i hi
  simp only [EV, Nat.reduceEqDiff, Nat.reduceBEq, Nat.reduceLT, Nat.reduceLeDiff, Nat.reduceAdd, Nat.reduceSub, reduceIte]
  refine cK_cut (fun h => ?_) (fun h => ?_)
  rotate_left
  · have p1 : i = l.length := by have : ¬ (i : Int) < l.length := by simpa using h
                                 omega
    subst p1
    have e : (rowN (fstL l) (rnd l k) l).take l.length = rnd l (k + 1) := by rw [List.take_of_length_le]; rfl; rw [rowN_len]; exact Nat.le_refl _
    rw [e]
    simp only [EV, Nat.reduceEqDiff, Nat.reduceBEq, Nat.reduceLT, Nat.reduceLeDiff, Nat.reduceAdd, Nat.reduceSub, reduceIte]
    rw [w64 _ (by omega)]
    have e2 : r - (k : Int) - 1 = r - ((k + 1 : Nat) : Int) := by omega
    rw [e2]
    exact ⟨k + 1, by omega, by omega, rfl⟩
  have p1 : i < l.length := by simpa using h
  have p2 : (i : Int) < (l.length : Int) := by omega
  have p3 : i < (fstL l).length := by omega
  have p4 : (i : Int) < ((fstL l).length : Int) := by omega
  have hsm := hs _ (List.getElem_mem p1)
  have hsm' := hsm
  unfold Ty.sm at hsm'
  clear h
  have e0 : (fstL l)[i] = getS (fstL l) (i : Int) := by simp [getS, p3]
  refine awp_join (fun _ : Unit => True) (fun _ => stl [(0, .fsl 6 (l.map Ty.z)), (1, .v (.int .i64 (r - (k : Int)))), (5, .usl 3 1 ((fstL l).map iv)), (8, .usl 3 1 ((rnd l k).map iv)), (9, .usl 3 1 (((rowN (fstL l) (rnd l k) l).take (i + 1)).map iv)), (38, .dead), (41, .dead), (46, .fsl 6 (l.map Ty.z)), (47, .v (.int .i64 (l.length : Int))), (48, .v (.int .i64 (i : Int))), (93, .dead), (95, .dead)]) ?_ ?_
  · simp only [p1, p2, p3, p4, nth_map p1, nth_map p3, iv, e0, Ty.z, decide_true, EV, Nat.reduceEqDiff, Nat.reduceBEq, Nat.reduceLT, Nat.reduceLeDiff, Nat.reduceAdd, Nat.reduceSub, reduceIte]
    refine awp_join (fun _ : Unit => True) (fun _ => stl [(0, .fsl 6 (l.map Ty.z)), (1, .v (.int .i64 (r - (k : Int)))), (5, .usl 3 1 ((fstL l).map iv)), (8, .usl 3 1 ((rnd l k).map iv)), (9, .usl 3 1 (((rowN (fstL l) (rnd l k) l).take i).map iv)), (11, .box 43 l[i].z), (12, .usl 3 1 ([getS (fstL l) (i : Int), baseN (rnd l k) l[i]].map iv)), (38, .dead), (41, .dead), (46, .fsl 6 (l.map Ty.z)), (47, .v (.int .i64 (l.length : Int))), (48, .v (.int .i64 (i : Int))), (57, .dead), (87, .dead), (93, .dead), (95, .dead)]) ?_ ?_
    · simp only [Ty.z, EV, Nat.reduceEqDiff, Nat.reduceBEq, Nat.reduceLT, Nat.reduceLeDiff, Nat.reduceAdd, Nat.reduceSub, reduceIte]
      rcases eb : decide (0 ≤ l[i].base) with _ | _
      · simp only [EV, Nat.reduceEqDiff, Nat.reduceBEq, Nat.reduceLT, Nat.reduceLeDiff, Nat.reduceAdd, Nat.reduceSub, reduceIte]
        refine ⟨(), ?_⟩
        simp only [baseN, eb, if_false, Bool.false_eq_true, iv, List.map_cons, List.map_nil]
      · have b0 : 0 ≤ l[i].base := by simpa using eb
        have b1 := tys_base ht p1 b0
        have b2 : l[i].base.toNat < (rnd l k).length := by omega
        have b3 : l[i].base < ((rnd l k).length : Int) := by omega
        have e1 := getS_nat b2
        simp only [b0, b2, b3, nth_map b2, e1, iv, Ty.z, EV, Nat.reduceEqDiff, Nat.reduceBEq, Nat.reduceLT, Nat.reduceLeDiff, Nat.reduceAdd, Nat.reduceSub, reduceIte]
        refine ⟨by decide, by decide, by decide, (), ?_⟩
        simp only [baseN, eb, if_true, iv, List.map_cons, List.map_nil]
        rfl
    rintro _ _
    simp only [Ty.z, EV, Nat.reduceEqDiff, Nat.reduceBEq, Nat.reduceLT, Nat.reduceLeDiff, Nat.reduceAdd, Nat.reduceSub, reduceIte]
    refine awp_loop (fun j : Nat => j ≤ l[i].fields.length) (fun j => stl [(0, .fsl 6 (l.map Ty.z)), (1, .v (.int .i64 (r - (k : Int)))), (5, .usl 3 1 ((fstL l).map iv)), (8, .usl 3 1 ((rnd l k).map iv)), (9, .usl 3 1 (((rowN (fstL l) (rnd l k) l).take i).map iv)), (11, .box 43 l[i].z), (12, .usl 3 1 (([getS (fstL l) (i : Int), baseN (rnd l k) l[i]] ++ fldsN (rnd l k) (l[i].fields.take j)).map iv)), (38, .dead), (41, .dead), (46, .fsl 6 (l.map Ty.z)), (47, .v (.int .i64 (l.length : Int))), (48, .v (.int .i64 (i : Int))), (57, .dead), (68, .ref 11 [] 0 3), (69, .fsl 3 (l[i].fields.map Fd.z)), (70, .v (.int .i64 (l[i].fields.length : Int))), (71, .v (.int .i64 (j : Int))), (87, .dead), (93, .dead), (95, .dead)]) (fun j => l[i].fields.length - j) 0 (Nat.zero_le _) ?_ ?_
    · simp only [List.take_zero, fldsN, List.flatMap_nil, List.append_nil, Ty.z, EV, Nat.reduceEqDiff, Nat.reduceBEq, Nat.reduceLT, Nat.reduceLeDiff, Nat.reduceAdd, Nat.reduceSub, reduceIte]
      rfl
    intro j hj
    have f6 := (tysOk_good ht p1).few
    have hln := fldsN_len (rnd l k) (l[i].fields.take j)
    rw [List.length_take] at hln
    simp only [Ty.z, EV, Nat.reduceEqDiff, Nat.reduceBEq, Nat.reduceLT, Nat.reduceLeDiff, Nat.reduceAdd, Nat.reduceSub, reduceIte]
    refine cK_cut (fun h => ?_) (fun h => ?_)
    · have j1 : j < l[i].fields.length := by simpa using h
      have j2 : (j : Int) < (l[i].fields.length : Int) := by omega
      obtain ⟨t0, t1⟩ := tys_fld ht p1 j1
      have t2 : l[i].fields[j].typ.toNat < (rnd l k).length := by omega
      have t3 : l[i].fields[j].typ < ((rnd l k).length : Int) := by omega
      have et := getS_nat t2
      have hnm := (hsm'.2.2.2.1.2 _ (List.getElem_mem j1)).1
      clear h
      simp only [FdE, j1, j2, nth_map j1, Fd.z, t0, t2, t3, nth_map t2, et, iv, EV, Nat.reduceEqDiff, Nat.reduceBEq, Nat.reduceLT, Nat.reduceLeDiff, Nat.reduceAdd, Nat.reduceSub, reduceIte]
      have w1 := w64 ((j : Int) + 1) (by omega)
      refine ⟨?_, ?_⟩
      all_goals
        refine callK_i (d28 l[i].fields[j].name hnm) ?_
        simp only [FdE, j1, j2, nth_map j1, Fd.z, t0, t2, t3, nth_map t2, et, iv, w1, EV, Nat.reduceEqDiff, Nat.reduceBEq, Nat.reduceLT, Nat.reduceLeDiff, Nat.reduceAdd, Nat.reduceSub, reduceIte]
        exact ⟨by omega, by omega, j + 1, j1, by omega, by rw [fldsN_take j1, List.map_append]; rfl⟩
    · have j1 : j = l[i].fields.length := by have : ¬ (j : Int) < (l[i].fields.length : Int) := by simpa using h
                                             omega
      subst j1
      rw [List.take_length] at hln ⊢
      clear h
      simp only [iv_frz, EV, Nat.reduceEqDiff, Nat.reduceBEq, Nat.reduceLT, Nat.reduceLeDiff, Nat.reduceAdd, Nat.reduceSub, reduceIte]
      refine callK_i (d27 (prtN (fstL l) (rnd l k) i l[i]) (by simp [prtN]; omega)) ?_
      simp only [EV, Nat.reduceEqDiff, Nat.reduceBEq, Nat.reduceLT, Nat.reduceLeDiff, Nat.reduceAdd, Nat.reduceSub, reduceIte]
      refine ⟨by simp; omega, by simp; omega, (), ?_⟩
      rw [rowN_take p1, List.map_append]
      rfl
  · rintro _ _
    simp only [EV, Nat.reduceEqDiff, Nat.reduceBEq, Nat.reduceLT, Nat.reduceLeDiff, Nat.reduceAdd, Nat.reduceSub, reduceIte]
    rw [w64 _ (by omega)]
    exact ⟨i + 1, p1, by omega, rfl⟩

end Go.AM
namespace Go.AM
set_option linter.unusedVariables false
set_option linter.unusedSimpArgs false
/-- loop.example/g00837/impl.roundFingers -/
def m20 : MC :=
  (.seq
   (.reg [⟨(some 4), none, .a (.asg (.nils 3 1))⟩])
   (.seq
    (.reg [⟨(some 15), none, .a (.bsl 3 1 [])⟩,
      ⟨(some 5), none, .a (.asg (.t 15))⟩])
    (.seq
     (.seq
      (.reg [⟨(some 16), none, .q (.mov (.t 0))⟩,
        ⟨(some 17), none, .q (.len false (.t 16))⟩,
        ⟨(some 18), none, .q (.mov (.c (.int .i64 0)))⟩])
      (.block 0
       (.loop [0, 1, 5, 15, 16, 17, 18, 39]
        (.seq
         (.reg [⟨(some 19), none, .q (.bin false .lss (.t 18) (.t 17))⟩])
         (.seq
          (.cond (.t 19)
           .skip
           (.exit 0))
          (.seq
           (.block 1
            (.seq
             (.reg [⟨(some 20), none, .q (.iad 6 (.t 16) (.t 18))⟩,
               ⟨(some 21), none, .q (.load true 6 (.t 20))⟩,
               ⟨(some 7), none, .a (.alloc 43 [.v (.int .i64 0), .v (.int .i64 0), .v (.int .i64 0), .s 54 3, .v (.string ({ data := #[] })), .v (.string ({ data := #[] }))])⟩,
               ⟨none, none, .a (.store 6 (.t 7) (.t 21))⟩])
             (.mix [7] [0, 1, 5, 15, 16, 17, 18, 39] [] [] [1, 2, 3, 4, 5, 6, 8, 9, 11, 12, 13] [0, 7, 10, 14, 15, 16, 17, 18]
               [⟨(some 23), none, .q (.fad 0 (.t 7))⟩,
                ⟨(some 24), none, .q (.load false 1 (.t 23))⟩,
                ⟨(some 25), none, .q (.fad 1 (.t 7))⟩,
                ⟨(some 26), none, .q (.load false 1 (.t 25))⟩,
                ⟨(some 27), none, .q (.fad 4 (.t 7))⟩,
                ⟨(some 28), none, .q (.load false 1 (.t 27))⟩,
                ⟨(some 30), none, .q (.fad 5 (.t 7))⟩,
                ⟨(some 31), none, .q (.load false 1 (.t 30))⟩,
                ⟨(some 33), none, .q (.fad 3 (.t 7))⟩,
                ⟨(some 34), none, .q (.load false 1 (.t 33))⟩,
                ⟨(some 35), none, .q (.len false (.t 34))⟩]
               [⟨(some 22), none, .q (.mov (.t 5))⟩,
                ⟨(some 29), none, .a (.call (.fn 34) false [.lend (.t 28)])⟩,
                ⟨(some 32), none, .a (.call (.fn 34) false [.lend (.t 31)])⟩,
                ⟨(some 36), none, .a (.bsl 3 1 [.t 24, .t 26, .t 29, .t 32, .t 35])⟩,
                ⟨(some 37), none, .a (.call (.fn 33) false [.lend (.t 36)])⟩,
                ⟨(some 38), none, .a (.bsl 3 1 [.t 37])⟩,
                ⟨(some 39), none, .a (.app true 3 1 8 (.t 22) (.t 38))⟩,
                ⟨(some 5), none, .a (.asg (.t 39))⟩])))
           (.reg [⟨(some 40), none, .q (.bin false .add (.t 18) (.c (.int .i64 1)))⟩,
             ⟨(some 18), none, .q (.mov (.t 40))⟩])))))))
     (.seq
      (.frz 5
      (.reg [⟨(some 41), none, .q (.mov (.t 5))⟩,
        ⟨(some 8), none, .a (.asg (.t 41))⟩]))
      (.seq
       (.seq
        (.reg [⟨(some 42), none, .q (.mov (.t 1))⟩,
          ⟨(some 43), none, .q (.mov (.c (.int .i64 0)))⟩])
        (.block 2
         (.loop [0, 5, 8, 9, 15, 39, 41, 42, 43, 45, 93, 95]
          (.seq
           (.reg [⟨(some 44), none, .q (.bin false .lss (.t 43) (.t 42))⟩])
           (.seq
            (.cond (.t 44)
             .skip
             (.exit 2))
            (.seq
             (.block 3
              (.seq
               (.reg [⟨(some 45), none, .a (.bsl 3 1 [])⟩,
                 ⟨(some 9), none, .a (.asg (.t 45))⟩])
               (.seq
                (.seq
                 (.reg [⟨(some 46), none, .q (.mov (.t 0))⟩,
                   ⟨(some 47), none, .q (.len false (.t 46))⟩,
                   ⟨(some 48), none, .q (.mov (.c (.int .i64 0)))⟩])
                 (.block 4
                  (.loop [0, 5, 8, 9, 15, 39, 41, 42, 43, 45, 46, 47, 48, 93, 95]
                   (.seq
                    (.reg [⟨(some 49), none, .q (.bin false .lss (.t 48) (.t 47))⟩])
                    (.seq
                     (.cond (.t 49)
                      .skip
                      (.exit 4))
                     (.join [0, 5, 8, 9, 15, 39, 41, 42, 43, 45, 46, 47, 48, 93, 95]
                      (.block 5
                       (.seq
                        (.reg [⟨(some 50), none, .q (.mov (.t 48))⟩,
                          ⟨(some 51), none, .q (.iad 6 (.t 46) (.t 48))⟩,
                          ⟨(some 52), none, .q (.load true 6 (.t 51))⟩,
                          ⟨(some 11), none, .a (.alloc 43 [.v (.int .i64 0), .v (.int .i64 0), .v (.int .i64 0), .s 54 3, .v (.string ({ data := #[] })), .v (.string ({ data := #[] }))])⟩,
                          ⟨(some 10), none, .a (.asg (.t 50))⟩,
                          ⟨none, none, .a (.store 6 (.t 11) (.t 52))⟩])
                        (.seq
                         (.reg [⟨(some 53), none, .q (.mov (.t 5))⟩,
                           ⟨(some 54), none, .q (.mov (.t 10))⟩,
                           ⟨(some 55), none, .q (.iad 1 (.t 53) (.t 54))⟩,
                           ⟨(some 56), none, .q (.load false 1 (.t 55))⟩,
                           ⟨(some 57), none, .a (.bsl 3 1 [.t 56, .c (.int .i64 7)])⟩,
                           ⟨(some 12), none, .a (.asg (.t 57))⟩])
                         (.join [0, 5, 8, 9, 11, 12, 15, 39, 41, 42, 43, 45, 46, 47, 48, 57, 87, 93, 95]
                          (.seq
                           (.reg [⟨(some 58), none, .q (.fad 2 (.t 11))⟩,
                             ⟨(some 59), none, .q (.load false 1 (.t 58))⟩,
                             ⟨(some 60), none, .q (.bin false .geq (.t 59) (.c (.int .i64 0)))⟩])
                           (.cond (.t 60)
                            (.reg [⟨(some 61), none, .q (.mov (.t 12))⟩,
                              ⟨(some 62), none, .q (.mov (.t 8))⟩,
                              ⟨(some 63), none, .q (.fad 2 (.t 11))⟩,
                              ⟨(some 64), none, .q (.load false 1 (.t 63))⟩,
                              ⟨(some 65), none, .q (.iad 1 (.t 62) (.t 64))⟩,
                              ⟨(some 66), none, .q (.load false 1 (.t 65))⟩,
                              ⟨(some 67), none, .q (.iad 1 (.t 61) (.c (.int .i64 1)))⟩,
                              ⟨none, none, .a (.store 1 (.t 67) (.t 66))⟩])
                            .skip))
                          (.seq
                           (.seq
                            (.reg [⟨(some 68), none, .q (.fad 3 (.t 11))⟩,
                              ⟨(some 69), none, .q (.load false 1 (.t 68))⟩,
                              ⟨(some 70), none, .q (.len false (.t 69))⟩,
                              ⟨(some 71), none, .q (.mov (.c (.int .i64 0)))⟩])
                            (.block 6
                             (.loop [0, 5, 8, 9, 11, 12, 15, 39, 41, 42, 43, 45, 46, 47, 48, 57, 68, 69, 70, 71, 87, 93, 95]
                              (.seq
                               (.reg [⟨(some 72), none, .q (.bin false .lss (.t 71) (.t 70))⟩])
                               (.seq
                                (.cond (.t 72)
                                 .skip
                                 (.exit 6))
                                (.seq
                                 (.block 7
                                  (.seq
                                   (.reg [⟨(some 73), none, .q (.iad 3 (.t 69) (.t 71))⟩,
                                     ⟨(some 74), none, .q (.load true 3 (.t 73))⟩,
                                     ⟨(some 14), none, .a (.alloc 54 [.v (.string ({ data := #[] })), .v (.int .i64 0), .v (.int .i64 0)])⟩,
                                     ⟨none, none, .a (.store 3 (.t 14) (.t 74))⟩])
                                   (.mixt [14] [0, 5, 8, 9, 11, 12, 15, 39, 41, 42, 43, 45, 46, 47, 48, 57, 68, 69, 70, 71, 87, 93, 95] [] [] [1, 2, 4, 5, 7, 8]
                                     [⟨(some 76), none, .q (.fad 0 (.t 14))⟩,
                                      ⟨(some 77), none, .q (.load false 1 (.t 76))⟩,
                                      ⟨(some 79), none, .q (.fad 1 (.t 14))⟩,
                                      ⟨(some 80), none, .q (.load false 1 (.t 79))⟩,
                                      ⟨(some 82), none, .q (.fad 2 (.t 14))⟩,
                                      ⟨(some 83), none, .q (.load false 1 (.t 82))⟩]
                                     (.step 0 ⟨(some 75), none, .q (.mov (.t 12))⟩
                                     (.step 6 ⟨(some 81), none, .q (.mov (.t 8))⟩
                                      (.step 9 ⟨(some 84), none, .q (.iad 1 (.t 81) (.t 83))⟩
                                       (.alt (.step 3 ⟨(some 78), none, .a (.call (.fn 34) false [.lend (.t 77)])⟩
                                        (.step 10 ⟨(some 85), none, .q (.load false 1 (.t 84))⟩
                                         (.step 11 ⟨(some 86), none, .a (.bsl 3 1 [.t 78, .t 80, .t 85])⟩
                                          (.step 12 ⟨(some 87), none, .a (.app true 3 1 8 (.t 75) (.t 86))⟩
                                           (.step 13 ⟨(some 12), none, .a (.asg (.t 87))⟩
                                            .nil)))))
                                        (.step 10 ⟨(some 85), none, .q (.load false 1 (.t 84))⟩
                                        (.step 3 ⟨(some 78), none, .a (.call (.fn 34) false [.lend (.t 77)])⟩
                                         (.step 11 ⟨(some 86), none, .a (.bsl 3 1 [.t 78, .t 80, .t 85])⟩
                                          (.step 12 ⟨(some 87), none, .a (.app true 3 1 8 (.t 75) (.t 86))⟩
                                           (.step 13 ⟨(some 12), none, .a (.asg (.t 87))⟩
                                            .nil))))))))))))
                                 (.reg [⟨(some 88), none, .q (.bin false .add (.t 71) (.c (.int .i64 1)))⟩,
                                   ⟨(some 71), none, .q (.mov (.t 88))⟩])))))))
                           (.reg [⟨(some 89), none, .q (.mov (.t 9))⟩,
                             ⟨(some 90), none, .q (.mov (.t 12))⟩,
                             ⟨(some 91), none, .a (.call (.fn 33) false [.lend (.t 90)])⟩,
                             ⟨(some 92), none, .a (.bsl 3 1 [.t 91])⟩,
                             ⟨(some 93), none, .a (.app true 3 1 8 (.t 89) (.t 92))⟩,
                             ⟨(some 9), none, .a (.asg (.t 93))⟩]))))))
                      (.reg [⟨(some 94), none, .q (.bin false .add (.t 48) (.c (.int .i64 1)))⟩,
                        ⟨(some 48), none, .q (.mov (.t 94))⟩])))))))
                (.reg [⟨(some 95), none, .q (.mov (.t 9))⟩,
                  ⟨(some 8), none, .a (.asg (.t 95))⟩]))))
             (.frz 8
             (.reg [⟨(some 96), none, .q (.bin false .add (.t 43) (.c (.int .i64 1)))⟩,
               ⟨(some 43), none, .q (.mov (.t 96))⟩]))))))))
       (.seq
        (.reg [⟨(some 97), none, .q (.mov (.t 8))⟩,
          ⟨(some 4), none, .a (.asg (.t 97))⟩])
        .ret))))))

set_option maxHeartbeats 4000000 in
set_option maxRecDepth 100000 in
theorem d20 (l : List Ty) (r : Int) (h24 : l.length ≤ 24) (hs : ∀ s ∈ l, s.sm) (ht : tysOk l = true) (h0 : 0 ≤ r) (h1 : r ≤ 25) :
    Does Go.Proofs.Try.prog 20 [.fsl 6 (l.map Ty.z), .v (.int .i64 r)] false (.usl 3 1 ((rnd l r.toNat).map iv)) [.dead, .dead] := by
  have hfl := fstL_len l
  refine does_intro (mc := m20) (N := 98) (rs := [4]) (fx := []) 2 rfl (by decide +kernel) ?_
  simp only [m20, EV, Nat.reduceEqDiff, Nat.reduceBEq, Nat.reduceLT, Nat.reduceLeDiff, Nat.reduceAdd, Nat.reduceSub, reduceIte]
  refine awp_loop (fun i : Nat => i ≤ l.length) (fun i => stl [(0, .fsl 6 (l.map Ty.z)), (1, .v (.int .i64 r)), (5, .usl 3 1 (((fstL l).take i).map iv)), (15, .dead), (16, .fsl 6 (l.map Ty.z)), (17, .v (.int .i64 (l.length : Int))), (18, .v (.int .i64 (i : Int))), (39, .dead)]) (fun i => l.length - i) 0 (Nat.zero_le _) ?_ ?_
  · simp only [List.take_zero, List.map_nil, EV, Nat.reduceEqDiff, Nat.reduceBEq, Nat.reduceLT, Nat.reduceLeDiff, Nat.reduceAdd, Nat.reduceSub, reduceIte]
    rfl
  intro i hi
  simp only [EV, Nat.reduceEqDiff, Nat.reduceBEq, Nat.reduceLT, Nat.reduceLeDiff, Nat.reduceAdd, Nat.reduceSub, reduceIte]
  refine cK_cut (fun h => ?_) (fun h => ?_)
  · have q1 : i < l.length := by simpa using h
    have q2 : (i : Int) < (l.length : Int) := by omega
    have hsm := hs _ (List.getElem_mem q1)
    have hsm' := hsm
    unfold Ty.sm at hsm'
    clear h
    simp only [q1, q2, nth_map q1, Ty.z, EV, Nat.reduceEqDiff, Nat.reduceBEq, Nat.reduceLT, Nat.reduceLeDiff, Nat.reduceAdd, Nat.reduceSub, reduceIte]
    refine callK_i (d34 l[i].owner hsm'.2.2.2.2.1) ?_
    simp only [EV, Nat.reduceEqDiff, Nat.reduceBEq, Nat.reduceLT, Nat.reduceLeDiff, Nat.reduceAdd, Nat.reduceSub, reduceIte]
    refine callK_i (d34 l[i].name hsm'.2.2.2.2.2) ?_
    simp only [EV, Nat.reduceEqDiff, Nat.reduceBEq, Nat.reduceLT, Nat.reduceLeDiff, Nat.reduceAdd, Nat.reduceSub, reduceIte]
    refine callK_i (d33 [l[i].kind, l[i].long, textN l[i].owner, textN l[i].name, (l[i].fields.length : Int)] (by simp)) ?_
    simp only [EV, Nat.reduceEqDiff, Nat.reduceBEq, Nat.reduceLT, Nat.reduceLeDiff, Nat.reduceAdd, Nat.reduceSub, reduceIte]
    refine ⟨by simp; omega, by simp; omega, ?_⟩
    rw [w64 _ (by omega)]
    exact ⟨i + 1, q1, by omega, by rw [fstL_take q1, List.map_append]; rfl⟩
  have q1 : i = l.length := by have : ¬ (i : Int) < l.length := by simpa using h
                               omega
  subst q1
  have e : (fstL l).take l.length = fstL l := by rw [List.take_of_length_le]; omega
  rw [e]
  clear h hi e
  by_cases r0 : r = 0
  · subst r0
    refine awp_frz_no ?_
    simp only [EV, Nat.reduceEqDiff, Nat.reduceBEq, Nat.reduceLT, Nat.reduceLeDiff, Nat.reduceAdd, Nat.reduceSub, reduceIte]
    refine awp_loop (fun _ : Unit => True) (fun _ => stl [(0, .fsl 6 (l.map Ty.z)), (5, .dead), (8, .usl 3 1 ((fstL l).map iv)), (9, .dead), (15, .dead), (39, .dead), (41, .dead), (42, .v (.int .i64 0)), (43, .v (.int .i64 0)), (45, .dead), (93, .dead), (95, .dead)]) (fun _ => 0) () trivial ?_ ?_
    · simp only [EV, Nat.reduceEqDiff, Nat.reduceBEq, Nat.reduceLT, Nat.reduceLeDiff, Nat.reduceAdd, Nat.reduceSub, reduceIte]
    · intro _ _
      simp only [EV, Nat.reduceEqDiff, Nat.reduceBEq, Nat.reduceLT, Nat.reduceLeDiff, Nat.reduceAdd, Nat.reduceSub, reduceIte]
      have e00 : decide ((0 : Int) < 0) = false := by decide
      simp only [e00, EV, Nat.reduceEqDiff, Nat.reduceBEq, Nat.reduceLT, Nat.reduceLeDiff, Nat.reduceAdd, Nat.reduceSub, reduceIte]
      simp only [Int.toNat_zero, rnd, iv_nfz, EV, Nat.reduceEqDiff, Nat.reduceBEq, Nat.reduceLT, Nat.reduceLeDiff, Nat.reduceAdd, Nat.reduceSub, reduceIte, evRE, retVC, cellV', evR, nfz, nfzs, nfzss, List.contains_nil, List.contains_cons, Bool.or_false, or_true]
  refine awp_frz (by rfl) ?_
  simp only [frzSE, iv_frz, EV, Nat.reduceEqDiff, Nat.reduceBEq, Nat.reduceLT, Nat.reduceLeDiff, Nat.reduceAdd, Nat.reduceSub, reduceIte]
  refine awp_loop (fun o : Option Nat => ∀ k ∈ o, (k : Int) < r) (fun o => o.elim (stl [(0, .fsl 6 (l.map Ty.z)), (5, .fsl 1 ((fstL l).map iv)), (8, .usl 3 1 ((rnd l r.toNat).map iv)), (9, .dead), (15, .dead), (39, .dead), (41, .fsl 1 ((fstL l).map iv)), (42, .v (.int .i64 r)), (43, .v (.int .i64 r)), (45, .dead), (93, .dead), (95, .dead)])
    (fun k => stl [(0, .fsl 6 (l.map Ty.z)), (5, .fsl 1 ((fstL l).map iv)), (8, .fsl 1 ((rnd l k).map iv)), (9, .dead), (15, .dead), (39, .dead), (41, .fsl 1 ((fstL l).map iv)), (42, .v (.int .i64 r)), (43, .v (.int .i64 (k : Int))), (45, .dead), (93, .dead), (95, .dead)])) (fun o => o.elim 0 (fun k => r.toNat - k + 1)) (some 0) (fun _ hk => by cases hk; omega) ?_ ?_
  · simp only [Option.elim_some, rnd, Int.natCast_zero, frzSE, iv_frz, EV, Nat.reduceEqDiff, Nat.reduceBEq, Nat.reduceLT, Nat.reduceLeDiff, Nat.reduceAdd, Nat.reduceSub, reduceIte]
  intro o ho
  cases o with
  | none =>
    have err : decide (r < r) = false := by simp
    simp only [Option.elim_none, err, EV, Nat.reduceEqDiff, Nat.reduceBEq, Nat.reduceLT, Nat.reduceLeDiff, Nat.reduceAdd, Nat.reduceSub, reduceIte]
    simp only [iv_nfz, EV, Nat.reduceEqDiff, Nat.reduceBEq, Nat.reduceLT, Nat.reduceLeDiff, Nat.reduceAdd, Nat.reduceSub, reduceIte, evRE, retVC, cellV', evR, nfz, nfzs, nfzss, List.contains_nil, List.contains_cons, Bool.or_false, or_true]
  | some k =>
  have q1 : (k : Int) < r := ho k rfl
  have q2 : decide ((k : Int) < r) = true := by simpa using q1
  simp only [Option.elim_some, q2, EV, Nat.reduceEqDiff, Nat.reduceBEq, Nat.reduceLT, Nat.reduceLeDiff, Nat.reduceAdd, Nat.reduceSub, reduceIte]
  have hnl := rnd_len l k
  refine awp_loop (fun i : Nat => i ≤ l.length) (fun i => stl [(0, .fsl 6 (l.map Ty.z)), (5, .fsl 1 ((fstL l).map iv)), (8, .fsl 1 ((rnd l k).map iv)), (9, .usl 3 1 (((rowN (fstL l) (rnd l k) l).take i).map iv)), (15, .dead), (39, .dead), (41, .fsl 1 ((fstL l).map iv)), (42, .v (.int .i64 r)), (43, .v (.int .i64 (k : Int))), (45, .dead), (46, .fsl 6 (l.map Ty.z)), (47, .v (.int .i64 (l.length : Int))), (48, .v (.int .i64 (i : Int))), (93, .dead), (95, .dead)]) (fun i => l.length - i) 0 (Nat.zero_le _) ?_ ?_
  · simp only [List.take_zero, List.map_nil, EV, Nat.reduceEqDiff, Nat.reduceBEq, Nat.reduceLT, Nat.reduceLeDiff, Nat.reduceAdd, Nat.reduceSub, reduceIte]
    rfl
  intro i hi
  simp only [EV, Nat.reduceEqDiff, Nat.reduceBEq, Nat.reduceLT, Nat.reduceLeDiff, Nat.reduceAdd, Nat.reduceSub, reduceIte]
  refine cK_cut (fun h => ?_) (fun h => ?_)
  rotate_left
  · have p1 : i = l.length := by have : ¬ (i : Int) < l.length := by simpa using h
                                 omega
    subst p1
    have e : (rowN (fstL l) (rnd l k) l).take l.length = rnd l (k + 1) := by rw [List.take_of_length_le]; rfl; rw [rowN_len]; exact Nat.le_refl _
    rw [e]
    have w1 := w64 ((k : Int) + 1) (by omega)
    simp only [w1, EV, Nat.reduceEqDiff, Nat.reduceBEq, Nat.reduceLT, Nat.reduceLeDiff, Nat.reduceAdd, Nat.reduceSub, reduceIte]
    by_cases hlast : ((k + 1 : Nat) : Int) = r
    · refine awp_frz_no ?_
      have e3 : (k : Int) + 1 = r := by omega
      have e4 : k + 1 = r.toNat := by omega
      simp only [w1, e3, e4, EV, Nat.reduceEqDiff, Nat.reduceBEq, Nat.reduceLT, Nat.reduceLeDiff, Nat.reduceAdd, Nat.reduceSub, reduceIte]
      have w2 := w64 r (by omega)
      rw [w2]
      exact ⟨none, (fun _ hk => by cases hk), by simp only [Option.elim_none]; omega, rfl⟩
    · refine awp_frz (by rfl) ?_
      simp only [w1, frzSE, iv_frz, EV, Nat.reduceEqDiff, Nat.reduceBEq, Nat.reduceLT, Nat.reduceLeDiff, Nat.reduceAdd, Nat.reduceSub, reduceIte]
      refine ⟨some (k + 1), (fun _ hk => by cases hk; omega), by simp only [Option.elim_some]; omega, ?_⟩
      simp only [Option.elim_some, Int.natCast_add, Int.natCast_one]
  have p1 : i < l.length := by simpa using h
  have p2 : (i : Int) < (l.length : Int) := by omega
  have p3 : i < (fstL l).length := by omega
  have p4 : (i : Int) < ((fstL l).length : Int) := by omega
  have hsm := hs _ (List.getElem_mem p1)
  have hsm' := hsm
  unfold Ty.sm at hsm'
  clear h
  have e0 : (fstL l)[i] = getS (fstL l) (i : Int) := by simp [getS, p3]
  refine awp_join (fun _ : Unit => True) (fun _ => stl [(0, .fsl 6 (l.map Ty.z)), (5, .fsl 1 ((fstL l).map iv)), (8, .fsl 1 ((rnd l k).map iv)), (9, .usl 3 1 (((rowN (fstL l) (rnd l k) l).take (i + 1)).map iv)), (15, .dead), (39, .dead), (41, .fsl 1 ((fstL l).map iv)), (42, .v (.int .i64 r)), (43, .v (.int .i64 (k : Int))), (45, .dead), (46, .fsl 6 (l.map Ty.z)), (47, .v (.int .i64 (l.length : Int))), (48, .v (.int .i64 (i : Int))), (93, .dead), (95, .dead)]) ?_ ?_
  · simp only [p1, p2, p3, p4, nth_map p1, nth_map p3, iv, e0, Ty.z, decide_true, EV, Nat.reduceEqDiff, Nat.reduceBEq, Nat.reduceLT, Nat.reduceLeDiff, Nat.reduceAdd, Nat.reduceSub, reduceIte]
    refine awp_join (fun _ : Unit => True) (fun _ => stl [(0, .fsl 6 (l.map Ty.z)), (5, .fsl 1 ((fstL l).map iv)), (8, .fsl 1 ((rnd l k).map iv)), (9, .usl 3 1 (((rowN (fstL l) (rnd l k) l).take i).map iv)), (11, .box 43 l[i].z), (12, .usl 3 1 ([getS (fstL l) (i : Int), baseN (rnd l k) l[i]].map iv)), (15, .dead), (39, .dead), (41, .fsl 1 ((fstL l).map iv)), (42, .v (.int .i64 r)), (43, .v (.int .i64 (k : Int))), (45, .dead), (46, .fsl 6 (l.map Ty.z)), (47, .v (.int .i64 (l.length : Int))), (48, .v (.int .i64 (i : Int))), (57, .dead), (87, .dead), (93, .dead), (95, .dead)]) ?_ ?_
    · simp only [Ty.z, EV, Nat.reduceEqDiff, Nat.reduceBEq, Nat.reduceLT, Nat.reduceLeDiff, Nat.reduceAdd, Nat.reduceSub, reduceIte]
      rcases eb : decide (0 ≤ l[i].base) with _ | _
      · simp only [EV, Nat.reduceEqDiff, Nat.reduceBEq, Nat.reduceLT, Nat.reduceLeDiff, Nat.reduceAdd, Nat.reduceSub, reduceIte]
        refine ⟨(), ?_⟩
        simp only [baseN, eb, if_false, Bool.false_eq_true, iv, List.map_cons, List.map_nil]
      · have b0 : 0 ≤ l[i].base := by simpa using eb
        have b1 := tys_base ht p1 b0
        have b2 : l[i].base.toNat < (rnd l k).length := by omega
        have b3 : l[i].base < ((rnd l k).length : Int) := by omega
        have e1 := getS_nat b2
        simp only [b0, b2, b3, nth_map b2, e1, iv, Ty.z, EV, Nat.reduceEqDiff, Nat.reduceBEq, Nat.reduceLT, Nat.reduceLeDiff, Nat.reduceAdd, Nat.reduceSub, reduceIte]
        refine ⟨by decide, by decide, by decide, (), ?_⟩
        simp only [baseN, eb, if_true, iv, List.map_cons, List.map_nil]
        rfl
    rintro _ _
    simp only [Ty.z, EV, Nat.reduceEqDiff, Nat.reduceBEq, Nat.reduceLT, Nat.reduceLeDiff, Nat.reduceAdd, Nat.reduceSub, reduceIte]
    refine awp_loop (fun j : Nat => j ≤ l[i].fields.length) (fun j => stl [(0, .fsl 6 (l.map Ty.z)), (5, .fsl 1 ((fstL l).map iv)), (8, .fsl 1 ((rnd l k).map iv)), (9, .usl 3 1 (((rowN (fstL l) (rnd l k) l).take i).map iv)), (11, .box 43 l[i].z), (12, .usl 3 1 (([getS (fstL l) (i : Int), baseN (rnd l k) l[i]] ++ fldsN (rnd l k) (l[i].fields.take j)).map iv)), (15, .dead), (39, .dead), (41, .fsl 1 ((fstL l).map iv)), (42, .v (.int .i64 r)), (43, .v (.int .i64 (k : Int))), (45, .dead), (46, .fsl 6 (l.map Ty.z)), (47, .v (.int .i64 (l.length : Int))), (48, .v (.int .i64 (i : Int))), (57, .dead), (68, .ref 11 [] 0 3), (69, .fsl 3 (l[i].fields.map Fd.z)), (70, .v (.int .i64 (l[i].fields.length : Int))), (71, .v (.int .i64 (j : Int))), (87, .dead), (93, .dead), (95, .dead)]) (fun j => l[i].fields.length - j) 0 (Nat.zero_le _) ?_ ?_
    · simp only [List.take_zero, fldsN, List.flatMap_nil, List.append_nil, Ty.z, EV, Nat.reduceEqDiff, Nat.reduceBEq, Nat.reduceLT, Nat.reduceLeDiff, Nat.reduceAdd, Nat.reduceSub, reduceIte]
      rfl
    intro j hj
    have f6 := (tysOk_good ht p1).few
    have hln := fldsN_len (rnd l k) (l[i].fields.take j)
    rw [List.length_take] at hln
    simp only [Ty.z, EV, Nat.reduceEqDiff, Nat.reduceBEq, Nat.reduceLT, Nat.reduceLeDiff, Nat.reduceAdd, Nat.reduceSub, reduceIte]
    refine cK_cut (fun h => ?_) (fun h => ?_)
    · have j1 : j < l[i].fields.length := by simpa using h
      have j2 : (j : Int) < (l[i].fields.length : Int) := by omega
      obtain ⟨t0, t1⟩ := tys_fld ht p1 j1
      have t2 : l[i].fields[j].typ.toNat < (rnd l k).length := by omega
      have t3 : l[i].fields[j].typ < ((rnd l k).length : Int) := by omega
      have et := getS_nat t2
      have hnm := (hsm'.2.2.2.1.2 _ (List.getElem_mem j1)).1
      clear h
      simp only [FdE, j1, j2, nth_map j1, Fd.z, t0, t2, t3, nth_map t2, et, iv, EV, Nat.reduceEqDiff, Nat.reduceBEq, Nat.reduceLT, Nat.reduceLeDiff, Nat.reduceAdd, Nat.reduceSub, reduceIte]
      have w1 := w64 ((j : Int) + 1) (by omega)
      refine ⟨?_, ?_⟩
      all_goals
        refine callK_i (d34 l[i].fields[j].name hnm) ?_
        simp only [FdE, j1, j2, nth_map j1, Fd.z, t0, t2, t3, nth_map t2, et, iv, w1, EV, Nat.reduceEqDiff, Nat.reduceBEq, Nat.reduceLT, Nat.reduceLeDiff, Nat.reduceAdd, Nat.reduceSub, reduceIte]
        exact ⟨by omega, by omega, j + 1, j1, by omega, by rw [fldsN_take j1, List.map_append]; rfl⟩
    · have j1 : j = l[i].fields.length := by have : ¬ (j : Int) < (l[i].fields.length : Int) := by simpa using h
                                             omega
      subst j1
      rw [List.take_length] at hln ⊢
      clear h
      simp only [iv_frz, EV, Nat.reduceEqDiff, Nat.reduceBEq, Nat.reduceLT, Nat.reduceLeDiff, Nat.reduceAdd, Nat.reduceSub, reduceIte]
      refine callK_i (d33 (prtN (fstL l) (rnd l k) i l[i]) (by simp [prtN]; omega)) ?_
      simp only [EV, Nat.reduceEqDiff, Nat.reduceBEq, Nat.reduceLT, Nat.reduceLeDiff, Nat.reduceAdd, Nat.reduceSub, reduceIte]
      refine ⟨by simp; omega, by simp; omega, (), ?_⟩
      rw [rowN_take p1, List.map_append]
      rfl
  · rintro _ _
    simp only [EV, Nat.reduceEqDiff, Nat.reduceBEq, Nat.reduceLT, Nat.reduceLeDiff, Nat.reduceAdd, Nat.reduceSub, reduceIte]
    rw [w64 _ (by omega)]
    exact ⟨i + 1, p1, by omega, rfl⟩

end Go.AM
namespace Go.AM
set_option linter.unusedVariables false
set_option linter.unusedSimpArgs false
/-- loop.example/g00837/laws.eqIntS -/
def m8 : MC :=
  (.seq
   (.reg [⟨(some 4), none, .a (.asg (.c (.bool false)))⟩])
   (.seq
    (.seq
     (.reg [⟨(some 6), none, .q (.mov (.t 0))⟩,
       ⟨(some 7), none, .q (.len false (.t 6))⟩,
       ⟨(some 8), none, .q (.mov (.t 1))⟩,
       ⟨(some 9), none, .q (.len false (.t 8))⟩,
       ⟨(some 10), none, .q (.bin false .neq (.t 7) (.t 9))⟩])
     (.cond (.t 10)
      (.seq
       (.reg [⟨(some 4), none, .a (.asg (.c (.bool false)))⟩])
       .ret)
      .skip))
    (.seq
     (.seq
      (.reg [⟨(some 5), none, .a (.asg (.c (.int .i64 0)))⟩])
      (.block 0
       (.loop [0, 1, 5]
        (.seq
         (.seq
          (.reg [⟨(some 11), none, .q (.mov (.t 5))⟩,
            ⟨(some 12), none, .q (.mov (.t 0))⟩,
            ⟨(some 13), none, .q (.len false (.t 12))⟩,
            ⟨(some 14), none, .q (.bin false .lss (.t 11) (.t 13))⟩])
          (.cond (.t 14)
           .skip
           (.exit 0)))
         (.seq
          (.block 1
           (.seq
            (.dreg [⟨(some 17), none, .q (.mov (.t 0))⟩,
              ⟨(some 18), none, .q (.mov (.t 5))⟩,
              ⟨(some 19), none, .q (.iad 1 (.t 17) (.t 18))⟩,
              ⟨(some 20), none, .q (.load false 1 (.t 19))⟩,
              ⟨(some 21), none, .q (.mov (.t 1))⟩,
              ⟨(some 22), none, .q (.mov (.t 5))⟩,
              ⟨(some 23), none, .q (.iad 1 (.t 21) (.t 22))⟩,
              ⟨(some 24), none, .q (.load false 1 (.t 23))⟩,
              ⟨(some 25), none, .q (.bin false .neq (.t 20) (.t 24))⟩])
            (.cond (.t 25)
             (.seq
              (.reg [⟨(some 4), none, .a (.asg (.c (.bool false)))⟩])
              .ret)
             .skip)))
          (.reg [⟨(some 15), none, .q (.mov (.t 5))⟩,
            ⟨(some 16), none, .q (.bin false .add (.t 15) (.c (.int .i64 1)))⟩,
            ⟨(some 5), none, .a (.asg (.t 16))⟩]))))))
     (.seq
      (.reg [⟨(some 4), none, .a (.asg (.c (.bool true)))⟩])
      .ret))))

theorem d8 (l : List Int) (hl : (l.length : Int) ≤ 1048576) : Does Go.Proofs.Try.prog 8 [.fsl 1 (l.map iv), .fsl 1 (l.map iv)] false (.v (.bool true)) [.dead, .dead] := by
  refine does_intro (mc := m8) (N := 26) (rs := [4]) (fx := []) 2 rfl (by decide +kernel) ?_
  simp only [m8, EV, Nat.reduceEqDiff, Nat.reduceBEq, Nat.reduceLT, Nat.reduceLeDiff, Nat.reduceAdd, Nat.reduceSub, reduceIte]
  refine awp_loop (fun i : Nat => i ≤ l.length) (fun i => stl [(0, .fsl 1 (l.map iv)), (1, .fsl 1 (l.map iv)), (5, .v (.int .i64 (i : Int)))]) (fun i => l.length - i) 0 (Nat.zero_le _) ?_ ?_
  · simp only [EV, Nat.reduceEqDiff, Nat.reduceBEq, Nat.reduceLT, Nat.reduceLeDiff, Nat.reduceAdd, Nat.reduceSub, reduceIte]
    rfl
  · intro i hi
    simp only [EV, Nat.reduceEqDiff, Nat.reduceBEq, Nat.reduceLT, Nat.reduceLeDiff, Nat.reduceAdd, Nat.reduceSub, reduceIte]
    refine cK_cut (fun h => ?_) (fun h => ?_)
    · have h1 : i < l.length := by simpa using h
      have h2 : (i : Int) < (l.length : Int) := by omega
      have ei : iv l[i] = [.v (.int .i64 l[i])] := rfl
      simp only [nth_map h1, ei, h2, EV, Nat.reduceEqDiff, Nat.reduceBEq, Nat.reduceLT, Nat.reduceLeDiff, Nat.reduceAdd, Nat.reduceSub, reduceIte]
      rw [w64 _ (by omega)]
      exact ⟨i + 1, by omega, by omega, rfl⟩
    · have h1 : i = l.length := by have : ¬ (i : Int) < l.length := by simpa using h
                                   omega
      simp only [EV, Nat.reduceEqDiff, Nat.reduceBEq, Nat.reduceLT, Nat.reduceLeDiff, Nat.reduceAdd, Nat.reduceSub, reduceIte]
      simp only [EV, Nat.reduceEqDiff, Nat.reduceBEq, Nat.reduceLT, Nat.reduceLeDiff, Nat.reduceAdd, Nat.reduceSub, reduceIte, evRE, retVC, cellV', evR, nfz, nfzs, nfzss, List.contains_nil, List.contains_cons, Bool.or_false, or_true]

def upI : Nat → Int → List Int
  | 0, _ => []
  | n + 1, k => k :: upI n (k + 1)

theorem upI_len : ∀ (n : Nat) (k : Int), (upI n k).length = n
  | 0, _ => rfl
  | n + 1, k => by simp [upI, upI_len n]

/-- loop.example/g00837/laws.markIntS -/
def m11 : MC :=
  (.seq
   (.reg [⟨(some 4), none, .a (.asg (.c (.int .i64 0)))⟩])
   (.seq
    (.seq
     (.reg [⟨(some 5), none, .a (.asg (.c (.int .i64 0)))⟩])
     (.block 0
      (.loop [0, 1, 5]
       (.seq
        (.seq
         (.reg [⟨(some 6), none, .q (.mov (.t 5))⟩,
           ⟨(some 7), none, .q (.mov (.t 0))⟩,
           ⟨(some 8), none, .q (.len false (.t 7))⟩,
           ⟨(some 9), none, .q (.bin false .lss (.t 6) (.t 8))⟩])
         (.cond (.t 9)
          .skip
          (.exit 0)))
        (.seq
         (.block 1
          (.seq
           (.reg [⟨(some 12), none, .q (.mov (.t 0))⟩,
             ⟨(some 13), none, .q (.mov (.t 5))⟩,
             ⟨(some 14), none, .q (.mov (.t 1))⟩,
             ⟨(some 15), none, .q (.iad 1 (.t 12) (.t 13))⟩,
             ⟨none, none, .a (.store 1 (.t 15) (.t 14))⟩])
           (.reg [⟨(some 16), none, .q (.mov (.t 1))⟩,
             ⟨(some 17), none, .q (.bin false .add (.t 16) (.c (.int .i64 1)))⟩,
             ⟨(some 1), none, .a (.asg (.t 17))⟩])))
         (.reg [⟨(some 10), none, .q (.mov (.t 5))⟩,
           ⟨(some 11), none, .q (.bin false .add (.t 10) (.c (.int .i64 1)))⟩,
           ⟨(some 5), none, .a (.asg (.t 11))⟩]))))))
    (.seq
     (.reg [⟨(some 18), none, .q (.mov (.t 1))⟩,
       ⟨(some 4), none, .a (.asg (.t 18))⟩])
     .ret)))

theorem d11 (l : List Int) (k : Int) (h0 : 0 ≤ k) (h1 : k + l.length ≤ 4611686018427387904) :
    Does Go.Proofs.Try.prog 11 [.usl 3 1 (l.map iv), .v (.int .i64 k)] false (.v (.int .i64 (k + l.length))) [.usl 3 1 ((upI l.length k).map iv), .dead] := by
  refine does_intro (mc := m11) (N := 19) (rs := [4]) (fx := [0]) 2 rfl (by decide +kernel) ?_
  simp only [m11, EV, Nat.reduceEqDiff, Nat.reduceBEq, Nat.reduceLT, Nat.reduceLeDiff, Nat.reduceAdd, Nat.reduceSub, reduceIte]
  refine awp_loop (fun p : List Int × List Int × Int => p.1 ++ upI p.2.1.length p.2.2 = upI l.length k ∧ p.2.2 + p.2.1.length = k + l.length ∧ 0 ≤ p.2.2 ∧ p.1.length + p.2.1.length = l.length)
    (fun p => stl [(0, .usl 3 1 ((p.1 ++ p.2.1).map iv)), (1, .v (.int .i64 p.2.2)), (5, .v (.int .i64 (p.1.length : Int)))]) (fun p => p.2.1.length) ([], l, k) ⟨rfl, rfl, h0, by simp⟩ ?_ ?_
  · simp only [EV, Nat.reduceEqDiff, Nat.reduceBEq, Nat.reduceLT, Nat.reduceLeDiff, Nat.reduceAdd, Nat.reduceSub, reduceIte]
    rfl
  · rintro ⟨pre, post, n⟩ ⟨p0, p1, p2, p3⟩
    cases post with
    | nil =>
      simp only [EV, Nat.reduceEqDiff, Nat.reduceBEq, Nat.reduceLT, Nat.reduceLeDiff, Nat.reduceAdd, Nat.reduceSub, reduceIte]
      refine cK_cut (fun h => ?_) (fun h => ?_)
      · simp at h
      · simp only [EV, Nat.reduceEqDiff, Nat.reduceBEq, Nat.reduceLT, Nat.reduceLeDiff, Nat.reduceAdd, Nat.reduceSub, reduceIte]
        simp only [List.append_nil, upI, List.length_nil] at p0 p1
        have e : n = k + l.length := by simp at p1; omega
        simp only [p0, ← e, EV, Nat.reduceEqDiff, Nat.reduceBEq, Nat.reduceLT, Nat.reduceLeDiff, Nat.reduceAdd, Nat.reduceSub, reduceIte, evRE, retVC, cellV', evR, nfz, nfzs, nfzss, List.contains_nil, List.contains_cons, Bool.or_false, or_true]
    | cons f post =>
      simp only [EV, Nat.reduceEqDiff, Nat.reduceBEq, Nat.reduceLT, Nat.reduceLeDiff, Nat.reduceAdd, Nat.reduceSub, reduceIte]
      refine cK_cut (fun h => ?_) (fun h => ?_)
      rotate_left
      · simp at h; omega
      simp only at p0 p1 p2 p3
      simp only [List.length_cons] at p1 p3
      have h3 : (pre.length : Int) < ((pre ++ f :: post).length : Int) := by simp; omega
      have h4 : pre.length < ((pre ++ f :: post).map iv).length := by simp
      have e1 : nth ((pre ++ f :: post).map iv) pre.length = [.v (.int .i64 f)] := nth_mid
      have e2 := set_mid (g := iv) (pre := pre) (post := post) (t := f) n
      generalize hR : (pre ++ f :: post).map iv = R at h4 e1 e2 ⊢
      have hRl : R.length = l.length := by rw [← hR]; simp; omega
      have h5 : (pre.length : Int) < (R.length : Int) := by omega
      have w0 := w64 ((pre.length : Int) + 1) (by omega)
      have w1 := w64 (n + 1) (by omega)
      simp only [h4, h5, e1, nth_set h4, List.getElem?_set_self h4, modify_set, w0, w1, EV, Nat.reduceEqDiff, Nat.reduceBEq, Nat.reduceLT, Nat.reduceLeDiff, Nat.reduceAdd, Nat.reduceSub, reduceIte]
      refine ⟨(pre ++ [n], post, n + 1), ⟨?_, ?_, ?_, ?_⟩, ?_, ?_⟩
      · rw [← p0]; simp [upI]
      · simp only; omega
      · simp only; omega
      · simp only [List.length_append, List.length_cons, List.length_nil]; omega
      · simp only; omega
      · simp only [iv] at e2
        simp only [← e2, List.length_append, List.length_cons, List.length_nil]
        rfl

/-- loop.example/g00837/laws.heldIntS -/
def m12 : MC :=
  (.seq
   (.reg [⟨(some 4), none, .a (.asg (.c (.int .i64 0)))⟩])
   (.seq
    (.seq
     (.reg [⟨(some 5), none, .a (.asg (.c (.int .i64 0)))⟩])
     (.block 0
      (.loop [0, 1, 5]
       (.seq
        (.seq
         (.reg [⟨(some 6), none, .q (.mov (.t 5))⟩,
           ⟨(some 7), none, .q (.mov (.t 0))⟩,
           ⟨(some 8), none, .q (.len false (.t 7))⟩,
           ⟨(some 9), none, .q (.bin false .lss (.t 6) (.t 8))⟩])
         (.cond (.t 9)
          .skip
          (.exit 0)))
        (.seq
         (.block 1
          (.seq
           (.seq
            (.reg [⟨(some 12), none, .q (.mov (.t 0))⟩,
              ⟨(some 13), none, .q (.mov (.t 5))⟩,
              ⟨(some 14), none, .q (.iad 1 (.t 12) (.t 13))⟩,
              ⟨(some 15), none, .q (.load false 1 (.t 14))⟩,
              ⟨(some 16), none, .q (.mov (.t 1))⟩,
              ⟨(some 17), none, .q (.bin false .neq (.t 15) (.t 16))⟩])
            (.cond (.t 17)
             (.seq
              (.reg [⟨(some 4), none, .a (.asg (.c (.int .i64 (-1))))⟩])
              .ret)
             .skip))
           (.reg [⟨(some 18), none, .q (.mov (.t 1))⟩,
             ⟨(some 19), none, .q (.bin false .add (.t 18) (.c (.int .i64 1)))⟩,
             ⟨(some 1), none, .a (.asg (.t 19))⟩])))
         (.reg [⟨(some 10), none, .q (.mov (.t 5))⟩,
           ⟨(some 11), none, .q (.bin false .add (.t 10) (.c (.int .i64 1)))⟩,
           ⟨(some 5), none, .a (.asg (.t 11))⟩]))))))
    (.seq
     (.reg [⟨(some 20), none, .q (.mov (.t 1))⟩,
       ⟨(some 4), none, .a (.asg (.t 20))⟩])
     .ret)))

theorem d12 (m : Nat) (k : Int) (h0 : 0 ≤ k) (h1 : k + m ≤ 4611686018427387904) :
    Does Go.Proofs.Try.prog 12 [.fsl 1 ((upI m k).map iv), .v (.int .i64 k)] false (.v (.int .i64 (k + m))) [.dead, .dead] := by
  have hl : (upI m k).length = m := upI_len m k
  generalize hM0 : upI m k = M at hl ⊢
  refine does_intro (mc := m12) (N := 21) (rs := [4]) (fx := []) 2 rfl (by decide +kernel) ?_
  simp only [m12, EV, Nat.reduceEqDiff, Nat.reduceBEq, Nat.reduceLT, Nat.reduceLeDiff, Nat.reduceAdd, Nat.reduceSub, reduceIte]
  refine awp_loop (fun p : List Int × Nat × Int => M = p.1 ++ upI p.2.1 p.2.2 ∧ p.2.2 + p.2.1 = k + m ∧ 0 ≤ p.2.2 ∧ p.1.length + p.2.1 = m)
    (fun p => stl [(0, .fsl 1 (M.map iv)), (1, .v (.int .i64 p.2.2)), (5, .v (.int .i64 (p.1.length : Int)))]) (fun p => p.2.1) ([], m, k) ⟨by rw [← hM0]; rfl, rfl, h0, by simp⟩ ?_ ?_
  · simp only [EV, Nat.reduceEqDiff, Nat.reduceBEq, Nat.reduceLT, Nat.reduceLeDiff, Nat.reduceAdd, Nat.reduceSub, reduceIte]
    rfl
  · rintro ⟨pre, post, n⟩ ⟨p0, p1, p2, p3⟩
    simp only at p0 p1 p2 p3
    cases post with
    | zero =>
      simp only [EV, Nat.reduceEqDiff, Nat.reduceBEq, Nat.reduceLT, Nat.reduceLeDiff, Nat.reduceAdd, Nat.reduceSub, reduceIte]
      refine cK_cut (fun h => ?_) (fun h => ?_)
      · simp at h p3; omega
      · simp only [EV, Nat.reduceEqDiff, Nat.reduceBEq, Nat.reduceLT, Nat.reduceLeDiff, Nat.reduceAdd, Nat.reduceSub, reduceIte]
        have e : n = k + m := by simp at p1; omega
        simp only [← e, EV, Nat.reduceEqDiff, Nat.reduceBEq, Nat.reduceLT, Nat.reduceLeDiff, Nat.reduceAdd, Nat.reduceSub, reduceIte, evRE, retVC, cellV', evR, nfz, nfzs, nfzss, List.contains_nil, List.contains_cons, Bool.or_false, or_true]
    | succ post =>
      simp only [EV, Nat.reduceEqDiff, Nat.reduceBEq, Nat.reduceLT, Nat.reduceLeDiff, Nat.reduceAdd, Nat.reduceSub, reduceIte]
      refine cK_cut (fun h => ?_) (fun h => ?_)
      rotate_left
      · simp at h; omega
      have h5 : (pre.length : Int) < (M.length : Int) := by omega
      have e1 : nth (M.map iv) pre.length = [.v (.int .i64 n)] := by rw [p0]; exact nth_mid
      have w0 := w64 ((pre.length : Int) + 1) (by omega)
      have w1 := w64 (n + 1) (by omega)
      simp only [h5, e1, w0, w1, bne_self_eq_false, EV, Nat.reduceEqDiff, Nat.reduceBEq, Nat.reduceLT, Nat.reduceLeDiff, Nat.reduceAdd, Nat.reduceSub, reduceIte]
      refine ⟨(pre ++ [n], post, n + 1), ⟨?_, ?_, ?_, ?_⟩, ?_, ?_⟩
      · rw [p0]; simp [upI]
      · simp only; omega
      · simp only; omega
      · simp only [List.length_append, List.length_cons, List.length_nil]; omega
      · simp only; omega
      · simp only [List.length_append, List.length_cons, List.length_nil]
        rfl

end Go.AM
namespace Go.AM
set_option linter.unusedVariables false
set_option linter.unusedSimpArgs false
/-- loop.example/g00837/laws.markText -/
def m23 : MC :=
  (.seq
   (.reg [⟨(some 2), none, .a (.asg (.c (.string ({ data := #[] }))))⟩])
   (.seq
    (.seq
     (.reg [⟨(some 4), none, .q (.mov (.t 0))⟩,
       ⟨(some 5), none, .q (.bin false .leq (.t 4) (.c (.int .i64 0)))⟩])
     (.cond (.t 5)
      (.seq
       (.reg [⟨(some 2), none, .a (.asg (.c (.string ({ data := #[109, 48] }))))⟩])
       .ret)
      .skip))
    (.seq
     (.reg [⟨(some 3), none, .a (.asg (.c (.string ({ data := #[] }))))⟩])
     (.seq
      (.block 0
       (.loop [0, 3]
        (.seq
         (.seq
          (.reg [⟨(some 6), none, .q (.mov (.t 0))⟩,
            ⟨(some 7), none, .q (.bin false .gtr (.t 6) (.c (.int .i64 0)))⟩])
          (.cond (.t 7)
           .skip
           (.exit 0)))
         (.block 1
          (.seq
           (.reg [⟨(some 8), none, .q (.mov (.t 0))⟩,
             ⟨(some 9), none, .q (.bin false .rem (.t 8) (.c (.int .i64 10)))⟩,
             ⟨(some 10), none, .q (.bin false .add (.c (.int .i64 48)) (.t 9))⟩,
             ⟨(some 11), none, .q (.conv .u8 (.t 10))⟩,
             ⟨(some 12), none, .a (.bsl 5 1 [.t 11])⟩,
             ⟨(some 13), none, .q (.b2s (.t 12))⟩,
             ⟨(some 14), none, .q (.mov (.t 3))⟩,
             ⟨(some 15), none, .q (.bin false .add (.t 13) (.t 14))⟩,
             ⟨(some 3), none, .a (.asg (.t 15))⟩])
           (.reg [⟨(some 16), none, .q (.mov (.t 0))⟩,
             ⟨(some 17), none, .q (.bin false .quo (.t 16) (.c (.int .i64 10)))⟩,
             ⟨(some 0), none, .a (.asg (.t 17))⟩]))))))
      (.seq
       (.reg [⟨(some 18), none, .q (.mov (.t 3))⟩,
         ⟨(some 19), none, .q (.bin false .add (.c (.string ({ data := #[109] }))) (.t 18))⟩,
         ⟨(some 2), none, .a (.asg (.t 19))⟩])
       .ret)))))

def mtL (k : Int) (s : ByteArray) : ByteArray := if h : 0 < k then mtL (k.tdiv 10) (strA [IntKind.u8.wrap (48 + k.tmod 10)] ++ s) else s
  termination_by k.toNat
  decreasing_by
  have : k.tdiv 10 = k / 10 := Int.tdiv_eq_ediv_of_nonneg (by omega)
  rw [this]; omega

def mt (k : Int) : ByteArray := if k ≤ 0 then ⟨#[109, 48]⟩ else ⟨#[109]⟩ ++ mtL k ⟨#[]⟩

theorem d23 (k : Int) (h0 : -9223372036854775808 ≤ k) (h1 : k ≤ 4611686018427387904) : Does Go.Proofs.Try.prog 23 [.v (.int .i64 k)] false (.v (.string (mt k))) [.dead] := by
  refine does_intro (mc := m23) (N := 20) (rs := [2]) (fx := []) 1 rfl (by decide +kernel) ?_
  simp only [m23, EV, Nat.reduceEqDiff, Nat.reduceBEq, Nat.reduceLT, Nat.reduceLeDiff, Nat.reduceAdd, Nat.reduceSub, reduceIte]
  refine cK_cut (fun h => ?_) (fun h => ?_)
  · have h2 : k ≤ 0 := by simpa using h
    simp only [EV, Nat.reduceEqDiff, Nat.reduceBEq, Nat.reduceLT, Nat.reduceLeDiff, Nat.reduceAdd, Nat.reduceSub, reduceIte]
    simp only [mt, h2, EV, Nat.reduceEqDiff, Nat.reduceBEq, Nat.reduceLT, Nat.reduceLeDiff, Nat.reduceAdd, Nat.reduceSub, reduceIte, evRE, retVC, cellV', evR, nfz, nfzs, nfzss, List.contains_nil, List.contains_cons, Bool.or_false, or_true]
  · have h2 : ¬ k ≤ 0 := by simpa using h
    simp only [EV, Nat.reduceEqDiff, Nat.reduceBEq, Nat.reduceLT, Nat.reduceLeDiff, Nat.reduceAdd, Nat.reduceSub, reduceIte]
    refine awp_loop (fun p : Int × ByteArray => 0 ≤ p.1 ∧ p.1 ≤ k ∧ (p.2.size : Int) + p.1 ≤ k ∧ mtL p.1 p.2 = mtL k ⟨#[]⟩) (fun p => stl [(0, .v (.int .i64 p.1)), (3, .v (.string p.2))]) (fun p => p.1.toNat) (k, ⟨#[]⟩) ⟨by omega, by omega, by show (((⟨#[]⟩ : ByteArray).size : Nat) : Int) + k ≤ k; simp [ByteArray.size], rfl⟩ ?_ ?_
    · simp only [EV, Nat.reduceEqDiff, Nat.reduceBEq, Nat.reduceLT, Nat.reduceLeDiff, Nat.reduceAdd, Nat.reduceSub, reduceIte]
    · rintro ⟨n, s⟩ ⟨p0, p1, p2, p3⟩
      simp only [EV, Nat.reduceEqDiff, Nat.reduceBEq, Nat.reduceLT, Nat.reduceLeDiff, Nat.reduceAdd, Nat.reduceSub, reduceIte]
      refine cK_cut (fun h => ?_) (fun h => ?_)
      · have h3 : 0 < n := by simpa using h
        have ed : n.tdiv 10 = n / 10 := Int.tdiv_eq_ediv_of_nonneg (by omega)
        have em : n.tmod 10 = n % 10 := Int.tmod_eq_emod_of_nonneg (by omega)
        have w1 : IntKind.i64.wrap (48 + n.tmod 10) = 48 + n.tmod 10 := w64 _ (by omega)
        have w2 : IntKind.i64.wrap (n.tdiv 10) = n.tdiv 10 := w64 _ (by omega)
        simp only [w1, w2, EV, Nat.reduceEqDiff, Nat.reduceBEq, Nat.reduceLT, Nat.reduceLeDiff, Nat.reduceAdd, Nat.reduceSub, reduceIte]
        simp only at p0 p1 p2 p3
        have hs : (strA [IntKind.u8.wrap (48 + n.tmod 10)]).size = 1 := rfl
        refine ⟨by decide, ?_, by decide, (n.tdiv 10, strA [IntKind.u8.wrap (48 + n.tmod 10)] ++ s), ⟨?_, ?_, ?_, ?_⟩, ?_, rfl⟩
        · rw [hs]; omega
        · show 0 ≤ n.tdiv 10; omega
        · show n.tdiv 10 ≤ k; omega
        · show (((strA [IntKind.u8.wrap (48 + n.tmod 10)] ++ s).size : Nat) : Int) + n.tdiv 10 ≤ k
          rw [ByteArray.size_append, hs]; omega
        · show mtL (n.tdiv 10) (strA [IntKind.u8.wrap (48 + n.tmod 10)] ++ s) = _
          rw [← p3, mtL.eq_def n, dif_pos h3]
        · show (n.tdiv 10).toNat < n.toNat; omega
      · have h3 : ¬ 0 < n := by simpa using h
        simp only at p0 p1 p2 p3
        have e : mtL k ⟨#[]⟩ = s := by rw [← p3, mtL.eq_def, dif_neg h3]
        have hs : ((⟨#[109]⟩ : ByteArray).size : Nat) = 1 := rfl
        simp only [EV, Nat.reduceEqDiff, Nat.reduceBEq, Nat.reduceLT, Nat.reduceLeDiff, Nat.reduceAdd, Nat.reduceSub, reduceIte]
        refine ⟨?_, ?_⟩
        · rw [hs]; omega
        · simp only [mt, h2, e, EV, Nat.reduceEqDiff, Nat.reduceBEq, Nat.reduceLT, Nat.reduceLeDiff, Nat.reduceAdd, Nat.reduceSub, reduceIte, evRE, retVC, cellV', evR, nfz, nfzs, nfzss, List.contains_nil, List.contains_cons, Bool.or_false, or_true]

def mkFd (k : Int) : Fd := ⟨mt (k), k + 1, k + 2⟩

def mkFdS : List Fd → Int → List Fd
  | [], _ => []
  | f :: fs, k => mkFd k :: mkFdS fs (k + 3)

theorem mkFdS_len : ∀ (l : List Fd) (k : Int), (mkFdS l k).length = l.length
  | [], _ => rfl
  | f :: fs, k => by simp [mkFdS, mkFdS_len fs]

/-- loop.example/g00837/laws.markFieldS -/
def m22 : MC :=
  (.seq
   (.reg [⟨(some 4), none, .a (.asg (.c (.int .i64 0)))⟩])
   (.seq
    (.seq
     (.reg [⟨(some 5), none, .a (.asg (.c (.int .i64 0)))⟩])
     (.block 0
      (.loop [0, 1, 5]
       (.seq
        (.seq
         (.reg [⟨(some 6), none, .q (.mov (.t 5))⟩,
           ⟨(some 7), none, .q (.mov (.t 0))⟩,
           ⟨(some 8), none, .q (.len false (.t 7))⟩,
           ⟨(some 9), none, .q (.bin false .lss (.t 6) (.t 8))⟩])
         (.cond (.t 9)
          .skip
          (.exit 0)))
        (.seq
         (.block 1
          (.seq
           (.reg [⟨(some 12), none, .q (.mov (.t 0))⟩,
             ⟨(some 13), none, .q (.mov (.t 5))⟩,
             ⟨(some 14), none, .q (.mov (.t 1))⟩,
             ⟨(some 15), none, .a (.call (.fn 23) false [.lend (.t 14)])⟩,
             ⟨(some 16), none, .q (.iad 3 (.t 12) (.t 13))⟩,
             ⟨(some 17), none, .q (.fad 0 (.t 16))⟩,
             ⟨none, none, .a (.store 1 (.t 17) (.t 15))⟩])
           (.seq
            (.reg [⟨(some 18), none, .q (.mov (.t 1))⟩,
              ⟨(some 19), none, .q (.bin false .add (.t 18) (.c (.int .i64 1)))⟩,
              ⟨(some 1), none, .a (.asg (.t 19))⟩])
            (.seq
             (.reg [⟨(some 20), none, .q (.mov (.t 0))⟩,
               ⟨(some 21), none, .q (.mov (.t 5))⟩,
               ⟨(some 22), none, .q (.mov (.t 1))⟩,
               ⟨(some 23), none, .q (.iad 3 (.t 20) (.t 21))⟩,
               ⟨(some 24), none, .q (.fad 1 (.t 23))⟩,
               ⟨none, none, .a (.store 1 (.t 24) (.t 22))⟩])
             (.seq
              (.reg [⟨(some 25), none, .q (.mov (.t 1))⟩,
                ⟨(some 26), none, .q (.bin false .add (.t 25) (.c (.int .i64 1)))⟩,
                ⟨(some 1), none, .a (.asg (.t 26))⟩])
              (.seq
               (.reg [⟨(some 27), none, .q (.mov (.t 0))⟩,
                 ⟨(some 28), none, .q (.mov (.t 5))⟩,
                 ⟨(some 29), none, .q (.mov (.t 1))⟩,
                 ⟨(some 30), none, .q (.iad 3 (.t 27) (.t 28))⟩,
                 ⟨(some 31), none, .q (.fad 2 (.t 30))⟩,
                 ⟨none, none, .a (.store 1 (.t 31) (.t 29))⟩])
               (.reg [⟨(some 32), none, .q (.mov (.t 1))⟩,
                 ⟨(some 33), none, .q (.bin false .add (.t 32) (.c (.int .i64 1)))⟩,
                 ⟨(some 1), none, .a (.asg (.t 33))⟩])))))))
         (.reg [⟨(some 10), none, .q (.mov (.t 5))⟩,
           ⟨(some 11), none, .q (.bin false .add (.t 10) (.c (.int .i64 1)))⟩,
           ⟨(some 5), none, .a (.asg (.t 11))⟩]))))))
    (.seq
     (.reg [⟨(some 34), none, .q (.mov (.t 1))⟩,
       ⟨(some 4), none, .a (.asg (.t 34))⟩])
     .ret)))

theorem d22 (l : List Fd) (k : Int) (h0 : 0 ≤ k) (h1 : k + 3 * l.length ≤ 4611686018427387904) :
    Does Go.Proofs.Try.prog 22 [.usl 54 3 (l.map Fd.o), .v (.int .i64 k)] false (.v (.int .i64 (k + 3 * l.length))) [.usl 54 3 ((mkFdS l k).map Fd.o), .dead] := by
  refine does_intro (mc := m22) (N := 35) (rs := [4]) (fx := [0]) 2 rfl (by decide +kernel) ?_
  simp only [m22, EV, Nat.reduceEqDiff, Nat.reduceBEq, Nat.reduceLT, Nat.reduceLeDiff, Nat.reduceAdd, Nat.reduceSub, reduceIte]
  refine awp_loop (fun p : List Fd × List Fd × Int => p.1 ++ mkFdS p.2.1 p.2.2 = mkFdS l k ∧ p.2.2 + 3 * p.2.1.length = k + 3 * l.length ∧ 0 ≤ p.2.2 ∧ p.1.length + p.2.1.length = l.length)
    (fun p => stl [(0, .usl 54 3 ((p.1 ++ p.2.1).map Fd.o)), (1, .v (.int .i64 p.2.2)), (5, .v (.int .i64 (p.1.length : Int)))]) (fun p => p.2.1.length) ([], l, k) ⟨rfl, rfl, h0, by simp⟩ ?_ ?_
  · simp only [EV, Nat.reduceEqDiff, Nat.reduceBEq, Nat.reduceLT, Nat.reduceLeDiff, Nat.reduceAdd, Nat.reduceSub, reduceIte]
    rfl
  · rintro ⟨pre, post, n⟩ ⟨p0, p1, p2, p3⟩
    cases post with
    | nil =>
      simp only [EV, Nat.reduceEqDiff, Nat.reduceBEq, Nat.reduceLT, Nat.reduceLeDiff, Nat.reduceAdd, Nat.reduceSub, reduceIte]
      refine cK_cut (fun h => ?_) (fun h => ?_)
      · simp at h
      · simp only [EV, Nat.reduceEqDiff, Nat.reduceBEq, Nat.reduceLT, Nat.reduceLeDiff, Nat.reduceAdd, Nat.reduceSub, reduceIte]
        simp only [List.append_nil, mkFdS, List.length_nil] at p0 p1
        have e : n = k + 3 * l.length := by simp at p1; omega
        simp only [p0, ← e, EV, Nat.reduceEqDiff, Nat.reduceBEq, Nat.reduceLT, Nat.reduceLeDiff, Nat.reduceAdd, Nat.reduceSub, reduceIte, evRE, retVC, cellV', evR, nfz, nfzs, nfzss, List.contains_nil, List.contains_cons, Bool.or_false, or_true]
    | cons f post =>
      simp only [EV, Nat.reduceEqDiff, Nat.reduceBEq, Nat.reduceLT, Nat.reduceLeDiff, Nat.reduceAdd, Nat.reduceSub, reduceIte]
      refine cK_cut (fun h => ?_) (fun h => ?_)
      rotate_left
      · simp at h; omega
      simp only at p0 p1 p2 p3
      simp only [List.length_cons] at p1 p3
      have h3 : (pre.length : Int) < ((pre ++ f :: post).length : Int) := by simp; omega
      have h4 : pre.length < ((pre ++ f :: post).map Fd.o).length := by simp
      have e1 : nth ((pre ++ f :: post).map Fd.o) pre.length = f.o := nth_mid
      generalize hR : (pre ++ f :: post).map Fd.o = R at h4 e1 ⊢
      have hRl : R.length = l.length := by rw [← hR]; simp; omega
      have h5 : (pre.length : Int) < (R.length : Int) := by omega
      have w0 := w64 ((pre.length : Int) + 1) (by omega)
      have w1 := w64 (n + 1) (by omega)
      have w2 := w64 (n + 1 + 1) (by omega)
      have w3 := w64 (n + 1 + 1 + 1) (by omega)
      simp only [h4, h5, e1, nth_set h4, List.getElem?_set_self h4, modify_set, Fd.o, w1, w2, w3, w0, EV, Nat.reduceEqDiff, Nat.reduceBEq, Nat.reduceLT, Nat.reduceLeDiff, Nat.reduceAdd, Nat.reduceSub, reduceIte]
      refine callK_i (d23 (n) (by omega) (by omega)) ?_
      simp only [h4, h5, e1, nth_set h4, List.getElem?_set_self h4, modify_set, Fd.o, w1, w2, w3, w0, EV, Nat.reduceEqDiff, Nat.reduceBEq, Nat.reduceLT, Nat.reduceLeDiff, Nat.reduceAdd, Nat.reduceSub, reduceIte]
      refine ⟨(pre ++ [mkFd n], post, n + 3), ⟨?_, ?_, ?_, ?_⟩, ?_, ?_⟩
      · rw [← p0]; simp [mkFdS]
      · simp only; omega
      · simp only; omega
      · simp only [List.length_append, List.length_cons, List.length_nil]; omega
      · simp only; omega
      · have e2 := set_mid (g := Fd.o) (pre := pre) (post := post) (t := f) (mkFd n)
        rw [hR] at e2
        simp only [Fd.o, mkFd] at e2
        simp only [← e2, mkFd, List.length_append, List.length_cons, List.length_nil, Int.add_assoc]
        rfl

end Go.AM
namespace Go.AM
set_option linter.unusedVariables false
set_option linter.unusedSimpArgs false
def mkTy (t : Ty) (k : Int) : Ty := ⟨k, k + 1, k + 2, mkFdS t.fields (k + 3), mt (k + 3 + 3 * t.fields.length), mt (k + 3 + 3 * t.fields.length + 1)⟩

def cntTy (t : Ty) : Int := 5 + 3 * t.fields.length

def cntTys : List Ty → Int
  | [] => 0
  | t :: l => cntTy t + cntTys l

theorem cntTys_nn : ∀ l : List Ty, 0 ≤ cntTys l
  | [] => Int.le_refl _
  | t :: l => by have := cntTys_nn l; unfold cntTys cntTy; omega

def mkTyS : List Ty → Int → List Ty
  | [], _ => []
  | t :: l, k => mkTy t k :: mkTyS l (k + cntTy t)

theorem mkTyS_len : ∀ (l : List Ty) (k : Int), (mkTyS l k).length = l.length
  | [], _ => rfl
  | f :: fs, k => by simp [mkTyS, mkTyS_len fs]

theorem mkTy_o (f : Ty) (n : Int) : Ty.o (mkTy f n) = [.v (.int .i64 n), .v (.int .i64 (n + 1)), .v (.int .i64 (n + 2)), .usl 54 3 ((mkFdS f.fields (n + 3)).map Fd.o), .v (.string (mt (n + 3 + 3 * f.fields.length))), .v (.string (mt (n + 3 + 3 * f.fields.length + 1)))] := rfl

/-- loop.example/g00837/laws.markTypeS -/
def m10 : MC :=
  (.seq
   (.reg [⟨(some 4), none, .a (.asg (.c (.int .i64 0)))⟩])
   (.seq
    (.seq
     (.reg [⟨(some 5), none, .a (.asg (.c (.int .i64 0)))⟩])
     (.block 0
      (.loop [0, 1, 5]
       (.seq
        (.seq
         (.reg [⟨(some 6), none, .q (.mov (.t 5))⟩,
           ⟨(some 7), none, .q (.mov (.t 0))⟩,
           ⟨(some 8), none, .q (.len false (.t 7))⟩,
           ⟨(some 9), none, .q (.bin false .lss (.t 6) (.t 8))⟩])
         (.cond (.t 9)
          .skip
          (.exit 0)))
        (.seq
         (.block 1
          (.seq
           (.reg [⟨(some 12), none, .q (.mov (.t 0))⟩,
             ⟨(some 13), none, .q (.mov (.t 5))⟩,
             ⟨(some 14), none, .q (.mov (.t 1))⟩,
             ⟨(some 15), none, .q (.iad 6 (.t 12) (.t 13))⟩,
             ⟨(some 16), none, .q (.fad 0 (.t 15))⟩,
             ⟨none, none, .a (.store 1 (.t 16) (.t 14))⟩])
           (.seq
            (.reg [⟨(some 17), none, .q (.mov (.t 1))⟩,
              ⟨(some 18), none, .q (.bin false .add (.t 17) (.c (.int .i64 1)))⟩,
              ⟨(some 1), none, .a (.asg (.t 18))⟩])
            (.seq
             (.reg [⟨(some 19), none, .q (.mov (.t 0))⟩,
               ⟨(some 20), none, .q (.mov (.t 5))⟩,
               ⟨(some 21), none, .q (.mov (.t 1))⟩,
               ⟨(some 22), none, .q (.iad 6 (.t 19) (.t 20))⟩,
               ⟨(some 23), none, .q (.fad 1 (.t 22))⟩,
               ⟨none, none, .a (.store 1 (.t 23) (.t 21))⟩])
             (.seq
              (.reg [⟨(some 24), none, .q (.mov (.t 1))⟩,
                ⟨(some 25), none, .q (.bin false .add (.t 24) (.c (.int .i64 1)))⟩,
                ⟨(some 1), none, .a (.asg (.t 25))⟩])
              (.seq
               (.reg [⟨(some 26), none, .q (.mov (.t 0))⟩,
                 ⟨(some 27), none, .q (.mov (.t 5))⟩,
                 ⟨(some 28), none, .q (.mov (.t 1))⟩,
                 ⟨(some 29), none, .q (.iad 6 (.t 26) (.t 27))⟩,
                 ⟨(some 30), none, .q (.fad 2 (.t 29))⟩,
                 ⟨none, none, .a (.store 1 (.t 30) (.t 28))⟩])
               (.seq
                (.reg [⟨(some 31), none, .q (.mov (.t 1))⟩,
                  ⟨(some 32), none, .q (.bin false .add (.t 31) (.c (.int .i64 1)))⟩,
                  ⟨(some 1), none, .a (.asg (.t 32))⟩])
                (.seq
                 (.reg [⟨(some 33), none, .q (.mov (.t 0))⟩,
                   ⟨(some 34), none, .q (.mov (.t 5))⟩,
                   ⟨(some 35), none, .q (.iad 6 (.t 33) (.t 34))⟩,
                   ⟨(some 36), none, .q (.fad 3 (.t 35))⟩,
                   ⟨(some 37), none, .q (.load false 1 (.t 36))⟩,
                   ⟨(some 38), none, .q (.mov (.t 1))⟩,
                   ⟨(some 39), none, .a (.call (.fn 22) false [.io (.t 37), .lend (.t 38)])⟩,
                   ⟨(some 1), none, .a (.asg (.t 39))⟩])
                 (.seq
                  (.reg [⟨(some 40), none, .q (.mov (.t 0))⟩,
                    ⟨(some 41), none, .q (.mov (.t 5))⟩,
                    ⟨(some 42), none, .q (.mov (.t 1))⟩,
                    ⟨(some 43), none, .a (.call (.fn 23) false [.lend (.t 42)])⟩,
                    ⟨(some 44), none, .q (.iad 6 (.t 40) (.t 41))⟩,
                    ⟨(some 45), none, .q (.fad 4 (.t 44))⟩,
                    ⟨none, none, .a (.store 1 (.t 45) (.t 43))⟩])
                  (.seq
                   (.reg [⟨(some 46), none, .q (.mov (.t 1))⟩,
                     ⟨(some 47), none, .q (.bin false .add (.t 46) (.c (.int .i64 1)))⟩,
                     ⟨(some 1), none, .a (.asg (.t 47))⟩])
                   (.seq
                    (.reg [⟨(some 48), none, .q (.mov (.t 0))⟩,
                      ⟨(some 49), none, .q (.mov (.t 5))⟩,
                      ⟨(some 50), none, .q (.mov (.t 1))⟩,
                      ⟨(some 51), none, .a (.call (.fn 23) false [.lend (.t 50)])⟩,
                      ⟨(some 52), none, .q (.iad 6 (.t 48) (.t 49))⟩,
                      ⟨(some 53), none, .q (.fad 5 (.t 52))⟩,
                      ⟨none, none, .a (.store 1 (.t 53) (.t 51))⟩])
                    (.reg [⟨(some 54), none, .q (.mov (.t 1))⟩,
                      ⟨(some 55), none, .q (.bin false .add (.t 54) (.c (.int .i64 1)))⟩,
                      ⟨(some 1), none, .a (.asg (.t 55))⟩]))))))))))))
         (.reg [⟨(some 10), none, .q (.mov (.t 5))⟩,
           ⟨(some 11), none, .q (.bin false .add (.t 10) (.c (.int .i64 1)))⟩,
           ⟨(some 5), none, .a (.asg (.t 11))⟩]))))))
    (.seq
     (.reg [⟨(some 56), none, .q (.mov (.t 1))⟩,
       ⟨(some 4), none, .a (.asg (.t 56))⟩])
     .ret)))

set_option maxHeartbeats 1000000 in
set_option maxRecDepth 100000 in
theorem d10 (l : List Ty) (k : Int) (h0 : 0 ≤ k) (h1 : k + cntTys l ≤ 4611686018427387904) (hl : (l.length : Int) ≤ 1048576) (hs : ∀ s ∈ l, s.sm) :
    Does Go.Proofs.Try.prog 10 [.usl 43 6 (l.map Ty.o), .v (.int .i64 k)] false (.v (.int .i64 (k + cntTys l))) [.usl 43 6 ((mkTyS l k).map Ty.o), .dead] := by
  refine does_intro (mc := m10) (N := 57) (rs := [4]) (fx := [0]) 2 rfl (by decide +kernel) ?_
  simp only [m10, EV, Nat.reduceEqDiff, Nat.reduceBEq, Nat.reduceLT, Nat.reduceLeDiff, Nat.reduceAdd, Nat.reduceSub, reduceIte]
  refine awp_loop (fun p : List Ty × List Ty × Int => p.1 ++ mkTyS p.2.1 p.2.2 = mkTyS l k ∧ p.2.2 + cntTys p.2.1 = k + cntTys l ∧ 0 ≤ p.2.2 ∧ p.1.length + p.2.1.length = l.length ∧ ∀ s ∈ p.2.1, s.sm)
    (fun p => stl [(0, .usl 43 6 ((p.1 ++ p.2.1).map Ty.o)), (1, .v (.int .i64 p.2.2)), (5, .v (.int .i64 (p.1.length : Int)))]) (fun p => p.2.1.length) ([], l, k) ⟨rfl, rfl, h0, by simp, hs⟩ ?_ ?_
  · simp only [EV, Nat.reduceEqDiff, Nat.reduceBEq, Nat.reduceLT, Nat.reduceLeDiff, Nat.reduceAdd, Nat.reduceSub, reduceIte]
    rfl
  · rintro ⟨pre, post, n⟩ ⟨p0, p1, p2, p3, p4⟩
    cases post with
    | nil =>
      simp only [EV, Nat.reduceEqDiff, Nat.reduceBEq, Nat.reduceLT, Nat.reduceLeDiff, Nat.reduceAdd, Nat.reduceSub, reduceIte]
      refine cK_cut (fun h => ?_) (fun h => ?_)
      · simp at h
      · simp only [EV, Nat.reduceEqDiff, Nat.reduceBEq, Nat.reduceLT, Nat.reduceLeDiff, Nat.reduceAdd, Nat.reduceSub, reduceIte]
        simp only [List.append_nil, mkTyS] at p0
        have e : n = k + cntTys l := by simp [cntTys] at p1; omega
        simp only [p0, ← e, EV, Nat.reduceEqDiff, Nat.reduceBEq, Nat.reduceLT, Nat.reduceLeDiff, Nat.reduceAdd, Nat.reduceSub, reduceIte, evRE, retVC, cellV', evR, nfz, nfzs, nfzss, List.contains_nil, List.contains_cons, Bool.or_false, or_true]
    | cons f post =>
      simp only [EV, Nat.reduceEqDiff, Nat.reduceBEq, Nat.reduceLT, Nat.reduceLeDiff, Nat.reduceAdd, Nat.reduceSub, reduceIte]
      refine cK_cut (fun h => ?_) (fun h => ?_)
      rotate_left
      · simp at h; omega
      simp only at p0 p1 p2 p3
      have hsm := p4 f (by simp)
      unfold Ty.sm at hsm
      have hfl := hsm.2.2.2.1.1
      have hnn := cntTys_nn post
      simp only [List.length_cons] at p3
      simp only [cntTys, cntTy] at p1
      have h4 : pre.length < ((pre ++ f :: post).map Ty.o).length := by simp
      have e1 : nth ((pre ++ f :: post).map Ty.o) pre.length = f.o := nth_mid
      have e2 := set_mid (g := Ty.o) (pre := pre) (post := post) (t := f) (mkTy f n)
      generalize hR : (pre ++ f :: post).map Ty.o = R at h4 e1 e2 ⊢
      have hRl : R.length = l.length := by rw [← hR]; simp; omega
      have h5 : (pre.length : Int) < (R.length : Int) := by omega
      have w0 := w64 ((pre.length : Int) + 1) (by omega)
      have w1 := w64 (n + 1) (by omega)
      have w2 := w64 (n + 1 + 1) (by omega)
      have w3 := w64 (n + 1 + 1 + 1) (by omega)
      simp only [h4, h5, e1, nth_set h4, List.getElem?_set_self h4, modify_set, Ty.o, w0, w1, w2, w3, EV, Nat.reduceEqDiff, Nat.reduceBEq, Nat.reduceLT, Nat.reduceLeDiff, Nat.reduceAdd, Nat.reduceSub, reduceIte]
      refine callK2_i (d22 f.fields (n + 1 + 1 + 1) (by omega) (by omega)) rfl ?_ ?_
      · simp only [mkFdS_len, EV, Nat.reduceEqDiff, Nat.reduceBEq, Nat.reduceLT, Nat.reduceLeDiff, Nat.reduceAdd, Nat.reduceSub, reduceIte]
      have g1 : n + 1 + 1 = n + 2 := by omega
      have g2 : n + 2 + 1 = n + 3 := by omega
      have w4 := w64 (n + 3 + 3 * (f.fields.length : Int) + 1) (by omega)
      have w5 := w64 (n + 3 + 3 * (f.fields.length : Int) + 1 + 1) (by omega)
      simp only [g1, g2, h4, h5, e1, nth_set h4, List.getElem?_set_self h4, modify_set, w4, EV, Nat.reduceEqDiff, Nat.reduceBEq, Nat.reduceLT, Nat.reduceLeDiff, Nat.reduceAdd, Nat.reduceSub, reduceIte]
      refine callK_i (d23 (n + 3 + 3 * (f.fields.length : Int)) (by omega) (by omega)) ?_
      simp only [g1, g2, h4, h5, e1, nth_set h4, List.getElem?_set_self h4, modify_set, w4, EV, Nat.reduceEqDiff, Nat.reduceBEq, Nat.reduceLT, Nat.reduceLeDiff, Nat.reduceAdd, Nat.reduceSub, reduceIte]
      refine callK_i (d23 (n + 3 + 3 * (f.fields.length : Int) + 1) (by omega) (by omega)) ?_
      simp only [g1, g2, h4, h5, e1, nth_set h4, List.getElem?_set_self h4, modify_set, w4, w5, EV, Nat.reduceEqDiff, Nat.reduceBEq, Nat.reduceLT, Nat.reduceLeDiff, Nat.reduceAdd, Nat.reduceSub, reduceIte]
      refine ⟨(pre ++ [mkTy f n], post, n + cntTy f), ⟨?_, ?_, ?_, ?_, ?_⟩, ?_, ?_⟩
      · rw [← p0]; simp [mkTyS]
      · simp only [cntTy]; omega
      · simp only [cntTy]; omega
      · simp only [List.length_append, List.length_cons, List.length_nil]; omega
      · intro s hs'; exact p4 s (by simp; exact .inr hs')
      · simp only; omega
      · rw [mkTy_o] at e2
        have g3 : n + 3 + 3 * (f.fields.length : Int) + 1 + 1 = n + cntTy f := by unfold cntTy; omega
        have g4 : (((pre ++ [mkTy f n]).length : Nat) : Int) = (pre.length : Int) + 1 := by simp
        simp only [← e2, g3, g4, w0]

end Go.AM
namespace Go.AM
set_option linter.unusedVariables false
set_option linter.unusedSimpArgs false
theorem cnt_tot : ∀ l : List Ty, (∀ s ∈ l, s.sm) → cntTys l ≤ 5 * l.length + 3 * 1048576 * l.length
  | [], _ => by simp [cntTys]
  | t :: l, h => by
    have h1 := cnt_tot l fun s hs => h s (by simp [hs])
    have h2 := h t (by simp)
    unfold Ty.sm at h2
    have h3 := h2.2.2.2.1.1
    simp only [cntTys, cntTy, List.length_cons]
    omega

end Go.AM
namespace Go.AM
set_option linter.unusedVariables false
set_option linter.unusedSimpArgs false
noncomputable def rfOk (l : List Ty) (r : Int) : Bool := tabOk l && (decide (0 ≤ r) && decide (r ≤ 25))

noncomputable def rfL (l : List Ty) (r : Int) : List Int := if rfOk l r = true then rnd l r.toNat else []

theorem rfL_len (l : List Ty) (r : Int) : (rfL l r).length ≤ l.length := by
  unfold rfL; split
  · rw [rnd_len]; exact Nat.le_refl _
  · simp

/-- loop.example/g00837/spec.RoundFingers -/
def m5 : MC :=
  (.seq
   (.reg [⟨(some 4), none, .a (.asg (.nils 3 1))⟩,
     ⟨(some 5), none, .a (.asg (.c (.bool false)))⟩])
   (.seq
    (.seq
     (.reg [⟨(some 6), none, .q (.mov (.t 0))⟩,
       ⟨(some 7), none, .a (.call (.fn 14) false [.lend (.t 6)])⟩,
       ⟨(some 8), none, .q (.un .not (.t 7))⟩,
       ⟨(some 9), none, .q (.mov (.t 8))⟩,
       ⟨(some 10), (some (9, false)), .q (.mov (.t 1))⟩,
       ⟨(some 11), (some (9, false)), .a (.call (.fn 15) false [.lend (.t 10), .lend (.c (.int .i64 0)), .lend (.c (.int .i64 25))])⟩,
       ⟨(some 12), (some (9, false)), .q (.un .not (.t 11))⟩,
       ⟨(some 13), none, .q (.pick (.t 9) (.c (.bool true)) (.t 12))⟩])
     (.cond (.t 13)
      (.seq
       (.reg [⟨(some 4), none, .a (.asg (.nils 3 1))⟩,
         ⟨(some 5), none, .a (.asg (.c (.bool false)))⟩])
       .ret)
      .skip))
    (.seq
     (.reg [⟨(some 14), none, .q (.mov (.t 0))⟩,
       ⟨(some 15), none, .q (.mov (.t 1))⟩,
       ⟨(some 16), none, .a (.call (.fn 16) false [.lend (.t 14), .lend (.t 15)])⟩,
       ⟨(some 4), none, .a (.asg (.t 16))⟩,
       ⟨(some 5), none, .a (.asg (.c (.bool true)))⟩])
     .ret)))

set_option maxRecDepth 100000 in
theorem d5 (l : List Ty) (r : Int) (hl : (l.length : Int) ≤ 1048576) (hs : ∀ s ∈ l, s.sm) : Does Go.Proofs.Try.prog 5 [.fsl 6 (l.map Ty.z), .v (.int .i64 r)] false (.tup [.usl 3 1 ((rfL l r).map iv), .v (.bool (rfOk l r))]) [.dead, .dead] := by
  refine does_intro (mc := m5) (N := 17) (rs := [4, 5]) (fx := []) 2 rfl (by decide +kernel) ?_
  simp only [m5, EV, Nat.reduceEqDiff, Nat.reduceBEq, Nat.reduceLT, Nat.reduceLeDiff, Nat.reduceAdd, Nat.reduceSub, reduceIte]
  refine callK_i (d14 l hl hs) ?_
  simp only [EV, Nat.reduceEqDiff, Nat.reduceBEq, Nat.reduceLT, Nat.reduceLeDiff, Nat.reduceAdd, Nat.reduceSub, reduceIte]
  rcases e : tabOk l with _ | _
  · simp only [Bool.not_false, EV, Nat.reduceEqDiff, Nat.reduceBEq, Nat.reduceLT, Nat.reduceLeDiff, Nat.reduceAdd, Nat.reduceSub, reduceIte]
    simp only [rfL, rfOk, e, Bool.false_and, if_false, List.map_nil, EV, Nat.reduceEqDiff, Nat.reduceBEq, Nat.reduceLT, Nat.reduceLeDiff, Nat.reduceAdd, Nat.reduceSub, reduceIte, evRE, retVC, cellV', evR, nfz, nfzs, nfzss, List.contains_nil, List.contains_cons, Bool.or_false, or_true]
  simp only [Bool.not_true, EV, Nat.reduceEqDiff, Nat.reduceBEq, Nat.reduceLT, Nat.reduceLeDiff, Nat.reduceAdd, Nat.reduceSub, reduceIte]
  refine callK_i (d15 r 0 25) ?_
  simp only [EV, Nat.reduceEqDiff, Nat.reduceBEq, Nat.reduceLT, Nat.reduceLeDiff, Nat.reduceAdd, Nat.reduceSub, reduceIte]
  rcases e2 : (decide (0 ≤ r) && decide (r ≤ 25)) with _ | _
  · simp only [Bool.not_false, EV, Nat.reduceEqDiff, Nat.reduceBEq, Nat.reduceLT, Nat.reduceLeDiff, Nat.reduceAdd, Nat.reduceSub, reduceIte]
    simp only [rfL, rfOk, e2, Bool.and_false, if_false, List.map_nil, EV, Nat.reduceEqDiff, Nat.reduceBEq, Nat.reduceLT, Nat.reduceLeDiff, Nat.reduceAdd, Nat.reduceSub, reduceIte, evRE, retVC, cellV', evR, nfz, nfzs, nfzss, List.contains_nil, List.contains_cons, Bool.or_false, or_true]
  have e3 := e2
  simp only [Bool.and_eq_true, decide_eq_true_eq] at e3
  have h24 := tabOk_len e
  simp only [Bool.not_true, EV, Nat.reduceEqDiff, Nat.reduceBEq, Nat.reduceLT, Nat.reduceLeDiff, Nat.reduceAdd, Nat.reduceSub, reduceIte]
  refine callK_i (d16 l r h24 hs (tabOk_tys e) e3.1 e3.2) ?_
  simp only [EV, Nat.reduceEqDiff, Nat.reduceBEq, Nat.reduceLT, Nat.reduceLeDiff, Nat.reduceAdd, Nat.reduceSub, reduceIte]
  simp only [rfL, rfOk, e, e2, Bool.and_self, if_true, iv_nfz, iv_frz, EV, Nat.reduceEqDiff, Nat.reduceBEq, Nat.reduceLT, Nat.reduceLeDiff, Nat.reduceAdd, Nat.reduceSub, reduceIte, evRE, retVC, cellV', evR, nfz, nfzs, nfzss, List.contains_nil, List.contains_cons, Bool.or_false, or_true]

/-- loop.example/g00837/impl.RoundFingers -/
def m7 : MC :=
  (.seq
   (.reg [⟨(some 4), none, .a (.asg (.nils 3 1))⟩,
     ⟨(some 5), none, .a (.asg (.c (.bool false)))⟩])
   (.seq
    (.seq
     (.reg [⟨(some 6), none, .q (.mov (.t 0))⟩,
       ⟨(some 7), none, .a (.call (.fn 18) false [.lend (.t 6)])⟩,
       ⟨(some 8), none, .q (.un .not (.t 7))⟩,
       ⟨(some 9), none, .q (.mov (.t 8))⟩,
       ⟨(some 10), (some (9, false)), .q (.mov (.t 1))⟩,
       ⟨(some 11), (some (9, false)), .a (.call (.fn 19) false [.lend (.t 10), .lend (.c (.int .i64 0)), .lend (.c (.int .i64 25))])⟩,
       ⟨(some 12), (some (9, false)), .q (.un .not (.t 11))⟩,
       ⟨(some 13), none, .q (.pick (.t 9) (.c (.bool true)) (.t 12))⟩])
     (.cond (.t 13)
      (.seq
       (.reg [⟨(some 4), none, .a (.asg (.nils 3 1))⟩,
         ⟨(some 5), none, .a (.asg (.c (.bool false)))⟩])
       .ret)
      .skip))
    (.seq
     (.reg [⟨(some 14), none, .q (.mov (.t 0))⟩,
       ⟨(some 15), none, .q (.mov (.t 1))⟩,
       ⟨(some 16), none, .a (.call (.fn 20) false [.lend (.t 14), .lend (.t 15)])⟩,
       ⟨(some 4), none, .a (.asg (.t 16))⟩,
       ⟨(some 5), none, .a (.asg (.c (.bool true)))⟩])
     .ret)))

set_option maxRecDepth 100000 in
theorem d7 (l : List Ty) (r : Int) (hl : (l.length : Int) ≤ 1048576) (hs : ∀ s ∈ l, s.sm) : Does Go.Proofs.Try.prog 7 [.fsl 6 (l.map Ty.z), .v (.int .i64 r)] false (.tup [.usl 3 1 ((rfL l r).map iv), .v (.bool (rfOk l r))]) [.dead, .dead] := by
  refine does_intro (mc := m7) (N := 17) (rs := [4, 5]) (fx := []) 2 rfl (by decide +kernel) ?_
  simp only [m7, EV, Nat.reduceEqDiff, Nat.reduceBEq, Nat.reduceLT, Nat.reduceLeDiff, Nat.reduceAdd, Nat.reduceSub, reduceIte]
  refine callK_i (d18 l hl hs) ?_
  simp only [EV, Nat.reduceEqDiff, Nat.reduceBEq, Nat.reduceLT, Nat.reduceLeDiff, Nat.reduceAdd, Nat.reduceSub, reduceIte]
  rcases e : tabOk l with _ | _
  · simp only [Bool.not_false, EV, Nat.reduceEqDiff, Nat.reduceBEq, Nat.reduceLT, Nat.reduceLeDiff, Nat.reduceAdd, Nat.reduceSub, reduceIte]
    simp only [rfL, rfOk, e, Bool.false_and, if_false, List.map_nil, EV, Nat.reduceEqDiff, Nat.reduceBEq, Nat.reduceLT, Nat.reduceLeDiff, Nat.reduceAdd, Nat.reduceSub, reduceIte, evRE, retVC, cellV', evR, nfz, nfzs, nfzss, List.contains_nil, List.contains_cons, Bool.or_false, or_true]
  simp only [Bool.not_true, EV, Nat.reduceEqDiff, Nat.reduceBEq, Nat.reduceLT, Nat.reduceLeDiff, Nat.reduceAdd, Nat.reduceSub, reduceIte]
  refine callK_i (d19 r 0 25) ?_
  simp only [EV, Nat.reduceEqDiff, Nat.reduceBEq, Nat.reduceLT, Nat.reduceLeDiff, Nat.reduceAdd, Nat.reduceSub, reduceIte]
  rcases e2 : (decide (0 ≤ r) && decide (r ≤ 25)) with _ | _
  · simp only [Bool.not_false, EV, Nat.reduceEqDiff, Nat.reduceBEq, Nat.reduceLT, Nat.reduceLeDiff, Nat.reduceAdd, Nat.reduceSub, reduceIte]
    simp only [rfL, rfOk, e2, Bool.and_false, if_false, List.map_nil, EV, Nat.reduceEqDiff, Nat.reduceBEq, Nat.reduceLT, Nat.reduceLeDiff, Nat.reduceAdd, Nat.reduceSub, reduceIte, evRE, retVC, cellV', evR, nfz, nfzs, nfzss, List.contains_nil, List.contains_cons, Bool.or_false, or_true]
  have e3 := e2
  simp only [Bool.and_eq_true, decide_eq_true_eq] at e3
  have h24 := tabOk_len e
  simp only [Bool.not_true, EV, Nat.reduceEqDiff, Nat.reduceBEq, Nat.reduceLT, Nat.reduceLeDiff, Nat.reduceAdd, Nat.reduceSub, reduceIte]
  refine callK_i (d20 l r h24 hs (tabOk_tys e) e3.1 e3.2) ?_
  simp only [EV, Nat.reduceEqDiff, Nat.reduceBEq, Nat.reduceLT, Nat.reduceLeDiff, Nat.reduceAdd, Nat.reduceSub, reduceIte]
  simp only [rfL, rfOk, e, e2, Bool.and_self, if_true, iv_nfz, iv_frz, EV, Nat.reduceEqDiff, Nat.reduceBEq, Nat.reduceLT, Nat.reduceLeDiff, Nat.reduceAdd, Nat.reduceSub, reduceIte, evRE, retVC, cellV', evR, nfz, nfzs, nfzss, List.contains_nil, List.contains_cons, Bool.or_false, or_true]

/-- loop.example/g00837/laws.FnExactRoundFingers -/
def m3 : MC :=
  (.seq
   (.reg [⟨(some 4), none, .a (.asg (.c (.bool false)))⟩])
   (.keep [0, 1]
   (.seq
    (.reg [⟨(some 5), none, .a (.asg (.c (.int .i64 1048576)))⟩])
    (.keep [0, 1, 5]
    (.seq
     (.reg [⟨(some 16), none, .q (.mov (.t 0))⟩,
       ⟨(some 17), none, .q (.mov (.t 5))⟩,
       ⟨(some 18), none, .a (.call (.fn 4) false [.lend (.t 16), .lend (.t 17)])⟩,
       ⟨(some 5), none, .a (.asg (.t 18))⟩])
     (.keep [0, 1, 5]
     (.seq
      (.seq
       (.reg [⟨(some 19), none, .q (.mov (.t 5))⟩,
         ⟨(some 20), none, .q (.bin false .lss (.t 19) (.c (.int .i64 0)))⟩])
       (.keep [0, 1, 20]
       (.cond (.t 20)
        (.seq
         (.reg [⟨(some 4), none, .a (.asg (.c (.bool true)))⟩])
         .ret)
        .skip)))
      (.keep [0, 1]
      (.seq
       (.reg [⟨(some 22), none, .q (.mov (.t 0))⟩,
         ⟨(some 23), none, .a (.call (.fn 6) false [.lend (.t 22)])⟩,
         ⟨(some 24), none, .q (.mov (.t 1))⟩,
         ⟨(some 25), none, .a (.call (.fn 5) false [.lend (.t 23), .lend (.t 24)])⟩,
         ⟨(some 21), none, .a (.asg (.t 25))⟩,
         ⟨(some 26), none, .q (.ext 21 0)⟩,
         ⟨(some 27), none, .q (.ext 21 1)⟩,
         ⟨(some 6), none, .a (.asg (.t 26))⟩,
         ⟨(some 7), none, .a (.asg (.t 27))⟩])
       (.keep [0, 1, 6, 7, 21, 25, 26]
       (.seq
        (.reg [⟨(some 28), none, .q (.mov (.t 0))⟩,
          ⟨(some 29), none, .a (.call (.fn 6) false [.lend (.t 28)])⟩,
          ⟨(some 8), none, .a (.asg (.t 29))⟩])
        (.keep [0, 1, 6, 7, 8, 21, 25, 26, 29]
        (.seq
         (.reg [⟨(some 31), none, .q (.mov (.t 8))⟩,
           ⟨(some 32), none, .q (.mov (.t 1))⟩,
           ⟨(some 33), none, .a (.call (.fn 7) false [.lend (.t 31), .lend (.t 32)])⟩,
           ⟨(some 30), none, .a (.asg (.t 33))⟩,
           ⟨(some 34), none, .q (.ext 30 0)⟩,
           ⟨(some 35), none, .q (.ext 30 1)⟩,
           ⟨(some 9), none, .a (.asg (.t 34))⟩,
           ⟨(some 10), none, .a (.asg (.t 35))⟩])
         (.keep [0, 1, 6, 7, 8, 9, 10, 21, 25, 26, 29, 30, 33, 34]
         (.seq
          (.seq
           (.reg [⟨(some 36), none, .q (.mov (.t 9))⟩,
             ⟨(some 37), none, .q (.mov (.t 6))⟩,
             ⟨(some 38), none, .a (.call (.fn 8) false [.lend (.t 36), .lend (.t 37)])⟩,
             ⟨(some 39), none, .q (.un .not (.t 38))⟩,
             ⟨(some 40), none, .q (.mov (.t 39))⟩,
             ⟨(some 41), (some (40, false)), .q (.mov (.t 10))⟩,
             ⟨(some 42), (some (40, false)), .q (.mov (.t 7))⟩,
             ⟨(some 43), (some (40, false)), .q (.bin true .neq (.t 41) (.t 42))⟩,
             ⟨(some 44), none, .q (.pick (.t 40) (.c (.bool true)) (.t 43))⟩])
           (.keep [0, 1, 6, 7, 8, 9, 10, 21, 25, 26, 29, 30, 33, 34, 44]
           (.cond (.t 44)
            (.seq
             (.reg [⟨(some 4), none, .a (.asg (.c (.bool false)))⟩])
             .ret)
            .skip)))
          (.keep [0, 1, 6, 7, 8, 9, 10, 21, 25, 26, 29, 30, 33, 34]
          (.seq
           (.seq
            (.reg [⟨(some 45), none, .q (.mov (.t 8))⟩,
              ⟨(some 46), none, .q (.mov (.t 0))⟩,
              ⟨(some 47), none, .a (.call (.fn 6) false [.lend (.t 46)])⟩,
              ⟨(some 48), none, .a (.call (.fn 9) false [.lend (.t 45), .lend (.t 47)])⟩,
              ⟨(some 49), none, .q (.un .not (.t 48))⟩])
            (.keep [0, 1, 6, 7, 8, 9, 10, 21, 25, 26, 29, 30, 33, 34, 49]
            (.cond (.t 49)
             (.seq
              (.reg [⟨(some 4), none, .a (.asg (.c (.bool false)))⟩])
              .ret)
             .skip)))
           (.keep [0, 1, 6, 7, 8, 9, 10, 21, 25, 26, 29, 30, 33, 34]
           (.seq
            (.reg [⟨(some 11), none, .a (.asg (.c (.int .i64 1)))⟩])
            (.keep [0, 1, 6, 7, 8, 9, 10, 11, 21, 25, 26, 29, 30, 33, 34]
            (.seq
             (.reg [⟨(some 50), none, .q (.mov (.t 8))⟩,
               ⟨(some 51), none, .q (.mov (.t 11))⟩,
               ⟨(some 52), none, .a (.call (.fn 10) false [.io (.t 50), .lend (.t 51)])⟩,
               ⟨(some 11), none, .a (.asg (.t 52))⟩])
             (.keep [0, 1, 6, 7, 9, 10, 11, 21, 25, 26, 30, 33, 34]
             (.seq
              (.seq
               (.reg [⟨(some 53), none, .q (.mov (.t 11))⟩,
                 ⟨(some 54), none, .q (.bin false .lss (.t 53) (.c (.int .i64 0)))⟩,
                 ⟨(some 55), none, .q (.mov (.t 54))⟩,
                 ⟨(some 56), (some (55, false)), .q (.mov (.t 9))⟩,
                 ⟨(some 57), (some (55, false)), .q (.mov (.t 6))⟩,
                 ⟨(some 58), (some (55, false)), .a (.call (.fn 8) false [.lend (.t 56), .lend (.t 57)])⟩,
                 ⟨(some 59), (some (55, false)), .q (.un .not (.t 58))⟩,
                 ⟨(some 60), none, .q (.pick (.t 55) (.c (.bool true)) (.t 59))⟩,
                 ⟨(some 61), none, .q (.mov (.t 60))⟩,
                 ⟨(some 62), (some (61, false)), .q (.mov (.t 10))⟩,
                 ⟨(some 63), (some (61, false)), .q (.mov (.t 7))⟩,
                 ⟨(some 64), (some (61, false)), .q (.bin true .neq (.t 62) (.t 63))⟩,
                 ⟨(some 65), none, .q (.pick (.t 61) (.c (.bool true)) (.t 64))⟩])
               (.keep [0, 1, 6, 7, 9, 21, 25, 26, 30, 33, 34, 65]
               (.cond (.t 65)
                (.seq
                 (.reg [⟨(some 4), none, .a (.asg (.c (.bool false)))⟩])
                 .ret)
                .skip)))
              (.keep [0, 1, 6, 7, 9, 21, 25, 26, 30, 33, 34]
              (.seq
               (.reg [⟨(some 12), none, .a (.asg (.c (.int .i64 1)))⟩])
               (.keep [0, 1, 6, 7, 9, 12, 21, 25, 26, 30, 33, 34]
               (.seq
                (.reg [⟨(some 66), none, .q (.mov (.t 9))⟩,
                  ⟨(some 67), none, .q (.mov (.t 12))⟩,
                  ⟨(some 68), none, .a (.call (.fn 11) false [.io (.t 66), .lend (.t 67)])⟩,
                  ⟨(some 12), none, .a (.asg (.t 68))⟩])
                (.keep [0, 1, 6, 7, 9, 12, 21, 25, 26, 30, 33, 34]
                (.seq
                 (.reg [⟨(some 13), none, .a (.asg (.c (.int .i64 1)))⟩])
                 (.keep [0, 1, 6, 7, 9, 12, 13, 21, 25, 26, 30, 33, 34]
                 (.seq
                  (.reg [⟨(some 69), none, .q (.mov (.t 9))⟩,
                    ⟨(some 70), none, .q (.mov (.t 13))⟩,
                    ⟨(some 71), none, .a (.call (.fn 12) false [.lend (.t 69), .lend (.t 70)])⟩,
                    ⟨(some 13), none, .a (.asg (.t 71))⟩])
                  (.keep [0, 1, 6, 7, 9, 12, 13, 21, 25, 26, 30, 33, 34]
                  (.seq
                   (.seq
                    (.reg [⟨(some 72), none, .q (.mov (.t 13))⟩,
                      ⟨(some 73), none, .q (.bin false .lss (.t 72) (.c (.int .i64 0)))⟩])
                    (.keep [0, 1, 6, 7, 9, 12, 13, 21, 25, 26, 30, 33, 34, 73]
                    (.cond (.t 73)
                     (.seq
                      (.reg [⟨(some 4), none, .a (.asg (.c (.bool false)))⟩])
                      .ret)
                     .skip)))
                   (.keep [0, 1, 6, 7, 9, 12, 13, 21, 25, 26, 30, 33, 34]
                   (.seq
                    (.seq
                     (.reg [⟨(some 74), none, .q (.mov (.t 13))⟩,
                       ⟨(some 75), none, .q (.mov (.t 12))⟩,
                       ⟨(some 76), none, .q (.bin false .neq (.t 74) (.t 75))⟩])
                     (.keep [0, 1, 6, 7, 9, 12, 21, 25, 26, 30, 33, 34, 76]
                     (.cond (.t 76)
                      (.seq
                       (.reg [⟨(some 4), none, .a (.asg (.c (.bool false)))⟩])
                       .ret)
                      .skip)))
                    (.keep [0, 1, 6, 7, 9, 12, 21, 25, 26, 30, 33, 34]
                    (.seq
                     (.reg [⟨(some 78), none, .q (.mov (.t 0))⟩,
                       ⟨(some 79), none, .a (.call (.fn 6) false [.lend (.t 78)])⟩,
                       ⟨(some 80), none, .q (.mov (.t 1))⟩,
                       ⟨(some 81), none, .a (.call (.fn 7) false [.lend (.t 79), .lend (.t 80)])⟩,
                       ⟨(some 77), none, .a (.asg (.t 81))⟩,
                       ⟨(some 82), none, .q (.ext 77 0)⟩,
                       ⟨(some 83), none, .q (.ext 77 1)⟩,
                       ⟨(some 14), none, .a (.asg (.t 82))⟩,
                       ⟨(some 15), none, .a (.asg (.t 83))⟩])
                     (.keep [6, 7, 9, 12, 14, 15, 21, 25, 26, 30, 33, 34, 77, 81, 82]
                     (.seq
                      (.seq
                       (.reg [⟨(some 84), none, .q (.mov (.t 14))⟩,
                         ⟨(some 85), none, .q (.mov (.t 6))⟩,
                         ⟨(some 86), none, .a (.call (.fn 8) false [.lend (.t 84), .lend (.t 85)])⟩,
                         ⟨(some 87), none, .q (.un .not (.t 86))⟩,
                         ⟨(some 88), none, .q (.mov (.t 87))⟩,
                         ⟨(some 89), (some (88, false)), .q (.mov (.t 15))⟩,
                         ⟨(some 90), (some (88, false)), .q (.mov (.t 7))⟩,
                         ⟨(some 91), (some (88, false)), .q (.bin true .neq (.t 89) (.t 90))⟩,
                         ⟨(some 92), none, .q (.pick (.t 88) (.c (.bool true)) (.t 91))⟩])
                       (.keep [9, 12, 30, 33, 34, 92]
                       (.cond (.t 92)
                        (.seq
                         (.reg [⟨(some 4), none, .a (.asg (.c (.bool false)))⟩])
                         .ret)
                        .skip)))
                      (.keep [9, 12, 30, 33, 34]
                      (.seq
                       (.reg [⟨(some 13), none, .a (.asg (.c (.int .i64 1)))⟩])
                       (.keep [9, 12, 13, 30, 33, 34]
                       (.seq
                        (.reg [⟨(some 93), none, .q (.mov (.t 9))⟩,
                          ⟨(some 94), none, .q (.mov (.t 13))⟩,
                          ⟨(some 95), none, .a (.call (.fn 12) false [.lend (.t 93), .lend (.t 94)])⟩,
                          ⟨(some 13), none, .a (.asg (.t 95))⟩])
                        (.keep [12, 13]
                        (.seq
                         (.seq
                          (.reg [⟨(some 96), none, .q (.mov (.t 13))⟩,
                            ⟨(some 97), none, .q (.bin false .lss (.t 96) (.c (.int .i64 0)))⟩])
                          (.keep [12, 13, 97]
                          (.cond (.t 97)
                           (.seq
                            (.reg [⟨(some 4), none, .a (.asg (.c (.bool false)))⟩])
                            .ret)
                           .skip)))
                         (.keep [12, 13]
                         (.seq
                          (.seq
                           (.reg [⟨(some 98), none, .q (.mov (.t 13))⟩,
                             ⟨(some 99), none, .q (.mov (.t 12))⟩,
                             ⟨(some 100), none, .q (.bin false .neq (.t 98) (.t 99))⟩])
                           (.keep [100]
                           (.cond (.t 100)
                            (.seq
                             (.reg [⟨(some 4), none, .a (.asg (.c (.bool false)))⟩])
                             .ret)
                            .skip)))
                          (.keep []
                          (.seq
                           (.reg [⟨(some 4), none, .a (.asg (.c (.bool true)))⟩])
                           .ret)))))))))))))))))))))))))))))))))))))))))))))))))

set_option maxHeartbeats 1000000 in
set_option maxRecDepth 100000 in
theorem d3 (a : List Ty) (n : Int) (ha : (a.length : Int) ≤ 9223372036854775807) (hoa : ∀ s ∈ a, s.ok) :
    Does Go.Proofs.Try.prog 3 [.fsl 6 (a.map Ty.z), .v (.int .i64 n)] false (.v (.bool true)) [.dead, .dead] := by
  refine does_intro (mc := m3) (N := 101) (rs := [4]) (fx := []) 2 rfl (by decide +kernel) ?_
  simp only [m3, EV, Nat.reduceEqDiff, Nat.reduceBEq, Nat.reduceLT, Nat.reduceLeDiff, Nat.reduceAdd, Nat.reduceSub, reduceIte]
  refine callK_i (d4 a 1048576 (by omega) (by omega) ha hoa) ?_
  simp only [EV, Nat.reduceEqDiff, Nat.reduceBEq, Nat.reduceLT, Nat.reduceLeDiff, Nat.reduceAdd, Nat.reduceSub, reduceIte]
  refine cK_cut (fun h => ?_) (fun h => ?_)
  · simp only [EV, Nat.reduceEqDiff, Nat.reduceBEq, Nat.reduceLT, Nat.reduceLeDiff, Nat.reduceAdd, Nat.reduceSub, reduceIte]
    simp only [EV, Nat.reduceEqDiff, Nat.reduceBEq, Nat.reduceLT, Nat.reduceLeDiff, Nat.reduceAdd, Nat.reduceSub, reduceIte, evRE, retVC, cellV', evR, nfz, nfzs, nfzss, List.contains_nil, List.contains_cons, Bool.or_false, or_true]
  have h0 : 0 ≤ szTyS a 1048576 := by simpa using h
  have h1 := szTyS_tot a _ h0
  have h2 := totTys_nn a
  have h3 : (a.length : Int) ≤ 1048576 := by omega
  have hx : ∀ s ∈ a, s.sm := fun s g => s.sm_of (by have := totTys_mem a s g; omega)
  clear h
  have d34' := d5 a n h3 hx
  have d35' := d7 a n h3 hx
  have hRl := rfL_len a n
  generalize rfL a n = R at d34' d35' hRl
  generalize rfOk a n = R2 at d34' d35'
  have hR1 : (R.length : Int) ≤ 1048576 := by omega
  have hct := cnt_tot a hx
  have hcn := cntTys_nn a
  have hk1 : decide (1 + cntTys a < 0) = false := by simp; omega
  have hk2 : decide (1 + (R.length : Int) < 0) = false := by simp; omega
  simp only [EV, Nat.reduceEqDiff, Nat.reduceBEq, Nat.reduceLT, Nat.reduceLeDiff, Nat.reduceAdd, Nat.reduceSub, reduceIte]
  refine callK_i (d6 a h3 hx) ?_
  simp only [Ty.frz, iv_frz, EV, Nat.reduceEqDiff, Nat.reduceBEq, Nat.reduceLT, Nat.reduceLeDiff, Nat.reduceAdd, Nat.reduceSub, reduceIte]
  refine callK_i d34' ?_
  simp only [Ty.frz, iv_frz, EV, Nat.reduceEqDiff, Nat.reduceBEq, Nat.reduceLT, Nat.reduceLeDiff, Nat.reduceAdd, Nat.reduceSub, reduceIte]
  refine callK_i (d6 a h3 hx) ?_
  simp only [Ty.frz, iv_frz, EV, Nat.reduceEqDiff, Nat.reduceBEq, Nat.reduceLT, Nat.reduceLeDiff, Nat.reduceAdd, Nat.reduceSub, reduceIte]
  refine callK_i d35' ?_
  simp only [Ty.frz, iv_frz, EV, Nat.reduceEqDiff, Nat.reduceBEq, Nat.reduceLT, Nat.reduceLeDiff, Nat.reduceAdd, Nat.reduceSub, reduceIte]
  refine callK_i (d8 R (by omega)) ?_
  simp only [Ty.frz, iv_frz, EV, Nat.reduceEqDiff, Nat.reduceBEq, Nat.reduceLT, Nat.reduceLeDiff, Nat.reduceAdd, Nat.reduceSub, reduceIte]
  refine callK_i (d6 a h3 hx) ?_
  simp only [Ty.frz, iv_frz, EV, Nat.reduceEqDiff, Nat.reduceBEq, Nat.reduceLT, Nat.reduceLeDiff, Nat.reduceAdd, Nat.reduceSub, reduceIte]
  refine callK_i (d9 a h3 hx) ?_
  simp only [Ty.frz, iv_frz, EV, Nat.reduceEqDiff, Nat.reduceBEq, Nat.reduceLT, Nat.reduceLeDiff, Nat.reduceAdd, Nat.reduceSub, reduceIte]
  refine callK2_i (d10 a 1 (by omega) (by omega) h3 hx) rfl (by simp [shapeOf, mkTyS_len]) ?_
  simp only [Ty.frz, iv_frz, hk1, EV, Nat.reduceEqDiff, Nat.reduceBEq, Nat.reduceLT, Nat.reduceLeDiff, Nat.reduceAdd, Nat.reduceSub, reduceIte]
  refine callK_i (d8 R (by omega)) ?_
  simp only [Ty.frz, iv_frz, hk1, EV, Nat.reduceEqDiff, Nat.reduceBEq, Nat.reduceLT, Nat.reduceLeDiff, Nat.reduceAdd, Nat.reduceSub, reduceIte]
  refine callK2_i (d11 R 1 (by omega) (by omega)) rfl (by simp [shapeOf, upI_len]) ?_
  simp only [Ty.frz, iv_frz, hk1, hk2, EV, Nat.reduceEqDiff, Nat.reduceBEq, Nat.reduceLT, Nat.reduceLeDiff, Nat.reduceAdd, Nat.reduceSub, reduceIte]
  refine callK_i (d12 R.length 1 (by omega) (by omega)) ?_
  simp only [Ty.frz, iv_frz, hk1, hk2, EV, Nat.reduceEqDiff, Nat.reduceBEq, Nat.reduceLT, Nat.reduceLeDiff, Nat.reduceAdd, Nat.reduceSub, reduceIte]
  refine callK_i (d6 a h3 hx) ?_
  simp only [Ty.frz, iv_frz, hk1, hk2, EV, Nat.reduceEqDiff, Nat.reduceBEq, Nat.reduceLT, Nat.reduceLeDiff, Nat.reduceAdd, Nat.reduceSub, reduceIte]
  refine callK_i d35' ?_
  simp only [Ty.frz, iv_frz, hk1, hk2, EV, Nat.reduceEqDiff, Nat.reduceBEq, Nat.reduceLT, Nat.reduceLeDiff, Nat.reduceAdd, Nat.reduceSub, reduceIte]
  refine callK_i (d8 R (by omega)) ?_
  simp only [Ty.frz, iv_frz, hk1, hk2, EV, Nat.reduceEqDiff, Nat.reduceBEq, Nat.reduceLT, Nat.reduceLeDiff, Nat.reduceAdd, Nat.reduceSub, reduceIte]
  refine callK_i (d12 R.length 1 (by omega) (by omega)) ?_
  simp only [Ty.frz, iv_frz, hk1, hk2, EV, Nat.reduceEqDiff, Nat.reduceBEq, Nat.reduceLT, Nat.reduceLeDiff, Nat.reduceAdd, Nat.reduceSub, reduceIte]
  simp only [EV, Nat.reduceEqDiff, Nat.reduceBEq, Nat.reduceLT, Nat.reduceLeDiff, Nat.reduceAdd, Nat.reduceSub, reduceIte, evRE, retVC, cellV', evR, nfz, nfzs, nfzss, List.contains_nil, List.contains_cons, Bool.or_false, or_true]

end Go.AM
