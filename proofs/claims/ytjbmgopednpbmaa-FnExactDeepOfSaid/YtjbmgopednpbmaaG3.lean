/- Contracts of functions of the given program, for the law FnExactDeepOf: what they return and what they write, under the bounds that each theorem states. -/
import Derived.Test.YtjbmgopednpbmaaG2
namespace Go.AM
set_option linter.unusedVariables false
set_option linter.unusedSimpArgs false
theorem tyNm_comm (x o : Ty) : tyNm x o = ((x.name.toList == o.name.toList) && (x.owner.toList == o.owner.toList)) := by
  unfold tyNm
  rw [Bool.beq_comm, Bool.beq_comm (a := o.owner.toList)]

theorem tysOk_base' {l : List Ty} (h : baseOk l = false) : tysOk l = false := by
  unfold tysOk
  unfold baseOk at h
  rcases e : decide (3 ≤ (l.length : Int)) with _ | _
  · simp only [Bool.false_and]
  · rw [e, Bool.true_and] at h
    simp only [h, Bool.false_and, Bool.and_false]

theorem tysOk_long {l : List Ty} (h : 24 < (l.length : Int)) : tysOk l = false := by
  unfold tysOk
  have : decide ((l.length : Int) ≤ 24) = false := decide_eq_false (by omega)
  simp only [this, Bool.false_and, Bool.and_false]

/-- loop.example/g00837/spec.l3Nearly -/
def m110 : MC :=
  (.seq
   (.reg [⟨(some 2), none, .a (.asg (.c (.bool false)))⟩])
   (.seq
    (.seq
     (.reg [⟨(some 7), none, .q (.mov (.t 0))⟩,
       ⟨(some 8), none, .a (.call (.fn 149) false [.lend (.t 7)])⟩,
       ⟨(some 9), none, .q (.un .not (.t 8))⟩,
       ⟨(some 10), none, .q (.mov (.t 9))⟩,
       ⟨(some 11), (some (10, false)), .q (.mov (.t 0))⟩,
       ⟨(some 12), (some (10, false)), .q (.len false (.t 11))⟩,
       ⟨(some 13), (some (10, false)), .q (.bin false .gtr (.t 12) (.c (.int .i64 24)))⟩,
       ⟨(some 14), none, .q (.pick (.t 10) (.c (.bool true)) (.t 13))⟩])
     (.cond (.t 14)
      (.seq
       (.reg [⟨(some 2), none, .a (.asg (.c (.bool false)))⟩])
       .ret)
      .skip))
    (.seq
     (.seq
      (.reg [⟨(some 15), none, .q (.mov (.t 0))⟩,
        ⟨(some 16), none, .q (.slc false 6 (.t 15) (some (.c (.int .i64 3))) none)⟩,
        ⟨(some 17), none, .q (.len false (.t 16))⟩,
        ⟨(some 18), none, .q (.mov (.c (.int .i64 0)))⟩])
      (.block 0
       (.loop [0, 15, 16, 17, 18]
        (.seq
         (.reg [⟨(some 19), none, .q (.bin false .lss (.t 18) (.t 17))⟩])
         (.seq
          (.cond (.t 19)
           .skip
           (.exit 0))
          (.seq
           (.block 1
            (.seq
             (.reg [⟨(some 20), none, .q (.mov (.t 18))⟩,
               ⟨(some 21), none, .q (.iad 6 (.t 16) (.t 18))⟩,
               ⟨(some 22), none, .q (.load true 6 (.t 21))⟩,
               ⟨(some 4), none, .a (.alloc 59 [.v (.int .i64 0), .v (.int .i64 0), .v (.int .i64 0), .s 57 3, .v (.string ({ data := #[] })), .v (.string ({ data := #[] }))])⟩,
               ⟨(some 3), none, .a (.asg (.t 20))⟩,
               ⟨none, none, .a (.store 6 (.t 4) (.t 22))⟩])
             (.seq
              (.seq
               (.reg [⟨(some 23), none, .q (.mov (.t 0))⟩,
                 ⟨(some 24), none, .q (.load true 6 (.t 4))⟩,
                 ⟨(some 25), none, .a (.call (.fn 150) false [.lend (.t 23), .lend (.t 24)])⟩,
                 ⟨(some 26), none, .q (.un .not (.t 25))⟩])
               (.cond (.t 26)
                (.seq
                 (.reg [⟨(some 2), none, .a (.asg (.c (.bool false)))⟩])
                 .ret)
                .skip))
              (.seq
               (.reg [⟨(some 27), none, .q (.mov (.t 0))⟩,
                 ⟨(some 28), none, .q (.mov (.t 3))⟩,
                 ⟨(some 29), none, .q (.bin false .add (.c (.int .i64 3)) (.t 28))⟩,
                 ⟨(some 30), none, .q (.slc false 6 (.t 27) (some (.c (.int .i64 3))) (some (.t 29)))⟩,
                 ⟨(some 31), none, .q (.len false (.t 30))⟩,
                 ⟨(some 32), none, .q (.mov (.c (.int .i64 0)))⟩])
               (.block 2
                (.loop [0, 4, 15, 16, 17, 18, 27, 29, 30, 31, 32]
                 (.seq
                  (.reg [⟨(some 33), none, .q (.bin false .lss (.t 32) (.t 31))⟩])
                  (.seq
                   (.cond (.t 33)
                    .skip
                    (.exit 2))
                   (.seq
                    (.block 3
                     (.seq
                      (.reg [⟨(some 34), none, .q (.iad 6 (.t 30) (.t 32))⟩,
                        ⟨(some 35), none, .q (.load true 6 (.t 34))⟩,
                        ⟨(some 6), none, .a (.alloc 59 [.v (.int .i64 0), .v (.int .i64 0), .v (.int .i64 0), .s 57 3, .v (.string ({ data := #[] })), .v (.string ({ data := #[] }))])⟩,
                        ⟨none, none, .a (.store 6 (.t 6) (.t 35))⟩])
                      (.seq
                       (.reg [⟨(some 36), none, .q (.fad 5 (.t 4))⟩,
                         ⟨(some 37), none, .q (.load false 1 (.t 36))⟩,
                         ⟨(some 38), none, .q (.bin false .neq (.t 37) (.c (.string ({ data := #[] }))))⟩,
                         ⟨(some 39), none, .q (.mov (.t 38))⟩,
                         ⟨(some 40), (some (39, true)), .q (.fad 5 (.t 4))⟩,
                         ⟨(some 41), (some (39, true)), .q (.load false 1 (.t 40))⟩,
                         ⟨(some 42), (some (39, true)), .q (.fad 5 (.t 6))⟩,
                         ⟨(some 43), (some (39, true)), .q (.load false 1 (.t 42))⟩,
                         ⟨(some 44), (some (39, true)), .q (.bin false .eql (.t 41) (.t 43))⟩,
                         ⟨(some 45), none, .q (.pick (.t 39) (.t 44) (.c (.bool false)))⟩,
                         ⟨(some 46), none, .q (.mov (.t 45))⟩,
                         ⟨(some 47), (some (46, true)), .q (.fad 4 (.t 4))⟩,
                         ⟨(some 48), (some (46, true)), .q (.load false 1 (.t 47))⟩,
                         ⟨(some 49), (some (46, true)), .q (.fad 4 (.t 6))⟩,
                         ⟨(some 50), (some (46, true)), .q (.load false 1 (.t 49))⟩,
                         ⟨(some 51), (some (46, true)), .q (.bin false .eql (.t 48) (.t 50))⟩,
                         ⟨(some 52), none, .q (.pick (.t 46) (.t 51) (.c (.bool false)))⟩])
                       (.cond (.t 52)
                        (.seq
                         (.reg [⟨(some 2), none, .a (.asg (.c (.bool false)))⟩])
                         .ret)
                        .skip))))
                    (.reg [⟨(some 53), none, .q (.bin false .add (.t 32) (.c (.int .i64 1)))⟩,
                      ⟨(some 32), none, .q (.mov (.t 53))⟩]))))))))))
           (.reg [⟨(some 54), none, .q (.bin false .add (.t 18) (.c (.int .i64 1)))⟩,
             ⟨(some 18), none, .q (.mov (.t 54))⟩])))))))
     (.seq
      (.reg [⟨(some 2), none, .a (.asg (.c (.bool true)))⟩])
      .ret))))

set_option maxHeartbeats 1000000 in
set_option maxRecDepth 100000 in
theorem d110 (l : List Ty) (hl : (l.length : Int) ≤ 1048576) (hs : ∀ s ∈ l, s.sm) : Does Go.Proofs.Try.prog 110 [.fsl 6 (l.map Ty.z)] false (.v (.bool (tysOk l))) [.dead] := by
  refine does_intro (mc := m110) (N := 55) (rs := [2]) (fx := []) 1 rfl (by decide +kernel) ?_
  simp only [m110, EV, Nat.reduceEqDiff, Nat.reduceBEq, Nat.reduceLT, Nat.reduceLeDiff, Nat.reduceAdd, Nat.reduceSub, reduceIte]
  refine callK_i (d149 l hl) ?_
  simp only [EV, Nat.reduceEqDiff, Nat.reduceBEq, Nat.reduceLT, Nat.reduceLeDiff, Nat.reduceAdd, Nat.reduceSub, reduceIte]
  rcases hb : baseOk l with _ | _
  · have e : tysOk l = false := tysOk_base' hb
    simp only [EV, Nat.reduceEqDiff, Nat.reduceBEq, Nat.reduceLT, Nat.reduceLeDiff, Nat.reduceAdd, Nat.reduceSub, reduceIte]
    simp only [e, EV, Nat.reduceEqDiff, Nat.reduceBEq, Nat.reduceLT, Nat.reduceLeDiff, Nat.reduceAdd, Nat.reduceSub, reduceIte, retVC, cellV', evR, nfz, nfzs, nfzss, List.contains_nil, List.contains_cons, Bool.or_false, or_true]
  simp only [EV, Nat.reduceEqDiff, Nat.reduceBEq, Nat.reduceLT, Nat.reduceLeDiff, Nat.reduceAdd, Nat.reduceSub, reduceIte]
  refine cK_cut (fun h => ?_) (fun h => ?_)
  · have e : tysOk l = false := tysOk_long (by simpa using h)
    simp only [EV, Nat.reduceEqDiff, Nat.reduceBEq, Nat.reduceLT, Nat.reduceLeDiff, Nat.reduceAdd, Nat.reduceSub, reduceIte]
    simp only [e, EV, Nat.reduceEqDiff, Nat.reduceBEq, Nat.reduceLT, Nat.reduceLeDiff, Nat.reduceAdd, Nat.reduceSub, reduceIte, retVC, cellV', evR, nfz, nfzs, nfzss, List.contains_nil, List.contains_cons, Bool.or_false, or_true]
  have h24 : (l.length : Int) ≤ 24 := by have : ¬ 24 < (l.length : Int) := by simpa using h
                                         omega
  have hbo := hb
  simp only [baseOk, Bool.and_eq_true, decide_eq_true_eq] at hbo
  obtain ⟨hl3, e2⟩ := hbo
  have e1 : (decide (3 ≤ (l.length : Int)) && decide ((l.length : Int) ≤ 24)) = true := by rw [decide_eq_true hl3, decide_eq_true h24]; rfl
  clear h
  have h3 : ((3 : Nat) : Int) = 3 := rfl
  have t3 : (3 : Int).toNat = 3 := rfl
  simp only [h3, EV, Nat.reduceEqDiff, Nat.reduceBEq, Nat.reduceLT, Nat.reduceLeDiff, Nat.reduceAdd, Nat.reduceSub, reduceIte]
  refine ⟨by omega, hl3, by omega, ?_⟩
  simp only [← List.map_drop, ← List.map_take, t3]
  have hm : ∃ m, l.drop 3 = m := ⟨_, rfl⟩
  obtain ⟨m, hm⟩ := hm
  have hml : (m.length : Int) = (l.length : Int) - 3 := by rw [← hm]; simp; omega
  have hsub : ∀ x ∈ m, x ∈ l := by rw [← hm]; exact fun x hx => List.mem_of_mem_drop hx
  have p9 : ∀ i (h : i < m.length), tyAt l m i h = false → tysOk l = false := by
    subst hm; exact fun i h e => tysOk_no h e
  refine awp_loop (fun i : Nat => i ≤ m.length ∧ tyTo l m i) (fun i => stl [(0, .fsl 6 (l.map Ty.z)), (15, .fsl 6 (l.map Ty.z)), (16, .fsl 6 (m.map Ty.z)), (17, .v (.int .i64 (m.length : Int))), (18, .v (.int .i64 (i : Int)))]) (fun i => m.length - i) 0 ⟨Nat.zero_le _, fun j hj h => absurd h (by omega)⟩ ?_ ?_
  · have htk : List.take (l.length - 3) m = m := List.take_of_length_le (by omega)
    simp only [hm, htk, EV, Nat.reduceEqDiff, Nat.reduceBEq, Nat.reduceLT, Nat.reduceLeDiff, Nat.reduceAdd, Nat.reduceSub, reduceIte]
    rfl
  · rintro i ⟨hi, hok⟩
    simp only [EV, Nat.reduceEqDiff, Nat.reduceBEq, Nat.reduceLT, Nat.reduceLeDiff, Nat.reduceAdd, Nat.reduceSub, reduceIte]
    refine cK_cut (fun h => ?_) (fun h => ?_)
    · have h1 : i < m.length := by simpa using h
      have h2 : (i : Int) < (m.length : Int) := by omega
      have hso : m[i].sm := hs m[i] (hsub _ (List.getElem_mem h1))
      clear h
      have hw : IntKind.i64.wrap (3 + (i : Int)) = ((3 + i : Nat) : Int) := by rw [w64 _ (by omega)]; omega
      have hdt : List.take (3 + i - 3) (List.drop 3 (l.map Ty.z)) = (m.take i).map Ty.z := by
        rw [← hm, Nat.add_sub_cancel_left, ← List.map_drop, ← List.map_take]
      have ht : (m.take i).length = i := by simp; omega
      have hcl : Ty.z m[i] = [.v (.int .i64 m[i].kind), .v (.int .i64 m[i].long), .v (.int .i64 m[i].base), .fsl 3 (m[i].fields.map Fd.z), .v (.string m[i].owner), .v (.string m[i].name)] := rfl
      have d7 := d150 l m[i] hl hso
      rw [hcl] at d7
      have en : (m[i].name.toList == (⟨#[]⟩ : ByteArray).toList) = nil' m[i].name := rfl
      simp only [TyE, nth_map h1, h2, h3, Ty.z, EV, Nat.reduceEqDiff, Nat.reduceBEq, Nat.reduceLT, Nat.reduceLeDiff, Nat.reduceAdd, Nat.reduceSub, reduceIte]
      refine callK_i d7 ?_
      simp only [EV, Nat.reduceEqDiff, Nat.reduceBEq, Nat.reduceLT, Nat.reduceLeDiff, Nat.reduceAdd, Nat.reduceSub, reduceIte]
      rcases e5 : tyOk l m[i] with _ | _
      · have e : tysOk l = false := p9 i h1 (by simp only [tyAt, e5, Bool.and_false])
        simp only [EV, Nat.reduceEqDiff, Nat.reduceBEq, Nat.reduceLT, Nat.reduceLeDiff, Nat.reduceAdd, Nat.reduceSub, reduceIte]
        simp only [e, EV, Nat.reduceEqDiff, Nat.reduceBEq, Nat.reduceLT, Nat.reduceLeDiff, Nat.reduceAdd, Nat.reduceSub, reduceIte, retVC, cellV', evR, nfz, nfzs, nfzss, List.contains_nil, List.contains_cons, Bool.or_false, or_true]
      simp only [h3, hw, t3, EV, Nat.reduceEqDiff, Nat.reduceBEq, Nat.reduceLT, Nat.reduceLeDiff, Nat.reduceAdd, Nat.reduceSub, reduceIte]
      refine ⟨by omega, by omega, by omega, ?_⟩
      rw [hdt]
      refine awp_loop (fun k : Nat => k ≤ i ∧ (nil' m[i].name = true ∨ ((m.take i).take k).any (tyNm m[i]) = false)) (fun k => stl [(0, .fsl 6 (l.map Ty.z)), (4, .box 59 m[i].z), (15, .fsl 6 (l.map Ty.z)), (16, .fsl 6 (m.map Ty.z)), (17, .v (.int .i64 (m.length : Int))), (18, .v (.int .i64 (i : Int))), (27, .fsl 6 (l.map Ty.z)), (29, .v (.int .i64 ((3 + i : Nat) : Int))), (30, .fsl 6 ((m.take i).map Ty.z)), (31, .v (.int .i64 (i : Int))), (32, .v (.int .i64 (k : Int)))]) (fun k => i - k) 0 ⟨Nat.zero_le _, Or.inr (by simp)⟩ ?_ ?_
      · simp only [Ty.z, EV, Nat.reduceEqDiff, Nat.reduceBEq, Nat.reduceLT, Nat.reduceLeDiff, Nat.reduceAdd, Nat.reduceSub, reduceIte]
        rw [ht]
        rfl
      · rintro k ⟨hk, hno⟩
        simp only [Ty.z, EV, Nat.reduceEqDiff, Nat.reduceBEq, Nat.reduceLT, Nat.reduceLeDiff, Nat.reduceAdd, Nat.reduceSub, reduceIte]
        refine cK_cut (fun h => ?_) (fun h => ?_)
        · have k3 : k < i := by have : (k : Int) < i := by simpa using h
                                omega
          have k1 : k < (m.take i).length := by rw [ht]; exact k3
          have k2 : (k : Int) < i := by omega
          clear h
          have hnx : tyNm m[i] (m.take i)[k] = false → ∃ a, (a ≤ i ∧ (nil' m[i].name = true ∨ ((m.take i).take a).any (tyNm m[i]) = false)) ∧ i - a < i - k ∧ a = k + 1 := by
            intro e
            refine ⟨k + 1, ⟨by omega, ?_⟩, by omega, rfl⟩
            rcases hno with hno | hno
            · exact .inl hno
            · exact .inr (any_take k1 hno e)
          simp only [TyE, nth_map k1, k2, k3, ht, Ty.z, EV, Nat.reduceEqDiff, Nat.reduceBEq, Nat.reduceLT, Nat.reduceLeDiff, Nat.reduceAdd, Nat.reduceSub, reduceIte]
          rw [en]
          have hcm := tyNm_comm m[i] (m.take i)[k]
          rcases e3 : nil' m[i].name with _ | _
          · simp only [Bool.not_false, TyE, nth_map k1, k2, k3, ht, Ty.z, EV, Nat.reduceEqDiff, Nat.reduceBEq, Nat.reduceLT, Nat.reduceLeDiff, Nat.reduceAdd, Nat.reduceSub, reduceIte]
            repeat' (first
    | (refine gK_cut (fun h => ?_) (fun h => ?_) <;> simp only [h, EV, Nat.reduceEqDiff, Nat.reduceBEq, Nat.reduceLT, Nat.reduceLeDiff, Nat.reduceAdd, Nat.reduceSub, reduceIte])
    | (refine cK_cut (fun h => ?_) (fun h => ?_) <;> simp only [h, EV, Nat.reduceEqDiff, Nat.reduceBEq, Nat.reduceLT, Nat.reduceLeDiff, Nat.reduceAdd, Nat.reduceSub, reduceIte]))
            all_goals first
              | (have e4 : tyNm m[i] (m.take i)[k] = true := by rw [hcm]; simp only [*, Bool.and_self]
                 have e : tysOk l = false := p9 i h1 (by
                   have := any_at k1 e4
                   simp only [tyAt, e3, this, Bool.not_false, Bool.true_and, Bool.not_true, Bool.false_and])
                 simp only [e, EV, Nat.reduceEqDiff, Nat.reduceBEq, Nat.reduceLT, Nat.reduceLeDiff, Nat.reduceAdd, Nat.reduceSub, reduceIte, retVC, cellV', evR, nfz, nfzs, nfzss, List.contains_nil, List.contains_cons, Bool.or_false, or_true]
                 done)
              | (have e4 : tyNm m[i] (m.take i)[k] = false := by rw [hcm]; simp only [*, Bool.false_and, Bool.and_false]
                 obtain ⟨a, q1, q2, rfl⟩ := hnx e4
                 rw [w64 _ (by omega)]
                 exact ⟨k + 1, ⟨q1.1, by rcases q1.2 with q | q; exact absurd (e3.symm.trans q) Bool.false_ne_true; exact Or.inr q⟩, q2, rfl⟩)
          · simp only [Bool.not_true, EV, Nat.reduceEqDiff, Nat.reduceBEq, Nat.reduceLT, Nat.reduceLeDiff, Nat.reduceAdd, Nat.reduceSub, reduceIte]
            rw [w64 _ (by omega)]
            exact ⟨k + 1, ⟨by omega, Or.inl trivial⟩, by omega, rfl⟩
        · have k1 : k = i := by have : ¬ (k : Int) < i := by simpa using h
                                omega
          subst k1
          have hq : tyAt l m k h1 = true := by
            simp only [tyAt, e5, Bool.and_true]
            rcases hno with hno | hno
            · rw [hno]; rfl
            · rw [List.take_take, Nat.min_self] at hno
              rw [hno, Bool.and_false]; rfl
          simp only [EV, Nat.reduceEqDiff, Nat.reduceBEq, Nat.reduceLT, Nat.reduceLeDiff, Nat.reduceAdd, Nat.reduceSub, reduceIte]
          rw [w64 _ (by omega)]
          exact ⟨k + 1, ⟨h1, tyTo_succ h1 hok hq⟩, by omega, rfl⟩
    · have h1 : i = m.length := by have : ¬ (i : Int) < m.length := by simpa using h
                                   omega
      subst h1
      have e : tysOk l = true := tysOk_yes e1 e2 (by rw [hm]; exact hok)
      simp only [EV, Nat.reduceEqDiff, Nat.reduceBEq, Nat.reduceLT, Nat.reduceLeDiff, Nat.reduceAdd, Nat.reduceSub, reduceIte]
      simp only [e, EV, Nat.reduceEqDiff, Nat.reduceBEq, Nat.reduceLT, Nat.reduceLeDiff, Nat.reduceAdd, Nat.reduceSub, reduceIte, retVC, cellV', evR, nfz, nfzs, nfzss, List.contains_nil, List.contains_cons, Bool.or_false, or_true]

end Go.AM
namespace Go.AM
set_option linter.unusedVariables false
set_option linter.unusedSimpArgs false
def noRd (l : List Ty) (n : Nat) : Prop := ∀ j : Nat, j < n → roundAt l (j : Int) = false

theorem tabOk_yes {l : List Ty} (h : tysOk l = true) (h2 : noRd l l.length) : tabOk l = true := by
  simp only [tabOk, h, Bool.true_and, List.all_eq_true, List.mem_range]
  intro n hn
  rw [h2 n hn]; rfl

theorem tabOk_no {l : List Ty} {i : Nat} (h : i < l.length) (h2 : roundAt l (i : Int) = true) : tabOk l = false := by
  rcases e : tabOk l with _ | _
  · rfl
  · have := tabOk_round e (n := (i : Int)) (by omega) (by omega)
    rw [h2] at this; cases this

theorem tabOk_tno {l : List Ty} (h : tysOk l = false) : tabOk l = false := by simp only [tabOk, h, Bool.false_and]

/-- loop.example/g00837/impl.isTable -/
def m79 : MC :=
  (.seq
   (.reg [⟨(some 2), none, .a (.asg (.c (.bool false)))⟩])
   (.seq
    (.seq
     (.reg [⟨(some 4), none, .q (.mov (.t 0))⟩,
       ⟨(some 5), none, .a (.call (.fn 108) false [.lend (.t 4)])⟩,
       ⟨(some 6), none, .q (.un .not (.t 5))⟩])
     (.cond (.t 6)
      (.seq
       (.reg [⟨(some 2), none, .a (.asg (.c (.bool false)))⟩])
       .ret)
      .skip))
    (.seq
     (.seq
      (.reg [⟨(some 7), none, .q (.mov (.t 0))⟩,
        ⟨(some 8), none, .q (.len false (.t 7))⟩,
        ⟨(some 9), none, .q (.mov (.c (.int .i64 0)))⟩])
      (.block 0
       (.loop [0, 8, 9]
        (.seq
         (.reg [⟨(some 10), none, .q (.bin false .lss (.t 9) (.t 8))⟩])
         (.seq
          (.cond (.t 10)
           .skip
           (.exit 0))
          (.seq
           (.block 1
            (.seq
             (.reg [⟨(some 11), none, .q (.mov (.t 9))⟩,
               ⟨(some 3), none, .a (.asg (.t 11))⟩])
             (.seq
              (.reg [⟨(some 12), none, .q (.mov (.t 0))⟩,
                ⟨(some 13), none, .q (.mov (.t 3))⟩,
                ⟨(some 14), none, .a (.call (.fn 109) false [.lend (.t 12), .lend (.t 13)])⟩])
              (.cond (.t 14)
               (.seq
                (.reg [⟨(some 2), none, .a (.asg (.c (.bool false)))⟩])
                .ret)
               .skip))))
           (.reg [⟨(some 15), none, .q (.bin false .add (.t 9) (.c (.int .i64 1)))⟩,
             ⟨(some 9), none, .q (.mov (.t 15))⟩])))))))
     (.seq
      (.reg [⟨(some 2), none, .a (.asg (.c (.bool true)))⟩])
      .ret))))

set_option maxRecDepth 100000 in
theorem d79 (l : List Ty) (hl : (l.length : Int) ≤ 1048576) (hs : ∀ s ∈ l, s.sm) : Does Go.Proofs.Try.prog 79 [.fsl 6 (l.map Ty.z)] false (.v (.bool (tabOk l))) [.dead] := by
  refine does_intro (mc := m79) (N := 16) (rs := [2]) (fx := []) 1 rfl (by decide +kernel) ?_
  simp only [m79, EV, Nat.reduceEqDiff, Nat.reduceBEq, Nat.reduceLT, Nat.reduceLeDiff, Nat.reduceAdd, Nat.reduceSub, reduceIte]
  refine callK_i (d108 l hl hs) ?_
  simp only [EV, Nat.reduceEqDiff, Nat.reduceBEq, Nat.reduceLT, Nat.reduceLeDiff, Nat.reduceAdd, Nat.reduceSub, reduceIte]
  rcases ht : tysOk l with _ | _
  · have e : tabOk l = false := tabOk_tno ht
    simp only [Bool.not_false, EV, Nat.reduceEqDiff, Nat.reduceBEq, Nat.reduceLT, Nat.reduceLeDiff, Nat.reduceAdd, Nat.reduceSub, reduceIte]
    simp only [e, EV, Nat.reduceEqDiff, Nat.reduceBEq, Nat.reduceLT, Nat.reduceLeDiff, Nat.reduceAdd, Nat.reduceSub, reduceIte, retVC, cellV', evR, nfz, nfzs, nfzss, List.contains_nil, List.contains_cons, Bool.or_false, or_true]
  simp only [Bool.not_true, EV, Nat.reduceEqDiff, Nat.reduceBEq, Nat.reduceLT, Nat.reduceLeDiff, Nat.reduceAdd, Nat.reduceSub, reduceIte]
  refine awp_loop (fun i : Nat => i ≤ l.length ∧ noRd l i) (fun i => stl [(0, .fsl 6 (l.map Ty.z)), (8, .v (.int .i64 (l.length : Int))), (9, .v (.int .i64 (i : Int)))]) (fun i => l.length - i) 0 ⟨Nat.zero_le _, fun j h => absurd h (by omega)⟩ ?_ ?_
  · simp only [EV, Nat.reduceEqDiff, Nat.reduceBEq, Nat.reduceLT, Nat.reduceLeDiff, Nat.reduceAdd, Nat.reduceSub, reduceIte]
    rfl
  · rintro i ⟨hi, hno⟩
    simp only [EV, Nat.reduceEqDiff, Nat.reduceBEq, Nat.reduceLT, Nat.reduceLeDiff, Nat.reduceAdd, Nat.reduceSub, reduceIte]
    refine cK_cut (fun h => ?_) (fun h => ?_)
    · have h1 : i < l.length := by simpa using h
      simp only [EV, Nat.reduceEqDiff, Nat.reduceBEq, Nat.reduceLT, Nat.reduceLeDiff, Nat.reduceAdd, Nat.reduceSub, reduceIte]
      refine callK_i (d109 l (i : Int) hl hs ht (by omega) (by omega)) ?_
      simp only [EV, Nat.reduceEqDiff, Nat.reduceBEq, Nat.reduceLT, Nat.reduceLeDiff, Nat.reduceAdd, Nat.reduceSub, reduceIte]
      rcases e1 : roundAt l (i : Int) with _ | _
      · simp only [EV, Nat.reduceEqDiff, Nat.reduceBEq, Nat.reduceLT, Nat.reduceLeDiff, Nat.reduceAdd, Nat.reduceSub, reduceIte]
        rw [w64 _ (by omega)]
        refine ⟨i + 1, ⟨h1, fun j hj => ?_⟩, by omega, rfl⟩
        by_cases e : j = i
        · subst e; exact e1
        · exact hno j (by omega)
      · have e : tabOk l = false := tabOk_no h1 e1
        simp only [EV, Nat.reduceEqDiff, Nat.reduceBEq, Nat.reduceLT, Nat.reduceLeDiff, Nat.reduceAdd, Nat.reduceSub, reduceIte]
        simp only [e, EV, Nat.reduceEqDiff, Nat.reduceBEq, Nat.reduceLT, Nat.reduceLeDiff, Nat.reduceAdd, Nat.reduceSub, reduceIte, retVC, cellV', evR, nfz, nfzs, nfzss, List.contains_nil, List.contains_cons, Bool.or_false, or_true]
    · have h1 : i = l.length := by have : ¬ (i : Int) < l.length := by simpa using h
                                   omega
      subst h1
      have e : tabOk l = true := tabOk_yes ht hno
      simp only [EV, Nat.reduceEqDiff, Nat.reduceBEq, Nat.reduceLT, Nat.reduceLeDiff, Nat.reduceAdd, Nat.reduceSub, reduceIte]
      simp only [e, EV, Nat.reduceEqDiff, Nat.reduceBEq, Nat.reduceLT, Nat.reduceLeDiff, Nat.reduceAdd, Nat.reduceSub, reduceIte, retVC, cellV', evR, nfz, nfzs, nfzss, List.contains_nil, List.contains_cons, Bool.or_false, or_true]

/-- loop.example/g00837/spec.l3Good -/
def m82 : MC :=
  (.seq
   (.reg [⟨(some 2), none, .a (.asg (.c (.bool false)))⟩])
   (.seq
    (.seq
     (.reg [⟨(some 4), none, .q (.mov (.t 0))⟩,
       ⟨(some 5), none, .a (.call (.fn 110) false [.lend (.t 4)])⟩,
       ⟨(some 6), none, .q (.un .not (.t 5))⟩])
     (.cond (.t 6)
      (.seq
       (.reg [⟨(some 2), none, .a (.asg (.c (.bool false)))⟩])
       .ret)
      .skip))
    (.seq
     (.seq
      (.reg [⟨(some 7), none, .q (.mov (.t 0))⟩,
        ⟨(some 8), none, .q (.len false (.t 7))⟩,
        ⟨(some 9), none, .q (.mov (.c (.int .i64 0)))⟩])
      (.block 0
       (.loop [0, 8, 9]
        (.seq
         (.reg [⟨(some 10), none, .q (.bin false .lss (.t 9) (.t 8))⟩])
         (.seq
          (.cond (.t 10)
           .skip
           (.exit 0))
          (.seq
           (.block 1
            (.seq
             (.reg [⟨(some 11), none, .q (.mov (.t 9))⟩,
               ⟨(some 3), none, .a (.asg (.t 11))⟩])
             (.seq
              (.reg [⟨(some 12), none, .q (.mov (.t 0))⟩,
                ⟨(some 13), none, .q (.mov (.t 3))⟩,
                ⟨(some 14), none, .a (.call (.fn 111) false [.lend (.t 12), .lend (.t 13)])⟩])
              (.cond (.t 14)
               (.seq
                (.reg [⟨(some 2), none, .a (.asg (.c (.bool false)))⟩])
                .ret)
               .skip))))
           (.reg [⟨(some 15), none, .q (.bin false .add (.t 9) (.c (.int .i64 1)))⟩,
             ⟨(some 9), none, .q (.mov (.t 15))⟩])))))))
     (.seq
      (.reg [⟨(some 2), none, .a (.asg (.c (.bool true)))⟩])
      .ret))))

set_option maxRecDepth 100000 in
theorem d82 (l : List Ty) (hl : (l.length : Int) ≤ 1048576) (hs : ∀ s ∈ l, s.sm) : Does Go.Proofs.Try.prog 82 [.fsl 6 (l.map Ty.z)] false (.v (.bool (tabOk l))) [.dead] := by
  refine does_intro (mc := m82) (N := 16) (rs := [2]) (fx := []) 1 rfl (by decide +kernel) ?_
  simp only [m82, EV, Nat.reduceEqDiff, Nat.reduceBEq, Nat.reduceLT, Nat.reduceLeDiff, Nat.reduceAdd, Nat.reduceSub, reduceIte]
  refine callK_i (d110 l hl hs) ?_
  simp only [EV, Nat.reduceEqDiff, Nat.reduceBEq, Nat.reduceLT, Nat.reduceLeDiff, Nat.reduceAdd, Nat.reduceSub, reduceIte]
  rcases ht : tysOk l with _ | _
  · have e : tabOk l = false := tabOk_tno ht
    simp only [Bool.not_false, EV, Nat.reduceEqDiff, Nat.reduceBEq, Nat.reduceLT, Nat.reduceLeDiff, Nat.reduceAdd, Nat.reduceSub, reduceIte]
    simp only [e, EV, Nat.reduceEqDiff, Nat.reduceBEq, Nat.reduceLT, Nat.reduceLeDiff, Nat.reduceAdd, Nat.reduceSub, reduceIte, retVC, cellV', evR, nfz, nfzs, nfzss, List.contains_nil, List.contains_cons, Bool.or_false, or_true]
  simp only [Bool.not_true, EV, Nat.reduceEqDiff, Nat.reduceBEq, Nat.reduceLT, Nat.reduceLeDiff, Nat.reduceAdd, Nat.reduceSub, reduceIte]
  refine awp_loop (fun i : Nat => i ≤ l.length ∧ noRd l i) (fun i => stl [(0, .fsl 6 (l.map Ty.z)), (8, .v (.int .i64 (l.length : Int))), (9, .v (.int .i64 (i : Int)))]) (fun i => l.length - i) 0 ⟨Nat.zero_le _, fun j h => absurd h (by omega)⟩ ?_ ?_
  · simp only [EV, Nat.reduceEqDiff, Nat.reduceBEq, Nat.reduceLT, Nat.reduceLeDiff, Nat.reduceAdd, Nat.reduceSub, reduceIte]
    rfl
  · rintro i ⟨hi, hno⟩
    simp only [EV, Nat.reduceEqDiff, Nat.reduceBEq, Nat.reduceLT, Nat.reduceLeDiff, Nat.reduceAdd, Nat.reduceSub, reduceIte]
    refine cK_cut (fun h => ?_) (fun h => ?_)
    · have h1 : i < l.length := by simpa using h
      simp only [EV, Nat.reduceEqDiff, Nat.reduceBEq, Nat.reduceLT, Nat.reduceLeDiff, Nat.reduceAdd, Nat.reduceSub, reduceIte]
      refine callK_i (d111 l (i : Int) hl hs ht (by omega) (by omega)) ?_
      simp only [EV, Nat.reduceEqDiff, Nat.reduceBEq, Nat.reduceLT, Nat.reduceLeDiff, Nat.reduceAdd, Nat.reduceSub, reduceIte]
      rcases e1 : roundAt l (i : Int) with _ | _
      · simp only [EV, Nat.reduceEqDiff, Nat.reduceBEq, Nat.reduceLT, Nat.reduceLeDiff, Nat.reduceAdd, Nat.reduceSub, reduceIte]
        rw [w64 _ (by omega)]
        refine ⟨i + 1, ⟨h1, fun j hj => ?_⟩, by omega, rfl⟩
        by_cases e : j = i
        · subst e; exact e1
        · exact hno j (by omega)
      · have e : tabOk l = false := tabOk_no h1 e1
        simp only [EV, Nat.reduceEqDiff, Nat.reduceBEq, Nat.reduceLT, Nat.reduceLeDiff, Nat.reduceAdd, Nat.reduceSub, reduceIte]
        simp only [e, EV, Nat.reduceEqDiff, Nat.reduceBEq, Nat.reduceLT, Nat.reduceLeDiff, Nat.reduceAdd, Nat.reduceSub, reduceIte, retVC, cellV', evR, nfz, nfzs, nfzss, List.contains_nil, List.contains_cons, Bool.or_false, or_true]
    · have h1 : i = l.length := by have : ¬ (i : Int) < l.length := by simpa using h
                                   omega
      subst h1
      have e : tabOk l = true := tabOk_yes ht hno
      simp only [EV, Nat.reduceEqDiff, Nat.reduceBEq, Nat.reduceLT, Nat.reduceLeDiff, Nat.reduceAdd, Nat.reduceSub, reduceIte]
      simp only [e, EV, Nat.reduceEqDiff, Nat.reduceBEq, Nat.reduceLT, Nat.reduceLeDiff, Nat.reduceAdd, Nat.reduceSub, reduceIte, retVC, cellV', evR, nfz, nfzs, nfzss, List.contains_nil, List.contains_cons, Bool.or_false, or_true]

end Go.AM
namespace Go.AM
set_option linter.unusedVariables false
set_option linter.unusedSimpArgs false
def baseAt (l : List Ty) (n : Int) : Int := match l[n.toNat]? with
  | some t => t.base
  | none => -1

theorem baseAt_eq {l : List Ty} {n : Int} (h : n.toNat < l.length) : baseAt l n = l[n.toNat].base := by simp [baseAt, h]

def chainF (l : List Ty) : Nat → Int → List Int
  | 0, _ => []
  | f + 1, n => if n < 0 then [] else n :: chainF l f (baseAt l n)

def lineL (l : List Ty) (n : Int) : List Int := chainF l (l.length + 1) n

/-- An end or a record. -/
def isL (l : List Ty) (n : Int) : Prop := n < 0 ∨ isRec l n = true

theorem isRec_in {l : List Ty} {n : Int} (h : isRec l n = true) : 0 ≤ n ∧ n < (l.length : Int) ∧ ∃ hn : n.toNat < l.length, l[n.toNat].kind = 5 := by
  simp only [isRec, Bool.and_eq_true, beq_iff_eq] at h
  obtain ⟨h0, h1, hn, hk⟩ := isNum_lt h.1
  exact ⟨h0, h1, hn, by rw [← hk]; exact h.2⟩

theorem isRec_base {l : List Ty} (ht : tysOk l = true) {n : Int} (h : isRec l n = true) : isL l (baseAt l n) ∧ (0 ≤ baseAt l n → baseAt l n ∈ kids l false n) := by
  obtain ⟨h0, h1, hn, hk⟩ := isRec_in h
  have G := tysOk_good ht hn
  rw [baseAt_eq hn]
  refine ⟨(G.rec5 hk).elim (fun e => .inl (by omega)) .inr, fun hb => ?_⟩
  rw [kids_at hn]
  have e6 : (l[n.toNat].kind == 6) = false := by rw [hk]; rfl
  simp only [prt, e6, hb, decide_true, Bool.not_false, Bool.or_true, Bool.and_self, if_true, List.mem_append, List.mem_singleton, true_or]

theorem rk_le (l : List Ty) (n : Int) : rk l n ≤ l.length := by
  unfold rk reachL
  refine Nat.le_trans (List.length_filter_le _ _) ?_
  simp

theorem chainF_irr {l : List Ty} (ht : tabOk l = true) : ∀ (f f' : Nat) (n : Int), isL l n → rk l n < f → rk l n < f' → chainF l f n = chainF l f' n
  | 0, _, n, _, h, _ => absurd h (by omega)
  | f + 1, 0, n, _, _, h => absurd h (by omega)
  | f + 1, f' + 1, n, hn, h, h' => by
    unfold chainF
    by_cases h0 : n < 0
    · rw [if_pos h0, if_pos h0]
    · rw [if_neg h0, if_neg h0]
      have hr : isRec l n = true := hn.resolve_left h0
      obtain ⟨b1, b2⟩ := isRec_base (tabOk_tys ht) hr
      obtain ⟨g0, g1, _⟩ := isRec_in hr
      by_cases hb : baseAt l n < 0
      · have e : ∀ g, chainF l g (baseAt l n) = [] := by
          intro g; cases g with
          | zero => rfl
          | succ g => unfold chainF; rw [if_pos hb]
        rw [e, e]
      · have hlt := rk_lt ht g0 g1 (b2 (by omega))
        rw [chainF_irr ht f f' (baseAt l n) b1 (by omega) (by omega)]

theorem lineL_neg {l : List Ty} {n : Int} (h : n < 0) : lineL l n = [] := by unfold lineL chainF; rw [if_pos h]

theorem lineL_rec {l : List Ty} (ht : tabOk l = true) {n : Int} (h : isRec l n = true) : lineL l n = n :: lineL l (baseAt l n) := by
  obtain ⟨b1, b2⟩ := isRec_base (tabOk_tys ht) h
  obtain ⟨g0, g1, _⟩ := isRec_in h
  unfold lineL
  rw [chainF]
  rw [if_neg (by omega)]
  by_cases hb : baseAt l n < 0
  · have e : ∀ g, chainF l g (baseAt l n) = [] := by
      intro g; cases g with
      | zero => rfl
      | succ g => unfold chainF; rw [if_pos hb]
    rw [e, e]
  · have hlt := rk_lt ht g0 g1 (b2 (by omega))
    have := rk_le l n
    rw [chainF_irr ht l.length (l.length + 1) _ b1 (by omega) (by omega)]

theorem chainF_len (l : List Ty) : ∀ (f : Nat) (n : Int), (chainF l f n).length ≤ f
  | 0, n => by simp [chainF]
  | f + 1, n => by
    unfold chainF
    split
    · simp
    · have := chainF_len l f (baseAt l n)
      simp; omega

theorem lineL_len (l : List Ty) (n : Int) : (lineL l n).length ≤ l.length + 1 := chainF_len _ _ _

theorem tabOk_len {l : List Ty} (h : tabOk l = true) : l.length ≤ 24 := (tysOk_len (tabOk_tys h)).2

noncomputable def recOk (l : List Ty) (n : Int) : Bool := tabOk l && isRec l n

/-- loop.example/g00837/impl.areRecords -/
def m73 : MC :=
  (.seq
   (.reg [⟨(some 4), none, .a (.asg (.c (.bool false)))⟩])
   (.seq
    (.reg [⟨(some 5), none, .q (.mov (.t 0))⟩,
      ⟨(some 6), none, .a (.call (.fn 79) false [.lend (.t 5)])⟩,
      ⟨(some 7), none, .q (.mov (.t 6))⟩,
      ⟨(some 8), (some (7, true)), .q (.mov (.t 0))⟩,
      ⟨(some 9), (some (7, true)), .q (.mov (.t 1))⟩,
      ⟨(some 10), (some (7, true)), .a (.call (.fn 98) false [.lend (.t 8), .lend (.t 9)])⟩,
      ⟨(some 11), none, .q (.pick (.t 7) (.t 10) (.c (.bool false)))⟩,
      ⟨(some 4), none, .a (.asg (.t 11))⟩])
    .ret))

theorem d73 (l : List Ty) (n : Int) (hl : (l.length : Int) ≤ 1048576) (hs : ∀ s ∈ l, s.sm) : Does Go.Proofs.Try.prog 73 [.fsl 6 (l.map Ty.z), .v (.int .i64 n)] false (.v (.bool (recOk l n))) [.dead, .dead] := by
  refine does_intro (mc := m73) (N := 12) (rs := [4]) (fx := []) 2 rfl (by decide +kernel) ?_
  simp only [m73, EV, Nat.reduceEqDiff, Nat.reduceBEq, Nat.reduceLT, Nat.reduceLeDiff, Nat.reduceAdd, Nat.reduceSub, reduceIte]
  refine callK_i (d79 l hl hs) ?_
  simp only [EV, Nat.reduceEqDiff, Nat.reduceBEq, Nat.reduceLT, Nat.reduceLeDiff, Nat.reduceAdd, Nat.reduceSub, reduceIte]
  rcases e : tabOk l with _ | _
  · simp only [EV, Nat.reduceEqDiff, Nat.reduceBEq, Nat.reduceLT, Nat.reduceLeDiff, Nat.reduceAdd, Nat.reduceSub, reduceIte]
    simp only [recOk, e, Bool.false_and, EV, Nat.reduceEqDiff, Nat.reduceBEq, Nat.reduceLT, Nat.reduceLeDiff, Nat.reduceAdd, Nat.reduceSub, reduceIte, retVC, cellV', evR, nfz, nfzs, nfzss, List.contains_nil, List.contains_cons, Bool.or_false, or_true]
  · simp only [EV, Nat.reduceEqDiff, Nat.reduceBEq, Nat.reduceLT, Nat.reduceLeDiff, Nat.reduceAdd, Nat.reduceSub, reduceIte]
    refine callK_i (d98 l n hl) ?_
    simp only [EV, Nat.reduceEqDiff, Nat.reduceBEq, Nat.reduceLT, Nat.reduceLeDiff, Nat.reduceAdd, Nat.reduceSub, reduceIte]
    simp only [recOk, e, Bool.true_and, EV, Nat.reduceEqDiff, Nat.reduceBEq, Nat.reduceLT, Nat.reduceLeDiff, Nat.reduceAdd, Nat.reduceSub, reduceIte, retVC, cellV', evR, nfz, nfzs, nfzss, List.contains_nil, List.contains_cons, Bool.or_false, or_true]

/-- loop.example/g00837/spec.l10Record -/
def m71 : MC :=
  (.seq
   (.reg [⟨(some 4), none, .a (.asg (.c (.bool false)))⟩])
   (.seq
    (.reg [⟨(some 5), none, .q (.mov (.t 0))⟩,
      ⟨(some 6), none, .a (.call (.fn 82) false [.lend (.t 5)])⟩,
      ⟨(some 7), none, .q (.mov (.t 6))⟩,
      ⟨(some 8), (some (7, true)), .q (.mov (.t 0))⟩,
      ⟨(some 9), (some (7, true)), .q (.mov (.t 1))⟩,
      ⟨(some 10), (some (7, true)), .a (.call (.fn 100) false [.lend (.t 8), .lend (.t 9), .lend (.c (.int .i64 5)), .lend (.c (.int .i64 5))])⟩,
      ⟨(some 11), none, .q (.pick (.t 7) (.t 10) (.c (.bool false)))⟩,
      ⟨(some 4), none, .a (.asg (.t 11))⟩])
    .ret))

theorem d71 (l : List Ty) (n : Int) (hl : (l.length : Int) ≤ 1048576) (hs : ∀ s ∈ l, s.sm) : Does Go.Proofs.Try.prog 71 [.fsl 6 (l.map Ty.z), .v (.int .i64 n)] false (.v (.bool (recOk l n))) [.dead, .dead] := by
  refine does_intro (mc := m71) (N := 12) (rs := [4]) (fx := []) 2 rfl (by decide +kernel) ?_
  simp only [m71, EV, Nat.reduceEqDiff, Nat.reduceBEq, Nat.reduceLT, Nat.reduceLeDiff, Nat.reduceAdd, Nat.reduceSub, reduceIte]
  refine callK_i (d82 l hl hs) ?_
  simp only [EV, Nat.reduceEqDiff, Nat.reduceBEq, Nat.reduceLT, Nat.reduceLeDiff, Nat.reduceAdd, Nat.reduceSub, reduceIte]
  rcases e : tabOk l with _ | _
  · simp only [EV, Nat.reduceEqDiff, Nat.reduceBEq, Nat.reduceLT, Nat.reduceLeDiff, Nat.reduceAdd, Nat.reduceSub, reduceIte]
    simp only [recOk, e, Bool.false_and, EV, Nat.reduceEqDiff, Nat.reduceBEq, Nat.reduceLT, Nat.reduceLeDiff, Nat.reduceAdd, Nat.reduceSub, reduceIte, retVC, cellV', evR, nfz, nfzs, nfzss, List.contains_nil, List.contains_cons, Bool.or_false, or_true]
  · simp only [EV, Nat.reduceEqDiff, Nat.reduceBEq, Nat.reduceLT, Nat.reduceLeDiff, Nat.reduceAdd, Nat.reduceSub, reduceIte]
    refine callK_i (d100 l n 5 5 hl) ?_
    rw [kindIn_same]
    simp only [EV, Nat.reduceEqDiff, Nat.reduceBEq, Nat.reduceLT, Nat.reduceLeDiff, Nat.reduceAdd, Nat.reduceSub, reduceIte]
    have e2 : (isNum l n && kd l n == 5) = isRec l n := rfl
    simp only [recOk, e, e2, Bool.true_and, EV, Nat.reduceEqDiff, Nat.reduceBEq, Nat.reduceLT, Nat.reduceLeDiff, Nat.reduceAdd, Nat.reduceSub, reduceIte, retVC, cellV', evR, nfz, nfzs, nfzss, List.contains_nil, List.contains_cons, Bool.or_false, or_true]

/-- loop.example/g00837/impl.line -/
def m74 : MC :=
  (.seq
   (.reg [⟨(some 4), none, .a (.asg (.nils 3 1))⟩])
   (.seq
    (.reg [⟨(some 6), none, .a (.bsl 3 1 [])⟩,
      ⟨(some 5), none, .a (.asg (.t 6))⟩])
    (.seq
     (.block 0
      (.loop [0, 1, 5, 6, 17]
       (.seq
        (.seq
         (.reg [⟨(some 7), none, .q (.mov (.t 1))⟩,
           ⟨(some 8), none, .q (.bin false .geq (.t 7) (.c (.int .i64 0)))⟩])
         (.cond (.t 8)
          .skip
          (.exit 0)))
        (.seq
         (.block 1
          (.reg [⟨(some 14), none, .q (.mov (.t 5))⟩,
            ⟨(some 15), none, .q (.mov (.t 1))⟩,
            ⟨(some 16), none, .a (.bsl 3 1 [.t 15])⟩,
            ⟨(some 17), none, .a (.app true 3 1 8 (.t 14) (.t 16))⟩,
            ⟨(some 5), none, .a (.asg (.t 17))⟩]))
         (.reg [⟨(some 9), none, .q (.mov (.t 0))⟩,
           ⟨(some 10), none, .q (.mov (.t 1))⟩,
           ⟨(some 11), none, .q (.iad 6 (.t 9) (.t 10))⟩,
           ⟨(some 12), none, .q (.fad 2 (.t 11))⟩,
           ⟨(some 13), none, .q (.load false 1 (.t 12))⟩,
           ⟨(some 1), none, .a (.asg (.t 13))⟩])))))
     (.seq
      (.reg [⟨(some 18), none, .q (.mov (.t 5))⟩,
        ⟨(some 4), none, .a (.asg (.t 18))⟩])
      .ret))))

set_option maxRecDepth 100000 in
theorem d74 (l : List Ty) (n0 : Int) (hl : (l.length : Int) ≤ 1048576) (ht : tabOk l = true) (h0 : isL l n0) : Does Go.Proofs.Try.prog 74 [.fsl 6 (l.map Ty.z), .v (.int .i64 n0)] false (.usl 3 1 ((lineL l n0).map iv)) [.dead, .dead] := by
  refine does_intro (mc := m74) (N := 19) (rs := [4]) (fx := []) 2 rfl (by decide +kernel) ?_
  simp only [m74, EV, Nat.reduceEqDiff, Nat.reduceBEq, Nat.reduceLT, Nat.reduceLeDiff, Nat.reduceAdd, Nat.reduceSub, reduceIte]
  refine awp_loop (fun p : List Int × Int => isL l p.2 ∧ lineL l n0 = p.1 ++ lineL l p.2) (fun p => stl [(0, .fsl 6 (l.map Ty.z)), (1, .v (.int .i64 p.2)), (5, .usl 3 1 (p.1.map iv)), (6, .dead), (17, .dead)]) (fun p => (lineL l p.2).length) ([], n0) ⟨h0, rfl⟩ ?_ ?_
  · simp only [EV, Nat.reduceEqDiff, Nat.reduceBEq, Nat.reduceLT, Nat.reduceLeDiff, Nat.reduceAdd, Nat.reduceSub, reduceIte]
  · rintro ⟨out, n⟩ ⟨hn, he⟩
    simp only at hn he
    simp only [EV, Nat.reduceEqDiff, Nat.reduceBEq, Nat.reduceLT, Nat.reduceLeDiff, Nat.reduceAdd, Nat.reduceSub, reduceIte]
    refine cK_cut (fun h => ?_) (fun h => ?_)
    · have hr : isRec l n = true := hn.resolve_left (by have : 0 ≤ n := by simpa using h
                                                        omega)
      obtain ⟨g0, g1, gn, _⟩ := isRec_in hr
      have hle := lineL_len l n0
      have h24 := tabOk_len ht
      rw [he, List.length_append] at hle
      have hlr := lineL_rec ht hr
      have hb := (isRec_base (tabOk_tys ht) hr).1
      rw [hlr] at he
      clear h
      simp only [g0, g1, nth_map gn, iv, Ty.z, EV, Nat.reduceEqDiff, Nat.reduceBEq, Nat.reduceLT, Nat.reduceLeDiff, Nat.reduceAdd, Nat.reduceSub, reduceIte]
      refine ⟨by omega, by omega, (out ++ [n], baseAt l n), ⟨hb, by rw [he]; simp⟩, by simp only; rw [hlr]; simp, ?_⟩
      rw [List.map_append, baseAt_eq gn]
      rfl
    · have hneg : n < 0 := by have : ¬ 0 ≤ n := by simpa using h
                              omega
      rw [lineL_neg hneg, List.append_nil] at he
      subst he
      simp only [EV, Nat.reduceEqDiff, Nat.reduceBEq, Nat.reduceLT, Nat.reduceLeDiff, Nat.reduceAdd, Nat.reduceSub, reduceIte]
      simp only [iv_nfz, EV, Nat.reduceEqDiff, Nat.reduceBEq, Nat.reduceLT, Nat.reduceLeDiff, Nat.reduceAdd, Nat.reduceSub, reduceIte, retVC, cellV', evR, nfz, nfzs, nfzss, List.contains_nil, List.contains_cons, Bool.or_false, or_true]

def rootL (l : List Ty) (n : Int) : Int := ((lineL l n)[(lineL l n).length - 1]?).getD 0

theorem root_end {l : List Ty} {n m : Int} {pre : List Int} (h : lineL l n = pre ++ [m]) : rootL l n = m ∧ (lineL l n).length = pre.length + 1 := by
  unfold rootL
  rw [h]
  simp

theorem lineL_last {l : List Ty} (ht : tabOk l = true) {n m : Int} {pre : List Int} (h : lineL l n = pre ++ lineL l m) (hm : isRec l m = true) (hb : baseAt l m < 0) : lineL l n = pre ++ [m] := by
  rw [h, lineL_rec ht hm, lineL_neg hb]

/-- loop.example/g00837/impl.DeepOf -/
def m24 : MC :=
  (.seq
   (.reg [⟨(some 4), none, .a (.asg (.c (.int .i64 0)))⟩,
     ⟨(some 5), none, .a (.asg (.c (.bool false)))⟩])
   (.seq
    (.seq
     (.reg [⟨(some 6), none, .q (.mov (.t 0))⟩,
       ⟨(some 7), none, .q (.mov (.t 1))⟩,
       ⟨(some 8), none, .a (.call (.fn 73) false [.lend (.t 6), .lend (.t 7)])⟩,
       ⟨(some 9), none, .q (.un .not (.t 8))⟩])
     (.cond (.t 9)
      (.seq
       (.reg [⟨(some 4), none, .a (.asg (.c (.int .i64 0)))⟩,
         ⟨(some 5), none, .a (.asg (.c (.bool false)))⟩])
       .ret)
      .skip))
    (.seq
     (.reg [⟨(some 10), none, .q (.mov (.t 0))⟩,
       ⟨(some 11), none, .q (.mov (.t 1))⟩,
       ⟨(some 12), none, .a (.call (.fn 74) false [.lend (.t 10), .lend (.t 11)])⟩,
       ⟨(some 13), none, .q (.len false (.t 12))⟩,
       ⟨(some 14), none, .q (.bin false .sub (.t 13) (.c (.int .i64 1)))⟩,
       ⟨(some 4), none, .a (.asg (.t 14))⟩,
       ⟨(some 5), none, .a (.asg (.c (.bool true)))⟩])
     .ret)))

set_option maxRecDepth 100000 in
theorem d24 (l : List Ty) (n : Int) (hl : (l.length : Int) ≤ 1048576) (hs : ∀ s ∈ l, s.sm) : Does Go.Proofs.Try.prog 24 [.fsl 6 (l.map Ty.z), .v (.int .i64 n)] false (.tup [.v (.int .i64 (if recOk l n = true then ((lineL l n).length : Int) - 1 else 0)), .v (.bool (recOk l n))]) [.dead, .dead] := by
  refine does_intro (mc := m24) (N := 15) (rs := [4, 5]) (fx := []) 2 rfl (by decide +kernel) ?_
  simp only [m24, EV, Nat.reduceEqDiff, Nat.reduceBEq, Nat.reduceLT, Nat.reduceLeDiff, Nat.reduceAdd, Nat.reduceSub, reduceIte]
  refine callK_i (d73 l n hl hs) ?_
  simp only [EV, Nat.reduceEqDiff, Nat.reduceBEq, Nat.reduceLT, Nat.reduceLeDiff, Nat.reduceAdd, Nat.reduceSub, reduceIte]
  rcases e : recOk l n with _ | _
  · simp only [Bool.not_false, EV, Nat.reduceEqDiff, Nat.reduceBEq, Nat.reduceLT, Nat.reduceLeDiff, Nat.reduceAdd, Nat.reduceSub, reduceIte]
    simp only [EV, Nat.reduceEqDiff, Nat.reduceBEq, Nat.reduceLT, Nat.reduceLeDiff, Nat.reduceAdd, Nat.reduceSub, reduceIte, retVC, cellV', evR, nfz, nfzs, nfzss, List.contains_nil, List.contains_cons, Bool.or_false, or_true]
  · have e' := e
    simp only [recOk, Bool.and_eq_true] at e'
    obtain ⟨ht, hr⟩ := e'
    simp only [Bool.not_true, EV, Nat.reduceEqDiff, Nat.reduceBEq, Nat.reduceLT, Nat.reduceLeDiff, Nat.reduceAdd, Nat.reduceSub, reduceIte]
    refine callK_i (d74 l n hl ht (.inr hr)) ?_
    have hle := lineL_len l n
    have h24 := tabOk_len ht
    have hw : IntKind.i64.wrap (((lineL l n).length : Int) - 1) = ((lineL l n).length : Int) - 1 := w64 _ (by omega)
    simp only [hw, EV, Nat.reduceEqDiff, Nat.reduceBEq, Nat.reduceLT, Nat.reduceLeDiff, Nat.reduceAdd, Nat.reduceSub, reduceIte]
    simp only [EV, Nat.reduceEqDiff, Nat.reduceBEq, Nat.reduceLT, Nat.reduceLeDiff, Nat.reduceAdd, Nat.reduceSub, reduceIte, retVC, cellV', evR, nfz, nfzs, nfzss, List.contains_nil, List.contains_cons, Bool.or_false, or_true]

/-- loop.example/g00837/spec.DeepOf -/
def m23 : MC :=
  (.seq
   (.reg [⟨(some 4), none, .a (.asg (.c (.int .i64 0)))⟩,
     ⟨(some 5), none, .a (.asg (.c (.bool false)))⟩])
   (.seq
    (.seq
     (.reg [⟨(some 7), none, .q (.mov (.t 0))⟩,
       ⟨(some 8), none, .q (.mov (.t 1))⟩,
       ⟨(some 9), none, .a (.call (.fn 71) false [.lend (.t 7), .lend (.t 8)])⟩,
       ⟨(some 10), none, .q (.un .not (.t 9))⟩])
     (.cond (.t 10)
      (.seq
       (.reg [⟨(some 4), none, .a (.asg (.c (.int .i64 0)))⟩,
         ⟨(some 5), none, .a (.asg (.c (.bool false)))⟩])
       .ret)
      .skip))
    (.seq
     (.reg [⟨(some 6), none, .a (.asg (.c (.int .i64 0)))⟩])
     (.seq
      (.block 0
       (.loop [0, 1, 6]
        (.seq
         (.seq
          (.reg [⟨(some 11), none, .q (.mov (.t 0))⟩,
            ⟨(some 12), none, .q (.mov (.t 1))⟩,
            ⟨(some 13), none, .q (.iad 6 (.t 11) (.t 12))⟩,
            ⟨(some 14), none, .q (.fad 2 (.t 13))⟩,
            ⟨(some 15), none, .q (.load false 1 (.t 14))⟩,
            ⟨(some 16), none, .q (.bin false .geq (.t 15) (.c (.int .i64 0)))⟩])
          (.cond (.t 16)
           .skip
           (.exit 0)))
         (.block 1
          (.seq
           (.reg [⟨(some 17), none, .q (.mov (.t 0))⟩,
             ⟨(some 18), none, .q (.mov (.t 1))⟩,
             ⟨(some 19), none, .q (.iad 6 (.t 17) (.t 18))⟩,
             ⟨(some 20), none, .q (.fad 2 (.t 19))⟩,
             ⟨(some 21), none, .q (.load false 1 (.t 20))⟩,
             ⟨(some 1), none, .a (.asg (.t 21))⟩])
           (.reg [⟨(some 22), none, .q (.mov (.t 6))⟩,
             ⟨(some 23), none, .q (.bin false .add (.t 22) (.c (.int .i64 1)))⟩,
             ⟨(some 6), none, .a (.asg (.t 23))⟩]))))))
      (.seq
       (.reg [⟨(some 24), none, .q (.mov (.t 6))⟩,
         ⟨(some 4), none, .a (.asg (.t 24))⟩,
         ⟨(some 5), none, .a (.asg (.c (.bool true)))⟩])
       .ret)))))

set_option maxRecDepth 100000 in
theorem d23 (l : List Ty) (n0 : Int) (hl : (l.length : Int) ≤ 1048576) (hs : ∀ s ∈ l, s.sm) : Does Go.Proofs.Try.prog 23 [.fsl 6 (l.map Ty.z), .v (.int .i64 n0)] false (.tup [.v (.int .i64 (if recOk l n0 = true then ((lineL l n0).length : Int) - 1 else 0)), .v (.bool (recOk l n0))]) [.dead, .dead] := by
  refine does_intro (mc := m23) (N := 25) (rs := [4, 5]) (fx := []) 2 rfl (by decide +kernel) ?_
  simp only [m23, EV, Nat.reduceEqDiff, Nat.reduceBEq, Nat.reduceLT, Nat.reduceLeDiff, Nat.reduceAdd, Nat.reduceSub, reduceIte]
  refine callK_i (d71 l n0 hl hs) ?_
  simp only [EV, Nat.reduceEqDiff, Nat.reduceBEq, Nat.reduceLT, Nat.reduceLeDiff, Nat.reduceAdd, Nat.reduceSub, reduceIte]
  rcases e : recOk l n0 with _ | _
  · simp only [Bool.not_false, EV, Nat.reduceEqDiff, Nat.reduceBEq, Nat.reduceLT, Nat.reduceLeDiff, Nat.reduceAdd, Nat.reduceSub, reduceIte]
    simp only [EV, Nat.reduceEqDiff, Nat.reduceBEq, Nat.reduceLT, Nat.reduceLeDiff, Nat.reduceAdd, Nat.reduceSub, reduceIte, retVC, cellV', evR, nfz, nfzs, nfzss, List.contains_nil, List.contains_cons, Bool.or_false, or_true]
  · have e' := e
    simp only [recOk, Bool.and_eq_true] at e'
    obtain ⟨ht, hr⟩ := e'
    simp only [Bool.not_true, EV, Nat.reduceEqDiff, Nat.reduceBEq, Nat.reduceLT, Nat.reduceLeDiff, Nat.reduceAdd, Nat.reduceSub, reduceIte]
    refine awp_loop (fun p : Int × Nat => isRec l p.1 = true ∧ ∃ pre, lineL l n0 = pre ++ lineL l p.1 ∧ pre.length = p.2) (fun p => stl [(0, .fsl 6 (l.map Ty.z)), (1, .v (.int .i64 p.1)), (6, .v (.int .i64 (p.2 : Int)))]) (fun p => (lineL l p.1).length) (n0, 0) ⟨hr, [], rfl, rfl⟩ ?_ ?_
    · simp only [EV, Nat.reduceEqDiff, Nat.reduceBEq, Nat.reduceLT, Nat.reduceLeDiff, Nat.reduceAdd, Nat.reduceSub, reduceIte]
      rfl
    · rintro ⟨n, d⟩ ⟨hn, pre, he, hd⟩
      simp only at hn he hd
      obtain ⟨g0, g1, gn, _⟩ := isRec_in hn
      have hlr := lineL_rec ht hn
      have hb := (isRec_base (tabOk_tys ht) hn).1
      have hbe := baseAt_eq gn
      have hle := lineL_len l n0
      have h24 := tabOk_len ht
      rw [he, List.length_append] at hle
      simp only [g0, g1, nth_map gn, Ty.z, EV, Nat.reduceEqDiff, Nat.reduceBEq, Nat.reduceLT, Nat.reduceLeDiff, Nat.reduceAdd, Nat.reduceSub, reduceIte]
      rw [← hbe]
      refine cK_cut (fun h => ?_) (fun h => ?_)
      · have hb0 : 0 ≤ baseAt l n := by simpa using h
        simp only [g0, g1, nth_map gn, Ty.z, EV, Nat.reduceEqDiff, Nat.reduceBEq, Nat.reduceLT, Nat.reduceLeDiff, Nat.reduceAdd, Nat.reduceSub, reduceIte]
        rw [w64 _ (by omega)]
        refine ⟨(baseAt l n, d + 1), ⟨hb.resolve_left (by omega), pre ++ [n], by rw [he, hlr]; simp, by simp; omega⟩, by simp only; rw [hlr]; simp, ?_⟩
        rw [hbe]
        rfl
      · have hb0 : baseAt l n < 0 := by have : ¬ 0 ≤ baseAt l n := by simpa using h
                                        omega
        have hl2 := (root_end (lineL_last ht he hn hb0)).2
        have e3 : ((lineL l n0).length : Int) - 1 = (d : Int) := by omega
        simp only [EV, Nat.reduceEqDiff, Nat.reduceBEq, Nat.reduceLT, Nat.reduceLeDiff, Nat.reduceAdd, Nat.reduceSub, reduceIte]
        simp only [e3, EV, Nat.reduceEqDiff, Nat.reduceBEq, Nat.reduceLT, Nat.reduceLeDiff, Nat.reduceAdd, Nat.reduceSub, reduceIte, retVC, cellV', evR, nfz, nfzs, nfzss, List.contains_nil, List.contains_cons, Bool.or_false, or_true]

end Go.AM
namespace Go.AM
set_option linter.unusedVariables false
set_option linter.unusedSimpArgs false
/-- loop.example/g00837/laws.FnExactDeepOf -/
def m5 : MC :=
  (.seq
   (.reg [⟨(some 4), none, .a (.asg (.c (.bool false)))⟩])
   (.keep [0, 1]
   (.seq
    (.reg [⟨(some 5), none, .a (.asg (.c (.int .i64 1048576)))⟩])
    (.keep [0, 1, 5]
    (.seq
     (.reg [⟨(some 11), none, .q (.mov (.t 0))⟩,
       ⟨(some 12), none, .q (.mov (.t 5))⟩,
       ⟨(some 13), none, .a (.call (.fn 18) false [.lend (.t 11), .lend (.t 12)])⟩,
       ⟨(some 5), none, .a (.asg (.t 13))⟩])
     (.keep [0, 1, 5]
     (.seq
      (.seq
       (.reg [⟨(some 14), none, .q (.mov (.t 5))⟩,
         ⟨(some 15), none, .q (.bin false .lss (.t 14) (.c (.int .i64 0)))⟩])
       (.keep [0, 1, 15]
       (.cond (.t 15)
        (.seq
         (.reg [⟨(some 4), none, .a (.asg (.c (.bool true)))⟩])
         .ret)
        .skip)))
      (.keep [0, 1]
      (.seq
       (.reg [⟨(some 17), none, .q (.mov (.t 0))⟩,
         ⟨(some 18), none, .a (.call (.fn 20) false [.lend (.t 17)])⟩,
         ⟨(some 19), none, .q (.mov (.t 1))⟩,
         ⟨(some 20), none, .a (.call (.fn 23) false [.lend (.t 18), .lend (.t 19)])⟩,
         ⟨(some 16), none, .q (.mov (.t 20))⟩,
         ⟨(some 21), none, .q (.ext 16 0)⟩,
         ⟨(some 22), none, .q (.ext 16 1)⟩,
         ⟨(some 6), none, .a (.asg (.t 21))⟩,
         ⟨(some 7), none, .a (.asg (.t 22))⟩])
       (.keep [0, 1, 6, 7]
       (.seq
        (.reg [⟨(some 23), none, .q (.mov (.t 0))⟩,
          ⟨(some 24), none, .a (.call (.fn 20) false [.lend (.t 23)])⟩,
          ⟨(some 8), none, .a (.asg (.t 24))⟩])
        (.keep [0, 1, 6, 7, 8, 24]
        (.seq
         (.reg [⟨(some 26), none, .q (.mov (.t 8))⟩,
           ⟨(some 27), none, .q (.mov (.t 1))⟩,
           ⟨(some 28), none, .a (.call (.fn 24) false [.lend (.t 26), .lend (.t 27)])⟩,
           ⟨(some 25), none, .q (.mov (.t 28))⟩,
           ⟨(some 29), none, .q (.ext 25 0)⟩,
           ⟨(some 30), none, .q (.ext 25 1)⟩,
           ⟨(some 9), none, .a (.asg (.t 29))⟩,
           ⟨(some 10), none, .a (.asg (.t 30))⟩])
         (.keep [0, 6, 7, 8, 9, 10, 24]
         (.seq
          (.seq
           (.reg [⟨(some 31), none, .q (.mov (.t 9))⟩,
             ⟨(some 32), none, .q (.mov (.t 6))⟩,
             ⟨(some 33), none, .q (.bin false .neq (.t 31) (.t 32))⟩,
             ⟨(some 34), none, .q (.mov (.t 33))⟩,
             ⟨(some 35), (some (34, false)), .q (.mov (.t 10))⟩,
             ⟨(some 36), (some (34, false)), .q (.mov (.t 7))⟩,
             ⟨(some 37), (some (34, false)), .q (.bin true .neq (.t 35) (.t 36))⟩,
             ⟨(some 38), none, .q (.pick (.t 34) (.c (.bool true)) (.t 37))⟩])
           (.keep [0, 8, 24, 38]
           (.cond (.t 38)
            (.seq
             (.reg [⟨(some 4), none, .a (.asg (.c (.bool false)))⟩])
             .ret)
            .skip)))
          (.keep [0, 8, 24]
          (.seq
           (.seq
            (.reg [⟨(some 39), none, .q (.mov (.t 8))⟩,
              ⟨(some 40), none, .q (.mov (.t 0))⟩,
              ⟨(some 41), none, .a (.call (.fn 20) false [.lend (.t 40)])⟩,
              ⟨(some 42), none, .a (.call (.fn 22) false [.lend (.t 39), .lend (.t 41)])⟩,
              ⟨(some 43), none, .q (.un .not (.t 42))⟩])
            (.keep [43]
            (.cond (.t 43)
             (.seq
              (.reg [⟨(some 4), none, .a (.asg (.c (.bool false)))⟩])
              .ret)
             .skip)))
           (.keep []
           (.seq
            (.reg [⟨(some 4), none, .a (.asg (.c (.bool true)))⟩])
            .ret)))))))))))))))))))

set_option maxRecDepth 100000 in
theorem d5 (a : List Ty) (n : Int) (ha : (a.length : Int) ≤ 9223372036854775807) (hoa : ∀ s ∈ a, s.ok) :
    Does Go.Proofs.Try.prog 5 [.fsl 6 (a.map Ty.z), .v (.int .i64 n)] false (.v (.bool true)) [.dead, .dead] := by
  refine does_intro (mc := m5) (N := 44) (rs := [4]) (fx := []) 2 rfl (by decide +kernel) ?_
  simp only [m5, EV, Nat.reduceEqDiff, Nat.reduceBEq, Nat.reduceLT, Nat.reduceLeDiff, Nat.reduceAdd, Nat.reduceSub, reduceIte]
  refine callK_i (d18 a 1048576 (by omega) (by omega) ha hoa) ?_
  simp only [EV, Nat.reduceEqDiff, Nat.reduceBEq, Nat.reduceLT, Nat.reduceLeDiff, Nat.reduceAdd, Nat.reduceSub, reduceIte]
  refine cK_cut (fun h => ?_) (fun h => ?_)
  · simp only [EV, Nat.reduceEqDiff, Nat.reduceBEq, Nat.reduceLT, Nat.reduceLeDiff, Nat.reduceAdd, Nat.reduceSub, reduceIte]
    simp only [EV, Nat.reduceEqDiff, Nat.reduceBEq, Nat.reduceLT, Nat.reduceLeDiff, Nat.reduceAdd, Nat.reduceSub, reduceIte, retVC, cellV', evR, nfz, nfzs, nfzss, List.contains_nil, List.contains_cons, Bool.or_false, or_true]
  have h0 : 0 ≤ szTyS a 1048576 := by simpa using h
  have h1 := szTyS_tot a _ h0
  have h2 := totTys_nn a
  have h3 : (a.length : Int) ≤ 1048576 := by omega
  have hx : ∀ s ∈ a, s.sm := fun s g => s.sm_of (by have := totTys_mem a s g; omega)
  clear h
  simp only [EV, Nat.reduceEqDiff, Nat.reduceBEq, Nat.reduceLT, Nat.reduceLeDiff, Nat.reduceAdd, Nat.reduceSub, reduceIte]
  refine callK_i (d20 a h3 hx) ?_
  simp only [Ty.frz, EV, Nat.reduceEqDiff, Nat.reduceBEq, Nat.reduceLT, Nat.reduceLeDiff, Nat.reduceAdd, Nat.reduceSub, reduceIte]
  refine callK_i (d23 a n h3 hx) ?_
  simp only [Ty.frz, EV, Nat.reduceEqDiff, Nat.reduceBEq, Nat.reduceLT, Nat.reduceLeDiff, Nat.reduceAdd, Nat.reduceSub, reduceIte]
  refine callK_i (d20 a h3 hx) ?_
  simp only [Ty.frz, EV, Nat.reduceEqDiff, Nat.reduceBEq, Nat.reduceLT, Nat.reduceLeDiff, Nat.reduceAdd, Nat.reduceSub, reduceIte]
  refine callK_i (d24 a n h3 hx) ?_
  simp only [Ty.frz, EV, Nat.reduceEqDiff, Nat.reduceBEq, Nat.reduceLT, Nat.reduceLeDiff, Nat.reduceAdd, Nat.reduceSub, reduceIte]
  refine callK_i (d20 a h3 hx) ?_
  simp only [Ty.frz, EV, Nat.reduceEqDiff, Nat.reduceBEq, Nat.reduceLT, Nat.reduceLeDiff, Nat.reduceAdd, Nat.reduceSub, reduceIte]
  refine callK_i (d22 a h3 hx) ?_
  simp only [Ty.frz, EV, Nat.reduceEqDiff, Nat.reduceBEq, Nat.reduceLT, Nat.reduceLeDiff, Nat.reduceAdd, Nat.reduceSub, reduceIte]
  simp only [EV, Nat.reduceEqDiff, Nat.reduceBEq, Nat.reduceLT, Nat.reduceLeDiff, Nat.reduceAdd, Nat.reduceSub, reduceIte, retVC, cellV', evR, nfz, nfzs, nfzss, List.contains_nil, List.contains_cons, Bool.or_false, or_true]

end Go.AM
