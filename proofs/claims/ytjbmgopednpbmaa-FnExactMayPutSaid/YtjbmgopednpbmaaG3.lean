/- Contracts of functions of the given program, for the law FnExactMayPut: what they return and what they write, under the bounds that each theorem states. -/
import Derived.Test.YtjbmgopednpbmaaG2
namespace Go.AM
set_option linter.unusedVariables false
set_option linter.unusedSimpArgs false
theorem tyNm_comm (x o : Ty) : tyNm x o = ((x.name.toList == o.name.toList) && (x.owner.toList == o.owner.toList)) := by
  unfold tyNm
  rw [Bool.beq_comm, Bool.beq_comm (a := o.owner.toList)]

theorem tysOk_base' {l : List Ty} (h : baseOk l = false) : tysOk l = false := by
  unfold tysOk
  unfold baseOk at h
  rcases e : decide (3 ≤ (l.length : Int)) with _ | _
  · simp only [Bool.false_and]
  · rw [e, Bool.true_and] at h
    simp only [h, Bool.false_and, Bool.and_false]

theorem tysOk_long {l : List Ty} (h : 24 < (l.length : Int)) : tysOk l = false := by
  unfold tysOk
  have : decide ((l.length : Int) ≤ 24) = false := decide_eq_false (by omega)
  simp only [this, Bool.false_and, Bool.and_false]

/-- loop.example/g00837/spec.l3Nearly -/
def m110 : MC :=
  (.seq
   (.reg [⟨(some 2), none, .a (.asg (.c (.bool false)))⟩])
   (.seq
    (.seq
     (.reg [⟨(some 7), none, .q (.mov (.t 0))⟩,
       ⟨(some 8), none, .a (.call (.fn 149) false [.lend (.t 7)])⟩,
       ⟨(some 9), none, .q (.un .not (.t 8))⟩,
       ⟨(some 10), none, .q (.mov (.t 9))⟩,
       ⟨(some 11), (some (10, false)), .q (.mov (.t 0))⟩,
       ⟨(some 12), (some (10, false)), .q (.len false (.t 11))⟩,
       ⟨(some 13), (some (10, false)), .q (.bin false .gtr (.t 12) (.c (.int .i64 24)))⟩,
       ⟨(some 14), none, .q (.pick (.t 10) (.c (.bool true)) (.t 13))⟩])
     (.cond (.t 14)
      (.seq
       (.reg [⟨(some 2), none, .a (.asg (.c (.bool false)))⟩])
       .ret)
      .skip))
    (.seq
     (.seq
      (.reg [⟨(some 15), none, .q (.mov (.t 0))⟩,
        ⟨(some 16), none, .q (.slc false 6 (.t 15) (some (.c (.int .i64 3))) none)⟩,
        ⟨(some 17), none, .q (.len false (.t 16))⟩,
        ⟨(some 18), none, .q (.mov (.c (.int .i64 0)))⟩])
      (.block 0
       (.loop [0, 15, 16, 17, 18]
        (.seq
         (.reg [⟨(some 19), none, .q (.bin false .lss (.t 18) (.t 17))⟩])
         (.seq
          (.cond (.t 19)
           .skip
           (.exit 0))
          (.seq
           (.block 1
            (.seq
             (.reg [⟨(some 20), none, .q (.mov (.t 18))⟩,
               ⟨(some 21), none, .q (.iad 6 (.t 16) (.t 18))⟩,
               ⟨(some 22), none, .q (.load true 6 (.t 21))⟩,
               ⟨(some 4), none, .a (.alloc 59 [.v (.int .i64 0), .v (.int .i64 0), .v (.int .i64 0), .s 57 3, .v (.string ({ data := #[] })), .v (.string ({ data := #[] }))])⟩,
               ⟨(some 3), none, .a (.asg (.t 20))⟩,
               ⟨none, none, .a (.store 6 (.t 4) (.t 22))⟩])
             (.seq
              (.seq
               (.reg [⟨(some 23), none, .q (.mov (.t 0))⟩,
                 ⟨(some 24), none, .q (.load true 6 (.t 4))⟩,
                 ⟨(some 25), none, .a (.call (.fn 150) false [.lend (.t 23), .lend (.t 24)])⟩,
                 ⟨(some 26), none, .q (.un .not (.t 25))⟩])
               (.cond (.t 26)
                (.seq
                 (.reg [⟨(some 2), none, .a (.asg (.c (.bool false)))⟩])
                 .ret)
                .skip))
              (.seq
               (.reg [⟨(some 27), none, .q (.mov (.t 0))⟩,
                 ⟨(some 28), none, .q (.mov (.t 3))⟩,
                 ⟨(some 29), none, .q (.bin false .add (.c (.int .i64 3)) (.t 28))⟩,
                 ⟨(some 30), none, .q (.slc false 6 (.t 27) (some (.c (.int .i64 3))) (some (.t 29)))⟩,
                 ⟨(some 31), none, .q (.len false (.t 30))⟩,
                 ⟨(some 32), none, .q (.mov (.c (.int .i64 0)))⟩])
               (.block 2
                (.loop [0, 4, 15, 16, 17, 18, 27, 29, 30, 31, 32]
                 (.seq
                  (.reg [⟨(some 33), none, .q (.bin false .lss (.t 32) (.t 31))⟩])
                  (.seq
                   (.cond (.t 33)
                    .skip
                    (.exit 2))
                   (.seq
                    (.block 3
                     (.seq
                      (.reg [⟨(some 34), none, .q (.iad 6 (.t 30) (.t 32))⟩,
                        ⟨(some 35), none, .q (.load true 6 (.t 34))⟩,
                        ⟨(some 6), none, .a (.alloc 59 [.v (.int .i64 0), .v (.int .i64 0), .v (.int .i64 0), .s 57 3, .v (.string ({ data := #[] })), .v (.string ({ data := #[] }))])⟩,
                        ⟨none, none, .a (.store 6 (.t 6) (.t 35))⟩])
                      (.seq
                       (.reg [⟨(some 36), none, .q (.fad 5 (.t 4))⟩,
                         ⟨(some 37), none, .q (.load false 1 (.t 36))⟩,
                         ⟨(some 38), none, .q (.bin false .neq (.t 37) (.c (.string ({ data := #[] }))))⟩,
                         ⟨(some 39), none, .q (.mov (.t 38))⟩,
                         ⟨(some 40), (some (39, true)), .q (.fad 5 (.t 4))⟩,
                         ⟨(some 41), (some (39, true)), .q (.load false 1 (.t 40))⟩,
                         ⟨(some 42), (some (39, true)), .q (.fad 5 (.t 6))⟩,
                         ⟨(some 43), (some (39, true)), .q (.load false 1 (.t 42))⟩,
                         ⟨(some 44), (some (39, true)), .q (.bin false .eql (.t 41) (.t 43))⟩,
                         ⟨(some 45), none, .q (.pick (.t 39) (.t 44) (.c (.bool false)))⟩,
                         ⟨(some 46), none, .q (.mov (.t 45))⟩,
                         ⟨(some 47), (some (46, true)), .q (.fad 4 (.t 4))⟩,
                         ⟨(some 48), (some (46, true)), .q (.load false 1 (.t 47))⟩,
                         ⟨(some 49), (some (46, true)), .q (.fad 4 (.t 6))⟩,
                         ⟨(some 50), (some (46, true)), .q (.load false 1 (.t 49))⟩,
                         ⟨(some 51), (some (46, true)), .q (.bin false .eql (.t 48) (.t 50))⟩,
                         ⟨(some 52), none, .q (.pick (.t 46) (.t 51) (.c (.bool false)))⟩])
                       (.cond (.t 52)
                        (.seq
                         (.reg [⟨(some 2), none, .a (.asg (.c (.bool false)))⟩])
                         .ret)
                        .skip))))
                    (.reg [⟨(some 53), none, .q (.bin false .add (.t 32) (.c (.int .i64 1)))⟩,
                      ⟨(some 32), none, .q (.mov (.t 53))⟩]))))))))))
           (.reg [⟨(some 54), none, .q (.bin false .add (.t 18) (.c (.int .i64 1)))⟩,
             ⟨(some 18), none, .q (.mov (.t 54))⟩])))))))
     (.seq
      (.reg [⟨(some 2), none, .a (.asg (.c (.bool true)))⟩])
      .ret))))

set_option maxHeartbeats 1000000 in
set_option maxRecDepth 100000 in
theorem d110 (l : List Ty) (hl : (l.length : Int) ≤ 1048576) (hs : ∀ s ∈ l, s.sm) : Does Go.Proofs.Try.prog 110 [.fsl 6 (l.map Ty.z)] false (.v (.bool (tysOk l))) [.dead] := by
  refine does_intro (mc := m110) (N := 55) (rs := [2]) (fx := []) 1 rfl (by decide +kernel) ?_
  simp only [m110, EV, Nat.reduceEqDiff, Nat.reduceBEq, Nat.reduceLT, Nat.reduceLeDiff, Nat.reduceAdd, Nat.reduceSub, reduceIte]
  refine callK_i (d149 l hl) ?_
  simp only [EV, Nat.reduceEqDiff, Nat.reduceBEq, Nat.reduceLT, Nat.reduceLeDiff, Nat.reduceAdd, Nat.reduceSub, reduceIte]
  rcases hb : baseOk l with _ | _
  · have e : tysOk l = false := tysOk_base' hb
    simp only [EV, Nat.reduceEqDiff, Nat.reduceBEq, Nat.reduceLT, Nat.reduceLeDiff, Nat.reduceAdd, Nat.reduceSub, reduceIte]
    simp only [e, EV, Nat.reduceEqDiff, Nat.reduceBEq, Nat.reduceLT, Nat.reduceLeDiff, Nat.reduceAdd, Nat.reduceSub, reduceIte, retVC, cellV', evR, nfz, nfzs, nfzss, List.contains_nil, List.contains_cons, Bool.or_false, or_true]
  simp only [EV, Nat.reduceEqDiff, Nat.reduceBEq, Nat.reduceLT, Nat.reduceLeDiff, Nat.reduceAdd, Nat.reduceSub, reduceIte]
  refine cK_cut (fun h => ?_) (fun h => ?_)
  · have e : tysOk l = false := tysOk_long (by simpa using h)
    simp only [EV, Nat.reduceEqDiff, Nat.reduceBEq, Nat.reduceLT, Nat.reduceLeDiff, Nat.reduceAdd, Nat.reduceSub, reduceIte]
    simp only [e, EV, Nat.reduceEqDiff, Nat.reduceBEq, Nat.reduceLT, Nat.reduceLeDiff, Nat.reduceAdd, Nat.reduceSub, reduceIte, retVC, cellV', evR, nfz, nfzs, nfzss, List.contains_nil, List.contains_cons, Bool.or_false, or_true]
  have h24 : (l.length : Int) ≤ 24 := by have : ¬ 24 < (l.length : Int) := by simpa using h
                                         omega
  have hbo := hb
  simp only [baseOk, Bool.and_eq_true, decide_eq_true_eq] at hbo
  obtain ⟨hl3, e2⟩ := hbo
  have e1 : (decide (3 ≤ (l.length : Int)) && decide ((l.length : Int) ≤ 24)) = true := by rw [decide_eq_true hl3, decide_eq_true h24]; rfl
  clear h
  have h3 : ((3 : Nat) : Int) = 3 := rfl
  have t3 : (3 : Int).toNat = 3 := rfl
  simp only [h3, EV, Nat.reduceEqDiff, Nat.reduceBEq, Nat.reduceLT, Nat.reduceLeDiff, Nat.reduceAdd, Nat.reduceSub, reduceIte]
  refine ⟨by omega, hl3, by omega, ?_⟩
  simp only [← List.map_drop, ← List.map_take, t3]
  have hm : ∃ m, l.drop 3 = m := ⟨_, rfl⟩
  obtain ⟨m, hm⟩ := hm
  have hml : (m.length : Int) = (l.length : Int) - 3 := by rw [← hm]; simp; omega
  have hsub : ∀ x ∈ m, x ∈ l := by rw [← hm]; exact fun x hx => List.mem_of_mem_drop hx
  have p9 : ∀ i (h : i < m.length), tyAt l m i h = false → tysOk l = false := by
    subst hm; exact fun i h e => tysOk_no h e
  refine awp_loop (fun i : Nat => i ≤ m.length ∧ tyTo l m i) (fun i => stl [(0, .fsl 6 (l.map Ty.z)), (15, .fsl 6 (l.map Ty.z)), (16, .fsl 6 (m.map Ty.z)), (17, .v (.int .i64 (m.length : Int))), (18, .v (.int .i64 (i : Int)))]) (fun i => m.length - i) 0 ⟨Nat.zero_le _, fun j hj h => absurd h (by omega)⟩ ?_ ?_
  · have htk : List.take (l.length - 3) m = m := List.take_of_length_le (by omega)
    simp only [hm, htk, EV, Nat.reduceEqDiff, Nat.reduceBEq, Nat.reduceLT, Nat.reduceLeDiff, Nat.reduceAdd, Nat.reduceSub, reduceIte]
    rfl
  · rintro i ⟨hi, hok⟩
    simp only [EV, Nat.reduceEqDiff, Nat.reduceBEq, Nat.reduceLT, Nat.reduceLeDiff, Nat.reduceAdd, Nat.reduceSub, reduceIte]
    refine cK_cut (fun h => ?_) (fun h => ?_)
    · have h1 : i < m.length := by simpa using h
      have h2 : (i : Int) < (m.length : Int) := by omega
      have hso : m[i].sm := hs m[i] (hsub _ (List.getElem_mem h1))
      clear h
      have hw : IntKind.i64.wrap (3 + (i : Int)) = ((3 + i : Nat) : Int) := by rw [w64 _ (by omega)]; omega
      have hdt : List.take (3 + i - 3) (List.drop 3 (l.map Ty.z)) = (m.take i).map Ty.z := by
        rw [← hm, Nat.add_sub_cancel_left, ← List.map_drop, ← List.map_take]
      have ht : (m.take i).length = i := by simp; omega
      have hcl : Ty.z m[i] = [.v (.int .i64 m[i].kind), .v (.int .i64 m[i].long), .v (.int .i64 m[i].base), .fsl 3 (m[i].fields.map Fd.z), .v (.string m[i].owner), .v (.string m[i].name)] := rfl
      have d7 := d150 l m[i] hl hso
      rw [hcl] at d7
      have en : (m[i].name.toList == (⟨#[]⟩ : ByteArray).toList) = nil' m[i].name := rfl
      simp only [TyE, nth_map h1, h2, h3, Ty.z, EV, Nat.reduceEqDiff, Nat.reduceBEq, Nat.reduceLT, Nat.reduceLeDiff, Nat.reduceAdd, Nat.reduceSub, reduceIte]
      refine callK_i d7 ?_
      simp only [EV, Nat.reduceEqDiff, Nat.reduceBEq, Nat.reduceLT, Nat.reduceLeDiff, Nat.reduceAdd, Nat.reduceSub, reduceIte]
      rcases e5 : tyOk l m[i] with _ | _
      · have e : tysOk l = false := p9 i h1 (by simp only [tyAt, e5, Bool.and_false])
        simp only [EV, Nat.reduceEqDiff, Nat.reduceBEq, Nat.reduceLT, Nat.reduceLeDiff, Nat.reduceAdd, Nat.reduceSub, reduceIte]
        simp only [e, EV, Nat.reduceEqDiff, Nat.reduceBEq, Nat.reduceLT, Nat.reduceLeDiff, Nat.reduceAdd, Nat.reduceSub, reduceIte, retVC, cellV', evR, nfz, nfzs, nfzss, List.contains_nil, List.contains_cons, Bool.or_false, or_true]
      simp only [h3, hw, t3, EV, Nat.reduceEqDiff, Nat.reduceBEq, Nat.reduceLT, Nat.reduceLeDiff, Nat.reduceAdd, Nat.reduceSub, reduceIte]
      refine ⟨by omega, by omega, by omega, ?_⟩
      rw [hdt]
      refine awp_loop (fun k : Nat => k ≤ i ∧ (nil' m[i].name = true ∨ ((m.take i).take k).any (tyNm m[i]) = false)) (fun k => stl [(0, .fsl 6 (l.map Ty.z)), (4, .box 59 m[i].z), (15, .fsl 6 (l.map Ty.z)), (16, .fsl 6 (m.map Ty.z)), (17, .v (.int .i64 (m.length : Int))), (18, .v (.int .i64 (i : Int))), (27, .fsl 6 (l.map Ty.z)), (29, .v (.int .i64 ((3 + i : Nat) : Int))), (30, .fsl 6 ((m.take i).map Ty.z)), (31, .v (.int .i64 (i : Int))), (32, .v (.int .i64 (k : Int)))]) (fun k => i - k) 0 ⟨Nat.zero_le _, Or.inr (by simp)⟩ ?_ ?_
      · simp only [Ty.z, EV, Nat.reduceEqDiff, Nat.reduceBEq, Nat.reduceLT, Nat.reduceLeDiff, Nat.reduceAdd, Nat.reduceSub, reduceIte]
        rw [ht]
        rfl
      · rintro k ⟨hk, hno⟩
        simp only [Ty.z, EV, Nat.reduceEqDiff, Nat.reduceBEq, Nat.reduceLT, Nat.reduceLeDiff, Nat.reduceAdd, Nat.reduceSub, reduceIte]
        refine cK_cut (fun h => ?_) (fun h => ?_)
        · have k3 : k < i := by have : (k : Int) < i := by simpa using h
                                omega
          have k1 : k < (m.take i).length := by rw [ht]; exact k3
          have k2 : (k : Int) < i := by omega
          clear h
          have hnx : tyNm m[i] (m.take i)[k] = false → ∃ a, (a ≤ i ∧ (nil' m[i].name = true ∨ ((m.take i).take a).any (tyNm m[i]) = false)) ∧ i - a < i - k ∧ a = k + 1 := by
            intro e
            refine ⟨k + 1, ⟨by omega, ?_⟩, by omega, rfl⟩
            rcases hno with hno | hno
            · exact .inl hno
            · exact .inr (any_take k1 hno e)
          simp only [TyE, nth_map k1, k2, k3, ht, Ty.z, EV, Nat.reduceEqDiff, Nat.reduceBEq, Nat.reduceLT, Nat.reduceLeDiff, Nat.reduceAdd, Nat.reduceSub, reduceIte]
          rw [en]
          have hcm := tyNm_comm m[i] (m.take i)[k]
          rcases e3 : nil' m[i].name with _ | _
          · simp only [Bool.not_false, TyE, nth_map k1, k2, k3, ht, Ty.z, EV, Nat.reduceEqDiff, Nat.reduceBEq, Nat.reduceLT, Nat.reduceLeDiff, Nat.reduceAdd, Nat.reduceSub, reduceIte]
            repeat' (first
    | (refine gK_cut (fun h => ?_) (fun h => ?_) <;> simp only [h, EV, Nat.reduceEqDiff, Nat.reduceBEq, Nat.reduceLT, Nat.reduceLeDiff, Nat.reduceAdd, Nat.reduceSub, reduceIte])
    | (refine cK_cut (fun h => ?_) (fun h => ?_) <;> simp only [h, EV, Nat.reduceEqDiff, Nat.reduceBEq, Nat.reduceLT, Nat.reduceLeDiff, Nat.reduceAdd, Nat.reduceSub, reduceIte]))
            all_goals first
              | (have e4 : tyNm m[i] (m.take i)[k] = true := by rw [hcm]; simp only [*, Bool.and_self]
                 have e : tysOk l = false := p9 i h1 (by
                   have := any_at k1 e4
                   simp only [tyAt, e3, this, Bool.not_false, Bool.true_and, Bool.not_true, Bool.false_and])
                 simp only [e, EV, Nat.reduceEqDiff, Nat.reduceBEq, Nat.reduceLT, Nat.reduceLeDiff, Nat.reduceAdd, Nat.reduceSub, reduceIte, retVC, cellV', evR, nfz, nfzs, nfzss, List.contains_nil, List.contains_cons, Bool.or_false, or_true]
                 done)
              | (have e4 : tyNm m[i] (m.take i)[k] = false := by rw [hcm]; simp only [*, Bool.false_and, Bool.and_false]
                 obtain ⟨a, q1, q2, rfl⟩ := hnx e4
                 rw [w64 _ (by omega)]
                 exact ⟨k + 1, ⟨q1.1, by rcases q1.2 with q | q; exact absurd (e3.symm.trans q) Bool.false_ne_true; exact Or.inr q⟩, q2, rfl⟩)
          · simp only [Bool.not_true, EV, Nat.reduceEqDiff, Nat.reduceBEq, Nat.reduceLT, Nat.reduceLeDiff, Nat.reduceAdd, Nat.reduceSub, reduceIte]
            rw [w64 _ (by omega)]
            exact ⟨k + 1, ⟨by omega, Or.inl trivial⟩, by omega, rfl⟩
        · have k1 : k = i := by have : ¬ (k : Int) < i := by simpa using h
                                omega
          subst k1
          have hq : tyAt l m k h1 = true := by
            simp only [tyAt, e5, Bool.and_true]
            rcases hno with hno | hno
            · rw [hno]; rfl
            · rw [List.take_take, Nat.min_self] at hno
              rw [hno, Bool.and_false]; rfl
          simp only [EV, Nat.reduceEqDiff, Nat.reduceBEq, Nat.reduceLT, Nat.reduceLeDiff, Nat.reduceAdd, Nat.reduceSub, reduceIte]
          rw [w64 _ (by omega)]
          exact ⟨k + 1, ⟨h1, tyTo_succ h1 hok hq⟩, by omega, rfl⟩
    · have h1 : i = m.length := by have : ¬ (i : Int) < m.length := by simpa using h
                                   omega
      subst h1
      have e : tysOk l = true := tysOk_yes e1 e2 (by rw [hm]; exact hok)
      simp only [EV, Nat.reduceEqDiff, Nat.reduceBEq, Nat.reduceLT, Nat.reduceLeDiff, Nat.reduceAdd, Nat.reduceSub, reduceIte]
      simp only [e, EV, Nat.reduceEqDiff, Nat.reduceBEq, Nat.reduceLT, Nat.reduceLeDiff, Nat.reduceAdd, Nat.reduceSub, reduceIte, retVC, cellV', evR, nfz, nfzs, nfzss, List.contains_nil, List.contains_cons, Bool.or_false, or_true]

end Go.AM
namespace Go.AM
set_option linter.unusedVariables false
set_option linter.unusedSimpArgs false
def noRd (l : List Ty) (n : Nat) : Prop := ∀ j : Nat, j < n → roundAt l (j : Int) = false

theorem tabOk_yes {l : List Ty} (h : tysOk l = true) (h2 : noRd l l.length) : tabOk l = true := by
  simp only [tabOk, h, Bool.true_and, List.all_eq_true, List.mem_range]
  intro n hn
  rw [h2 n hn]; rfl

theorem tabOk_no {l : List Ty} {i : Nat} (h : i < l.length) (h2 : roundAt l (i : Int) = true) : tabOk l = false := by
  rcases e : tabOk l with _ | _
  · rfl
  · have := tabOk_round e (n := (i : Int)) (by omega) (by omega)
    rw [h2] at this; cases this

theorem tabOk_tno {l : List Ty} (h : tysOk l = false) : tabOk l = false := by simp only [tabOk, h, Bool.false_and]

/-- loop.example/g00837/impl.isTable -/
def m79 : MC :=
  (.seq
   (.reg [⟨(some 2), none, .a (.asg (.c (.bool false)))⟩])
   (.seq
    (.seq
     (.reg [⟨(some 4), none, .q (.mov (.t 0))⟩,
       ⟨(some 5), none, .a (.call (.fn 108) false [.lend (.t 4)])⟩,
       ⟨(some 6), none, .q (.un .not (.t 5))⟩])
     (.cond (.t 6)
      (.seq
       (.reg [⟨(some 2), none, .a (.asg (.c (.bool false)))⟩])
       .ret)
      .skip))
    (.seq
     (.seq
      (.reg [⟨(some 7), none, .q (.mov (.t 0))⟩,
        ⟨(some 8), none, .q (.len false (.t 7))⟩,
        ⟨(some 9), none, .q (.mov (.c (.int .i64 0)))⟩])
      (.block 0
       (.loop [0, 8, 9]
        (.seq
         (.reg [⟨(some 10), none, .q (.bin false .lss (.t 9) (.t 8))⟩])
         (.seq
          (.cond (.t 10)
           .skip
           (.exit 0))
          (.seq
           (.block 1
            (.seq
             (.reg [⟨(some 11), none, .q (.mov (.t 9))⟩,
               ⟨(some 3), none, .a (.asg (.t 11))⟩])
             (.seq
              (.reg [⟨(some 12), none, .q (.mov (.t 0))⟩,
                ⟨(some 13), none, .q (.mov (.t 3))⟩,
                ⟨(some 14), none, .a (.call (.fn 109) false [.lend (.t 12), .lend (.t 13)])⟩])
              (.cond (.t 14)
               (.seq
                (.reg [⟨(some 2), none, .a (.asg (.c (.bool false)))⟩])
                .ret)
               .skip))))
           (.reg [⟨(some 15), none, .q (.bin false .add (.t 9) (.c (.int .i64 1)))⟩,
             ⟨(some 9), none, .q (.mov (.t 15))⟩])))))))
     (.seq
      (.reg [⟨(some 2), none, .a (.asg (.c (.bool true)))⟩])
      .ret))))

set_option maxRecDepth 100000 in
theorem d79 (l : List Ty) (hl : (l.length : Int) ≤ 1048576) (hs : ∀ s ∈ l, s.sm) : Does Go.Proofs.Try.prog 79 [.fsl 6 (l.map Ty.z)] false (.v (.bool (tabOk l))) [.dead] := by
  refine does_intro (mc := m79) (N := 16) (rs := [2]) (fx := []) 1 rfl (by decide +kernel) ?_
  simp only [m79, EV, Nat.reduceEqDiff, Nat.reduceBEq, Nat.reduceLT, Nat.reduceLeDiff, Nat.reduceAdd, Nat.reduceSub, reduceIte]
  refine callK_i (d108 l hl hs) ?_
  simp only [EV, Nat.reduceEqDiff, Nat.reduceBEq, Nat.reduceLT, Nat.reduceLeDiff, Nat.reduceAdd, Nat.reduceSub, reduceIte]
  rcases ht : tysOk l with _ | _
  · have e : tabOk l = false := tabOk_tno ht
    simp only [Bool.not_false, EV, Nat.reduceEqDiff, Nat.reduceBEq, Nat.reduceLT, Nat.reduceLeDiff, Nat.reduceAdd, Nat.reduceSub, reduceIte]
    simp only [e, EV, Nat.reduceEqDiff, Nat.reduceBEq, Nat.reduceLT, Nat.reduceLeDiff, Nat.reduceAdd, Nat.reduceSub, reduceIte, retVC, cellV', evR, nfz, nfzs, nfzss, List.contains_nil, List.contains_cons, Bool.or_false, or_true]
  simp only [Bool.not_true, EV, Nat.reduceEqDiff, Nat.reduceBEq, Nat.reduceLT, Nat.reduceLeDiff, Nat.reduceAdd, Nat.reduceSub, reduceIte]
  refine awp_loop (fun i : Nat => i ≤ l.length ∧ noRd l i) (fun i => stl [(0, .fsl 6 (l.map Ty.z)), (8, .v (.int .i64 (l.length : Int))), (9, .v (.int .i64 (i : Int)))]) (fun i => l.length - i) 0 ⟨Nat.zero_le _, fun j h => absurd h (by omega)⟩ ?_ ?_
  · simp only [EV, Nat.reduceEqDiff, Nat.reduceBEq, Nat.reduceLT, Nat.reduceLeDiff, Nat.reduceAdd, Nat.reduceSub, reduceIte]
    rfl
  · rintro i ⟨hi, hno⟩
    simp only [EV, Nat.reduceEqDiff, Nat.reduceBEq, Nat.reduceLT, Nat.reduceLeDiff, Nat.reduceAdd, Nat.reduceSub, reduceIte]
    refine cK_cut (fun h => ?_) (fun h => ?_)
    · have h1 : i < l.length := by simpa using h
      simp only [EV, Nat.reduceEqDiff, Nat.reduceBEq, Nat.reduceLT, Nat.reduceLeDiff, Nat.reduceAdd, Nat.reduceSub, reduceIte]
      refine callK_i (d109 l (i : Int) hl hs ht (by omega) (by omega)) ?_
      simp only [EV, Nat.reduceEqDiff, Nat.reduceBEq, Nat.reduceLT, Nat.reduceLeDiff, Nat.reduceAdd, Nat.reduceSub, reduceIte]
      rcases e1 : roundAt l (i : Int) with _ | _
      · simp only [EV, Nat.reduceEqDiff, Nat.reduceBEq, Nat.reduceLT, Nat.reduceLeDiff, Nat.reduceAdd, Nat.reduceSub, reduceIte]
        rw [w64 _ (by omega)]
        refine ⟨i + 1, ⟨h1, fun j hj => ?_⟩, by omega, rfl⟩
        by_cases e : j = i
        · subst e; exact e1
        · exact hno j (by omega)
      · have e : tabOk l = false := tabOk_no h1 e1
        simp only [EV, Nat.reduceEqDiff, Nat.reduceBEq, Nat.reduceLT, Nat.reduceLeDiff, Nat.reduceAdd, Nat.reduceSub, reduceIte]
        simp only [e, EV, Nat.reduceEqDiff, Nat.reduceBEq, Nat.reduceLT, Nat.reduceLeDiff, Nat.reduceAdd, Nat.reduceSub, reduceIte, retVC, cellV', evR, nfz, nfzs, nfzss, List.contains_nil, List.contains_cons, Bool.or_false, or_true]
    · have h1 : i = l.length := by have : ¬ (i : Int) < l.length := by simpa using h
                                   omega
      subst h1
      have e : tabOk l = true := tabOk_yes ht hno
      simp only [EV, Nat.reduceEqDiff, Nat.reduceBEq, Nat.reduceLT, Nat.reduceLeDiff, Nat.reduceAdd, Nat.reduceSub, reduceIte]
      simp only [e, EV, Nat.reduceEqDiff, Nat.reduceBEq, Nat.reduceLT, Nat.reduceLeDiff, Nat.reduceAdd, Nat.reduceSub, reduceIte, retVC, cellV', evR, nfz, nfzs, nfzss, List.contains_nil, List.contains_cons, Bool.or_false, or_true]

/-- loop.example/g00837/spec.l3Good -/
def m82 : MC :=
  (.seq
   (.reg [⟨(some 2), none, .a (.asg (.c (.bool false)))⟩])
   (.seq
    (.seq
     (.reg [⟨(some 4), none, .q (.mov (.t 0))⟩,
       ⟨(some 5), none, .a (.call (.fn 110) false [.lend (.t 4)])⟩,
       ⟨(some 6), none, .q (.un .not (.t 5))⟩])
     (.cond (.t 6)
      (.seq
       (.reg [⟨(some 2), none, .a (.asg (.c (.bool false)))⟩])
       .ret)
      .skip))
    (.seq
     (.seq
      (.reg [⟨(some 7), none, .q (.mov (.t 0))⟩,
        ⟨(some 8), none, .q (.len false (.t 7))⟩,
        ⟨(some 9), none, .q (.mov (.c (.int .i64 0)))⟩])
      (.block 0
       (.loop [0, 8, 9]
        (.seq
         (.reg [⟨(some 10), none, .q (.bin false .lss (.t 9) (.t 8))⟩])
         (.seq
          (.cond (.t 10)
           .skip
           (.exit 0))
          (.seq
           (.block 1
            (.seq
             (.reg [⟨(some 11), none, .q (.mov (.t 9))⟩,
               ⟨(some 3), none, .a (.asg (.t 11))⟩])
             (.seq
              (.reg [⟨(some 12), none, .q (.mov (.t 0))⟩,
                ⟨(some 13), none, .q (.mov (.t 3))⟩,
                ⟨(some 14), none, .a (.call (.fn 111) false [.lend (.t 12), .lend (.t 13)])⟩])
              (.cond (.t 14)
               (.seq
                (.reg [⟨(some 2), none, .a (.asg (.c (.bool false)))⟩])
                .ret)
               .skip))))
           (.reg [⟨(some 15), none, .q (.bin false .add (.t 9) (.c (.int .i64 1)))⟩,
             ⟨(some 9), none, .q (.mov (.t 15))⟩])))))))
     (.seq
      (.reg [⟨(some 2), none, .a (.asg (.c (.bool true)))⟩])
      .ret))))

set_option maxRecDepth 100000 in
theorem d82 (l : List Ty) (hl : (l.length : Int) ≤ 1048576) (hs : ∀ s ∈ l, s.sm) : Does Go.Proofs.Try.prog 82 [.fsl 6 (l.map Ty.z)] false (.v (.bool (tabOk l))) [.dead] := by
  refine does_intro (mc := m82) (N := 16) (rs := [2]) (fx := []) 1 rfl (by decide +kernel) ?_
  simp only [m82, EV, Nat.reduceEqDiff, Nat.reduceBEq, Nat.reduceLT, Nat.reduceLeDiff, Nat.reduceAdd, Nat.reduceSub, reduceIte]
  refine callK_i (d110 l hl hs) ?_
  simp only [EV, Nat.reduceEqDiff, Nat.reduceBEq, Nat.reduceLT, Nat.reduceLeDiff, Nat.reduceAdd, Nat.reduceSub, reduceIte]
  rcases ht : tysOk l with _ | _
  · have e : tabOk l = false := tabOk_tno ht
    simp only [Bool.not_false, EV, Nat.reduceEqDiff, Nat.reduceBEq, Nat.reduceLT, Nat.reduceLeDiff, Nat.reduceAdd, Nat.reduceSub, reduceIte]
    simp only [e, EV, Nat.reduceEqDiff, Nat.reduceBEq, Nat.reduceLT, Nat.reduceLeDiff, Nat.reduceAdd, Nat.reduceSub, reduceIte, retVC, cellV', evR, nfz, nfzs, nfzss, List.contains_nil, List.contains_cons, Bool.or_false, or_true]
  simp only [Bool.not_true, EV, Nat.reduceEqDiff, Nat.reduceBEq, Nat.reduceLT, Nat.reduceLeDiff, Nat.reduceAdd, Nat.reduceSub, reduceIte]
  refine awp_loop (fun i : Nat => i ≤ l.length ∧ noRd l i) (fun i => stl [(0, .fsl 6 (l.map Ty.z)), (8, .v (.int .i64 (l.length : Int))), (9, .v (.int .i64 (i : Int)))]) (fun i => l.length - i) 0 ⟨Nat.zero_le _, fun j h => absurd h (by omega)⟩ ?_ ?_
  · simp only [EV, Nat.reduceEqDiff, Nat.reduceBEq, Nat.reduceLT, Nat.reduceLeDiff, Nat.reduceAdd, Nat.reduceSub, reduceIte]
    rfl
  · rintro i ⟨hi, hno⟩
    simp only [EV, Nat.reduceEqDiff, Nat.reduceBEq, Nat.reduceLT, Nat.reduceLeDiff, Nat.reduceAdd, Nat.reduceSub, reduceIte]
    refine cK_cut (fun h => ?_) (fun h => ?_)
    · have h1 : i < l.length := by simpa using h
      simp only [EV, Nat.reduceEqDiff, Nat.reduceBEq, Nat.reduceLT, Nat.reduceLeDiff, Nat.reduceAdd, Nat.reduceSub, reduceIte]
      refine callK_i (d111 l (i : Int) hl hs ht (by omega) (by omega)) ?_
      simp only [EV, Nat.reduceEqDiff, Nat.reduceBEq, Nat.reduceLT, Nat.reduceLeDiff, Nat.reduceAdd, Nat.reduceSub, reduceIte]
      rcases e1 : roundAt l (i : Int) with _ | _
      · simp only [EV, Nat.reduceEqDiff, Nat.reduceBEq, Nat.reduceLT, Nat.reduceLeDiff, Nat.reduceAdd, Nat.reduceSub, reduceIte]
        rw [w64 _ (by omega)]
        refine ⟨i + 1, ⟨h1, fun j hj => ?_⟩, by omega, rfl⟩
        by_cases e : j = i
        · subst e; exact e1
        · exact hno j (by omega)
      · have e : tabOk l = false := tabOk_no h1 e1
        simp only [EV, Nat.reduceEqDiff, Nat.reduceBEq, Nat.reduceLT, Nat.reduceLeDiff, Nat.reduceAdd, Nat.reduceSub, reduceIte]
        simp only [e, EV, Nat.reduceEqDiff, Nat.reduceBEq, Nat.reduceLT, Nat.reduceLeDiff, Nat.reduceAdd, Nat.reduceSub, reduceIte, retVC, cellV', evR, nfz, nfzs, nfzss, List.contains_nil, List.contains_cons, Bool.or_false, or_true]
    · have h1 : i = l.length := by have : ¬ (i : Int) < l.length := by simpa using h
                                   omega
      subst h1
      have e : tabOk l = true := tabOk_yes ht hno
      simp only [EV, Nat.reduceEqDiff, Nat.reduceBEq, Nat.reduceLT, Nat.reduceLeDiff, Nat.reduceAdd, Nat.reduceSub, reduceIte]
      simp only [e, EV, Nat.reduceEqDiff, Nat.reduceBEq, Nat.reduceLT, Nat.reduceLeDiff, Nat.reduceAdd, Nat.reduceSub, reduceIte, retVC, cellV', evR, nfz, nfzs, nfzss, List.contains_nil, List.contains_cons, Bool.or_false, or_true]

end Go.AM
namespace Go.AM
set_option linter.unusedVariables false
set_option linter.unusedSimpArgs false
def baseAt (l : List Ty) (n : Int) : Int := match l[n.toNat]? with
  | some t => t.base
  | none => -1

theorem baseAt_eq {l : List Ty} {n : Int} (h : n.toNat < l.length) : baseAt l n = l[n.toNat].base := by simp [baseAt, h]

def chainF (l : List Ty) : Nat → Int → List Int
  | 0, _ => []
  | f + 1, n => if n < 0 then [] else n :: chainF l f (baseAt l n)

def lineL (l : List Ty) (n : Int) : List Int := chainF l (l.length + 1) n

/-- An end or a record. -/
def isL (l : List Ty) (n : Int) : Prop := n < 0 ∨ isRec l n = true

theorem isRec_in {l : List Ty} {n : Int} (h : isRec l n = true) : 0 ≤ n ∧ n < (l.length : Int) ∧ ∃ hn : n.toNat < l.length, l[n.toNat].kind = 5 := by
  simp only [isRec, Bool.and_eq_true, beq_iff_eq] at h
  obtain ⟨h0, h1, hn, hk⟩ := isNum_lt h.1
  exact ⟨h0, h1, hn, by rw [← hk]; exact h.2⟩

theorem isRec_base {l : List Ty} (ht : tysOk l = true) {n : Int} (h : isRec l n = true) : isL l (baseAt l n) ∧ (0 ≤ baseAt l n → baseAt l n ∈ kids l false n) := by
  obtain ⟨h0, h1, hn, hk⟩ := isRec_in h
  have G := tysOk_good ht hn
  rw [baseAt_eq hn]
  refine ⟨(G.rec5 hk).elim (fun e => .inl (by omega)) .inr, fun hb => ?_⟩
  rw [kids_at hn]
  have e6 : (l[n.toNat].kind == 6) = false := by rw [hk]; rfl
  simp only [prt, e6, hb, decide_true, Bool.not_false, Bool.or_true, Bool.and_self, if_true, List.mem_append, List.mem_singleton, true_or]

theorem rk_le (l : List Ty) (n : Int) : rk l n ≤ l.length := by
  unfold rk reachL
  refine Nat.le_trans (List.length_filter_le _ _) ?_
  simp

theorem chainF_irr {l : List Ty} (ht : tabOk l = true) : ∀ (f f' : Nat) (n : Int), isL l n → rk l n < f → rk l n < f' → chainF l f n = chainF l f' n
  | 0, _, n, _, h, _ => absurd h (by omega)
  | f + 1, 0, n, _, _, h => absurd h (by omega)
  | f + 1, f' + 1, n, hn, h, h' => by
    unfold chainF
    by_cases h0 : n < 0
    · rw [if_pos h0, if_pos h0]
    · rw [if_neg h0, if_neg h0]
      have hr : isRec l n = true := hn.resolve_left h0
      obtain ⟨b1, b2⟩ := isRec_base (tabOk_tys ht) hr
      obtain ⟨g0, g1, _⟩ := isRec_in hr
      by_cases hb : baseAt l n < 0
      · have e : ∀ g, chainF l g (baseAt l n) = [] := by
          intro g; cases g with
          | zero => rfl
          | succ g => unfold chainF; rw [if_pos hb]
        rw [e, e]
      · have hlt := rk_lt ht g0 g1 (b2 (by omega))
        rw [chainF_irr ht f f' (baseAt l n) b1 (by omega) (by omega)]

theorem lineL_neg {l : List Ty} {n : Int} (h : n < 0) : lineL l n = [] := by unfold lineL chainF; rw [if_pos h]

theorem lineL_rec {l : List Ty} (ht : tabOk l = true) {n : Int} (h : isRec l n = true) : lineL l n = n :: lineL l (baseAt l n) := by
  obtain ⟨b1, b2⟩ := isRec_base (tabOk_tys ht) h
  obtain ⟨g0, g1, _⟩ := isRec_in h
  unfold lineL
  rw [chainF]
  rw [if_neg (by omega)]
  by_cases hb : baseAt l n < 0
  · have e : ∀ g, chainF l g (baseAt l n) = [] := by
      intro g; cases g with
      | zero => rfl
      | succ g => unfold chainF; rw [if_pos hb]
    rw [e, e]
  · have hlt := rk_lt ht g0 g1 (b2 (by omega))
    have := rk_le l n
    rw [chainF_irr ht l.length (l.length + 1) _ b1 (by omega) (by omega)]

end Go.AM
namespace Go.AM
set_option linter.unusedVariables false
set_option linter.unusedSimpArgs false
theorem line_contains_rec {l : List Ty} (ht : tabOk l = true) {n b : Int} (h : isRec l n = true) : (lineL l n).contains b = ((n == b) || (lineL l (baseAt l n)).contains b) := by
  rw [lineL_rec ht h, List.contains_cons, Bool.beq_comm]

/-- loop.example/g00837/impl.extends -/
def m102 : MC :=
  (.seq
   (.reg [⟨(some 6), none, .a (.asg (.c (.bool false)))⟩])
   (.seq
    (.block 0
     (.loop [0, 1, 2]
      (.seq
       (.seq
        (.reg [⟨(some 7), none, .q (.mov (.t 1))⟩,
          ⟨(some 8), none, .q (.bin false .geq (.t 7) (.c (.int .i64 0)))⟩,
          ⟨(some 9), none, .q (.mov (.t 8))⟩,
          ⟨(some 10), (some (9, true)), .q (.mov (.t 1))⟩,
          ⟨(some 11), (some (9, true)), .q (.mov (.t 2))⟩,
          ⟨(some 12), (some (9, true)), .q (.bin false .neq (.t 10) (.t 11))⟩,
          ⟨(some 13), none, .q (.pick (.t 9) (.t 12) (.c (.bool false)))⟩])
        (.cond (.t 13)
         .skip
         (.exit 0)))
       (.block 1
        (.reg [⟨(some 14), none, .q (.mov (.t 0))⟩,
          ⟨(some 15), none, .q (.mov (.t 1))⟩,
          ⟨(some 16), none, .q (.iad 6 (.t 14) (.t 15))⟩,
          ⟨(some 17), none, .q (.fad 2 (.t 16))⟩,
          ⟨(some 18), none, .q (.load false 1 (.t 17))⟩,
          ⟨(some 1), none, .a (.asg (.t 18))⟩])))))
    (.seq
     (.reg [⟨(some 19), none, .q (.mov (.t 1))⟩,
       ⟨(some 20), none, .q (.mov (.t 2))⟩,
       ⟨(some 21), none, .q (.bin false .eql (.t 19) (.t 20))⟩,
       ⟨(some 6), none, .a (.asg (.t 21))⟩])
     .ret)))

set_option maxRecDepth 100000 in
theorem d102 (l : List Ty) (a0 b : Int) (hl : (l.length : Int) ≤ 1048576) (ht : tabOk l = true) (h0 : isL l a0) (hb : 0 ≤ b) : Does Go.Proofs.Try.prog 102 [.fsl 6 (l.map Ty.z), .v (.int .i64 a0), .v (.int .i64 b)] false (.v (.bool ((lineL l a0).contains b))) [.dead, .dead, .dead] := by
  refine does_intro (mc := m102) (N := 22) (rs := [6]) (fx := []) 3 rfl (by decide +kernel) ?_
  simp only [m102, EV, Nat.reduceEqDiff, Nat.reduceBEq, Nat.reduceLT, Nat.reduceLeDiff, Nat.reduceAdd, Nat.reduceSub, reduceIte]
  refine awp_loop (fun a : Int => isL l a ∧ (lineL l a0).contains b = (lineL l a).contains b) (fun a => stl [(0, .fsl 6 (l.map Ty.z)), (1, .v (.int .i64 a)), (2, .v (.int .i64 b))]) (fun a => (lineL l a).length) a0 ⟨h0, rfl⟩ ?_ ?_
  · simp only [EV, Nat.reduceEqDiff, Nat.reduceBEq, Nat.reduceLT, Nat.reduceLeDiff, Nat.reduceAdd, Nat.reduceSub, reduceIte]
  · rintro a ⟨ha, he⟩
    simp only [EV, Nat.reduceEqDiff, Nat.reduceBEq, Nat.reduceLT, Nat.reduceLeDiff, Nat.reduceAdd, Nat.reduceSub, reduceIte]
    refine gK_cut (fun h => ?_) (fun h => ?_)
    · have hr : isRec l a = true := ha.resolve_left (by have : 0 ≤ a := by simpa using h
                                                        omega)
      obtain ⟨g0, g1, gn, _⟩ := isRec_in hr
      have hlr := lineL_rec ht hr
      have hbs := (isRec_base (tabOk_tys ht) hr).1
      have hc := line_contains_rec (b := b) ht hr
      simp only [h, bne, EV, Nat.reduceEqDiff, Nat.reduceBEq, Nat.reduceLT, Nat.reduceLeDiff, Nat.reduceAdd, Nat.reduceSub, reduceIte]
      rcases e : (a == b) with _ | _
      · simp only [Bool.not_false, g0, g1, nth_map gn, Ty.z, EV, Nat.reduceEqDiff, Nat.reduceBEq, Nat.reduceLT, Nat.reduceLeDiff, Nat.reduceAdd, Nat.reduceSub, reduceIte]
        refine ⟨baseAt l a, ⟨hbs, ?_⟩, by rw [hlr]; simp, ?_⟩
        · rw [he, hc, e, Bool.false_or]
        · rw [baseAt_eq gn]
      · have e2 : (lineL l a0).contains b = true := by rw [he, hc, e, Bool.true_or]
        simp only [Bool.not_true, e, EV, Nat.reduceEqDiff, Nat.reduceBEq, Nat.reduceLT, Nat.reduceLeDiff, Nat.reduceAdd, Nat.reduceSub, reduceIte]
        simp only [e2, EV, Nat.reduceEqDiff, Nat.reduceBEq, Nat.reduceLT, Nat.reduceLeDiff, Nat.reduceAdd, Nat.reduceSub, reduceIte, retVC, cellV', evR, nfz, nfzs, nfzss, List.contains_nil, List.contains_cons, Bool.or_false, or_true]
    · have hn : a < 0 := by have : ¬ 0 ≤ a := by simpa using h
                            omega
      have e1 : (a == b) = false := by simp; omega
      have e2 : (lineL l a0).contains b = false := by rw [he, lineL_neg hn]; rfl
      simp only [h, EV, Nat.reduceEqDiff, Nat.reduceBEq, Nat.reduceLT, Nat.reduceLeDiff, Nat.reduceAdd, Nat.reduceSub, reduceIte]
      simp only [e1, e2, EV, Nat.reduceEqDiff, Nat.reduceBEq, Nat.reduceLT, Nat.reduceLeDiff, Nat.reduceAdd, Nat.reduceSub, reduceIte, retVC, cellV', evR, nfz, nfzs, nfzss, List.contains_nil, List.contains_cons, Bool.or_false, or_true]

/-- loop.example/g00837/spec.l3Extends -/
def m103 : MC :=
  (.seq
   (.reg [⟨(some 6), none, .a (.asg (.c (.bool false)))⟩])
   (.seq
    (.block 0
     (.loop [0, 1, 2]
      (.seq
       (.seq
        (.reg [⟨(some 7), none, .q (.mov (.t 1))⟩,
          ⟨(some 8), none, .q (.bin false .geq (.t 7) (.c (.int .i64 0)))⟩])
        (.cond (.t 8)
         .skip
         (.exit 0)))
       (.seq
        (.block 1
         (.seq
          (.reg [⟨(some 14), none, .q (.mov (.t 1))⟩,
            ⟨(some 15), none, .q (.mov (.t 2))⟩,
            ⟨(some 16), none, .q (.bin false .eql (.t 14) (.t 15))⟩])
          (.cond (.t 16)
           (.seq
            (.reg [⟨(some 6), none, .a (.asg (.c (.bool true)))⟩])
            .ret)
           .skip)))
        (.reg [⟨(some 9), none, .q (.mov (.t 0))⟩,
          ⟨(some 10), none, .q (.mov (.t 1))⟩,
          ⟨(some 11), none, .q (.iad 6 (.t 9) (.t 10))⟩,
          ⟨(some 12), none, .q (.fad 2 (.t 11))⟩,
          ⟨(some 13), none, .q (.load false 1 (.t 12))⟩,
          ⟨(some 1), none, .a (.asg (.t 13))⟩])))))
    (.seq
     (.reg [⟨(some 6), none, .a (.asg (.c (.bool false)))⟩])
     .ret)))

set_option maxRecDepth 100000 in
theorem d103 (l : List Ty) (a0 b : Int) (hl : (l.length : Int) ≤ 1048576) (ht : tabOk l = true) (h0 : isL l a0) : Does Go.Proofs.Try.prog 103 [.fsl 6 (l.map Ty.z), .v (.int .i64 a0), .v (.int .i64 b)] false (.v (.bool ((lineL l a0).contains b))) [.dead, .dead, .dead] := by
  refine does_intro (mc := m103) (N := 17) (rs := [6]) (fx := []) 3 rfl (by decide +kernel) ?_
  simp only [m103, EV, Nat.reduceEqDiff, Nat.reduceBEq, Nat.reduceLT, Nat.reduceLeDiff, Nat.reduceAdd, Nat.reduceSub, reduceIte]
  refine awp_loop (fun a : Int => isL l a ∧ (lineL l a0).contains b = (lineL l a).contains b) (fun a => stl [(0, .fsl 6 (l.map Ty.z)), (1, .v (.int .i64 a)), (2, .v (.int .i64 b))]) (fun a => (lineL l a).length) a0 ⟨h0, rfl⟩ ?_ ?_
  · simp only [EV, Nat.reduceEqDiff, Nat.reduceBEq, Nat.reduceLT, Nat.reduceLeDiff, Nat.reduceAdd, Nat.reduceSub, reduceIte]
  · rintro a ⟨ha, he⟩
    simp only [EV, Nat.reduceEqDiff, Nat.reduceBEq, Nat.reduceLT, Nat.reduceLeDiff, Nat.reduceAdd, Nat.reduceSub, reduceIte]
    refine cK_cut (fun h => ?_) (fun h => ?_)
    · have hr : isRec l a = true := ha.resolve_left (by have : 0 ≤ a := by simpa using h
                                                        omega)
      obtain ⟨g0, g1, gn, _⟩ := isRec_in hr
      have hlr := lineL_rec ht hr
      have hbs := (isRec_base (tabOk_tys ht) hr).1
      have hc := line_contains_rec (b := b) ht hr
      simp only [h, EV, Nat.reduceEqDiff, Nat.reduceBEq, Nat.reduceLT, Nat.reduceLeDiff, Nat.reduceAdd, Nat.reduceSub, reduceIte]
      rcases e : (a == b) with _ | _
      · simp only [g0, g1, nth_map gn, Ty.z, EV, Nat.reduceEqDiff, Nat.reduceBEq, Nat.reduceLT, Nat.reduceLeDiff, Nat.reduceAdd, Nat.reduceSub, reduceIte]
        refine ⟨baseAt l a, ⟨hbs, ?_⟩, by rw [hlr]; simp, ?_⟩
        · rw [he, hc, e, Bool.false_or]
        · rw [baseAt_eq gn]
      · have e2 : (lineL l a0).contains b = true := by rw [he, hc, e, Bool.true_or]
        simp only [EV, Nat.reduceEqDiff, Nat.reduceBEq, Nat.reduceLT, Nat.reduceLeDiff, Nat.reduceAdd, Nat.reduceSub, reduceIte]
        simp only [e2, EV, Nat.reduceEqDiff, Nat.reduceBEq, Nat.reduceLT, Nat.reduceLeDiff, Nat.reduceAdd, Nat.reduceSub, reduceIte, retVC, cellV', evR, nfz, nfzs, nfzss, List.contains_nil, List.contains_cons, Bool.or_false, or_true]
    · have hn : a < 0 := by have : ¬ 0 ≤ a := by simpa using h
                            omega
      have e2 : (lineL l a0).contains b = false := by rw [he, lineL_neg hn]; rfl
      simp only [h, EV, Nat.reduceEqDiff, Nat.reduceBEq, Nat.reduceLT, Nat.reduceLeDiff, Nat.reduceAdd, Nat.reduceSub, reduceIte]
      simp only [e2, EV, Nat.reduceEqDiff, Nat.reduceBEq, Nat.reduceLT, Nat.reduceLeDiff, Nat.reduceAdd, Nat.reduceSub, reduceIte, retVC, cellV', evR, nfz, nfzs, nfzss, List.contains_nil, List.contains_cons, Bool.or_false, or_true]

noncomputable def mayT (l : List Ty) (x y : Int) (a b : Ty) : Bool :=
  if (x == y) = true then true else if (a.kind == b.kind) = false then false
  else if (a.kind == 5) = true then (lineL l y).contains x
  else if (a.kind == 6) = true then (a.base == b.base) || (isRec l a.base && (isRec l b.base && (lineL l b.base).contains a.base))
  else if (a.kind == 4) = true then (a.long == b.long) && (a.base == b.base) else false

noncomputable def mayL (l : List Ty) (x y : Int) : Bool := match l[x.toNat]?, l[y.toNat]? with
  | some a, some b => mayT l x y a b
  | _, _ => false

/-- loop.example/g00837/impl.mayPut -/
def m81 : MC :=
  (.seq
   (.reg [⟨(some 6), none, .a (.asg (.c (.bool false)))⟩])
   (.join [0, 1, 2, 7, 8]
    (.mixt [0, 1, 2] [0, 1, 2, 7, 8] [] [0, 1, 2] [0, 1, 2, 3, 4, 5, 6, 7]
      [⟨(some 9), none, .q (.mov (.t 0))⟩,
       ⟨(some 10), none, .q (.mov (.t 1))⟩,
       ⟨(some 11), none, .q (.iad 6 (.t 9) (.t 10))⟩,
       ⟨(some 12), none, .q (.load true 6 (.t 11))⟩,
       ⟨(some 13), none, .q (.mov (.t 0))⟩,
       ⟨(some 14), none, .q (.mov (.t 2))⟩,
       ⟨(some 15), none, .q (.iad 6 (.t 13) (.t 14))⟩,
       ⟨(some 16), none, .q (.load true 6 (.t 15))⟩]
      (.alt (.step 8 ⟨(some 7), none, .a (.alloc 59 [.v (.int .i64 0), .v (.int .i64 0), .v (.int .i64 0), .s 57 3, .v (.string ({ data := #[] })), .v (.string ({ data := #[] }))])⟩
      (.step 9 ⟨(some 8), none, .a (.alloc 59 [.v (.int .i64 0), .v (.int .i64 0), .v (.int .i64 0), .s 57 3, .v (.string ({ data := #[] })), .v (.string ({ data := #[] }))])⟩
       (.step 10 ⟨none, none, .a (.store 6 (.t 7) (.t 12))⟩
        (.step 11 ⟨none, none, .a (.store 6 (.t 8) (.t 16))⟩
         .nil))))
      (.step 9 ⟨(some 8), none, .a (.alloc 59 [.v (.int .i64 0), .v (.int .i64 0), .v (.int .i64 0), .s 57 3, .v (.string ({ data := #[] })), .v (.string ({ data := #[] }))])⟩
      (.step 8 ⟨(some 7), none, .a (.alloc 59 [.v (.int .i64 0), .v (.int .i64 0), .v (.int .i64 0), .s 57 3, .v (.string ({ data := #[] })), .v (.string ({ data := #[] }))])⟩
       (.step 10 ⟨none, none, .a (.store 6 (.t 7) (.t 12))⟩
        (.step 11 ⟨none, none, .a (.store 6 (.t 8) (.t 16))⟩
         .nil))))))
    (.seq
     (.block 0
      (.seq
       (.reg [⟨(some 18), none, .q (.mov (.t 1))⟩,
         ⟨(some 19), none, .q (.mov (.t 2))⟩,
         ⟨(some 20), none, .q (.bin false .eql (.t 18) (.t 19))⟩,
         ⟨(some 17), none, .a (.asg (.t 20))⟩])
       (.cond (.t 17)
        (.seq
         (.reg [⟨(some 6), none, .a (.asg (.c (.bool true)))⟩])
         .ret)
        (.seq
         (.reg [⟨(some 22), none, .q (.fad 0 (.t 7))⟩,
           ⟨(some 23), none, .q (.load false 1 (.t 22))⟩,
           ⟨(some 24), none, .q (.fad 0 (.t 8))⟩,
           ⟨(some 25), none, .q (.load false 1 (.t 24))⟩,
           ⟨(some 26), none, .q (.bin false .neq (.t 23) (.t 25))⟩,
           ⟨(some 21), none, .a (.asg (.t 26))⟩])
         (.cond (.t 21)
          (.seq
           (.reg [⟨(some 6), none, .a (.asg (.c (.bool false)))⟩])
           .ret)
          .skip)))))
     (.seq
      (.seq
       (.reg [⟨(some 27), none, .q (.fad 0 (.t 7))⟩,
         ⟨(some 28), none, .q (.load false 1 (.t 27))⟩])
       (.block 1
        (.seq
         (.reg [⟨(some 30), none, .q (.bin false .eql (.t 28) (.c (.int .i64 5)))⟩,
           ⟨(some 29), none, .a (.asg (.t 30))⟩])
         (.cond (.t 29)
          (.seq
           (.reg [⟨(some 31), none, .q (.mov (.t 0))⟩,
             ⟨(some 32), none, .q (.mov (.t 2))⟩,
             ⟨(some 33), none, .q (.mov (.t 1))⟩,
             ⟨(some 34), none, .a (.call (.fn 102) false [.lend (.t 31), .lend (.t 32), .lend (.t 33)])⟩,
             ⟨(some 6), none, .a (.asg (.t 34))⟩])
           .ret)
          (.seq
           (.reg [⟨(some 36), none, .q (.bin false .eql (.t 28) (.c (.int .i64 6)))⟩,
             ⟨(some 35), none, .a (.asg (.t 36))⟩])
           (.cond (.t 35)
            (.seq
             (.reg [⟨(some 37), none, .q (.fad 2 (.t 7))⟩,
               ⟨(some 38), none, .q (.load false 1 (.t 37))⟩,
               ⟨(some 39), none, .q (.fad 2 (.t 8))⟩,
               ⟨(some 40), none, .q (.load false 1 (.t 39))⟩,
               ⟨(some 41), none, .q (.bin false .eql (.t 38) (.t 40))⟩,
               ⟨(some 42), none, .q (.mov (.t 41))⟩,
               ⟨(some 43), (some (42, false)), .q (.mov (.t 0))⟩,
               ⟨(some 44), (some (42, false)), .q (.fad 2 (.t 7))⟩,
               ⟨(some 45), (some (42, false)), .q (.load false 1 (.t 44))⟩,
               ⟨(some 46), (some (42, false)), .a (.call (.fn 98) false [.lend (.t 43), .lend (.t 45)])⟩,
               ⟨(some 47), (some (42, false)), .q (.mov (.t 46))⟩,
               ⟨(some 48), (some (47, true)), .q (.mov (.t 0))⟩,
               ⟨(some 49), (some (47, true)), .q (.fad 2 (.t 8))⟩,
               ⟨(some 50), (some (47, true)), .q (.load false 1 (.t 49))⟩,
               ⟨(some 51), (some (47, true)), .a (.call (.fn 98) false [.lend (.t 48), .lend (.t 50)])⟩,
               ⟨(some 52), (some (42, false)), .q (.pick (.t 47) (.t 51) (.c (.bool false)))⟩,
               ⟨(some 53), (some (42, false)), .q (.mov (.t 52))⟩,
               ⟨(some 54), (some (53, true)), .q (.mov (.t 0))⟩,
               ⟨(some 55), (some (53, true)), .q (.fad 2 (.t 8))⟩,
               ⟨(some 56), (some (53, true)), .q (.load false 1 (.t 55))⟩,
               ⟨(some 57), (some (53, true)), .q (.fad 2 (.t 7))⟩,
               ⟨(some 58), (some (53, true)), .q (.load false 1 (.t 57))⟩,
               ⟨(some 59), (some (53, true)), .a (.call (.fn 102) false [.lend (.t 54), .lend (.t 56), .lend (.t 58)])⟩,
               ⟨(some 60), (some (42, false)), .q (.pick (.t 53) (.t 59) (.c (.bool false)))⟩,
               ⟨(some 61), none, .q (.pick (.t 42) (.c (.bool true)) (.t 60))⟩,
               ⟨(some 6), none, .a (.asg (.t 61))⟩])
             .ret)
            (.seq
             (.reg [⟨(some 63), none, .q (.bin false .eql (.t 28) (.c (.int .i64 4)))⟩,
               ⟨(some 62), none, .a (.asg (.t 63))⟩])
             (.cond (.t 62)
              (.seq
               (.reg [⟨(some 64), none, .q (.fad 1 (.t 7))⟩,
                 ⟨(some 65), none, .q (.load false 1 (.t 64))⟩,
                 ⟨(some 66), none, .q (.fad 1 (.t 8))⟩,
                 ⟨(some 67), none, .q (.load false 1 (.t 66))⟩,
                 ⟨(some 68), none, .q (.bin false .eql (.t 65) (.t 67))⟩,
                 ⟨(some 69), none, .q (.mov (.t 68))⟩,
                 ⟨(some 70), (some (69, true)), .q (.fad 2 (.t 7))⟩,
                 ⟨(some 71), (some (69, true)), .q (.load false 1 (.t 70))⟩,
                 ⟨(some 72), (some (69, true)), .q (.fad 2 (.t 8))⟩,
                 ⟨(some 73), (some (69, true)), .q (.load false 1 (.t 72))⟩,
                 ⟨(some 74), (some (69, true)), .q (.bin false .eql (.t 71) (.t 73))⟩,
                 ⟨(some 75), none, .q (.pick (.t 69) (.t 74) (.c (.bool false)))⟩,
                 ⟨(some 6), none, .a (.asg (.t 75))⟩])
               .ret)
              .skip))))))))
      (.seq
       (.reg [⟨(some 6), none, .a (.asg (.c (.bool false)))⟩])
       .ret)))))

set_option maxHeartbeats 1000000 in
set_option maxRecDepth 100000 in
theorem d81 (l : List Ty) (x y : Int) (hl : (l.length : Int) ≤ 1048576) (ht : tabOk l = true) (hx : 0 ≤ x ∧ x < (l.length : Int)) (hy : 0 ≤ y ∧ y < (l.length : Int)) :
    Does Go.Proofs.Try.prog 81 [.fsl 6 (l.map Ty.z), .v (.int .i64 x), .v (.int .i64 y)] false (.v (.bool (mayL l x y))) [.dead, .dead, .dead] := by
  have hxn : x.toNat < l.length := by omega
  have hyn : y.toNat < l.length := by omega
  have em : mayL l x y = mayT l x y l[x.toNat] l[y.toNat] := by simp [mayL, hxn, hyn]
  rw [em]
  refine does_intro (mc := m81) (N := 76) (rs := [6]) (fx := []) 3 rfl (by decide +kernel) ?_
  simp only [m81, EV, Nat.reduceEqDiff, Nat.reduceBEq, Nat.reduceLT, Nat.reduceLeDiff, Nat.reduceAdd, Nat.reduceSub, reduceIte]
  refine awp_join (fun _ : Unit => True) (fun _ => stl [(0, .fsl 6 (l.map Ty.z)), (1, .v (.int .i64 x)), (2, .v (.int .i64 y)), (7, .box 59 l[x.toNat].z), (8, .box 59 l[y.toNat].z)]) ?_ ?_
  · simp only [hx.1, hx.2, hy.1, hy.2, nth_map hxn, nth_map hyn, Ty.z, EV, Nat.reduceEqDiff, Nat.reduceBEq, Nat.reduceLT, Nat.reduceLeDiff, Nat.reduceAdd, Nat.reduceSub, reduceIte]
    exact ⟨(), trivial⟩
  rintro _ _
  have Gx := tysOk_good (tabOk_tys ht) hxn
  have Gy := tysOk_good (tabOk_tys ht) hyn
  have hkx : l[x.toNat].kind = kd l x := by simp [kd, hxn]
  have hky : l[y.toNat].kind = kd l y := by simp [kd, hyn]
  have hnx : isNum l x = true := isNum_in.2 hx
  have hny : isNum l y = true := isNum_in.2 hy
  rcases e1 : (x == y) with _ | _
  rotate_left
  · have e : mayT l x y l[x.toNat] l[y.toNat] = true := by unfold mayT; rw [if_pos e1]
    simp only [e1, Ty.z, EV, Nat.reduceEqDiff, Nat.reduceBEq, Nat.reduceLT, Nat.reduceLeDiff, Nat.reduceAdd, Nat.reduceSub, reduceIte]
    simp only [e, EV, Nat.reduceEqDiff, Nat.reduceBEq, Nat.reduceLT, Nat.reduceLeDiff, Nat.reduceAdd, Nat.reduceSub, reduceIte, retVC, cellV', evR, nfz, nfzs, nfzss, List.contains_nil, List.contains_cons, Bool.or_false, or_true]
  rcases e2 : (l[x.toNat].kind == l[y.toNat].kind) with _ | _
  · have e : mayT l x y l[x.toNat] l[y.toNat] = false := by unfold mayT; rw [e1, e2]; rfl
    simp only [e1, e2, bne, Bool.not_false, Ty.z, EV, Nat.reduceEqDiff, Nat.reduceBEq, Nat.reduceLT, Nat.reduceLeDiff, Nat.reduceAdd, Nat.reduceSub, reduceIte]
    simp only [e, EV, Nat.reduceEqDiff, Nat.reduceBEq, Nat.reduceLT, Nat.reduceLeDiff, Nat.reduceAdd, Nat.reduceSub, reduceIte, retVC, cellV', evR, nfz, nfzs, nfzss, List.contains_nil, List.contains_cons, Bool.or_false, or_true]
  rcases e5 : (l[x.toNat].kind == 5) with _ | _
  rotate_left
  · have e : mayT l x y l[x.toNat] l[y.toNat] = (lineL l y).contains x := by unfold mayT; rw [e1, e2, e5]; rfl
    have k5 : l[x.toNat].kind = 5 := by simpa using e5
    have k2 : l[x.toNat].kind = l[y.toNat].kind := by simpa using e2
    have hr : isRec l y = true := by
      simp only [isRec, hny, Bool.true_and, beq_iff_eq]; omega
    simp only [e1, e2, e5, bne, Bool.not_true, Ty.z, EV, Nat.reduceEqDiff, Nat.reduceBEq, Nat.reduceLT, Nat.reduceLeDiff, Nat.reduceAdd, Nat.reduceSub, reduceIte]
    refine callK_i (d102 l y x hl ht (.inr hr) hx.1) ?_
    simp only [EV, Nat.reduceEqDiff, Nat.reduceBEq, Nat.reduceLT, Nat.reduceLeDiff, Nat.reduceAdd, Nat.reduceSub, reduceIte]
    simp only [e, EV, Nat.reduceEqDiff, Nat.reduceBEq, Nat.reduceLT, Nat.reduceLeDiff, Nat.reduceAdd, Nat.reduceSub, reduceIte, retVC, cellV', evR, nfz, nfzs, nfzss, List.contains_nil, List.contains_cons, Bool.or_false, or_true]
  rcases e6 : (l[x.toNat].kind == 6) with _ | _
  rotate_left
  · have e : mayT l x y l[x.toNat] l[y.toNat] = ((l[x.toNat].base == l[y.toNat].base) || (isRec l l[x.toNat].base && (isRec l l[y.toNat].base && (lineL l l[y.toNat].base).contains l[x.toNat].base))) := by unfold mayT; rw [e1, e2, e5, e6]; rfl
    rw [e]
    simp only [e1, e2, e5, e6, bne, Bool.not_true, Ty.z, EV, Nat.reduceEqDiff, Nat.reduceBEq, Nat.reduceLT, Nat.reduceLeDiff, Nat.reduceAdd, Nat.reduceSub, reduceIte]
    rcases b1 : (l[x.toNat].base == l[y.toNat].base) with _ | _
    rotate_left
    · simp only [b1, EV, Nat.reduceEqDiff, Nat.reduceBEq, Nat.reduceLT, Nat.reduceLeDiff, Nat.reduceAdd, Nat.reduceSub, reduceIte]
      simp only [b1, Bool.true_or, EV, Nat.reduceEqDiff, Nat.reduceBEq, Nat.reduceLT, Nat.reduceLeDiff, Nat.reduceAdd, Nat.reduceSub, reduceIte, retVC, cellV', evR, nfz, nfzs, nfzss, List.contains_nil, List.contains_cons, Bool.or_false, or_true]
    simp only [b1, Ty.z, EV, Nat.reduceEqDiff, Nat.reduceBEq, Nat.reduceLT, Nat.reduceLeDiff, Nat.reduceAdd, Nat.reduceSub, reduceIte]
    refine callK_i (d98 l _ hl) ?_
    simp only [Ty.z, EV, Nat.reduceEqDiff, Nat.reduceBEq, Nat.reduceLT, Nat.reduceLeDiff, Nat.reduceAdd, Nat.reduceSub, reduceIte]
    rcases b2 : isRec l l[x.toNat].base with _ | _
    · simp only [EV, Nat.reduceEqDiff, Nat.reduceBEq, Nat.reduceLT, Nat.reduceLeDiff, Nat.reduceAdd, Nat.reduceSub, reduceIte]
      simp only [b1, b2, Bool.false_or, Bool.false_and, EV, Nat.reduceEqDiff, Nat.reduceBEq, Nat.reduceLT, Nat.reduceLeDiff, Nat.reduceAdd, Nat.reduceSub, reduceIte, retVC, cellV', evR, nfz, nfzs, nfzss, List.contains_nil, List.contains_cons, Bool.or_false, or_true]
    simp only [Ty.z, EV, Nat.reduceEqDiff, Nat.reduceBEq, Nat.reduceLT, Nat.reduceLeDiff, Nat.reduceAdd, Nat.reduceSub, reduceIte]
    refine callK_i (d98 l _ hl) ?_
    simp only [Ty.z, EV, Nat.reduceEqDiff, Nat.reduceBEq, Nat.reduceLT, Nat.reduceLeDiff, Nat.reduceAdd, Nat.reduceSub, reduceIte]
    rcases b3 : isRec l l[y.toNat].base with _ | _
    · simp only [EV, Nat.reduceEqDiff, Nat.reduceBEq, Nat.reduceLT, Nat.reduceLeDiff, Nat.reduceAdd, Nat.reduceSub, reduceIte]
      simp only [b1, b2, b3, Bool.false_or, Bool.false_and, Bool.true_and, EV, Nat.reduceEqDiff, Nat.reduceBEq, Nat.reduceLT, Nat.reduceLeDiff, Nat.reduceAdd, Nat.reduceSub, reduceIte, retVC, cellV', evR, nfz, nfzs, nfzss, List.contains_nil, List.contains_cons, Bool.or_false, or_true]
    simp only [Ty.z, EV, Nat.reduceEqDiff, Nat.reduceBEq, Nat.reduceLT, Nat.reduceLeDiff, Nat.reduceAdd, Nat.reduceSub, reduceIte]
    refine callK_i (d102 l _ _ hl ht (.inr b3) (isRec_in b2).1) ?_
    simp only [EV, Nat.reduceEqDiff, Nat.reduceBEq, Nat.reduceLT, Nat.reduceLeDiff, Nat.reduceAdd, Nat.reduceSub, reduceIte]
    simp only [b1, b2, b3, Bool.false_or, Bool.true_and, EV, Nat.reduceEqDiff, Nat.reduceBEq, Nat.reduceLT, Nat.reduceLeDiff, Nat.reduceAdd, Nat.reduceSub, reduceIte, retVC, cellV', evR, nfz, nfzs, nfzss, List.contains_nil, List.contains_cons, Bool.or_false, or_true]
  rcases e4 : (l[x.toNat].kind == 4) with _ | _
  · have e : mayT l x y l[x.toNat] l[y.toNat] = false := by unfold mayT; rw [e1, e2, e5, e6, e4]; rfl
    simp only [e1, e2, e5, e6, e4, bne, Bool.not_true, Ty.z, EV, Nat.reduceEqDiff, Nat.reduceBEq, Nat.reduceLT, Nat.reduceLeDiff, Nat.reduceAdd, Nat.reduceSub, reduceIte]
    simp only [e, EV, Nat.reduceEqDiff, Nat.reduceBEq, Nat.reduceLT, Nat.reduceLeDiff, Nat.reduceAdd, Nat.reduceSub, reduceIte, retVC, cellV', evR, nfz, nfzs, nfzss, List.contains_nil, List.contains_cons, Bool.or_false, or_true]
  · have e : mayT l x y l[x.toNat] l[y.toNat] = ((l[x.toNat].long == l[y.toNat].long) && (l[x.toNat].base == l[y.toNat].base)) := by unfold mayT; rw [e1, e2, e5, e6, e4]; rfl
    rw [e]
    simp only [e1, e2, e5, e6, e4, bne, Bool.not_true, Ty.z, EV, Nat.reduceEqDiff, Nat.reduceBEq, Nat.reduceLT, Nat.reduceLeDiff, Nat.reduceAdd, Nat.reduceSub, reduceIte]
    rcases b1 : (l[x.toNat].long == l[y.toNat].long) with _ | _
    · simp only [EV, Nat.reduceEqDiff, Nat.reduceBEq, Nat.reduceLT, Nat.reduceLeDiff, Nat.reduceAdd, Nat.reduceSub, reduceIte]
      simp only [b1, Bool.false_and, EV, Nat.reduceEqDiff, Nat.reduceBEq, Nat.reduceLT, Nat.reduceLeDiff, Nat.reduceAdd, Nat.reduceSub, reduceIte, retVC, cellV', evR, nfz, nfzs, nfzss, List.contains_nil, List.contains_cons, Bool.or_false, or_true]
    · simp only [EV, Nat.reduceEqDiff, Nat.reduceBEq, Nat.reduceLT, Nat.reduceLeDiff, Nat.reduceAdd, Nat.reduceSub, reduceIte]
      simp only [b1, Bool.true_and, EV, Nat.reduceEqDiff, Nat.reduceBEq, Nat.reduceLT, Nat.reduceLeDiff, Nat.reduceAdd, Nat.reduceSub, reduceIte, retVC, cellV', evR, nfz, nfzs, nfzss, List.contains_nil, List.contains_cons, Bool.or_false, or_true]

/-- loop.example/g00837/spec.l10Put -/
def m78 : MC :=
  (.seq
   (.reg [⟨(some 6), none, .a (.asg (.c (.bool false)))⟩])
   (.join [0, 1, 2, 7, 8]
    (.mixt [0, 1, 2] [0, 1, 2, 7, 8] [] [0, 1, 2] [0, 1, 2, 3, 4, 5, 6, 7]
      [⟨(some 9), none, .q (.mov (.t 0))⟩,
       ⟨(some 10), none, .q (.mov (.t 1))⟩,
       ⟨(some 11), none, .q (.iad 6 (.t 9) (.t 10))⟩,
       ⟨(some 12), none, .q (.load true 6 (.t 11))⟩,
       ⟨(some 13), none, .q (.mov (.t 0))⟩,
       ⟨(some 14), none, .q (.mov (.t 2))⟩,
       ⟨(some 15), none, .q (.iad 6 (.t 13) (.t 14))⟩,
       ⟨(some 16), none, .q (.load true 6 (.t 15))⟩]
      (.alt (.step 8 ⟨(some 7), none, .a (.alloc 59 [.v (.int .i64 0), .v (.int .i64 0), .v (.int .i64 0), .s 57 3, .v (.string ({ data := #[] })), .v (.string ({ data := #[] }))])⟩
      (.step 9 ⟨(some 8), none, .a (.alloc 59 [.v (.int .i64 0), .v (.int .i64 0), .v (.int .i64 0), .s 57 3, .v (.string ({ data := #[] })), .v (.string ({ data := #[] }))])⟩
       (.step 10 ⟨none, none, .a (.store 6 (.t 7) (.t 12))⟩
        (.step 11 ⟨none, none, .a (.store 6 (.t 8) (.t 16))⟩
         .nil))))
      (.step 9 ⟨(some 8), none, .a (.alloc 59 [.v (.int .i64 0), .v (.int .i64 0), .v (.int .i64 0), .s 57 3, .v (.string ({ data := #[] })), .v (.string ({ data := #[] }))])⟩
      (.step 8 ⟨(some 7), none, .a (.alloc 59 [.v (.int .i64 0), .v (.int .i64 0), .v (.int .i64 0), .s 57 3, .v (.string ({ data := #[] })), .v (.string ({ data := #[] }))])⟩
       (.step 10 ⟨none, none, .a (.store 6 (.t 7) (.t 12))⟩
        (.step 11 ⟨none, none, .a (.store 6 (.t 8) (.t 16))⟩
         .nil))))))
    (.seq
     (.block 0
      (.seq
       (.reg [⟨(some 18), none, .q (.mov (.t 1))⟩,
         ⟨(some 19), none, .q (.mov (.t 2))⟩,
         ⟨(some 20), none, .q (.bin false .eql (.t 18) (.t 19))⟩,
         ⟨(some 17), none, .a (.asg (.t 20))⟩])
       (.cond (.t 17)
        (.seq
         (.reg [⟨(some 6), none, .a (.asg (.c (.bool true)))⟩])
         .ret)
        (.seq
         (.reg [⟨(some 22), none, .q (.fad 0 (.t 7))⟩,
           ⟨(some 23), none, .q (.load false 1 (.t 22))⟩,
           ⟨(some 24), none, .q (.fad 0 (.t 8))⟩,
           ⟨(some 25), none, .q (.load false 1 (.t 24))⟩,
           ⟨(some 26), none, .q (.bin false .neq (.t 23) (.t 25))⟩,
           ⟨(some 21), none, .a (.asg (.t 26))⟩])
         (.cond (.t 21)
          (.seq
           (.reg [⟨(some 6), none, .a (.asg (.c (.bool false)))⟩])
           .ret)
          (.seq
           (.reg [⟨(some 28), none, .q (.fad 0 (.t 7))⟩,
             ⟨(some 29), none, .q (.load false 1 (.t 28))⟩,
             ⟨(some 30), none, .q (.bin false .eql (.t 29) (.c (.int .i64 5)))⟩,
             ⟨(some 27), none, .a (.asg (.t 30))⟩])
           (.cond (.t 27)
            (.seq
             (.reg [⟨(some 31), none, .q (.mov (.t 0))⟩,
               ⟨(some 32), none, .q (.mov (.t 2))⟩,
               ⟨(some 33), none, .q (.mov (.t 1))⟩,
               ⟨(some 34), none, .a (.call (.fn 103) false [.lend (.t 31), .lend (.t 32), .lend (.t 33)])⟩,
               ⟨(some 6), none, .a (.asg (.t 34))⟩])
             .ret)
            (.seq
             (.reg [⟨(some 36), none, .q (.fad 0 (.t 7))⟩,
               ⟨(some 37), none, .q (.load false 1 (.t 36))⟩,
               ⟨(some 38), none, .q (.bin false .eql (.t 37) (.c (.int .i64 6)))⟩,
               ⟨(some 35), none, .a (.asg (.t 38))⟩])
             (.cond (.t 35)
              (.seq
               (.reg [⟨(some 39), none, .q (.fad 2 (.t 7))⟩,
                 ⟨(some 40), none, .q (.load false 1 (.t 39))⟩,
                 ⟨(some 41), none, .q (.fad 2 (.t 8))⟩,
                 ⟨(some 42), none, .q (.load false 1 (.t 41))⟩,
                 ⟨(some 43), none, .q (.bin false .eql (.t 40) (.t 42))⟩,
                 ⟨(some 44), none, .q (.mov (.t 43))⟩,
                 ⟨(some 45), (some (44, false)), .q (.mov (.t 0))⟩,
                 ⟨(some 46), (some (44, false)), .q (.fad 2 (.t 7))⟩,
                 ⟨(some 47), (some (44, false)), .q (.load false 1 (.t 46))⟩,
                 ⟨(some 48), (some (44, false)), .q (.iad 6 (.t 45) (.t 47))⟩,
                 ⟨(some 49), (some (44, false)), .q (.fad 0 (.t 48))⟩,
                 ⟨(some 50), (some (44, false)), .q (.load false 1 (.t 49))⟩,
                 ⟨(some 51), (some (44, false)), .q (.bin false .eql (.t 50) (.c (.int .i64 5)))⟩,
                 ⟨(some 52), (some (44, false)), .q (.mov (.t 51))⟩,
                 ⟨(some 53), (some (52, true)), .q (.mov (.t 0))⟩,
                 ⟨(some 54), (some (52, true)), .q (.fad 2 (.t 8))⟩,
                 ⟨(some 55), (some (52, true)), .q (.load false 1 (.t 54))⟩,
                 ⟨(some 56), (some (52, true)), .q (.iad 6 (.t 53) (.t 55))⟩,
                 ⟨(some 57), (some (52, true)), .q (.fad 0 (.t 56))⟩,
                 ⟨(some 58), (some (52, true)), .q (.load false 1 (.t 57))⟩,
                 ⟨(some 59), (some (52, true)), .q (.bin false .eql (.t 58) (.c (.int .i64 5)))⟩,
                 ⟨(some 60), (some (44, false)), .q (.pick (.t 52) (.t 59) (.c (.bool false)))⟩,
                 ⟨(some 61), (some (44, false)), .q (.mov (.t 60))⟩,
                 ⟨(some 62), (some (61, true)), .q (.mov (.t 0))⟩,
                 ⟨(some 63), (some (61, true)), .q (.fad 2 (.t 8))⟩,
                 ⟨(some 64), (some (61, true)), .q (.load false 1 (.t 63))⟩,
                 ⟨(some 65), (some (61, true)), .q (.fad 2 (.t 7))⟩,
                 ⟨(some 66), (some (61, true)), .q (.load false 1 (.t 65))⟩,
                 ⟨(some 67), (some (61, true)), .a (.call (.fn 103) false [.lend (.t 62), .lend (.t 64), .lend (.t 66)])⟩,
                 ⟨(some 68), (some (44, false)), .q (.pick (.t 61) (.t 67) (.c (.bool false)))⟩,
                 ⟨(some 69), none, .q (.pick (.t 44) (.c (.bool true)) (.t 68))⟩,
                 ⟨(some 6), none, .a (.asg (.t 69))⟩])
               .ret)
              (.seq
               (.reg [⟨(some 71), none, .q (.fad 0 (.t 7))⟩,
                 ⟨(some 72), none, .q (.load false 1 (.t 71))⟩,
                 ⟨(some 73), none, .q (.bin false .eql (.t 72) (.c (.int .i64 4)))⟩,
                 ⟨(some 70), none, .a (.asg (.t 73))⟩])
               (.cond (.t 70)
                (.seq
                 (.reg [⟨(some 74), none, .q (.fad 1 (.t 7))⟩,
                   ⟨(some 75), none, .q (.load false 1 (.t 74))⟩,
                   ⟨(some 76), none, .q (.fad 1 (.t 8))⟩,
                   ⟨(some 77), none, .q (.load false 1 (.t 76))⟩,
                   ⟨(some 78), none, .q (.bin false .eql (.t 75) (.t 77))⟩,
                   ⟨(some 79), none, .q (.mov (.t 78))⟩,
                   ⟨(some 80), (some (79, true)), .q (.fad 2 (.t 7))⟩,
                   ⟨(some 81), (some (79, true)), .q (.load false 1 (.t 80))⟩,
                   ⟨(some 82), (some (79, true)), .q (.fad 2 (.t 8))⟩,
                   ⟨(some 83), (some (79, true)), .q (.load false 1 (.t 82))⟩,
                   ⟨(some 84), (some (79, true)), .q (.bin false .eql (.t 81) (.t 83))⟩,
                   ⟨(some 85), none, .q (.pick (.t 79) (.t 84) (.c (.bool false)))⟩,
                   ⟨(some 6), none, .a (.asg (.t 85))⟩])
                 .ret)
                .skip)))))))))))
     (.seq
      (.reg [⟨(some 6), none, .a (.asg (.c (.bool false)))⟩])
      .ret))))

set_option maxHeartbeats 1000000 in
set_option maxRecDepth 100000 in
theorem d78 (l : List Ty) (x y : Int) (hl : (l.length : Int) ≤ 1048576) (ht : tabOk l = true) (hx : 0 ≤ x ∧ x < (l.length : Int)) (hy : 0 ≤ y ∧ y < (l.length : Int)) :
    Does Go.Proofs.Try.prog 78 [.fsl 6 (l.map Ty.z), .v (.int .i64 x), .v (.int .i64 y)] false (.v (.bool (mayL l x y))) [.dead, .dead, .dead] := by
  have hxn : x.toNat < l.length := by omega
  have hyn : y.toNat < l.length := by omega
  have em : mayL l x y = mayT l x y l[x.toNat] l[y.toNat] := by simp [mayL, hxn, hyn]
  rw [em]
  refine does_intro (mc := m78) (N := 86) (rs := [6]) (fx := []) 3 rfl (by decide +kernel) ?_
  simp only [m78, EV, Nat.reduceEqDiff, Nat.reduceBEq, Nat.reduceLT, Nat.reduceLeDiff, Nat.reduceAdd, Nat.reduceSub, reduceIte]
  refine awp_join (fun _ : Unit => True) (fun _ => stl [(0, .fsl 6 (l.map Ty.z)), (1, .v (.int .i64 x)), (2, .v (.int .i64 y)), (7, .box 59 l[x.toNat].z), (8, .box 59 l[y.toNat].z)]) ?_ ?_
  · simp only [hx.1, hx.2, hy.1, hy.2, nth_map hxn, nth_map hyn, Ty.z, EV, Nat.reduceEqDiff, Nat.reduceBEq, Nat.reduceLT, Nat.reduceLeDiff, Nat.reduceAdd, Nat.reduceSub, reduceIte]
    exact ⟨(), trivial⟩
  rintro _ _
  have Gx := tysOk_good (tabOk_tys ht) hxn
  have Gy := tysOk_good (tabOk_tys ht) hyn
  have hkx : l[x.toNat].kind = kd l x := by simp [kd, hxn]
  have hky : l[y.toNat].kind = kd l y := by simp [kd, hyn]
  have hnx : isNum l x = true := isNum_in.2 hx
  have hny : isNum l y = true := isNum_in.2 hy
  rcases e1 : (x == y) with _ | _
  rotate_left
  · have e : mayT l x y l[x.toNat] l[y.toNat] = true := by unfold mayT; rw [if_pos e1]
    simp only [e1, Ty.z, EV, Nat.reduceEqDiff, Nat.reduceBEq, Nat.reduceLT, Nat.reduceLeDiff, Nat.reduceAdd, Nat.reduceSub, reduceIte]
    simp only [e, EV, Nat.reduceEqDiff, Nat.reduceBEq, Nat.reduceLT, Nat.reduceLeDiff, Nat.reduceAdd, Nat.reduceSub, reduceIte, retVC, cellV', evR, nfz, nfzs, nfzss, List.contains_nil, List.contains_cons, Bool.or_false, or_true]
  rcases e2 : (l[x.toNat].kind == l[y.toNat].kind) with _ | _
  · have e : mayT l x y l[x.toNat] l[y.toNat] = false := by unfold mayT; rw [e1, e2]; rfl
    simp only [e1, e2, bne, Bool.not_false, Ty.z, EV, Nat.reduceEqDiff, Nat.reduceBEq, Nat.reduceLT, Nat.reduceLeDiff, Nat.reduceAdd, Nat.reduceSub, reduceIte]
    simp only [e, EV, Nat.reduceEqDiff, Nat.reduceBEq, Nat.reduceLT, Nat.reduceLeDiff, Nat.reduceAdd, Nat.reduceSub, reduceIte, retVC, cellV', evR, nfz, nfzs, nfzss, List.contains_nil, List.contains_cons, Bool.or_false, or_true]
  rcases e5 : (l[x.toNat].kind == 5) with _ | _
  rotate_left
  · have e : mayT l x y l[x.toNat] l[y.toNat] = (lineL l y).contains x := by unfold mayT; rw [e1, e2, e5]; rfl
    have k5 : l[x.toNat].kind = 5 := by simpa using e5
    have k2 : l[x.toNat].kind = l[y.toNat].kind := by simpa using e2
    have hr : isRec l y = true := by
      simp only [isRec, hny, Bool.true_and, beq_iff_eq]; omega
    simp only [e1, e2, e5, bne, Bool.not_true, Ty.z, EV, Nat.reduceEqDiff, Nat.reduceBEq, Nat.reduceLT, Nat.reduceLeDiff, Nat.reduceAdd, Nat.reduceSub, reduceIte]
    refine callK_i (d103 l y x hl ht (.inr hr)) ?_
    simp only [EV, Nat.reduceEqDiff, Nat.reduceBEq, Nat.reduceLT, Nat.reduceLeDiff, Nat.reduceAdd, Nat.reduceSub, reduceIte]
    simp only [e, EV, Nat.reduceEqDiff, Nat.reduceBEq, Nat.reduceLT, Nat.reduceLeDiff, Nat.reduceAdd, Nat.reduceSub, reduceIte, retVC, cellV', evR, nfz, nfzs, nfzss, List.contains_nil, List.contains_cons, Bool.or_false, or_true]
  rcases e6 : (l[x.toNat].kind == 6) with _ | _
  rotate_left
  · have e : mayT l x y l[x.toNat] l[y.toNat] = ((l[x.toNat].base == l[y.toNat].base) || (isRec l l[x.toNat].base && (isRec l l[y.toNat].base && (lineL l l[y.toNat].base).contains l[x.toNat].base))) := by unfold mayT; rw [e1, e2, e5, e6]; rfl
    have k6 : l[x.toNat].kind = 6 := by simpa using e6
    have k2 : l[x.toNat].kind = l[y.toNat].kind := by simpa using e2
    have px := (Gx.ptr k6).1
    have py := (Gy.ptr (by omega)).1
    obtain ⟨p0, p1, pn, pk⟩ := isNum_lt px
    obtain ⟨r0, r1, rn, rk'⟩ := isNum_lt py
    have ix : isRec l l[x.toNat].base = (l[l[x.toNat].base.toNat].kind == 5) := by simp only [isRec, px, pk, Bool.true_and]
    have iy : isRec l l[y.toNat].base = (l[l[y.toNat].base.toNat].kind == 5) := by simp only [isRec, py, rk', Bool.true_and]
    rw [e]
    simp only [e1, e2, e5, e6, bne, Bool.not_true, Ty.z, EV, Nat.reduceEqDiff, Nat.reduceBEq, Nat.reduceLT, Nat.reduceLeDiff, Nat.reduceAdd, Nat.reduceSub, reduceIte]
    rcases b1 : (l[x.toNat].base == l[y.toNat].base) with _ | _
    rotate_left
    · simp only [b1, EV, Nat.reduceEqDiff, Nat.reduceBEq, Nat.reduceLT, Nat.reduceLeDiff, Nat.reduceAdd, Nat.reduceSub, reduceIte]
      simp only [b1, Bool.true_or, EV, Nat.reduceEqDiff, Nat.reduceBEq, Nat.reduceLT, Nat.reduceLeDiff, Nat.reduceAdd, Nat.reduceSub, reduceIte, retVC, cellV', evR, nfz, nfzs, nfzss, List.contains_nil, List.contains_cons, Bool.or_false, or_true]
    simp only [b1, p0, p1, nth_map pn, Ty.z, EV, Nat.reduceEqDiff, Nat.reduceBEq, Nat.reduceLT, Nat.reduceLeDiff, Nat.reduceAdd, Nat.reduceSub, reduceIte]
    rw [← ix]
    rcases b2 : isRec l l[x.toNat].base with _ | _
    · simp only [EV, Nat.reduceEqDiff, Nat.reduceBEq, Nat.reduceLT, Nat.reduceLeDiff, Nat.reduceAdd, Nat.reduceSub, reduceIte]
      simp only [b1, b2, Bool.false_or, Bool.false_and, EV, Nat.reduceEqDiff, Nat.reduceBEq, Nat.reduceLT, Nat.reduceLeDiff, Nat.reduceAdd, Nat.reduceSub, reduceIte, retVC, cellV', evR, nfz, nfzs, nfzss, List.contains_nil, List.contains_cons, Bool.or_false, or_true]
    simp only [r0, r1, nth_map rn, Ty.z, EV, Nat.reduceEqDiff, Nat.reduceBEq, Nat.reduceLT, Nat.reduceLeDiff, Nat.reduceAdd, Nat.reduceSub, reduceIte]
    rw [← iy]
    rcases b3 : isRec l l[y.toNat].base with _ | _
    · simp only [EV, Nat.reduceEqDiff, Nat.reduceBEq, Nat.reduceLT, Nat.reduceLeDiff, Nat.reduceAdd, Nat.reduceSub, reduceIte]
      simp only [b1, b2, b3, Bool.false_or, Bool.false_and, Bool.true_and, EV, Nat.reduceEqDiff, Nat.reduceBEq, Nat.reduceLT, Nat.reduceLeDiff, Nat.reduceAdd, Nat.reduceSub, reduceIte, retVC, cellV', evR, nfz, nfzs, nfzss, List.contains_nil, List.contains_cons, Bool.or_false, or_true]
    simp only [Ty.z, EV, Nat.reduceEqDiff, Nat.reduceBEq, Nat.reduceLT, Nat.reduceLeDiff, Nat.reduceAdd, Nat.reduceSub, reduceIte]
    refine callK_i (d103 l _ _ hl ht (.inr b3)) ?_
    simp only [EV, Nat.reduceEqDiff, Nat.reduceBEq, Nat.reduceLT, Nat.reduceLeDiff, Nat.reduceAdd, Nat.reduceSub, reduceIte]
    simp only [b1, b2, b3, Bool.false_or, Bool.true_and, EV, Nat.reduceEqDiff, Nat.reduceBEq, Nat.reduceLT, Nat.reduceLeDiff, Nat.reduceAdd, Nat.reduceSub, reduceIte, retVC, cellV', evR, nfz, nfzs, nfzss, List.contains_nil, List.contains_cons, Bool.or_false, or_true]
  rcases e4 : (l[x.toNat].kind == 4) with _ | _
  · have e : mayT l x y l[x.toNat] l[y.toNat] = false := by unfold mayT; rw [e1, e2, e5, e6, e4]; rfl
    simp only [e1, e2, e5, e6, e4, bne, Bool.not_true, Ty.z, EV, Nat.reduceEqDiff, Nat.reduceBEq, Nat.reduceLT, Nat.reduceLeDiff, Nat.reduceAdd, Nat.reduceSub, reduceIte]
    simp only [e, EV, Nat.reduceEqDiff, Nat.reduceBEq, Nat.reduceLT, Nat.reduceLeDiff, Nat.reduceAdd, Nat.reduceSub, reduceIte, retVC, cellV', evR, nfz, nfzs, nfzss, List.contains_nil, List.contains_cons, Bool.or_false, or_true]
  · have e : mayT l x y l[x.toNat] l[y.toNat] = ((l[x.toNat].long == l[y.toNat].long) && (l[x.toNat].base == l[y.toNat].base)) := by unfold mayT; rw [e1, e2, e5, e6, e4]; rfl
    rw [e]
    simp only [e1, e2, e5, e6, e4, bne, Bool.not_true, Ty.z, EV, Nat.reduceEqDiff, Nat.reduceBEq, Nat.reduceLT, Nat.reduceLeDiff, Nat.reduceAdd, Nat.reduceSub, reduceIte]
    rcases b1 : (l[x.toNat].long == l[y.toNat].long) with _ | _
    · simp only [EV, Nat.reduceEqDiff, Nat.reduceBEq, Nat.reduceLT, Nat.reduceLeDiff, Nat.reduceAdd, Nat.reduceSub, reduceIte]
      simp only [b1, Bool.false_and, EV, Nat.reduceEqDiff, Nat.reduceBEq, Nat.reduceLT, Nat.reduceLeDiff, Nat.reduceAdd, Nat.reduceSub, reduceIte, retVC, cellV', evR, nfz, nfzs, nfzss, List.contains_nil, List.contains_cons, Bool.or_false, or_true]
    · simp only [EV, Nat.reduceEqDiff, Nat.reduceBEq, Nat.reduceLT, Nat.reduceLeDiff, Nat.reduceAdd, Nat.reduceSub, reduceIte]
      simp only [b1, Bool.true_and, EV, Nat.reduceEqDiff, Nat.reduceBEq, Nat.reduceLT, Nat.reduceLeDiff, Nat.reduceAdd, Nat.reduceSub, reduceIte, retVC, cellV', evR, nfz, nfzs, nfzss, List.contains_nil, List.contains_cons, Bool.or_false, or_true]

/-- Are these good types, and numbers of theirs? -/
noncomputable def numsOk (l : List Ty) (x y : Int) : Bool := tabOk l && (isNum l x && isNum l y)

/-- loop.example/g00837/impl.MayPut -/
def m26 : MC :=
  (.seq
   (.reg [⟨(some 6), none, .a (.asg (.c (.bool false)))⟩,
     ⟨(some 7), none, .a (.asg (.c (.bool false)))⟩])
   (.seq
    (.seq
     (.reg [⟨(some 8), none, .q (.mov (.t 0))⟩,
       ⟨(some 9), none, .a (.call (.fn 79) false [.lend (.t 8)])⟩,
       ⟨(some 10), none, .q (.un .not (.t 9))⟩,
       ⟨(some 11), none, .q (.mov (.t 10))⟩,
       ⟨(some 12), (some (11, false)), .q (.mov (.t 0))⟩,
       ⟨(some 13), (some (11, false)), .q (.mov (.t 1))⟩,
       ⟨(some 14), (some (11, false)), .a (.call (.fn 80) false [.lend (.t 12), .lend (.t 13)])⟩,
       ⟨(some 15), (some (11, false)), .q (.un .not (.t 14))⟩,
       ⟨(some 16), none, .q (.pick (.t 11) (.c (.bool true)) (.t 15))⟩,
       ⟨(some 17), none, .q (.mov (.t 16))⟩,
       ⟨(some 18), (some (17, false)), .q (.mov (.t 0))⟩,
       ⟨(some 19), (some (17, false)), .q (.mov (.t 2))⟩,
       ⟨(some 20), (some (17, false)), .a (.call (.fn 80) false [.lend (.t 18), .lend (.t 19)])⟩,
       ⟨(some 21), (some (17, false)), .q (.un .not (.t 20))⟩,
       ⟨(some 22), none, .q (.pick (.t 17) (.c (.bool true)) (.t 21))⟩])
     (.cond (.t 22)
      (.seq
       (.reg [⟨(some 6), none, .a (.asg (.c (.bool false)))⟩,
         ⟨(some 7), none, .a (.asg (.c (.bool false)))⟩])
       .ret)
      .skip))
    (.seq
     (.reg [⟨(some 23), none, .q (.mov (.t 0))⟩,
       ⟨(some 24), none, .q (.mov (.t 1))⟩,
       ⟨(some 25), none, .q (.mov (.t 2))⟩,
       ⟨(some 26), none, .a (.call (.fn 81) false [.lend (.t 23), .lend (.t 24), .lend (.t 25)])⟩,
       ⟨(some 6), none, .a (.asg (.t 26))⟩,
       ⟨(some 7), none, .a (.asg (.c (.bool true)))⟩])
     .ret)))

set_option maxRecDepth 100000 in
theorem d26 (l : List Ty) (x y : Int) (hl : (l.length : Int) ≤ 1048576) (hs : ∀ s ∈ l, s.sm) : Does Go.Proofs.Try.prog 26 [.fsl 6 (l.map Ty.z), .v (.int .i64 x), .v (.int .i64 y)] false (.tup [.v (.bool (numsOk l x y && mayL l x y)), .v (.bool (numsOk l x y))]) [.dead, .dead, .dead] := by
  refine does_intro (mc := m26) (N := 27) (rs := [6, 7]) (fx := []) 3 rfl (by decide +kernel) ?_
  simp only [m26, EV, Nat.reduceEqDiff, Nat.reduceBEq, Nat.reduceLT, Nat.reduceLeDiff, Nat.reduceAdd, Nat.reduceSub, reduceIte]
  refine callK_i (d79 l hl hs) ?_
  simp only [EV, Nat.reduceEqDiff, Nat.reduceBEq, Nat.reduceLT, Nat.reduceLeDiff, Nat.reduceAdd, Nat.reduceSub, reduceIte]
  rcases ht : tabOk l with _ | _
  · simp only [Bool.not_false, EV, Nat.reduceEqDiff, Nat.reduceBEq, Nat.reduceLT, Nat.reduceLeDiff, Nat.reduceAdd, Nat.reduceSub, reduceIte]
    simp only [numsOk, ht, Bool.false_and, EV, Nat.reduceEqDiff, Nat.reduceBEq, Nat.reduceLT, Nat.reduceLeDiff, Nat.reduceAdd, Nat.reduceSub, reduceIte, retVC, cellV', evR, nfz, nfzs, nfzss, List.contains_nil, List.contains_cons, Bool.or_false, or_true]
  simp only [Bool.not_true, EV, Nat.reduceEqDiff, Nat.reduceBEq, Nat.reduceLT, Nat.reduceLeDiff, Nat.reduceAdd, Nat.reduceSub, reduceIte]
  refine callK_i (d80 l x hl) ?_
  simp only [EV, Nat.reduceEqDiff, Nat.reduceBEq, Nat.reduceLT, Nat.reduceLeDiff, Nat.reduceAdd, Nat.reduceSub, reduceIte]
  rcases hx : isNum l x with _ | _
  · simp only [Bool.not_false, EV, Nat.reduceEqDiff, Nat.reduceBEq, Nat.reduceLT, Nat.reduceLeDiff, Nat.reduceAdd, Nat.reduceSub, reduceIte]
    simp only [numsOk, ht, hx, Bool.false_and, Bool.true_and, EV, Nat.reduceEqDiff, Nat.reduceBEq, Nat.reduceLT, Nat.reduceLeDiff, Nat.reduceAdd, Nat.reduceSub, reduceIte, retVC, cellV', evR, nfz, nfzs, nfzss, List.contains_nil, List.contains_cons, Bool.or_false, or_true]
  simp only [Bool.not_true, EV, Nat.reduceEqDiff, Nat.reduceBEq, Nat.reduceLT, Nat.reduceLeDiff, Nat.reduceAdd, Nat.reduceSub, reduceIte]
  refine callK_i (d80 l y hl) ?_
  simp only [EV, Nat.reduceEqDiff, Nat.reduceBEq, Nat.reduceLT, Nat.reduceLeDiff, Nat.reduceAdd, Nat.reduceSub, reduceIte]
  rcases hy : isNum l y with _ | _
  · simp only [Bool.not_false, EV, Nat.reduceEqDiff, Nat.reduceBEq, Nat.reduceLT, Nat.reduceLeDiff, Nat.reduceAdd, Nat.reduceSub, reduceIte]
    simp only [numsOk, ht, hx, hy, Bool.false_and, Bool.true_and, EV, Nat.reduceEqDiff, Nat.reduceBEq, Nat.reduceLT, Nat.reduceLeDiff, Nat.reduceAdd, Nat.reduceSub, reduceIte, retVC, cellV', evR, nfz, nfzs, nfzss, List.contains_nil, List.contains_cons, Bool.or_false, or_true]
  simp only [Bool.not_true, EV, Nat.reduceEqDiff, Nat.reduceBEq, Nat.reduceLT, Nat.reduceLeDiff, Nat.reduceAdd, Nat.reduceSub, reduceIte]
  refine callK_i (d81 l x y hl ht (isNum_in.1 hx) (isNum_in.1 hy)) ?_
  simp only [EV, Nat.reduceEqDiff, Nat.reduceBEq, Nat.reduceLT, Nat.reduceLeDiff, Nat.reduceAdd, Nat.reduceSub, reduceIte]
  simp only [numsOk, ht, hx, hy, Bool.true_and, EV, Nat.reduceEqDiff, Nat.reduceBEq, Nat.reduceLT, Nat.reduceLeDiff, Nat.reduceAdd, Nat.reduceSub, reduceIte, retVC, cellV', evR, nfz, nfzs, nfzss, List.contains_nil, List.contains_cons, Bool.or_false, or_true]

/-- loop.example/g00837/spec.l3At -/
def m76 : MC :=
  (.seq
   (.reg [⟨(some 4), none, .a (.asg (.c (.bool false)))⟩])
   (.seq
    (.reg [⟨(some 5), none, .q (.mov (.t 0))⟩,
      ⟨(some 6), none, .a (.call (.fn 82) false [.lend (.t 5)])⟩,
      ⟨(some 7), none, .q (.mov (.t 6))⟩,
      ⟨(some 8), (some (7, true)), .q (.mov (.t 1))⟩,
      ⟨(some 9), (some (7, true)), .q (.mov (.t 0))⟩,
      ⟨(some 10), (some (7, true)), .q (.len false (.t 9))⟩,
      ⟨(some 11), (some (7, true)), .q (.bin false .sub (.t 10) (.c (.int .i64 1)))⟩,
      ⟨(some 12), (some (7, true)), .a (.call (.fn 77) false [.lend (.t 8), .lend (.c (.int .i64 0)), .lend (.t 11)])⟩,
      ⟨(some 13), none, .q (.pick (.t 7) (.t 12) (.c (.bool false)))⟩,
      ⟨(some 4), none, .a (.asg (.t 13))⟩])
    .ret))

theorem d76 (l : List Ty) (n : Int) (hl : (l.length : Int) ≤ 1048576) (hs : ∀ s ∈ l, s.sm) : Does Go.Proofs.Try.prog 76 [.fsl 6 (l.map Ty.z), .v (.int .i64 n)] false (.v (.bool (tabOk l && isNum l n))) [.dead, .dead] := by
  refine does_intro (mc := m76) (N := 14) (rs := [4]) (fx := []) 2 rfl (by decide +kernel) ?_
  simp only [m76, EV, Nat.reduceEqDiff, Nat.reduceBEq, Nat.reduceLT, Nat.reduceLeDiff, Nat.reduceAdd, Nat.reduceSub, reduceIte]
  refine callK_i (d82 l hl hs) ?_
  simp only [EV, Nat.reduceEqDiff, Nat.reduceBEq, Nat.reduceLT, Nat.reduceLeDiff, Nat.reduceAdd, Nat.reduceSub, reduceIte]
  rcases ht : tabOk l with _ | _
  · simp only [EV, Nat.reduceEqDiff, Nat.reduceBEq, Nat.reduceLT, Nat.reduceLeDiff, Nat.reduceAdd, Nat.reduceSub, reduceIte]
    simp only [Bool.false_and, EV, Nat.reduceEqDiff, Nat.reduceBEq, Nat.reduceLT, Nat.reduceLeDiff, Nat.reduceAdd, Nat.reduceSub, reduceIte, retVC, cellV', evR, nfz, nfzs, nfzss, List.contains_nil, List.contains_cons, Bool.or_false, or_true]
  simp only [EV, Nat.reduceEqDiff, Nat.reduceBEq, Nat.reduceLT, Nat.reduceLeDiff, Nat.reduceAdd, Nat.reduceSub, reduceIte]
  rw [w64 _ (by omega)]
  refine callK_i (d77 _ _ _) ?_
  simp only [EV, Nat.reduceEqDiff, Nat.reduceBEq, Nat.reduceLT, Nat.reduceLeDiff, Nat.reduceAdd, Nat.reduceSub, reduceIte]
  have e : (decide (0 ≤ n) && decide (n ≤ (l.length : Int) - 1)) = isNum l n := rfl
  simp only [e, Bool.true_and, EV, Nat.reduceEqDiff, Nat.reduceBEq, Nat.reduceLT, Nat.reduceLeDiff, Nat.reduceAdd, Nat.reduceSub, reduceIte, retVC, cellV', evR, nfz, nfzs, nfzss, List.contains_nil, List.contains_cons, Bool.or_false, or_true]

/-- loop.example/g00837/spec.MayPut -/
def m25 : MC :=
  (.seq
   (.reg [⟨(some 6), none, .a (.asg (.c (.bool false)))⟩,
     ⟨(some 7), none, .a (.asg (.c (.bool false)))⟩])
   (.seq
    (.seq
     (.reg [⟨(some 8), none, .q (.mov (.t 0))⟩,
       ⟨(some 9), none, .q (.mov (.t 1))⟩,
       ⟨(some 10), none, .a (.call (.fn 76) false [.lend (.t 8), .lend (.t 9)])⟩,
       ⟨(some 11), none, .q (.un .not (.t 10))⟩,
       ⟨(some 12), none, .q (.mov (.t 11))⟩,
       ⟨(some 13), (some (12, false)), .q (.mov (.t 2))⟩,
       ⟨(some 14), (some (12, false)), .q (.mov (.t 0))⟩,
       ⟨(some 15), (some (12, false)), .q (.len false (.t 14))⟩,
       ⟨(some 16), (some (12, false)), .q (.bin false .sub (.t 15) (.c (.int .i64 1)))⟩,
       ⟨(some 17), (some (12, false)), .a (.call (.fn 77) false [.lend (.t 13), .lend (.c (.int .i64 0)), .lend (.t 16)])⟩,
       ⟨(some 18), (some (12, false)), .q (.un .not (.t 17))⟩,
       ⟨(some 19), none, .q (.pick (.t 12) (.c (.bool true)) (.t 18))⟩])
     (.cond (.t 19)
      (.seq
       (.reg [⟨(some 6), none, .a (.asg (.c (.bool false)))⟩,
         ⟨(some 7), none, .a (.asg (.c (.bool false)))⟩])
       .ret)
      .skip))
    (.seq
     (.reg [⟨(some 20), none, .q (.mov (.t 0))⟩,
       ⟨(some 21), none, .q (.mov (.t 1))⟩,
       ⟨(some 22), none, .q (.mov (.t 2))⟩,
       ⟨(some 23), none, .a (.call (.fn 78) false [.lend (.t 20), .lend (.t 21), .lend (.t 22)])⟩,
       ⟨(some 6), none, .a (.asg (.t 23))⟩,
       ⟨(some 7), none, .a (.asg (.c (.bool true)))⟩])
     .ret)))

set_option maxRecDepth 100000 in
theorem d25 (l : List Ty) (x y : Int) (hl : (l.length : Int) ≤ 1048576) (hs : ∀ s ∈ l, s.sm) : Does Go.Proofs.Try.prog 25 [.fsl 6 (l.map Ty.z), .v (.int .i64 x), .v (.int .i64 y)] false (.tup [.v (.bool (numsOk l x y && mayL l x y)), .v (.bool (numsOk l x y))]) [.dead, .dead, .dead] := by
  refine does_intro (mc := m25) (N := 24) (rs := [6, 7]) (fx := []) 3 rfl (by decide +kernel) ?_
  simp only [m25, EV, Nat.reduceEqDiff, Nat.reduceBEq, Nat.reduceLT, Nat.reduceLeDiff, Nat.reduceAdd, Nat.reduceSub, reduceIte]
  refine callK_i (d76 l x hl hs) ?_
  simp only [EV, Nat.reduceEqDiff, Nat.reduceBEq, Nat.reduceLT, Nat.reduceLeDiff, Nat.reduceAdd, Nat.reduceSub, reduceIte]
  rcases hx : (tabOk l && isNum l x) with _ | _
  · have e : numsOk l x y = false := by unfold numsOk; rw [← Bool.and_assoc, hx, Bool.false_and]
    simp only [Bool.not_false, EV, Nat.reduceEqDiff, Nat.reduceBEq, Nat.reduceLT, Nat.reduceLeDiff, Nat.reduceAdd, Nat.reduceSub, reduceIte]
    simp only [e, Bool.false_and, EV, Nat.reduceEqDiff, Nat.reduceBEq, Nat.reduceLT, Nat.reduceLeDiff, Nat.reduceAdd, Nat.reduceSub, reduceIte, retVC, cellV', evR, nfz, nfzs, nfzss, List.contains_nil, List.contains_cons, Bool.or_false, or_true]
  have e : numsOk l x y = isNum l y := by unfold numsOk; rw [← Bool.and_assoc, hx, Bool.true_and]
  have hx' := hx
  simp only [Bool.and_eq_true] at hx'
  simp only [Bool.not_true, EV, Nat.reduceEqDiff, Nat.reduceBEq, Nat.reduceLT, Nat.reduceLeDiff, Nat.reduceAdd, Nat.reduceSub, reduceIte]
  rw [w64 _ (by omega)]
  refine callK_i (d77 _ _ _) ?_
  have e3 : (decide (0 ≤ y) && decide (y ≤ (l.length : Int) - 1)) = isNum l y := rfl
  simp only [e3, EV, Nat.reduceEqDiff, Nat.reduceBEq, Nat.reduceLT, Nat.reduceLeDiff, Nat.reduceAdd, Nat.reduceSub, reduceIte]
  rcases hy : isNum l y with _ | _
  · simp only [Bool.not_false, EV, Nat.reduceEqDiff, Nat.reduceBEq, Nat.reduceLT, Nat.reduceLeDiff, Nat.reduceAdd, Nat.reduceSub, reduceIte]
    simp only [e, hy, Bool.false_and, EV, Nat.reduceEqDiff, Nat.reduceBEq, Nat.reduceLT, Nat.reduceLeDiff, Nat.reduceAdd, Nat.reduceSub, reduceIte, retVC, cellV', evR, nfz, nfzs, nfzss, List.contains_nil, List.contains_cons, Bool.or_false, or_true]
  simp only [Bool.not_true, EV, Nat.reduceEqDiff, Nat.reduceBEq, Nat.reduceLT, Nat.reduceLeDiff, Nat.reduceAdd, Nat.reduceSub, reduceIte]
  refine callK_i (d78 l x y hl hx'.1 (isNum_in.1 hx'.2) (isNum_in.1 hy)) ?_
  simp only [EV, Nat.reduceEqDiff, Nat.reduceBEq, Nat.reduceLT, Nat.reduceLeDiff, Nat.reduceAdd, Nat.reduceSub, reduceIte]
  simp only [e, hy, Bool.true_and, EV, Nat.reduceEqDiff, Nat.reduceBEq, Nat.reduceLT, Nat.reduceLeDiff, Nat.reduceAdd, Nat.reduceSub, reduceIte, retVC, cellV', evR, nfz, nfzs, nfzss, List.contains_nil, List.contains_cons, Bool.or_false, or_true]

end Go.AM
namespace Go.AM
set_option linter.unusedVariables false
set_option linter.unusedSimpArgs false
/-- loop.example/g00837/laws.FnExactMayPut -/
def m6 : MC :=
  (.seq
   (.reg [⟨(some 6), none, .a (.asg (.c (.bool false)))⟩])
   (.keep [0, 1, 2]
   (.seq
    (.reg [⟨(some 7), none, .a (.asg (.c (.int .i64 1048576)))⟩])
    (.keep [0, 1, 2, 7]
    (.seq
     (.reg [⟨(some 13), none, .q (.mov (.t 0))⟩,
       ⟨(some 14), none, .q (.mov (.t 7))⟩,
       ⟨(some 15), none, .a (.call (.fn 18) false [.lend (.t 13), .lend (.t 14)])⟩,
       ⟨(some 7), none, .a (.asg (.t 15))⟩])
     (.keep [0, 1, 2, 7]
     (.seq
      (.seq
       (.reg [⟨(some 16), none, .q (.mov (.t 7))⟩,
         ⟨(some 17), none, .q (.bin false .lss (.t 16) (.c (.int .i64 0)))⟩])
       (.keep [0, 1, 2, 17]
       (.cond (.t 17)
        (.seq
         (.reg [⟨(some 6), none, .a (.asg (.c (.bool true)))⟩])
         .ret)
        .skip)))
      (.keep [0, 1, 2]
      (.seq
       (.reg [⟨(some 19), none, .q (.mov (.t 0))⟩,
         ⟨(some 20), none, .a (.call (.fn 20) false [.lend (.t 19)])⟩,
         ⟨(some 21), none, .q (.mov (.t 1))⟩,
         ⟨(some 22), none, .q (.mov (.t 2))⟩,
         ⟨(some 23), none, .a (.call (.fn 25) false [.lend (.t 20), .lend (.t 21), .lend (.t 22)])⟩,
         ⟨(some 18), none, .q (.mov (.t 23))⟩,
         ⟨(some 24), none, .q (.ext 18 0)⟩,
         ⟨(some 25), none, .q (.ext 18 1)⟩,
         ⟨(some 8), none, .a (.asg (.t 24))⟩,
         ⟨(some 9), none, .a (.asg (.t 25))⟩])
       (.keep [0, 1, 2, 8, 9]
       (.seq
        (.reg [⟨(some 26), none, .q (.mov (.t 0))⟩,
          ⟨(some 27), none, .a (.call (.fn 20) false [.lend (.t 26)])⟩,
          ⟨(some 10), none, .a (.asg (.t 27))⟩])
        (.keep [0, 1, 2, 8, 9, 10, 27]
        (.seq
         (.reg [⟨(some 29), none, .q (.mov (.t 10))⟩,
           ⟨(some 30), none, .q (.mov (.t 1))⟩,
           ⟨(some 31), none, .q (.mov (.t 2))⟩,
           ⟨(some 32), none, .a (.call (.fn 26) false [.lend (.t 29), .lend (.t 30), .lend (.t 31)])⟩,
           ⟨(some 28), none, .q (.mov (.t 32))⟩,
           ⟨(some 33), none, .q (.ext 28 0)⟩,
           ⟨(some 34), none, .q (.ext 28 1)⟩,
           ⟨(some 11), none, .a (.asg (.t 33))⟩,
           ⟨(some 12), none, .a (.asg (.t 34))⟩])
         (.keep [0, 8, 9, 10, 11, 12, 27]
         (.seq
          (.seq
           (.reg [⟨(some 35), none, .q (.mov (.t 11))⟩,
             ⟨(some 36), none, .q (.mov (.t 8))⟩,
             ⟨(some 37), none, .q (.bin true .neq (.t 35) (.t 36))⟩,
             ⟨(some 38), none, .q (.mov (.t 37))⟩,
             ⟨(some 39), (some (38, false)), .q (.mov (.t 12))⟩,
             ⟨(some 40), (some (38, false)), .q (.mov (.t 9))⟩,
             ⟨(some 41), (some (38, false)), .q (.bin true .neq (.t 39) (.t 40))⟩,
             ⟨(some 42), none, .q (.pick (.t 38) (.c (.bool true)) (.t 41))⟩])
           (.keep [0, 10, 27, 42]
           (.cond (.t 42)
            (.seq
             (.reg [⟨(some 6), none, .a (.asg (.c (.bool false)))⟩])
             .ret)
            .skip)))
          (.keep [0, 10, 27]
          (.seq
           (.seq
            (.reg [⟨(some 43), none, .q (.mov (.t 10))⟩,
              ⟨(some 44), none, .q (.mov (.t 0))⟩,
              ⟨(some 45), none, .a (.call (.fn 20) false [.lend (.t 44)])⟩,
              ⟨(some 46), none, .a (.call (.fn 22) false [.lend (.t 43), .lend (.t 45)])⟩,
              ⟨(some 47), none, .q (.un .not (.t 46))⟩])
            (.keep [47]
            (.cond (.t 47)
             (.seq
              (.reg [⟨(some 6), none, .a (.asg (.c (.bool false)))⟩])
              .ret)
             .skip)))
           (.keep []
           (.seq
            (.reg [⟨(some 6), none, .a (.asg (.c (.bool true)))⟩])
            .ret)))))))))))))))))))

set_option maxRecDepth 100000 in
theorem d6 (a : List Ty) (x y : Int) (ha : (a.length : Int) ≤ 9223372036854775807) (hoa : ∀ s ∈ a, s.ok) :
    Does Go.Proofs.Try.prog 6 [.fsl 6 (a.map Ty.z), .v (.int .i64 x), .v (.int .i64 y)] false (.v (.bool true)) [.dead, .dead, .dead] := by
  refine does_intro (mc := m6) (N := 48) (rs := [6]) (fx := []) 3 rfl (by decide +kernel) ?_
  simp only [m6, EV, Nat.reduceEqDiff, Nat.reduceBEq, Nat.reduceLT, Nat.reduceLeDiff, Nat.reduceAdd, Nat.reduceSub, reduceIte]
  refine callK_i (d18 a 1048576 (by omega) (by omega) ha hoa) ?_
  simp only [EV, Nat.reduceEqDiff, Nat.reduceBEq, Nat.reduceLT, Nat.reduceLeDiff, Nat.reduceAdd, Nat.reduceSub, reduceIte]
  refine cK_cut (fun h => ?_) (fun h => ?_)
  · simp only [EV, Nat.reduceEqDiff, Nat.reduceBEq, Nat.reduceLT, Nat.reduceLeDiff, Nat.reduceAdd, Nat.reduceSub, reduceIte]
    simp only [EV, Nat.reduceEqDiff, Nat.reduceBEq, Nat.reduceLT, Nat.reduceLeDiff, Nat.reduceAdd, Nat.reduceSub, reduceIte, retVC, cellV', evR, nfz, nfzs, nfzss, List.contains_nil, List.contains_cons, Bool.or_false, or_true]
  have h0 : 0 ≤ szTyS a 1048576 := by simpa using h
  have h1 := szTyS_tot a _ h0
  have h2 := totTys_nn a
  have h3 : (a.length : Int) ≤ 1048576 := by omega
  have hx : ∀ s ∈ a, s.sm := fun s g => s.sm_of (by have := totTys_mem a s g; omega)
  clear h
  simp only [EV, Nat.reduceEqDiff, Nat.reduceBEq, Nat.reduceLT, Nat.reduceLeDiff, Nat.reduceAdd, Nat.reduceSub, reduceIte]
  refine callK_i (d20 a h3 hx) ?_
  simp only [Ty.frz, EV, Nat.reduceEqDiff, Nat.reduceBEq, Nat.reduceLT, Nat.reduceLeDiff, Nat.reduceAdd, Nat.reduceSub, reduceIte]
  refine callK_i (d25 a x y h3 hx) ?_
  simp only [Ty.frz, EV, Nat.reduceEqDiff, Nat.reduceBEq, Nat.reduceLT, Nat.reduceLeDiff, Nat.reduceAdd, Nat.reduceSub, reduceIte]
  refine callK_i (d20 a h3 hx) ?_
  simp only [Ty.frz, EV, Nat.reduceEqDiff, Nat.reduceBEq, Nat.reduceLT, Nat.reduceLeDiff, Nat.reduceAdd, Nat.reduceSub, reduceIte]
  refine callK_i (d26 a x y h3 hx) ?_
  simp only [Ty.frz, EV, Nat.reduceEqDiff, Nat.reduceBEq, Nat.reduceLT, Nat.reduceLeDiff, Nat.reduceAdd, Nat.reduceSub, reduceIte]
  refine callK_i (d20 a h3 hx) ?_
  simp only [Ty.frz, EV, Nat.reduceEqDiff, Nat.reduceBEq, Nat.reduceLT, Nat.reduceLeDiff, Nat.reduceAdd, Nat.reduceSub, reduceIte]
  refine callK_i (d22 a h3 hx) ?_
  simp only [Ty.frz, EV, Nat.reduceEqDiff, Nat.reduceBEq, Nat.reduceLT, Nat.reduceLeDiff, Nat.reduceAdd, Nat.reduceSub, reduceIte]
  simp only [EV, Nat.reduceEqDiff, Nat.reduceBEq, Nat.reduceLT, Nat.reduceLeDiff, Nat.reduceAdd, Nat.reduceSub, reduceIte, retVC, cellV', evR, nfz, nfzs, nfzss, List.contains_nil, List.contains_cons, Bool.or_false, or_true]

end Go.AM
