/- Contracts of functions of the given program, for the law FnSizes: what they return and what they write, under the bounds that each theorem states. -/
import Derived.Test.YtjbmgopednpbmaaG2
namespace Go.AM
set_option linter.unusedVariables false
set_option linter.unusedSimpArgs false
theorem tyNm_comm (x o : Ty) : tyNm x o = ((x.name.toList == o.name.toList) && (x.owner.toList == o.owner.toList)) := by
  unfold tyNm
  rw [Bool.beq_comm, Bool.beq_comm (a := o.owner.toList)]

theorem tysOk_base' {l : List Ty} (h : baseOk l = false) : tysOk l = false := by
  unfold tysOk
  unfold baseOk at h
  rcases e : decide (3 ≤ (l.length : Int)) with _ | _
  · simp only [Bool.false_and]
  · rw [e, Bool.true_and] at h
    simp only [h, Bool.false_and, Bool.and_false]

theorem tysOk_long {l : List Ty} (h : 24 < (l.length : Int)) : tysOk l = false := by
  unfold tysOk
  have : decide ((l.length : Int) ≤ 24) = false := decide_eq_false (by omega)
  simp only [this, Bool.false_and, Bool.and_false]

/-- loop.example/g00837/spec.l3Nearly -/
def m110 : MC :=
  (.seq
   (.reg [⟨(some 2), none, .a (.asg (.c (.bool false)))⟩])
   (.seq
    (.seq
     (.reg [⟨(some 7), none, .q (.mov (.t 0))⟩,
       ⟨(some 8), none, .a (.call (.fn 149) false [.lend (.t 7)])⟩,
       ⟨(some 9), none, .q (.un .not (.t 8))⟩,
       ⟨(some 10), none, .q (.mov (.t 9))⟩,
       ⟨(some 11), (some (10, false)), .q (.mov (.t 0))⟩,
       ⟨(some 12), (some (10, false)), .q (.len false (.t 11))⟩,
       ⟨(some 13), (some (10, false)), .q (.bin false .gtr (.t 12) (.c (.int .i64 24)))⟩,
       ⟨(some 14), none, .q (.pick (.t 10) (.c (.bool true)) (.t 13))⟩])
     (.cond (.t 14)
      (.seq
       (.reg [⟨(some 2), none, .a (.asg (.c (.bool false)))⟩])
       .ret)
      .skip))
    (.seq
     (.seq
      (.reg [⟨(some 15), none, .q (.mov (.t 0))⟩,
        ⟨(some 16), none, .q (.slc false 6 (.t 15) (some (.c (.int .i64 3))) none)⟩,
        ⟨(some 17), none, .q (.len false (.t 16))⟩,
        ⟨(some 18), none, .q (.mov (.c (.int .i64 0)))⟩])
      (.block 0
       (.loop [0, 15, 16, 17, 18]
        (.seq
         (.reg [⟨(some 19), none, .q (.bin false .lss (.t 18) (.t 17))⟩])
         (.seq
          (.cond (.t 19)
           .skip
           (.exit 0))
          (.seq
           (.block 1
            (.seq
             (.reg [⟨(some 20), none, .q (.mov (.t 18))⟩,
               ⟨(some 21), none, .q (.iad 6 (.t 16) (.t 18))⟩,
               ⟨(some 22), none, .q (.load true 6 (.t 21))⟩,
               ⟨(some 4), none, .a (.alloc 59 [.v (.int .i64 0), .v (.int .i64 0), .v (.int .i64 0), .s 57 3, .v (.string ({ data := #[] })), .v (.string ({ data := #[] }))])⟩,
               ⟨(some 3), none, .a (.asg (.t 20))⟩,
               ⟨none, none, .a (.store 6 (.t 4) (.t 22))⟩])
             (.seq
              (.seq
               (.reg [⟨(some 23), none, .q (.mov (.t 0))⟩,
                 ⟨(some 24), none, .q (.load true 6 (.t 4))⟩,
                 ⟨(some 25), none, .a (.call (.fn 150) false [.lend (.t 23), .lend (.t 24)])⟩,
                 ⟨(some 26), none, .q (.un .not (.t 25))⟩])
               (.cond (.t 26)
                (.seq
                 (.reg [⟨(some 2), none, .a (.asg (.c (.bool false)))⟩])
                 .ret)
                .skip))
              (.seq
               (.reg [⟨(some 27), none, .q (.mov (.t 0))⟩,
                 ⟨(some 28), none, .q (.mov (.t 3))⟩,
                 ⟨(some 29), none, .q (.bin false .add (.c (.int .i64 3)) (.t 28))⟩,
                 ⟨(some 30), none, .q (.slc false 6 (.t 27) (some (.c (.int .i64 3))) (some (.t 29)))⟩,
                 ⟨(some 31), none, .q (.len false (.t 30))⟩,
                 ⟨(some 32), none, .q (.mov (.c (.int .i64 0)))⟩])
               (.block 2
                (.loop [0, 4, 15, 16, 17, 18, 27, 29, 30, 31, 32]
                 (.seq
                  (.reg [⟨(some 33), none, .q (.bin false .lss (.t 32) (.t 31))⟩])
                  (.seq
                   (.cond (.t 33)
                    .skip
                    (.exit 2))
                   (.seq
                    (.block 3
                     (.seq
                      (.reg [⟨(some 34), none, .q (.iad 6 (.t 30) (.t 32))⟩,
                        ⟨(some 35), none, .q (.load true 6 (.t 34))⟩,
                        ⟨(some 6), none, .a (.alloc 59 [.v (.int .i64 0), .v (.int .i64 0), .v (.int .i64 0), .s 57 3, .v (.string ({ data := #[] })), .v (.string ({ data := #[] }))])⟩,
                        ⟨none, none, .a (.store 6 (.t 6) (.t 35))⟩])
                      (.seq
                       (.reg [⟨(some 36), none, .q (.fad 5 (.t 4))⟩,
                         ⟨(some 37), none, .q (.load false 1 (.t 36))⟩,
                         ⟨(some 38), none, .q (.bin false .neq (.t 37) (.c (.string ({ data := #[] }))))⟩,
                         ⟨(some 39), none, .q (.mov (.t 38))⟩,
                         ⟨(some 40), (some (39, true)), .q (.fad 5 (.t 4))⟩,
                         ⟨(some 41), (some (39, true)), .q (.load false 1 (.t 40))⟩,
                         ⟨(some 42), (some (39, true)), .q (.fad 5 (.t 6))⟩,
                         ⟨(some 43), (some (39, true)), .q (.load false 1 (.t 42))⟩,
                         ⟨(some 44), (some (39, true)), .q (.bin false .eql (.t 41) (.t 43))⟩,
                         ⟨(some 45), none, .q (.pick (.t 39) (.t 44) (.c (.bool false)))⟩,
                         ⟨(some 46), none, .q (.mov (.t 45))⟩,
                         ⟨(some 47), (some (46, true)), .q (.fad 4 (.t 4))⟩,
                         ⟨(some 48), (some (46, true)), .q (.load false 1 (.t 47))⟩,
                         ⟨(some 49), (some (46, true)), .q (.fad 4 (.t 6))⟩,
                         ⟨(some 50), (some (46, true)), .q (.load false 1 (.t 49))⟩,
                         ⟨(some 51), (some (46, true)), .q (.bin false .eql (.t 48) (.t 50))⟩,
                         ⟨(some 52), none, .q (.pick (.t 46) (.t 51) (.c (.bool false)))⟩])
                       (.cond (.t 52)
                        (.seq
                         (.reg [⟨(some 2), none, .a (.asg (.c (.bool false)))⟩])
                         .ret)
                        .skip))))
                    (.reg [⟨(some 53), none, .q (.bin false .add (.t 32) (.c (.int .i64 1)))⟩,
                      ⟨(some 32), none, .q (.mov (.t 53))⟩]))))))))))
           (.reg [⟨(some 54), none, .q (.bin false .add (.t 18) (.c (.int .i64 1)))⟩,
             ⟨(some 18), none, .q (.mov (.t 54))⟩])))))))
     (.seq
      (.reg [⟨(some 2), none, .a (.asg (.c (.bool true)))⟩])
      .ret))))

set_option maxHeartbeats 1000000 in
set_option maxRecDepth 100000 in
theorem d110 (l : List Ty) (hl : (l.length : Int) ≤ 1048576) (hs : ∀ s ∈ l, s.sm) : Does Go.Proofs.Try.prog 110 [.fsl 6 (l.map Ty.z)] false (.v (.bool (tysOk l))) [.dead] := by
  refine does_intro (mc := m110) (N := 55) (rs := [2]) (fx := []) 1 rfl (by decide +kernel) ?_
  simp only [m110, EV, Nat.reduceEqDiff, Nat.reduceBEq, Nat.reduceLT, Nat.reduceLeDiff, Nat.reduceAdd, Nat.reduceSub, reduceIte]
  refine callK_i (d149 l hl) ?_
  simp only [EV, Nat.reduceEqDiff, Nat.reduceBEq, Nat.reduceLT, Nat.reduceLeDiff, Nat.reduceAdd, Nat.reduceSub, reduceIte]
  rcases hb : baseOk l with _ | _
  · have e : tysOk l = false := tysOk_base' hb
    simp only [EV, Nat.reduceEqDiff, Nat.reduceBEq, Nat.reduceLT, Nat.reduceLeDiff, Nat.reduceAdd, Nat.reduceSub, reduceIte]
    simp only [e, EV, Nat.reduceEqDiff, Nat.reduceBEq, Nat.reduceLT, Nat.reduceLeDiff, Nat.reduceAdd, Nat.reduceSub, reduceIte, evRE, retVC, cellV', evR, nfz, nfzs, nfzss, List.contains_nil, List.contains_cons, Bool.or_false, or_true]
  simp only [EV, Nat.reduceEqDiff, Nat.reduceBEq, Nat.reduceLT, Nat.reduceLeDiff, Nat.reduceAdd, Nat.reduceSub, reduceIte]
  refine cK_cut (fun h => ?_) (fun h => ?_)
  · have e : tysOk l = false := tysOk_long (by simpa using h)
    simp only [EV, Nat.reduceEqDiff, Nat.reduceBEq, Nat.reduceLT, Nat.reduceLeDiff, Nat.reduceAdd, Nat.reduceSub, reduceIte]
    simp only [e, EV, Nat.reduceEqDiff, Nat.reduceBEq, Nat.reduceLT, Nat.reduceLeDiff, Nat.reduceAdd, Nat.reduceSub, reduceIte, evRE, retVC, cellV', evR, nfz, nfzs, nfzss, List.contains_nil, List.contains_cons, Bool.or_false, or_true]
  have h24 : (l.length : Int) ≤ 24 := by have : ¬ 24 < (l.length : Int) := by simpa using h
                                         omega
  have hbo := hb
  simp only [baseOk, Bool.and_eq_true, decide_eq_true_eq] at hbo
  obtain ⟨hl3, e2⟩ := hbo
  have e1 : (decide (3 ≤ (l.length : Int)) && decide ((l.length : Int) ≤ 24)) = true := by rw [decide_eq_true hl3, decide_eq_true h24]; rfl
  clear h
  have h3 : ((3 : Nat) : Int) = 3 := rfl
  have t3 : (3 : Int).toNat = 3 := rfl
  simp only [h3, EV, Nat.reduceEqDiff, Nat.reduceBEq, Nat.reduceLT, Nat.reduceLeDiff, Nat.reduceAdd, Nat.reduceSub, reduceIte]
  refine ⟨by omega, hl3, by omega, ?_⟩
  simp only [← List.map_drop, ← List.map_take, t3]
  have hm : ∃ m, l.drop 3 = m := ⟨_, rfl⟩
  obtain ⟨m, hm⟩ := hm
  have hml : (m.length : Int) = (l.length : Int) - 3 := by rw [← hm]; simp; omega
  have hsub : ∀ x ∈ m, x ∈ l := by rw [← hm]; exact fun x hx => List.mem_of_mem_drop hx
  have p9 : ∀ i (h : i < m.length), tyAt l m i h = false → tysOk l = false := by
    subst hm; exact fun i h e => tysOk_no h e
  refine awp_loop (fun i : Nat => i ≤ m.length ∧ tyTo l m i) (fun i => stl [(0, .fsl 6 (l.map Ty.z)), (15, .fsl 6 (l.map Ty.z)), (16, .fsl 6 (m.map Ty.z)), (17, .v (.int .i64 (m.length : Int))), (18, .v (.int .i64 (i : Int)))]) (fun i => m.length - i) 0 ⟨Nat.zero_le _, fun j hj h => absurd h (by omega)⟩ ?_ ?_
  · have htk : List.take (l.length - 3) m = m := List.take_of_length_le (by omega)
    simp only [hm, htk, EV, Nat.reduceEqDiff, Nat.reduceBEq, Nat.reduceLT, Nat.reduceLeDiff, Nat.reduceAdd, Nat.reduceSub, reduceIte]
    rfl
  · rintro i ⟨hi, hok⟩
    simp only [EV, Nat.reduceEqDiff, Nat.reduceBEq, Nat.reduceLT, Nat.reduceLeDiff, Nat.reduceAdd, Nat.reduceSub, reduceIte]
    refine cK_cut (fun h => ?_) (fun h => ?_)
    · have h1 : i < m.length := by simpa using h
      have h2 : (i : Int) < (m.length : Int) := by omega
      have hso : m[i].sm := hs m[i] (hsub _ (List.getElem_mem h1))
      clear h
      have hw : IntKind.i64.wrap (3 + (i : Int)) = ((3 + i : Nat) : Int) := by rw [w64 _ (by omega)]; omega
      have hdt : List.take (3 + i - 3) (List.drop 3 (l.map Ty.z)) = (m.take i).map Ty.z := by
        rw [← hm, Nat.add_sub_cancel_left, ← List.map_drop, ← List.map_take]
      have ht : (m.take i).length = i := by simp; omega
      have hcl : Ty.z m[i] = [.v (.int .i64 m[i].kind), .v (.int .i64 m[i].long), .v (.int .i64 m[i].base), .fsl 3 (m[i].fields.map Fd.z), .v (.string m[i].owner), .v (.string m[i].name)] := rfl
      have d7 := d150 l m[i] hl hso
      rw [hcl] at d7
      have en : (m[i].name.toList == (⟨#[]⟩ : ByteArray).toList) = nil' m[i].name := rfl
      simp only [TyE, nth_map h1, h2, h3, Ty.z, EV, Nat.reduceEqDiff, Nat.reduceBEq, Nat.reduceLT, Nat.reduceLeDiff, Nat.reduceAdd, Nat.reduceSub, reduceIte]
      refine callK_i d7 ?_
      simp only [EV, Nat.reduceEqDiff, Nat.reduceBEq, Nat.reduceLT, Nat.reduceLeDiff, Nat.reduceAdd, Nat.reduceSub, reduceIte]
      rcases e5 : tyOk l m[i] with _ | _
      · have e : tysOk l = false := p9 i h1 (by simp only [tyAt, e5, Bool.and_false])
        simp only [EV, Nat.reduceEqDiff, Nat.reduceBEq, Nat.reduceLT, Nat.reduceLeDiff, Nat.reduceAdd, Nat.reduceSub, reduceIte]
        simp only [e, EV, Nat.reduceEqDiff, Nat.reduceBEq, Nat.reduceLT, Nat.reduceLeDiff, Nat.reduceAdd, Nat.reduceSub, reduceIte, evRE, retVC, cellV', evR, nfz, nfzs, nfzss, List.contains_nil, List.contains_cons, Bool.or_false, or_true]
      simp only [h3, hw, t3, EV, Nat.reduceEqDiff, Nat.reduceBEq, Nat.reduceLT, Nat.reduceLeDiff, Nat.reduceAdd, Nat.reduceSub, reduceIte]
      refine ⟨by omega, by omega, by omega, ?_⟩
      rw [hdt]
      refine awp_loop (fun k : Nat => k ≤ i ∧ (nil' m[i].name = true ∨ ((m.take i).take k).any (tyNm m[i]) = false)) (fun k => stl [(0, .fsl 6 (l.map Ty.z)), (4, .box 59 m[i].z), (15, .fsl 6 (l.map Ty.z)), (16, .fsl 6 (m.map Ty.z)), (17, .v (.int .i64 (m.length : Int))), (18, .v (.int .i64 (i : Int))), (27, .fsl 6 (l.map Ty.z)), (29, .v (.int .i64 ((3 + i : Nat) : Int))), (30, .fsl 6 ((m.take i).map Ty.z)), (31, .v (.int .i64 (i : Int))), (32, .v (.int .i64 (k : Int)))]) (fun k => i - k) 0 ⟨Nat.zero_le _, Or.inr (by simp)⟩ ?_ ?_
      · simp only [Ty.z, EV, Nat.reduceEqDiff, Nat.reduceBEq, Nat.reduceLT, Nat.reduceLeDiff, Nat.reduceAdd, Nat.reduceSub, reduceIte]
        rw [ht]
        rfl
      · rintro k ⟨hk, hno⟩
        simp only [Ty.z, EV, Nat.reduceEqDiff, Nat.reduceBEq, Nat.reduceLT, Nat.reduceLeDiff, Nat.reduceAdd, Nat.reduceSub, reduceIte]
        refine cK_cut (fun h => ?_) (fun h => ?_)
        · have k3 : k < i := by have : (k : Int) < i := by simpa using h
                                omega
          have k1 : k < (m.take i).length := by rw [ht]; exact k3
          have k2 : (k : Int) < i := by omega
          clear h
          have hnx : tyNm m[i] (m.take i)[k] = false → ∃ a, (a ≤ i ∧ (nil' m[i].name = true ∨ ((m.take i).take a).any (tyNm m[i]) = false)) ∧ i - a < i - k ∧ a = k + 1 := by
            intro e
            refine ⟨k + 1, ⟨by omega, ?_⟩, by omega, rfl⟩
            rcases hno with hno | hno
            · exact .inl hno
            · exact .inr (any_take k1 hno e)
          simp only [TyE, nth_map k1, k2, k3, ht, Ty.z, EV, Nat.reduceEqDiff, Nat.reduceBEq, Nat.reduceLT, Nat.reduceLeDiff, Nat.reduceAdd, Nat.reduceSub, reduceIte]
          rw [en]
          have hcm := tyNm_comm m[i] (m.take i)[k]
          rcases e3 : nil' m[i].name with _ | _
          · simp only [Bool.not_false, TyE, nth_map k1, k2, k3, ht, Ty.z, EV, Nat.reduceEqDiff, Nat.reduceBEq, Nat.reduceLT, Nat.reduceLeDiff, Nat.reduceAdd, Nat.reduceSub, reduceIte]
            repeat' (first
    | (refine gK_cut (fun h => ?_) (fun h => ?_) <;> simp only [h, EV, Nat.reduceEqDiff, Nat.reduceBEq, Nat.reduceLT, Nat.reduceLeDiff, Nat.reduceAdd, Nat.reduceSub, reduceIte])
    | (refine cK_cut (fun h => ?_) (fun h => ?_) <;> simp only [h, EV, Nat.reduceEqDiff, Nat.reduceBEq, Nat.reduceLT, Nat.reduceLeDiff, Nat.reduceAdd, Nat.reduceSub, reduceIte]))
            all_goals first
              | (have e4 : tyNm m[i] (m.take i)[k] = true := by rw [hcm]; simp only [*, Bool.and_self]
                 have e : tysOk l = false := p9 i h1 (by
                   have := any_at k1 e4
                   simp only [tyAt, e3, this, Bool.not_false, Bool.true_and, Bool.not_true, Bool.false_and])
                 simp only [e, EV, Nat.reduceEqDiff, Nat.reduceBEq, Nat.reduceLT, Nat.reduceLeDiff, Nat.reduceAdd, Nat.reduceSub, reduceIte, evRE, retVC, cellV', evR, nfz, nfzs, nfzss, List.contains_nil, List.contains_cons, Bool.or_false, or_true]
                 done)
              | (have e4 : tyNm m[i] (m.take i)[k] = false := by rw [hcm]; simp only [*, Bool.false_and, Bool.and_false]
                 obtain ⟨a, q1, q2, rfl⟩ := hnx e4
                 rw [w64 _ (by omega)]
                 exact ⟨k + 1, ⟨q1.1, by rcases q1.2 with q | q; exact absurd (e3.symm.trans q) Bool.false_ne_true; exact Or.inr q⟩, q2, rfl⟩)
          · simp only [Bool.not_true, EV, Nat.reduceEqDiff, Nat.reduceBEq, Nat.reduceLT, Nat.reduceLeDiff, Nat.reduceAdd, Nat.reduceSub, reduceIte]
            rw [w64 _ (by omega)]
            exact ⟨k + 1, ⟨by omega, Or.inl trivial⟩, by omega, rfl⟩
        · have k1 : k = i := by have : ¬ (k : Int) < i := by simpa using h
                                omega
          subst k1
          have hq : tyAt l m k h1 = true := by
            simp only [tyAt, e5, Bool.and_true]
            rcases hno with hno | hno
            · rw [hno]; rfl
            · rw [List.take_take, Nat.min_self] at hno
              rw [hno, Bool.and_false]; rfl
          simp only [EV, Nat.reduceEqDiff, Nat.reduceBEq, Nat.reduceLT, Nat.reduceLeDiff, Nat.reduceAdd, Nat.reduceSub, reduceIte]
          rw [w64 _ (by omega)]
          exact ⟨k + 1, ⟨h1, tyTo_succ h1 hok hq⟩, by omega, rfl⟩
    · have h1 : i = m.length := by have : ¬ (i : Int) < m.length := by simpa using h
                                   omega
      subst h1
      have e : tysOk l = true := tysOk_yes e1 e2 (by rw [hm]; exact hok)
      simp only [EV, Nat.reduceEqDiff, Nat.reduceBEq, Nat.reduceLT, Nat.reduceLeDiff, Nat.reduceAdd, Nat.reduceSub, reduceIte]
      simp only [e, EV, Nat.reduceEqDiff, Nat.reduceBEq, Nat.reduceLT, Nat.reduceLeDiff, Nat.reduceAdd, Nat.reduceSub, reduceIte, evRE, retVC, cellV', evR, nfz, nfzs, nfzss, List.contains_nil, List.contains_cons, Bool.or_false, or_true]

end Go.AM
namespace Go.AM
set_option linter.unusedVariables false
set_option linter.unusedSimpArgs false
def noRd (l : List Ty) (n : Nat) : Prop := ∀ j : Nat, j < n → roundAt l (j : Int) = false

theorem tabOk_yes {l : List Ty} (h : tysOk l = true) (h2 : noRd l l.length) : tabOk l = true := by
  simp only [tabOk, h, Bool.true_and, List.all_eq_true, List.mem_range]
  intro n hn
  rw [h2 n hn]; rfl

theorem tabOk_no {l : List Ty} {i : Nat} (h : i < l.length) (h2 : roundAt l (i : Int) = true) : tabOk l = false := by
  rcases e : tabOk l with _ | _
  · rfl
  · have := tabOk_round e (n := (i : Int)) (by omega) (by omega)
    rw [h2] at this; cases this

theorem tabOk_tno {l : List Ty} (h : tysOk l = false) : tabOk l = false := by simp only [tabOk, h, Bool.false_and]

/-- loop.example/g00837/impl.isTable -/
def m79 : MC :=
  (.seq
   (.reg [⟨(some 2), none, .a (.asg (.c (.bool false)))⟩])
   (.seq
    (.seq
     (.reg [⟨(some 4), none, .q (.mov (.t 0))⟩,
       ⟨(some 5), none, .a (.call (.fn 108) false [.lend (.t 4)])⟩,
       ⟨(some 6), none, .q (.un .not (.t 5))⟩])
     (.cond (.t 6)
      (.seq
       (.reg [⟨(some 2), none, .a (.asg (.c (.bool false)))⟩])
       .ret)
      .skip))
    (.seq
     (.seq
      (.reg [⟨(some 7), none, .q (.mov (.t 0))⟩,
        ⟨(some 8), none, .q (.len false (.t 7))⟩,
        ⟨(some 9), none, .q (.mov (.c (.int .i64 0)))⟩])
      (.block 0
       (.loop [0, 8, 9]
        (.seq
         (.reg [⟨(some 10), none, .q (.bin false .lss (.t 9) (.t 8))⟩])
         (.seq
          (.cond (.t 10)
           .skip
           (.exit 0))
          (.seq
           (.block 1
            (.seq
             (.reg [⟨(some 11), none, .q (.mov (.t 9))⟩,
               ⟨(some 3), none, .a (.asg (.t 11))⟩])
             (.seq
              (.reg [⟨(some 12), none, .q (.mov (.t 0))⟩,
                ⟨(some 13), none, .q (.mov (.t 3))⟩,
                ⟨(some 14), none, .a (.call (.fn 109) false [.lend (.t 12), .lend (.t 13)])⟩])
              (.cond (.t 14)
               (.seq
                (.reg [⟨(some 2), none, .a (.asg (.c (.bool false)))⟩])
                .ret)
               .skip))))
           (.reg [⟨(some 15), none, .q (.bin false .add (.t 9) (.c (.int .i64 1)))⟩,
             ⟨(some 9), none, .q (.mov (.t 15))⟩])))))))
     (.seq
      (.reg [⟨(some 2), none, .a (.asg (.c (.bool true)))⟩])
      .ret))))

set_option maxRecDepth 100000 in
theorem d79 (l : List Ty) (hl : (l.length : Int) ≤ 1048576) (hs : ∀ s ∈ l, s.sm) : Does Go.Proofs.Try.prog 79 [.fsl 6 (l.map Ty.z)] false (.v (.bool (tabOk l))) [.dead] := by
  refine does_intro (mc := m79) (N := 16) (rs := [2]) (fx := []) 1 rfl (by decide +kernel) ?_
  simp only [m79, EV, Nat.reduceEqDiff, Nat.reduceBEq, Nat.reduceLT, Nat.reduceLeDiff, Nat.reduceAdd, Nat.reduceSub, reduceIte]
  refine callK_i (d108 l hl hs) ?_
  simp only [EV, Nat.reduceEqDiff, Nat.reduceBEq, Nat.reduceLT, Nat.reduceLeDiff, Nat.reduceAdd, Nat.reduceSub, reduceIte]
  rcases ht : tysOk l with _ | _
  · have e : tabOk l = false := tabOk_tno ht
    simp only [Bool.not_false, EV, Nat.reduceEqDiff, Nat.reduceBEq, Nat.reduceLT, Nat.reduceLeDiff, Nat.reduceAdd, Nat.reduceSub, reduceIte]
    simp only [e, EV, Nat.reduceEqDiff, Nat.reduceBEq, Nat.reduceLT, Nat.reduceLeDiff, Nat.reduceAdd, Nat.reduceSub, reduceIte, evRE, retVC, cellV', evR, nfz, nfzs, nfzss, List.contains_nil, List.contains_cons, Bool.or_false, or_true]
  simp only [Bool.not_true, EV, Nat.reduceEqDiff, Nat.reduceBEq, Nat.reduceLT, Nat.reduceLeDiff, Nat.reduceAdd, Nat.reduceSub, reduceIte]
  refine awp_loop (fun i : Nat => i ≤ l.length ∧ noRd l i) (fun i => stl [(0, .fsl 6 (l.map Ty.z)), (8, .v (.int .i64 (l.length : Int))), (9, .v (.int .i64 (i : Int)))]) (fun i => l.length - i) 0 ⟨Nat.zero_le _, fun j h => absurd h (by omega)⟩ ?_ ?_
  · simp only [EV, Nat.reduceEqDiff, Nat.reduceBEq, Nat.reduceLT, Nat.reduceLeDiff, Nat.reduceAdd, Nat.reduceSub, reduceIte]
    rfl
  · rintro i ⟨hi, hno⟩
    simp only [EV, Nat.reduceEqDiff, Nat.reduceBEq, Nat.reduceLT, Nat.reduceLeDiff, Nat.reduceAdd, Nat.reduceSub, reduceIte]
    refine cK_cut (fun h => ?_) (fun h => ?_)
    · have h1 : i < l.length := by simpa using h
      simp only [EV, Nat.reduceEqDiff, Nat.reduceBEq, Nat.reduceLT, Nat.reduceLeDiff, Nat.reduceAdd, Nat.reduceSub, reduceIte]
      refine callK_i (d109 l (i : Int) hl hs ht (by omega) (by omega)) ?_
      simp only [EV, Nat.reduceEqDiff, Nat.reduceBEq, Nat.reduceLT, Nat.reduceLeDiff, Nat.reduceAdd, Nat.reduceSub, reduceIte]
      rcases e1 : roundAt l (i : Int) with _ | _
      · simp only [EV, Nat.reduceEqDiff, Nat.reduceBEq, Nat.reduceLT, Nat.reduceLeDiff, Nat.reduceAdd, Nat.reduceSub, reduceIte]
        rw [w64 _ (by omega)]
        refine ⟨i + 1, ⟨h1, fun j hj => ?_⟩, by omega, rfl⟩
        by_cases e : j = i
        · subst e; exact e1
        · exact hno j (by omega)
      · have e : tabOk l = false := tabOk_no h1 e1
        simp only [EV, Nat.reduceEqDiff, Nat.reduceBEq, Nat.reduceLT, Nat.reduceLeDiff, Nat.reduceAdd, Nat.reduceSub, reduceIte]
        simp only [e, EV, Nat.reduceEqDiff, Nat.reduceBEq, Nat.reduceLT, Nat.reduceLeDiff, Nat.reduceAdd, Nat.reduceSub, reduceIte, evRE, retVC, cellV', evR, nfz, nfzs, nfzss, List.contains_nil, List.contains_cons, Bool.or_false, or_true]
    · have h1 : i = l.length := by have : ¬ (i : Int) < l.length := by simpa using h
                                   omega
      subst h1
      have e : tabOk l = true := tabOk_yes ht hno
      simp only [EV, Nat.reduceEqDiff, Nat.reduceBEq, Nat.reduceLT, Nat.reduceLeDiff, Nat.reduceAdd, Nat.reduceSub, reduceIte]
      simp only [e, EV, Nat.reduceEqDiff, Nat.reduceBEq, Nat.reduceLT, Nat.reduceLeDiff, Nat.reduceAdd, Nat.reduceSub, reduceIte, evRE, retVC, cellV', evR, nfz, nfzs, nfzss, List.contains_nil, List.contains_cons, Bool.or_false, or_true]

/-- loop.example/g00837/spec.l3Good -/
def m82 : MC :=
  (.seq
   (.reg [⟨(some 2), none, .a (.asg (.c (.bool false)))⟩])
   (.seq
    (.seq
     (.reg [⟨(some 4), none, .q (.mov (.t 0))⟩,
       ⟨(some 5), none, .a (.call (.fn 110) false [.lend (.t 4)])⟩,
       ⟨(some 6), none, .q (.un .not (.t 5))⟩])
     (.cond (.t 6)
      (.seq
       (.reg [⟨(some 2), none, .a (.asg (.c (.bool false)))⟩])
       .ret)
      .skip))
    (.seq
     (.seq
      (.reg [⟨(some 7), none, .q (.mov (.t 0))⟩,
        ⟨(some 8), none, .q (.len false (.t 7))⟩,
        ⟨(some 9), none, .q (.mov (.c (.int .i64 0)))⟩])
      (.block 0
       (.loop [0, 8, 9]
        (.seq
         (.reg [⟨(some 10), none, .q (.bin false .lss (.t 9) (.t 8))⟩])
         (.seq
          (.cond (.t 10)
           .skip
           (.exit 0))
          (.seq
           (.block 1
            (.seq
             (.reg [⟨(some 11), none, .q (.mov (.t 9))⟩,
               ⟨(some 3), none, .a (.asg (.t 11))⟩])
             (.seq
              (.reg [⟨(some 12), none, .q (.mov (.t 0))⟩,
                ⟨(some 13), none, .q (.mov (.t 3))⟩,
                ⟨(some 14), none, .a (.call (.fn 111) false [.lend (.t 12), .lend (.t 13)])⟩])
              (.cond (.t 14)
               (.seq
                (.reg [⟨(some 2), none, .a (.asg (.c (.bool false)))⟩])
                .ret)
               .skip))))
           (.reg [⟨(some 15), none, .q (.bin false .add (.t 9) (.c (.int .i64 1)))⟩,
             ⟨(some 9), none, .q (.mov (.t 15))⟩])))))))
     (.seq
      (.reg [⟨(some 2), none, .a (.asg (.c (.bool true)))⟩])
      .ret))))

set_option maxRecDepth 100000 in
theorem d82 (l : List Ty) (hl : (l.length : Int) ≤ 1048576) (hs : ∀ s ∈ l, s.sm) : Does Go.Proofs.Try.prog 82 [.fsl 6 (l.map Ty.z)] false (.v (.bool (tabOk l))) [.dead] := by
  refine does_intro (mc := m82) (N := 16) (rs := [2]) (fx := []) 1 rfl (by decide +kernel) ?_
  simp only [m82, EV, Nat.reduceEqDiff, Nat.reduceBEq, Nat.reduceLT, Nat.reduceLeDiff, Nat.reduceAdd, Nat.reduceSub, reduceIte]
  refine callK_i (d110 l hl hs) ?_
  simp only [EV, Nat.reduceEqDiff, Nat.reduceBEq, Nat.reduceLT, Nat.reduceLeDiff, Nat.reduceAdd, Nat.reduceSub, reduceIte]
  rcases ht : tysOk l with _ | _
  · have e : tabOk l = false := tabOk_tno ht
    simp only [Bool.not_false, EV, Nat.reduceEqDiff, Nat.reduceBEq, Nat.reduceLT, Nat.reduceLeDiff, Nat.reduceAdd, Nat.reduceSub, reduceIte]
    simp only [e, EV, Nat.reduceEqDiff, Nat.reduceBEq, Nat.reduceLT, Nat.reduceLeDiff, Nat.reduceAdd, Nat.reduceSub, reduceIte, evRE, retVC, cellV', evR, nfz, nfzs, nfzss, List.contains_nil, List.contains_cons, Bool.or_false, or_true]
  simp only [Bool.not_true, EV, Nat.reduceEqDiff, Nat.reduceBEq, Nat.reduceLT, Nat.reduceLeDiff, Nat.reduceAdd, Nat.reduceSub, reduceIte]
  refine awp_loop (fun i : Nat => i ≤ l.length ∧ noRd l i) (fun i => stl [(0, .fsl 6 (l.map Ty.z)), (8, .v (.int .i64 (l.length : Int))), (9, .v (.int .i64 (i : Int)))]) (fun i => l.length - i) 0 ⟨Nat.zero_le _, fun j h => absurd h (by omega)⟩ ?_ ?_
  · simp only [EV, Nat.reduceEqDiff, Nat.reduceBEq, Nat.reduceLT, Nat.reduceLeDiff, Nat.reduceAdd, Nat.reduceSub, reduceIte]
    rfl
  · rintro i ⟨hi, hno⟩
    simp only [EV, Nat.reduceEqDiff, Nat.reduceBEq, Nat.reduceLT, Nat.reduceLeDiff, Nat.reduceAdd, Nat.reduceSub, reduceIte]
    refine cK_cut (fun h => ?_) (fun h => ?_)
    · have h1 : i < l.length := by simpa using h
      simp only [EV, Nat.reduceEqDiff, Nat.reduceBEq, Nat.reduceLT, Nat.reduceLeDiff, Nat.reduceAdd, Nat.reduceSub, reduceIte]
      refine callK_i (d111 l (i : Int) hl hs ht (by omega) (by omega)) ?_
      simp only [EV, Nat.reduceEqDiff, Nat.reduceBEq, Nat.reduceLT, Nat.reduceLeDiff, Nat.reduceAdd, Nat.reduceSub, reduceIte]
      rcases e1 : roundAt l (i : Int) with _ | _
      · simp only [EV, Nat.reduceEqDiff, Nat.reduceBEq, Nat.reduceLT, Nat.reduceLeDiff, Nat.reduceAdd, Nat.reduceSub, reduceIte]
        rw [w64 _ (by omega)]
        refine ⟨i + 1, ⟨h1, fun j hj => ?_⟩, by omega, rfl⟩
        by_cases e : j = i
        · subst e; exact e1
        · exact hno j (by omega)
      · have e : tabOk l = false := tabOk_no h1 e1
        simp only [EV, Nat.reduceEqDiff, Nat.reduceBEq, Nat.reduceLT, Nat.reduceLeDiff, Nat.reduceAdd, Nat.reduceSub, reduceIte]
        simp only [e, EV, Nat.reduceEqDiff, Nat.reduceBEq, Nat.reduceLT, Nat.reduceLeDiff, Nat.reduceAdd, Nat.reduceSub, reduceIte, evRE, retVC, cellV', evR, nfz, nfzs, nfzss, List.contains_nil, List.contains_cons, Bool.or_false, or_true]
    · have h1 : i = l.length := by have : ¬ (i : Int) < l.length := by simpa using h
                                   omega
      subst h1
      have e : tabOk l = true := tabOk_yes ht hno
      simp only [EV, Nat.reduceEqDiff, Nat.reduceBEq, Nat.reduceLT, Nat.reduceLeDiff, Nat.reduceAdd, Nat.reduceSub, reduceIte]
      simp only [e, EV, Nat.reduceEqDiff, Nat.reduceBEq, Nat.reduceLT, Nat.reduceLeDiff, Nat.reduceAdd, Nat.reduceSub, reduceIte, evRE, retVC, cellV', evR, nfz, nfzs, nfzss, List.contains_nil, List.contains_cons, Bool.or_false, or_true]

end Go.AM
namespace Go.AM
set_option linter.unusedVariables false
set_option linter.unusedSimpArgs false
theorem rk_le (l : List Ty) (n : Int) : rk l n ≤ l.length := by
  unfold rk reachL
  refine Nat.le_trans (List.length_filter_le _ _) ?_
  simp

theorem tabOk_len {l : List Ty} (h : tabOk l = true) : l.length ≤ 24 := (tysOk_len (tabOk_tys h)).2

end Go.AM
namespace Go.AM
set_option linter.unusedVariables false
set_option linter.unusedSimpArgs false
def capS (t : Ty) (s : Int) : Int := min 1000000001 (if (t.kind == 4) = true then s * t.long else s)

def sumZ (g : Int → Int) : List Int → Int
  | [] => 0
  | k :: ks => g k + sumZ g ks

def oneT (t : Ty) (g : Int → Int) : Int :=
  if (t.kind == 1) = true then 4 else if (t.kind == 2 || t.kind == 3) = true then 1 else if (t.kind == 6) = true then 8 else capS t (sumZ g (prt false t))

def szN (l : List Ty) : Nat → Int → Int
  | 0, _ => 0
  | f + 1, n => match l[n.toNat]? with
    | some t => oneT t (szN l f)
    | none => 0

def sz (l : List Ty) (n : Int) : Int := szN l (l.length + 1) n

theorem sumZ_congr {g g' : Int → Int} : ∀ {ks : List Int}, (∀ k ∈ ks, g k = g' k) → sumZ g ks = sumZ g' ks
  | [], _ => rfl
  | k :: ks, h => by rw [sumZ, sumZ, h k (by simp), sumZ_congr fun k hk => h k (by simp [hk])]

theorem oneT_congr {t : Ty} {g g' : Int → Int} (h : ∀ k ∈ prt false t, g k = g' k) : oneT t g = oneT t g' := by
  unfold oneT; rw [sumZ_congr h]

theorem szN_irr {l : List Ty} (ht : tabOk l = true) : ∀ (f f' : Nat) (n : Int), 0 ≤ n → n < (l.length : Int) → rk l n < f → rk l n < f' → szN l f n = szN l f' n
  | 0, _, n, _, _, h, _ => absurd h (by omega)
  | f + 1, 0, n, _, _, _, h => absurd h (by omega)
  | f + 1, f' + 1, n, h0, h1, h, h' => by
    have hn : n.toNat < l.length := by omega
    simp only [szN, List.getElem?_eq_getElem hn]
    refine oneT_congr fun k hk => ?_
    rw [← kids_at hn] at hk
    have hki := kids_ok (tabOk_tys ht) h0 h1 hk
    have hlt := rk_lt ht h0 h1 hk
    exact szN_irr ht f f' k hki.1 hki.2 (by omega) (by omega)

theorem sz_eq {l : List Ty} (ht : tabOk l = true) {n : Int} (h0 : 0 ≤ n) (h1 : n < (l.length : Int)) {hn : n.toNat < l.length} : sz l n = oneT l[n.toNat] (sz l) := by
  have hr := rk_le l n
  show szN l (l.length + 1) n = _
  rw [szN_irr ht _ (l.length + 2) n h0 h1 (by omega) (by omega)]
  simp only [szN, List.getElem?_eq_getElem hn]
  rfl

theorem rk_small {l : List Ty} (ht : tabOk l = true) {n : Int} (h0 : 0 ≤ n) (h1 : n < (l.length : Int)) : rk l n < l.length := by
  have hrd := tabOk_round ht h0 h1
  have hnm : n ∉ reachL l false (kids l false n) := by
    intro h
    simp [roundAt] at hrd
    exact hrd h
  have hnd : (n :: reachL l false (kids l false n)).Nodup := List.nodup_cons.2 ⟨hnm, up_nodup (reachL_up _ _ _)⟩
  have := nodup_le hnd (fun k hk => by
    rcases List.mem_cons.1 hk with rfl | hk
    · exact ⟨h0, h1⟩
    · exact (mem_reachL.1 hk).1)
  simp only [List.length_cons] at this
  unfold rk
  omega

theorem sumZ_nn {g : Int → Int} : ∀ {ks : List Int}, (∀ k ∈ ks, 0 ≤ g k) → 0 ≤ sumZ g ks
  | [], _ => by simp [sumZ]
  | k :: ks, h => by have := h k (by simp); have := sumZ_nn (ks := ks) fun k hk => h k (by simp [hk]); simp only [sumZ]; omega

theorem sumZ_le {g : Int → Int} {B : Int} : ∀ {ks : List Int}, (∀ k ∈ ks, g k ≤ B) → sumZ g ks ≤ B * ks.length
  | [], _ => by simp [sumZ]
  | k :: ks, h => by
    have h1 := h k (by simp)
    have h2 := sumZ_le (ks := ks) fun k hk => h k (by simp [hk])
    simp only [sumZ, List.length_cons]
    rw [Int.natCast_add, Int.mul_add]
    omega

theorem szN_nn {l : List Ty} (ht : tysOk l = true) : ∀ (f : Nat) (n : Int), 0 ≤ szN l f n ∧ szN l f n ≤ 1000000001
  | 0, n => by simp [szN]
  | f + 1, n => by
    unfold szN
    split
    · rename_i t e
      obtain ⟨hn, rfl⟩ := List.getElem?_eq_some_iff.1 e
      unfold oneT
      split
      · omega
      split
      · omega
      split
      · omega
      · have h1 : 0 ≤ sumZ (szN l f) (prt false l[n.toNat]) := sumZ_nn fun k _ => (szN_nn ht f k).1
        unfold capS
        split
        · rename_i hk
          have hl := (tysOk_good ht hn).arr (by simpa using hk)
          have : 0 ≤ sumZ (szN l f) (prt false l[n.toNat]) * l[n.toNat].long := Int.mul_nonneg h1 (by omega)
          omega
        · omega
    · omega

theorem sz_nn {l : List Ty} (ht : tysOk l = true) (n : Int) : 0 ≤ sz l n ∧ sz l n ≤ 1000000001 := szN_nn ht _ _

/-- .. where some sizes are not known yet (below nought). -/
def getS (s : List Int) (k : Int) : Int := s[k.toNat]?.getD 0

def sumP (s : List Int) : List Int → Int → Option Int
  | [], a => some a
  | k :: ks, a => if getS s k < 0 then none else sumP s ks (a + getS s k)

def oneP (t : Ty) (s : List Int) : Int :=
  if (t.kind == 1) = true then 4 else if (t.kind == 2 || t.kind == 3) = true then 1 else if (t.kind == 6) = true then 8 else match sumP s (prt false t) 0 with
    | some x => capS t x
    | none => -1

theorem sumP_all {s : List Int} {g : Int → Int} (hg : ∀ k, 0 ≤ g k) : ∀ {ks : List Int} {a : Int}, (∀ k ∈ ks, getS s k = g k) → sumP s ks a = some (a + sumZ g ks)
  | [], a, _ => by simp [sumP, sumZ]
  | k :: ks, a, h => by
    have h1 := h k (by simp)
    have h2 := hg k
    rw [sumP, if_neg (by omega), sumP_all hg fun k hk => h k (by simp [hk]), sumZ, h1]
    congr 1; omega

theorem sumP_some {s : List Int} {g : Int → Int} (hg : ∀ k, 0 ≤ g k) : ∀ {ks : List Int} {a x : Int}, (∀ k ∈ ks, getS s k = g k ∨ getS s k = -1) → sumP s ks a = some x → x = a + sumZ g ks
  | [], a, x, _, h => by simp only [sumP, Option.some.injEq] at h; simp [sumZ, h]
  | k :: ks, a, x, h, hx => by
    have h1 := h k (by simp)
    unfold sumP at hx
    split at hx
    · cases hx
    · rw [sumP_some hg (fun k hk => h k (by simp [hk])) hx, sumZ]
      omega

theorem oneP_eq {t : Ty} {s : List Int} {g : Int → Int} (hg : ∀ k, 0 ≤ g k) (h : ∀ k ∈ prt false t, getS s k = g k) : oneP t s = oneT t g := by
  unfold oneP oneT
  rw [sumP_all hg h]
  simp

theorem oneP_or {t : Ty} {s : List Int} {g : Int → Int} (hg : ∀ k, 0 ≤ g k) (h : ∀ k ∈ prt false t, getS s k = g k ∨ getS s k = -1) : oneP t s = oneT t g ∨ oneP t s = -1 := by
  unfold oneP oneT
  rcases e : sumP s (prt false t) 0 with _ | x
  · split
    · exact .inl rfl
    split
    · exact .inl rfl
    split
    · exact .inl rfl
    · exact .inr rfl
  · rw [sumP_some hg h e]
    exact .inl (by simp)

end Go.AM
namespace Go.AM
set_option linter.unusedVariables false
set_option linter.unusedSimpArgs false
/-- loop.example/g00837/spec.l1Least -/
def m174 : MC :=
  (.seq
   (.reg [⟨(some 4), none, .a (.asg (.c (.int .i64 0)))⟩])
   (.seq
    (.seq
     (.reg [⟨(some 5), none, .q (.mov (.t 0))⟩,
       ⟨(some 6), none, .q (.mov (.t 1))⟩,
       ⟨(some 7), none, .q (.bin false .lss (.t 5) (.t 6))⟩])
     (.cond (.t 7)
      (.seq
       (.reg [⟨(some 8), none, .q (.mov (.t 0))⟩,
         ⟨(some 4), none, .a (.asg (.t 8))⟩])
       .ret)
      .skip))
    (.seq
     (.reg [⟨(some 9), none, .q (.mov (.t 1))⟩,
       ⟨(some 4), none, .a (.asg (.t 9))⟩])
     .ret)))

theorem d174 (a b : Int) : Does Go.Proofs.Try.prog 174 [.v (.int .i64 a), .v (.int .i64 b)] false (.v (.int .i64 (min a b))) [.dead, .dead] := by
  refine does_intro (mc := m174) (N := 10) (rs := [4]) (fx := []) 2 rfl (by decide +kernel) ?_
  simp only [m174, EV, Nat.reduceEqDiff, Nat.reduceBEq, Nat.reduceLT, Nat.reduceLeDiff, Nat.reduceAdd, Nat.reduceSub, reduceIte]
  refine cK_cut (fun h => ?_) (fun h => ?_)
  · have e : min a b = a := by have : a < b := by simpa using h
                               omega
    simp only [EV, Nat.reduceEqDiff, Nat.reduceBEq, Nat.reduceLT, Nat.reduceLeDiff, Nat.reduceAdd, Nat.reduceSub, reduceIte]
    simp only [e, EV, Nat.reduceEqDiff, Nat.reduceBEq, Nat.reduceLT, Nat.reduceLeDiff, Nat.reduceAdd, Nat.reduceSub, reduceIte, evRE, retVC, cellV', evR, nfz, nfzs, nfzss, List.contains_nil, List.contains_cons, Bool.or_false, or_true]
  · have e : min a b = b := by have : ¬ a < b := by simpa using h
                               omega
    simp only [EV, Nat.reduceEqDiff, Nat.reduceBEq, Nat.reduceLT, Nat.reduceLeDiff, Nat.reduceAdd, Nat.reduceSub, reduceIte]
    simp only [e, EV, Nat.reduceEqDiff, Nat.reduceBEq, Nat.reduceLT, Nat.reduceLeDiff, Nat.reduceAdd, Nat.reduceSub, reduceIte, evRE, retVC, cellV', evR, nfz, nfzs, nfzss, List.contains_nil, List.contains_cons, Bool.or_false, or_true]

theorem sumP_step {s : List Int} {ks : List Int} {i : Nat} {a : Int} (h : i < ks.length) : sumP s (ks.drop i) a = if getS s ks[i] < 0 then none else sumP s (ks.drop (i + 1)) (a + getS s ks[i]) := by
  rw [List.drop_eq_getElem_cons h, sumP]

/-- loop.example/g00837/spec.l3One -/
def m143 : MC :=
  (.seq
   (.reg [⟨(some 2), none, .a (.box 59 (.t 0))⟩,
     ⟨(some 4), none, .a (.asg (.c (.int .i64 0)))⟩])
   (.join [1, 2]
    (.seq
     (.reg [⟨(some 8), none, .q (.fad 0 (.t 2))⟩,
       ⟨(some 9), none, .q (.load false 1 (.t 8))⟩])
     (.block 0
      (.seq
       (.reg [⟨(some 11), none, .q (.bin false .eql (.t 9) (.c (.int .i64 1)))⟩,
         ⟨(some 10), none, .a (.asg (.t 11))⟩])
       (.cond (.t 10)
        (.seq
         (.reg [⟨(some 4), none, .a (.asg (.c (.int .i64 4)))⟩])
         .ret)
        (.join [1, 2, 9, 12]
         (.seq
          (.reg [⟨(some 13), none, .q (.bin false .eql (.t 9) (.c (.int .i64 2)))⟩,
            ⟨(some 12), none, .a (.asg (.t 13))⟩])
          (.cond (.t 12)
           .skip
           (.reg [⟨(some 14), none, .q (.bin false .eql (.t 9) (.c (.int .i64 3)))⟩,
             ⟨(some 12), none, .a (.asg (.t 14))⟩])))
         (.cond (.t 12)
          (.seq
           (.reg [⟨(some 4), none, .a (.asg (.c (.int .i64 1)))⟩])
           .ret)
          (.seq
           (.reg [⟨(some 16), none, .q (.bin false .eql (.t 9) (.c (.int .i64 6)))⟩,
             ⟨(some 15), none, .a (.asg (.t 16))⟩])
           (.cond (.t 15)
            (.seq
             (.reg [⟨(some 4), none, .a (.asg (.c (.int .i64 8)))⟩])
             .ret)
            .skip))))))))
    (.seq
     (.reg [⟨(some 5), none, .a (.asg (.c (.int .i64 0)))⟩])
     (.seq
      (.seq
       (.reg [⟨(some 17), none, .q (.load true 6 (.t 2))⟩,
         ⟨(some 18), none, .a (.call (.fn 133) false [.lend (.t 17)])⟩,
         ⟨(some 19), none, .q (.len false (.t 18))⟩,
         ⟨(some 20), none, .q (.mov (.c (.int .i64 0)))⟩])
       (.block 1
        (.loop [1, 2, 5, 18, 19, 20]
         (.seq
          (.reg [⟨(some 21), none, .q (.bin false .lss (.t 20) (.t 19))⟩])
          (.seq
           (.cond (.t 21)
            .skip
            (.exit 1))
           (.seq
            (.block 2
             (.seq
              (.reg [⟨(some 22), none, .q (.iad 1 (.t 18) (.t 20))⟩,
                ⟨(some 23), none, .q (.load false 1 (.t 22))⟩,
                ⟨(some 7), none, .a (.asg (.t 23))⟩])
              (.seq
               (.seq
                (.reg [⟨(some 24), none, .q (.mov (.t 1))⟩,
                  ⟨(some 25), none, .q (.mov (.t 7))⟩,
                  ⟨(some 26), none, .q (.iad 1 (.t 24) (.t 25))⟩,
                  ⟨(some 27), none, .q (.load false 1 (.t 26))⟩,
                  ⟨(some 28), none, .q (.bin false .lss (.t 27) (.c (.int .i64 0)))⟩])
                (.cond (.t 28)
                 (.seq
                  (.reg [⟨(some 4), none, .a (.asg (.c (.int .i64 (-1))))⟩])
                  .ret)
                 .skip))
               (.reg [⟨(some 29), none, .q (.mov (.t 5))⟩,
                 ⟨(some 30), none, .q (.mov (.t 1))⟩,
                 ⟨(some 31), none, .q (.mov (.t 7))⟩,
                 ⟨(some 32), none, .q (.iad 1 (.t 30) (.t 31))⟩,
                 ⟨(some 33), none, .q (.load false 1 (.t 32))⟩,
                 ⟨(some 34), none, .q (.bin false .add (.t 29) (.t 33))⟩,
                 ⟨(some 5), none, .a (.asg (.t 34))⟩]))))
            (.reg [⟨(some 35), none, .q (.bin false .add (.t 20) (.c (.int .i64 1)))⟩,
              ⟨(some 20), none, .q (.mov (.t 35))⟩])))))))
      (.join [5]
       (.seq
        (.reg [⟨(some 36), none, .q (.fad 0 (.t 2))⟩,
          ⟨(some 37), none, .q (.load false 1 (.t 36))⟩,
          ⟨(some 38), none, .q (.bin false .eql (.t 37) (.c (.int .i64 4)))⟩])
        (.cond (.t 38)
         (.reg [⟨(some 39), none, .q (.mov (.t 5))⟩,
           ⟨(some 40), none, .q (.fad 1 (.t 2))⟩,
           ⟨(some 41), none, .q (.load false 1 (.t 40))⟩,
           ⟨(some 42), none, .q (.bin false .mul (.t 39) (.t 41))⟩,
           ⟨(some 5), none, .a (.asg (.t 42))⟩])
         .skip))
       (.seq
        (.reg [⟨(some 43), none, .q (.mov (.t 5))⟩,
          ⟨(some 44), none, .a (.call (.fn 174) false [.lend (.c (.int .i64 1000000001)), .lend (.t 43)])⟩,
          ⟨(some 4), none, .a (.asg (.t 44))⟩])
        .ret))))))

set_option maxHeartbeats 1000000 in
set_option maxRecDepth 100000 in
theorem d143 (t : Ty) (s : List Int) (ht : t.sm) (hk : ∀ k ∈ prt false t, 0 ≤ k ∧ k < (s.length : Int)) (h7 : (prt false t).length ≤ 7) (hl : (s.length : Int) ≤ 1048576) (hs : ∀ x ∈ s, x ≤ 1000000001) (hlong : (t.kind == 4) = true → 0 ≤ t.long ∧ t.long ≤ 1000) :
    Does Go.Proofs.Try.prog 143 [.agg t.z, .fsl 1 (s.map iv)] false (.v (.int .i64 (oneP t s))) [.dead, .dead] := by
  refine does_intro (mc := m143) (N := 45) (rs := [4]) (fx := []) 2 rfl (by decide +kernel) ?_
  simp only [m143, Ty.z, EV, Nat.reduceEqDiff, Nat.reduceBEq, Nat.reduceLT, Nat.reduceLeDiff, Nat.reduceAdd, Nat.reduceSub, reduceIte]
  refine awp_join (fun _ : Unit => (t.kind == 1) = false ∧ (t.kind == 2) = false ∧ (t.kind == 3) = false ∧ (t.kind == 6) = false) (fun _ => stl [(1, .fsl 1 (s.map iv)), (2, .box 59 t.z)]) ?_ ?_
  · simp only [Ty.z, EV, Nat.reduceEqDiff, Nat.reduceBEq, Nat.reduceLT, Nat.reduceLeDiff, Nat.reduceAdd, Nat.reduceSub, reduceIte]
    rcases e1 : (t.kind == 1) with _ | _
    rotate_left
    · have e : oneP t s = 4 := by unfold oneP; rw [if_pos e1]
      simp only [e1, EV, Nat.reduceEqDiff, Nat.reduceBEq, Nat.reduceLT, Nat.reduceLeDiff, Nat.reduceAdd, Nat.reduceSub, reduceIte]
      simp only [e, EV, Nat.reduceEqDiff, Nat.reduceBEq, Nat.reduceLT, Nat.reduceLeDiff, Nat.reduceAdd, Nat.reduceSub, reduceIte, evRE, retVC, cellV', evR, nfz, nfzs, nfzss, List.contains_nil, List.contains_cons, Bool.or_false, or_true]
    simp only [e1, Ty.z, EV, Nat.reduceEqDiff, Nat.reduceBEq, Nat.reduceLT, Nat.reduceLeDiff, Nat.reduceAdd, Nat.reduceSub, reduceIte]
    refine awp_join (fun b : Bool => b = (t.kind == 2 || t.kind == 3)) (fun b => stl [(1, .fsl 1 (s.map iv)), (2, .box 59 t.z), (9, .v (.int .i64 t.kind)), (12, .v (.bool b))]) ?_ ?_
    · simp only [Ty.z, EV, Nat.reduceEqDiff, Nat.reduceBEq, Nat.reduceLT, Nat.reduceLeDiff, Nat.reduceAdd, Nat.reduceSub, reduceIte]
      rcases e2 : (t.kind == 2) with _ | _
      · simp only [e2, EV, Nat.reduceEqDiff, Nat.reduceBEq, Nat.reduceLT, Nat.reduceLeDiff, Nat.reduceAdd, Nat.reduceSub, reduceIte]
        exact ⟨_, (Bool.false_or _).symm, rfl⟩
      · simp only [e2, EV, Nat.reduceEqDiff, Nat.reduceBEq, Nat.reduceLT, Nat.reduceLeDiff, Nat.reduceAdd, Nat.reduceSub, reduceIte]
        exact ⟨true, rfl, rfl⟩
    · rintro b rfl
      rcases e2 : (t.kind == 2 || t.kind == 3) with _ | _
      · simp only [Bool.or_eq_false_iff] at e2
        rcases e6 : (t.kind == 6) with _ | _
        · simp only [e6, Ty.z, EV, Nat.reduceEqDiff, Nat.reduceBEq, Nat.reduceLT, Nat.reduceLeDiff, Nat.reduceAdd, Nat.reduceSub, reduceIte]
          exact ⟨(), e2⟩
        · have e : oneP t s = 8 := by unfold oneP; rw [if_neg (by simp [e1]), if_neg (by simp [e2.1, e2.2]), if_pos e6]
          simp only [e6, Ty.z, EV, Nat.reduceEqDiff, Nat.reduceBEq, Nat.reduceLT, Nat.reduceLeDiff, Nat.reduceAdd, Nat.reduceSub, reduceIte]
          simp only [e, EV, Nat.reduceEqDiff, Nat.reduceBEq, Nat.reduceLT, Nat.reduceLeDiff, Nat.reduceAdd, Nat.reduceSub, reduceIte, evRE, retVC, cellV', evR, nfz, nfzs, nfzss, List.contains_nil, List.contains_cons, Bool.or_false, or_true]
      · have e : oneP t s = 1 := by unfold oneP; rw [if_neg (by simp [e1]), if_pos e2]
        simp only [Ty.z, EV, Nat.reduceEqDiff, Nat.reduceBEq, Nat.reduceLT, Nat.reduceLeDiff, Nat.reduceAdd, Nat.reduceSub, reduceIte]
        simp only [e, EV, Nat.reduceEqDiff, Nat.reduceBEq, Nat.reduceLT, Nat.reduceLeDiff, Nat.reduceAdd, Nat.reduceSub, reduceIte, evRE, retVC, cellV', evR, nfz, nfzs, nfzss, List.contains_nil, List.contains_cons, Bool.or_false, or_true]
  rintro _ ⟨e1, e2, e3, e6⟩
  have ho : oneP t s = match sumP s (prt false t) 0 with
    | some x => capS t x
    | none => -1 := by unfold oneP; rw [if_neg (by simp [e1]), if_neg (by simp [e2, e3]), if_neg (by simp [e6])]; all_goals (rcases sumP s (prt false t) 0 with _ | _ <;> rfl)
  simp only [Ty.z, EV, Nat.reduceEqDiff, Nat.reduceBEq, Nat.reduceLT, Nat.reduceLeDiff, Nat.reduceAdd, Nat.reduceSub, reduceIte]
  refine callK_i (d133 t ht) ?_
  simp only [Ty.z, EV, Nat.reduceEqDiff, Nat.reduceBEq, Nat.reduceLT, Nat.reduceLeDiff, Nat.reduceAdd, Nat.reduceSub, reduceIte]
  refine awp_loop (fun p : Nat × Int => p.1 ≤ (prt false t).length ∧ sumP s (prt false t) 0 = sumP s ((prt false t).drop p.1) p.2 ∧ p.2 ≤ 1000000001 * p.1 ∧ -1000000001 ≤ p.2) (fun p => stl [(1, .fsl 1 (s.map iv)), (2, .box 59 t.z), (5, .v (.int .i64 p.2)), (18, .usl 3 1 ((prt false t).map iv)), (19, .v (.int .i64 ((prt false t).length : Int))), (20, .v (.int .i64 (p.1 : Int)))]) (fun p => (prt false t).length - p.1) (0, 0) ⟨Nat.zero_le _, rfl, by simp, by omega⟩ ?_ ?_
  · simp only [Ty.z, EV, Nat.reduceEqDiff, Nat.reduceBEq, Nat.reduceLT, Nat.reduceLeDiff, Nat.reduceAdd, Nat.reduceSub, reduceIte]
    rfl
  · rintro ⟨i, a⟩ ⟨p1, p2, p3, p4⟩
    simp only at p1 p2 p3 p4
    simp only [Ty.z, EV, Nat.reduceEqDiff, Nat.reduceBEq, Nat.reduceLT, Nat.reduceLeDiff, Nat.reduceAdd, Nat.reduceSub, reduceIte]
    refine cK_cut (fun h => ?_) (fun h => ?_)
    · have q1 : i < (prt false t).length := by simpa using h
      have q2 : (i : Int) < ((prt false t).length : Int) := by omega
      obtain ⟨k0, k1⟩ := hk _ (List.getElem_mem q1)
      have kn : (prt false t)[i].toNat < s.length := by omega
      have hg : getS s (prt false t)[i] = s[(prt false t)[i].toNat] := by simp [getS, kn]
      have hle := hs _ (List.getElem_mem kn)
      rw [sumP_step q1, hg] at p2
      clear h
      simp only [nth_map q1, q1, q2, nth_map kn, kn, k0, k1, iv, Ty.z, EV, Nat.reduceEqDiff, Nat.reduceBEq, Nat.reduceLT, Nat.reduceLeDiff, Nat.reduceAdd, Nat.reduceSub, reduceIte]
      refine cK_cut (fun h => ?_) (fun h => ?_)
      · have hneg : s[(prt false t)[i].toNat] < 0 := by simpa using h
        rw [if_pos hneg] at p2
        have e : oneP t s = -1 := by rw [ho, p2]
        simp only [EV, Nat.reduceEqDiff, Nat.reduceBEq, Nat.reduceLT, Nat.reduceLeDiff, Nat.reduceAdd, Nat.reduceSub, reduceIte]
        simp only [e, EV, Nat.reduceEqDiff, Nat.reduceBEq, Nat.reduceLT, Nat.reduceLeDiff, Nat.reduceAdd, Nat.reduceSub, reduceIte, evRE, retVC, cellV', evR, nfz, nfzs, nfzss, List.contains_nil, List.contains_cons, Bool.or_false, or_true]
      · have hneg : ¬ s[(prt false t)[i].toNat] < 0 := by simpa using h
        rw [if_neg hneg] at p2
        simp only [nth_map kn, kn, k0, k1, iv, Ty.z, EV, Nat.reduceEqDiff, Nat.reduceBEq, Nat.reduceLT, Nat.reduceLeDiff, Nat.reduceAdd, Nat.reduceSub, reduceIte]
        rw [w64 _ (by omega), w64 _ (by omega)]
        exact ⟨(i + 1, a + s[(prt false t)[i].toNat]), ⟨q1, p2, by simp only; omega, by simp only; omega⟩, by simp only; omega, rfl⟩
    · have q1 : i = (prt false t).length := by have : ¬ (i : Int) < ((prt false t).length : Int) := by simpa using h
                                               omega
      subst q1
      rw [List.drop_length, sumP] at p2
      rw [p2] at ho
      clear h
      simp only [Ty.z, EV, Nat.reduceEqDiff, Nat.reduceBEq, Nat.reduceLT, Nat.reduceLeDiff, Nat.reduceAdd, Nat.reduceSub, reduceIte]
      refine awp_join (fun _ : Unit => True) (fun _ => stl [(5, .v (.int .i64 (if (t.kind == 4) = true then a * t.long else a)))]) ?_ ?_
      · simp only [Ty.z, EV, Nat.reduceEqDiff, Nat.reduceBEq, Nat.reduceLT, Nat.reduceLeDiff, Nat.reduceAdd, Nat.reduceSub, reduceIte]
        rcases e4 : (t.kind == 4) with _ | _
        · simp only [Ty.z, EV, Nat.reduceEqDiff, Nat.reduceBEq, Nat.reduceLT, Nat.reduceLeDiff, Nat.reduceAdd, Nat.reduceSub, reduceIte]
          first
            | exact ⟨(), rfl⟩
            | exact ⟨(), trivial⟩
        · obtain ⟨l0, l1⟩ := hlong e4
          have m1 : a * t.long ≤ 7000000007 * t.long := Int.mul_le_mul_of_nonneg_right (by omega) l0
          have m2 : -1000000001 * t.long ≤ a * t.long := Int.mul_le_mul_of_nonneg_right (by omega) l0
          simp only [Ty.z, EV, Nat.reduceEqDiff, Nat.reduceBEq, Nat.reduceLT, Nat.reduceLeDiff, Nat.reduceAdd, Nat.reduceSub, reduceIte]
          rw [w64 _ (by omega)]
          first
            | exact ⟨(), rfl⟩
            | exact ⟨(), trivial⟩
      · rintro _ _
        simp only [EV, Nat.reduceEqDiff, Nat.reduceBEq, Nat.reduceLT, Nat.reduceLeDiff, Nat.reduceAdd, Nat.reduceSub, reduceIte]
        refine callK_i (d174 _ _) ?_
        simp only [EV, Nat.reduceEqDiff, Nat.reduceBEq, Nat.reduceLT, Nat.reduceLeDiff, Nat.reduceAdd, Nat.reduceSub, reduceIte]
        simp only [ho, capS, EV, Nat.reduceEqDiff, Nat.reduceBEq, Nat.reduceLT, Nat.reduceLeDiff, Nat.reduceAdd, Nat.reduceSub, reduceIte, evRE, retVC, cellV', evR, nfz, nfzs, nfzss, List.contains_nil, List.contains_cons, Bool.or_false, or_true]

end Go.AM
namespace Go.AM
set_option linter.unusedVariables false
set_option linter.unusedSimpArgs false
/-- loop.example/g00837/spec.l3At -/
def m76 : MC :=
  (.seq
   (.reg [⟨(some 4), none, .a (.asg (.c (.bool false)))⟩])
   (.seq
    (.reg [⟨(some 5), none, .q (.mov (.t 0))⟩,
      ⟨(some 6), none, .a (.call (.fn 82) false [.lend (.t 5)])⟩,
      ⟨(some 7), none, .q (.mov (.t 6))⟩,
      ⟨(some 8), (some (7, true)), .q (.mov (.t 1))⟩,
      ⟨(some 9), (some (7, true)), .q (.mov (.t 0))⟩,
      ⟨(some 10), (some (7, true)), .q (.len false (.t 9))⟩,
      ⟨(some 11), (some (7, true)), .q (.bin false .sub (.t 10) (.c (.int .i64 1)))⟩,
      ⟨(some 12), (some (7, true)), .a (.call (.fn 77) false [.lend (.t 8), .lend (.c (.int .i64 0)), .lend (.t 11)])⟩,
      ⟨(some 13), none, .q (.pick (.t 7) (.t 12) (.c (.bool false)))⟩,
      ⟨(some 4), none, .a (.asg (.t 13))⟩])
    .ret))

theorem d76 (l : List Ty) (n : Int) (hl : (l.length : Int) ≤ 1048576) (hs : ∀ s ∈ l, s.sm) : Does Go.Proofs.Try.prog 76 [.fsl 6 (l.map Ty.z), .v (.int .i64 n)] false (.v (.bool (tabOk l && isNum l n))) [.dead, .dead] := by
  refine does_intro (mc := m76) (N := 14) (rs := [4]) (fx := []) 2 rfl (by decide +kernel) ?_
  simp only [m76, EV, Nat.reduceEqDiff, Nat.reduceBEq, Nat.reduceLT, Nat.reduceLeDiff, Nat.reduceAdd, Nat.reduceSub, reduceIte]
  refine callK_i (d82 l hl hs) ?_
  simp only [EV, Nat.reduceEqDiff, Nat.reduceBEq, Nat.reduceLT, Nat.reduceLeDiff, Nat.reduceAdd, Nat.reduceSub, reduceIte]
  rcases ht : tabOk l with _ | _
  · simp only [EV, Nat.reduceEqDiff, Nat.reduceBEq, Nat.reduceLT, Nat.reduceLeDiff, Nat.reduceAdd, Nat.reduceSub, reduceIte]
    simp only [Bool.false_and, EV, Nat.reduceEqDiff, Nat.reduceBEq, Nat.reduceLT, Nat.reduceLeDiff, Nat.reduceAdd, Nat.reduceSub, reduceIte, evRE, retVC, cellV', evR, nfz, nfzs, nfzss, List.contains_nil, List.contains_cons, Bool.or_false, or_true]
  simp only [EV, Nat.reduceEqDiff, Nat.reduceBEq, Nat.reduceLT, Nat.reduceLeDiff, Nat.reduceAdd, Nat.reduceSub, reduceIte]
  rw [w64 _ (by omega)]
  refine callK_i (d77 _ _ _) ?_
  simp only [EV, Nat.reduceEqDiff, Nat.reduceBEq, Nat.reduceLT, Nat.reduceLeDiff, Nat.reduceAdd, Nat.reduceSub, reduceIte]
  have e : (decide (0 ≤ n) && decide (n ≤ (l.length : Int) - 1)) = isNum l n := rfl
  simp only [e, Bool.true_and, EV, Nat.reduceEqDiff, Nat.reduceBEq, Nat.reduceLT, Nat.reduceLeDiff, Nat.reduceAdd, Nat.reduceSub, reduceIte, evRE, retVC, cellV', evR, nfz, nfzs, nfzss, List.contains_nil, List.contains_cons, Bool.or_false, or_true]

end Go.AM
namespace Go.AM
set_option linter.unusedVariables false
set_option linter.unusedSimpArgs false
/-- So far so good: each size is right or not known, and known are those of the first rounds. -/
def SzOk (l : List Ty) (s : List Int) (r i : Nat) : Prop := s.length = l.length ∧ ∀ j : Nat, j < l.length → (getS s j = sz l j ∨ getS s j = -1) ∧ ((rk l j < r ∨ (j < i ∧ rk l j < r + 1)) → getS s j = sz l j)

theorem getS_at {s : List Int} {j : Nat} (h : j < s.length) : getS s (j : Int) = s[j] := by simp [getS, h]

theorem getS_set {s : List Int} {i j : Nat} {v : Int} (hi : i < s.length) : getS (s.set i v) (j : Int) = if j = i then v else getS s (j : Int) := by
  simp only [getS, Int.toNat_natCast]
  by_cases e : j = i
  · subst e; simp [hi]
  · rw [if_neg e, List.getElem?_set_ne (fun h => e h.symm)]

theorem SzOk.at {l : List Ty} {s : List Int} {r i : Nat} (h : SzOk l s r i) {k : Int} (h0 : 0 ≤ k) (h1 : k < (l.length : Int)) : (getS s k = sz l k ∨ getS s k = -1) ∧ (rk l k < r → getS s k = sz l k) := by
  have := h.2 k.toNat (by omega)
  rw [Int.toNat_of_nonneg h0] at this
  exact ⟨this.1, fun hr => this.2 (.inl hr)⟩

theorem SzOk.step {l : List Ty} (ht : tabOk l = true) {s : List Int} {r i : Nat} (h : SzOk l s r i) (hi : i < l.length) : SzOk l (s.set i (oneP l[i] s)) r (i + 1) := by
  have hs : i < s.length := by rw [h.1]; exact hi
  have hk : ∀ k ∈ prt false l[i], 0 ≤ k ∧ k < (l.length : Int) ∧ rk l k < rk l (i : Int) := by
    intro k hk
    have hk' : k ∈ kids l false (i : Int) := by rw [kids_at (n := (i : Int)) (by simpa using hi)]; simpa using hk
    have h1 := kids_ok (tabOk_tys ht) (Int.natCast_nonneg i) (by omega) hk'
    exact ⟨h1.1, h1.2, rk_lt ht (Int.natCast_nonneg i) (by omega) hk'⟩
  have hnn : ∀ k, 0 ≤ sz l k := fun k => (sz_nn (tabOk_tys ht) k).1
  have hse : sz l (i : Int) = oneT l[i] (sz l) := by
    have := sz_eq (l := l) ht (n := (i : Int)) (Int.natCast_nonneg i) (by omega) (hn := by simpa using hi)
    simpa using this
  refine ⟨by rw [List.length_set]; exact h.1, fun j hj => ?_⟩
  rw [getS_set hs]
  by_cases e : j = i
  · subst e
    rw [if_pos rfl, hse]
    refine ⟨oneP_or hnn fun k hk' => (h.at (hk k hk').1 (hk k hk').2.1).1, fun hr => ?_⟩
    refine oneP_eq hnn fun k hk' => (h.at (hk k hk').1 (hk k hk').2.1).2 ?_
    have := (hk k hk').2.2
    omega
  · rw [if_neg e]
    refine ⟨(h.2 j hj).1, fun hr => (h.2 j hj).2 ?_⟩
    omega

theorem SzOk.next {l : List Ty} {s : List Int} {r : Nat} (h : SzOk l s r l.length) : SzOk l s (r + 1) 0 :=
  ⟨h.1, fun j hj => ⟨(h.2 j hj).1, fun hr => (h.2 j hj).2 (.inr ⟨hj, by omega⟩)⟩⟩

theorem SzOk.le {l : List Ty} (ht : tabOk l = true) {s : List Int} {r i : Nat} (h : SzOk l s r i) : ∀ x ∈ s, x ≤ 1000000001 := by
  intro x hx
  obtain ⟨j, hj, rfl⟩ := List.mem_iff_getElem.1 hx
  have := (h.2 j (by rw [← h.1]; exact hj)).1
  rw [getS_at hj] at this
  have := (sz_nn (tabOk_tys ht) (j : Int)).2
  omega

/-- loop.example/g00837/spec.l3Size -/
def m105 : MC :=
  (.seq
   (.reg [⟨(some 4), none, .a (.asg (.c (.int .i64 0)))⟩])
   (.seq
    (.reg [⟨(some 9), none, .q (.mov (.t 0))⟩,
      ⟨(some 10), none, .q (.len false (.t 9))⟩,
      ⟨(some 11), none, .a (.mks 3 1 8 [.v (.int .i64 0)] (.t 10) (.t 10))⟩,
      ⟨(some 5), none, .a (.asg (.t 11))⟩])
    (.seq
     (.seq
      (.reg [⟨(some 12), none, .q (.mov (.t 5))⟩,
        ⟨(some 13), none, .q (.len false (.t 12))⟩,
        ⟨(some 14), none, .q (.mov (.c (.int .i64 0)))⟩])
      (.block 0
       (.loop [0, 1, 5, 11, 13, 14]
        (.seq
         (.reg [⟨(some 15), none, .q (.bin false .lss (.t 14) (.t 13))⟩])
         (.seq
          (.cond (.t 15)
           .skip
           (.exit 0))
          (.seq
           (.block 1
            (.seq
             (.reg [⟨(some 16), none, .q (.mov (.t 14))⟩,
               ⟨(some 6), none, .a (.asg (.t 16))⟩])
             (.reg [⟨(some 17), none, .q (.mov (.t 5))⟩,
               ⟨(some 18), none, .q (.mov (.t 6))⟩,
               ⟨(some 19), none, .q (.iad 1 (.t 17) (.t 18))⟩,
               ⟨none, none, .a (.store 1 (.t 19) (.c (.int .i64 (-1))))⟩])))
           (.reg [⟨(some 20), none, .q (.bin false .add (.t 14) (.c (.int .i64 1)))⟩,
             ⟨(some 14), none, .q (.mov (.t 20))⟩])))))))
     (.seq
      (.seq
       (.reg [⟨(some 21), none, .q (.mov (.t 0))⟩,
         ⟨(some 22), none, .q (.len false (.t 21))⟩,
         ⟨(some 23), none, .q (.mov (.c (.int .i64 0)))⟩])
       (.block 2
        (.loop [0, 1, 5, 11, 22, 23]
         (.seq
          (.reg [⟨(some 24), none, .q (.bin false .lss (.t 23) (.t 22))⟩])
          (.seq
           (.cond (.t 24)
            .skip
            (.exit 2))
           (.seq
            (.block 3
             (.seq
              (.reg [⟨(some 25), none, .q (.mov (.t 0))⟩,
                ⟨(some 26), none, .q (.len false (.t 25))⟩,
                ⟨(some 27), none, .q (.mov (.c (.int .i64 0)))⟩])
              (.block 4
               (.loop [0, 1, 5, 11, 22, 23, 25, 26, 27]
                (.seq
                 (.reg [⟨(some 28), none, .q (.bin false .lss (.t 27) (.t 26))⟩])
                 (.seq
                  (.cond (.t 28)
                   .skip
                   (.exit 4))
                  (.seq
                   (.block 5
                    (.seq
                     (.reg [⟨(some 29), none, .q (.mov (.t 27))⟩,
                       ⟨(some 30), none, .q (.iad 6 (.t 25) (.t 27))⟩,
                       ⟨(some 31), none, .q (.load true 6 (.t 30))⟩,
                       ⟨(some 8), none, .a (.alloc 59 [.v (.int .i64 0), .v (.int .i64 0), .v (.int .i64 0), .s 57 3, .v (.string ({ data := #[] })), .v (.string ({ data := #[] }))])⟩,
                       ⟨(some 7), none, .a (.asg (.t 29))⟩,
                       ⟨none, none, .a (.store 6 (.t 8) (.t 31))⟩])
                     (.reg [⟨(some 32), none, .q (.mov (.t 5))⟩,
                       ⟨(some 33), none, .q (.mov (.t 7))⟩,
                       ⟨(some 34), none, .q (.load true 6 (.t 8))⟩,
                       ⟨(some 35), none, .q (.mov (.t 5))⟩,
                       ⟨(some 36), none, .a (.call (.fn 143) false [.lend (.t 34), .lend (.t 35)])⟩,
                       ⟨(some 37), none, .q (.iad 1 (.t 32) (.t 33))⟩,
                       ⟨none, none, .a (.store 1 (.t 37) (.t 36))⟩])))
                   (.reg [⟨(some 38), none, .q (.bin false .add (.t 27) (.c (.int .i64 1)))⟩,
                     ⟨(some 27), none, .q (.mov (.t 38))⟩]))))))))
            (.reg [⟨(some 39), none, .q (.bin false .add (.t 23) (.c (.int .i64 1)))⟩,
              ⟨(some 23), none, .q (.mov (.t 39))⟩])))))))
      (.seq
       (.reg [⟨(some 40), none, .q (.mov (.t 5))⟩,
         ⟨(some 41), none, .q (.mov (.t 1))⟩,
         ⟨(some 42), none, .q (.iad 1 (.t 40) (.t 41))⟩,
         ⟨(some 43), none, .q (.load false 1 (.t 42))⟩,
         ⟨(some 4), none, .a (.asg (.t 43))⟩])
       .ret)))))

set_option maxHeartbeats 1000000 in
set_option maxRecDepth 100000 in
theorem d105 (l : List Ty) (n : Int) (hl : (l.length : Int) ≤ 1048576) (hs : ∀ s ∈ l, s.sm) (ht : tabOk l = true) (hn : isNum l n = true) : Does Go.Proofs.Try.prog 105 [.fsl 6 (l.map Ty.z), .v (.int .i64 n)] false (.v (.int .i64 (sz l n))) [.dead, .dead] := by
  have h24 := tabOk_len ht
  obtain ⟨n0, n1⟩ := isNum_in.1 hn
  refine does_intro (mc := m105) (N := 44) (rs := [4]) (fx := []) 2 rfl (by decide +kernel) ?_
  simp only [m105, EV, Nat.reduceEqDiff, Nat.reduceBEq, Nat.reduceLT, Nat.reduceLeDiff, Nat.reduceAdd, Nat.reduceSub, reduceIte]
  refine ⟨by omega, by omega, ?_⟩
  refine awp_loop (fun p : List Int × Nat => p.2 ≤ l.length ∧ p.1.length = l.length ∧ ∀ j : Nat, j < p.2 → getS p.1 (j : Int) = -1) (fun p => stl [(0, .fsl 6 (l.map Ty.z)), (1, .v (.int .i64 n)), (5, .usl 3 1 (p.1.map iv)), (11, .dead), (13, .v (.int .i64 (l.length : Int))), (14, .v (.int .i64 (p.2 : Int)))]) (fun p => l.length - p.2) (List.replicate l.length 0, 0) ⟨Nat.zero_le _, by simp, fun j h => absurd h (by omega)⟩ ?_ ?_
  · simp only [List.map_replicate, List.length_replicate, iv, EV, Nat.reduceEqDiff, Nat.reduceBEq, Nat.reduceLT, Nat.reduceLeDiff, Nat.reduceAdd, Nat.reduceSub, reduceIte]
    rfl
  · rintro ⟨s, i⟩ ⟨p1, p2, p3⟩
    simp only at p1 p2 p3
    simp only [EV, Nat.reduceEqDiff, Nat.reduceBEq, Nat.reduceLT, Nat.reduceLeDiff, Nat.reduceAdd, Nat.reduceSub, reduceIte]
    refine cK_cut (fun h => ?_) (fun h => ?_)
    · have q1 : i < l.length := by simpa using h
      have q2 : (i : Int) < (l.length : Int) := by omega
      have q3 : i < s.length := by omega
      have q4 : (i : Int) < (s.length : Int) := by omega
      clear h
      simp only [nth_map q3, q3, q4, iv, EV, Nat.reduceEqDiff, Nat.reduceBEq, Nat.reduceLT, Nat.reduceLeDiff, Nat.reduceAdd, Nat.reduceSub, reduceIte]
      rw [w64 _ (by omega)]
      refine ⟨(s.set i (-1), i + 1), ⟨q1, by simp [p2], fun j hj => ?_⟩, by simp only; omega, by simp only [List.map_set]; rfl⟩
      rw [getS_set q3]
      simp only at hj
      split
      · rfl
      · exact p3 j (by omega)
    · have q1 : i = l.length := by have : ¬ (i : Int) < (l.length : Int) := by simpa using h
                                   omega
      subst q1
      clear h
      have h0 : SzOk l s 0 0 := ⟨p2, fun j hj => ⟨.inr (p3 j hj), fun h => by omega⟩⟩
      simp only [EV, Nat.reduceEqDiff, Nat.reduceBEq, Nat.reduceLT, Nat.reduceLeDiff, Nat.reduceAdd, Nat.reduceSub, reduceIte]
      refine awp_loop (fun p : List Int × Nat => p.2 ≤ l.length ∧ SzOk l p.1 p.2 0) (fun p => stl [(0, .fsl 6 (l.map Ty.z)), (1, .v (.int .i64 n)), (5, .usl 3 1 (p.1.map iv)), (11, .dead), (22, .v (.int .i64 (l.length : Int))), (23, .v (.int .i64 (p.2 : Int)))]) (fun p => l.length - p.2) (s, 0) ⟨Nat.zero_le _, h0⟩ ?_ ?_
      · simp only [EV, Nat.reduceEqDiff, Nat.reduceBEq, Nat.reduceLT, Nat.reduceLeDiff, Nat.reduceAdd, Nat.reduceSub, reduceIte]
        rfl
      · rintro ⟨s, r⟩ ⟨p1, p2⟩
        simp only at p1 p2
        simp only [EV, Nat.reduceEqDiff, Nat.reduceBEq, Nat.reduceLT, Nat.reduceLeDiff, Nat.reduceAdd, Nat.reduceSub, reduceIte]
        refine cK_cut (fun h => ?_) (fun h => ?_)
        · have r1 : r < l.length := by simpa using h
          clear h
          simp only [EV, Nat.reduceEqDiff, Nat.reduceBEq, Nat.reduceLT, Nat.reduceLeDiff, Nat.reduceAdd, Nat.reduceSub, reduceIte]
          refine awp_loop (fun p : List Int × Nat => p.2 ≤ l.length ∧ SzOk l p.1 r p.2) (fun p => stl [(0, .fsl 6 (l.map Ty.z)), (1, .v (.int .i64 n)), (5, .usl 3 1 (p.1.map iv)), (11, .dead), (22, .v (.int .i64 (l.length : Int))), (23, .v (.int .i64 (r : Int))), (25, .fsl 6 (l.map Ty.z)), (26, .v (.int .i64 (l.length : Int))), (27, .v (.int .i64 (p.2 : Int)))]) (fun p => l.length - p.2) (s, 0) ⟨Nat.zero_le _, p2⟩ ?_ ?_
          · simp only [EV, Nat.reduceEqDiff, Nat.reduceBEq, Nat.reduceLT, Nat.reduceLeDiff, Nat.reduceAdd, Nat.reduceSub, reduceIte]
            rfl
          · rintro ⟨s, i⟩ ⟨p3, p4⟩
            simp only at p3 p4
            simp only [EV, Nat.reduceEqDiff, Nat.reduceBEq, Nat.reduceLT, Nat.reduceLeDiff, Nat.reduceAdd, Nat.reduceSub, reduceIte]
            refine cK_cut (fun h => ?_) (fun h => ?_)
            · have q1 : i < l.length := by simpa using h
              have q2 : (i : Int) < (l.length : Int) := by omega
              have q3 : i < s.length := by rw [p4.1]; exact q1
              have q4 : (i : Int) < (s.length : Int) := by omega
              have hsm := hs _ (List.getElem_mem q1)
              have hk : ∀ k ∈ prt false l[i], 0 ≤ k ∧ k < (s.length : Int) := by
                intro k hk
                have hk' : k ∈ kids l false (i : Int) := by rw [kids_at (n := (i : Int)) (by simpa using q1)]; simpa using hk
                have h1 := kids_ok (tabOk_tys ht) (Int.natCast_nonneg i) (by omega) hk'
                rw [p4.1]; exact h1
              clear h
              simp only [iv_frz, nth_map q1, q1, q2, TyE, Ty.z, EV, Nat.reduceEqDiff, Nat.reduceBEq, Nat.reduceLT, Nat.reduceLeDiff, Nat.reduceAdd, Nat.reduceSub, reduceIte]
              refine callK_i (d143 l[i] s hsm hk (prt_len (tabOk_tys ht) false q1) (by rw [p4.1]; exact hl) (p4.le ht) fun h4 => by have := (tysOk_good (tabOk_tys ht) q1).arr (by simpa using h4); omega) ?_
              simp only [nth_map q3, q3, q4, iv, EV, Nat.reduceEqDiff, Nat.reduceBEq, Nat.reduceLT, Nat.reduceLeDiff, Nat.reduceAdd, Nat.reduceSub, reduceIte]
              rw [w64 _ (by omega)]
              exact ⟨(s.set i (oneP l[i] s), i + 1), ⟨q1, p4.step ht q1⟩, by simp only; omega, by simp only [List.map_set]; rfl⟩
            · have q1 : i = l.length := by have : ¬ (i : Int) < (l.length : Int) := by simpa using h
                                           omega
              subst q1
              simp only [EV, Nat.reduceEqDiff, Nat.reduceBEq, Nat.reduceLT, Nat.reduceLeDiff, Nat.reduceAdd, Nat.reduceSub, reduceIte]
              rw [w64 _ (by omega)]
              exact ⟨(s, r + 1), ⟨r1, p4.next⟩, by simp only; omega, rfl⟩
        · have q1 : r = l.length := by have : ¬ (r : Int) < (l.length : Int) := by simpa using h
                                       omega
          subst q1
          have hgs := (p2.at n0 n1).2 (rk_small ht n0 n1)
          have q3 : n.toNat < s.length := by rw [p2.1]; omega
          have q4 : n < (s.length : Int) := by rw [p2.1]; exact n1
          have hgn : s[n.toNat] = sz l n := by rw [← hgs]; simp [getS, q3]
          simp only [nth_map q3, q3, q4, n0, iv, EV, Nat.reduceEqDiff, Nat.reduceBEq, Nat.reduceLT, Nat.reduceLeDiff, Nat.reduceAdd, Nat.reduceSub, reduceIte]
          simp only [hgn, EV, Nat.reduceEqDiff, Nat.reduceBEq, Nat.reduceLT, Nat.reduceLeDiff, Nat.reduceAdd, Nat.reduceSub, reduceIte, evRE, retVC, cellV', evR, nfz, nfzs, nfzss, List.contains_nil, List.contains_cons, Bool.or_false, or_true]

end Go.AM
namespace Go.AM
set_option linter.unusedVariables false
set_option linter.unusedSimpArgs false
noncomputable def szOk (l : List Ty) (n : Int) : Bool := (tabOk l && isNum l n) && decide (sz l n ≤ 1000000000)

def sizesL (l : List Ty) : List Int := (List.range l.length).map fun k : Nat => sz l (k : Int)

/-- loop.example/g00837/spec.SizeOf -/
def m55 : MC :=
  (.seq
   (.reg [⟨(some 4), none, .a (.asg (.c (.int .i64 0)))⟩,
     ⟨(some 5), none, .a (.asg (.c (.bool false)))⟩])
   (.seq
    (.seq
     (.reg [⟨(some 6), none, .q (.mov (.t 0))⟩,
       ⟨(some 7), none, .q (.mov (.t 1))⟩,
       ⟨(some 8), none, .a (.call (.fn 76) false [.lend (.t 6), .lend (.t 7)])⟩,
       ⟨(some 9), none, .q (.un .not (.t 8))⟩,
       ⟨(some 10), none, .q (.mov (.t 9))⟩,
       ⟨(some 11), (some (10, false)), .q (.mov (.t 0))⟩,
       ⟨(some 12), (some (10, false)), .q (.mov (.t 1))⟩,
       ⟨(some 13), (some (10, false)), .a (.call (.fn 105) false [.lend (.t 11), .lend (.t 12)])⟩,
       ⟨(some 14), (some (10, false)), .q (.bin false .gtr (.t 13) (.c (.int .i64 1000000000)))⟩,
       ⟨(some 15), none, .q (.pick (.t 10) (.c (.bool true)) (.t 14))⟩])
     (.cond (.t 15)
      (.seq
       (.reg [⟨(some 4), none, .a (.asg (.c (.int .i64 0)))⟩,
         ⟨(some 5), none, .a (.asg (.c (.bool false)))⟩])
       .ret)
      .skip))
    (.seq
     (.reg [⟨(some 16), none, .q (.mov (.t 0))⟩,
       ⟨(some 17), none, .q (.mov (.t 1))⟩,
       ⟨(some 18), none, .a (.call (.fn 105) false [.lend (.t 16), .lend (.t 17)])⟩,
       ⟨(some 4), none, .a (.asg (.t 18))⟩,
       ⟨(some 5), none, .a (.asg (.c (.bool true)))⟩])
     .ret)))

set_option maxRecDepth 100000 in
theorem d55 (l : List Ty) (n : Int) (hl : (l.length : Int) ≤ 1048576) (hs : ∀ s ∈ l, s.sm) : Does Go.Proofs.Try.prog 55 [.fsl 6 (l.map Ty.z), .v (.int .i64 n)] false (.tup [.v (.int .i64 (if szOk l n = true then sz l n else 0)), .v (.bool (szOk l n))]) [.dead, .dead] := by
  refine does_intro (mc := m55) (N := 19) (rs := [4, 5]) (fx := []) 2 rfl (by decide +kernel) ?_
  simp only [m55, EV, Nat.reduceEqDiff, Nat.reduceBEq, Nat.reduceLT, Nat.reduceLeDiff, Nat.reduceAdd, Nat.reduceSub, reduceIte]
  refine callK_i (d76 l n hl hs) ?_
  simp only [EV, Nat.reduceEqDiff, Nat.reduceBEq, Nat.reduceLT, Nat.reduceLeDiff, Nat.reduceAdd, Nat.reduceSub, reduceIte]
  rcases e : (tabOk l && isNum l n) with _ | _
  · simp only [Bool.not_false, EV, Nat.reduceEqDiff, Nat.reduceBEq, Nat.reduceLT, Nat.reduceLeDiff, Nat.reduceAdd, Nat.reduceSub, reduceIte]
    simp only [szOk, e, Bool.false_and, EV, Nat.reduceEqDiff, Nat.reduceBEq, Nat.reduceLT, Nat.reduceLeDiff, Nat.reduceAdd, Nat.reduceSub, reduceIte, evRE, retVC, cellV', evR, nfz, nfzs, nfzss, List.contains_nil, List.contains_cons, Bool.or_false, or_true]
  have e' := e
  simp only [Bool.and_eq_true] at e'
  simp only [Bool.not_true, EV, Nat.reduceEqDiff, Nat.reduceBEq, Nat.reduceLT, Nat.reduceLeDiff, Nat.reduceAdd, Nat.reduceSub, reduceIte]
  refine callK_i (d105 l n hl hs e'.1 e'.2) ?_
  simp only [EV, Nat.reduceEqDiff, Nat.reduceBEq, Nat.reduceLT, Nat.reduceLeDiff, Nat.reduceAdd, Nat.reduceSub, reduceIte]
  rcases e2 : decide (1000000000 < sz l n) with _ | _
  · have e3 : decide (sz l n ≤ 1000000000) = true := by simp at e2 ⊢; omega
    simp only [EV, Nat.reduceEqDiff, Nat.reduceBEq, Nat.reduceLT, Nat.reduceLeDiff, Nat.reduceAdd, Nat.reduceSub, reduceIte]
    refine callK_i (d105 l n hl hs e'.1 e'.2) ?_
    simp only [EV, Nat.reduceEqDiff, Nat.reduceBEq, Nat.reduceLT, Nat.reduceLeDiff, Nat.reduceAdd, Nat.reduceSub, reduceIte]
    simp only [szOk, e, e3, Bool.and_self, if_true, EV, Nat.reduceEqDiff, Nat.reduceBEq, Nat.reduceLT, Nat.reduceLeDiff, Nat.reduceAdd, Nat.reduceSub, reduceIte, evRE, retVC, cellV', evR, nfz, nfzs, nfzss, List.contains_nil, List.contains_cons, Bool.or_false, or_true]
  · have e3 : decide (sz l n ≤ 1000000000) = false := by simp at e2 ⊢; omega
    simp only [EV, Nat.reduceEqDiff, Nat.reduceBEq, Nat.reduceLT, Nat.reduceLeDiff, Nat.reduceAdd, Nat.reduceSub, reduceIte]
    simp only [szOk, e, e3, Bool.and_false, EV, Nat.reduceEqDiff, Nat.reduceBEq, Nat.reduceLT, Nat.reduceLeDiff, Nat.reduceAdd, Nat.reduceSub, reduceIte, evRE, retVC, cellV', evR, nfz, nfzs, nfzss, List.contains_nil, List.contains_cons, Bool.or_false, or_true]

/-- loop.example/g00837/impl.SizeOf -/
def m54 : MC :=
  (.seq
   (.reg [⟨(some 4), none, .a (.asg (.c (.int .i64 0)))⟩,
     ⟨(some 5), none, .a (.asg (.c (.bool false)))⟩])
   (.seq
    (.seq
     (.reg [⟨(some 7), none, .q (.mov (.t 0))⟩,
       ⟨(some 8), none, .a (.call (.fn 79) false [.lend (.t 7)])⟩,
       ⟨(some 9), none, .q (.un .not (.t 8))⟩,
       ⟨(some 10), none, .q (.mov (.t 9))⟩,
       ⟨(some 11), (some (10, false)), .q (.mov (.t 0))⟩,
       ⟨(some 12), (some (10, false)), .q (.mov (.t 1))⟩,
       ⟨(some 13), (some (10, false)), .a (.call (.fn 80) false [.lend (.t 11), .lend (.t 12)])⟩,
       ⟨(some 14), (some (10, false)), .q (.un .not (.t 13))⟩,
       ⟨(some 15), none, .q (.pick (.t 10) (.c (.bool true)) (.t 14))⟩])
     (.cond (.t 15)
      (.seq
       (.reg [⟨(some 4), none, .a (.asg (.c (.int .i64 0)))⟩,
         ⟨(some 5), none, .a (.asg (.c (.bool false)))⟩])
       .ret)
      .skip))
    (.seq
     (.reg [⟨(some 16), none, .q (.mov (.t 0))⟩,
       ⟨(some 17), none, .a (.call (.fn 104) false [.lend (.t 16)])⟩,
       ⟨(some 18), none, .q (.mov (.t 1))⟩,
       ⟨(some 19), none, .q (.iad 1 (.t 17) (.t 18))⟩,
       ⟨(some 20), none, .q (.load false 1 (.t 19))⟩,
       ⟨(some 6), none, .a (.asg (.t 20))⟩])
     (.seq
      (.seq
       (.reg [⟨(some 21), none, .q (.mov (.t 6))⟩,
         ⟨(some 22), none, .q (.bin false .gtr (.t 21) (.c (.int .i64 1000000000)))⟩])
       (.cond (.t 22)
        (.seq
         (.reg [⟨(some 4), none, .a (.asg (.c (.int .i64 0)))⟩,
           ⟨(some 5), none, .a (.asg (.c (.bool false)))⟩])
         .ret)
        .skip))
      (.seq
       (.reg [⟨(some 23), none, .q (.mov (.t 6))⟩,
         ⟨(some 4), none, .a (.asg (.t 23))⟩,
         ⟨(some 5), none, .a (.asg (.c (.bool true)))⟩])
       .ret)))))

set_option maxRecDepth 100000 in
theorem d54_of (l : List Ty) (n : Int) (hl : (l.length : Int) ≤ 1048576) (hs : ∀ s ∈ l, s.sm)
    (h104 : tabOk l = true → Does Go.Proofs.Try.prog 104 [.fsl 6 (l.map Ty.z)] false (.usl 3 1 ((sizesL l).map iv)) [.dead]) : Does Go.Proofs.Try.prog 54 [.fsl 6 (l.map Ty.z), .v (.int .i64 n)] false (.tup [.v (.int .i64 (if szOk l n = true then sz l n else 0)), .v (.bool (szOk l n))]) [.dead, .dead] := by
  refine does_intro (mc := m54) (N := 24) (rs := [4, 5]) (fx := []) 2 rfl (by decide +kernel) ?_
  simp only [m54, EV, Nat.reduceEqDiff, Nat.reduceBEq, Nat.reduceLT, Nat.reduceLeDiff, Nat.reduceAdd, Nat.reduceSub, reduceIte]
  refine callK_i (d79 l hl hs) ?_
  simp only [EV, Nat.reduceEqDiff, Nat.reduceBEq, Nat.reduceLT, Nat.reduceLeDiff, Nat.reduceAdd, Nat.reduceSub, reduceIte]
  rcases e : tabOk l with _ | _
  · simp only [Bool.not_false, EV, Nat.reduceEqDiff, Nat.reduceBEq, Nat.reduceLT, Nat.reduceLeDiff, Nat.reduceAdd, Nat.reduceSub, reduceIte]
    simp only [szOk, e, Bool.false_and, EV, Nat.reduceEqDiff, Nat.reduceBEq, Nat.reduceLT, Nat.reduceLeDiff, Nat.reduceAdd, Nat.reduceSub, reduceIte, evRE, retVC, cellV', evR, nfz, nfzs, nfzss, List.contains_nil, List.contains_cons, Bool.or_false, or_true]
  simp only [Bool.not_true, EV, Nat.reduceEqDiff, Nat.reduceBEq, Nat.reduceLT, Nat.reduceLeDiff, Nat.reduceAdd, Nat.reduceSub, reduceIte]
  refine callK_i (d80 l n hl) ?_
  simp only [EV, Nat.reduceEqDiff, Nat.reduceBEq, Nat.reduceLT, Nat.reduceLeDiff, Nat.reduceAdd, Nat.reduceSub, reduceIte]
  rcases e1 : isNum l n with _ | _
  · simp only [Bool.not_false, EV, Nat.reduceEqDiff, Nat.reduceBEq, Nat.reduceLT, Nat.reduceLeDiff, Nat.reduceAdd, Nat.reduceSub, reduceIte]
    simp only [szOk, e, e1, Bool.and_false, Bool.false_and, EV, Nat.reduceEqDiff, Nat.reduceBEq, Nat.reduceLT, Nat.reduceLeDiff, Nat.reduceAdd, Nat.reduceSub, reduceIte, evRE, retVC, cellV', evR, nfz, nfzs, nfzss, List.contains_nil, List.contains_cons, Bool.or_false, or_true]
  obtain ⟨n0, n1⟩ := isNum_in.1 e1
  have q3 : n.toNat < (sizesL l).length := by simp [sizesL]; omega
  have q4 : n < ((sizesL l).length : Int) := by simp [sizesL]; omega
  have hg : (sizesL l)[n.toNat] = sz l n := by simp only [sizesL, List.getElem_map, List.getElem_range]; rw [Int.toNat_of_nonneg n0]
  simp only [Bool.not_true, EV, Nat.reduceEqDiff, Nat.reduceBEq, Nat.reduceLT, Nat.reduceLeDiff, Nat.reduceAdd, Nat.reduceSub, reduceIte]
  refine callK_i (h104 e) ?_
  simp only [nth_map q3, q3, q4, n0, hg, iv, EV, Nat.reduceEqDiff, Nat.reduceBEq, Nat.reduceLT, Nat.reduceLeDiff, Nat.reduceAdd, Nat.reduceSub, reduceIte]
  rcases e2 : decide (1000000000 < sz l n) with _ | _
  · have e3 : decide (sz l n ≤ 1000000000) = true := by simp at e2 ⊢; omega
    simp only [EV, Nat.reduceEqDiff, Nat.reduceBEq, Nat.reduceLT, Nat.reduceLeDiff, Nat.reduceAdd, Nat.reduceSub, reduceIte]
    simp only [szOk, e, e1, e3, Bool.and_self, if_true, EV, Nat.reduceEqDiff, Nat.reduceBEq, Nat.reduceLT, Nat.reduceLeDiff, Nat.reduceAdd, Nat.reduceSub, reduceIte, evRE, retVC, cellV', evR, nfz, nfzs, nfzss, List.contains_nil, List.contains_cons, Bool.or_false, or_true]
  · have e3 : decide (sz l n ≤ 1000000000) = false := by simp at e2 ⊢; omega
    simp only [EV, Nat.reduceEqDiff, Nat.reduceBEq, Nat.reduceLT, Nat.reduceLeDiff, Nat.reduceAdd, Nat.reduceSub, reduceIte]
    simp only [szOk, e, e1, e3, Bool.and_false, EV, Nat.reduceEqDiff, Nat.reduceBEq, Nat.reduceLT, Nat.reduceLeDiff, Nat.reduceAdd, Nat.reduceSub, reduceIte, evRE, retVC, cellV', evR, nfz, nfzs, nfzss, List.contains_nil, List.contains_cons, Bool.or_false, or_true]

/-- loop.example/g00837/impl.GoodTypes -/
def m56 : MC :=
  (.seq
   (.reg [⟨(some 2), none, .a (.asg (.c (.bool false)))⟩])
   (.seq
    (.reg [⟨(some 3), none, .q (.mov (.t 0))⟩,
      ⟨(some 4), none, .a (.call (.fn 79) false [.lend (.t 3)])⟩,
      ⟨(some 2), none, .a (.asg (.t 4))⟩])
    .ret))

theorem d56 (l : List Ty) (hl : (l.length : Int) ≤ 1048576) (hs : ∀ s ∈ l, s.sm) : Does Go.Proofs.Try.prog 56 [.fsl 6 (l.map Ty.z)] false (.v (.bool (tabOk l))) [.dead] := by
  refine does_intro (mc := m56) (N := 5) (rs := [2]) (fx := []) 1 rfl (by decide +kernel) ?_
  simp only [m56, EV, Nat.reduceEqDiff, Nat.reduceBEq, Nat.reduceLT, Nat.reduceLeDiff, Nat.reduceAdd, Nat.reduceSub, reduceIte]
  refine callK_i (d79 l hl hs) ?_
  simp only [EV, Nat.reduceEqDiff, Nat.reduceBEq, Nat.reduceLT, Nat.reduceLeDiff, Nat.reduceAdd, Nat.reduceSub, reduceIte]
  simp only [EV, Nat.reduceEqDiff, Nat.reduceBEq, Nat.reduceLT, Nat.reduceLeDiff, Nat.reduceAdd, Nat.reduceSub, reduceIte, evRE, retVC, cellV', evR, nfz, nfzs, nfzss, List.contains_nil, List.contains_cons, Bool.or_false, or_true]

/-- loop.example/g00837/spec.GoodTypes -/
def m57 : MC :=
  (.seq
   (.reg [⟨(some 2), none, .a (.asg (.c (.bool false)))⟩])
   (.seq
    (.reg [⟨(some 3), none, .q (.mov (.t 0))⟩,
      ⟨(some 4), none, .a (.call (.fn 82) false [.lend (.t 3)])⟩,
      ⟨(some 2), none, .a (.asg (.t 4))⟩])
    .ret))

theorem d57 (l : List Ty) (hl : (l.length : Int) ≤ 1048576) (hs : ∀ s ∈ l, s.sm) : Does Go.Proofs.Try.prog 57 [.fsl 6 (l.map Ty.z)] false (.v (.bool (tabOk l))) [.dead] := by
  refine does_intro (mc := m57) (N := 5) (rs := [2]) (fx := []) 1 rfl (by decide +kernel) ?_
  simp only [m57, EV, Nat.reduceEqDiff, Nat.reduceBEq, Nat.reduceLT, Nat.reduceLeDiff, Nat.reduceAdd, Nat.reduceSub, reduceIte]
  refine callK_i (d82 l hl hs) ?_
  simp only [EV, Nat.reduceEqDiff, Nat.reduceBEq, Nat.reduceLT, Nat.reduceLeDiff, Nat.reduceAdd, Nat.reduceSub, reduceIte]
  simp only [EV, Nat.reduceEqDiff, Nat.reduceBEq, Nat.reduceLT, Nat.reduceLeDiff, Nat.reduceAdd, Nat.reduceSub, reduceIte, evRE, retVC, cellV', evR, nfz, nfzs, nfzss, List.contains_nil, List.contains_cons, Bool.or_false, or_true]

end Go.AM
namespace Go.AM
set_option linter.unusedVariables false
set_option linter.unusedSimpArgs false
/-- A byte as a row of one cell. -/
def bv (n : Int) : List AV := [.v (.int .u8 n)]

structure Cur where
  code : List Int
  pos : Int
  seed : Int

def Cur.z (c : Cur) : List AV := [.fsl 1 (c.code.map bv), .v (.int .i64 c.pos), .v (.int .u64 c.seed)]

def Cur.ok (c : Cur) (n : Int) : Prop := (c.code.length : Int) ≤ 1048576 ∧ (∀ b ∈ c.code, 0 ≤ b ∧ b ≤ 255) ∧ 0 ≤ c.pos ∧ c.pos ≤ n

theorem Cur.ok.up {c : Cur} {n m : Int} (h : c.ok n) (hm : n ≤ m) : c.ok m := ⟨h.1, h.2.1, h.2.2.1, by have := h.2.2.2; omega⟩

def andK (kd : IntKind) (a b : Int) : Int := kd.wrap (BitVec.ofInt kd.bits a &&& BitVec.ofInt kd.bits b).toNat

def shrK (kd : IntKind) (a b : Int) : Int := a.fdiv (2 ^ (min b.toNat kd.bits))

theorem evB2 :
    (∀ (kd ky : IntKind) (a b : Int) (K : AV → Prop), (binV .shr (.v (.int kd a)) (.v (.int ky b)) K = (0 ≤ b ∧ K (.v (.int kd (shrK kd a b)))))) ∧
    (∀ (kd : IntKind) (a b : Int) (K : AV → Prop), (binV .and (.v (.int kd a)) (.v (.int kd b)) K = K (.v (.int kd (andK kd a b))))) := by
  refine ⟨?_, ?_⟩ <;> intros <;> simp [binV, binC, binR, andK, shrK]

theorem andK_255 (a : Int) : 0 ≤ andK .u64 a 255 ∧ andK .u64 a 255 ≤ 255 := by
  have h2 : (BitVec.ofInt IntKind.u64.bits 255).toNat = 255 := by decide
  have e : (BitVec.ofInt IntKind.u64.bits a &&& BitVec.ofInt IntKind.u64.bits 255).toNat ≤ 255 := by
    rw [BitVec.toNat_and, h2]
    exact Nat.and_le_right
  have w : ∀ n : Nat, n ≤ 255 → IntKind.u64.wrap (n : Int) = (n : Int) := by
    intro n h1
    simp [IntKind.wrap, IntKind.bits, IntKind.signed]
    omega
  unfold andK
  rw [w _ e]
  omega

theorem evN (n : Nat) (p : List (Nat × Nat)) (i k : Nat) (K : AV → Prop) : nilchkV (.ref n p i k) K = K (.ref n p i k) := rfl

/-- (*loop.example/g00837/spec.l1Cur).next -/
def m144 : MC :=
  (.seq
   (.reg [⟨(some 2), none, .a (.asg (.c (.int .i64 0)))⟩])
   (.seq
    (.reg [⟨(some 3), none, .a (.asg (.c (.int .i64 0)))⟩])
    (.join [0, 3]
     (.seq
      (.dreg [⟨(some 4), none, .q (.mov (.t 0))⟩,
        ⟨(some 5), none, .q (.nilchk (.t 4))⟩,
        ⟨(some 6), none, .q (.fad 1 (.t 5))⟩,
        ⟨(some 7), none, .q (.load false 1 (.t 6))⟩,
        ⟨(some 8), none, .q (.mov (.t 0))⟩,
        ⟨(some 9), none, .q (.nilchk (.t 8))⟩,
        ⟨(some 10), none, .q (.fad 0 (.t 9))⟩,
        ⟨(some 11), none, .q (.load false 1 (.t 10))⟩,
        ⟨(some 12), none, .q (.len false (.t 11))⟩,
        ⟨(some 13), none, .q (.bin false .lss (.t 7) (.t 12))⟩])
      (.cond (.t 13)
       (.dreg [⟨(some 14), none, .q (.mov (.t 0))⟩,
         ⟨(some 15), none, .q (.nilchk (.t 14))⟩,
         ⟨(some 16), none, .q (.fad 0 (.t 15))⟩,
         ⟨(some 17), none, .q (.load false 1 (.t 16))⟩,
         ⟨(some 18), none, .q (.mov (.t 0))⟩,
         ⟨(some 19), none, .q (.nilchk (.t 18))⟩,
         ⟨(some 20), none, .q (.fad 1 (.t 19))⟩,
         ⟨(some 21), none, .q (.load false 1 (.t 20))⟩,
         ⟨(some 22), none, .q (.iad 1 (.t 17) (.t 21))⟩,
         ⟨(some 23), none, .q (.load false 1 (.t 22))⟩,
         ⟨(some 24), none, .q (.conv .i64 (.t 23))⟩,
         ⟨(some 3), none, .q (.mov (.t 24))⟩])
       .skip))
     (.seq
      (.reg [⟨(some 25), none, .q (.mov (.t 0))⟩,
        ⟨(some 26), none, .q (.nilchk (.t 25))⟩,
        ⟨(some 27), none, .q (.fad 1 (.t 26))⟩,
        ⟨(some 28), none, .q (.load false 1 (.t 27))⟩,
        ⟨(some 29), none, .q (.bin false .add (.t 28) (.c (.int .i64 1)))⟩,
        ⟨(some 30), none, .q (.nilchk (.t 25))⟩,
        ⟨(some 31), none, .q (.fad 1 (.t 30))⟩,
        ⟨none, none, .a (.store 1 (.t 31) (.t 29))⟩])
      (.seq
       (.reg [⟨(some 32), none, .q (.mov (.t 0))⟩,
         ⟨(some 33), none, .q (.mov (.t 0))⟩,
         ⟨(some 34), none, .q (.nilchk (.t 33))⟩,
         ⟨(some 35), none, .q (.fad 2 (.t 34))⟩,
         ⟨(some 36), none, .q (.load false 1 (.t 35))⟩,
         ⟨(some 37), none, .q (.bin false .mul (.t 36) (.c (.int .u64 6364136223846793005)))⟩,
         ⟨(some 38), none, .q (.mov (.t 3))⟩,
         ⟨(some 39), none, .q (.conv .u64 (.t 38))⟩,
         ⟨(some 40), none, .q (.bin false .add (.t 37) (.t 39))⟩,
         ⟨(some 41), none, .q (.bin false .add (.t 40) (.c (.int .u64 1442695040888963407)))⟩,
         ⟨(some 42), none, .q (.nilchk (.t 32))⟩,
         ⟨(some 43), none, .q (.fad 2 (.t 42))⟩,
         ⟨none, none, .a (.store 1 (.t 43) (.t 41))⟩])
       (.seq
        (.seq
         (.dreg [⟨(some 44), none, .q (.mov (.t 0))⟩,
           ⟨(some 45), none, .q (.nilchk (.t 44))⟩,
           ⟨(some 46), none, .q (.fad 1 (.t 45))⟩,
           ⟨(some 47), none, .q (.load false 1 (.t 46))⟩,
           ⟨(some 48), none, .q (.mov (.t 0))⟩,
           ⟨(some 49), none, .q (.nilchk (.t 48))⟩,
           ⟨(some 50), none, .q (.fad 0 (.t 49))⟩,
           ⟨(some 51), none, .q (.load false 1 (.t 50))⟩,
           ⟨(some 52), none, .q (.len false (.t 51))⟩,
           ⟨(some 53), none, .q (.bin false .leq (.t 47) (.t 52))⟩])
         (.cond (.t 53)
          (.seq
           (.reg [⟨(some 54), none, .q (.mov (.t 3))⟩,
             ⟨(some 2), none, .a (.asg (.t 54))⟩])
           .ret)
          .skip))
        (.seq
         (.reg [⟨(some 55), none, .q (.mov (.t 0))⟩,
           ⟨(some 56), none, .q (.nilchk (.t 55))⟩,
           ⟨(some 57), none, .q (.fad 2 (.t 56))⟩,
           ⟨(some 58), none, .q (.load false 1 (.t 57))⟩,
           ⟨(some 59), none, .q (.bin false .shr (.t 58) (.c (.int .u64 40)))⟩,
           ⟨(some 60), none, .q (.bin false .and (.t 59) (.c (.int .u64 255)))⟩,
           ⟨(some 61), none, .q (.conv .i64 (.t 60))⟩,
           ⟨(some 2), none, .a (.asg (.t 61))⟩])
         .ret)))))))

set_option maxRecDepth 100000 in
theorem d144 (c : Cur) (n : Int) (hc : c.ok n) (hn : n ≤ 1152921504606846976) :
    DoesE Go.Proofs.Try.prog 144 [.box 115 c.z] false (fun r o => ∃ (v : Int) (c' : Cur), r = .v (.int .i64 v) ∧ o = [.box 115 c'.z] ∧ 0 ≤ v ∧ v ≤ 255 ∧ c'.ok (n + 1)) := by
  obtain ⟨h1, h2, h3, h4⟩ := hc
  refine doesE_intro (mc := m144) (N := 62) (rs := [2]) (fx := [0]) 1 rfl (by decide +kernel) ?_
  simp only [m144, EV, Nat.reduceEqDiff, Nat.reduceBEq, Nat.reduceLT, Nat.reduceLeDiff, Nat.reduceAdd, Nat.reduceSub, reduceIte]
  refine awp_join (fun v : Int => 0 ≤ v ∧ v ≤ 255) (fun v => stl [(0, .box 115 c.z), (3, .v (.int .i64 v))]) ?_ ?_
  · simp only [Cur.z, evN, EV, Nat.reduceEqDiff, Nat.reduceBEq, Nat.reduceLT, Nat.reduceLeDiff, Nat.reduceAdd, Nat.reduceSub, reduceIte]
    refine cK_cut (fun h => ?_) (fun h => ?_)
    · have g1 : c.pos.toNat < c.code.length := by have : c.pos < (c.code.length : Int) := by simpa using h
                                                  omega
      have g2 : c.pos < (c.code.length : Int) := by omega
      have gb := h2 _ (List.getElem_mem g1)
      have w := w64 c.code[c.pos.toNat] (by omega)
      simp only [h3, g2, nth_map g1, bv, w, evN, EV, Nat.reduceEqDiff, Nat.reduceBEq, Nat.reduceLT, Nat.reduceLeDiff, Nat.reduceAdd, Nat.reduceSub, reduceIte]
      exact ⟨_, gb, rfl⟩
    · simp only [evN, EV, Nat.reduceEqDiff, Nat.reduceBEq, Nat.reduceLT, Nat.reduceLeDiff, Nat.reduceAdd, Nat.reduceSub, reduceIte]
      exact ⟨0, by omega, rfl⟩
  · rintro v ⟨v0, v1⟩
    have w1 := w64 (c.pos + 1) (by omega)
    simp only [Cur.z, evN, evB2, w1, EV, Nat.reduceEqDiff, Nat.reduceBEq, Nat.reduceLT, Nat.reduceLeDiff, Nat.reduceAdd, Nat.reduceSub, reduceIte]
    refine cK_cut (fun h => ?_) (fun h => ?_)
    · simp only [evN, evB2, EV, Nat.reduceEqDiff, Nat.reduceBEq, Nat.reduceLT, Nat.reduceLeDiff, Nat.reduceAdd, Nat.reduceSub, reduceIte]
      simp only [EV, Nat.reduceEqDiff, Nat.reduceBEq, Nat.reduceLT, Nat.reduceLeDiff, Nat.reduceAdd, Nat.reduceSub, reduceIte, evRE, retVC, cellV', evR, nfz, nfzs, nfzss, List.contains_nil, List.contains_cons, Bool.or_false, or_true]
      exact ⟨v, ⟨c.code, c.pos + 1, _⟩, rfl, rfl, v0, v1, h1, h2, by simp only; omega, by simp only; omega⟩
    · simp only [evN, evB2, EV, Nat.reduceEqDiff, Nat.reduceBEq, Nat.reduceLT, Nat.reduceLeDiff, Nat.reduceAdd, Nat.reduceSub, reduceIte]
      refine ⟨by omega, ?_⟩
      have ab := andK_255 (shrK .u64 (IntKind.u64.wrap (IntKind.u64.wrap (IntKind.u64.wrap (c.seed * 6364136223846793005) + IntKind.u64.wrap v) + 1442695040888963407)) 40)
      rw [w64 _ (by omega)]
      simp only [EV, Nat.reduceEqDiff, Nat.reduceBEq, Nat.reduceLT, Nat.reduceLeDiff, Nat.reduceAdd, Nat.reduceSub, reduceIte, evRE, retVC, cellV', evR, nfz, nfzs, nfzss, List.contains_nil, List.contains_cons, Bool.or_false, or_true]
      exact ⟨_, ⟨c.code, c.pos + 1, _⟩, rfl, rfl, ab.1, ab.2, h1, h2, by simp only; omega, by simp only; omega⟩

/-- A call that draws a number: told by what it says of the number and of the rest. -/
def Draws (f : Nat) (args : List AV) (c : Cur) (n m : Int) (Q : AV → Prop) : Prop :=
  DoesE Go.Proofs.Try.prog f (.box 115 c.z :: args) false fun r o => ∃ c' : Cur, o = .box 115 c'.z :: args.map (fun _ => AV.dead) ∧ c'.ok (n + m) ∧ Q r

theorem Draws.call {f : Nat} {args : List AV} {c : Cur} {n m : Int} {Q : AV → Prop} (h : Draws f args c n m Q) {O : AV → List AV} (hO : ∀ out, O out = out :: args.map fun _ => AV.dead) {S : AV → AV → Prop}
    (k : ∀ (r : AV) (c' : Cur), c'.ok (n + m) → Q r → S (.box 115 c'.z) r) : callK2 Go.Proofs.Try.prog f (.box 115 c.z :: args) false O (.box 115 c.z) S := by
  refine callE2_i (T := fun r out => ∃ c' : Cur, out = .box 115 c'.z ∧ c'.ok (n + m) ∧ Q r) h ?_ ?_
  · rintro r o ⟨c', rfl, h1, h2⟩
    exact ⟨.box 115 c'.z, ⟨c', rfl, h1, h2⟩, (hO _).symm⟩
  · rintro r out ⟨c', rfl, h1, h2⟩
    exact ⟨rfl, rfl, k r c' h1 h2⟩

theorem p144 (c : Cur) (n : Int) (hc : c.ok n) (hn : n ≤ 1152921504606846976) : Draws 144 [] c n 1 fun r => ∃ v : Int, r = .v (.int .i64 v) ∧ 0 ≤ v ∧ v ≤ 255 := by
  have h := d144 c n hc hn
  refine ⟨h.1, fun w Fz xs os h1 h2 h3 h4 => (h.2 w Fz xs os h1 h2 h3 h4).mono ?_⟩
  rintro e w' ⟨res, outs, ⟨v, c', rfl, rfl, g1, g2, g3⟩, hh⟩
  exact ⟨_, _, ⟨c', rfl, g3, v, rfl, g1, g2⟩, hh⟩

/-- (*loop.example/g00837/spec.l1Cur).pick -/
def m106 : MC :=
  (.seq
   (.reg [⟨(some 4), none, .a (.asg (.c (.int .i64 0)))⟩])
   (.seq
    (.seq
     (.reg [⟨(some 6), none, .q (.mov (.t 1))⟩,
       ⟨(some 7), none, .q (.bin false .leq (.t 6) (.c (.int .i64 1)))⟩])
     (.cond (.t 7)
      (.seq
       (.reg [⟨(some 4), none, .a (.asg (.c (.int .i64 0)))⟩])
       .ret)
      .skip))
    (.seq
     (.reg [⟨(some 8), none, .q (.mov (.t 0))⟩,
       ⟨(some 9), none, .a (.call (.fn 144) false [.io (.t 8)])⟩,
       ⟨(some 5), none, .a (.asg (.t 9))⟩])
     (.join [0, 1, 5]
      (.seq
       (.reg [⟨(some 10), none, .q (.mov (.t 1))⟩,
         ⟨(some 11), none, .q (.bin false .gtr (.t 10) (.c (.int .i64 200)))⟩])
       (.cond (.t 11)
        (.reg [⟨(some 12), none, .q (.mov (.t 5))⟩,
          ⟨(some 13), none, .q (.bin false .mul (.t 12) (.c (.int .i64 256)))⟩,
          ⟨(some 14), none, .q (.mov (.t 0))⟩,
          ⟨(some 15), none, .a (.call (.fn 144) false [.io (.t 14)])⟩,
          ⟨(some 16), none, .q (.bin false .add (.t 13) (.t 15))⟩,
          ⟨(some 5), none, .a (.asg (.t 16))⟩])
        .skip))
      (.seq
       (.reg [⟨(some 17), none, .q (.mov (.t 5))⟩,
         ⟨(some 18), none, .q (.mov (.t 1))⟩,
         ⟨(some 19), none, .q (.bin false .rem (.t 17) (.t 18))⟩,
         ⟨(some 4), none, .a (.asg (.t 19))⟩])
       .ret)))))

set_option maxRecDepth 100000 in
theorem p106 (c : Cur) (n k : Int) (hc : c.ok n) (hn : n ≤ 1152921504606846) (hk : k ≤ 1048577) : Draws 106 [.v (.int .i64 k)] c n 2 fun r => ∃ v : Int, r = .v (.int .i64 v) ∧ 0 ≤ v ∧ (1 < k → v < k) ∧ (k ≤ 1 → v = 0) := by
  refine doesE_intro (mc := m106) (N := 20) (rs := [4]) (fx := [0]) 2 rfl (by decide +kernel) ?_
  simp only [m106, EV, Nat.reduceEqDiff, Nat.reduceBEq, Nat.reduceLT, Nat.reduceLeDiff, Nat.reduceAdd, Nat.reduceSub, reduceIte]
  refine cK_cut (fun h => ?_) (fun h => ?_)
  · have hk1 : k ≤ 1 := by simpa using h
    simp only [EV, Nat.reduceEqDiff, Nat.reduceBEq, Nat.reduceLT, Nat.reduceLeDiff, Nat.reduceAdd, Nat.reduceSub, reduceIte]
    simp only [EV, Nat.reduceEqDiff, Nat.reduceBEq, Nat.reduceLT, Nat.reduceLeDiff, Nat.reduceAdd, Nat.reduceSub, reduceIte, evRE, retVC, cellV', evR, nfz, nfzs, nfzss, List.contains_nil, List.contains_cons, Bool.or_false, or_true]
    exact ⟨c, rfl, hc.up (by omega), 0, rfl, Int.le_refl _, fun h => absurd h (by omega), fun _ => rfl⟩
  have hk1 : 1 < k := by have : ¬ k ≤ 1 := by simpa using h
                         omega
  clear h
  simp only [EV, Nat.reduceEqDiff, Nat.reduceBEq, Nat.reduceLT, Nat.reduceLeDiff, Nat.reduceAdd, Nat.reduceSub, reduceIte]
  refine (p144 c n hc (by omega)).call (fun _ => rfl) ?_
  rintro _ c1 hc1 ⟨v, rfl, v0, v1⟩
  simp only [EV, Nat.reduceEqDiff, Nat.reduceBEq, Nat.reduceLT, Nat.reduceLeDiff, Nat.reduceAdd, Nat.reduceSub, reduceIte]
  refine awp_join (fun p : Int × Cur => 0 ≤ p.1 ∧ p.1 ≤ 65535 ∧ p.2.ok (n + 2)) (fun p => stl [(0, .box 115 p.2.z), (1, .v (.int .i64 k)), (5, .v (.int .i64 p.1))]) ?_ ?_
  · simp only [EV, Nat.reduceEqDiff, Nat.reduceBEq, Nat.reduceLT, Nat.reduceLeDiff, Nat.reduceAdd, Nat.reduceSub, reduceIte]
    refine cK_cut (fun h => ?_) (fun h => ?_)
    · simp only [EV, Nat.reduceEqDiff, Nat.reduceBEq, Nat.reduceLT, Nat.reduceLeDiff, Nat.reduceAdd, Nat.reduceSub, reduceIte]
      refine (p144 c1 (n + 1) hc1 (by omega)).call (fun _ => rfl) ?_
      rintro _ c2 hc2 ⟨u, rfl, u0, u1⟩
      simp only [EV, Nat.reduceEqDiff, Nat.reduceBEq, Nat.reduceLT, Nat.reduceLeDiff, Nat.reduceAdd, Nat.reduceSub, reduceIte]
      rw [w64 (v * 256) (by omega), w64 _ (by omega)]
      exact ⟨(v * 256 + u, c2), ⟨by simp only; omega, by simp only; omega, hc2.up (by omega)⟩, rfl⟩
    · simp only [EV, Nat.reduceEqDiff, Nat.reduceBEq, Nat.reduceLT, Nat.reduceLeDiff, Nat.reduceAdd, Nat.reduceSub, reduceIte]
      exact ⟨(v, c1), ⟨v0, by simp only; omega, hc1.up (by omega)⟩, rfl⟩
  · rintro ⟨v, c'⟩ ⟨g0, g1, g2⟩
    simp only at g0 g1 g2
    have em : v.tmod k = v % k := Int.tmod_eq_emod_of_nonneg g0
    have e0 := Int.emod_nonneg v (show k ≠ 0 by omega)
    have e1 := Int.emod_lt_of_pos v (show 0 < k by omega)
    simp only [EV, Nat.reduceEqDiff, Nat.reduceBEq, Nat.reduceLT, Nat.reduceLeDiff, Nat.reduceAdd, Nat.reduceSub, reduceIte]
    refine ⟨by omega, ?_⟩
    simp only [EV, Nat.reduceEqDiff, Nat.reduceBEq, Nat.reduceLT, Nat.reduceLeDiff, Nat.reduceAdd, Nat.reduceSub, reduceIte, evRE, retVC, cellV', evR, nfz, nfzs, nfzss, List.contains_nil, List.contains_cons, Bool.or_false, or_true]
    exact ⟨c', rfl, g2, _, rfl, by omega, fun _ => by omega, fun h => by omega⟩

/-- (*loop.example/g00837/spec.l1Cur).one -/
def m96 : MC :=
  (.seq
   (.reg [⟨(some 4), none, .a (.asg (.c (.bool false)))⟩])
   (.seq
    (.reg [⟨(some 5), none, .q (.mov (.t 0))⟩,
      ⟨(some 6), none, .q (.mov (.t 1))⟩,
      ⟨(some 7), none, .a (.call (.fn 106) false [.io (.t 5), .lend (.t 6)])⟩,
      ⟨(some 8), none, .q (.bin false .eql (.t 7) (.c (.int .i64 0)))⟩,
      ⟨(some 4), none, .a (.asg (.t 8))⟩])
    .ret))

theorem p96 (c : Cur) (n k : Int) (hc : c.ok n) (hn : n ≤ 1152921504606846) (hk : k ≤ 1048577) : Draws 96 [.v (.int .i64 k)] c n 2 fun r => ∃ b : Bool, r = .v (.bool b) := by
  refine doesE_intro (mc := m96) (N := 9) (rs := [4]) (fx := [0]) 2 rfl (by decide +kernel) ?_
  simp only [m96, EV, Nat.reduceEqDiff, Nat.reduceBEq, Nat.reduceLT, Nat.reduceLeDiff, Nat.reduceAdd, Nat.reduceSub, reduceIte]
  refine (p106 c n k hc hn hk).call (fun _ => rfl) ?_
  rintro _ c' hc' ⟨v, rfl, _⟩
  simp only [EV, Nat.reduceEqDiff, Nat.reduceBEq, Nat.reduceLT, Nat.reduceLeDiff, Nat.reduceAdd, Nat.reduceSub, reduceIte]
  simp only [EV, Nat.reduceEqDiff, Nat.reduceBEq, Nat.reduceLT, Nat.reduceLeDiff, Nat.reduceAdd, Nat.reduceSub, reduceIte, evRE, retVC, cellV', evR, nfz, nfzs, nfzss, List.contains_nil, List.contains_cons, Bool.or_false, or_true]
  exact ⟨c', rfl, hc', _, rfl⟩

/-- (*loop.example/g00837/spec.l1Cur).of -/
def m97 : MC :=
  (.seq
   (.reg [⟨(some 4), none, .a (.asg (.c (.string ({ data := #[] }))))⟩])
   (.seq
    (.reg [⟨(some 5), none, .q (.mov (.t 1))⟩,
      ⟨(some 6), none, .q (.mov (.t 0))⟩,
      ⟨(some 7), none, .q (.mov (.t 1))⟩,
      ⟨(some 8), none, .q (.len false (.t 7))⟩,
      ⟨(some 9), none, .a (.call (.fn 106) false [.io (.t 6), .lend (.t 8)])⟩,
      ⟨(some 10), none, .q (.iad 1 (.t 5) (.t 9))⟩,
      ⟨(some 11), none, .q (.load false 1 (.t 10))⟩,
      ⟨(some 4), none, .a (.asg (.t 11))⟩])
    .ret))

theorem p97 (c : Cur) (n : Int) (l : List ByteArray) (hc : c.ok n) (hn : n ≤ 1152921504606846) (h0 : 0 < l.length) (hk : (l.length : Int) ≤ 1048577) :
    Draws 97 [.fsl 1 (l.map fun s => [.v (.string s)])] c n 2 fun r => ∃ s ∈ l, r = .v (.string s) := by
  refine doesE_intro (mc := m97) (N := 12) (rs := [4]) (fx := [0]) 2 rfl (by decide +kernel) ?_
  simp only [m97, EV, Nat.reduceEqDiff, Nat.reduceBEq, Nat.reduceLT, Nat.reduceLeDiff, Nat.reduceAdd, Nat.reduceSub, reduceIte]
  refine (p106 c n l.length hc hn hk).call (fun _ => rfl) ?_
  rintro _ c' hc' ⟨v, rfl, v0, v1, v2⟩
  have hv : v < (l.length : Int) := by
    by_cases h : 1 < (l.length : Int)
    · exact v1 h
    · have := v2 (by omega); omega
  have hn' : v.toNat < l.length := by omega
  simp only [v0, hv, nth_map hn', EV, Nat.reduceEqDiff, Nat.reduceBEq, Nat.reduceLT, Nat.reduceLeDiff, Nat.reduceAdd, Nat.reduceSub, reduceIte]
  simp only [EV, Nat.reduceEqDiff, Nat.reduceBEq, Nat.reduceLT, Nat.reduceLeDiff, Nat.reduceAdd, Nat.reduceSub, reduceIte, evRE, retVC, cellV', evR, nfz, nfzs, nfzss, List.contains_nil, List.contains_cons, Bool.or_false, or_true]
  exact ⟨c', rfl, hc', _, List.getElem_mem hn', rfl⟩

/-- loop.example/g00837/spec.l1Most -/
def m107 : MC :=
  (.seq
   (.reg [⟨(some 4), none, .a (.asg (.c (.int .i64 0)))⟩])
   (.seq
    (.seq
     (.reg [⟨(some 5), none, .q (.mov (.t 0))⟩,
       ⟨(some 6), none, .q (.mov (.t 1))⟩,
       ⟨(some 7), none, .q (.bin false .gtr (.t 5) (.t 6))⟩])
     (.cond (.t 7)
      (.seq
       (.reg [⟨(some 8), none, .q (.mov (.t 0))⟩,
         ⟨(some 4), none, .a (.asg (.t 8))⟩])
       .ret)
      .skip))
    (.seq
     (.reg [⟨(some 9), none, .q (.mov (.t 1))⟩,
       ⟨(some 4), none, .a (.asg (.t 9))⟩])
     .ret)))

theorem d107 (a b : Int) : Does Go.Proofs.Try.prog 107 [.v (.int .i64 a), .v (.int .i64 b)] false (.v (.int .i64 (max a b))) [.dead, .dead] := by
  refine does_intro (mc := m107) (N := 10) (rs := [4]) (fx := []) 2 rfl (by decide +kernel) ?_
  simp only [m107, EV, Nat.reduceEqDiff, Nat.reduceBEq, Nat.reduceLT, Nat.reduceLeDiff, Nat.reduceAdd, Nat.reduceSub, reduceIte]
  refine cK_cut (fun h => ?_) (fun h => ?_)
  · have e : max a b = a := by have : b < a := by simpa using h
                               omega
    simp only [EV, Nat.reduceEqDiff, Nat.reduceBEq, Nat.reduceLT, Nat.reduceLeDiff, Nat.reduceAdd, Nat.reduceSub, reduceIte]
    simp only [e, EV, Nat.reduceEqDiff, Nat.reduceBEq, Nat.reduceLT, Nat.reduceLeDiff, Nat.reduceAdd, Nat.reduceSub, reduceIte, evRE, retVC, cellV', evR, nfz, nfzs, nfzss, List.contains_nil, List.contains_cons, Bool.or_false, or_true]
  · have e : max a b = b := by have : ¬ b < a := by simpa using h
                               omega
    simp only [EV, Nat.reduceEqDiff, Nat.reduceBEq, Nat.reduceLT, Nat.reduceLeDiff, Nat.reduceAdd, Nat.reduceSub, reduceIte]
    simp only [e, EV, Nat.reduceEqDiff, Nat.reduceBEq, Nat.reduceLT, Nat.reduceLeDiff, Nat.reduceAdd, Nat.reduceSub, reduceIte, evRE, retVC, cellV', evR, nfz, nfzs, nfzss, List.contains_nil, List.contains_cons, Bool.or_false, or_true]

end Go.AM
namespace Go.AM
set_option linter.unusedVariables false
set_option linter.unusedSimpArgs false
/-- loop.example/g00837/spec.l1Num -/
def m172 : MC :=
  (.seq
   (.reg [⟨(some 2), none, .a (.asg (.c (.string ({ data := #[] }))))⟩])
   (.seq
    (.seq
     (.reg [⟨(some 3), none, .q (.mov (.t 0))⟩,
       ⟨(some 4), none, .q (.bin false .lss (.t 3) (.c (.int .i64 10)))⟩])
     (.cond (.t 4)
      (.seq
       (.reg [⟨(some 5), none, .q (.mov (.t 0))⟩,
         ⟨(some 6), none, .q (.bin false .add (.c (.int .i64 48)) (.t 5))⟩,
         ⟨(some 7), none, .q (.conv .u8 (.t 6))⟩,
         ⟨(some 8), none, .a (.bsl 5 1 [.t 7])⟩,
         ⟨(some 9), none, .q (.b2s (.t 8))⟩,
         ⟨(some 2), none, .a (.asg (.t 9))⟩])
       .ret)
      .skip))
    (.seq
     (.mixt [] [0, 2] [] [] []
       []
       (.step 0 ⟨(some 10), none, .q (.mov (.t 0))⟩
       (.step 1 ⟨(some 11), none, .q (.bin false .quo (.t 10) (.c (.int .i64 10)))⟩
        (.step 3 ⟨(some 13), none, .q (.mov (.t 0))⟩
         (.step 4 ⟨(some 14), none, .q (.bin false .rem (.t 13) (.c (.int .i64 10)))⟩
          (.step 5 ⟨(some 15), none, .q (.bin false .add (.c (.int .i64 48)) (.t 14))⟩
           (.alt (.step 2 ⟨(some 12), none, .a (.call (.fn 172) false [.lend (.t 11)])⟩
            (.step 6 ⟨(some 16), none, .q (.conv .u8 (.t 15))⟩
             (.step 7 ⟨(some 17), none, .a (.bsl 5 1 [.t 16])⟩
              (.step 8 ⟨(some 18), none, .q (.b2s (.t 17))⟩
               (.step 9 ⟨(some 19), none, .q (.bin false .add (.t 12) (.t 18))⟩
                (.step 10 ⟨(some 2), none, .a (.asg (.t 19))⟩
                 .nil))))))
            (.step 6 ⟨(some 16), none, .q (.conv .u8 (.t 15))⟩
            (.alt (.step 2 ⟨(some 12), none, .a (.call (.fn 172) false [.lend (.t 11)])⟩
             (.step 7 ⟨(some 17), none, .a (.bsl 5 1 [.t 16])⟩
              (.step 8 ⟨(some 18), none, .q (.b2s (.t 17))⟩
               (.step 9 ⟨(some 19), none, .q (.bin false .add (.t 12) (.t 18))⟩
                (.step 10 ⟨(some 2), none, .a (.asg (.t 19))⟩
                 .nil)))))
             (.step 7 ⟨(some 17), none, .a (.bsl 5 1 [.t 16])⟩
             (.alt (.step 2 ⟨(some 12), none, .a (.call (.fn 172) false [.lend (.t 11)])⟩
              (.step 8 ⟨(some 18), none, .q (.b2s (.t 17))⟩
               (.step 9 ⟨(some 19), none, .q (.bin false .add (.t 12) (.t 18))⟩
                (.step 10 ⟨(some 2), none, .a (.asg (.t 19))⟩
                 .nil))))
              (.step 8 ⟨(some 18), none, .q (.b2s (.t 17))⟩
              (.step 2 ⟨(some 12), none, .a (.call (.fn 172) false [.lend (.t 11)])⟩
               (.step 9 ⟨(some 19), none, .q (.bin false .add (.t 12) (.t 18))⟩
                (.step 10 ⟨(some 2), none, .a (.asg (.t 19))⟩
                 .nil)))))))))))))))
     .ret)))

set_option maxHeartbeats 1000000 in
set_option maxRecDepth 100000 in
theorem d172 : ∀ (f : Nat) (n : Int), 0 ≤ n → n < f → n ≤ 1000000 → DoesE Go.Proofs.Try.prog 172 [.v (.int .i64 n)] false fun r o => ∃ s : ByteArray, r = .v (.string s) ∧ (s.size : Int) ≤ n + 1 ∧ o = [.dead]
  | 0, n, h0, h1, _ => by omega
  | f + 1, n, h0, h1, h2 => by
    refine doesE_intro (mc := m172) (N := 20) (rs := [2]) (fx := []) 1 rfl (by decide +kernel) ?_
    simp only [m172, EV, Nat.reduceEqDiff, Nat.reduceBEq, Nat.reduceLT, Nat.reduceLeDiff, Nat.reduceAdd, Nat.reduceSub, reduceIte]
    refine cK_cut (fun h => ?_) (fun h => ?_)
    · have h3 : n < 10 := by simpa using h
      simp only [EV, Nat.reduceEqDiff, Nat.reduceBEq, Nat.reduceLT, Nat.reduceLeDiff, Nat.reduceAdd, Nat.reduceSub, reduceIte]
      simp only [EV, Nat.reduceEqDiff, Nat.reduceBEq, Nat.reduceLT, Nat.reduceLeDiff, Nat.reduceAdd, Nat.reduceSub, reduceIte, evRE, retVC, cellV', evR, nfz, nfzs, nfzss, List.contains_nil, List.contains_cons, Bool.or_false, or_true]
      have h9 : (strA [IntKind.u8.wrap (IntKind.i64.wrap (48 + n))]).size = 1 := rfl
      exact ⟨_, rfl, by rw [h9]; omega⟩
    · have h3 : ¬ n < 10 := by simpa using h
      have ed : n.tdiv 10 = n / 10 := Int.tdiv_eq_ediv_of_nonneg (by omega)
      have ih := d172 f (n / 10) (by omega) (by omega) (by omega)
      have h9 : ∀ x : Int, (strA [x]).size = 1 := fun _ => rfl
      have fin : ∀ {K : AV → Prop}, (∀ s : ByteArray, (s.size : Int) ≤ n / 10 + 1 → K (.v (.string s))) → callK Go.Proofs.Try.prog 172 [.v (.int .i64 (n / 10))] false [.dead] K := fun hk =>
        callE_i (S := fun r => ∃ s : ByteArray, r = .v (.string s) ∧ (s.size : Int) ≤ n / 10 + 1) ih (by rintro r o ⟨s, g1, g2, g3⟩; exact ⟨⟨s, g1, g2⟩, g3⟩) (by rintro r ⟨s, rfl, g2⟩; exact hk s g2)
      simp only [ed, w64 (n / 10) (by omega), EV, Nat.reduceEqDiff, Nat.reduceBEq, Nat.reduceLT, Nat.reduceLeDiff, Nat.reduceAdd, Nat.reduceSub, reduceIte]
      refine ⟨by omega, by omega, ?_, ?_, ?_, ?_⟩
      all_goals refine fin fun s hs => ?_
      all_goals simp only [EV, Nat.reduceEqDiff, Nat.reduceBEq, Nat.reduceLT, Nat.reduceLeDiff, Nat.reduceAdd, Nat.reduceSub, reduceIte]
      all_goals refine ⟨by rw [h9]; omega, ?_⟩
      all_goals simp only [EV, Nat.reduceEqDiff, Nat.reduceBEq, Nat.reduceLT, Nat.reduceLeDiff, Nat.reduceAdd, Nat.reduceSub, reduceIte, evRE, retVC, cellV', evR, nfz, nfzs, nfzss, List.contains_nil, List.contains_cons, Bool.or_false, or_true]
      all_goals exact ⟨_, rfl, by rw [ByteArray.size_append, h9]; omega⟩

theorem base_len3 : baseTs.length = 3 := rfl

theorem n172 {n : Int} (h0 : 0 ≤ n) (h1 : n ≤ 1000000) {K : AV → Prop} (k : ∀ s : ByteArray, (s.size : Int) ≤ n + 1 → K (.v (.string s))) : callK Go.Proofs.Try.prog 172 [.v (.int .i64 n)] false [.dead] K :=
  callE_i (S := fun r => ∃ s : ByteArray, r = .v (.string s) ∧ (s.size : Int) ≤ n + 1) (d172 (n.toNat + 1) n h0 (by omega) h1) (by rintro r o ⟨s, g1, g2, g3⟩; exact ⟨⟨s, g1, g2⟩, g3⟩) (by rintro r ⟨s, rfl, g2⟩; exact k s g2)

end Go.AM
namespace Go.AM
set_option linter.unusedVariables false
set_option linter.unusedSimpArgs false
/-- What is drawn: small, and a pointer leads to a type. -/
structure TyD (n : Int) (t : Ty) : Prop where
  few : t.fields.length ≤ 3
  names : ∀ f ∈ t.fields, (f.name.size : Int) ≤ 40
  owner : (t.owner.size : Int) ≤ 40
  name : (t.name.size : Int) ≤ 40
  ptr : t.kind = 6 → 0 ≤ t.base ∧ t.base < n

theorem TyD.sm {n : Int} {t : Ty} (h : TyD n t) : t.sm := by
  have := h.few; have h2 := h.owner; have h3 := h.name
  exact ⟨trivial, trivial, trivial, ⟨by omega, fun f hf => ⟨by have := h.names f hf; omega, trivial, trivial⟩⟩, by omega, by omega⟩

theorem base_tyD (n : Int) : ∀ t ∈ baseTs, TyD n t := by
  intro t ht
  simp only [baseTs, List.mem_cons, List.not_mem_nil, or_false] at ht
  rcases ht with rfl | rfl | rfl <;> exact ⟨by simp, by simp, by decide, by decide, fun h => absurd h (by decide)⟩

theorem TyD.put {n : Int} {t : Ty} (h : TyD n t) {o m : ByteArray} (h1 : (o.size : Int) ≤ 40) (h2 : (m.size : Int) ≤ 40) : TyD n { t with owner := o, name := m } := ⟨h.few, h.names, h1, h2, h.ptr⟩

/-- (*loop.example/g00837/spec.l1Cur).types -/
def m140 : MC :=
  (.seq
   (.reg [⟨(some 2), none, .a (.asg (.nils 59 6))⟩])
   (.seq
    (.reg [⟨(some 10), none, .a (.call (.fn 171) false [])⟩,
      ⟨(some 3), none, .a (.asg (.t 10))⟩])
    (.seq
     (.reg [⟨(some 11), none, .q (.mov (.t 0))⟩,
       ⟨(some 12), none, .a (.call (.fn 106) false [.io (.t 11), .lend (.c (.int .i64 7))])⟩,
       ⟨(some 13), none, .q (.bin false .add (.c (.int .i64 3)) (.t 12))⟩,
       ⟨(some 4), none, .a (.asg (.t 13))⟩])
     (.seq
      (.block 0
       (.loop [0, 3, 4, 10, 90]
        (.seq
         (.seq
          (.reg [⟨(some 14), none, .q (.mov (.t 3))⟩,
            ⟨(some 15), none, .q (.len false (.t 14))⟩,
            ⟨(some 16), none, .q (.mov (.t 4))⟩,
            ⟨(some 17), none, .q (.bin false .lss (.t 15) (.t 16))⟩])
          (.cond (.t 17)
           .skip
           (.exit 0)))
         (.block 1
          (.seq
           (.reg [⟨(some 18), none, .q (.mov (.t 0))⟩,
             ⟨(some 19), none, .a (.call (.fn 106) false [.io (.t 18), .lend (.c (.int .i64 3))])⟩,
             ⟨(some 20), none, .q (.bin false .add (.c (.int .i64 4)) (.t 19))⟩,
             ⟨(some 21), none, .a (.build [0, 2] [0, 2] [1, 1] [.v (.int .i64 0), .v (.int .i64 0), .v (.int .i64 0), .s 57 3, .v (.string ({ data := #[] })), .v (.string ({ data := #[] }))] [.t 20, .c (.int .i64 (-1))])⟩,
             ⟨(some 5), none, .a (.alloc 59 [.v (.int .i64 0), .v (.int .i64 0), .v (.int .i64 0), .s 57 3, .v (.string ({ data := #[] })), .v (.string ({ data := #[] }))])⟩,
             ⟨none, none, .a (.store 6 (.t 5) (.t 21))⟩])
           (.join [0, 3, 4, 5, 10, 90]
            (.seq
             (.reg [⟨(some 22), none, .q (.mov (.t 0))⟩,
               ⟨(some 23), none, .a (.call (.fn 96) false [.io (.t 22), .lend (.c (.int .i64 2))])⟩])
             (.cond (.t 23)
              (.seq
               (.reg [⟨(some 24), none, .q (.mov (.t 0))⟩,
                 ⟨(some 25), none, .a (.bsl 9 1 [.c (.string ({ data := #[65] })), .c (.string ({ data := #[66] }))])⟩,
                 ⟨(some 26), none, .a (.call (.fn 97) false [.io (.t 24), .give (.t 25)])⟩,
                 ⟨(some 27), none, .q (.fad 4 (.t 5))⟩,
                 ⟨none, none, .a (.store 1 (.t 27) (.t 26))⟩])
               (.reg [⟨(some 28), none, .q (.mov (.t 3))⟩,
                 ⟨(some 29), none, .q (.len false (.t 28))⟩,
                 ⟨(some 30), none, .a (.call (.fn 172) false [.lend (.t 29)])⟩,
                 ⟨(some 31), none, .q (.bin false .add (.c (.string ({ data := #[84] }))) (.t 30))⟩,
                 ⟨(some 32), none, .q (.fad 5 (.t 5))⟩,
                 ⟨none, none, .a (.store 1 (.t 32) (.t 31))⟩]))
              .skip))
            (.join [0, 3, 4, 5, 10, 90]
             (.seq
              (.reg [⟨(some 33), none, .q (.fad 0 (.t 5))⟩,
                ⟨(some 34), none, .q (.load false 1 (.t 33))⟩])
              (.block 2
               (.seq
                (.reg [⟨(some 42), none, .q (.bin false .eql (.t 34) (.c (.int .i64 4)))⟩,
                  ⟨(some 41), none, .a (.asg (.t 42))⟩])
                (.cond (.t 41)
                 (.seq
                  (.reg [⟨(some 43), none, .q (.mov (.t 0))⟩,
                    ⟨(some 44), none, .a (.call (.fn 106) false [.io (.t 43), .lend (.c (.int .i64 5))])⟩,
                    ⟨(some 45), none, .q (.bin false .add (.c (.int .i64 1)) (.t 44))⟩,
                    ⟨(some 46), none, .q (.fad 1 (.t 5))⟩,
                    ⟨none, none, .a (.store 1 (.t 46) (.t 45))⟩])
                  (.reg [⟨(some 47), none, .q (.mov (.t 0))⟩,
                    ⟨(some 48), none, .q (.mov (.t 3))⟩,
                    ⟨(some 49), none, .q (.len false (.t 48))⟩,
                    ⟨(some 50), none, .a (.call (.fn 106) false [.io (.t 47), .lend (.t 49)])⟩,
                    ⟨(some 51), none, .q (.fad 2 (.t 5))⟩,
                    ⟨none, none, .a (.store 1 (.t 51) (.t 50))⟩]))
                 (.seq
                  (.reg [⟨(some 53), none, .q (.bin false .eql (.t 34) (.c (.int .i64 5)))⟩,
                    ⟨(some 52), none, .a (.asg (.t 53))⟩])
                  (.cond (.t 52)
                   (.join [0, 3, 4, 5, 10, 90]
                    (.seq
                     (.reg [⟨(some 54), none, .q (.mov (.t 0))⟩,
                       ⟨(some 55), none, .q (.mov (.t 3))⟩,
                       ⟨(some 56), none, .q (.len false (.t 55))⟩,
                       ⟨(some 57), none, .a (.call (.fn 106) false [.io (.t 54), .lend (.t 56)])⟩,
                       ⟨(some 6), none, .a (.asg (.t 57))⟩])
                     (.seq
                      (.reg [⟨(some 58), none, .q (.mov (.t 3))⟩,
                        ⟨(some 59), none, .q (.mov (.t 6))⟩,
                        ⟨(some 60), none, .q (.iad 6 (.t 58) (.t 59))⟩,
                        ⟨(some 61), none, .q (.fad 0 (.t 60))⟩,
                        ⟨(some 62), none, .q (.load false 1 (.t 61))⟩,
                        ⟨(some 63), none, .q (.bin false .eql (.t 62) (.c (.int .i64 5)))⟩])
                      (.cond (.t 63)
                       (.reg [⟨(some 64), none, .q (.mov (.t 6))⟩,
                         ⟨(some 65), none, .q (.fad 2 (.t 5))⟩,
                         ⟨none, none, .a (.store 1 (.t 65) (.t 64))⟩])
                       .skip)))
                    (.seq
                     (.reg [⟨(some 66), none, .q (.mov (.t 0))⟩,
                       ⟨(some 67), none, .a (.call (.fn 106) false [.io (.t 66), .lend (.c (.int .i64 4))])⟩,
                       ⟨(some 7), none, .a (.asg (.t 67))⟩])
                     (.block 3
                      (.loop [0, 3, 4, 5, 7, 10, 90]
                       (.seq
                        (.seq
                         (.reg [⟨(some 68), none, .q (.mov (.t 7))⟩,
                           ⟨(some 69), none, .q (.bin false .gtr (.t 68) (.c (.int .i64 0)))⟩])
                         (.cond (.t 69)
                          .skip
                          (.exit 3)))
                        (.seq
                         (.block 4
                          (.mixt [] [0, 3, 4, 5, 7, 10, 90] [] [] []
                            []
                            (.step 0 ⟨(some 72), none, .q (.fad 3 (.t 5))⟩
                            (.step 2 ⟨(some 74), none, .q (.mov (.t 7))⟩
                             (.step 5 ⟨(some 77), none, .q (.mov (.t 0))⟩
                              (.step 7 ⟨(some 79), none, .q (.mov (.t 0))⟩
                               (.step 8 ⟨(some 80), none, .q (.mov (.t 3))⟩
                                (.step 9 ⟨(some 81), none, .q (.len false (.t 80))⟩
                                 (.alt (.step 1 ⟨(some 73), none, .q (.load false 1 (.t 72))⟩
                                  (.step 3 ⟨(some 75), none, .a (.call (.fn 172) false [.lend (.t 74)])⟩
                                   (.step 4 ⟨(some 76), none, .q (.bin false .add (.c (.string ({ data := #[102] }))) (.t 75))⟩
                                    (.step 6 ⟨(some 78), none, .a (.call (.fn 106) false [.io (.t 77), .lend (.c (.int .i64 3))])⟩
                                     (.step 10 ⟨(some 82), none, .a (.call (.fn 106) false [.io (.t 79), .lend (.t 81)])⟩
                                      (.step 11 ⟨(some 83), none, .a (.build [0, 1, 2] [0, 1, 2] [1, 1, 1] [.v (.string ({ data := #[] })), .v (.int .i64 0), .v (.int .i64 0)] [.t 76, .t 78, .t 82])⟩
                                       (.step 12 ⟨(some 84), none, .a (.bsl 57 3 [.t 83])⟩
                                        (.step 13 ⟨(some 85), none, .a (.app true 57 3 32 (.t 73) (.t 84))⟩
                                         (.step 14 ⟨(some 86), none, .q (.fad 3 (.t 5))⟩
                                          (.step 15 ⟨none, none, .a (.store 1 (.t 86) (.t 85))⟩
                                           .nil))))))))))
                                  (.step 3 ⟨(some 75), none, .a (.call (.fn 172) false [.lend (.t 74)])⟩
                                  (.step 4 ⟨(some 76), none, .q (.bin false .add (.c (.string ({ data := #[102] }))) (.t 75))⟩
                                   (.alt (.step 1 ⟨(some 73), none, .q (.load false 1 (.t 72))⟩
                                    (.step 6 ⟨(some 78), none, .a (.call (.fn 106) false [.io (.t 77), .lend (.c (.int .i64 3))])⟩
                                     (.step 10 ⟨(some 82), none, .a (.call (.fn 106) false [.io (.t 79), .lend (.t 81)])⟩
                                      (.step 11 ⟨(some 83), none, .a (.build [0, 1, 2] [0, 1, 2] [1, 1, 1] [.v (.string ({ data := #[] })), .v (.int .i64 0), .v (.int .i64 0)] [.t 76, .t 78, .t 82])⟩
                                       (.step 12 ⟨(some 84), none, .a (.bsl 57 3 [.t 83])⟩
                                        (.step 13 ⟨(some 85), none, .a (.app true 57 3 32 (.t 73) (.t 84))⟩
                                         (.step 14 ⟨(some 86), none, .q (.fad 3 (.t 5))⟩
                                          (.step 15 ⟨none, none, .a (.store 1 (.t 86) (.t 85))⟩
                                           .nil))))))))
                                    (.step 6 ⟨(some 78), none, .a (.call (.fn 106) false [.io (.t 77), .lend (.c (.int .i64 3))])⟩
                                    (.alt (.step 1 ⟨(some 73), none, .q (.load false 1 (.t 72))⟩
                                     (.step 10 ⟨(some 82), none, .a (.call (.fn 106) false [.io (.t 79), .lend (.t 81)])⟩
                                      (.step 11 ⟨(some 83), none, .a (.build [0, 1, 2] [0, 1, 2] [1, 1, 1] [.v (.string ({ data := #[] })), .v (.int .i64 0), .v (.int .i64 0)] [.t 76, .t 78, .t 82])⟩
                                       (.step 12 ⟨(some 84), none, .a (.bsl 57 3 [.t 83])⟩
                                        (.step 13 ⟨(some 85), none, .a (.app true 57 3 32 (.t 73) (.t 84))⟩
                                         (.step 14 ⟨(some 86), none, .q (.fad 3 (.t 5))⟩
                                          (.step 15 ⟨none, none, .a (.store 1 (.t 86) (.t 85))⟩
                                           .nil)))))))
                                     (.step 10 ⟨(some 82), none, .a (.call (.fn 106) false [.io (.t 79), .lend (.t 81)])⟩
                                     (.alt (.step 1 ⟨(some 73), none, .q (.load false 1 (.t 72))⟩
                                      (.step 11 ⟨(some 83), none, .a (.build [0, 1, 2] [0, 1, 2] [1, 1, 1] [.v (.string ({ data := #[] })), .v (.int .i64 0), .v (.int .i64 0)] [.t 76, .t 78, .t 82])⟩
                                       (.step 12 ⟨(some 84), none, .a (.bsl 57 3 [.t 83])⟩
                                        (.step 13 ⟨(some 85), none, .a (.app true 57 3 32 (.t 73) (.t 84))⟩
                                         (.step 14 ⟨(some 86), none, .q (.fad 3 (.t 5))⟩
                                          (.step 15 ⟨none, none, .a (.store 1 (.t 86) (.t 85))⟩
                                           .nil))))))
                                      (.step 11 ⟨(some 83), none, .a (.build [0, 1, 2] [0, 1, 2] [1, 1, 1] [.v (.string ({ data := #[] })), .v (.int .i64 0), .v (.int .i64 0)] [.t 76, .t 78, .t 82])⟩
                                      (.alt (.step 1 ⟨(some 73), none, .q (.load false 1 (.t 72))⟩
                                       (.step 12 ⟨(some 84), none, .a (.bsl 57 3 [.t 83])⟩
                                        (.step 13 ⟨(some 85), none, .a (.app true 57 3 32 (.t 73) (.t 84))⟩
                                         (.step 14 ⟨(some 86), none, .q (.fad 3 (.t 5))⟩
                                          (.step 15 ⟨none, none, .a (.store 1 (.t 86) (.t 85))⟩
                                           .nil)))))
                                       (.step 12 ⟨(some 84), none, .a (.bsl 57 3 [.t 83])⟩
                                       (.step 1 ⟨(some 73), none, .q (.load false 1 (.t 72))⟩
                                        (.step 13 ⟨(some 85), none, .a (.app true 57 3 32 (.t 73) (.t 84))⟩
                                         (.step 14 ⟨(some 86), none, .q (.fad 3 (.t 5))⟩
                                          (.step 15 ⟨none, none, .a (.store 1 (.t 86) (.t 85))⟩
                                           .nil)))))))))))))))))))))))
                         (.reg [⟨(some 70), none, .q (.mov (.t 7))⟩,
                           ⟨(some 71), none, .q (.bin false .sub (.t 70) (.c (.int .i64 1)))⟩,
                           ⟨(some 7), none, .a (.asg (.t 71))⟩])))))))
                   (.reg [⟨(some 35), none, .q (.mov (.t 0))⟩,
                     ⟨(some 36), none, .q (.mov (.t 4))⟩,
                     ⟨(some 37), none, .q (.bin false .sub (.t 36) (.c (.int .i64 3)))⟩,
                     ⟨(some 38), none, .a (.call (.fn 106) false [.io (.t 35), .lend (.t 37)])⟩,
                     ⟨(some 39), none, .q (.bin false .add (.c (.int .i64 3)) (.t 38))⟩,
                     ⟨(some 40), none, .q (.fad 2 (.t 5))⟩,
                     ⟨none, none, .a (.store 1 (.t 40) (.t 39))⟩])))))))
             (.reg [⟨(some 87), none, .q (.mov (.t 3))⟩,
               ⟨(some 88), none, .q (.load true 6 (.t 5))⟩,
               ⟨(some 89), none, .a (.bsl 59 6 [.t 88])⟩,
               ⟨(some 90), none, .a (.app true 59 6 80 (.t 87) (.t 89))⟩,
               ⟨(some 3), none, .a (.asg (.t 90))⟩]))))))))
      (.seq
       (.seq
        (.reg [⟨(some 91), none, .q (.mov (.t 3))⟩,
          ⟨(some 92), none, .q (.len false (.t 91))⟩,
          ⟨(some 93), none, .q (.mov (.c (.int .i64 0)))⟩])
        (.block 5
         (.loop [0, 3, 10, 90, 91, 92, 93]
          (.seq
           (.reg [⟨(some 94), none, .q (.bin false .lss (.t 93) (.t 92))⟩])
           (.seq
            (.cond (.t 94)
             .skip
             (.exit 5))
            (.join [0, 3, 10, 90, 91, 92, 93]
             (.block 6
              (.seq
               (.reg [⟨(some 95), none, .q (.mov (.t 93))⟩,
                 ⟨(some 96), none, .q (.iad 6 (.t 91) (.t 93))⟩,
                 ⟨(some 97), none, .q (.load true 6 (.t 96))⟩,
                 ⟨(some 9), none, .a (.alloc 59 [.v (.int .i64 0), .v (.int .i64 0), .v (.int .i64 0), .s 57 3, .v (.string ({ data := #[] })), .v (.string ({ data := #[] }))])⟩,
                 ⟨(some 8), none, .a (.asg (.t 95))⟩,
                 ⟨none, none, .a (.storek 6 (.t 9) (.t 97))⟩])
               (.seq
                (.reg [⟨(some 98), none, .q (.fad 0 (.t 9))⟩,
                  ⟨(some 99), none, .q (.load false 1 (.t 98))⟩,
                  ⟨(some 100), none, .q (.bin false .eql (.t 99) (.c (.int .i64 6)))⟩,
                  ⟨(some 101), none, .q (.mov (.t 100))⟩,
                  ⟨(some 102), (some (101, true)), .q (.mov (.t 3))⟩,
                  ⟨(some 103), (some (101, true)), .q (.fad 2 (.t 9))⟩,
                  ⟨(some 104), (some (101, true)), .q (.load false 1 (.t 103))⟩,
                  ⟨(some 105), (some (101, true)), .q (.iad 6 (.t 102) (.t 104))⟩,
                  ⟨(some 106), (some (101, true)), .q (.fad 0 (.t 105))⟩,
                  ⟨(some 107), (some (101, true)), .q (.load false 1 (.t 106))⟩,
                  ⟨(some 108), (some (101, true)), .q (.bin false .eql (.t 107) (.c (.int .i64 6)))⟩,
                  ⟨(some 109), none, .q (.pick (.t 101) (.t 108) (.c (.bool false)))⟩])
                (.cond (.t 109)
                 (.seq
                  (.reg [⟨(some 110), none, .q (.mov (.t 3))⟩,
                    ⟨(some 111), none, .q (.mov (.t 8))⟩,
                    ⟨(some 112), none, .q (.iad 6 (.t 110) (.t 111))⟩,
                    ⟨(some 113), none, .q (.fad 0 (.t 112))⟩,
                    ⟨none, none, .a (.store 1 (.t 113) (.c (.int .i64 5)))⟩])
                  (.reg [⟨(some 114), none, .q (.mov (.t 3))⟩,
                    ⟨(some 115), none, .q (.mov (.t 8))⟩,
                    ⟨(some 116), none, .q (.iad 6 (.t 114) (.t 115))⟩,
                    ⟨(some 117), none, .q (.fad 2 (.t 116))⟩,
                    ⟨none, none, .a (.store 1 (.t 117) (.c (.int .i64 (-1))))⟩]))
                 .skip))))
             (.reg [⟨(some 118), none, .q (.bin false .add (.t 93) (.c (.int .i64 1)))⟩,
               ⟨(some 93), none, .q (.mov (.t 118))⟩])))))))
       (.seq
        (.reg [⟨(some 119), none, .q (.mov (.t 3))⟩,
          ⟨(some 2), none, .a (.asg (.t 119))⟩])
        .ret))))))

set_option maxHeartbeats 4000000 in
set_option maxRecDepth 100000 in
theorem p140 (c : Cur) (n : Int) (hc : c.ok n) (hn : n ≤ 115292150460) : Draws 140 [] c n 600 fun r => ∃ l : List Ty, r = .usl 59 6 (l.map Ty.o) ∧ 3 ≤ l.length ∧ l.length ≤ 9 ∧ ∀ t ∈ l, TyD l.length t := by
  refine doesE_intro (mc := m140) (N := 120) (rs := [2]) (fx := [0]) 1 rfl (by decide +kernel) ?_
  simp only [m140, EV, Nat.reduceEqDiff, Nat.reduceBEq, Nat.reduceLT, Nat.reduceLeDiff, Nat.reduceAdd, Nat.reduceSub, reduceIte]
  refine callK_i d171 ?_
  simp only [EV, Nat.reduceEqDiff, Nat.reduceBEq, Nat.reduceLT, Nat.reduceLeDiff, Nat.reduceAdd, Nat.reduceSub, reduceIte]
  refine (p106 c n 7 hc (by omega) (by omega)).call (fun _ => rfl) ?_
  rintro _ c1 hc1 ⟨v, rfl, v0, v1, _⟩
  have v2 := v1 (by omega)
  have hw : IntKind.i64.wrap (3 + v) = 3 + v := w64 _ (by omega)
  have hv : ∃ m : Nat, 3 + v = (m : Int) := ⟨(3 + v).toNat, by omega⟩
  obtain ⟨m, hm⟩ := hv
  have hm3 : 3 ≤ m := by omega
  have hm9 : m ≤ 9 := by omega
  have hwm : IntKind.i64.wrap (m : Int) = m := w64 _ (by omega)
  simp only [hm, hwm, EV, Nat.reduceEqDiff, Nat.reduceBEq, Nat.reduceLT, Nat.reduceLeDiff, Nat.reduceAdd, Nat.reduceSub, reduceIte]
  refine awp_loop (fun p : List Ty × Cur => 3 ≤ p.1.length ∧ p.1.length ≤ m ∧ (∀ t ∈ p.1, TyD m t) ∧ p.2.ok (n + 2 + 60 * p.1.length)) (fun p => stl [(0, .box 115 p.2.z), (3, .usl 59 6 (p.1.map Ty.o)), (4, .v (.int .i64 (m : Int))), (10, .dead), (90, .dead)]) (fun p => m - p.1.length) (baseTs, c1) ⟨by simp only [base_len3]; omega, by simp only [base_len3]; omega, base_tyD _, hc1.up (by simp only [base_len3]; omega)⟩ ?_ ?_
  · simp only [EV, Nat.reduceEqDiff, Nat.reduceBEq, Nat.reduceLT, Nat.reduceLeDiff, Nat.reduceAdd, Nat.reduceSub, reduceIte]
  · rintro ⟨l, c⟩ ⟨l3, lm, lD, hc⟩
    simp only at l3 lm lD hc
    simp only [EV, Nat.reduceEqDiff, Nat.reduceBEq, Nat.reduceLT, Nat.reduceLeDiff, Nat.reduceAdd, Nat.reduceSub, reduceIte]
    refine cK_cut (fun h => ?_) (fun h => ?_)
    · have hlm : l.length < m := by have : (l.length : Int) < (m : Int) := by simpa using h
                                    omega
      clear h
      simp only [EV, Nat.reduceEqDiff, Nat.reduceBEq, Nat.reduceLT, Nat.reduceLeDiff, Nat.reduceAdd, Nat.reduceSub, reduceIte]
      refine (p106 c _ 3 hc (by omega) (by omega)).call (fun _ => rfl) ?_
      rintro _ c2 hc2 ⟨kd, rfl, k0, k1, _⟩
      have k2 := k1 (by omega)
      have hwk : IntKind.i64.wrap (4 + kd) = 4 + kd := w64 _ (by omega)
      have hck : ∃ q : Int, 4 + kd = q := ⟨_, rfl⟩
      obtain ⟨q, hq⟩ := hck
      have hwq : IntKind.i64.wrap q = q := w64 _ (by omega)
      simp only [hq, hwq, EV, Nat.reduceEqDiff, Nat.reduceBEq, Nat.reduceLT, Nat.reduceLeDiff, Nat.reduceAdd, Nat.reduceSub, reduceIte]
      refine awp_join (fun p : Ty × Cur => (∃ o m : ByteArray, p.1 = ⟨q, 0, -1, [], o, m⟩ ∧ (o.size : Int) ≤ 40 ∧ (m.size : Int) ≤ 40) ∧ p.2.ok (n + 2 + 60 * l.length + 6)) (fun p => stl [(0, .box 115 p.2.z), (3, .usl 59 6 (l.map Ty.o)), (4, .v (.int .i64 (m : Int))), (5, .box 59 p.1.o), (10, .dead), (90, .dead)]) ?_ ?_
      · simp only [EV, Nat.reduceEqDiff, Nat.reduceBEq, Nat.reduceLT, Nat.reduceLeDiff, Nat.reduceAdd, Nat.reduceSub, reduceIte]
        refine (p96 c2 _ 2 hc2 (by omega) (by omega)).call (fun _ => rfl) ?_
        rintro _ c3 hc3 ⟨b, rfl⟩
        simp only [EV, Nat.reduceEqDiff, Nat.reduceBEq, Nat.reduceLT, Nat.reduceLeDiff, Nat.reduceAdd, Nat.reduceSub, reduceIte]
        cases b
        · simp only [EV, Nat.reduceEqDiff, Nat.reduceBEq, Nat.reduceLT, Nat.reduceLeDiff, Nat.reduceAdd, Nat.reduceSub, reduceIte]
          exact ⟨(⟨q, 0, -1, [], ⟨#[]⟩, ⟨#[]⟩⟩, c3), ⟨⟨_, _, rfl, by decide, by decide⟩, hc3.up (by omega)⟩, rfl⟩
        · simp only [EV, Nat.reduceEqDiff, Nat.reduceBEq, Nat.reduceLT, Nat.reduceLeDiff, Nat.reduceAdd, Nat.reduceSub, reduceIte]
          refine (p97 c3 _ [⟨#[65]⟩, ⟨#[66]⟩] hc3 (by omega) (by decide) (by decide)).call (fun _ => rfl) ?_
          rintro _ c4 hc4 ⟨s, hs, rfl⟩
          have hs1 : (s.size : Int) ≤ 40 := by
            simp only [List.mem_cons, List.not_mem_nil, or_false] at hs
            rcases hs with rfl | rfl <;> decide
          simp only [EV, Nat.reduceEqDiff, Nat.reduceBEq, Nat.reduceLT, Nat.reduceLeDiff, Nat.reduceAdd, Nat.reduceSub, reduceIte]
          refine n172 (by omega) (by omega) fun nm hnm => ?_
          simp only [EV, Nat.reduceEqDiff, Nat.reduceBEq, Nat.reduceLT, Nat.reduceLeDiff, Nat.reduceAdd, Nat.reduceSub, reduceIte]
          have h84 : ((⟨#[84]⟩ : ByteArray).size : Nat) = 1 := rfl
          refine ⟨by rw [h84]; omega, (⟨q, 0, -1, [], s, ⟨#[84]⟩ ++ nm⟩, c4), ⟨⟨_, _, rfl, hs1, by rw [ByteArray.size_append, h84]; omega⟩, hc4.up (by omega)⟩, rfl⟩
      rintro ⟨t, c5⟩ ⟨⟨o, mm, rfl, ho, hmm⟩, hc5⟩
      simp only at hc5
      simp only [Ty.o, List.map_nil, EV, Nat.reduceEqDiff, Nat.reduceBEq, Nat.reduceLT, Nat.reduceLeDiff, Nat.reduceAdd, Nat.reduceSub, reduceIte]
      refine awp_join (fun p : Ty × Cur => TyD m p.1 ∧ p.2.ok (n + 2 + 60 * l.length + 50)) (fun p => stl [(0, .box 115 p.2.z), (3, .usl 59 6 (l.map Ty.o)), (4, .v (.int .i64 (m : Int))), (5, .box 59 p.1.o), (10, .dead), (90, .dead)]) ?_ ?_
      · simp only [EV, Nat.reduceEqDiff, Nat.reduceBEq, Nat.reduceLT, Nat.reduceLeDiff, Nat.reduceAdd, Nat.reduceSub, reduceIte]
        rcases e4 : (q == 4) with _ | _
        rotate_left
        · have q4 : q = 4 := by simpa using e4
          simp only [e4, EV, Nat.reduceEqDiff, Nat.reduceBEq, Nat.reduceLT, Nat.reduceLeDiff, Nat.reduceAdd, Nat.reduceSub, reduceIte]
          refine (p106 c5 _ 5 hc5 (by omega) (by omega)).call (fun _ => rfl) ?_
          rintro _ c6 hc6 ⟨u, rfl, u0, u1, _⟩
          simp only [EV, Nat.reduceEqDiff, Nat.reduceBEq, Nat.reduceLT, Nat.reduceLeDiff, Nat.reduceAdd, Nat.reduceSub, reduceIte]
          refine (p106 c6 _ l.length hc6 (by omega) (by omega)).call (fun _ => rfl) ?_
          rintro _ c7 hc7 ⟨u2, rfl, _⟩
          simp only [EV, Nat.reduceEqDiff, Nat.reduceBEq, Nat.reduceLT, Nat.reduceLeDiff, Nat.reduceAdd, Nat.reduceSub, reduceIte]
          exact ⟨(⟨q, IntKind.i64.wrap (1 + u), u2, [], o, mm⟩, c7), ⟨⟨by simp, by simp, ho, hmm, fun h => by simp only at h; omega⟩, hc7.up (by omega)⟩, rfl⟩
        rcases e5 : (q == 5) with _ | _
        · have q6 : q = 6 := by
            have h4 : ¬ q = 4 := by simpa using e4
            have h5 : ¬ q = 5 := by simpa using e5
            omega
          simp only [e4, e5, EV, Nat.reduceEqDiff, Nat.reduceBEq, Nat.reduceLT, Nat.reduceLeDiff, Nat.reduceAdd, Nat.reduceSub, reduceIte]
          rw [w64 ((m : Int) - 3) (by omega)]
          refine (p106 c5 _ ((m : Int) - 3) hc5 (by omega) (by omega)).call (fun _ => rfl) ?_
          rintro _ c6 hc6 ⟨u, rfl, u0, u1, u2⟩
          have hu : 3 + u < (m : Int) := by
            by_cases h : 1 < (m : Int) - 3
            · have := u1 h; omega
            · have := u2 (by omega); omega
          simp only [EV, Nat.reduceEqDiff, Nat.reduceBEq, Nat.reduceLT, Nat.reduceLeDiff, Nat.reduceAdd, Nat.reduceSub, reduceIte]
          rw [w64 (3 + u) (by omega)]
          exact ⟨(⟨q, 0, 3 + u, [], o, mm⟩, c6), ⟨⟨by simp, by simp, ho, hmm, fun _ => ⟨by simp only; omega, hu⟩⟩, hc6.up (by omega)⟩, rfl⟩
        · have q5 : ¬ q = 6 := by have : q = 5 := by simpa using e5
                                  omega
          simp only [e4, e5, EV, Nat.reduceEqDiff, Nat.reduceBEq, Nat.reduceLT, Nat.reduceLeDiff, Nat.reduceAdd, Nat.reduceSub, reduceIte]
          refine awp_join (fun p : Int × Cur => p.2.ok (n + 2 + 60 * l.length + 8)) (fun p => stl [(0, .box 115 p.2.z), (3, .usl 59 6 (l.map Ty.o)), (4, .v (.int .i64 (m : Int))), (5, .box 59 (Ty.o ⟨q, 0, p.1, [], o, mm⟩)), (10, .dead), (90, .dead)]) ?_ ?_
          · simp only [EV, Nat.reduceEqDiff, Nat.reduceBEq, Nat.reduceLT, Nat.reduceLeDiff, Nat.reduceAdd, Nat.reduceSub, reduceIte]
            refine (p106 c5 _ l.length hc5 (by omega) (by omega)).call (fun _ => rfl) ?_
            rintro _ c6 hc6 ⟨u, rfl, u0, u1, _⟩
            have hu := u1 (by omega)
            have hun : u.toNat < l.length := by omega
            simp only [u0, hu, hun, nth_map hun, Ty.o, EV, Nat.reduceEqDiff, Nat.reduceBEq, Nat.reduceLT, Nat.reduceLeDiff, Nat.reduceAdd, Nat.reduceSub, reduceIte]
            rcases e : (l[u.toNat].kind == 5) with _ | _
            · simp only [Ty.o, EV, Nat.reduceEqDiff, Nat.reduceBEq, Nat.reduceLT, Nat.reduceLeDiff, Nat.reduceAdd, Nat.reduceSub, reduceIte]
              exact ⟨(-1, c6), hc6.up (by omega), rfl⟩
            · simp only [Ty.o, EV, Nat.reduceEqDiff, Nat.reduceBEq, Nat.reduceLT, Nat.reduceLeDiff, Nat.reduceAdd, Nat.reduceSub, reduceIte]
              exact ⟨(u, c6), hc6.up (by omega), rfl⟩
          rintro ⟨b, c6⟩ hc6
          simp only at hc6
          simp only [Ty.o, List.map_nil, EV, Nat.reduceEqDiff, Nat.reduceBEq, Nat.reduceLT, Nat.reduceLeDiff, Nat.reduceAdd, Nat.reduceSub, reduceIte]
          refine (p106 c6 _ 4 hc6 (by omega) (by omega)).call (fun _ => rfl) ?_
          rintro _ c7 hc7 ⟨k, rfl, k0, k1, _⟩
          have k3 := k1 (by omega)
          simp only [EV, Nat.reduceEqDiff, Nat.reduceBEq, Nat.reduceLT, Nat.reduceLeDiff, Nat.reduceAdd, Nat.reduceSub, reduceIte]
          refine awp_loop (fun p : List Fd × Int × Cur => (p.1.length : Int) + p.2.1 ≤ 3 ∧ 0 ≤ p.2.1 ∧ (∀ f ∈ p.1, (f.name.size : Int) ≤ 40) ∧ p.2.2.ok (n + 2 + 60 * l.length + 10 + 6 * p.1.length)) (fun p => stl [(0, .box 115 p.2.2.z), (3, .usl 59 6 (l.map Ty.o)), (4, .v (.int .i64 (m : Int))), (5, .box 59 (Ty.o ⟨q, 0, b, p.1, o, mm⟩)), (7, .v (.int .i64 p.2.1)), (10, .dead), (90, .dead)]) (fun p => p.2.1.toNat) ([], k, c7) ⟨by simp; omega, k0, by simp, hc7.up (by simp; omega)⟩ ?_ ?_
          · simp only [Ty.o, List.map_nil, EV, Nat.reduceEqDiff, Nat.reduceBEq, Nat.reduceLT, Nat.reduceLeDiff, Nat.reduceAdd, Nat.reduceSub, reduceIte]
          · rintro ⟨fs, k, c8⟩ ⟨g1, g2, g3, g4⟩
            simp only at g1 g2 g3 g4
            simp only [Ty.o, EV, Nat.reduceEqDiff, Nat.reduceBEq, Nat.reduceLT, Nat.reduceLeDiff, Nat.reduceAdd, Nat.reduceSub, reduceIte]
            refine cK_cut (fun h => ?_) (fun h => ?_)
            · have hk : 0 < k := by simpa using h
              clear h
              have h102 : ((⟨#[102]⟩ : ByteArray).size : Nat) = 1 := rfl
              have wk := w64 (k - 1) (by omega)
              simp only [wk, EV, Nat.reduceEqDiff, Nat.reduceBEq, Nat.reduceLT, Nat.reduceLeDiff, Nat.reduceAdd, Nat.reduceSub, reduceIte]
              have ld : ∀ (nm : ByteArray) (u v : Int) (c' : Cur), (nm.size : Int) ≤ k + 1 → c'.ok (n + 2 + 60 * l.length + 10 + 6 * fs.length + 2 + 2) →
                  (((fs ++ [(⟨⟨#[102]⟩ ++ nm, u, v⟩ : Fd)]).length : Int) + (k - 1) ≤ 3 ∧ 0 ≤ k - 1 ∧ (∀ f ∈ fs ++ [(⟨⟨#[102]⟩ ++ nm, u, v⟩ : Fd)], (f.name.size : Int) ≤ 40) ∧ c'.ok (n + 2 + 60 * l.length + 10 + 6 * (fs ++ [(⟨⟨#[102]⟩ ++ nm, u, v⟩ : Fd)]).length)) := by
                intro nm u v c' hnm hc'
                refine ⟨by simp; omega, by omega, ?_, hc'.up (by simp; omega)⟩
                intro f hf
                rcases List.mem_append.1 hf with hf | hf
                · exact g3 f hf
                · rw [List.mem_singleton] at hf
                  rw [hf]
                  simp only [ByteArray.size_append, h102]; omega
              have lm1 : ∀ (nm : ByteArray) (u v : Int), List.map Fd.o fs ++ [[AV.v (.string (⟨#[102]⟩ ++ nm)), AV.v (.int .i64 u), AV.v (.int .i64 v)]] = List.map Fd.o (fs ++ [⟨⟨#[102]⟩ ++ nm, u, v⟩]) := fun nm u v => by rw [List.map_append]; rfl
              refine ⟨?_, ?_⟩
              · refine n172 (by omega) (by omega) fun nm hnm => ?_
                simp only [EV, Nat.reduceEqDiff, Nat.reduceBEq, Nat.reduceLT, Nat.reduceLeDiff, Nat.reduceAdd, Nat.reduceSub, reduceIte]
                refine ⟨by rw [h102]; omega, ?_⟩
                refine (p106 c8 _ 3 g4 (by omega) (by omega)).call (fun _ => rfl) ?_
                rintro _ c9 hc9 ⟨u, rfl, _⟩
                simp only [EV, Nat.reduceEqDiff, Nat.reduceBEq, Nat.reduceLT, Nat.reduceLeDiff, Nat.reduceAdd, Nat.reduceSub, reduceIte]
                refine (p106 c9 _ l.length hc9 (by omega) (by omega)).call (fun _ => rfl) ?_
                rintro _ c10 hc10 ⟨v, rfl, _⟩
                simp only [wk, EV, Nat.reduceEqDiff, Nat.reduceBEq, Nat.reduceLT, Nat.reduceLeDiff, Nat.reduceAdd, Nat.reduceSub, reduceIte]
                refine ⟨by omega, by omega, (fs ++ [⟨⟨#[102]⟩ ++ nm, u, v⟩], k - 1, c10), ld nm u v c10 hnm hc10, by simp only; omega, ?_⟩
                simp only [lm1]
              · refine n172 (by omega) (by omega) fun nm hnm => ?_
                simp only [EV, Nat.reduceEqDiff, Nat.reduceBEq, Nat.reduceLT, Nat.reduceLeDiff, Nat.reduceAdd, Nat.reduceSub, reduceIte]
                refine ⟨by rw [h102]; omega, ?_⟩
                refine ⟨?_, ?_⟩
                · refine (p106 c8 _ 3 g4 (by omega) (by omega)).call (fun _ => rfl) ?_
                  rintro _ c9 hc9 ⟨u, rfl, _⟩
                  simp only [EV, Nat.reduceEqDiff, Nat.reduceBEq, Nat.reduceLT, Nat.reduceLeDiff, Nat.reduceAdd, Nat.reduceSub, reduceIte]
                  refine (p106 c9 _ l.length hc9 (by omega) (by omega)).call (fun _ => rfl) ?_
                  rintro _ c10 hc10 ⟨v, rfl, _⟩
                  simp only [wk, EV, Nat.reduceEqDiff, Nat.reduceBEq, Nat.reduceLT, Nat.reduceLeDiff, Nat.reduceAdd, Nat.reduceSub, reduceIte]
                  refine ⟨by omega, by omega, (fs ++ [⟨⟨#[102]⟩ ++ nm, u, v⟩], k - 1, c10), ld nm u v c10 hnm hc10, by simp only; omega, ?_⟩
                  simp only [lm1]
                · refine (p106 c8 _ 3 g4 (by omega) (by omega)).call (fun _ => rfl) ?_
                  rintro _ c9 hc9 ⟨u, rfl, _⟩
                  simp only [EV, Nat.reduceEqDiff, Nat.reduceBEq, Nat.reduceLT, Nat.reduceLeDiff, Nat.reduceAdd, Nat.reduceSub, reduceIte]
                  refine ⟨?_, ?_⟩
                  · refine (p106 c9 _ l.length hc9 (by omega) (by omega)).call (fun _ => rfl) ?_
                    rintro _ c10 hc10 ⟨v, rfl, _⟩
                    simp only [wk, EV, Nat.reduceEqDiff, Nat.reduceBEq, Nat.reduceLT, Nat.reduceLeDiff, Nat.reduceAdd, Nat.reduceSub, reduceIte]
                    refine ⟨by omega, by omega, (fs ++ [⟨⟨#[102]⟩ ++ nm, u, v⟩], k - 1, c10), ld nm u v c10 hnm hc10, by simp only; omega, ?_⟩
                    simp only [lm1]
                  · refine (p106 c9 _ l.length hc9 (by omega) (by omega)).call (fun _ => rfl) ?_
                    rintro _ c10 hc10 ⟨v, rfl, _⟩
                    simp only [wk, EV, Nat.reduceEqDiff, Nat.reduceBEq, Nat.reduceLT, Nat.reduceLeDiff, Nat.reduceAdd, Nat.reduceSub, reduceIte]
                    refine ⟨by omega, by omega, (fs ++ [⟨⟨#[102]⟩ ++ nm, u, v⟩], k - 1, c10), ld nm u v c10 hnm hc10, by simp only; omega, ?_⟩
                    simp only [lm1]
            · simp only [EV, Nat.reduceEqDiff, Nat.reduceBEq, Nat.reduceLT, Nat.reduceLeDiff, Nat.reduceAdd, Nat.reduceSub, reduceIte]
              exact ⟨(⟨q, 0, b, fs, o, mm⟩, c8), ⟨⟨by simp only; omega, g3, ho, hmm, fun h => absurd h q5⟩, g4.up (by omega)⟩, rfl⟩
      · rintro ⟨t, c6⟩ ⟨hD, hc6⟩
        simp only at hD hc6
        simp only [Ty.o, EV, Nat.reduceEqDiff, Nat.reduceBEq, Nat.reduceLT, Nat.reduceLeDiff, Nat.reduceAdd, Nat.reduceSub, reduceIte]
        refine ⟨by omega, by omega, (l ++ [t], c6), ⟨by simp; omega, by simp; omega, ?_, hc6.up (by simp; omega)⟩, by simp; omega, ?_⟩
        · intro s hs
          rcases List.mem_append.1 hs with hs | hs
          · exact lD s hs
          · rw [List.mem_singleton] at hs; rw [hs]; exact hD
        · rw [List.map_append]
          rfl
    · have hlm : l.length = m := by have : ¬ (l.length : Int) < (m : Int) := by simpa using h
                                    omega
      simp only [EV, Nat.reduceEqDiff, Nat.reduceBEq, Nat.reduceLT, Nat.reduceLeDiff, Nat.reduceAdd, Nat.reduceSub, reduceIte]
      refine awp_loop (fun p : List Ty × Nat => p.1.length = m ∧ p.2 ≤ m ∧ ∀ t ∈ p.1, TyD m t) (fun p => stl [(0, .box 115 c.z), (3, .usl 59 6 (p.1.map Ty.o)), (10, .dead), (90, .dead), (91, .sref 3 [] 0 m), (92, .v (.int .i64 (m : Int))), (93, .v (.int .i64 (p.2 : Int)))]) (fun p => m - p.2) (l, 0) ⟨hlm, Nat.zero_le _, lD⟩ ?_ ?_
      · simp only [hlm, EV, Nat.reduceEqDiff, Nat.reduceBEq, Nat.reduceLT, Nat.reduceLeDiff, Nat.reduceAdd, Nat.reduceSub, reduceIte]
        rfl
      · rintro ⟨l, i⟩ ⟨hlm, him, lD⟩
        simp only at hlm him lD
        simp only [EV, Nat.reduceEqDiff, Nat.reduceBEq, Nat.reduceLT, Nat.reduceLeDiff, Nat.reduceAdd, Nat.reduceSub, reduceIte]
        refine cK_cut (fun h => ?_) (fun h => ?_)
        · have hi : i < m := by have : (i : Int) < (m : Int) := by simpa using h
                                omega
          have hil : i < l.length := by omega
          have hi2 : (i : Int) < (m : Int) := by omega
          have hD := lD _ (List.getElem_mem hil)
          clear h
          refine awp_join (fun l : List Ty => l.length = m ∧ ∀ t ∈ l, TyD m t) (fun l => stl [(0, .box 115 c.z), (3, .usl 59 6 (l.map Ty.o)), (10, .dead), (90, .dead), (91, .sref 3 [] 0 m), (92, .v (.int .i64 (m : Int))), (93, .v (.int .i64 (i : Int)))]) ?_ ?_
          · simp only [hlm, hi, hi2, hil, nth_map hil, Ty.o, EV, Nat.reduceEqDiff, Nat.reduceBEq, Nat.reduceLT, Nat.reduceLeDiff, Nat.reduceAdd, Nat.reduceSub, reduceIte]
            have same : ∃ a : List Ty, (a.length = m ∧ ∀ t ∈ a, TyD m t) ∧ List.map Ty.o l = List.map Ty.o a := ⟨l, ⟨hlm, lD⟩, rfl⟩
            rcases e6 : (l[i].kind == 6) with _ | _
            · simp only [EV, Nat.reduceEqDiff, Nat.reduceBEq, Nat.reduceLT, Nat.reduceLeDiff, Nat.reduceAdd, Nat.reduceSub, reduceIte]
              exact ⟨l, ⟨hlm, lD⟩, rfl⟩
            · have hp := hD.ptr (by simpa using e6)
              have hb : l[i].base.toNat < l.length := by omega
              have hb1 : l[i].base.toNat < m := by omega
              have h4 : i < (l.map Ty.o).length := by simp; exact hil
              simp only [e6, hlm, hi, hi2, hil, hb, hb1, hp.1, hp.2, nth_map hb, Ty.o, EV, Nat.reduceEqDiff, Nat.reduceBEq, Nat.reduceLT, Nat.reduceLeDiff, Nat.reduceAdd, Nat.reduceSub, reduceIte]
              rcases e7 : (l[l[i].base.toNat].kind == 6) with _ | _
              · simp only [EV, Nat.reduceEqDiff, Nat.reduceBEq, Nat.reduceLT, Nat.reduceLeDiff, Nat.reduceAdd, Nat.reduceSub, reduceIte]
                exact ⟨l, ⟨hlm, lD⟩, rfl⟩
              · simp only [hlm, hi, hi2, hil, nth_map hil, nth_set h4, List.getElem?_set_self h4, h4, modify_set, Ty.o, EV, Nat.reduceEqDiff, Nat.reduceBEq, Nat.reduceLT, Nat.reduceLeDiff, Nat.reduceAdd, Nat.reduceSub, reduceIte]
                refine ⟨l.set i ⟨5, l[i].long, -1, l[i].fields, l[i].owner, l[i].name⟩, ⟨by rw [List.length_set]; exact hlm, ?_⟩, ?_⟩
                · intro t ht
                  rcases List.mem_or_eq_of_mem_set ht with h | h
                  · exact lD t h
                  · rw [h]
                    exact ⟨hD.few, hD.names, hD.owner, hD.name, fun h => absurd h (show ¬ (5 : Int) = 6 by decide)⟩
                · rw [List.map_set]
                  rfl
          · rintro l ⟨hlm, lD⟩
            simp only [EV, Nat.reduceEqDiff, Nat.reduceBEq, Nat.reduceLT, Nat.reduceLeDiff, Nat.reduceAdd, Nat.reduceSub, reduceIte]
            rw [w64 _ (by omega)]
            exact ⟨(l, i + 1), ⟨hlm, hi, lD⟩, by simp only; omega, rfl⟩
        · simp only [EV, Nat.reduceEqDiff, Nat.reduceBEq, Nat.reduceLT, Nat.reduceLeDiff, Nat.reduceAdd, Nat.reduceSub, reduceIte]
          simp only [EV, Nat.reduceEqDiff, Nat.reduceBEq, Nat.reduceLT, Nat.reduceLeDiff, Nat.reduceAdd, Nat.reduceSub, reduceIte, evRE, retVC, cellV', evR, nfz, nfzs, nfzss, List.contains_nil, List.contains_cons, Bool.or_false, or_true]
          exact ⟨⟨c, rfl, hc.up (by omega), l, rfl, by omega, by omega, by rw [hlm]; exact lD⟩, Or.inr (Ty.nfz l)⟩

end Go.AM
namespace Go.AM
set_option linter.unusedVariables false
set_option linter.unusedSimpArgs false
theorem set_ty (l : List Ty) {k : Nat} (h : k < l.length) (t : Ty) (ht : t.sm) (hs : ∀ s ∈ l, s.sm) (hl : l.length ≤ 9) : ∃ a : List Ty, (a.length ≤ 9 ∧ ∀ s ∈ a, s.sm) ∧ (l.map Ty.o).set k t.o = a.map Ty.o :=
  ⟨l.set k t, ⟨by rw [List.length_set]; exact hl, fun s hm => (List.mem_or_eq_of_mem_set hm).elim (hs s) (fun e => e ▸ ht)⟩, by rw [List.map_set]⟩

theorem modify_get {l : List (List AV)} {i : Nat} {a : List AV} {f : List AV → List AV} (h : l[i]? = some a) : l.modify i f = l.set i (f a) := by
  apply List.ext_getElem?
  intro j
  rw [List.getElem?_modify]
  by_cases hj : i = j
  · subst hj
    have hi : i < l.length := by
      rcases Nat.lt_or_ge i l.length with h1 | h1
      · exact h1
      · rw [List.getElem?_eq_none h1] at h; cases h
    have hl : l[i] = a := by rw [List.getElem?_eq_getElem hi] at h; exact Option.some.inj h
    simp [hi, hl]
  · simp [hj, List.getElem?_set_ne hj]

/-- (*loop.example/g00837/spec.l1Cur).anyTypes -/
def m93 : MC :=
  (.seq
   (.reg [⟨(some 2), none, .a (.asg (.nils 59 6))⟩])
   (.seq
    (.reg [⟨(some 5), none, .q (.mov (.t 0))⟩,
      ⟨(some 6), none, .a (.call (.fn 140) false [.io (.t 5)])⟩,
      ⟨(some 3), none, .a (.asg (.t 6))⟩])
    (.seq
     (.reg [⟨(some 7), none, .q (.mov (.t 0))⟩,
       ⟨(some 8), none, .q (.mov (.t 3))⟩,
       ⟨(some 9), none, .q (.len false (.t 8))⟩,
       ⟨(some 10), none, .a (.call (.fn 106) false [.io (.t 7), .lend (.t 9)])⟩,
       ⟨(some 4), none, .a (.asg (.t 10))⟩])
     (.join [0, 3, 6, 63, 65, 66]
      (.seq
       (.reg [⟨(some 11), none, .q (.mov (.t 0))⟩,
         ⟨(some 12), none, .a (.call (.fn 106) false [.io (.t 11), .lend (.c (.int .i64 30))])⟩])
       (.block 0
        (.seq
         (.reg [⟨(some 14), none, .q (.bin false .eql (.t 12) (.c (.int .i64 0)))⟩,
           ⟨(some 13), none, .a (.asg (.t 14))⟩])
         (.cond (.t 13)
          (.reg [⟨(some 15), none, .q (.mov (.t 3))⟩,
            ⟨(some 16), none, .q (.mov (.t 4))⟩,
            ⟨(some 17), none, .q (.iad 6 (.t 15) (.t 16))⟩,
            ⟨(some 18), none, .q (.fad 1 (.t 17))⟩,
            ⟨(some 19), none, .q (.load false 1 (.t 18))⟩,
            ⟨(some 20), none, .q (.bin false .add (.t 19) (.c (.int .i64 1)))⟩,
            ⟨(some 21), none, .q (.iad 6 (.t 15) (.t 16))⟩,
            ⟨(some 22), none, .q (.fad 1 (.t 21))⟩,
            ⟨none, none, .a (.store 1 (.t 22) (.t 20))⟩])
          (.seq
           (.reg [⟨(some 24), none, .q (.bin false .eql (.t 12) (.c (.int .i64 1)))⟩,
             ⟨(some 23), none, .a (.asg (.t 24))⟩])
           (.cond (.t 23)
            (.reg [⟨(some 25), none, .q (.mov (.t 3))⟩,
              ⟨(some 26), none, .q (.mov (.t 4))⟩,
              ⟨(some 27), none, .q (.mov (.t 0))⟩,
              ⟨(some 28), none, .a (.bsl 9 1 [.c (.string ({ data := #[] })), .c (.string ({ data := #[73, 78, 84] })), .c (.string ({ data := #[84, 51] }))])⟩,
              ⟨(some 29), none, .a (.call (.fn 97) false [.io (.t 27), .give (.t 28)])⟩,
              ⟨(some 30), none, .q (.iad 6 (.t 25) (.t 26))⟩,
              ⟨(some 31), none, .q (.fad 5 (.t 30))⟩,
              ⟨none, none, .a (.store 1 (.t 31) (.t 29))⟩])
            (.seq
             (.reg [⟨(some 33), none, .q (.bin false .eql (.t 12) (.c (.int .i64 2)))⟩,
               ⟨(some 32), none, .a (.asg (.t 33))⟩])
             (.cond (.t 32)
              (.seq
               (.reg [⟨(some 34), none, .q (.mov (.t 3))⟩,
                 ⟨(some 35), none, .q (.mov (.t 4))⟩,
                 ⟨(some 36), none, .q (.iad 6 (.t 34) (.t 35))⟩,
                 ⟨(some 37), none, .q (.fad 3 (.t 36))⟩,
                 ⟨(some 38), none, .q (.load false 1 (.t 37))⟩,
                 ⟨(some 39), none, .q (.len false (.t 38))⟩,
                 ⟨(some 40), none, .q (.bin false .gtr (.t 39) (.c (.int .i64 0)))⟩])
               (.cond (.t 40)
                (.mixt [4] [0, 3, 6, 63, 65, 66] [] [] [1]
                  [⟨(some 42), none, .q (.mov (.t 4))⟩]
                  (.step 0 ⟨(some 41), none, .q (.mov (.t 3))⟩
                  (.step 2 ⟨(some 43), none, .q (.iad 6 (.t 41) (.t 42))⟩
                   (.step 3 ⟨(some 44), none, .q (.fad 3 (.t 43))⟩
                    (.step 5 ⟨(some 46), none, .q (.mov (.t 0))⟩
                     (.step 6 ⟨(some 47), none, .q (.mov (.t 3))⟩
                      (.step 7 ⟨(some 48), none, .q (.len false (.t 47))⟩
                       (.step 8 ⟨(some 49), none, .q (.bin false .add (.t 48) (.c (.int .i64 1)))⟩
                        (.alt (.step 4 ⟨(some 45), none, .q (.load false 1 (.t 44))⟩
                         (.step 9 ⟨(some 50), none, .a (.call (.fn 106) false [.io (.t 46), .lend (.t 49)])⟩
                          (.step 10 ⟨(some 51), none, .q (.iad 3 (.t 45) (.c (.int .i64 0)))⟩
                           (.step 11 ⟨(some 52), none, .q (.fad 2 (.t 51))⟩
                            (.step 12 ⟨none, none, .a (.store 1 (.t 52) (.t 50))⟩
                             .nil)))))
                         (.step 9 ⟨(some 50), none, .a (.call (.fn 106) false [.io (.t 46), .lend (.t 49)])⟩
                         (.step 4 ⟨(some 45), none, .q (.load false 1 (.t 44))⟩
                          (.step 10 ⟨(some 51), none, .q (.iad 3 (.t 45) (.c (.int .i64 0)))⟩
                           (.step 11 ⟨(some 52), none, .q (.fad 2 (.t 51))⟩
                            (.step 12 ⟨none, none, .a (.store 1 (.t 52) (.t 50))⟩
                             .nil))))))))))))))
                .skip))
              (.seq
               (.reg [⟨(some 54), none, .q (.bin false .eql (.t 12) (.c (.int .i64 3)))⟩,
                 ⟨(some 53), none, .a (.asg (.t 54))⟩])
               (.cond (.t 53)
                (.reg [⟨(some 55), none, .q (.mov (.t 3))⟩,
                  ⟨(some 56), none, .q (.mov (.t 4))⟩,
                  ⟨(some 57), none, .q (.mov (.t 0))⟩,
                  ⟨(some 58), none, .a (.call (.fn 106) false [.io (.t 57), .lend (.c (.int .i64 8))])⟩,
                  ⟨(some 59), none, .q (.iad 6 (.t 55) (.t 56))⟩,
                  ⟨(some 60), none, .q (.fad 0 (.t 59))⟩,
                  ⟨none, none, .a (.store 1 (.t 60) (.t 58))⟩])
                (.seq
                 (.reg [⟨(some 62), none, .q (.bin false .eql (.t 12) (.c (.int .i64 4)))⟩,
                   ⟨(some 61), none, .a (.asg (.t 62))⟩])
                 (.cond (.t 61)
                  (.reg [⟨(some 63), none, .q (.mov (.t 3))⟩,
                    ⟨(some 64), none, .q (.mov (.t 0))⟩,
                    ⟨(some 65), none, .a (.call (.fn 106) false [.io (.t 64), .lend (.c (.int .i64 4))])⟩,
                    ⟨(some 66), none, .q (.slc false 6 (.t 63) none (some (.t 65)))⟩,
                    ⟨(some 3), none, .a (.asg (.t 66))⟩])
                  .skip))))))))))))
      (.seq
       (.reg [⟨(some 67), none, .q (.mov (.t 3))⟩,
         ⟨(some 2), none, .a (.asg (.t 67))⟩])
       .ret)))))

set_option maxHeartbeats 4000000 in
set_option maxRecDepth 100000 in
theorem p93 (c : Cur) (n : Int) (hc : c.ok n) (hn : n ≤ 115292150460) : Draws 93 [] c n 620 fun r => ∃ l : List Ty, r = .usl 59 6 (l.map Ty.o) ∧ l.length ≤ 9 ∧ ∀ t ∈ l, t.sm := by
  refine doesE_intro (mc := m93) (N := 68) (rs := [2]) (fx := [0]) 1 rfl (by decide +kernel) ?_
  simp only [m93, EV, Nat.reduceEqDiff, Nat.reduceBEq, Nat.reduceLT, Nat.reduceLeDiff, Nat.reduceAdd, Nat.reduceSub, reduceIte]
  refine (p140 c n hc hn).call (fun _ => rfl) ?_
  rintro _ c1 hc1 ⟨l, rfl, l3, l9, lD⟩
  have hs : ∀ t ∈ l, t.sm := fun t ht => (lD t ht).sm
  simp only [EV, Nat.reduceEqDiff, Nat.reduceBEq, Nat.reduceLT, Nat.reduceLeDiff, Nat.reduceAdd, Nat.reduceSub, reduceIte]
  refine (p106 c1 _ l.length hc1 (by omega) (by omega)).call (fun _ => rfl) ?_
  rintro _ c2 hc2 ⟨k, rfl, k0, k1, _⟩
  have kl := k1 (by omega)
  have kn : k.toNat < l.length := by omega
  simp only [EV, Nat.reduceEqDiff, Nat.reduceBEq, Nat.reduceLT, Nat.reduceLeDiff, Nat.reduceAdd, Nat.reduceSub, reduceIte]
  refine awp_join (fun p : List Ty × Cur × AV => (p.1.length ≤ 9 ∧ ∀ t ∈ p.1, t.sm) ∧ p.2.1.ok (n + 610)) (fun p => stl [(0, .box 115 p.2.1.z), (3, .usl 59 6 (p.1.map Ty.o)), (6, .dead), (63, .dead), (65, p.2.2), (66, .dead)]) ?_ ?_
  · simp only [EV, Nat.reduceEqDiff, Nat.reduceBEq, Nat.reduceLT, Nat.reduceLeDiff, Nat.reduceAdd, Nat.reduceSub, reduceIte]
    refine (p106 c2 _ 30 hc2 (by omega) (by omega)).call (fun _ => rfl) ?_
    rintro _ c3 hc3 ⟨q, rfl, q0, q1, _⟩
    have hk := hs _ (List.getElem_mem kn)
    have h4 : k.toNat < (l.map Ty.o).length := by simp; exact kn
    simp only [EV, Nat.reduceEqDiff, Nat.reduceBEq, Nat.reduceLT, Nat.reduceLeDiff, Nat.reduceAdd, Nat.reduceSub, reduceIte]
    rcases e0 : (q == 0) with _ | _
    rotate_left
    · simp only [e0, k0, kl, kn, nth_map kn, nth_set h4, List.getElem?_set_self h4, h4, modify_set, Ty.o, EV, Nat.reduceEqDiff, Nat.reduceBEq, Nat.reduceLT, Nat.reduceLeDiff, Nat.reduceAdd, Nat.reduceSub, reduceIte]
      obtain ⟨a, ha, he⟩ := set_ty l kn ⟨l[k.toNat].kind, IntKind.i64.wrap (l[k.toNat].long + 1), l[k.toNat].base, l[k.toNat].fields, l[k.toNat].owner, l[k.toNat].name⟩ (by unfold Ty.sm at hk ⊢; exact hk) hs l9
      exact ⟨(a, c3, .dead), ⟨ha, hc3.up (by omega)⟩, by rw [← he]; rfl⟩
    rcases e1 : (q == 1) with _ | _
    rotate_left
    · simp only [e0, e1, EV, Nat.reduceEqDiff, Nat.reduceBEq, Nat.reduceLT, Nat.reduceLeDiff, Nat.reduceAdd, Nat.reduceSub, reduceIte]
      refine (p97 c3 _ [⟨#[]⟩, ⟨#[73, 78, 84]⟩, ⟨#[84, 51]⟩] hc3 (by omega) (by decide) (by decide)).call (fun _ => rfl) ?_
      rintro _ c4 hc4 ⟨s, hs', rfl⟩
      simp only [e0, k0, kl, kn, nth_map kn, nth_set h4, List.getElem?_set_self h4, h4, modify_set, Ty.o, EV, Nat.reduceEqDiff, Nat.reduceBEq, Nat.reduceLT, Nat.reduceLeDiff, Nat.reduceAdd, Nat.reduceSub, reduceIte]
      have hs1 : (s.size : Int) ≤ 1048576 := by
        simp only [List.mem_cons, List.not_mem_nil, or_false] at hs'
        rcases hs' with rfl | rfl | rfl <;> decide
      obtain ⟨a, ha, he⟩ := set_ty l kn ⟨l[k.toNat].kind, l[k.toNat].long, l[k.toNat].base, l[k.toNat].fields, l[k.toNat].owner, s⟩ (by unfold Ty.sm at hk ⊢; exact ⟨trivial, trivial, trivial, hk.2.2.2.1, hk.2.2.2.2.1, hs1⟩) hs l9
      exact ⟨(a, c4, .dead), ⟨ha, hc4.up (by omega)⟩, by rw [← he]; rfl⟩
    rcases e2 : (q == 2) with _ | _
    rotate_left
    · simp only [e0, e1, e2, k0, kl, kn, nth_map kn, Ty.o, EV, Nat.reduceEqDiff, Nat.reduceBEq, Nat.reduceLT, Nat.reduceLeDiff, Nat.reduceAdd, Nat.reduceSub, reduceIte]
      rcases f0 : decide (0 < (l[k.toNat].fields.length : Int)) with _ | _
      · simp only [EV, Nat.reduceEqDiff, Nat.reduceBEq, Nat.reduceLT, Nat.reduceLeDiff, Nat.reduceAdd, Nat.reduceSub, reduceIte]
        exact ⟨(l, c3, .dead), ⟨⟨l9, hs⟩, hc3.up (by omega)⟩, rfl⟩
      · have f1 : 0 < l[k.toNat].fields.length := by have : 0 < (l[k.toNat].fields.length : Int) := by simpa using f0
                                                     omega
        have wl := w64 ((l.length : Int) + 1) (by omega)
        have hg : (l.map Ty.o)[k.toNat]? = some [.v (.int .i64 l[k.toNat].kind), .v (.int .i64 l[k.toNat].long), .v (.int .i64 l[k.toNat].base), .usl 57 3 (l[k.toNat].fields.map Fd.o), .v (.string l[k.toNat].owner), .v (.string l[k.toNat].name)] := by simp [kn, Ty.o]
        have f2 : (0 : Int) < (l[k.toNat].fields.length : Int) := by omega
        have f4 : 0 < (l[k.toNat].fields.map Fd.o).length := by simp; exact f1
        simp only [f0, k0, kl, kn, nth_map kn, wl, Ty.o, EV, Nat.reduceEqDiff, Nat.reduceBEq, Nat.reduceLT, Nat.reduceLeDiff, Nat.reduceAdd, Nat.reduceSub, reduceIte]
        refine ⟨?_, ?_⟩
        · refine (p106 c3 _ ((l.length : Int) + 1) hc3 (by omega) (by omega)).call (fun _ => rfl) ?_
          rintro _ c4 hc4 ⟨u, rfl, _⟩
          simp only [hg, modify_get hg, f1, f2, f4, k0, kl, kn, nth_map kn, nth_map f1, nth_set h4, List.getElem?_set_self h4, h4, modify_set, Ty.o, Fd.o, EV, Nat.reduceEqDiff, Nat.reduceBEq, Nat.reduceLT, Nat.reduceLeDiff, Nat.reduceAdd, Nat.reduceSub, reduceIte]
          refine ⟨by omega, ?_⟩
          obtain ⟨a, ha, he⟩ := set_ty l kn ⟨l[k.toNat].kind, l[k.toNat].long, l[k.toNat].base, l[k.toNat].fields.set 0 ⟨l[k.toNat].fields[0].name, l[k.toNat].fields[0].mark, u⟩, l[k.toNat].owner, l[k.toNat].name⟩ (by
            unfold Ty.sm at hk ⊢
            refine ⟨trivial, trivial, trivial, ⟨by simpa using hk.2.2.2.1.1, fun f hf => ?_⟩, hk.2.2.2.2.1, hk.2.2.2.2.2⟩
            rcases List.mem_or_eq_of_mem_set hf with h | h
            · exact hk.2.2.2.1.2 f h
            · rw [h]
              exact ⟨(hk.2.2.2.1.2 _ (List.getElem_mem f1)).1, trivial, trivial⟩) hs l9
          refine ⟨(a, c4, .dead), ⟨ha, hc4.up (by omega)⟩, ?_⟩
          simp only [← he, Ty.o, List.map_set]
          rfl
        · refine (p106 c3 _ ((l.length : Int) + 1) hc3 (by omega) (by omega)).call (fun _ => rfl) ?_
          rintro _ c4 hc4 ⟨u, rfl, _⟩
          simp only [hg, modify_get hg, f1, f2, f4, k0, kl, kn, nth_map kn, nth_map f1, nth_set h4, List.getElem?_set_self h4, h4, modify_set, Ty.o, Fd.o, EV, Nat.reduceEqDiff, Nat.reduceBEq, Nat.reduceLT, Nat.reduceLeDiff, Nat.reduceAdd, Nat.reduceSub, reduceIte]
          refine ⟨by omega, ?_⟩
          obtain ⟨a, ha, he⟩ := set_ty l kn ⟨l[k.toNat].kind, l[k.toNat].long, l[k.toNat].base, l[k.toNat].fields.set 0 ⟨l[k.toNat].fields[0].name, l[k.toNat].fields[0].mark, u⟩, l[k.toNat].owner, l[k.toNat].name⟩ (by
            unfold Ty.sm at hk ⊢
            refine ⟨trivial, trivial, trivial, ⟨by simpa using hk.2.2.2.1.1, fun f hf => ?_⟩, hk.2.2.2.2.1, hk.2.2.2.2.2⟩
            rcases List.mem_or_eq_of_mem_set hf with h | h
            · exact hk.2.2.2.1.2 f h
            · rw [h]
              exact ⟨(hk.2.2.2.1.2 _ (List.getElem_mem f1)).1, trivial, trivial⟩) hs l9
          refine ⟨(a, c4, .dead), ⟨ha, hc4.up (by omega)⟩, ?_⟩
          simp only [← he, Ty.o, List.map_set]
          rfl
    rcases e3 : (q == 3) with _ | _
    rotate_left
    · simp only [e0, e1, e2, e3, EV, Nat.reduceEqDiff, Nat.reduceBEq, Nat.reduceLT, Nat.reduceLeDiff, Nat.reduceAdd, Nat.reduceSub, reduceIte]
      refine (p106 c3 _ 8 hc3 (by omega) (by omega)).call (fun _ => rfl) ?_
      rintro _ c4 hc4 ⟨u, rfl, _⟩
      simp only [e0, k0, kl, kn, nth_map kn, nth_set h4, List.getElem?_set_self h4, h4, modify_set, Ty.o, EV, Nat.reduceEqDiff, Nat.reduceBEq, Nat.reduceLT, Nat.reduceLeDiff, Nat.reduceAdd, Nat.reduceSub, reduceIte]
      obtain ⟨a, ha, he⟩ := set_ty l kn ⟨u, l[k.toNat].long, l[k.toNat].base, l[k.toNat].fields, l[k.toNat].owner, l[k.toNat].name⟩ (by unfold Ty.sm at hk ⊢; exact hk) hs l9
      exact ⟨(a, c4, .dead), ⟨ha, hc4.up (by omega)⟩, by rw [← he]; rfl⟩
    rcases e4' : (q == 4) with _ | _
    rotate_left
    · simp only [e0, e1, e2, e3, e4', EV, Nat.reduceEqDiff, Nat.reduceBEq, Nat.reduceLT, Nat.reduceLeDiff, Nat.reduceAdd, Nat.reduceSub, reduceIte]
      refine (p106 c3 _ 4 hc3 (by omega) (by omega)).call (fun _ => rfl) ?_
      rintro _ c4 hc4 ⟨u, rfl, u0, u1, _⟩
      have u4 := u1 (by omega)
      simp only [EV, Nat.reduceEqDiff, Nat.reduceBEq, Nat.reduceLT, Nat.reduceLeDiff, Nat.reduceAdd, Nat.reduceSub, reduceIte]
      refine ⟨by omega, u0, by omega, (l.take u.toNat, c4, .v (.int .i64 u)), ⟨⟨by simp; omega, fun t ht => hs t (List.mem_of_mem_take ht)⟩, hc4.up (by omega)⟩, ?_⟩
      rw [← List.map_take]
    · simp only [e0, e1, e2, e3, e4', EV, Nat.reduceEqDiff, Nat.reduceBEq, Nat.reduceLT, Nat.reduceLeDiff, Nat.reduceAdd, Nat.reduceSub, reduceIte]
      exact ⟨(l, c3, .dead), ⟨⟨l9, hs⟩, hc3.up (by omega)⟩, rfl⟩
  · rintro ⟨l, c, x65⟩ ⟨⟨l9, hs⟩, hc⟩
    simp only at l9 hs hc
    simp only [EV, Nat.reduceEqDiff, Nat.reduceBEq, Nat.reduceLT, Nat.reduceLeDiff, Nat.reduceAdd, Nat.reduceSub, reduceIte]
    simp only [Ty.nfz, EV, Nat.reduceEqDiff, Nat.reduceBEq, Nat.reduceLT, Nat.reduceLeDiff, Nat.reduceAdd, Nat.reduceSub, reduceIte, evRE, retVC, cellV', evR, nfz, nfzs, nfzss, List.contains_nil, List.contains_cons, Bool.or_false, or_true]
    exact ⟨c, rfl, hc.up (by omega), l, rfl, l9, hs⟩

end Go.AM
namespace Go.AM
set_option linter.unusedVariables false
set_option linter.unusedSimpArgs false
/-- (*loop.example/g00837/spec.l1Cur).typed -/
def m95 : MC :=
  (.seq
   (.reg [⟨(some 2), none, .a (.asg (.nils 59 6))⟩,
     ⟨(some 3), none, .a (.asg (.c (.int .i64 0)))⟩])
   (.seq
    (.reg [⟨(some 5), none, .q (.mov (.t 0))⟩,
      ⟨(some 6), none, .a (.call (.fn 93) false [.io (.t 5)])⟩,
      ⟨(some 4), none, .a (.asg (.t 6))⟩])
    (.seq
     (.reg [⟨(some 7), none, .q (.mov (.t 4))⟩,
       ⟨(some 8), none, .q (.mov (.t 0))⟩,
       ⟨(some 9), none, .q (.mov (.t 4))⟩,
       ⟨(some 10), none, .q (.len false (.t 9))⟩,
       ⟨(some 11), none, .q (.bin false .add (.t 10) (.c (.int .i64 1)))⟩,
       ⟨(some 12), none, .a (.call (.fn 106) false [.io (.t 8), .lend (.t 11)])⟩,
       ⟨(some 13), none, .q (.mov (.t 0))⟩,
       ⟨(some 14), none, .a (.call (.fn 106) false [.io (.t 13), .lend (.c (.int .i64 20))])⟩,
       ⟨(some 15), none, .q (.bin false .quo (.t 14) (.c (.int .i64 19)))⟩,
       ⟨(some 16), none, .q (.bin false .sub (.t 12) (.t 15))⟩,
       ⟨(some 2), none, .a (.asg (.t 7))⟩,
       ⟨(some 3), none, .a (.asg (.t 16))⟩])
     .ret)))

set_option maxRecDepth 100000 in
theorem p95 (c : Cur) (n : Int) (hc : c.ok n) (hn : n ≤ 115292150460) : Draws 95 [] c n 630 fun r => ∃ (l : List Ty) (x : Int), r = .tup [.usl 59 6 (l.map Ty.o), .v (.int .i64 x)] ∧ l.length ≤ 9 ∧ (∀ t ∈ l, t.sm) ∧ -10 ≤ x ∧ x ≤ 10 := by
  refine doesE_intro (mc := m95) (N := 17) (rs := [2, 3]) (fx := [0]) 1 rfl (by decide +kernel) ?_
  simp only [m95, EV, Nat.reduceEqDiff, Nat.reduceBEq, Nat.reduceLT, Nat.reduceLeDiff, Nat.reduceAdd, Nat.reduceSub, reduceIte]
  refine (p93 c n hc hn).call (fun _ => rfl) ?_
  rintro _ c1 hc1 ⟨l, rfl, l9, hs⟩
  have wl := w64 ((l.length : Int) + 1) (by omega)
  simp only [wl, EV, Nat.reduceEqDiff, Nat.reduceBEq, Nat.reduceLT, Nat.reduceLeDiff, Nat.reduceAdd, Nat.reduceSub, reduceIte]
  refine (p106 c1 _ ((l.length : Int) + 1) hc1 (by omega) (by omega)).call (fun _ => rfl) ?_
  rintro _ c2 hc2 ⟨u, rfl, u0, u1, u2⟩
  simp only [wl, EV, Nat.reduceEqDiff, Nat.reduceBEq, Nat.reduceLT, Nat.reduceLeDiff, Nat.reduceAdd, Nat.reduceSub, reduceIte]
  refine (p106 c2 _ 20 hc2 (by omega) (by omega)).call (fun _ => rfl) ?_
  rintro _ c3 hc3 ⟨v, rfl, v0, v1, _⟩
  have v2 := v1 (by omega)
  have hu : u ≤ 9 := by
    by_cases h : 1 < (l.length : Int) + 1
    · have := u1 h; omega
    · have := u2 (by omega); omega
  have hv : v.tdiv 19 = v / 19 := Int.tdiv_eq_ediv_of_nonneg v0
  have w1 := w64 (v / 19) (by omega)
  have w2 := w64 (u - v / 19) (by omega)
  simp only [hv, w1, w2, EV, Nat.reduceEqDiff, Nat.reduceBEq, Nat.reduceLT, Nat.reduceLeDiff, Nat.reduceAdd, Nat.reduceSub, reduceIte]
  refine ⟨by omega, ?_⟩
  simp only [Ty.nfz, EV, Nat.reduceEqDiff, Nat.reduceBEq, Nat.reduceLT, Nat.reduceLeDiff, Nat.reduceAdd, Nat.reduceSub, reduceIte, evRE, retVC, cellV', evR, nfz, nfzs, nfzss, List.contains_nil, List.contains_cons, Bool.or_false, or_true]
  exact ⟨c3, rfl, hc3.up (by omega), l, u - v / 19, rfl, l9, hs, by omega, by omega⟩

end Go.AM
namespace Go.AM
set_option linter.unusedVariables false
set_option linter.unusedSimpArgs false
/-- loop.example/g00837/impl.IsRound -/
def m59 : MC :=
  (.seq
   (.reg [⟨(some 4), none, .a (.asg (.c (.bool false)))⟩,
     ⟨(some 5), none, .a (.asg (.c (.bool false)))⟩])
   (.seq
    (.seq
     (.reg [⟨(some 6), none, .q (.mov (.t 0))⟩,
       ⟨(some 7), none, .a (.call (.fn 108) false [.lend (.t 6)])⟩,
       ⟨(some 8), none, .q (.un .not (.t 7))⟩,
       ⟨(some 9), none, .q (.mov (.t 8))⟩,
       ⟨(some 10), (some (9, false)), .q (.mov (.t 0))⟩,
       ⟨(some 11), (some (9, false)), .q (.mov (.t 1))⟩,
       ⟨(some 12), (some (9, false)), .a (.call (.fn 80) false [.lend (.t 10), .lend (.t 11)])⟩,
       ⟨(some 13), (some (9, false)), .q (.un .not (.t 12))⟩,
       ⟨(some 14), none, .q (.pick (.t 9) (.c (.bool true)) (.t 13))⟩])
     (.cond (.t 14)
      (.seq
       (.reg [⟨(some 4), none, .a (.asg (.c (.bool false)))⟩,
         ⟨(some 5), none, .a (.asg (.c (.bool false)))⟩])
       .ret)
      .skip))
    (.seq
     (.reg [⟨(some 15), none, .q (.mov (.t 0))⟩,
       ⟨(some 16), none, .q (.mov (.t 1))⟩,
       ⟨(some 17), none, .a (.call (.fn 109) false [.lend (.t 15), .lend (.t 16)])⟩,
       ⟨(some 4), none, .a (.asg (.t 17))⟩,
       ⟨(some 5), none, .a (.asg (.c (.bool true)))⟩])
     .ret)))

set_option maxRecDepth 100000 in
theorem d59 (l : List Ty) (n : Int) (hl : (l.length : Int) ≤ 1048576) (hs : ∀ s ∈ l, s.sm) : Does Go.Proofs.Try.prog 59 [.fsl 6 (l.map Ty.z), .v (.int .i64 n)] false (.tup [.v (.bool (tysOk l && isNum l n && roundAt l n)), .v (.bool (tysOk l && isNum l n))]) [.dead, .dead] := by
  refine does_intro (mc := m59) (N := 18) (rs := [4, 5]) (fx := []) 2 rfl (by decide +kernel) ?_
  simp only [m59, EV, Nat.reduceEqDiff, Nat.reduceBEq, Nat.reduceLT, Nat.reduceLeDiff, Nat.reduceAdd, Nat.reduceSub, reduceIte]
  refine callK_i (d108 l hl hs) ?_
  simp only [EV, Nat.reduceEqDiff, Nat.reduceBEq, Nat.reduceLT, Nat.reduceLeDiff, Nat.reduceAdd, Nat.reduceSub, reduceIte]
  rcases e : tysOk l with _ | _
  · simp only [Bool.not_false, EV, Nat.reduceEqDiff, Nat.reduceBEq, Nat.reduceLT, Nat.reduceLeDiff, Nat.reduceAdd, Nat.reduceSub, reduceIte]
    simp only [e, Bool.false_and, EV, Nat.reduceEqDiff, Nat.reduceBEq, Nat.reduceLT, Nat.reduceLeDiff, Nat.reduceAdd, Nat.reduceSub, reduceIte, evRE, retVC, cellV', evR, nfz, nfzs, nfzss, List.contains_nil, List.contains_cons, Bool.or_false, or_true]
  simp only [Bool.not_true, EV, Nat.reduceEqDiff, Nat.reduceBEq, Nat.reduceLT, Nat.reduceLeDiff, Nat.reduceAdd, Nat.reduceSub, reduceIte]
  refine callK_i (d80 l n hl) ?_
  simp only [EV, Nat.reduceEqDiff, Nat.reduceBEq, Nat.reduceLT, Nat.reduceLeDiff, Nat.reduceAdd, Nat.reduceSub, reduceIte]
  rcases e1 : isNum l n with _ | _
  · simp only [Bool.not_false, EV, Nat.reduceEqDiff, Nat.reduceBEq, Nat.reduceLT, Nat.reduceLeDiff, Nat.reduceAdd, Nat.reduceSub, reduceIte]
    simp only [Bool.and_false, Bool.false_and, EV, Nat.reduceEqDiff, Nat.reduceBEq, Nat.reduceLT, Nat.reduceLeDiff, Nat.reduceAdd, Nat.reduceSub, reduceIte, evRE, retVC, cellV', evR, nfz, nfzs, nfzss, List.contains_nil, List.contains_cons, Bool.or_false, or_true]
  obtain ⟨n0, n1⟩ := isNum_in.1 e1
  simp only [Bool.not_true, EV, Nat.reduceEqDiff, Nat.reduceBEq, Nat.reduceLT, Nat.reduceLeDiff, Nat.reduceAdd, Nat.reduceSub, reduceIte]
  refine callK_i (d109 l n hl hs e n0 n1) ?_
  simp only [EV, Nat.reduceEqDiff, Nat.reduceBEq, Nat.reduceLT, Nat.reduceLeDiff, Nat.reduceAdd, Nat.reduceSub, reduceIte]
  simp only [Bool.and_self, Bool.true_and, EV, Nat.reduceEqDiff, Nat.reduceBEq, Nat.reduceLT, Nat.reduceLeDiff, Nat.reduceAdd, Nat.reduceSub, reduceIte, evRE, retVC, cellV', evR, nfz, nfzs, nfzss, List.contains_nil, List.contains_cons, Bool.or_false, or_true]

/-- loop.example/g00837/spec.IsRound -/
def m60 : MC :=
  (.seq
   (.reg [⟨(some 4), none, .a (.asg (.c (.bool false)))⟩,
     ⟨(some 5), none, .a (.asg (.c (.bool false)))⟩])
   (.seq
    (.seq
     (.reg [⟨(some 6), none, .q (.mov (.t 0))⟩,
       ⟨(some 7), none, .a (.call (.fn 110) false [.lend (.t 6)])⟩,
       ⟨(some 8), none, .q (.un .not (.t 7))⟩,
       ⟨(some 9), none, .q (.mov (.t 8))⟩,
       ⟨(some 10), (some (9, false)), .q (.mov (.t 1))⟩,
       ⟨(some 11), (some (9, false)), .q (.mov (.t 0))⟩,
       ⟨(some 12), (some (9, false)), .q (.len false (.t 11))⟩,
       ⟨(some 13), (some (9, false)), .q (.bin false .sub (.t 12) (.c (.int .i64 1)))⟩,
       ⟨(some 14), (some (9, false)), .a (.call (.fn 77) false [.lend (.t 10), .lend (.c (.int .i64 0)), .lend (.t 13)])⟩,
       ⟨(some 15), (some (9, false)), .q (.un .not (.t 14))⟩,
       ⟨(some 16), none, .q (.pick (.t 9) (.c (.bool true)) (.t 15))⟩])
     (.cond (.t 16)
      (.seq
       (.reg [⟨(some 4), none, .a (.asg (.c (.bool false)))⟩,
         ⟨(some 5), none, .a (.asg (.c (.bool false)))⟩])
       .ret)
      .skip))
    (.seq
     (.reg [⟨(some 17), none, .q (.mov (.t 0))⟩,
       ⟨(some 18), none, .q (.mov (.t 1))⟩,
       ⟨(some 19), none, .a (.call (.fn 111) false [.lend (.t 17), .lend (.t 18)])⟩,
       ⟨(some 4), none, .a (.asg (.t 19))⟩,
       ⟨(some 5), none, .a (.asg (.c (.bool true)))⟩])
     .ret)))

set_option maxRecDepth 100000 in
theorem d60 (l : List Ty) (n : Int) (hl : (l.length : Int) ≤ 1048576) (hs : ∀ s ∈ l, s.sm) : Does Go.Proofs.Try.prog 60 [.fsl 6 (l.map Ty.z), .v (.int .i64 n)] false (.tup [.v (.bool (tysOk l && isNum l n && roundAt l n)), .v (.bool (tysOk l && isNum l n))]) [.dead, .dead] := by
  have w := w64 ((l.length : Int) - 1) (by omega)
  have e0 : (decide (0 ≤ n) && decide (n ≤ (l.length : Int) - 1)) = isNum l n := rfl
  refine does_intro (mc := m60) (N := 20) (rs := [4, 5]) (fx := []) 2 rfl (by decide +kernel) ?_
  simp only [m60, EV, Nat.reduceEqDiff, Nat.reduceBEq, Nat.reduceLT, Nat.reduceLeDiff, Nat.reduceAdd, Nat.reduceSub, reduceIte]
  refine callK_i (d110 l hl hs) ?_
  simp only [EV, Nat.reduceEqDiff, Nat.reduceBEq, Nat.reduceLT, Nat.reduceLeDiff, Nat.reduceAdd, Nat.reduceSub, reduceIte]
  rcases e : tysOk l with _ | _
  · simp only [Bool.not_false, EV, Nat.reduceEqDiff, Nat.reduceBEq, Nat.reduceLT, Nat.reduceLeDiff, Nat.reduceAdd, Nat.reduceSub, reduceIte]
    simp only [e, Bool.false_and, EV, Nat.reduceEqDiff, Nat.reduceBEq, Nat.reduceLT, Nat.reduceLeDiff, Nat.reduceAdd, Nat.reduceSub, reduceIte, evRE, retVC, cellV', evR, nfz, nfzs, nfzss, List.contains_nil, List.contains_cons, Bool.or_false, or_true]
  simp only [Bool.not_true, w, EV, Nat.reduceEqDiff, Nat.reduceBEq, Nat.reduceLT, Nat.reduceLeDiff, Nat.reduceAdd, Nat.reduceSub, reduceIte]
  refine callK_i (d77 n 0 ((l.length : Int) - 1)) ?_
  rw [e0]
  simp only [EV, Nat.reduceEqDiff, Nat.reduceBEq, Nat.reduceLT, Nat.reduceLeDiff, Nat.reduceAdd, Nat.reduceSub, reduceIte]
  rcases e1 : isNum l n with _ | _
  · simp only [Bool.not_false, EV, Nat.reduceEqDiff, Nat.reduceBEq, Nat.reduceLT, Nat.reduceLeDiff, Nat.reduceAdd, Nat.reduceSub, reduceIte]
    simp only [Bool.and_false, Bool.false_and, EV, Nat.reduceEqDiff, Nat.reduceBEq, Nat.reduceLT, Nat.reduceLeDiff, Nat.reduceAdd, Nat.reduceSub, reduceIte, evRE, retVC, cellV', evR, nfz, nfzs, nfzss, List.contains_nil, List.contains_cons, Bool.or_false, or_true]
  obtain ⟨n0, n1⟩ := isNum_in.1 e1
  simp only [Bool.not_true, EV, Nat.reduceEqDiff, Nat.reduceBEq, Nat.reduceLT, Nat.reduceLeDiff, Nat.reduceAdd, Nat.reduceSub, reduceIte]
  refine callK_i (d111 l n hl hs e n0 n1) ?_
  simp only [EV, Nat.reduceEqDiff, Nat.reduceBEq, Nat.reduceLT, Nat.reduceLeDiff, Nat.reduceAdd, Nat.reduceSub, reduceIte]
  simp only [Bool.and_self, Bool.true_and, EV, Nat.reduceEqDiff, Nat.reduceBEq, Nat.reduceLT, Nat.reduceLeDiff, Nat.reduceAdd, Nat.reduceSub, reduceIte, evRE, retVC, cellV', evR, nfz, nfzs, nfzss, List.contains_nil, List.contains_cons, Bool.or_false, or_true]

/-- loop.example/g00837/spec.DrawSizeOf -/
def m53 : MC :=
  (.seq
   (.reg [⟨(some 2), none, .a (.asg (.nils 59 6))⟩,
     ⟨(some 3), none, .a (.asg (.c (.int .i64 0)))⟩])
   (.seq
    (.reg [⟨(some 5), none, .q (.mov (.t 0))⟩,
      ⟨(some 6), none, .a (.build [0] [0] [1] [.s 5 1, .v (.int .i64 0), .v (.int .u64 0)] [.t 5])⟩,
      ⟨(some 7), none, .a (.box 115 (.t 6))⟩,
      ⟨(some 4), none, .a (.asg (.t 7))⟩])
    (.seq
     (.reg [⟨(some 8), none, .q (.mov (.t 4))⟩,
       ⟨(some 9), none, .a (.call (.fn 95) false [.io (.t 8)])⟩,
       ⟨(some 10), none, .q (.ext 9 0)⟩,
       ⟨(some 11), none, .q (.ext 9 1)⟩,
       ⟨(some 2), none, .a (.asg (.t 10))⟩,
       ⟨(some 3), none, .a (.asg (.t 11))⟩])
     .ret)))

set_option maxRecDepth 100000 in
theorem p53 (code : List Int) (hl : (code.length : Int) ≤ 1048576) (hb : ∀ b ∈ code, 0 ≤ b ∧ b ≤ 255) :
    DoesE Go.Proofs.Try.prog 53 [.fsl 1 (code.map bv)] true fun r o => o = [.dead] ∧ ∃ (l : List Ty) (n : Int), r = .tup [.usl 59 6 (l.map Ty.o), .v (.int .i64 n)] ∧ l.length ≤ 9 ∧ ∀ t ∈ l, t.sm := by
  have hc : Cur.ok ⟨code, 0, 0⟩ 0 := ⟨hl, hb, Int.le_refl _, Int.le_refl _⟩
  have pc := p95 ⟨code, 0, 0⟩ 0 hc (by omega)
  refine doesE_intro (mc := m53) (N := 12) (rs := [2, 3]) (fx := []) 1 rfl (by decide +kernel) ?_
  simp only [m53, EV, Nat.reduceEqDiff, Nat.reduceBEq, Nat.reduceLT, Nat.reduceLeDiff, Nat.reduceAdd, Nat.reduceSub, reduceIte]
  refine pc.call (fun _ => rfl) ?_
  rintro _ c1 hc1 ⟨l, x, rfl, l9, hs, x0, x1⟩
  simp only [EV, Nat.reduceEqDiff, Nat.reduceBEq, Nat.reduceLT, Nat.reduceLeDiff, Nat.reduceAdd, Nat.reduceSub, reduceIte]
  simp only [Ty.nfz, EV, Nat.reduceEqDiff, Nat.reduceBEq, Nat.reduceLT, Nat.reduceLeDiff, Nat.reduceAdd, Nat.reduceSub, reduceIte, evRE, retVC, cellV', evR, nfz, nfzs, nfzss, List.contains_nil, List.contains_cons, Bool.or_false, or_true]
  exact ⟨l, x, rfl, l9, hs⟩

end Go.AM
