/- Contracts of functions of the given program, for the law FnExactLayoutOf: what they return and what they write, under the bounds that each theorem states. -/
import Derived.Test.YtjbmgopednpbmaaGreatG2
import Derived.RangeFuncBox
import Derived.RangeFuncLeaves
import Derived.RangeFuncNested
import Derived.Shelf.Abstract
import Derived.WalkKit
import Derived.OwnWalkIn
import Derived.TacticsInMore
import Derived.LoopNIn
import Derived.LoopIn
import Derived.RangeFuncBound
import Derived.RangeFuncCalls
import Derived.Deep.RegionHeld3
namespace Go.AM
set_option linter.unusedVariables false
set_option linter.unusedSimpArgs false
theorem tyNm_comm (x o : Ty) : tyNm x o = ((x.name.toList == o.name.toList) && (x.owner.toList == o.owner.toList)) := by
  unfold tyNm
  rw [Bool.beq_comm, Bool.beq_comm (a := o.owner.toList)]

theorem tysOk_base' {l : List Ty} (h : baseOk l = false) : tysOk l = false := by
  unfold tysOk
  unfold baseOk at h
  rcases e : decide (3 ≤ (l.length : Int)) with _ | _
  · simp only [Bool.false_and]
  · rw [e, Bool.true_and] at h
    simp only [h, Bool.false_and, Bool.and_false]

theorem tysOk_long {l : List Ty} (h : 24 < (l.length : Int)) : tysOk l = false := by
  unfold tysOk
  have : decide ((l.length : Int) ≤ 24) = false := decide_eq_false (by omega)
  simp only [this, Bool.false_and, Bool.and_false]

/-- loop.example/g00837/spec.l3Nearly -/
def m71 : MC :=
  (.seq
   (.reg [⟨(some 2), none, .a (.asg (.c (.bool false)))⟩])
   (.seq
    (.seq
     (.reg [⟨(some 7), none, .q (.mov (.t 0))⟩,
       ⟨(some 8), none, .a (.call (.fn 91) false [.lend (.t 7)])⟩,
       ⟨(some 9), none, .q (.un .not (.t 8))⟩,
       ⟨(some 10), none, .q (.mov (.t 9))⟩,
       ⟨(some 11), (some (10, false)), .q (.mov (.t 0))⟩,
       ⟨(some 12), (some (10, false)), .q (.len false (.t 11))⟩,
       ⟨(some 13), (some (10, false)), .q (.bin false .gtr (.t 12) (.c (.int .i64 24)))⟩,
       ⟨(some 14), none, .q (.pick (.t 10) (.c (.bool true)) (.t 13))⟩])
     (.cond (.t 14)
      (.seq
       (.reg [⟨(some 2), none, .a (.asg (.c (.bool false)))⟩])
       .ret)
      .skip))
    (.seq
     (.seq
      (.reg [⟨(some 15), none, .q (.mov (.t 0))⟩,
        ⟨(some 16), none, .q (.slc false 6 (.t 15) (some (.c (.int .i64 3))) none)⟩,
        ⟨(some 17), none, .q (.len false (.t 16))⟩,
        ⟨(some 18), none, .q (.mov (.c (.int .i64 0)))⟩])
      (.block 0
       (.loop [0, 15, 16, 17, 18]
        (.seq
         (.reg [⟨(some 19), none, .q (.bin false .lss (.t 18) (.t 17))⟩])
         (.seq
          (.cond (.t 19)
           .skip
           (.exit 0))
          (.seq
           (.block 1
            (.seq
             (.reg [⟨(some 20), none, .q (.mov (.t 18))⟩,
               ⟨(some 21), none, .q (.iad 6 (.t 16) (.t 18))⟩,
               ⟨(some 22), none, .q (.load true 6 (.t 21))⟩,
               ⟨(some 4), none, .a (.alloc 34 [.v (.int .i64 0), .v (.int .i64 0), .v (.int .i64 0), .s 56 3, .v (.string ({ data := #[] })), .v (.string ({ data := #[] }))])⟩,
               ⟨(some 3), none, .a (.asg (.t 20))⟩,
               ⟨none, none, .a (.store 6 (.t 4) (.t 22))⟩])
             (.seq
              (.seq
               (.reg [⟨(some 23), none, .q (.mov (.t 0))⟩,
                 ⟨(some 24), none, .q (.load true 6 (.t 4))⟩,
                 ⟨(some 25), none, .a (.call (.fn 92) false [.lend (.t 23), .lend (.t 24)])⟩,
                 ⟨(some 26), none, .q (.un .not (.t 25))⟩])
               (.cond (.t 26)
                (.seq
                 (.reg [⟨(some 2), none, .a (.asg (.c (.bool false)))⟩])
                 .ret)
                .skip))
              (.seq
               (.reg [⟨(some 27), none, .q (.mov (.t 0))⟩,
                 ⟨(some 28), none, .q (.mov (.t 3))⟩,
                 ⟨(some 29), none, .q (.bin false .add (.c (.int .i64 3)) (.t 28))⟩,
                 ⟨(some 30), none, .q (.slc false 6 (.t 27) (some (.c (.int .i64 3))) (some (.t 29)))⟩,
                 ⟨(some 31), none, .q (.len false (.t 30))⟩,
                 ⟨(some 32), none, .q (.mov (.c (.int .i64 0)))⟩])
               (.block 2
                (.loop [0, 4, 15, 16, 17, 18, 27, 29, 30, 31, 32]
                 (.seq
                  (.reg [⟨(some 33), none, .q (.bin false .lss (.t 32) (.t 31))⟩])
                  (.seq
                   (.cond (.t 33)
                    .skip
                    (.exit 2))
                   (.seq
                    (.block 3
                     (.seq
                      (.reg [⟨(some 34), none, .q (.iad 6 (.t 30) (.t 32))⟩,
                        ⟨(some 35), none, .q (.load true 6 (.t 34))⟩,
                        ⟨(some 6), none, .a (.alloc 34 [.v (.int .i64 0), .v (.int .i64 0), .v (.int .i64 0), .s 56 3, .v (.string ({ data := #[] })), .v (.string ({ data := #[] }))])⟩,
                        ⟨none, none, .a (.store 6 (.t 6) (.t 35))⟩])
                      (.seq
                       (.reg [⟨(some 36), none, .q (.fad 5 (.t 4))⟩,
                         ⟨(some 37), none, .q (.load false 1 (.t 36))⟩,
                         ⟨(some 38), none, .q (.bin false .neq (.t 37) (.c (.string ({ data := #[] }))))⟩,
                         ⟨(some 39), none, .q (.mov (.t 38))⟩,
                         ⟨(some 40), (some (39, true)), .q (.fad 5 (.t 4))⟩,
                         ⟨(some 41), (some (39, true)), .q (.load false 1 (.t 40))⟩,
                         ⟨(some 42), (some (39, true)), .q (.fad 5 (.t 6))⟩,
                         ⟨(some 43), (some (39, true)), .q (.load false 1 (.t 42))⟩,
                         ⟨(some 44), (some (39, true)), .q (.bin false .eql (.t 41) (.t 43))⟩,
                         ⟨(some 45), none, .q (.pick (.t 39) (.t 44) (.c (.bool false)))⟩,
                         ⟨(some 46), none, .q (.mov (.t 45))⟩,
                         ⟨(some 47), (some (46, true)), .q (.fad 4 (.t 4))⟩,
                         ⟨(some 48), (some (46, true)), .q (.load false 1 (.t 47))⟩,
                         ⟨(some 49), (some (46, true)), .q (.fad 4 (.t 6))⟩,
                         ⟨(some 50), (some (46, true)), .q (.load false 1 (.t 49))⟩,
                         ⟨(some 51), (some (46, true)), .q (.bin false .eql (.t 48) (.t 50))⟩,
                         ⟨(some 52), none, .q (.pick (.t 46) (.t 51) (.c (.bool false)))⟩])
                       (.cond (.t 52)
                        (.seq
                         (.reg [⟨(some 2), none, .a (.asg (.c (.bool false)))⟩])
                         .ret)
                        .skip))))
                    (.reg [⟨(some 53), none, .q (.bin false .add (.t 32) (.c (.int .i64 1)))⟩,
                      ⟨(some 32), none, .q (.mov (.t 53))⟩]))))))))))
           (.reg [⟨(some 54), none, .q (.bin false .add (.t 18) (.c (.int .i64 1)))⟩,
             ⟨(some 18), none, .q (.mov (.t 54))⟩])))))))
     (.seq
      (.reg [⟨(some 2), none, .a (.asg (.c (.bool true)))⟩])
      .ret))))

set_option maxHeartbeats 1000000 in
set_option maxRecDepth 100000 in
theorem d71 (l : List Ty) (hl : (l.length : Int) ≤ 1048576) (hs : ∀ s ∈ l, s.sm) : Does Go.Proofs.Tryz.prog 71 [.fsl 6 (l.map Ty.z)] false (.v (.bool (tysOk l))) [.dead] := by
  refine does_intro (mc := m71) (N := 55) (rs := [2]) (fx := []) 1 rfl (by decide +kernel) ?_
  simp only [m71, EV, Nat.reduceEqDiff, Nat.reduceBEq, Nat.reduceLT, Nat.reduceLeDiff, Nat.reduceAdd, Nat.reduceSub, reduceIte]
  refine callK_i (d91 l hl) ?_
  simp only [EV, Nat.reduceEqDiff, Nat.reduceBEq, Nat.reduceLT, Nat.reduceLeDiff, Nat.reduceAdd, Nat.reduceSub, reduceIte]
  rcases hb : baseOk l with _ | _
  · have e : tysOk l = false := tysOk_base' hb
    simp only [EV, Nat.reduceEqDiff, Nat.reduceBEq, Nat.reduceLT, Nat.reduceLeDiff, Nat.reduceAdd, Nat.reduceSub, reduceIte]
    simp only [e, EV, Nat.reduceEqDiff, Nat.reduceBEq, Nat.reduceLT, Nat.reduceLeDiff, Nat.reduceAdd, Nat.reduceSub, reduceIte, evRE, retVC, cellV', evR, nfz, nfzs, nfzss, List.contains_nil, List.contains_cons, Bool.or_false, or_true]
  simp only [EV, Nat.reduceEqDiff, Nat.reduceBEq, Nat.reduceLT, Nat.reduceLeDiff, Nat.reduceAdd, Nat.reduceSub, reduceIte]
  refine cK_cut (fun h => ?_) (fun h => ?_)
  · have e : tysOk l = false := tysOk_long (by simpa using h)
    simp only [EV, Nat.reduceEqDiff, Nat.reduceBEq, Nat.reduceLT, Nat.reduceLeDiff, Nat.reduceAdd, Nat.reduceSub, reduceIte]
    simp only [e, EV, Nat.reduceEqDiff, Nat.reduceBEq, Nat.reduceLT, Nat.reduceLeDiff, Nat.reduceAdd, Nat.reduceSub, reduceIte, evRE, retVC, cellV', evR, nfz, nfzs, nfzss, List.contains_nil, List.contains_cons, Bool.or_false, or_true]
  have h24 : (l.length : Int) ≤ 24 := by have : ¬ 24 < (l.length : Int) := by simpa using h
                                         omega
  have hbo := hb
  simp only [baseOk, Bool.and_eq_true, decide_eq_true_eq] at hbo
  obtain ⟨hl3, e2⟩ := hbo
  have e1 : (decide (3 ≤ (l.length : Int)) && decide ((l.length : Int) ≤ 24)) = true := by rw [decide_eq_true hl3, decide_eq_true h24]; rfl
  clear h
  have h3 : ((3 : Nat) : Int) = 3 := rfl
  have t3 : (3 : Int).toNat = 3 := rfl
  simp only [h3, EV, Nat.reduceEqDiff, Nat.reduceBEq, Nat.reduceLT, Nat.reduceLeDiff, Nat.reduceAdd, Nat.reduceSub, reduceIte]
  refine ⟨by omega, hl3, by omega, ?_⟩
  simp only [← List.map_drop, ← List.map_take, t3]
  have hm : ∃ m, l.drop 3 = m := ⟨_, rfl⟩
  obtain ⟨m, hm⟩ := hm
  have hml : (m.length : Int) = (l.length : Int) - 3 := by rw [← hm]; simp; omega
  have hsub : ∀ x ∈ m, x ∈ l := by rw [← hm]; exact fun x hx => List.mem_of_mem_drop hx
  have p9 : ∀ i (h : i < m.length), tyAt l m i h = false → tysOk l = false := by
    subst hm; exact fun i h e => tysOk_no h e
  refine awp_loop (fun i : Nat => i ≤ m.length ∧ tyTo l m i) (fun i => stl [(0, .fsl 6 (l.map Ty.z)), (15, .fsl 6 (l.map Ty.z)), (16, .fsl 6 (m.map Ty.z)), (17, .v (.int .i64 (m.length : Int))), (18, .v (.int .i64 (i : Int)))]) (fun i => m.length - i) 0 ⟨Nat.zero_le _, fun j hj h => absurd h (by omega)⟩ ?_ ?_
  · have htk : List.take (l.length - 3) m = m := List.take_of_length_le (by omega)
    simp only [hm, htk, EV, Nat.reduceEqDiff, Nat.reduceBEq, Nat.reduceLT, Nat.reduceLeDiff, Nat.reduceAdd, Nat.reduceSub, reduceIte]
    rfl
  · rintro i ⟨hi, hok⟩
    simp only [EV, Nat.reduceEqDiff, Nat.reduceBEq, Nat.reduceLT, Nat.reduceLeDiff, Nat.reduceAdd, Nat.reduceSub, reduceIte]
    refine cK_cut (fun h => ?_) (fun h => ?_)
    · have h1 : i < m.length := by simpa using h
      have h2 : (i : Int) < (m.length : Int) := by omega
      have hso : m[i].sm := hs m[i] (hsub _ (List.getElem_mem h1))
      clear h
      have hw : IntKind.i64.wrap (3 + (i : Int)) = ((3 + i : Nat) : Int) := by rw [w64 _ (by omega)]; omega
      have hdt : List.take (3 + i - 3) (List.drop 3 (l.map Ty.z)) = (m.take i).map Ty.z := by
        rw [← hm, Nat.add_sub_cancel_left, ← List.map_drop, ← List.map_take]
      have ht : (m.take i).length = i := by simp; omega
      have hcl : Ty.z m[i] = [.v (.int .i64 m[i].kind), .v (.int .i64 m[i].long), .v (.int .i64 m[i].base), .fsl 3 (m[i].fields.map Fd.z), .v (.string m[i].owner), .v (.string m[i].name)] := rfl
      have d7 := d92 l m[i] hl hso
      rw [hcl] at d7
      have en : (m[i].name.toList == (⟨#[]⟩ : ByteArray).toList) = nil' m[i].name := rfl
      simp only [TyE, nth_map h1, h2, h3, Ty.z, EV, Nat.reduceEqDiff, Nat.reduceBEq, Nat.reduceLT, Nat.reduceLeDiff, Nat.reduceAdd, Nat.reduceSub, reduceIte]
      refine callK_i d7 ?_
      simp only [EV, Nat.reduceEqDiff, Nat.reduceBEq, Nat.reduceLT, Nat.reduceLeDiff, Nat.reduceAdd, Nat.reduceSub, reduceIte]
      rcases e5 : tyOk l m[i] with _ | _
      · have e : tysOk l = false := p9 i h1 (by simp only [tyAt, e5, Bool.and_false])
        simp only [EV, Nat.reduceEqDiff, Nat.reduceBEq, Nat.reduceLT, Nat.reduceLeDiff, Nat.reduceAdd, Nat.reduceSub, reduceIte]
        simp only [e, EV, Nat.reduceEqDiff, Nat.reduceBEq, Nat.reduceLT, Nat.reduceLeDiff, Nat.reduceAdd, Nat.reduceSub, reduceIte, evRE, retVC, cellV', evR, nfz, nfzs, nfzss, List.contains_nil, List.contains_cons, Bool.or_false, or_true]
      simp only [h3, hw, t3, EV, Nat.reduceEqDiff, Nat.reduceBEq, Nat.reduceLT, Nat.reduceLeDiff, Nat.reduceAdd, Nat.reduceSub, reduceIte]
      refine ⟨by omega, by omega, by omega, ?_⟩
      rw [hdt]
      refine awp_loop (fun k : Nat => k ≤ i ∧ (nil' m[i].name = true ∨ ((m.take i).take k).any (tyNm m[i]) = false)) (fun k => stl [(0, .fsl 6 (l.map Ty.z)), (4, .box 34 m[i].z), (15, .fsl 6 (l.map Ty.z)), (16, .fsl 6 (m.map Ty.z)), (17, .v (.int .i64 (m.length : Int))), (18, .v (.int .i64 (i : Int))), (27, .fsl 6 (l.map Ty.z)), (29, .v (.int .i64 ((3 + i : Nat) : Int))), (30, .fsl 6 ((m.take i).map Ty.z)), (31, .v (.int .i64 (i : Int))), (32, .v (.int .i64 (k : Int)))]) (fun k => i - k) 0 ⟨Nat.zero_le _, Or.inr (by simp)⟩ ?_ ?_
      · simp only [Ty.z, EV, Nat.reduceEqDiff, Nat.reduceBEq, Nat.reduceLT, Nat.reduceLeDiff, Nat.reduceAdd, Nat.reduceSub, reduceIte]
        rw [ht]
        rfl
      · rintro k ⟨hk, hno⟩
        simp only [Ty.z, EV, Nat.reduceEqDiff, Nat.reduceBEq, Nat.reduceLT, Nat.reduceLeDiff, Nat.reduceAdd, Nat.reduceSub, reduceIte]
        refine cK_cut (fun h => ?_) (fun h => ?_)
        · have k3 : k < i := by have : (k : Int) < i := by simpa using h
                                omega
          have k1 : k < (m.take i).length := by rw [ht]; exact k3
          have k2 : (k : Int) < i := by omega
          clear h
          have hnx : tyNm m[i] (m.take i)[k] = false → ∃ a, (a ≤ i ∧ (nil' m[i].name = true ∨ ((m.take i).take a).any (tyNm m[i]) = false)) ∧ i - a < i - k ∧ a = k + 1 := by
            intro e
            refine ⟨k + 1, ⟨by omega, ?_⟩, by omega, rfl⟩
            rcases hno with hno | hno
            · exact .inl hno
            · exact .inr (any_take k1 hno e)
          simp only [TyE, nth_map k1, k2, k3, ht, Ty.z, EV, Nat.reduceEqDiff, Nat.reduceBEq, Nat.reduceLT, Nat.reduceLeDiff, Nat.reduceAdd, Nat.reduceSub, reduceIte]
          rw [en]
          have hcm := tyNm_comm m[i] (m.take i)[k]
          rcases e3 : nil' m[i].name with _ | _
          · simp only [Bool.not_false, TyE, nth_map k1, k2, k3, ht, Ty.z, EV, Nat.reduceEqDiff, Nat.reduceBEq, Nat.reduceLT, Nat.reduceLeDiff, Nat.reduceAdd, Nat.reduceSub, reduceIte]
            repeat' (first
    | (refine gK_cut (fun h => ?_) (fun h => ?_) <;> simp only [h, EV, Nat.reduceEqDiff, Nat.reduceBEq, Nat.reduceLT, Nat.reduceLeDiff, Nat.reduceAdd, Nat.reduceSub, reduceIte])
    | (refine cK_cut (fun h => ?_) (fun h => ?_) <;> simp only [h, EV, Nat.reduceEqDiff, Nat.reduceBEq, Nat.reduceLT, Nat.reduceLeDiff, Nat.reduceAdd, Nat.reduceSub, reduceIte]))
            all_goals first
              | (have e4 : tyNm m[i] (m.take i)[k] = true := by rw [hcm]; simp only [*, Bool.and_self]
                 have e : tysOk l = false := p9 i h1 (by
                   have := any_at k1 e4
                   simp only [tyAt, e3, this, Bool.not_false, Bool.true_and, Bool.not_true, Bool.false_and])
                 simp only [e, EV, Nat.reduceEqDiff, Nat.reduceBEq, Nat.reduceLT, Nat.reduceLeDiff, Nat.reduceAdd, Nat.reduceSub, reduceIte, evRE, retVC, cellV', evR, nfz, nfzs, nfzss, List.contains_nil, List.contains_cons, Bool.or_false, or_true]
                 done)
              | (have e4 : tyNm m[i] (m.take i)[k] = false := by rw [hcm]; simp only [*, Bool.false_and, Bool.and_false]
                 obtain ⟨a, q1, q2, rfl⟩ := hnx e4
                 rw [w64 _ (by omega)]
                 exact ⟨k + 1, ⟨q1.1, by rcases q1.2 with q | q; exact absurd (e3.symm.trans q) Bool.false_ne_true; exact Or.inr q⟩, q2, rfl⟩)
          · simp only [Bool.not_true, EV, Nat.reduceEqDiff, Nat.reduceBEq, Nat.reduceLT, Nat.reduceLeDiff, Nat.reduceAdd, Nat.reduceSub, reduceIte]
            rw [w64 _ (by omega)]
            exact ⟨k + 1, ⟨by omega, Or.inl trivial⟩, by omega, rfl⟩
        · have k1 : k = i := by have : ¬ (k : Int) < i := by simpa using h
                                omega
          subst k1
          have hq : tyAt l m k h1 = true := by
            simp only [tyAt, e5, Bool.and_true]
            rcases hno with hno | hno
            · rw [hno]; rfl
            · rw [List.take_take, Nat.min_self] at hno
              rw [hno, Bool.and_false]; rfl
          simp only [EV, Nat.reduceEqDiff, Nat.reduceBEq, Nat.reduceLT, Nat.reduceLeDiff, Nat.reduceAdd, Nat.reduceSub, reduceIte]
          rw [w64 _ (by omega)]
          exact ⟨k + 1, ⟨h1, tyTo_succ h1 hok hq⟩, by omega, rfl⟩
    · have h1 : i = m.length := by have : ¬ (i : Int) < m.length := by simpa using h
                                   omega
      subst h1
      have e : tysOk l = true := tysOk_yes e1 e2 (by rw [hm]; exact hok)
      simp only [EV, Nat.reduceEqDiff, Nat.reduceBEq, Nat.reduceLT, Nat.reduceLeDiff, Nat.reduceAdd, Nat.reduceSub, reduceIte]
      simp only [e, EV, Nat.reduceEqDiff, Nat.reduceBEq, Nat.reduceLT, Nat.reduceLeDiff, Nat.reduceAdd, Nat.reduceSub, reduceIte, evRE, retVC, cellV', evR, nfz, nfzs, nfzss, List.contains_nil, List.contains_cons, Bool.or_false, or_true]

end Go.AM
namespace Go.AM
set_option linter.unusedVariables false
set_option linter.unusedSimpArgs false
def noRd (l : List Ty) (n : Nat) : Prop := ∀ j : Nat, j < n → roundAt l (j : Int) = false

theorem tabOk_yes {l : List Ty} (h : tysOk l = true) (h2 : noRd l l.length) : tabOk l = true := by
  simp only [tabOk, h, Bool.true_and, List.all_eq_true, List.mem_range]
  intro n hn
  rw [h2 n hn]; rfl

theorem tabOk_no {l : List Ty} {i : Nat} (h : i < l.length) (h2 : roundAt l (i : Int) = true) : tabOk l = false := by
  rcases e : tabOk l with _ | _
  · rfl
  · have := tabOk_round e (n := (i : Int)) (by omega) (by omega)
    rw [h2] at this; cases this

theorem tabOk_tno {l : List Ty} (h : tysOk l = false) : tabOk l = false := by simp only [tabOk, h, Bool.false_and]

/-- loop.example/g00837/impl.isTable -/
def m45 : MC :=
  (.seq
   (.reg [⟨(some 2), none, .a (.asg (.c (.bool false)))⟩])
   (.seq
    (.seq
     (.reg [⟨(some 4), none, .q (.mov (.t 0))⟩,
       ⟨(some 5), none, .a (.call (.fn 66) false [.lend (.t 4)])⟩,
       ⟨(some 6), none, .q (.un .not (.t 5))⟩])
     (.cond (.t 6)
      (.seq
       (.reg [⟨(some 2), none, .a (.asg (.c (.bool false)))⟩])
       .ret)
      .skip))
    (.seq
     (.seq
      (.reg [⟨(some 7), none, .q (.mov (.t 0))⟩,
        ⟨(some 8), none, .q (.len false (.t 7))⟩,
        ⟨(some 9), none, .q (.mov (.c (.int .i64 0)))⟩])
      (.block 0
       (.loop [0, 8, 9]
        (.seq
         (.reg [⟨(some 10), none, .q (.bin false .lss (.t 9) (.t 8))⟩])
         (.seq
          (.cond (.t 10)
           .skip
           (.exit 0))
          (.seq
           (.block 1
            (.seq
             (.reg [⟨(some 11), none, .q (.mov (.t 9))⟩,
               ⟨(some 3), none, .a (.asg (.t 11))⟩])
             (.seq
              (.reg [⟨(some 12), none, .q (.mov (.t 0))⟩,
                ⟨(some 13), none, .q (.mov (.t 3))⟩,
                ⟨(some 14), none, .a (.call (.fn 67) false [.lend (.t 12), .lend (.t 13)])⟩])
              (.cond (.t 14)
               (.seq
                (.reg [⟨(some 2), none, .a (.asg (.c (.bool false)))⟩])
                .ret)
               .skip))))
           (.reg [⟨(some 15), none, .q (.bin false .add (.t 9) (.c (.int .i64 1)))⟩,
             ⟨(some 9), none, .q (.mov (.t 15))⟩])))))))
     (.seq
      (.reg [⟨(some 2), none, .a (.asg (.c (.bool true)))⟩])
      .ret))))

set_option maxRecDepth 100000 in
theorem d45 (l : List Ty) (hl : (l.length : Int) ≤ 1048576) (hs : ∀ s ∈ l, s.sm) : Does Go.Proofs.Tryz.prog 45 [.fsl 6 (l.map Ty.z)] false (.v (.bool (tabOk l))) [.dead] := by
  refine does_intro (mc := m45) (N := 16) (rs := [2]) (fx := []) 1 rfl (by decide +kernel) ?_
  simp only [m45, EV, Nat.reduceEqDiff, Nat.reduceBEq, Nat.reduceLT, Nat.reduceLeDiff, Nat.reduceAdd, Nat.reduceSub, reduceIte]
  refine callK_i (d66 l hl hs) ?_
  simp only [EV, Nat.reduceEqDiff, Nat.reduceBEq, Nat.reduceLT, Nat.reduceLeDiff, Nat.reduceAdd, Nat.reduceSub, reduceIte]
  rcases ht : tysOk l with _ | _
  · have e : tabOk l = false := tabOk_tno ht
    simp only [Bool.not_false, EV, Nat.reduceEqDiff, Nat.reduceBEq, Nat.reduceLT, Nat.reduceLeDiff, Nat.reduceAdd, Nat.reduceSub, reduceIte]
    simp only [e, EV, Nat.reduceEqDiff, Nat.reduceBEq, Nat.reduceLT, Nat.reduceLeDiff, Nat.reduceAdd, Nat.reduceSub, reduceIte, evRE, retVC, cellV', evR, nfz, nfzs, nfzss, List.contains_nil, List.contains_cons, Bool.or_false, or_true]
  simp only [Bool.not_true, EV, Nat.reduceEqDiff, Nat.reduceBEq, Nat.reduceLT, Nat.reduceLeDiff, Nat.reduceAdd, Nat.reduceSub, reduceIte]
  refine awp_loop (fun i : Nat => i ≤ l.length ∧ noRd l i) (fun i => stl [(0, .fsl 6 (l.map Ty.z)), (8, .v (.int .i64 (l.length : Int))), (9, .v (.int .i64 (i : Int)))]) (fun i => l.length - i) 0 ⟨Nat.zero_le _, fun j h => absurd h (by omega)⟩ ?_ ?_
  · simp only [EV, Nat.reduceEqDiff, Nat.reduceBEq, Nat.reduceLT, Nat.reduceLeDiff, Nat.reduceAdd, Nat.reduceSub, reduceIte]
    rfl
  · rintro i ⟨hi, hno⟩
    simp only [EV, Nat.reduceEqDiff, Nat.reduceBEq, Nat.reduceLT, Nat.reduceLeDiff, Nat.reduceAdd, Nat.reduceSub, reduceIte]
    refine cK_cut (fun h => ?_) (fun h => ?_)
    · have h1 : i < l.length := by simpa using h
      simp only [EV, Nat.reduceEqDiff, Nat.reduceBEq, Nat.reduceLT, Nat.reduceLeDiff, Nat.reduceAdd, Nat.reduceSub, reduceIte]
      refine callK_i (d67 l (i : Int) hl hs ht (by omega) (by omega)) ?_
      simp only [EV, Nat.reduceEqDiff, Nat.reduceBEq, Nat.reduceLT, Nat.reduceLeDiff, Nat.reduceAdd, Nat.reduceSub, reduceIte]
      rcases e1 : roundAt l (i : Int) with _ | _
      · simp only [EV, Nat.reduceEqDiff, Nat.reduceBEq, Nat.reduceLT, Nat.reduceLeDiff, Nat.reduceAdd, Nat.reduceSub, reduceIte]
        rw [w64 _ (by omega)]
        refine ⟨i + 1, ⟨h1, fun j hj => ?_⟩, by omega, rfl⟩
        by_cases e : j = i
        · subst e; exact e1
        · exact hno j (by omega)
      · have e : tabOk l = false := tabOk_no h1 e1
        simp only [EV, Nat.reduceEqDiff, Nat.reduceBEq, Nat.reduceLT, Nat.reduceLeDiff, Nat.reduceAdd, Nat.reduceSub, reduceIte]
        simp only [e, EV, Nat.reduceEqDiff, Nat.reduceBEq, Nat.reduceLT, Nat.reduceLeDiff, Nat.reduceAdd, Nat.reduceSub, reduceIte, evRE, retVC, cellV', evR, nfz, nfzs, nfzss, List.contains_nil, List.contains_cons, Bool.or_false, or_true]
    · have h1 : i = l.length := by have : ¬ (i : Int) < l.length := by simpa using h
                                   omega
      subst h1
      have e : tabOk l = true := tabOk_yes ht hno
      simp only [EV, Nat.reduceEqDiff, Nat.reduceBEq, Nat.reduceLT, Nat.reduceLeDiff, Nat.reduceAdd, Nat.reduceSub, reduceIte]
      simp only [e, EV, Nat.reduceEqDiff, Nat.reduceBEq, Nat.reduceLT, Nat.reduceLeDiff, Nat.reduceAdd, Nat.reduceSub, reduceIte, evRE, retVC, cellV', evR, nfz, nfzs, nfzss, List.contains_nil, List.contains_cons, Bool.or_false, or_true]

/-- loop.example/g00837/spec.l3Good -/
def m52 : MC :=
  (.seq
   (.reg [⟨(some 2), none, .a (.asg (.c (.bool false)))⟩])
   (.seq
    (.seq
     (.reg [⟨(some 4), none, .q (.mov (.t 0))⟩,
       ⟨(some 5), none, .a (.call (.fn 71) false [.lend (.t 4)])⟩,
       ⟨(some 6), none, .q (.un .not (.t 5))⟩])
     (.cond (.t 6)
      (.seq
       (.reg [⟨(some 2), none, .a (.asg (.c (.bool false)))⟩])
       .ret)
      .skip))
    (.seq
     (.seq
      (.reg [⟨(some 7), none, .q (.mov (.t 0))⟩,
        ⟨(some 8), none, .q (.len false (.t 7))⟩,
        ⟨(some 9), none, .q (.mov (.c (.int .i64 0)))⟩])
      (.block 0
       (.loop [0, 8, 9]
        (.seq
         (.reg [⟨(some 10), none, .q (.bin false .lss (.t 9) (.t 8))⟩])
         (.seq
          (.cond (.t 10)
           .skip
           (.exit 0))
          (.seq
           (.block 1
            (.seq
             (.reg [⟨(some 11), none, .q (.mov (.t 9))⟩,
               ⟨(some 3), none, .a (.asg (.t 11))⟩])
             (.seq
              (.reg [⟨(some 12), none, .q (.mov (.t 0))⟩,
                ⟨(some 13), none, .q (.mov (.t 3))⟩,
                ⟨(some 14), none, .a (.call (.fn 72) false [.lend (.t 12), .lend (.t 13)])⟩])
              (.cond (.t 14)
               (.seq
                (.reg [⟨(some 2), none, .a (.asg (.c (.bool false)))⟩])
                .ret)
               .skip))))
           (.reg [⟨(some 15), none, .q (.bin false .add (.t 9) (.c (.int .i64 1)))⟩,
             ⟨(some 9), none, .q (.mov (.t 15))⟩])))))))
     (.seq
      (.reg [⟨(some 2), none, .a (.asg (.c (.bool true)))⟩])
      .ret))))

set_option maxRecDepth 100000 in
theorem d52 (l : List Ty) (hl : (l.length : Int) ≤ 1048576) (hs : ∀ s ∈ l, s.sm) : Does Go.Proofs.Tryz.prog 52 [.fsl 6 (l.map Ty.z)] false (.v (.bool (tabOk l))) [.dead] := by
  refine does_intro (mc := m52) (N := 16) (rs := [2]) (fx := []) 1 rfl (by decide +kernel) ?_
  simp only [m52, EV, Nat.reduceEqDiff, Nat.reduceBEq, Nat.reduceLT, Nat.reduceLeDiff, Nat.reduceAdd, Nat.reduceSub, reduceIte]
  refine callK_i (d71 l hl hs) ?_
  simp only [EV, Nat.reduceEqDiff, Nat.reduceBEq, Nat.reduceLT, Nat.reduceLeDiff, Nat.reduceAdd, Nat.reduceSub, reduceIte]
  rcases ht : tysOk l with _ | _
  · have e : tabOk l = false := tabOk_tno ht
    simp only [Bool.not_false, EV, Nat.reduceEqDiff, Nat.reduceBEq, Nat.reduceLT, Nat.reduceLeDiff, Nat.reduceAdd, Nat.reduceSub, reduceIte]
    simp only [e, EV, Nat.reduceEqDiff, Nat.reduceBEq, Nat.reduceLT, Nat.reduceLeDiff, Nat.reduceAdd, Nat.reduceSub, reduceIte, evRE, retVC, cellV', evR, nfz, nfzs, nfzss, List.contains_nil, List.contains_cons, Bool.or_false, or_true]
  simp only [Bool.not_true, EV, Nat.reduceEqDiff, Nat.reduceBEq, Nat.reduceLT, Nat.reduceLeDiff, Nat.reduceAdd, Nat.reduceSub, reduceIte]
  refine awp_loop (fun i : Nat => i ≤ l.length ∧ noRd l i) (fun i => stl [(0, .fsl 6 (l.map Ty.z)), (8, .v (.int .i64 (l.length : Int))), (9, .v (.int .i64 (i : Int)))]) (fun i => l.length - i) 0 ⟨Nat.zero_le _, fun j h => absurd h (by omega)⟩ ?_ ?_
  · simp only [EV, Nat.reduceEqDiff, Nat.reduceBEq, Nat.reduceLT, Nat.reduceLeDiff, Nat.reduceAdd, Nat.reduceSub, reduceIte]
    rfl
  · rintro i ⟨hi, hno⟩
    simp only [EV, Nat.reduceEqDiff, Nat.reduceBEq, Nat.reduceLT, Nat.reduceLeDiff, Nat.reduceAdd, Nat.reduceSub, reduceIte]
    refine cK_cut (fun h => ?_) (fun h => ?_)
    · have h1 : i < l.length := by simpa using h
      simp only [EV, Nat.reduceEqDiff, Nat.reduceBEq, Nat.reduceLT, Nat.reduceLeDiff, Nat.reduceAdd, Nat.reduceSub, reduceIte]
      refine callK_i (d72 l (i : Int) hl hs ht (by omega) (by omega)) ?_
      simp only [EV, Nat.reduceEqDiff, Nat.reduceBEq, Nat.reduceLT, Nat.reduceLeDiff, Nat.reduceAdd, Nat.reduceSub, reduceIte]
      rcases e1 : roundAt l (i : Int) with _ | _
      · simp only [EV, Nat.reduceEqDiff, Nat.reduceBEq, Nat.reduceLT, Nat.reduceLeDiff, Nat.reduceAdd, Nat.reduceSub, reduceIte]
        rw [w64 _ (by omega)]
        refine ⟨i + 1, ⟨h1, fun j hj => ?_⟩, by omega, rfl⟩
        by_cases e : j = i
        · subst e; exact e1
        · exact hno j (by omega)
      · have e : tabOk l = false := tabOk_no h1 e1
        simp only [EV, Nat.reduceEqDiff, Nat.reduceBEq, Nat.reduceLT, Nat.reduceLeDiff, Nat.reduceAdd, Nat.reduceSub, reduceIte]
        simp only [e, EV, Nat.reduceEqDiff, Nat.reduceBEq, Nat.reduceLT, Nat.reduceLeDiff, Nat.reduceAdd, Nat.reduceSub, reduceIte, evRE, retVC, cellV', evR, nfz, nfzs, nfzss, List.contains_nil, List.contains_cons, Bool.or_false, or_true]
    · have h1 : i = l.length := by have : ¬ (i : Int) < l.length := by simpa using h
                                   omega
      subst h1
      have e : tabOk l = true := tabOk_yes ht hno
      simp only [EV, Nat.reduceEqDiff, Nat.reduceBEq, Nat.reduceLT, Nat.reduceLeDiff, Nat.reduceAdd, Nat.reduceSub, reduceIte]
      simp only [e, EV, Nat.reduceEqDiff, Nat.reduceBEq, Nat.reduceLT, Nat.reduceLeDiff, Nat.reduceAdd, Nat.reduceSub, reduceIte, evRE, retVC, cellV', evR, nfz, nfzs, nfzss, List.contains_nil, List.contains_cons, Bool.or_false, or_true]

end Go.AM
namespace Go.AM
set_option linter.unusedVariables false
set_option linter.unusedSimpArgs false
def baseAt (l : List Ty) (n : Int) : Int := match l[n.toNat]? with
  | some t => t.base
  | none => -1

theorem baseAt_eq {l : List Ty} {n : Int} (h : n.toNat < l.length) : baseAt l n = l[n.toNat].base := by simp [baseAt, h]

def chainF (l : List Ty) : Nat → Int → List Int
  | 0, _ => []
  | f + 1, n => if n < 0 then [] else n :: chainF l f (baseAt l n)

def lineL (l : List Ty) (n : Int) : List Int := chainF l (l.length + 1) n

/-- An end or a record. -/
def isL (l : List Ty) (n : Int) : Prop := n < 0 ∨ isRec l n = true

theorem isRec_in {l : List Ty} {n : Int} (h : isRec l n = true) : 0 ≤ n ∧ n < (l.length : Int) ∧ ∃ hn : n.toNat < l.length, l[n.toNat].kind = 5 := by
  simp only [isRec, Bool.and_eq_true, beq_iff_eq] at h
  obtain ⟨h0, h1, hn, hk⟩ := isNum_lt h.1
  exact ⟨h0, h1, hn, by rw [← hk]; exact h.2⟩

theorem isRec_base {l : List Ty} (ht : tysOk l = true) {n : Int} (h : isRec l n = true) : isL l (baseAt l n) ∧ (0 ≤ baseAt l n → baseAt l n ∈ kids l false n) := by
  obtain ⟨h0, h1, hn, hk⟩ := isRec_in h
  have G := tysOk_good ht hn
  rw [baseAt_eq hn]
  refine ⟨(G.rec5 hk).elim (fun e => .inl (by omega)) .inr, fun hb => ?_⟩
  rw [kids_at hn]
  have e6 : (l[n.toNat].kind == 6) = false := by rw [hk]; rfl
  simp only [prt, e6, hb, decide_true, Bool.not_false, Bool.or_true, Bool.and_self, if_true, List.mem_append, List.mem_singleton, true_or]

theorem rk_le (l : List Ty) (n : Int) : rk l n ≤ l.length := by
  unfold rk reachL
  refine Nat.le_trans (List.length_filter_le _ _) ?_
  simp

theorem chainF_irr {l : List Ty} (ht : tabOk l = true) : ∀ (f f' : Nat) (n : Int), isL l n → rk l n < f → rk l n < f' → chainF l f n = chainF l f' n
  | 0, _, n, _, h, _ => absurd h (by omega)
  | f + 1, 0, n, _, _, h => absurd h (by omega)
  | f + 1, f' + 1, n, hn, h, h' => by
    unfold chainF
    by_cases h0 : n < 0
    · rw [if_pos h0, if_pos h0]
    · rw [if_neg h0, if_neg h0]
      have hr : isRec l n = true := hn.resolve_left h0
      obtain ⟨b1, b2⟩ := isRec_base (tabOk_tys ht) hr
      obtain ⟨g0, g1, _⟩ := isRec_in hr
      by_cases hb : baseAt l n < 0
      · have e : ∀ g, chainF l g (baseAt l n) = [] := by
          intro g; cases g with
          | zero => rfl
          | succ g => unfold chainF; rw [if_pos hb]
        rw [e, e]
      · have hlt := rk_lt ht g0 g1 (b2 (by omega))
        rw [chainF_irr ht f f' (baseAt l n) b1 (by omega) (by omega)]

theorem lineL_neg {l : List Ty} {n : Int} (h : n < 0) : lineL l n = [] := by unfold lineL chainF; rw [if_pos h]

theorem lineL_rec {l : List Ty} (ht : tabOk l = true) {n : Int} (h : isRec l n = true) : lineL l n = n :: lineL l (baseAt l n) := by
  obtain ⟨b1, b2⟩ := isRec_base (tabOk_tys ht) h
  obtain ⟨g0, g1, _⟩ := isRec_in h
  unfold lineL
  rw [chainF]
  rw [if_neg (by omega)]
  by_cases hb : baseAt l n < 0
  · have e : ∀ g, chainF l g (baseAt l n) = [] := by
      intro g; cases g with
      | zero => rfl
      | succ g => unfold chainF; rw [if_pos hb]
    rw [e, e]
  · have hlt := rk_lt ht g0 g1 (b2 (by omega))
    have := rk_le l n
    rw [chainF_irr ht l.length (l.length + 1) _ b1 (by omega) (by omega)]

theorem lineL_in {l : List Ty} (ht : tabOk l = true) : ∀ (f : Nat) (n : Int), isL l n → ∀ k ∈ chainF l f n, isRec l k = true
  | 0, n, _, k, hk => by simp [chainF] at hk
  | f + 1, n, hn, k, hk => by
    unfold chainF at hk
    by_cases h0 : n < 0
    · rw [if_pos h0] at hk; simp at hk
    · rw [if_neg h0] at hk
      have hr : isRec l n = true := hn.resolve_left h0
      rcases List.mem_cons.1 hk with rfl | hk
      · exact hr
      · exact lineL_in ht f _ (isRec_base (tabOk_tys ht) hr).1 k hk

theorem chainF_len (l : List Ty) : ∀ (f : Nat) (n : Int), (chainF l f n).length ≤ f
  | 0, n => by simp [chainF]
  | f + 1, n => by
    unfold chainF
    split
    · simp
    · have := chainF_len l f (baseAt l n)
      simp; omega

theorem lineL_len (l : List Ty) (n : Int) : (lineL l n).length ≤ l.length + 1 := chainF_len _ _ _

theorem tabOk_len {l : List Ty} (h : tabOk l = true) : l.length ≤ 24 := (tysOk_len (tabOk_tys h)).2

noncomputable def recOk (l : List Ty) (n : Int) : Bool := tabOk l && isRec l n

/-- loop.example/g00837/impl.areRecords -/
def m23 : MC :=
  (.seq
   (.reg [⟨(some 4), none, .a (.asg (.c (.bool false)))⟩])
   (.seq
    (.reg [⟨(some 5), none, .q (.mov (.t 0))⟩,
      ⟨(some 6), none, .a (.call (.fn 45) false [.lend (.t 5)])⟩,
      ⟨(some 7), none, .q (.mov (.t 6))⟩,
      ⟨(some 8), (some (7, true)), .q (.mov (.t 0))⟩,
      ⟨(some 9), (some (7, true)), .q (.mov (.t 1))⟩,
      ⟨(some 10), (some (7, true)), .a (.call (.fn 46) false [.lend (.t 8), .lend (.t 9)])⟩,
      ⟨(some 11), none, .q (.pick (.t 7) (.t 10) (.c (.bool false)))⟩,
      ⟨(some 4), none, .a (.asg (.t 11))⟩])
    .ret))

theorem d23 (l : List Ty) (n : Int) (hl : (l.length : Int) ≤ 1048576) (hs : ∀ s ∈ l, s.sm) : Does Go.Proofs.Tryz.prog 23 [.fsl 6 (l.map Ty.z), .v (.int .i64 n)] false (.v (.bool (recOk l n))) [.dead, .dead] := by
  refine does_intro (mc := m23) (N := 12) (rs := [4]) (fx := []) 2 rfl (by decide +kernel) ?_
  simp only [m23, EV, Nat.reduceEqDiff, Nat.reduceBEq, Nat.reduceLT, Nat.reduceLeDiff, Nat.reduceAdd, Nat.reduceSub, reduceIte]
  refine callK_i (d45 l hl hs) ?_
  simp only [EV, Nat.reduceEqDiff, Nat.reduceBEq, Nat.reduceLT, Nat.reduceLeDiff, Nat.reduceAdd, Nat.reduceSub, reduceIte]
  rcases e : tabOk l with _ | _
  · simp only [EV, Nat.reduceEqDiff, Nat.reduceBEq, Nat.reduceLT, Nat.reduceLeDiff, Nat.reduceAdd, Nat.reduceSub, reduceIte]
    simp only [recOk, e, Bool.false_and, EV, Nat.reduceEqDiff, Nat.reduceBEq, Nat.reduceLT, Nat.reduceLeDiff, Nat.reduceAdd, Nat.reduceSub, reduceIte, evRE, retVC, cellV', evR, nfz, nfzs, nfzss, List.contains_nil, List.contains_cons, Bool.or_false, or_true]
  · simp only [EV, Nat.reduceEqDiff, Nat.reduceBEq, Nat.reduceLT, Nat.reduceLeDiff, Nat.reduceAdd, Nat.reduceSub, reduceIte]
    refine callK_i (d46 l n hl) ?_
    simp only [EV, Nat.reduceEqDiff, Nat.reduceBEq, Nat.reduceLT, Nat.reduceLeDiff, Nat.reduceAdd, Nat.reduceSub, reduceIte]
    simp only [recOk, e, Bool.true_and, EV, Nat.reduceEqDiff, Nat.reduceBEq, Nat.reduceLT, Nat.reduceLeDiff, Nat.reduceAdd, Nat.reduceSub, reduceIte, evRE, retVC, cellV', evR, nfz, nfzs, nfzss, List.contains_nil, List.contains_cons, Bool.or_false, or_true]

/-- loop.example/g00837/spec.l10Record -/
def m27 : MC :=
  (.seq
   (.reg [⟨(some 4), none, .a (.asg (.c (.bool false)))⟩])
   (.seq
    (.reg [⟨(some 5), none, .q (.mov (.t 0))⟩,
      ⟨(some 6), none, .a (.call (.fn 52) false [.lend (.t 5)])⟩,
      ⟨(some 7), none, .q (.mov (.t 6))⟩,
      ⟨(some 8), (some (7, true)), .q (.mov (.t 0))⟩,
      ⟨(some 9), (some (7, true)), .q (.mov (.t 1))⟩,
      ⟨(some 10), (some (7, true)), .a (.call (.fn 53) false [.lend (.t 8), .lend (.t 9), .lend (.c (.int .i64 5)), .lend (.c (.int .i64 5))])⟩,
      ⟨(some 11), none, .q (.pick (.t 7) (.t 10) (.c (.bool false)))⟩,
      ⟨(some 4), none, .a (.asg (.t 11))⟩])
    .ret))

theorem d27 (l : List Ty) (n : Int) (hl : (l.length : Int) ≤ 1048576) (hs : ∀ s ∈ l, s.sm) : Does Go.Proofs.Tryz.prog 27 [.fsl 6 (l.map Ty.z), .v (.int .i64 n)] false (.v (.bool (recOk l n))) [.dead, .dead] := by
  refine does_intro (mc := m27) (N := 12) (rs := [4]) (fx := []) 2 rfl (by decide +kernel) ?_
  simp only [m27, EV, Nat.reduceEqDiff, Nat.reduceBEq, Nat.reduceLT, Nat.reduceLeDiff, Nat.reduceAdd, Nat.reduceSub, reduceIte]
  refine callK_i (d52 l hl hs) ?_
  simp only [EV, Nat.reduceEqDiff, Nat.reduceBEq, Nat.reduceLT, Nat.reduceLeDiff, Nat.reduceAdd, Nat.reduceSub, reduceIte]
  rcases e : tabOk l with _ | _
  · simp only [EV, Nat.reduceEqDiff, Nat.reduceBEq, Nat.reduceLT, Nat.reduceLeDiff, Nat.reduceAdd, Nat.reduceSub, reduceIte]
    simp only [recOk, e, Bool.false_and, EV, Nat.reduceEqDiff, Nat.reduceBEq, Nat.reduceLT, Nat.reduceLeDiff, Nat.reduceAdd, Nat.reduceSub, reduceIte, evRE, retVC, cellV', evR, nfz, nfzs, nfzss, List.contains_nil, List.contains_cons, Bool.or_false, or_true]
  · simp only [EV, Nat.reduceEqDiff, Nat.reduceBEq, Nat.reduceLT, Nat.reduceLeDiff, Nat.reduceAdd, Nat.reduceSub, reduceIte]
    refine callK_i (d53 l n 5 5 hl) ?_
    rw [kindIn_same]
    simp only [EV, Nat.reduceEqDiff, Nat.reduceBEq, Nat.reduceLT, Nat.reduceLeDiff, Nat.reduceAdd, Nat.reduceSub, reduceIte]
    have e2 : (isNum l n && kd l n == 5) = isRec l n := rfl
    simp only [recOk, e, e2, Bool.true_and, EV, Nat.reduceEqDiff, Nat.reduceBEq, Nat.reduceLT, Nat.reduceLeDiff, Nat.reduceAdd, Nat.reduceSub, reduceIte, evRE, retVC, cellV', evR, nfz, nfzs, nfzss, List.contains_nil, List.contains_cons, Bool.or_false, or_true]

/-- loop.example/g00837/impl.line -/
def m51 : MC :=
  (.seq
   (.reg [⟨(some 4), none, .a (.asg (.nils 3 1))⟩])
   (.seq
    (.reg [⟨(some 6), none, .a (.bsl 3 1 [])⟩,
      ⟨(some 5), none, .a (.asg (.t 6))⟩])
    (.seq
     (.block 0
      (.loop [0, 1, 5, 6, 17]
       (.seq
        (.seq
         (.reg [⟨(some 7), none, .q (.mov (.t 1))⟩,
           ⟨(some 8), none, .q (.bin false .geq (.t 7) (.c (.int .i64 0)))⟩])
         (.cond (.t 8)
          .skip
          (.exit 0)))
        (.seq
         (.block 1
          (.reg [⟨(some 14), none, .q (.mov (.t 5))⟩,
            ⟨(some 15), none, .q (.mov (.t 1))⟩,
            ⟨(some 16), none, .a (.bsl 3 1 [.t 15])⟩,
            ⟨(some 17), none, .a (.app true 3 1 8 (.t 14) (.t 16))⟩,
            ⟨(some 5), none, .a (.asg (.t 17))⟩]))
         (.reg [⟨(some 9), none, .q (.mov (.t 0))⟩,
           ⟨(some 10), none, .q (.mov (.t 1))⟩,
           ⟨(some 11), none, .q (.iad 6 (.t 9) (.t 10))⟩,
           ⟨(some 12), none, .q (.fad 2 (.t 11))⟩,
           ⟨(some 13), none, .q (.load false 1 (.t 12))⟩,
           ⟨(some 1), none, .a (.asg (.t 13))⟩])))))
     (.seq
      (.reg [⟨(some 18), none, .q (.mov (.t 5))⟩,
        ⟨(some 4), none, .a (.asg (.t 18))⟩])
      .ret))))

set_option maxRecDepth 100000 in
theorem d51 (l : List Ty) (n0 : Int) (hl : (l.length : Int) ≤ 1048576) (ht : tabOk l = true) (h0 : isL l n0) : Does Go.Proofs.Tryz.prog 51 [.fsl 6 (l.map Ty.z), .v (.int .i64 n0)] false (.usl 3 1 ((lineL l n0).map iv)) [.dead, .dead] := by
  refine does_intro (mc := m51) (N := 19) (rs := [4]) (fx := []) 2 rfl (by decide +kernel) ?_
  simp only [m51, EV, Nat.reduceEqDiff, Nat.reduceBEq, Nat.reduceLT, Nat.reduceLeDiff, Nat.reduceAdd, Nat.reduceSub, reduceIte]
  refine awp_loop (fun p : List Int × Int => isL l p.2 ∧ lineL l n0 = p.1 ++ lineL l p.2) (fun p => stl [(0, .fsl 6 (l.map Ty.z)), (1, .v (.int .i64 p.2)), (5, .usl 3 1 (p.1.map iv)), (6, .dead), (17, .dead)]) (fun p => (lineL l p.2).length) ([], n0) ⟨h0, rfl⟩ ?_ ?_
  · simp only [EV, Nat.reduceEqDiff, Nat.reduceBEq, Nat.reduceLT, Nat.reduceLeDiff, Nat.reduceAdd, Nat.reduceSub, reduceIte]
  · rintro ⟨out, n⟩ ⟨hn, he⟩
    simp only at hn he
    simp only [EV, Nat.reduceEqDiff, Nat.reduceBEq, Nat.reduceLT, Nat.reduceLeDiff, Nat.reduceAdd, Nat.reduceSub, reduceIte]
    refine cK_cut (fun h => ?_) (fun h => ?_)
    · have hr : isRec l n = true := hn.resolve_left (by have : 0 ≤ n := by simpa using h
                                                        omega)
      obtain ⟨g0, g1, gn, _⟩ := isRec_in hr
      have hle := lineL_len l n0
      have h24 := tabOk_len ht
      rw [he, List.length_append] at hle
      have hlr := lineL_rec ht hr
      have hb := (isRec_base (tabOk_tys ht) hr).1
      rw [hlr] at he
      clear h
      simp only [g0, g1, nth_map gn, iv, Ty.z, EV, Nat.reduceEqDiff, Nat.reduceBEq, Nat.reduceLT, Nat.reduceLeDiff, Nat.reduceAdd, Nat.reduceSub, reduceIte]
      refine ⟨by omega, by omega, (out ++ [n], baseAt l n), ⟨hb, by rw [he]; simp⟩, by simp only; rw [hlr]; simp, ?_⟩
      rw [List.map_append, baseAt_eq gn]
      rfl
    · have hneg : n < 0 := by have : ¬ 0 ≤ n := by simpa using h
                              omega
      rw [lineL_neg hneg, List.append_nil] at he
      subst he
      simp only [EV, Nat.reduceEqDiff, Nat.reduceBEq, Nat.reduceLT, Nat.reduceLeDiff, Nat.reduceAdd, Nat.reduceSub, reduceIte]
      simp only [iv_nfz, EV, Nat.reduceEqDiff, Nat.reduceBEq, Nat.reduceLT, Nat.reduceLeDiff, Nat.reduceAdd, Nat.reduceSub, reduceIte, evRE, retVC, cellV', evR, nfz, nfzs, nfzss, List.contains_nil, List.contains_cons, Bool.or_false, or_true]

end Go.AM
namespace Go.AM
set_option linter.unusedVariables false
set_option linter.unusedSimpArgs false
def capS (t : Ty) (s : Int) : Int := min 1000000001 (if (t.kind == 4) = true then s * t.long else s)

def sumZ (g : Int → Int) : List Int → Int
  | [] => 0
  | k :: ks => g k + sumZ g ks

def oneT (t : Ty) (g : Int → Int) : Int :=
  if (t.kind == 1) = true then 4 else if (t.kind == 2 || t.kind == 3) = true then 1 else if (t.kind == 6) = true then 8 else capS t (sumZ g (prt false t))

def szN (l : List Ty) : Nat → Int → Int
  | 0, _ => 0
  | f + 1, n => match l[n.toNat]? with
    | some t => oneT t (szN l f)
    | none => 0

def sz (l : List Ty) (n : Int) : Int := szN l (l.length + 1) n

theorem sumZ_congr {g g' : Int → Int} : ∀ {ks : List Int}, (∀ k ∈ ks, g k = g' k) → sumZ g ks = sumZ g' ks
  | [], _ => rfl
  | k :: ks, h => by rw [sumZ, sumZ, h k (by simp), sumZ_congr fun k hk => h k (by simp [hk])]

theorem oneT_congr {t : Ty} {g g' : Int → Int} (h : ∀ k ∈ prt false t, g k = g' k) : oneT t g = oneT t g' := by
  unfold oneT; rw [sumZ_congr h]

theorem szN_irr {l : List Ty} (ht : tabOk l = true) : ∀ (f f' : Nat) (n : Int), 0 ≤ n → n < (l.length : Int) → rk l n < f → rk l n < f' → szN l f n = szN l f' n
  | 0, _, n, _, _, h, _ => absurd h (by omega)
  | f + 1, 0, n, _, _, _, h => absurd h (by omega)
  | f + 1, f' + 1, n, h0, h1, h, h' => by
    have hn : n.toNat < l.length := by omega
    simp only [szN, List.getElem?_eq_getElem hn]
    refine oneT_congr fun k hk => ?_
    rw [← kids_at hn] at hk
    have hki := kids_ok (tabOk_tys ht) h0 h1 hk
    have hlt := rk_lt ht h0 h1 hk
    exact szN_irr ht f f' k hki.1 hki.2 (by omega) (by omega)

theorem sz_eq {l : List Ty} (ht : tabOk l = true) {n : Int} (h0 : 0 ≤ n) (h1 : n < (l.length : Int)) {hn : n.toNat < l.length} : sz l n = oneT l[n.toNat] (sz l) := by
  have hr := rk_le l n
  show szN l (l.length + 1) n = _
  rw [szN_irr ht _ (l.length + 2) n h0 h1 (by omega) (by omega)]
  simp only [szN, List.getElem?_eq_getElem hn]
  rfl

theorem rk_small {l : List Ty} (ht : tabOk l = true) {n : Int} (h0 : 0 ≤ n) (h1 : n < (l.length : Int)) : rk l n < l.length := by
  have hrd := tabOk_round ht h0 h1
  have hnm : n ∉ reachL l false (kids l false n) := by
    intro h
    simp [roundAt] at hrd
    exact hrd h
  have hnd : (n :: reachL l false (kids l false n)).Nodup := List.nodup_cons.2 ⟨hnm, up_nodup (reachL_up _ _ _)⟩
  have := nodup_le hnd (fun k hk => by
    rcases List.mem_cons.1 hk with rfl | hk
    · exact ⟨h0, h1⟩
    · exact (mem_reachL.1 hk).1)
  simp only [List.length_cons] at this
  unfold rk
  omega

theorem sumZ_nn {g : Int → Int} : ∀ {ks : List Int}, (∀ k ∈ ks, 0 ≤ g k) → 0 ≤ sumZ g ks
  | [], _ => by simp [sumZ]
  | k :: ks, h => by have := h k (by simp); have := sumZ_nn (ks := ks) fun k hk => h k (by simp [hk]); simp only [sumZ]; omega

theorem sumZ_le {g : Int → Int} {B : Int} : ∀ {ks : List Int}, (∀ k ∈ ks, g k ≤ B) → sumZ g ks ≤ B * ks.length
  | [], _ => by simp [sumZ]
  | k :: ks, h => by
    have h1 := h k (by simp)
    have h2 := sumZ_le (ks := ks) fun k hk => h k (by simp [hk])
    simp only [sumZ, List.length_cons]
    rw [Int.natCast_add, Int.mul_add]
    omega

theorem szN_nn {l : List Ty} (ht : tysOk l = true) : ∀ (f : Nat) (n : Int), 0 ≤ szN l f n ∧ szN l f n ≤ 1000000001
  | 0, n => by simp [szN]
  | f + 1, n => by
    unfold szN
    split
    · rename_i t e
      obtain ⟨hn, rfl⟩ := List.getElem?_eq_some_iff.1 e
      unfold oneT
      split
      · omega
      split
      · omega
      split
      · omega
      · have h1 : 0 ≤ sumZ (szN l f) (prt false l[n.toNat]) := sumZ_nn fun k _ => (szN_nn ht f k).1
        unfold capS
        split
        · rename_i hk
          have hl := (tysOk_good ht hn).arr (by simpa using hk)
          have : 0 ≤ sumZ (szN l f) (prt false l[n.toNat]) * l[n.toNat].long := Int.mul_nonneg h1 (by omega)
          omega
        · omega
    · omega

theorem sz_nn {l : List Ty} (ht : tysOk l = true) (n : Int) : 0 ≤ sz l n ∧ sz l n ≤ 1000000001 := szN_nn ht _ _

/-- .. where some sizes are not known yet (below nought). -/
def getS (s : List Int) (k : Int) : Int := s[k.toNat]?.getD 0

def sumP (s : List Int) : List Int → Int → Option Int
  | [], a => some a
  | k :: ks, a => if getS s k < 0 then none else sumP s ks (a + getS s k)

def oneP (t : Ty) (s : List Int) : Int :=
  if (t.kind == 1) = true then 4 else if (t.kind == 2 || t.kind == 3) = true then 1 else if (t.kind == 6) = true then 8 else match sumP s (prt false t) 0 with
    | some x => capS t x
    | none => -1

theorem sumP_all {s : List Int} {g : Int → Int} (hg : ∀ k, 0 ≤ g k) : ∀ {ks : List Int} {a : Int}, (∀ k ∈ ks, getS s k = g k) → sumP s ks a = some (a + sumZ g ks)
  | [], a, _ => by simp [sumP, sumZ]
  | k :: ks, a, h => by
    have h1 := h k (by simp)
    have h2 := hg k
    rw [sumP, if_neg (by omega), sumP_all hg fun k hk => h k (by simp [hk]), sumZ, h1]
    congr 1; omega

theorem sumP_some {s : List Int} {g : Int → Int} (hg : ∀ k, 0 ≤ g k) : ∀ {ks : List Int} {a x : Int}, (∀ k ∈ ks, getS s k = g k ∨ getS s k = -1) → sumP s ks a = some x → x = a + sumZ g ks
  | [], a, x, _, h => by simp only [sumP, Option.some.injEq] at h; simp [sumZ, h]
  | k :: ks, a, x, h, hx => by
    have h1 := h k (by simp)
    unfold sumP at hx
    split at hx
    · cases hx
    · rw [sumP_some hg (fun k hk => h k (by simp [hk])) hx, sumZ]
      omega

theorem oneP_eq {t : Ty} {s : List Int} {g : Int → Int} (hg : ∀ k, 0 ≤ g k) (h : ∀ k ∈ prt false t, getS s k = g k) : oneP t s = oneT t g := by
  unfold oneP oneT
  rw [sumP_all hg h]
  simp

theorem oneP_or {t : Ty} {s : List Int} {g : Int → Int} (hg : ∀ k, 0 ≤ g k) (h : ∀ k ∈ prt false t, getS s k = g k ∨ getS s k = -1) : oneP t s = oneT t g ∨ oneP t s = -1 := by
  unfold oneP oneT
  rcases e : sumP s (prt false t) 0 with _ | x
  · split
    · exact .inl rfl
    split
    · exact .inl rfl
    split
    · exact .inl rfl
    · exact .inr rfl
  · rw [sumP_some hg h e]
    exact .inl (by simp)

end Go.AM
namespace Go.AM
set_option linter.unusedVariables false
set_option linter.unusedSimpArgs false
/-- loop.example/g00837/spec.l1Least -/
def m57 : MC :=
  (.seq
   (.reg [⟨(some 4), none, .a (.asg (.c (.int .i64 0)))⟩])
   (.seq
    (.seq
     (.reg [⟨(some 5), none, .q (.mov (.t 0))⟩,
       ⟨(some 6), none, .q (.mov (.t 1))⟩,
       ⟨(some 7), none, .q (.bin false .lss (.t 5) (.t 6))⟩])
     (.cond (.t 7)
      (.seq
       (.reg [⟨(some 8), none, .q (.mov (.t 0))⟩,
         ⟨(some 4), none, .a (.asg (.t 8))⟩])
       .ret)
      .skip))
    (.seq
     (.reg [⟨(some 9), none, .q (.mov (.t 1))⟩,
       ⟨(some 4), none, .a (.asg (.t 9))⟩])
     .ret)))

theorem d57 (a b : Int) : Does Go.Proofs.Tryz.prog 57 [.v (.int .i64 a), .v (.int .i64 b)] false (.v (.int .i64 (min a b))) [.dead, .dead] := by
  refine does_intro (mc := m57) (N := 10) (rs := [4]) (fx := []) 2 rfl (by decide +kernel) ?_
  simp only [m57, EV, Nat.reduceEqDiff, Nat.reduceBEq, Nat.reduceLT, Nat.reduceLeDiff, Nat.reduceAdd, Nat.reduceSub, reduceIte]
  refine cK_cut (fun h => ?_) (fun h => ?_)
  · have e : min a b = a := by have : a < b := by simpa using h
                               omega
    simp only [EV, Nat.reduceEqDiff, Nat.reduceBEq, Nat.reduceLT, Nat.reduceLeDiff, Nat.reduceAdd, Nat.reduceSub, reduceIte]
    simp only [e, EV, Nat.reduceEqDiff, Nat.reduceBEq, Nat.reduceLT, Nat.reduceLeDiff, Nat.reduceAdd, Nat.reduceSub, reduceIte, evRE, retVC, cellV', evR, nfz, nfzs, nfzss, List.contains_nil, List.contains_cons, Bool.or_false, or_true]
  · have e : min a b = b := by have : ¬ a < b := by simpa using h
                               omega
    simp only [EV, Nat.reduceEqDiff, Nat.reduceBEq, Nat.reduceLT, Nat.reduceLeDiff, Nat.reduceAdd, Nat.reduceSub, reduceIte]
    simp only [e, EV, Nat.reduceEqDiff, Nat.reduceBEq, Nat.reduceLT, Nat.reduceLeDiff, Nat.reduceAdd, Nat.reduceSub, reduceIte, evRE, retVC, cellV', evR, nfz, nfzs, nfzss, List.contains_nil, List.contains_cons, Bool.or_false, or_true]

theorem sumP_step {s : List Int} {ks : List Int} {i : Nat} {a : Int} (h : i < ks.length) : sumP s (ks.drop i) a = if getS s ks[i] < 0 then none else sumP s (ks.drop (i + 1)) (a + getS s ks[i]) := by
  rw [List.drop_eq_getElem_cons h, sumP]

/-- loop.example/g00837/spec.l3One -/
def m73 : MC :=
  (.seq
   (.reg [⟨(some 2), none, .a (.box 34 (.t 0))⟩,
     ⟨(some 4), none, .a (.asg (.c (.int .i64 0)))⟩])
   (.join [1, 2]
    (.seq
     (.reg [⟨(some 8), none, .q (.fad 0 (.t 2))⟩,
       ⟨(some 9), none, .q (.load false 1 (.t 8))⟩])
     (.block 0
      (.seq
       (.reg [⟨(some 11), none, .q (.bin false .eql (.t 9) (.c (.int .i64 1)))⟩,
         ⟨(some 10), none, .a (.asg (.t 11))⟩])
       (.cond (.t 10)
        (.seq
         (.reg [⟨(some 4), none, .a (.asg (.c (.int .i64 4)))⟩])
         .ret)
        (.join [1, 2, 9, 12]
         (.seq
          (.reg [⟨(some 13), none, .q (.bin false .eql (.t 9) (.c (.int .i64 2)))⟩,
            ⟨(some 12), none, .a (.asg (.t 13))⟩])
          (.cond (.t 12)
           .skip
           (.reg [⟨(some 14), none, .q (.bin false .eql (.t 9) (.c (.int .i64 3)))⟩,
             ⟨(some 12), none, .a (.asg (.t 14))⟩])))
         (.cond (.t 12)
          (.seq
           (.reg [⟨(some 4), none, .a (.asg (.c (.int .i64 1)))⟩])
           .ret)
          (.seq
           (.reg [⟨(some 16), none, .q (.bin false .eql (.t 9) (.c (.int .i64 6)))⟩,
             ⟨(some 15), none, .a (.asg (.t 16))⟩])
           (.cond (.t 15)
            (.seq
             (.reg [⟨(some 4), none, .a (.asg (.c (.int .i64 8)))⟩])
             .ret)
            .skip))))))))
    (.seq
     (.reg [⟨(some 5), none, .a (.asg (.c (.int .i64 0)))⟩])
     (.seq
      (.seq
       (.reg [⟨(some 17), none, .q (.load true 6 (.t 2))⟩,
         ⟨(some 18), none, .a (.call (.fn 95) false [.lend (.t 17)])⟩,
         ⟨(some 19), none, .q (.len false (.t 18))⟩,
         ⟨(some 20), none, .q (.mov (.c (.int .i64 0)))⟩])
       (.block 1
        (.loop [1, 2, 5, 18, 19, 20]
         (.seq
          (.reg [⟨(some 21), none, .q (.bin false .lss (.t 20) (.t 19))⟩])
          (.seq
           (.cond (.t 21)
            .skip
            (.exit 1))
           (.seq
            (.block 2
             (.seq
              (.reg [⟨(some 22), none, .q (.iad 1 (.t 18) (.t 20))⟩,
                ⟨(some 23), none, .q (.load false 1 (.t 22))⟩,
                ⟨(some 7), none, .a (.asg (.t 23))⟩])
              (.seq
               (.seq
                (.reg [⟨(some 24), none, .q (.mov (.t 1))⟩,
                  ⟨(some 25), none, .q (.mov (.t 7))⟩,
                  ⟨(some 26), none, .q (.iad 1 (.t 24) (.t 25))⟩,
                  ⟨(some 27), none, .q (.load false 1 (.t 26))⟩,
                  ⟨(some 28), none, .q (.bin false .lss (.t 27) (.c (.int .i64 0)))⟩])
                (.cond (.t 28)
                 (.seq
                  (.reg [⟨(some 4), none, .a (.asg (.c (.int .i64 (-1))))⟩])
                  .ret)
                 .skip))
               (.reg [⟨(some 29), none, .q (.mov (.t 5))⟩,
                 ⟨(some 30), none, .q (.mov (.t 1))⟩,
                 ⟨(some 31), none, .q (.mov (.t 7))⟩,
                 ⟨(some 32), none, .q (.iad 1 (.t 30) (.t 31))⟩,
                 ⟨(some 33), none, .q (.load false 1 (.t 32))⟩,
                 ⟨(some 34), none, .q (.bin false .add (.t 29) (.t 33))⟩,
                 ⟨(some 5), none, .a (.asg (.t 34))⟩]))))
            (.reg [⟨(some 35), none, .q (.bin false .add (.t 20) (.c (.int .i64 1)))⟩,
              ⟨(some 20), none, .q (.mov (.t 35))⟩])))))))
      (.join [5]
       (.seq
        (.reg [⟨(some 36), none, .q (.fad 0 (.t 2))⟩,
          ⟨(some 37), none, .q (.load false 1 (.t 36))⟩,
          ⟨(some 38), none, .q (.bin false .eql (.t 37) (.c (.int .i64 4)))⟩])
        (.cond (.t 38)
         (.reg [⟨(some 39), none, .q (.mov (.t 5))⟩,
           ⟨(some 40), none, .q (.fad 1 (.t 2))⟩,
           ⟨(some 41), none, .q (.load false 1 (.t 40))⟩,
           ⟨(some 42), none, .q (.bin false .mul (.t 39) (.t 41))⟩,
           ⟨(some 5), none, .a (.asg (.t 42))⟩])
         .skip))
       (.seq
        (.reg [⟨(some 43), none, .q (.mov (.t 5))⟩,
          ⟨(some 44), none, .a (.call (.fn 57) false [.lend (.c (.int .i64 1000000001)), .lend (.t 43)])⟩,
          ⟨(some 4), none, .a (.asg (.t 44))⟩])
        .ret))))))

set_option maxHeartbeats 1000000 in
set_option maxRecDepth 100000 in
theorem d73 (t : Ty) (s : List Int) (ht : t.sm) (hk : ∀ k ∈ prt false t, 0 ≤ k ∧ k < (s.length : Int)) (h7 : (prt false t).length ≤ 7) (hl : (s.length : Int) ≤ 1048576) (hs : ∀ x ∈ s, x ≤ 1000000001) (hlong : (t.kind == 4) = true → 0 ≤ t.long ∧ t.long ≤ 1000) :
    Does Go.Proofs.Tryz.prog 73 [.agg t.z, .fsl 1 (s.map iv)] false (.v (.int .i64 (oneP t s))) [.dead, .dead] := by
  refine does_intro (mc := m73) (N := 45) (rs := [4]) (fx := []) 2 rfl (by decide +kernel) ?_
  simp only [m73, Ty.z, EV, Nat.reduceEqDiff, Nat.reduceBEq, Nat.reduceLT, Nat.reduceLeDiff, Nat.reduceAdd, Nat.reduceSub, reduceIte]
  refine awp_join (fun _ : Unit => (t.kind == 1) = false ∧ (t.kind == 2) = false ∧ (t.kind == 3) = false ∧ (t.kind == 6) = false) (fun _ => stl [(1, .fsl 1 (s.map iv)), (2, .box 34 t.z)]) ?_ ?_
  · simp only [Ty.z, EV, Nat.reduceEqDiff, Nat.reduceBEq, Nat.reduceLT, Nat.reduceLeDiff, Nat.reduceAdd, Nat.reduceSub, reduceIte]
    rcases e1 : (t.kind == 1) with _ | _
    rotate_left
    · have e : oneP t s = 4 := by unfold oneP; rw [if_pos e1]
      simp only [e1, EV, Nat.reduceEqDiff, Nat.reduceBEq, Nat.reduceLT, Nat.reduceLeDiff, Nat.reduceAdd, Nat.reduceSub, reduceIte]
      simp only [e, EV, Nat.reduceEqDiff, Nat.reduceBEq, Nat.reduceLT, Nat.reduceLeDiff, Nat.reduceAdd, Nat.reduceSub, reduceIte, evRE, retVC, cellV', evR, nfz, nfzs, nfzss, List.contains_nil, List.contains_cons, Bool.or_false, or_true]
    simp only [e1, Ty.z, EV, Nat.reduceEqDiff, Nat.reduceBEq, Nat.reduceLT, Nat.reduceLeDiff, Nat.reduceAdd, Nat.reduceSub, reduceIte]
    refine awp_join (fun b : Bool => b = (t.kind == 2 || t.kind == 3)) (fun b => stl [(1, .fsl 1 (s.map iv)), (2, .box 34 t.z), (9, .v (.int .i64 t.kind)), (12, .v (.bool b))]) ?_ ?_
    · simp only [Ty.z, EV, Nat.reduceEqDiff, Nat.reduceBEq, Nat.reduceLT, Nat.reduceLeDiff, Nat.reduceAdd, Nat.reduceSub, reduceIte]
      rcases e2 : (t.kind == 2) with _ | _
      · simp only [e2, EV, Nat.reduceEqDiff, Nat.reduceBEq, Nat.reduceLT, Nat.reduceLeDiff, Nat.reduceAdd, Nat.reduceSub, reduceIte]
        exact ⟨_, (Bool.false_or _).symm, rfl⟩
      · simp only [e2, EV, Nat.reduceEqDiff, Nat.reduceBEq, Nat.reduceLT, Nat.reduceLeDiff, Nat.reduceAdd, Nat.reduceSub, reduceIte]
        exact ⟨true, rfl, rfl⟩
    · rintro b rfl
      rcases e2 : (t.kind == 2 || t.kind == 3) with _ | _
      · simp only [Bool.or_eq_false_iff] at e2
        rcases e6 : (t.kind == 6) with _ | _
        · simp only [e6, Ty.z, EV, Nat.reduceEqDiff, Nat.reduceBEq, Nat.reduceLT, Nat.reduceLeDiff, Nat.reduceAdd, Nat.reduceSub, reduceIte]
          exact ⟨(), e2⟩
        · have e : oneP t s = 8 := by unfold oneP; rw [if_neg (by simp [e1]), if_neg (by simp [e2.1, e2.2]), if_pos e6]
          simp only [e6, Ty.z, EV, Nat.reduceEqDiff, Nat.reduceBEq, Nat.reduceLT, Nat.reduceLeDiff, Nat.reduceAdd, Nat.reduceSub, reduceIte]
          simp only [e, EV, Nat.reduceEqDiff, Nat.reduceBEq, Nat.reduceLT, Nat.reduceLeDiff, Nat.reduceAdd, Nat.reduceSub, reduceIte, evRE, retVC, cellV', evR, nfz, nfzs, nfzss, List.contains_nil, List.contains_cons, Bool.or_false, or_true]
      · have e : oneP t s = 1 := by unfold oneP; rw [if_neg (by simp [e1]), if_pos e2]
        simp only [Ty.z, EV, Nat.reduceEqDiff, Nat.reduceBEq, Nat.reduceLT, Nat.reduceLeDiff, Nat.reduceAdd, Nat.reduceSub, reduceIte]
        simp only [e, EV, Nat.reduceEqDiff, Nat.reduceBEq, Nat.reduceLT, Nat.reduceLeDiff, Nat.reduceAdd, Nat.reduceSub, reduceIte, evRE, retVC, cellV', evR, nfz, nfzs, nfzss, List.contains_nil, List.contains_cons, Bool.or_false, or_true]
  rintro _ ⟨e1, e2, e3, e6⟩
  have ho : oneP t s = match sumP s (prt false t) 0 with
    | some x => capS t x
    | none => -1 := by unfold oneP; rw [if_neg (by simp [e1]), if_neg (by simp [e2, e3]), if_neg (by simp [e6])]; all_goals (rcases sumP s (prt false t) 0 with _ | _ <;> rfl)
  simp only [Ty.z, EV, Nat.reduceEqDiff, Nat.reduceBEq, Nat.reduceLT, Nat.reduceLeDiff, Nat.reduceAdd, Nat.reduceSub, reduceIte]
  refine callK_i (d95 t ht) ?_
  simp only [Ty.z, EV, Nat.reduceEqDiff, Nat.reduceBEq, Nat.reduceLT, Nat.reduceLeDiff, Nat.reduceAdd, Nat.reduceSub, reduceIte]
  refine awp_loop (fun p : Nat × Int => p.1 ≤ (prt false t).length ∧ sumP s (prt false t) 0 = sumP s ((prt false t).drop p.1) p.2 ∧ p.2 ≤ 1000000001 * p.1 ∧ -1000000001 ≤ p.2) (fun p => stl [(1, .fsl 1 (s.map iv)), (2, .box 34 t.z), (5, .v (.int .i64 p.2)), (18, .usl 3 1 ((prt false t).map iv)), (19, .v (.int .i64 ((prt false t).length : Int))), (20, .v (.int .i64 (p.1 : Int)))]) (fun p => (prt false t).length - p.1) (0, 0) ⟨Nat.zero_le _, rfl, by simp, by omega⟩ ?_ ?_
  · simp only [Ty.z, EV, Nat.reduceEqDiff, Nat.reduceBEq, Nat.reduceLT, Nat.reduceLeDiff, Nat.reduceAdd, Nat.reduceSub, reduceIte]
    rfl
  · rintro ⟨i, a⟩ ⟨p1, p2, p3, p4⟩
    simp only at p1 p2 p3 p4
    simp only [Ty.z, EV, Nat.reduceEqDiff, Nat.reduceBEq, Nat.reduceLT, Nat.reduceLeDiff, Nat.reduceAdd, Nat.reduceSub, reduceIte]
    refine cK_cut (fun h => ?_) (fun h => ?_)
    · have q1 : i < (prt false t).length := by simpa using h
      have q2 : (i : Int) < ((prt false t).length : Int) := by omega
      obtain ⟨k0, k1⟩ := hk _ (List.getElem_mem q1)
      have kn : (prt false t)[i].toNat < s.length := by omega
      have hg : getS s (prt false t)[i] = s[(prt false t)[i].toNat] := by simp [getS, kn]
      have hle := hs _ (List.getElem_mem kn)
      rw [sumP_step q1, hg] at p2
      clear h
      simp only [nth_map q1, q1, q2, nth_map kn, kn, k0, k1, iv, Ty.z, EV, Nat.reduceEqDiff, Nat.reduceBEq, Nat.reduceLT, Nat.reduceLeDiff, Nat.reduceAdd, Nat.reduceSub, reduceIte]
      refine cK_cut (fun h => ?_) (fun h => ?_)
      · have hneg : s[(prt false t)[i].toNat] < 0 := by simpa using h
        rw [if_pos hneg] at p2
        have e : oneP t s = -1 := by rw [ho, p2]
        simp only [EV, Nat.reduceEqDiff, Nat.reduceBEq, Nat.reduceLT, Nat.reduceLeDiff, Nat.reduceAdd, Nat.reduceSub, reduceIte]
        simp only [e, EV, Nat.reduceEqDiff, Nat.reduceBEq, Nat.reduceLT, Nat.reduceLeDiff, Nat.reduceAdd, Nat.reduceSub, reduceIte, evRE, retVC, cellV', evR, nfz, nfzs, nfzss, List.contains_nil, List.contains_cons, Bool.or_false, or_true]
      · have hneg : ¬ s[(prt false t)[i].toNat] < 0 := by simpa using h
        rw [if_neg hneg] at p2
        simp only [nth_map kn, kn, k0, k1, iv, Ty.z, EV, Nat.reduceEqDiff, Nat.reduceBEq, Nat.reduceLT, Nat.reduceLeDiff, Nat.reduceAdd, Nat.reduceSub, reduceIte]
        rw [w64 _ (by omega), w64 _ (by omega)]
        exact ⟨(i + 1, a + s[(prt false t)[i].toNat]), ⟨q1, p2, by simp only; omega, by simp only; omega⟩, by simp only; omega, rfl⟩
    · have q1 : i = (prt false t).length := by have : ¬ (i : Int) < ((prt false t).length : Int) := by simpa using h
                                               omega
      subst q1
      rw [List.drop_length, sumP] at p2
      rw [p2] at ho
      clear h
      simp only [Ty.z, EV, Nat.reduceEqDiff, Nat.reduceBEq, Nat.reduceLT, Nat.reduceLeDiff, Nat.reduceAdd, Nat.reduceSub, reduceIte]
      refine awp_join (fun _ : Unit => True) (fun _ => stl [(5, .v (.int .i64 (if (t.kind == 4) = true then a * t.long else a)))]) ?_ ?_
      · simp only [Ty.z, EV, Nat.reduceEqDiff, Nat.reduceBEq, Nat.reduceLT, Nat.reduceLeDiff, Nat.reduceAdd, Nat.reduceSub, reduceIte]
        rcases e4 : (t.kind == 4) with _ | _
        · simp only [Ty.z, EV, Nat.reduceEqDiff, Nat.reduceBEq, Nat.reduceLT, Nat.reduceLeDiff, Nat.reduceAdd, Nat.reduceSub, reduceIte]
          first
            | exact ⟨(), rfl⟩
            | exact ⟨(), trivial⟩
        · obtain ⟨l0, l1⟩ := hlong e4
          have m1 : a * t.long ≤ 7000000007 * t.long := Int.mul_le_mul_of_nonneg_right (by omega) l0
          have m2 : -1000000001 * t.long ≤ a * t.long := Int.mul_le_mul_of_nonneg_right (by omega) l0
          simp only [Ty.z, EV, Nat.reduceEqDiff, Nat.reduceBEq, Nat.reduceLT, Nat.reduceLeDiff, Nat.reduceAdd, Nat.reduceSub, reduceIte]
          rw [w64 _ (by omega)]
          first
            | exact ⟨(), rfl⟩
            | exact ⟨(), trivial⟩
      · rintro _ _
        simp only [EV, Nat.reduceEqDiff, Nat.reduceBEq, Nat.reduceLT, Nat.reduceLeDiff, Nat.reduceAdd, Nat.reduceSub, reduceIte]
        refine callK_i (d57 _ _) ?_
        simp only [EV, Nat.reduceEqDiff, Nat.reduceBEq, Nat.reduceLT, Nat.reduceLeDiff, Nat.reduceAdd, Nat.reduceSub, reduceIte]
        simp only [ho, capS, EV, Nat.reduceEqDiff, Nat.reduceBEq, Nat.reduceLT, Nat.reduceLeDiff, Nat.reduceAdd, Nat.reduceSub, reduceIte, evRE, retVC, cellV', evR, nfz, nfzs, nfzss, List.contains_nil, List.contains_cons, Bool.or_false, or_true]

end Go.AM
namespace Go.AM
set_option linter.unusedVariables false
set_option linter.unusedSimpArgs false
/-- So far so good: each size is right or not known, and known are those of the first rounds. -/
def SzOk (l : List Ty) (s : List Int) (r i : Nat) : Prop := s.length = l.length ∧ ∀ j : Nat, j < l.length → (getS s j = sz l j ∨ getS s j = -1) ∧ ((rk l j < r ∨ (j < i ∧ rk l j < r + 1)) → getS s j = sz l j)

theorem getS_at {s : List Int} {j : Nat} (h : j < s.length) : getS s (j : Int) = s[j] := by simp [getS, h]

theorem getS_set {s : List Int} {i j : Nat} {v : Int} (hi : i < s.length) : getS (s.set i v) (j : Int) = if j = i then v else getS s (j : Int) := by
  simp only [getS, Int.toNat_natCast]
  by_cases e : j = i
  · subst e; simp [hi]
  · rw [if_neg e, List.getElem?_set_ne (fun h => e h.symm)]

theorem SzOk.at {l : List Ty} {s : List Int} {r i : Nat} (h : SzOk l s r i) {k : Int} (h0 : 0 ≤ k) (h1 : k < (l.length : Int)) : (getS s k = sz l k ∨ getS s k = -1) ∧ (rk l k < r → getS s k = sz l k) := by
  have := h.2 k.toNat (by omega)
  rw [Int.toNat_of_nonneg h0] at this
  exact ⟨this.1, fun hr => this.2 (.inl hr)⟩

theorem SzOk.step {l : List Ty} (ht : tabOk l = true) {s : List Int} {r i : Nat} (h : SzOk l s r i) (hi : i < l.length) : SzOk l (s.set i (oneP l[i] s)) r (i + 1) := by
  have hs : i < s.length := by rw [h.1]; exact hi
  have hk : ∀ k ∈ prt false l[i], 0 ≤ k ∧ k < (l.length : Int) ∧ rk l k < rk l (i : Int) := by
    intro k hk
    have hk' : k ∈ kids l false (i : Int) := by rw [kids_at (n := (i : Int)) (by simpa using hi)]; simpa using hk
    have h1 := kids_ok (tabOk_tys ht) (Int.natCast_nonneg i) (by omega) hk'
    exact ⟨h1.1, h1.2, rk_lt ht (Int.natCast_nonneg i) (by omega) hk'⟩
  have hnn : ∀ k, 0 ≤ sz l k := fun k => (sz_nn (tabOk_tys ht) k).1
  have hse : sz l (i : Int) = oneT l[i] (sz l) := by
    have := sz_eq (l := l) ht (n := (i : Int)) (Int.natCast_nonneg i) (by omega) (hn := by simpa using hi)
    simpa using this
  refine ⟨by rw [List.length_set]; exact h.1, fun j hj => ?_⟩
  rw [getS_set hs]
  by_cases e : j = i
  · subst e
    rw [if_pos rfl, hse]
    refine ⟨oneP_or hnn fun k hk' => (h.at (hk k hk').1 (hk k hk').2.1).1, fun hr => ?_⟩
    refine oneP_eq hnn fun k hk' => (h.at (hk k hk').1 (hk k hk').2.1).2 ?_
    have := (hk k hk').2.2
    omega
  · rw [if_neg e]
    refine ⟨(h.2 j hj).1, fun hr => (h.2 j hj).2 ?_⟩
    omega

theorem SzOk.next {l : List Ty} {s : List Int} {r : Nat} (h : SzOk l s r l.length) : SzOk l s (r + 1) 0 :=
  ⟨h.1, fun j hj => ⟨(h.2 j hj).1, fun hr => (h.2 j hj).2 (.inr ⟨hj, by omega⟩)⟩⟩

theorem SzOk.le {l : List Ty} (ht : tabOk l = true) {s : List Int} {r i : Nat} (h : SzOk l s r i) : ∀ x ∈ s, x ≤ 1000000001 := by
  intro x hx
  obtain ⟨j, hj, rfl⟩ := List.mem_iff_getElem.1 hx
  have := (h.2 j (by rw [← h.1]; exact hj)).1
  rw [getS_at hj] at this
  have := (sz_nn (tabOk_tys ht) (j : Int)).2
  omega

/-- loop.example/g00837/spec.l3Size -/
def m55 : MC :=
  (.seq
   (.reg [⟨(some 4), none, .a (.asg (.c (.int .i64 0)))⟩])
   (.seq
    (.reg [⟨(some 9), none, .q (.mov (.t 0))⟩,
      ⟨(some 10), none, .q (.len false (.t 9))⟩,
      ⟨(some 11), none, .a (.mks 3 1 8 [.v (.int .i64 0)] (.t 10) (.t 10))⟩,
      ⟨(some 5), none, .a (.asg (.t 11))⟩])
    (.seq
     (.seq
      (.reg [⟨(some 12), none, .q (.mov (.t 5))⟩,
        ⟨(some 13), none, .q (.len false (.t 12))⟩,
        ⟨(some 14), none, .q (.mov (.c (.int .i64 0)))⟩])
      (.block 0
       (.loop [0, 1, 5, 11, 13, 14]
        (.seq
         (.reg [⟨(some 15), none, .q (.bin false .lss (.t 14) (.t 13))⟩])
         (.seq
          (.cond (.t 15)
           .skip
           (.exit 0))
          (.seq
           (.block 1
            (.seq
             (.reg [⟨(some 16), none, .q (.mov (.t 14))⟩,
               ⟨(some 6), none, .a (.asg (.t 16))⟩])
             (.reg [⟨(some 17), none, .q (.mov (.t 5))⟩,
               ⟨(some 18), none, .q (.mov (.t 6))⟩,
               ⟨(some 19), none, .q (.iad 1 (.t 17) (.t 18))⟩,
               ⟨none, none, .a (.store 1 (.t 19) (.c (.int .i64 (-1))))⟩])))
           (.reg [⟨(some 20), none, .q (.bin false .add (.t 14) (.c (.int .i64 1)))⟩,
             ⟨(some 14), none, .q (.mov (.t 20))⟩])))))))
     (.seq
      (.seq
       (.reg [⟨(some 21), none, .q (.mov (.t 0))⟩,
         ⟨(some 22), none, .q (.len false (.t 21))⟩,
         ⟨(some 23), none, .q (.mov (.c (.int .i64 0)))⟩])
       (.block 2
        (.loop [0, 1, 5, 11, 22, 23]
         (.seq
          (.reg [⟨(some 24), none, .q (.bin false .lss (.t 23) (.t 22))⟩])
          (.seq
           (.cond (.t 24)
            .skip
            (.exit 2))
           (.seq
            (.block 3
             (.seq
              (.reg [⟨(some 25), none, .q (.mov (.t 0))⟩,
                ⟨(some 26), none, .q (.len false (.t 25))⟩,
                ⟨(some 27), none, .q (.mov (.c (.int .i64 0)))⟩])
              (.block 4
               (.loop [0, 1, 5, 11, 22, 23, 25, 26, 27]
                (.seq
                 (.reg [⟨(some 28), none, .q (.bin false .lss (.t 27) (.t 26))⟩])
                 (.seq
                  (.cond (.t 28)
                   .skip
                   (.exit 4))
                  (.seq
                   (.block 5
                    (.seq
                     (.reg [⟨(some 29), none, .q (.mov (.t 27))⟩,
                       ⟨(some 30), none, .q (.iad 6 (.t 25) (.t 27))⟩,
                       ⟨(some 31), none, .q (.load true 6 (.t 30))⟩,
                       ⟨(some 8), none, .a (.alloc 34 [.v (.int .i64 0), .v (.int .i64 0), .v (.int .i64 0), .s 56 3, .v (.string ({ data := #[] })), .v (.string ({ data := #[] }))])⟩,
                       ⟨(some 7), none, .a (.asg (.t 29))⟩,
                       ⟨none, none, .a (.store 6 (.t 8) (.t 31))⟩])
                     (.reg [⟨(some 32), none, .q (.mov (.t 5))⟩,
                       ⟨(some 33), none, .q (.mov (.t 7))⟩,
                       ⟨(some 34), none, .q (.load true 6 (.t 8))⟩,
                       ⟨(some 35), none, .q (.mov (.t 5))⟩,
                       ⟨(some 36), none, .a (.call (.fn 73) false [.lend (.t 34), .lend (.t 35)])⟩,
                       ⟨(some 37), none, .q (.iad 1 (.t 32) (.t 33))⟩,
                       ⟨none, none, .a (.store 1 (.t 37) (.t 36))⟩])))
                   (.reg [⟨(some 38), none, .q (.bin false .add (.t 27) (.c (.int .i64 1)))⟩,
                     ⟨(some 27), none, .q (.mov (.t 38))⟩]))))))))
            (.reg [⟨(some 39), none, .q (.bin false .add (.t 23) (.c (.int .i64 1)))⟩,
              ⟨(some 23), none, .q (.mov (.t 39))⟩])))))))
      (.seq
       (.reg [⟨(some 40), none, .q (.mov (.t 5))⟩,
         ⟨(some 41), none, .q (.mov (.t 1))⟩,
         ⟨(some 42), none, .q (.iad 1 (.t 40) (.t 41))⟩,
         ⟨(some 43), none, .q (.load false 1 (.t 42))⟩,
         ⟨(some 4), none, .a (.asg (.t 43))⟩])
       .ret)))))

set_option maxHeartbeats 1000000 in
set_option maxRecDepth 100000 in
theorem d55 (l : List Ty) (n : Int) (hl : (l.length : Int) ≤ 1048576) (hs : ∀ s ∈ l, s.sm) (ht : tabOk l = true) (hn : isNum l n = true) : Does Go.Proofs.Tryz.prog 55 [.fsl 6 (l.map Ty.z), .v (.int .i64 n)] false (.v (.int .i64 (sz l n))) [.dead, .dead] := by
  have h24 := tabOk_len ht
  obtain ⟨n0, n1⟩ := isNum_in.1 hn
  refine does_intro (mc := m55) (N := 44) (rs := [4]) (fx := []) 2 rfl (by decide +kernel) ?_
  simp only [m55, EV, Nat.reduceEqDiff, Nat.reduceBEq, Nat.reduceLT, Nat.reduceLeDiff, Nat.reduceAdd, Nat.reduceSub, reduceIte]
  refine ⟨by omega, by omega, ?_⟩
  refine awp_loop (fun p : List Int × Nat => p.2 ≤ l.length ∧ p.1.length = l.length ∧ ∀ j : Nat, j < p.2 → getS p.1 (j : Int) = -1) (fun p => stl [(0, .fsl 6 (l.map Ty.z)), (1, .v (.int .i64 n)), (5, .usl 3 1 (p.1.map iv)), (11, .dead), (13, .v (.int .i64 (l.length : Int))), (14, .v (.int .i64 (p.2 : Int)))]) (fun p => l.length - p.2) (List.replicate l.length 0, 0) ⟨Nat.zero_le _, by simp, fun j h => absurd h (by omega)⟩ ?_ ?_
  · simp only [List.map_replicate, List.length_replicate, iv, EV, Nat.reduceEqDiff, Nat.reduceBEq, Nat.reduceLT, Nat.reduceLeDiff, Nat.reduceAdd, Nat.reduceSub, reduceIte]
    rfl
  · rintro ⟨s, i⟩ ⟨p1, p2, p3⟩
    simp only at p1 p2 p3
    simp only [EV, Nat.reduceEqDiff, Nat.reduceBEq, Nat.reduceLT, Nat.reduceLeDiff, Nat.reduceAdd, Nat.reduceSub, reduceIte]
    refine cK_cut (fun h => ?_) (fun h => ?_)
    · have q1 : i < l.length := by simpa using h
      have q2 : (i : Int) < (l.length : Int) := by omega
      have q3 : i < s.length := by omega
      have q4 : (i : Int) < (s.length : Int) := by omega
      clear h
      simp only [nth_map q3, q3, q4, iv, EV, Nat.reduceEqDiff, Nat.reduceBEq, Nat.reduceLT, Nat.reduceLeDiff, Nat.reduceAdd, Nat.reduceSub, reduceIte]
      rw [w64 _ (by omega)]
      refine ⟨(s.set i (-1), i + 1), ⟨q1, by simp [p2], fun j hj => ?_⟩, by simp only; omega, by simp only [List.map_set]; rfl⟩
      rw [getS_set q3]
      simp only at hj
      split
      · rfl
      · exact p3 j (by omega)
    · have q1 : i = l.length := by have : ¬ (i : Int) < (l.length : Int) := by simpa using h
                                   omega
      subst q1
      clear h
      have h0 : SzOk l s 0 0 := ⟨p2, fun j hj => ⟨.inr (p3 j hj), fun h => by omega⟩⟩
      simp only [EV, Nat.reduceEqDiff, Nat.reduceBEq, Nat.reduceLT, Nat.reduceLeDiff, Nat.reduceAdd, Nat.reduceSub, reduceIte]
      refine awp_loop (fun p : List Int × Nat => p.2 ≤ l.length ∧ SzOk l p.1 p.2 0) (fun p => stl [(0, .fsl 6 (l.map Ty.z)), (1, .v (.int .i64 n)), (5, .usl 3 1 (p.1.map iv)), (11, .dead), (22, .v (.int .i64 (l.length : Int))), (23, .v (.int .i64 (p.2 : Int)))]) (fun p => l.length - p.2) (s, 0) ⟨Nat.zero_le _, h0⟩ ?_ ?_
      · simp only [EV, Nat.reduceEqDiff, Nat.reduceBEq, Nat.reduceLT, Nat.reduceLeDiff, Nat.reduceAdd, Nat.reduceSub, reduceIte]
        rfl
      · rintro ⟨s, r⟩ ⟨p1, p2⟩
        simp only at p1 p2
        simp only [EV, Nat.reduceEqDiff, Nat.reduceBEq, Nat.reduceLT, Nat.reduceLeDiff, Nat.reduceAdd, Nat.reduceSub, reduceIte]
        refine cK_cut (fun h => ?_) (fun h => ?_)
        · have r1 : r < l.length := by simpa using h
          clear h
          simp only [EV, Nat.reduceEqDiff, Nat.reduceBEq, Nat.reduceLT, Nat.reduceLeDiff, Nat.reduceAdd, Nat.reduceSub, reduceIte]
          refine awp_loop (fun p : List Int × Nat => p.2 ≤ l.length ∧ SzOk l p.1 r p.2) (fun p => stl [(0, .fsl 6 (l.map Ty.z)), (1, .v (.int .i64 n)), (5, .usl 3 1 (p.1.map iv)), (11, .dead), (22, .v (.int .i64 (l.length : Int))), (23, .v (.int .i64 (r : Int))), (25, .fsl 6 (l.map Ty.z)), (26, .v (.int .i64 (l.length : Int))), (27, .v (.int .i64 (p.2 : Int)))]) (fun p => l.length - p.2) (s, 0) ⟨Nat.zero_le _, p2⟩ ?_ ?_
          · simp only [EV, Nat.reduceEqDiff, Nat.reduceBEq, Nat.reduceLT, Nat.reduceLeDiff, Nat.reduceAdd, Nat.reduceSub, reduceIte]
            rfl
          · rintro ⟨s, i⟩ ⟨p3, p4⟩
            simp only at p3 p4
            simp only [EV, Nat.reduceEqDiff, Nat.reduceBEq, Nat.reduceLT, Nat.reduceLeDiff, Nat.reduceAdd, Nat.reduceSub, reduceIte]
            refine cK_cut (fun h => ?_) (fun h => ?_)
            · have q1 : i < l.length := by simpa using h
              have q2 : (i : Int) < (l.length : Int) := by omega
              have q3 : i < s.length := by rw [p4.1]; exact q1
              have q4 : (i : Int) < (s.length : Int) := by omega
              have hsm := hs _ (List.getElem_mem q1)
              have hk : ∀ k ∈ prt false l[i], 0 ≤ k ∧ k < (s.length : Int) := by
                intro k hk
                have hk' : k ∈ kids l false (i : Int) := by rw [kids_at (n := (i : Int)) (by simpa using q1)]; simpa using hk
                have h1 := kids_ok (tabOk_tys ht) (Int.natCast_nonneg i) (by omega) hk'
                rw [p4.1]; exact h1
              clear h
              simp only [iv_frz, nth_map q1, q1, q2, TyE, Ty.z, EV, Nat.reduceEqDiff, Nat.reduceBEq, Nat.reduceLT, Nat.reduceLeDiff, Nat.reduceAdd, Nat.reduceSub, reduceIte]
              refine callK_i (d73 l[i] s hsm hk (prt_len (tabOk_tys ht) false q1) (by rw [p4.1]; exact hl) (p4.le ht) fun h4 => by have := (tysOk_good (tabOk_tys ht) q1).arr (by simpa using h4); omega) ?_
              simp only [nth_map q3, q3, q4, iv, EV, Nat.reduceEqDiff, Nat.reduceBEq, Nat.reduceLT, Nat.reduceLeDiff, Nat.reduceAdd, Nat.reduceSub, reduceIte]
              rw [w64 _ (by omega)]
              exact ⟨(s.set i (oneP l[i] s), i + 1), ⟨q1, p4.step ht q1⟩, by simp only; omega, by simp only [List.map_set]; rfl⟩
            · have q1 : i = l.length := by have : ¬ (i : Int) < (l.length : Int) := by simpa using h
                                           omega
              subst q1
              simp only [EV, Nat.reduceEqDiff, Nat.reduceBEq, Nat.reduceLT, Nat.reduceLeDiff, Nat.reduceAdd, Nat.reduceSub, reduceIte]
              rw [w64 _ (by omega)]
              exact ⟨(s, r + 1), ⟨r1, p4.next⟩, by simp only; omega, rfl⟩
        · have q1 : r = l.length := by have : ¬ (r : Int) < (l.length : Int) := by simpa using h
                                       omega
          subst q1
          have hgs := (p2.at n0 n1).2 (rk_small ht n0 n1)
          have q3 : n.toNat < s.length := by rw [p2.1]; omega
          have q4 : n < (s.length : Int) := by rw [p2.1]; exact n1
          have hgn : s[n.toNat] = sz l n := by rw [← hgs]; simp [getS, q3]
          simp only [nth_map q3, q3, q4, n0, iv, EV, Nat.reduceEqDiff, Nat.reduceBEq, Nat.reduceLT, Nat.reduceLeDiff, Nat.reduceAdd, Nat.reduceSub, reduceIte]
          simp only [hgn, EV, Nat.reduceEqDiff, Nat.reduceBEq, Nat.reduceLT, Nat.reduceLeDiff, Nat.reduceAdd, Nat.reduceSub, reduceIte, evRE, retVC, cellV', evR, nfz, nfzs, nfzss, List.contains_nil, List.contains_cons, Bool.or_false, or_true]

end Go.AM
namespace Go.AM
set_option linter.unusedVariables false
set_option linter.unusedSimpArgs false
def sizesL (l : List Ty) : List Int := (List.range l.length).map fun k : Nat => sz l (k : Int)

end Go.AM
namespace Go.AM
set_option linter.unusedVariables false
set_option linter.unusedSimpArgs false
/-- A byte as a row of one cell. -/
def bv (n : Int) : List AV := [.v (.int .u8 n)]

structure Cur where
  code : List Int
  pos : Int
  seed : Int

def Cur.z (c : Cur) : List AV := [.fsl 1 (c.code.map bv), .v (.int .i64 c.pos), .v (.int .u64 c.seed)]

def Cur.ok (c : Cur) (n : Int) : Prop := (c.code.length : Int) ≤ 1048576 ∧ (∀ b ∈ c.code, 0 ≤ b ∧ b ≤ 255) ∧ 0 ≤ c.pos ∧ c.pos ≤ n

theorem Cur.ok.up {c : Cur} {n m : Int} (h : c.ok n) (hm : n ≤ m) : c.ok m := ⟨h.1, h.2.1, h.2.2.1, by have := h.2.2.2; omega⟩

/-- A call that draws a number: told by what it says of the number and of the rest. -/
def Draws (f : Nat) (args : List AV) (c : Cur) (n m : Int) (Q : AV → Prop) : Prop :=
  DoesE Go.Proofs.Tryz.prog f (.box 65 c.z :: args) false fun r o => ∃ c' : Cur, o = .box 65 c'.z :: args.map (fun _ => AV.dead) ∧ c'.ok (n + m) ∧ Q r

theorem Draws.call {f : Nat} {args : List AV} {c : Cur} {n m : Int} {Q : AV → Prop} (h : Draws f args c n m Q) {O : AV → List AV} (hO : ∀ out, O out = out :: args.map fun _ => AV.dead) {S : AV → AV → Prop}
    (k : ∀ (r : AV) (c' : Cur), c'.ok (n + m) → Q r → S (.box 65 c'.z) r) : callK2 Go.Proofs.Tryz.prog f (.box 65 c.z :: args) false O (.box 65 c.z) S := by
  refine callE2_i (T := fun r out => ∃ c' : Cur, out = .box 65 c'.z ∧ c'.ok (n + m) ∧ Q r) h ?_ ?_
  · rintro r o ⟨c', rfl, h1, h2⟩
    exact ⟨.box 65 c'.z, ⟨c', rfl, h1, h2⟩, (hO _).symm⟩
  · rintro r out ⟨c', rfl, h1, h2⟩
    exact ⟨rfl, rfl, k r c' h1 h2⟩

/-- loop.example/g00837/spec.l1Most -/
def m56 : MC :=
  (.seq
   (.reg [⟨(some 4), none, .a (.asg (.c (.int .i64 0)))⟩])
   (.seq
    (.seq
     (.reg [⟨(some 5), none, .q (.mov (.t 0))⟩,
       ⟨(some 6), none, .q (.mov (.t 1))⟩,
       ⟨(some 7), none, .q (.bin false .gtr (.t 5) (.t 6))⟩])
     (.cond (.t 7)
      (.seq
       (.reg [⟨(some 8), none, .q (.mov (.t 0))⟩,
         ⟨(some 4), none, .a (.asg (.t 8))⟩])
       .ret)
      .skip))
    (.seq
     (.reg [⟨(some 9), none, .q (.mov (.t 1))⟩,
       ⟨(some 4), none, .a (.asg (.t 9))⟩])
     .ret)))

theorem d56 (a b : Int) : Does Go.Proofs.Tryz.prog 56 [.v (.int .i64 a), .v (.int .i64 b)] false (.v (.int .i64 (max a b))) [.dead, .dead] := by
  refine does_intro (mc := m56) (N := 10) (rs := [4]) (fx := []) 2 rfl (by decide +kernel) ?_
  simp only [m56, EV, Nat.reduceEqDiff, Nat.reduceBEq, Nat.reduceLT, Nat.reduceLeDiff, Nat.reduceAdd, Nat.reduceSub, reduceIte]
  refine cK_cut (fun h => ?_) (fun h => ?_)
  · have e : max a b = a := by have : b < a := by simpa using h
                               omega
    simp only [EV, Nat.reduceEqDiff, Nat.reduceBEq, Nat.reduceLT, Nat.reduceLeDiff, Nat.reduceAdd, Nat.reduceSub, reduceIte]
    simp only [e, EV, Nat.reduceEqDiff, Nat.reduceBEq, Nat.reduceLT, Nat.reduceLeDiff, Nat.reduceAdd, Nat.reduceSub, reduceIte, evRE, retVC, cellV', evR, nfz, nfzs, nfzss, List.contains_nil, List.contains_cons, Bool.or_false, or_true]
  · have e : max a b = b := by have : ¬ b < a := by simpa using h
                               omega
    simp only [EV, Nat.reduceEqDiff, Nat.reduceBEq, Nat.reduceLT, Nat.reduceLeDiff, Nat.reduceAdd, Nat.reduceSub, reduceIte]
    simp only [e, EV, Nat.reduceEqDiff, Nat.reduceBEq, Nat.reduceLT, Nat.reduceLeDiff, Nat.reduceAdd, Nat.reduceSub, reduceIte, evRE, retVC, cellV', evR, nfz, nfzs, nfzss, List.contains_nil, List.contains_cons, Bool.or_false, or_true]

end Go.AM
namespace Go.AM
set_option linter.unusedVariables false
set_option linter.unusedSimpArgs false
/-- What is drawn: small, and a pointer leads to a type. -/
structure TyD (n : Int) (t : Ty) : Prop where
  few : t.fields.length ≤ 3
  names : ∀ f ∈ t.fields, 0 < (f.name.size : Int) ∧ (f.name.size : Int) ≤ 40
  owner : (t.owner.size : Int) ≤ 40
  name : (t.name.size : Int) ≤ 40
  ptr : t.kind = 6 → 0 ≤ t.base ∧ t.base < n

theorem TyD.sm {n : Int} {t : Ty} (h : TyD n t) : t.sm := by
  have := h.few; have h2 := h.owner; have h3 := h.name
  exact ⟨trivial, trivial, trivial, ⟨by omega, fun f hf => ⟨by have := (h.names f hf).2; omega, trivial, trivial⟩⟩, by omega, by omega⟩

theorem TyD.put {n : Int} {t : Ty} (h : TyD n t) {o m : ByteArray} (h1 : (o.size : Int) ≤ 40) (h2 : (m.size : Int) ≤ 40) : TyD n { t with owner := o, name := m } := ⟨h.few, h.names, h1, h2, h.ptr⟩

end Go.AM
namespace Go.AM
set_option linter.unusedVariables false
set_option linter.unusedSimpArgs false
/-- What is drawn, in all forms: few fields, and each has a name. -/
def Ty.dr (t : Ty) : Prop := t.fields.length ≤ 3 ∧ (∀ f ∈ t.fields, 0 < (f.name.size : Int) ∧ (f.name.size : Int) ≤ 40) ∧ (t.owner.size : Int) ≤ 40 ∧ (t.name.size : Int) ≤ 40

theorem Ty.dr.sm {t : Ty} (h : t.dr) : t.sm := by
  obtain ⟨h1, h2, h3, h4⟩ := h
  exact ⟨trivial, trivial, trivial, ⟨by omega, fun f hf => ⟨by have := (h2 f hf).2; omega, trivial, trivial⟩⟩, by omega, by omega⟩

theorem TyD.dr {n : Int} {t : Ty} (h : TyD n t) : t.dr := ⟨h.few, h.names, h.owner, h.name⟩

theorem Draws.mono {f : Nat} {args : List AV} {c : Cur} {n m : Int} {Q Q' : AV → Prop} (h : Draws f args c n m Q) (hq : ∀ r, Q r → Q' r) : Draws f args c n m Q' := by
  refine ⟨h.1, fun w Fz xs os h1 h2 h3 h4 => (h.2 w Fz xs os h1 h2 h3 h4).mono ?_⟩
  rintro e w' ⟨res, outs, ⟨c', g1, g2, g3⟩, hh⟩
  exact ⟨_, _, ⟨c', g1, g2, hq _ g3⟩, hh⟩

end Go.AM
namespace Go.AM
set_option linter.unusedVariables false
set_option linter.unusedSimpArgs false
/-- loop.example/g00837/laws.markText -/
def m42 : MC :=
  (.seq
   (.reg [⟨(some 2), none, .a (.asg (.c (.string ({ data := #[] }))))⟩])
   (.seq
    (.seq
     (.reg [⟨(some 4), none, .q (.mov (.t 0))⟩,
       ⟨(some 5), none, .q (.bin false .leq (.t 4) (.c (.int .i64 0)))⟩])
     (.cond (.t 5)
      (.seq
       (.reg [⟨(some 2), none, .a (.asg (.c (.string ({ data := #[109, 48] }))))⟩])
       .ret)
      .skip))
    (.seq
     (.reg [⟨(some 3), none, .a (.asg (.c (.string ({ data := #[] }))))⟩])
     (.seq
      (.block 0
       (.loop [0, 3]
        (.seq
         (.seq
          (.reg [⟨(some 6), none, .q (.mov (.t 0))⟩,
            ⟨(some 7), none, .q (.bin false .gtr (.t 6) (.c (.int .i64 0)))⟩])
          (.cond (.t 7)
           .skip
           (.exit 0)))
         (.block 1
          (.seq
           (.reg [⟨(some 8), none, .q (.mov (.t 0))⟩,
             ⟨(some 9), none, .q (.bin false .rem (.t 8) (.c (.int .i64 10)))⟩,
             ⟨(some 10), none, .q (.bin false .add (.c (.int .i64 48)) (.t 9))⟩,
             ⟨(some 11), none, .q (.conv .u8 (.t 10))⟩,
             ⟨(some 12), none, .a (.bsl 5 1 [.t 11])⟩,
             ⟨(some 13), none, .q (.b2s (.t 12))⟩,
             ⟨(some 14), none, .q (.mov (.t 3))⟩,
             ⟨(some 15), none, .q (.bin false .add (.t 13) (.t 14))⟩,
             ⟨(some 3), none, .a (.asg (.t 15))⟩])
           (.reg [⟨(some 16), none, .q (.mov (.t 0))⟩,
             ⟨(some 17), none, .q (.bin false .quo (.t 16) (.c (.int .i64 10)))⟩,
             ⟨(some 0), none, .a (.asg (.t 17))⟩]))))))
      (.seq
       (.reg [⟨(some 18), none, .q (.mov (.t 3))⟩,
         ⟨(some 19), none, .q (.bin false .add (.c (.string ({ data := #[109] }))) (.t 18))⟩,
         ⟨(some 2), none, .a (.asg (.t 19))⟩])
       .ret)))))

def mtL (k : Int) (s : ByteArray) : ByteArray := if h : 0 < k then mtL (k.tdiv 10) (strA [IntKind.u8.wrap (48 + k.tmod 10)] ++ s) else s
  termination_by k.toNat
  decreasing_by
  have : k.tdiv 10 = k / 10 := Int.tdiv_eq_ediv_of_nonneg (by omega)
  rw [this]; omega

def mt (k : Int) : ByteArray := if k ≤ 0 then ⟨#[109, 48]⟩ else ⟨#[109]⟩ ++ mtL k ⟨#[]⟩

theorem d42 (k : Int) (h0 : -9223372036854775808 ≤ k) (h1 : k ≤ 4611686018427387904) : Does Go.Proofs.Tryz.prog 42 [.v (.int .i64 k)] false (.v (.string (mt k))) [.dead] := by
  refine does_intro (mc := m42) (N := 20) (rs := [2]) (fx := []) 1 rfl (by decide +kernel) ?_
  simp only [m42, EV, Nat.reduceEqDiff, Nat.reduceBEq, Nat.reduceLT, Nat.reduceLeDiff, Nat.reduceAdd, Nat.reduceSub, reduceIte]
  refine cK_cut (fun h => ?_) (fun h => ?_)
  · have h2 : k ≤ 0 := by simpa using h
    simp only [EV, Nat.reduceEqDiff, Nat.reduceBEq, Nat.reduceLT, Nat.reduceLeDiff, Nat.reduceAdd, Nat.reduceSub, reduceIte]
    simp only [mt, h2, EV, Nat.reduceEqDiff, Nat.reduceBEq, Nat.reduceLT, Nat.reduceLeDiff, Nat.reduceAdd, Nat.reduceSub, reduceIte, evRE, retVC, cellV', evR, nfz, nfzs, nfzss, List.contains_nil, List.contains_cons, Bool.or_false, or_true]
  · have h2 : ¬ k ≤ 0 := by simpa using h
    simp only [EV, Nat.reduceEqDiff, Nat.reduceBEq, Nat.reduceLT, Nat.reduceLeDiff, Nat.reduceAdd, Nat.reduceSub, reduceIte]
    refine awp_loop (fun p : Int × ByteArray => 0 ≤ p.1 ∧ p.1 ≤ k ∧ (p.2.size : Int) + p.1 ≤ k ∧ mtL p.1 p.2 = mtL k ⟨#[]⟩) (fun p => stl [(0, .v (.int .i64 p.1)), (3, .v (.string p.2))]) (fun p => p.1.toNat) (k, ⟨#[]⟩) ⟨by omega, by omega, by show (((⟨#[]⟩ : ByteArray).size : Nat) : Int) + k ≤ k; simp [ByteArray.size], rfl⟩ ?_ ?_
    · simp only [EV, Nat.reduceEqDiff, Nat.reduceBEq, Nat.reduceLT, Nat.reduceLeDiff, Nat.reduceAdd, Nat.reduceSub, reduceIte]
    · rintro ⟨n, s⟩ ⟨p0, p1, p2, p3⟩
      simp only [EV, Nat.reduceEqDiff, Nat.reduceBEq, Nat.reduceLT, Nat.reduceLeDiff, Nat.reduceAdd, Nat.reduceSub, reduceIte]
      refine cK_cut (fun h => ?_) (fun h => ?_)
      · have h3 : 0 < n := by simpa using h
        have ed : n.tdiv 10 = n / 10 := Int.tdiv_eq_ediv_of_nonneg (by omega)
        have em : n.tmod 10 = n % 10 := Int.tmod_eq_emod_of_nonneg (by omega)
        have w1 : IntKind.i64.wrap (48 + n.tmod 10) = 48 + n.tmod 10 := w64 _ (by omega)
        have w2 : IntKind.i64.wrap (n.tdiv 10) = n.tdiv 10 := w64 _ (by omega)
        simp only [w1, w2, EV, Nat.reduceEqDiff, Nat.reduceBEq, Nat.reduceLT, Nat.reduceLeDiff, Nat.reduceAdd, Nat.reduceSub, reduceIte]
        simp only at p0 p1 p2 p3
        have hs : (strA [IntKind.u8.wrap (48 + n.tmod 10)]).size = 1 := rfl
        refine ⟨by decide, ?_, by decide, (n.tdiv 10, strA [IntKind.u8.wrap (48 + n.tmod 10)] ++ s), ⟨?_, ?_, ?_, ?_⟩, ?_, rfl⟩
        · rw [hs]; omega
        · show 0 ≤ n.tdiv 10; omega
        · show n.tdiv 10 ≤ k; omega
        · show (((strA [IntKind.u8.wrap (48 + n.tmod 10)] ++ s).size : Nat) : Int) + n.tdiv 10 ≤ k
          rw [ByteArray.size_append, hs]; omega
        · show mtL (n.tdiv 10) (strA [IntKind.u8.wrap (48 + n.tmod 10)] ++ s) = _
          rw [← p3, mtL.eq_def n, dif_pos h3]
        · show (n.tdiv 10).toNat < n.toNat; omega
      · have h3 : ¬ 0 < n := by simpa using h
        simp only at p0 p1 p2 p3
        have e : mtL k ⟨#[]⟩ = s := by rw [← p3, mtL.eq_def, dif_neg h3]
        have hs : ((⟨#[109]⟩ : ByteArray).size : Nat) = 1 := rfl
        simp only [EV, Nat.reduceEqDiff, Nat.reduceBEq, Nat.reduceLT, Nat.reduceLeDiff, Nat.reduceAdd, Nat.reduceSub, reduceIte]
        refine ⟨?_, ?_⟩
        · rw [hs]; omega
        · simp only [mt, h2, e, EV, Nat.reduceEqDiff, Nat.reduceBEq, Nat.reduceLT, Nat.reduceLeDiff, Nat.reduceAdd, Nat.reduceSub, reduceIte, evRE, retVC, cellV', evR, nfz, nfzs, nfzss, List.contains_nil, List.contains_cons, Bool.or_false, or_true]

def mkFd (k : Int) : Fd := ⟨mt (k), k + 1, k + 2⟩

def mkFdS : List Fd → Int → List Fd
  | [], _ => []
  | f :: fs, k => mkFd k :: mkFdS fs (k + 3)

theorem mkFdS_len : ∀ (l : List Fd) (k : Int), (mkFdS l k).length = l.length
  | [], _ => rfl
  | f :: fs, k => by simp [mkFdS, mkFdS_len fs]

/-- loop.example/g00837/laws.markFieldS -/
def m41 : MC :=
  (.seq
   (.reg [⟨(some 4), none, .a (.asg (.c (.int .i64 0)))⟩])
   (.seq
    (.seq
     (.reg [⟨(some 5), none, .a (.asg (.c (.int .i64 0)))⟩])
     (.block 0
      (.loop [0, 1, 5]
       (.seq
        (.seq
         (.reg [⟨(some 6), none, .q (.mov (.t 5))⟩,
           ⟨(some 7), none, .q (.mov (.t 0))⟩,
           ⟨(some 8), none, .q (.len false (.t 7))⟩,
           ⟨(some 9), none, .q (.bin false .lss (.t 6) (.t 8))⟩])
         (.cond (.t 9)
          .skip
          (.exit 0)))
        (.seq
         (.block 1
          (.seq
           (.reg [⟨(some 12), none, .q (.mov (.t 0))⟩,
             ⟨(some 13), none, .q (.mov (.t 5))⟩,
             ⟨(some 14), none, .q (.mov (.t 1))⟩,
             ⟨(some 15), none, .a (.call (.fn 42) false [.lend (.t 14)])⟩,
             ⟨(some 16), none, .q (.iad 3 (.t 12) (.t 13))⟩,
             ⟨(some 17), none, .q (.fad 0 (.t 16))⟩,
             ⟨none, none, .a (.store 1 (.t 17) (.t 15))⟩])
           (.seq
            (.reg [⟨(some 18), none, .q (.mov (.t 1))⟩,
              ⟨(some 19), none, .q (.bin false .add (.t 18) (.c (.int .i64 1)))⟩,
              ⟨(some 1), none, .a (.asg (.t 19))⟩])
            (.seq
             (.reg [⟨(some 20), none, .q (.mov (.t 0))⟩,
               ⟨(some 21), none, .q (.mov (.t 5))⟩,
               ⟨(some 22), none, .q (.mov (.t 1))⟩,
               ⟨(some 23), none, .q (.iad 3 (.t 20) (.t 21))⟩,
               ⟨(some 24), none, .q (.fad 1 (.t 23))⟩,
               ⟨none, none, .a (.store 1 (.t 24) (.t 22))⟩])
             (.seq
              (.reg [⟨(some 25), none, .q (.mov (.t 1))⟩,
                ⟨(some 26), none, .q (.bin false .add (.t 25) (.c (.int .i64 1)))⟩,
                ⟨(some 1), none, .a (.asg (.t 26))⟩])
              (.seq
               (.reg [⟨(some 27), none, .q (.mov (.t 0))⟩,
                 ⟨(some 28), none, .q (.mov (.t 5))⟩,
                 ⟨(some 29), none, .q (.mov (.t 1))⟩,
                 ⟨(some 30), none, .q (.iad 3 (.t 27) (.t 28))⟩,
                 ⟨(some 31), none, .q (.fad 2 (.t 30))⟩,
                 ⟨none, none, .a (.store 1 (.t 31) (.t 29))⟩])
               (.reg [⟨(some 32), none, .q (.mov (.t 1))⟩,
                 ⟨(some 33), none, .q (.bin false .add (.t 32) (.c (.int .i64 1)))⟩,
                 ⟨(some 1), none, .a (.asg (.t 33))⟩])))))))
         (.reg [⟨(some 10), none, .q (.mov (.t 5))⟩,
           ⟨(some 11), none, .q (.bin false .add (.t 10) (.c (.int .i64 1)))⟩,
           ⟨(some 5), none, .a (.asg (.t 11))⟩]))))))
    (.seq
     (.reg [⟨(some 34), none, .q (.mov (.t 1))⟩,
       ⟨(some 4), none, .a (.asg (.t 34))⟩])
     .ret)))

theorem d41 (l : List Fd) (k : Int) (h0 : 0 ≤ k) (h1 : k + 3 * l.length ≤ 4611686018427387904) :
    Does Go.Proofs.Tryz.prog 41 [.usl 56 3 (l.map Fd.o), .v (.int .i64 k)] false (.v (.int .i64 (k + 3 * l.length))) [.usl 56 3 ((mkFdS l k).map Fd.o), .dead] := by
  refine does_intro (mc := m41) (N := 35) (rs := [4]) (fx := [0]) 2 rfl (by decide +kernel) ?_
  simp only [m41, EV, Nat.reduceEqDiff, Nat.reduceBEq, Nat.reduceLT, Nat.reduceLeDiff, Nat.reduceAdd, Nat.reduceSub, reduceIte]
  refine awp_loop (fun p : List Fd × List Fd × Int => p.1 ++ mkFdS p.2.1 p.2.2 = mkFdS l k ∧ p.2.2 + 3 * p.2.1.length = k + 3 * l.length ∧ 0 ≤ p.2.2 ∧ p.1.length + p.2.1.length = l.length)
    (fun p => stl [(0, .usl 56 3 ((p.1 ++ p.2.1).map Fd.o)), (1, .v (.int .i64 p.2.2)), (5, .v (.int .i64 (p.1.length : Int)))]) (fun p => p.2.1.length) ([], l, k) ⟨rfl, rfl, h0, by simp⟩ ?_ ?_
  · simp only [EV, Nat.reduceEqDiff, Nat.reduceBEq, Nat.reduceLT, Nat.reduceLeDiff, Nat.reduceAdd, Nat.reduceSub, reduceIte]
    rfl
  · rintro ⟨pre, post, n⟩ ⟨p0, p1, p2, p3⟩
    cases post with
    | nil =>
      simp only [EV, Nat.reduceEqDiff, Nat.reduceBEq, Nat.reduceLT, Nat.reduceLeDiff, Nat.reduceAdd, Nat.reduceSub, reduceIte]
      refine cK_cut (fun h => ?_) (fun h => ?_)
      · simp at h
      · simp only [EV, Nat.reduceEqDiff, Nat.reduceBEq, Nat.reduceLT, Nat.reduceLeDiff, Nat.reduceAdd, Nat.reduceSub, reduceIte]
        simp only [List.append_nil, mkFdS, List.length_nil] at p0 p1
        have e : n = k + 3 * l.length := by simp at p1; omega
        simp only [p0, ← e, EV, Nat.reduceEqDiff, Nat.reduceBEq, Nat.reduceLT, Nat.reduceLeDiff, Nat.reduceAdd, Nat.reduceSub, reduceIte, evRE, retVC, cellV', evR, nfz, nfzs, nfzss, List.contains_nil, List.contains_cons, Bool.or_false, or_true]
    | cons f post =>
      simp only [EV, Nat.reduceEqDiff, Nat.reduceBEq, Nat.reduceLT, Nat.reduceLeDiff, Nat.reduceAdd, Nat.reduceSub, reduceIte]
      refine cK_cut (fun h => ?_) (fun h => ?_)
      rotate_left
      · simp at h; omega
      simp only at p0 p1 p2 p3
      simp only [List.length_cons] at p1 p3
      have h3 : (pre.length : Int) < ((pre ++ f :: post).length : Int) := by simp; omega
      have h4 : pre.length < ((pre ++ f :: post).map Fd.o).length := by simp
      have e1 : nth ((pre ++ f :: post).map Fd.o) pre.length = f.o := nth_mid
      generalize hR : (pre ++ f :: post).map Fd.o = R at h4 e1 ⊢
      have hRl : R.length = l.length := by rw [← hR]; simp; omega
      have h5 : (pre.length : Int) < (R.length : Int) := by omega
      have w0 := w64 ((pre.length : Int) + 1) (by omega)
      have w1 := w64 (n + 1) (by omega)
      have w2 := w64 (n + 1 + 1) (by omega)
      have w3 := w64 (n + 1 + 1 + 1) (by omega)
      simp only [h4, h5, e1, nth_set h4, List.getElem?_set_self h4, modify_set, Fd.o, w1, w2, w3, w0, EV, Nat.reduceEqDiff, Nat.reduceBEq, Nat.reduceLT, Nat.reduceLeDiff, Nat.reduceAdd, Nat.reduceSub, reduceIte]
      refine callK_i (d42 (n) (by omega) (by omega)) ?_
      simp only [h4, h5, e1, nth_set h4, List.getElem?_set_self h4, modify_set, Fd.o, w1, w2, w3, w0, EV, Nat.reduceEqDiff, Nat.reduceBEq, Nat.reduceLT, Nat.reduceLeDiff, Nat.reduceAdd, Nat.reduceSub, reduceIte]
      refine ⟨(pre ++ [mkFd n], post, n + 3), ⟨?_, ?_, ?_, ?_⟩, ?_, ?_⟩
      · rw [← p0]; simp [mkFdS]
      · simp only; omega
      · simp only; omega
      · simp only [List.length_append, List.length_cons, List.length_nil]; omega
      · simp only; omega
      · have e2 := set_mid (g := Fd.o) (pre := pre) (post := post) (t := f) (mkFd n)
        rw [hR] at e2
        simp only [Fd.o, mkFd] at e2
        simp only [← e2, mkFd, List.length_append, List.length_cons, List.length_nil, Int.add_assoc]
        rfl

end Go.AM
namespace Go.AM
set_option linter.unusedVariables false
set_option linter.unusedSimpArgs false
def mkTy (t : Ty) (k : Int) : Ty := ⟨k, k + 1, k + 2, mkFdS t.fields (k + 3), mt (k + 3 + 3 * t.fields.length), mt (k + 3 + 3 * t.fields.length + 1)⟩

def cntTy (t : Ty) : Int := 5 + 3 * t.fields.length

def cntTys : List Ty → Int
  | [] => 0
  | t :: l => cntTy t + cntTys l

theorem cntTys_nn : ∀ l : List Ty, 0 ≤ cntTys l
  | [] => Int.le_refl _
  | t :: l => by have := cntTys_nn l; unfold cntTys cntTy; omega

def mkTyS : List Ty → Int → List Ty
  | [], _ => []
  | t :: l, k => mkTy t k :: mkTyS l (k + cntTy t)

theorem mkTyS_len : ∀ (l : List Ty) (k : Int), (mkTyS l k).length = l.length
  | [], _ => rfl
  | f :: fs, k => by simp [mkTyS, mkTyS_len fs]

theorem mkTy_o (f : Ty) (n : Int) : Ty.o (mkTy f n) = [.v (.int .i64 n), .v (.int .i64 (n + 1)), .v (.int .i64 (n + 2)), .usl 56 3 ((mkFdS f.fields (n + 3)).map Fd.o), .v (.string (mt (n + 3 + 3 * f.fields.length))), .v (.string (mt (n + 3 + 3 * f.fields.length + 1)))] := rfl

/-- loop.example/g00837/laws.markTypeS -/
def m19 : MC :=
  (.seq
   (.reg [⟨(some 4), none, .a (.asg (.c (.int .i64 0)))⟩])
   (.seq
    (.seq
     (.reg [⟨(some 5), none, .a (.asg (.c (.int .i64 0)))⟩])
     (.block 0
      (.loop [0, 1, 5]
       (.seq
        (.seq
         (.reg [⟨(some 6), none, .q (.mov (.t 5))⟩,
           ⟨(some 7), none, .q (.mov (.t 0))⟩,
           ⟨(some 8), none, .q (.len false (.t 7))⟩,
           ⟨(some 9), none, .q (.bin false .lss (.t 6) (.t 8))⟩])
         (.cond (.t 9)
          .skip
          (.exit 0)))
        (.seq
         (.block 1
          (.seq
           (.reg [⟨(some 12), none, .q (.mov (.t 0))⟩,
             ⟨(some 13), none, .q (.mov (.t 5))⟩,
             ⟨(some 14), none, .q (.mov (.t 1))⟩,
             ⟨(some 15), none, .q (.iad 6 (.t 12) (.t 13))⟩,
             ⟨(some 16), none, .q (.fad 0 (.t 15))⟩,
             ⟨none, none, .a (.store 1 (.t 16) (.t 14))⟩])
           (.seq
            (.reg [⟨(some 17), none, .q (.mov (.t 1))⟩,
              ⟨(some 18), none, .q (.bin false .add (.t 17) (.c (.int .i64 1)))⟩,
              ⟨(some 1), none, .a (.asg (.t 18))⟩])
            (.seq
             (.reg [⟨(some 19), none, .q (.mov (.t 0))⟩,
               ⟨(some 20), none, .q (.mov (.t 5))⟩,
               ⟨(some 21), none, .q (.mov (.t 1))⟩,
               ⟨(some 22), none, .q (.iad 6 (.t 19) (.t 20))⟩,
               ⟨(some 23), none, .q (.fad 1 (.t 22))⟩,
               ⟨none, none, .a (.store 1 (.t 23) (.t 21))⟩])
             (.seq
              (.reg [⟨(some 24), none, .q (.mov (.t 1))⟩,
                ⟨(some 25), none, .q (.bin false .add (.t 24) (.c (.int .i64 1)))⟩,
                ⟨(some 1), none, .a (.asg (.t 25))⟩])
              (.seq
               (.reg [⟨(some 26), none, .q (.mov (.t 0))⟩,
                 ⟨(some 27), none, .q (.mov (.t 5))⟩,
                 ⟨(some 28), none, .q (.mov (.t 1))⟩,
                 ⟨(some 29), none, .q (.iad 6 (.t 26) (.t 27))⟩,
                 ⟨(some 30), none, .q (.fad 2 (.t 29))⟩,
                 ⟨none, none, .a (.store 1 (.t 30) (.t 28))⟩])
               (.seq
                (.reg [⟨(some 31), none, .q (.mov (.t 1))⟩,
                  ⟨(some 32), none, .q (.bin false .add (.t 31) (.c (.int .i64 1)))⟩,
                  ⟨(some 1), none, .a (.asg (.t 32))⟩])
                (.seq
                 (.reg [⟨(some 33), none, .q (.mov (.t 0))⟩,
                   ⟨(some 34), none, .q (.mov (.t 5))⟩,
                   ⟨(some 35), none, .q (.iad 6 (.t 33) (.t 34))⟩,
                   ⟨(some 36), none, .q (.fad 3 (.t 35))⟩,
                   ⟨(some 37), none, .q (.load false 1 (.t 36))⟩,
                   ⟨(some 38), none, .q (.mov (.t 1))⟩,
                   ⟨(some 39), none, .a (.call (.fn 41) false [.io (.t 37), .lend (.t 38)])⟩,
                   ⟨(some 1), none, .a (.asg (.t 39))⟩])
                 (.seq
                  (.reg [⟨(some 40), none, .q (.mov (.t 0))⟩,
                    ⟨(some 41), none, .q (.mov (.t 5))⟩,
                    ⟨(some 42), none, .q (.mov (.t 1))⟩,
                    ⟨(some 43), none, .a (.call (.fn 42) false [.lend (.t 42)])⟩,
                    ⟨(some 44), none, .q (.iad 6 (.t 40) (.t 41))⟩,
                    ⟨(some 45), none, .q (.fad 4 (.t 44))⟩,
                    ⟨none, none, .a (.store 1 (.t 45) (.t 43))⟩])
                  (.seq
                   (.reg [⟨(some 46), none, .q (.mov (.t 1))⟩,
                     ⟨(some 47), none, .q (.bin false .add (.t 46) (.c (.int .i64 1)))⟩,
                     ⟨(some 1), none, .a (.asg (.t 47))⟩])
                   (.seq
                    (.reg [⟨(some 48), none, .q (.mov (.t 0))⟩,
                      ⟨(some 49), none, .q (.mov (.t 5))⟩,
                      ⟨(some 50), none, .q (.mov (.t 1))⟩,
                      ⟨(some 51), none, .a (.call (.fn 42) false [.lend (.t 50)])⟩,
                      ⟨(some 52), none, .q (.iad 6 (.t 48) (.t 49))⟩,
                      ⟨(some 53), none, .q (.fad 5 (.t 52))⟩,
                      ⟨none, none, .a (.store 1 (.t 53) (.t 51))⟩])
                    (.reg [⟨(some 54), none, .q (.mov (.t 1))⟩,
                      ⟨(some 55), none, .q (.bin false .add (.t 54) (.c (.int .i64 1)))⟩,
                      ⟨(some 1), none, .a (.asg (.t 55))⟩]))))))))))))
         (.reg [⟨(some 10), none, .q (.mov (.t 5))⟩,
           ⟨(some 11), none, .q (.bin false .add (.t 10) (.c (.int .i64 1)))⟩,
           ⟨(some 5), none, .a (.asg (.t 11))⟩]))))))
    (.seq
     (.reg [⟨(some 56), none, .q (.mov (.t 1))⟩,
       ⟨(some 4), none, .a (.asg (.t 56))⟩])
     .ret)))

set_option maxHeartbeats 1000000 in
set_option maxRecDepth 100000 in
theorem d19 (l : List Ty) (k : Int) (h0 : 0 ≤ k) (h1 : k + cntTys l ≤ 4611686018427387904) (hl : (l.length : Int) ≤ 1048576) (hs : ∀ s ∈ l, s.sm) :
    Does Go.Proofs.Tryz.prog 19 [.usl 34 6 (l.map Ty.o), .v (.int .i64 k)] false (.v (.int .i64 (k + cntTys l))) [.usl 34 6 ((mkTyS l k).map Ty.o), .dead] := by
  refine does_intro (mc := m19) (N := 57) (rs := [4]) (fx := [0]) 2 rfl (by decide +kernel) ?_
  simp only [m19, EV, Nat.reduceEqDiff, Nat.reduceBEq, Nat.reduceLT, Nat.reduceLeDiff, Nat.reduceAdd, Nat.reduceSub, reduceIte]
  refine awp_loop (fun p : List Ty × List Ty × Int => p.1 ++ mkTyS p.2.1 p.2.2 = mkTyS l k ∧ p.2.2 + cntTys p.2.1 = k + cntTys l ∧ 0 ≤ p.2.2 ∧ p.1.length + p.2.1.length = l.length ∧ ∀ s ∈ p.2.1, s.sm)
    (fun p => stl [(0, .usl 34 6 ((p.1 ++ p.2.1).map Ty.o)), (1, .v (.int .i64 p.2.2)), (5, .v (.int .i64 (p.1.length : Int)))]) (fun p => p.2.1.length) ([], l, k) ⟨rfl, rfl, h0, by simp, hs⟩ ?_ ?_
  · simp only [EV, Nat.reduceEqDiff, Nat.reduceBEq, Nat.reduceLT, Nat.reduceLeDiff, Nat.reduceAdd, Nat.reduceSub, reduceIte]
    rfl
  · rintro ⟨pre, post, n⟩ ⟨p0, p1, p2, p3, p4⟩
    cases post with
    | nil =>
      simp only [EV, Nat.reduceEqDiff, Nat.reduceBEq, Nat.reduceLT, Nat.reduceLeDiff, Nat.reduceAdd, Nat.reduceSub, reduceIte]
      refine cK_cut (fun h => ?_) (fun h => ?_)
      · simp at h
      · simp only [EV, Nat.reduceEqDiff, Nat.reduceBEq, Nat.reduceLT, Nat.reduceLeDiff, Nat.reduceAdd, Nat.reduceSub, reduceIte]
        simp only [List.append_nil, mkTyS] at p0
        have e : n = k + cntTys l := by simp [cntTys] at p1; omega
        simp only [p0, ← e, EV, Nat.reduceEqDiff, Nat.reduceBEq, Nat.reduceLT, Nat.reduceLeDiff, Nat.reduceAdd, Nat.reduceSub, reduceIte, evRE, retVC, cellV', evR, nfz, nfzs, nfzss, List.contains_nil, List.contains_cons, Bool.or_false, or_true]
    | cons f post =>
      simp only [EV, Nat.reduceEqDiff, Nat.reduceBEq, Nat.reduceLT, Nat.reduceLeDiff, Nat.reduceAdd, Nat.reduceSub, reduceIte]
      refine cK_cut (fun h => ?_) (fun h => ?_)
      rotate_left
      · simp at h; omega
      simp only at p0 p1 p2 p3
      have hsm := p4 f (by simp)
      unfold Ty.sm at hsm
      have hfl := hsm.2.2.2.1.1
      have hnn := cntTys_nn post
      simp only [List.length_cons] at p3
      simp only [cntTys, cntTy] at p1
      have h4 : pre.length < ((pre ++ f :: post).map Ty.o).length := by simp
      have e1 : nth ((pre ++ f :: post).map Ty.o) pre.length = f.o := nth_mid
      have e2 := set_mid (g := Ty.o) (pre := pre) (post := post) (t := f) (mkTy f n)
      generalize hR : (pre ++ f :: post).map Ty.o = R at h4 e1 e2 ⊢
      have hRl : R.length = l.length := by rw [← hR]; simp; omega
      have h5 : (pre.length : Int) < (R.length : Int) := by omega
      have w0 := w64 ((pre.length : Int) + 1) (by omega)
      have w1 := w64 (n + 1) (by omega)
      have w2 := w64 (n + 1 + 1) (by omega)
      have w3 := w64 (n + 1 + 1 + 1) (by omega)
      simp only [h4, h5, e1, nth_set h4, List.getElem?_set_self h4, modify_set, Ty.o, w0, w1, w2, w3, EV, Nat.reduceEqDiff, Nat.reduceBEq, Nat.reduceLT, Nat.reduceLeDiff, Nat.reduceAdd, Nat.reduceSub, reduceIte]
      refine callK2_i (d41 f.fields (n + 1 + 1 + 1) (by omega) (by omega)) rfl ?_ ?_
      · simp only [mkFdS_len, EV, Nat.reduceEqDiff, Nat.reduceBEq, Nat.reduceLT, Nat.reduceLeDiff, Nat.reduceAdd, Nat.reduceSub, reduceIte]
      have g1 : n + 1 + 1 = n + 2 := by omega
      have g2 : n + 2 + 1 = n + 3 := by omega
      have w4 := w64 (n + 3 + 3 * (f.fields.length : Int) + 1) (by omega)
      have w5 := w64 (n + 3 + 3 * (f.fields.length : Int) + 1 + 1) (by omega)
      simp only [g1, g2, h4, h5, e1, nth_set h4, List.getElem?_set_self h4, modify_set, w4, EV, Nat.reduceEqDiff, Nat.reduceBEq, Nat.reduceLT, Nat.reduceLeDiff, Nat.reduceAdd, Nat.reduceSub, reduceIte]
      refine callK_i (d42 (n + 3 + 3 * (f.fields.length : Int)) (by omega) (by omega)) ?_
      simp only [g1, g2, h4, h5, e1, nth_set h4, List.getElem?_set_self h4, modify_set, w4, EV, Nat.reduceEqDiff, Nat.reduceBEq, Nat.reduceLT, Nat.reduceLeDiff, Nat.reduceAdd, Nat.reduceSub, reduceIte]
      refine callK_i (d42 (n + 3 + 3 * (f.fields.length : Int) + 1) (by omega) (by omega)) ?_
      simp only [g1, g2, h4, h5, e1, nth_set h4, List.getElem?_set_self h4, modify_set, w4, w5, EV, Nat.reduceEqDiff, Nat.reduceBEq, Nat.reduceLT, Nat.reduceLeDiff, Nat.reduceAdd, Nat.reduceSub, reduceIte]
      refine ⟨(pre ++ [mkTy f n], post, n + cntTy f), ⟨?_, ?_, ?_, ?_, ?_⟩, ?_, ?_⟩
      · rw [← p0]; simp [mkTyS]
      · simp only [cntTy]; omega
      · simp only [cntTy]; omega
      · simp only [List.length_append, List.length_cons, List.length_nil]; omega
      · intro s hs'; exact p4 s (by simp; exact .inr hs')
      · simp only; omega
      · rw [mkTy_o] at e2
        have g3 : n + 3 + 3 * (f.fields.length : Int) + 1 + 1 = n + cntTy f := by unfold cntTy; omega
        have g4 : (((pre ++ [mkTy f n]).length : Nat) : Int) = (pre.length : Int) + 1 := by simp
        simp only [← e2, g3, g4, w0]

end Go.AM
namespace Go.AM
set_option linter.unusedVariables false
set_option linter.unusedSimpArgs false
theorem cnt_tot : ∀ l : List Ty, (∀ s ∈ l, s.sm) → cntTys l ≤ 5 * l.length + 3 * 1048576 * l.length
  | [], _ => by simp [cntTys]
  | t :: l, h => by
    have h1 := cnt_tot l fun s hs => h s (by simp [hs])
    have h2 := h t (by simp)
    unfold Ty.sm at h2
    have h3 := h2.2.2.2.1.1
    simp only [cntTys, cntTy, List.length_cons]
    omega

end Go.AM
namespace Go.AM
set_option linter.unusedVariables false
set_option linter.unusedSimpArgs false
theorem sumZ_app {g : Int → Int} : ∀ {a b : List Int}, sumZ g (a ++ b) = sumZ g a + sumZ g b
  | [], b => by simp [sumZ]
  | x :: a, b => by simp only [List.cons_append, sumZ, sumZ_app (a := a)]; omega

end Go.AM
namespace Go.Proofs.Backw
open Go Go.RowKit Go.Shelf Go.Proofs
attribute [local go_sem] Oper.semAt_some
set_option linter.unusedVariables false
set_option linter.unusedSimpArgs false

/-- What has come when k rounds are over. -/
def upto {α : Type} (f : Nat → α) (k : Nat) : List α := (List.range k).map f
theorem upto_succ {α : Type} (f : Nat → α) (k : Nat) : upto f (k + 1) = upto f k ++ [f k] := by simp [upto, List.range_succ]
theorem upto_length {α : Type} (f : Nat → α) (k : Nat) : (upto f k).length = k := by simp [upto]
/-- The slice of ints, and the box that holds it. -/
def Rd (Bs b off len cap : Nat) (zs : List Int) (W : World) : Prop := W.cell? ⟨Bs, 0, none⟩ = some (.slice (some ⟨b, off, none⟩) len cap) ∧ ∀ j, j < len → W.cell? ⟨b, off + j, none⟩ = some (.int .i64 (zs[j]?.getD 0))

set_option maxRecDepth 100000 in
set_option maxHeartbeats 2000000 in
theorem back1_in (F : Fence) (n : Nat) (h7 : F.fn 70) (hro : F.round = none) (hn : 1 ≤ n) (l Bs b off len cap : Nat) (zs : List Int) {α : Type} (encs : α → Array Value) (f : Nat → α)
    (hf : ∀ k j, j + k + 1 = len → encs (f k) = #[.int .i64 (j : Int), .int .i64 (zs[j]?.getD 0)]) (hreach : len * 8 ≤ 140737488351232) (J Jx : List α → World → Prop)
    (hY : ∀ pre x W, J pre W → pre.length < len → YieldAt F (n - 1) Tryz.prog l (encs x) W fun e W' =>
      (e = .returned (.bool true) ∧ J (pre ++ [x]) W' ∧ (Rd Bs b off len cap zs W → Rd Bs b off len cap zs W')) ∨ (e = .returned (.bool false) ∧ Jx (pre ++ [x]) W'))
    (W : World) (hR : Rd Bs b off len cap zs W) (h0 : J [] W) :
    CallsIn F n Tryz.prog 70 #[.func (.yield l) #[] #[], .pointer (some ⟨Bs, 0, none⟩)] W fun e W' => (∃ v, e = .returned v) ∧
      ((∃ ys, ys = upto f len ∧ J ys W') ∨ (∃ pre, (∃ k, k ≤ len ∧ pre = upto f k) ∧ Jx pre W')) := by
  refine callsIn_of_wp Tryz.func70 rfl h7 ?_ hro
  simp only [Tryz.ntmps70, List.size_toArray, List.length_cons, List.length_nil, Nat.reduceAdd, Nat.reduceSub, Array.replicate_succ, Array.replicate_zero, List.push_toArray, List.append_toArray, List.nil_append, List.cons_append]
  have hBs := hR.1
  gi_wp2
  gi_loopw [3] (fun i wr => ∃ k : Nat, k ≤ len ∧ i = .int .i64 ((len : Int) - 1 - (k : Int)) ∧ J (upto f k) wr ∧ Rd Bs b off len cap zs wr)
    (fun i _ => (intOf i + 1).toNat)
  case atStart => exact ⟨0, Nat.zero_le _, by simp, h0, hR⟩
  case round =>
    obtain ⟨k, hk, rfl, hJs, hR1, hR2⟩ := hrel
    by_cases hlt : k < len
    · obtain ⟨j, hj⟩ : ∃ j, j + k + 1 = len := ⟨len - k - 1, by omega⟩
      have hcx := hR2 j (by omega)
      obtain ⟨fn, tmps, assign, body, hy, hRR⟩ := hY _ (f k) wr hJs (by rw [upto_length]; exact hlt)
      rw [hf k j hj] at hy
      have hi : (len : Int) - 1 - (k : Int) = (j : Int) := by omega
      rw [hi]
      have hjl : j < len := by omega
      gi_wp2
      refine hRR.mono ?_
      rintro e W3 (⟨rfl, hJ3, hk3⟩ | ⟨rfl, hJx3⟩)
      · gi_wp2
        go_roundw
        case rel => exact ⟨k + 1, by omega, by simp; omega, by rw [upto_succ]; exact hJ3, hk3 ⟨hR1, hR2⟩⟩
        case measure => simp [intOf]
      · gi_wp2
        refine bodyPost_ret (results_none rfl _ _ _) rfl ?_
        exact ⟨⟨_, rfl⟩, .inr ⟨_, ⟨k + 1, by omega, (upto_succ _ _).symm⟩, hJx3⟩⟩
    · obtain rfl : k = len := by omega
      have hi : (k : Int) - 1 - (k : Int) = -1 := by omega
      rw [hi]
      gi_wp2
      go_end0
      exact ⟨⟨_, rfl⟩, .inl ⟨_, rfl, hJs⟩⟩

set_option maxHeartbeats 1000000 in
theorem back_in (F : Fence) (n : Nat) (h5 : F.fn 50) (hro : F.round = none) (a : Option Addr) (len cap : Nat) (w : World) :
    CallsIn F n Tryz.prog 50 #[.slice a len cap] w fun e w' => e = .returned (.func (.func 70) #[] #[.pointer (some ⟨w.heap.size, 0, none⟩)]) ∧ w' = w.alloc (.cells #[.slice a len cap] 52) := by
  refine callsIn_of_wp Tryz.func50 rfl h5 ?_ hro
  simp only [Tryz.ntmps50, List.size_toArray, List.length_cons, List.length_nil, Nat.reduceAdd, Nat.reduceSub, Array.replicate_succ, Array.replicate_zero, List.push_toArray, List.append_toArray, List.nil_append, List.cons_append]
  gi_wp2
  go_ret
  exact ⟨rfl, rfl⟩

/-- What it hands back: a function to range over. -/
theorem back_stops (F : Fence) (n : Nat) (h7 : F.fn 70) (hro : F.round = none) (hn : 1 ≤ n) (Bs b off len cap : Nat) (zs : List Int) {α : Type} (encs : α → Array Value) (f : Nat → α)
    (hf : ∀ k j, j + k + 1 = len → encs (f k) = #[.int .i64 (j : Int), .int .i64 (zs[j]?.getD 0)]) (hreach : len * 8 ≤ 140737488351232) (w : World) (hBs : Bs < w.heap.size) (hb : b < w.heap.size) (hR : Rd Bs b off len cap zs w) :
    SeqStopsK F n Tryz.prog 70 #[.pointer (some ⟨Bs, 0, none⟩)] encs (fun A B => Rd Bs b off len cap zs A → Rd Bs b off len cap zs B) (fun ys => ys = upto f len) (fun _ => True) len w := fun l J Jx W hW _ _ hY h0 => by
  have hR' : Rd Bs b off len cap zs W := ⟨(hW.cell (p := ⟨Bs, 0, none⟩) hBs).trans hR.1, fun j hj => (hW.cell (p := ⟨b, off + j, none⟩) hb).trans (hR.2 j hj)⟩
  refine (back1_in F n h7 hro hn l Bs b off len cap zs encs f hf hreach J Jx hY W hR' h0).mono ?_
  rintro e W' ⟨he, ⟨ys, rfl, hj⟩ | ⟨pre, _, hj⟩⟩
  · exact ⟨he, .inl ⟨_, rfl, hj⟩⟩
  · exact ⟨he, .inr ⟨_, trivial, hj⟩⟩
end Go.Proofs.Backw

namespace Go.Proofs.Sizes
open Go Go.AM Go.RowKit Go.Shelf Go.Proofs
set_option linter.unusedVariables false
set_option linter.unusedSimpArgs false

/-- The cells of a type. -/
theorem row_at {w : World} {Fz : Nat → Prop} {sz : Nat} : ∀ {rows : List (List AV)} {xs : List Value} {o : List Nat} {g h : Nat} {i : Nat} (hi : i < rows.length), RepRows w Fz sz rows xs o → At w g h xs → ∃ x1 o1, RepRow w Fz rows[i] x1 o1 ∧ rows[i].length = sz ∧ At w g (h + i * sz) x1
  | [], xs, o, g, h, i, hi, _, _ => absurd hi (by simp)
  | r :: rows, xs, o, g, h, i, hi, hr, ha => by
    simp only [RepRows] at hr
    obtain ⟨x1, x2, o1, o2, rfl, rfl, hl, h1, h2⟩ := hr
    have hx : x1.length = sz := by rw [← hl]; exact h1.length
    cases i with
    | zero => exact ⟨x1, o1, h1, hl, fun j u hj => by simpa using ha j u (by rw [List.getElem?_append_left (List.getElem?_eq_some_iff.1 hj).1]; exact hj)⟩
    | succ i =>
      have ha2 : At w g (h + sz) x2 := fun j u hj => by
        have := ha (sz + j) u (by rw [List.getElem?_append_right (by omega), hx, Nat.add_sub_cancel_left]; exact hj)
        rwa [← Nat.add_assoc] at this
      obtain ⟨y, oy, q1, q2, q3⟩ := row_at (rows := rows) (i := i) (by simpa using hi) h2 ha2
      refine ⟨y, oy, q1, q2, ?_⟩
      have e : h + (i + 1) * sz = h + sz + i * sz := by rw [Nat.succ_mul]; omega
      rw [e]
      exact q3

structure Mem (Bo Bl Bf g gl hl cap c : Nat) (Fz : Nat → Prop) (l : List Ty) (s : List Int) (W : World) : Prop where
  o : W.cell? ⟨Bo, 0, none⟩ = some (.slice (some ⟨g, 0, none⟩) l.length c)
  lb : W.cell? ⟨Bl, 0, none⟩ = some (.slice (some ⟨gl, hl, none⟩) l.length cap)
  f : W.cell? ⟨Bf, 0, none⟩ = some (.func (.func 48) #[] #[.pointer (some ⟨Bo, 0, none⟩), .pointer (some ⟨Bl, 0, none⟩), .pointer (some ⟨Bf, 0, none⟩)])
  vals : W.heap[g]? = some (.cells (s.map (Value.int .i64)).toArray 3 (0, 0))
  len : s.length = l.length
  rep : RepC W Fz (.fsl 6 (l.map Ty.z)) (.slice (some ⟨gl, hl, none⟩) l.length cap) []
  fz : ∀ b, Fz b → b < W.heap.size ∧ b ≠ g
  ne : Bo ≠ g ∧ Bl ≠ g ∧ Bf ≠ g
theorem Mem.at {Bo Bl Bf g gl hl cap c : Nat} {Fz : Nat → Prop} {l : List Ty} {s : List Int} {W : World} (M : Mem Bo Bl Bf g gl hl cap c Fz l s W) {j : Nat} (hj : j < l.length) : W.cell? ⟨g, j, none⟩ = some (.int .i64 (getS s j)) := by
  rw [cell_of_cells M.vals]
  have : j < s.length := by rw [M.len]; exact hj
  simp [getS_at this, this]
theorem Mem.row {Bo Bl Bf g gl hl cap c : Nat} {Fz : Nat → Prop} {l : List Ty} {s : List Int} {W : World} (M : Mem Bo Bl Bf g gl hl cap c Fz l s W) {n : Nat} (hn : n < l.length) :
    ∃ fv, RepC W Fz (.fsl 3 (l[n].fields.map Fd.z)) fv [] ∧ W.cell? ⟨gl, hl + n * 6, none⟩ = some (.int .i64 l[n].kind) ∧ W.cell? ⟨gl, hl + n * 6 + 1, none⟩ = some (.int .i64 l[n].long) ∧ W.cell? ⟨gl, hl + n * 6 + 2, none⟩ = some (.int .i64 l[n].base) ∧
      W.cell? ⟨gl, hl + n * 6 + 3, none⟩ = some fv ∧ W.cell? ⟨gl, hl + n * 6 + 4, none⟩ = some (.string l[n].owner) ∧ W.cell? ⟨gl, hl + n * 6 + 5, none⟩ = some (.string l[n].name) := by
  have hr := M.rep
  simp only [RepC] at hr
  obtain ⟨_, A, cc, he, _, hr⟩ := hr
  rcases hr with hr | ⟨g2, h2, xs, rfl, _, hrs, hat⟩
  · have : l = [] := List.map_eq_nil_iff.1 hr
    subst this
    simp at hn
  · simp only [Value.slice.injEq, Option.some.injEq, Addr.mk.injEq] at he
    obtain ⟨⟨rfl, rfl, _⟩, _, rfl⟩ := he
    obtain ⟨x1, o1, q1, _, q3⟩ := row_at (i := n) (by simpa using hn) hrs hat
    simp only [List.getElem_map, Ty.z, RepRow] at q1
    obtain ⟨_, _, _, _, rfl, rfl, ⟨rfl, _, rfl⟩, _, _, _, _, rfl, rfl, ⟨rfl, _, rfl⟩, _, _, _, _, rfl, rfl, ⟨rfl, _, rfl⟩, fv, _, _, _, rfl, rfl, hf, _, _, _, _, rfl, rfl, ⟨rfl, _, rfl⟩, _, _, _, _, rfl, rfl, ⟨rfl, _, rfl⟩, rfl, rfl⟩ := q1
    have hf0 : ∀ {o : List Nat}, RepC W Fz (.fsl 3 (l[n].fields.map Fd.z)) fv o → o = [] := fun h => by simp only [RepC] at h; exact h.1
    refine ⟨fv, ?_, q3 0 _ rfl, q3 1 _ rfl, q3 2 _ rfl, q3 3 _ rfl, q3 4 _ rfl, q3 5 _ rfl⟩
    have := hf0 hf
    subst this
    exact hf
end Go.Proofs.Sizes

namespace Go.AM
set_option linter.unusedVariables false
set_option linter.unusedSimpArgs false
def fdsAt (l : List Ty) (n : Int) : List Fd := match l[n.toNat]? with
  | some t => t.fields
  | none => []

theorem fdsAt_eq {l : List Ty} {n : Int} (h : n.toNat < l.length) : fdsAt l n = l[n.toNat].fields := by simp [fdsAt, h]

def allL (l : List Ty) : List Int → List Fd
  | [] => []
  | n :: ns => allL l ns ++ fdsAt l n

def allF (l : List Ty) (n : Int) : List Fd := allL l (lineL l n)

theorem fdsAt_len {l : List Ty} (ht : tysOk l = true) (n : Int) : (fdsAt l n).length ≤ 6 := by
  unfold fdsAt
  split
  · rename_i t h
    obtain ⟨hn, rfl⟩ := List.getElem?_eq_some_iff.1 h
    exact (tysOk_good ht hn).few
  · simp

theorem allL_len {l : List Ty} (ht : tysOk l = true) : ∀ ns : List Int, (allL l ns).length ≤ 6 * ns.length
  | [] => by simp [allL]
  | n :: ns => by
    have h1 := allL_len ht ns
    have h2 := fdsAt_len ht n
    simp only [allL, List.length_append, List.length_cons]
    omega

theorem allF_len {l : List Ty} (ht : tabOk l = true) (n : Int) : (allF l n).length ≤ 150 := by
  have h1 := allL_len (tabOk_tys ht) (lineL l n)
  have h2 := lineL_len l n
  have h3 := tabOk_len ht
  unfold allF
  omega

theorem allF_neg {l : List Ty} {n : Int} (h : n < 0) : allF l n = [] := by unfold allF; rw [lineL_neg h]; rfl

theorem allF_rec {l : List Ty} (ht : tabOk l = true) {n : Int} (h : isRec l n = true) : allF l n = allF l (baseAt l n) ++ fdsAt l n := by
  unfold allF; rw [lineL_rec ht h]; rfl

theorem fdsAt_sm {l : List Ty} (hs : ∀ s ∈ l, s.sm) (n : Int) : ∀ f ∈ fdsAt l n, f.sm := by
  intro f hf
  unfold fdsAt at hf
  split at hf
  · rename_i t h
    obtain ⟨hn, rfl⟩ := List.getElem?_eq_some_iff.1 h
    have := hs _ (List.getElem_mem hn)
    unfold Ty.sm at this
    exact this.2.2.2.1.2 f hf
  · simp at hf

theorem allL_sm {l : List Ty} (hs : ∀ s ∈ l, s.sm) : ∀ (ns : List Int), ∀ f ∈ allL l ns, f.sm
  | [], f, hf => by simp [allL] at hf
  | n :: ns, f, hf => by
    simp only [allL, List.mem_append] at hf
    rcases hf with hf | hf
    · exact allL_sm hs ns f hf
    · exact fdsAt_sm hs n f hf

/-- loop.example/g00837/spec.l10All -/
def m54 : MC :=
  (.seq
   (.reg [⟨(some 4), none, .a (.asg (.nils 56 3))⟩])
   (.seq
    (.seq
     (.reg [⟨(some 5), none, .q (.mov (.t 1))⟩,
       ⟨(some 6), none, .q (.bin false .lss (.t 5) (.c (.int .i64 0)))⟩])
     (.cond (.t 6)
      (.seq
       (.reg [⟨(some 4), none, .a (.asg (.nils 56 3))⟩])
       .ret)
      .skip))
    (.seq
     (.mix [0, 1] [0, 4, 19] [] [0] [1, 2, 3, 4, 5, 7, 8, 9, 10, 11] [0, 6, 12, 13]
       [⟨(some 8), none, .q (.mov (.t 0))⟩,
        ⟨(some 9), none, .q (.mov (.t 1))⟩,
        ⟨(some 10), none, .q (.iad 6 (.t 8) (.t 9))⟩,
        ⟨(some 11), none, .q (.fad 2 (.t 10))⟩,
        ⟨(some 12), none, .q (.load false 1 (.t 11))⟩,
        ⟨(some 14), none, .q (.mov (.t 0))⟩,
        ⟨(some 15), none, .q (.mov (.t 1))⟩,
        ⟨(some 16), none, .q (.iad 6 (.t 14) (.t 15))⟩,
        ⟨(some 17), none, .q (.fad 3 (.t 16))⟩,
        ⟨(some 18), none, .q (.load false 1 (.t 17))⟩]
       [⟨(some 7), none, .q (.mov (.t 0))⟩,
        ⟨(some 13), none, .a (.call (.fn 54) false [.lend (.t 7), .lend (.t 12)])⟩,
        ⟨(some 19), none, .a (.app false 56 3 32 (.t 13) (.t 18))⟩,
        ⟨(some 4), none, .a (.asg (.t 19))⟩])
     .ret)))

set_option maxRecDepth 100000 in
theorem d54 (l : List Ty) (hl : (l.length : Int) ≤ 1048576) (ht : tabOk l = true) : ∀ (k : Nat) (n : Int), (lineL l n).length < k → isL l n → Does Go.Proofs.Tryz.prog 54 [.fsl 6 (l.map Ty.z), .v (.int .i64 n)] false (.usl 56 3 ((allF l n).map Fd.o)) [.dead, .dead]
  | 0, n, h, _ => absurd h (by omega)
  | k + 1, n, h, hn => by
    have ih := d54 l hl ht k
    refine does_intro (mc := m54) (N := 20) (rs := [4]) (fx := []) 2 rfl (by decide +kernel) ?_
    simp only [m54, EV, Nat.reduceEqDiff, Nat.reduceBEq, Nat.reduceLT, Nat.reduceLeDiff, Nat.reduceAdd, Nat.reduceSub, reduceIte]
    refine cK_cut (fun h0 => ?_) (fun h0 => ?_)
    · have h1 : n < 0 := by simpa using h0
      simp only [EV, Nat.reduceEqDiff, Nat.reduceBEq, Nat.reduceLT, Nat.reduceLeDiff, Nat.reduceAdd, Nat.reduceSub, reduceIte]
      simp only [allF_neg h1, List.map_nil, EV, Nat.reduceEqDiff, Nat.reduceBEq, Nat.reduceLT, Nat.reduceLeDiff, Nat.reduceAdd, Nat.reduceSub, reduceIte, evRE, retVC, cellV', evR, nfz, nfzs, nfzss, List.contains_nil, List.contains_cons, Bool.or_false, or_true]
    · have h1 : isRec l n = true := hn.resolve_left (by simpa using h0)
      obtain ⟨g0, g1, gn, _⟩ := isRec_in h1
      have hb := (isRec_base (tabOk_tys ht) h1).1
      have hlr := lineL_rec ht h1
      rw [hlr, List.length_cons] at h
      have hc := ih (baseAt l n) (by omega) hb
      have hbe := baseAt_eq gn
      rw [hbe] at hc
      have hal := allF_len ht n
      have har := allF_rec ht h1
      rw [fdsAt_eq gn, hbe] at har
      rw [har] at hal
      clear h0
      simp only [g0, g1, nth_map gn, Ty.z, EV, Nat.reduceEqDiff, Nat.reduceBEq, Nat.reduceLT, Nat.reduceLeDiff, Nat.reduceAdd, Nat.reduceSub, reduceIte]
      refine callK_i hc ?_
      simp only [List.length_append] at hal
      have he : List.map Fd.o (allF l n) = List.map Fd.o (allF l l[n.toNat].base) ++ List.map Fd.z l[n.toNat].fields := by rw [har, List.map_append]; rfl
      simp only [g0, g1, nth_map gn, Ty.z, EV, Nat.reduceEqDiff, Nat.reduceBEq, Nat.reduceLT, Nat.reduceLeDiff, Nat.reduceAdd, Nat.reduceSub, reduceIte]
      refine ⟨.inl trivial, by omega, by omega, ?_⟩
      rw [← he]
      simp only [Fd.nfz, Fd.frz, EV, Nat.reduceEqDiff, Nat.reduceBEq, Nat.reduceLT, Nat.reduceLeDiff, Nat.reduceAdd, Nat.reduceSub, reduceIte, evRE, retVC, cellV', evR, nfz, nfzs, nfzss, List.contains_nil, List.contains_cons, Bool.or_false, or_true]

end Go.AM
namespace Go.AM
open Go.RowKit
set_option linter.unusedVariables false
set_option linter.unusedSimpArgs false
theorem rows_in {P : Program} {row : String} {args : Array Value} {w : World} {R : Value → World → Prop} {l n : Nat} (h : Rows P row args w R) : RowsIn (Fence.wide.inRound l) n P row args w R :=
  fun c cs _ => let ⟨v, w', r, s⟩ := h c cs; ⟨v, w', r, stepsIn_wide.2 s⟩

theorem op_in {P : Program} {o : Oper} {a : Act} {w : World} {K : Act → World → Prop} {Q : Exit → Act → World → Prop} {l n : Nat} (hd : ∀ c, o.op ≠ .defer c) (hL : ¬ LetsOut Q) (h : o.wp P a w K Q) : o.wpIn (Fence.wide.inRound l) n P a w K Q := by
  refine ⟨fun _ _ => trivial, ?_⟩
  rw [Oper.semAt_eq _ _ _ hd]
  unfold Oper.wp at h
  generalize (execOp a.eval o).run P w = r at h
  cases r with
  | ok x w' =>
    cases x with
    | value v => exact h
    | skip => exact h
    | defer d => exact h
    | enter f args =>
      refine ⟨fun hh => by simp [Fence.wide] at hh, CallsIn.inRound l (callsIn_wide.2 ?_)⟩
      exact h
    | row r args => exact ⟨fun hh => by simp [Fence.wide] at hh, rows_in h⟩
    | _ => exact h.elim
  | halt x w' =>
    cases x with
    | panic v => exact h
    | _ => exact h.elim

theorem any_in {P : Program} {md : Region.Mode} {ops : Array Oper} {Q : Exit → Act → World → Prop} {l n : Nat} (hd : ∀ (i : Nat) (o : Oper) c, ops[i]? = some o → o.op ≠ .defer c) (hL : ¬ LetsOut Q) :
    ∀ (fuel : Nat) (listed : Array Bool) (a : Act) (w : World), wpAny P md ops Q fuel listed a w → wpAnyIn (Fence.wide.inRound l) n P md ops Q fuel listed a w
  | 0, _, _, _, h => h
  | fuel + 1, listed, a, w, h => by
    refine ⟨h.1, fun i hi => ?_⟩
    have := h.2 i hi
    unfold wpOp at this
    unfold wpOpIn
    cases ho : ops[i]? with
    | none => rw [ho] at this; exact any_in hd hL fuel _ _ _ this
    | some o =>
      rw [ho] at this
      simp only at this ⊢
      split
      · rename_i hw
        rw [if_pos hw] at this
        rcases this with this | this
        · exact Oper.wpIn_mono (fun a' w' h' => any_in hd hL fuel _ _ _ h') (op_in (fun c => hd i o c ho) hL this)
        · exact absurd this.2 hL
      · rename_i hw
        rw [if_neg hw] at this
        exact ⟨fun _ _ => trivial, any_in hd hL fuel _ _ _ this⟩

theorem mixt_any {P : Program} {N : Nat} {fx : List Nat} {ops : Array Oper} {Q : Exit → Act → World → Prop} {c : Ctx} {st : St} {a : Act} {w : World} (hfx : ∀ e, c.fx e ≠ none → e ∈ fx) {FL WL RL B fi : List Nat} {fs : List MO} {t : TT} (hm : mixtOk P N fx ops FL WL RL B fi fs t = true) (S : Sim c N st a w) {k : K} (h : mixtV P FL WL RL B fs t k st)
    (hQ : ∀ st a w, Sim c N st a w → k st → Q .normal a w) : P.follows .mixedOrders = true ∧ wpAny P .any ops (fun e a w => e = .normal ∧ Q .normal a w) ops.size (Array.replicate ops.size false) a w.drew := by
  simp only [mixtOk, Bool.and_eq_true] at hm
  obtain ⟨⟨⟨⟨⟨hsel, hfol⟩, hlen⟩, hFW⟩, hRW⟩, hm⟩ := hm
  have S1 : Sim c N st a w.drew := S.world (Ext.drew w [])
  obtain ⟨hB, h⟩ := h
  obtain ⟨hd, hs, own, C⟩ := S1
  have hbare : ∀ k ∈ B, own k = [] := fun k hk => bare_own (st k) (C.rep k) (by simpa using List.all_eq_true.1 hB k hk)
  have hno : ∀ (l : List Nat), notFl B l WL = true → ∀ k ∈ l, ∀ b ∈ own k, b ∉ WL.flatMap own := by
    intro l hl k hk b hb hb2
    obtain ⟨j, hj, hbj⟩ := List.mem_flatMap.1 hb2
    by_cases e : k = j
    · subst e
      have h1 := List.all_eq_true.1 hl k hk
      simp only [Bool.or_eq_true, Bool.not_eq_true', List.contains_eq_mem, decide_eq_true_eq, decide_eq_false_iff_not] at h1
      rcases h1 with h1 | h1
      · exact h1 hj
      · rw [hbare k h1] at hb; simp at hb
    · exact C.dj k j e b hb hbj
  have hdj : ∀ b ∈ FL.flatMap own, b ∉ WL.flatMap own := by
    intro b hb
    obtain ⟨k, hk, hbk⟩ := List.mem_flatMap.1 hb
    exact hno FL hFW k hk b hbk
  have hfx' : ∀ (l : List Nat) e, (ctxL c w.drew own l RL a).fx e ≠ none → e ∈ RL ++ fx := by
    intro l e he
    simp only [ctxL] at he
    split at he
    · rename_i h'; simp [h']
    · have := hfx e he; simp [this]
  have hslots : ∀ l, Slots (ctxL c w.drew own l RL a) N a := by
    intro l
    refine ⟨hs.1, ?_⟩
    intro k v hk
    simp only [ctxL] at hk
    split at hk
    · simpa using hk
    · exact hs.2 k v hk
  have SW : Sim (ctxL c w.drew own WL RL a) N (keepL WL st) a w.drew := ⟨hd, hslots WL, _, core_part C WL RL⟩
  refine ⟨hfol, wpAny_of_held (S := held w.drew (WL.flatMap own)) _ _ _ _ ?_⟩
  · have hsz : ops.size = fi.length + t.sz := by simp only [beq_iff_eq] at hlen; exact hlen.symm
    show wpAnyH P .any ops _ _ ops.size (Array.replicate ops.size false) a w.drew
    have key := f_sound (Q := fun e a w => e = .normal ∧ Q .normal a w) (n := t.sz) C (hfx' FL) hsel (by rintro _ _ _ ⟨h, _⟩; cases h) hdj
      (kk := fun _ sW => ttV P (fun s3 => k (backS RL st s3)) t sW) (F := fun listed => (headsOk ops listed t && ttOk P N (RL ++ fx) ops t listed))
      (fun listed a' sF sW hF SW' h' => tt_sound (cW := ctxL c w.drew own WL RL a) rfl rfl (hfx' WL) hsel (k := fun s3 => k (backS RL st s3))
        (fun s3 a3 w3 S3 h3 => ⟨rfl, hQ _ _ _ (back_sound C hs (hno RL hRW) S3) h3⟩) (by rintro _ _ _ ⟨h, _⟩; cases h) t.sz t listed sW a' _ rfl (by simp only [Bool.and_eq_true] at hF; exact hF.1) (by simp only [Bool.and_eq_true] at hF; exact hF.2) SW' h')
      fi fs (Array.replicate ops.size false) (keepL FL st) (keepL WL st) a (ownL FL own) hm (core_part C FL RL) (fun b hb => ownL_mem.2 hb) SW h
    rw [← hsz] at key
    exact key

theorem mixt_round {P : Program} {N : Nat} {fx : List Nat} {ops : Array Oper} {Q : Exit → Act → World → Prop} {c : Ctx} {l n id : Nat} {st : St} {a : Act} {w : World} (hd : ∀ (i : Nat) (o : Oper) c, ops[i]? = some o → o.op ≠ .defer c) (hfx : ∀ e, c.fx e ≠ none → e ∈ fx) {FL WL RL B fi : List Nat} {fs : List MO} {t : TT} (hm : mixtOk P N fx ops FL WL RL B fi fs t = true) (S : Sim c N st a w) {k : K} (h : mixtV P FL WL RL B fs t k st)
    (hQ : ∀ st a w, Sim c N st a w → k st → Q .normal a w) : (Code.region id ops true).wpIn (Fence.wide.inRound l) n P Q a w := by
  obtain ⟨hf, h⟩ := mixt_any hfx hm S h hQ
  refine wpIn_mono (Q := fun e a w => e = .normal ∧ Q .normal a w) ?_ ?_
  · exact wpIn_region_any hf (any_in hd (by rintro ⟨_, _, h, _⟩; cases h) _ _ _ _ h)
  · rintro e a w ⟨rfl, h⟩; exact h

end Go.AM
namespace Go.Proofs.AllF
open Go Go.AM Go.RowKit Go.Shelf Go.Proofs Go.Proofs.Backw
attribute [local go_sem] Oper.semAt_some
set_option linter.unusedVariables false
set_option linter.unusedSimpArgs false

theorem rows_iv {w : World} {Fz : Nat → Prop} : ∀ {zs : List Int} {xs : List Value} {o : List Nat}, RepRows w Fz 1 (zs.map iv) xs o → xs = zs.map (fun k => Value.int .i64 k) ∧ o = []
  | [], xs, o, h => by simpa [RepRows] using h
  | z :: zs, xs, o, h => by
    simp only [List.map_cons, RepRows] at h
    obtain ⟨x1, x2, o1, o2, rfl, rfl, _, hr, hrs⟩ := h
    obtain ⟨rfl, rfl⟩ := rows_iv hrs
    simp only [iv, RepRow, RepC] at hr
    obtain ⟨x, xs', o3, o4, rfl, rfl, ⟨rfl, _, rfl⟩, rfl, rfl⟩ := hr
    exact ⟨rfl, rfl⟩
theorem keepW {w w' : World} {Fz : Nat → Prop} {av : AV} {x : Value} (hlt : ∀ b, Fz b → b < w.heap.size) (hE : Ext w w' []) (h : RepC w Fz av x []) : RepC w' Fz av x [] :=
  h.keep _ _ _ ⟨fun b hb => ⟨hb, hE.blk b (hlt b hb) (by simp)⟩, fun b hb => by simp at hb⟩

/-- What a round is handed: the index, and the number of a type. -/
def InT (l : List Ty) : Type := { x : Int × Int // 0 ≤ x.2 ∧ x.2.toNat < l.length }
def flds (l : List Ty) (pre : List (InT l)) : List Go.AM.Fd := pre.flatMap fun x => fdsAt l x.1.2
theorem flds_snoc (l : List Ty) (pre : List (InT l)) (x : InT l) : flds l (pre ++ [x]) = flds l pre ++ fdsAt l x.1.2 := by simp [flds]
theorem flds_len {l : List Ty} (ht : tysOk l = true) : ∀ pre : List (InT l), (flds l pre).length ≤ 6 * pre.length
  | [] => by simp [flds]
  | x :: pre => by
    have h1 := flds_len ht pre
    have h2 := fdsAt_len ht x.1.2
    simp only [flds, List.flatMap_cons, List.length_append, List.length_cons] at h1 ⊢
    omega
theorem rows_fd {w : World} {Fz : Nat → Prop} : ∀ {fs : List Go.AM.Fd} {xs : List Value} {o : List Nat}, RepRows w Fz 3 (fs.map Go.AM.Fd.o) xs o → o = []
  | [], xs, o, h => by simp only [List.map_nil, RepRows] at h; exact h.2
  | f :: fs, xs, o, h => by
    simp only [List.map_cons, RepRows] at h
    obtain ⟨x1, x2, o1, o2, rfl, rfl, _, hr, hrs⟩ := h
    rw [rows_fd hrs, List.append_nil]
    simp only [Go.AM.Fd.o, RepRow, RepC] at hr
    obtain ⟨_, _, _, _, rfl, rfl, ⟨_, _, rfl⟩, _, _, _, _, rfl, rfl, ⟨_, _, rfl⟩, _, _, _, _, rfl, rfl, ⟨_, _, rfl⟩, _, rfl⟩ := hr
    rfl
/-- Whatever is owned here is cells. -/
theorem own_cells {w : World} {Fz : Nat → Prop} {fs : List Go.AM.Fd} {x : Value} {o : List Nat} (h : RepC w Fz (.box 32 [.usl 56 3 (fs.map Go.AM.Fd.o)]) x o) : ∀ b ∈ o, ∃ cur e p, w.heap[b]? = some (.cells cur e p) := by
  simp only [RepC, RepRow] at h
  obtain ⟨g, xs, o', rfl, rfl, hg, y, ys, o1, o2, rfl, rfl, hu, rfl, rfl⟩ := h
  intro b hb
  rcases List.mem_cons.1 hb with rfl | hb
  · exact ⟨_, _, _, hg⟩
  · simp only [List.append_nil] at hb
    rcases hu with ⟨_, _, rfl⟩ | ⟨g2, h2, c, cur, vs, o3, _, rfl, hg2, _, _, hr, _⟩
    · simp at hb
    · rw [rows_fd hr] at hb
      simp only [List.mem_singleton] at hb
      subst hb
      exact ⟨_, _, _, hg2⟩

def noF : Nat → Prop := fun _ => False
/-- Between two rounds. -/
def LI (B : Nat) (w6 : World) (l : List Ty) (pre : List (InT l)) (W : World) : Prop := ∃ o5, RepC W noF (.box 32 [.usl 56 3 ((flds l pre).map Go.AM.Fd.o)]) (.pointer (some ⟨B + 1 + 1, 0, none⟩)) o5 ∧ o5.Nodup ∧
  (∀ b ∈ o5, (b = B + 1 + 1 ∨ b = B + 1 ∨ w6.heap.size ≤ b) ∧ b < W.heap.size) ∧ Ext w6 W [B + 1 + 1, B + 1]
theorem LI_own (B : Nat) (w6 : World) (l : List Ty) : OwnFrom w6.heap.size (LI B w6 l) := by
  rintro s W W' row ⟨o5, h1, h2, h3, h4⟩ hg hr
  have hsame : ∀ b, b < W.heap.size → (∀ r, row = some r → b ≠ r) → W'.heap[b]? = W.heap[b]? := fun b hb hn => hg.block b hb (by intro e; exact hn b e.symm rfl)
  refine ⟨o5, h1.keep _ _ _ ⟨fun b hb => hb.elim, fun b hb => hsame b (h3 b hb).2 ?_⟩, h2, fun b hb => ⟨(h3 b hb).1, Nat.lt_of_lt_of_le (h3 b hb).2 hg.size⟩, ⟨hg.os.trans h4.os, hg.tape.trans h4.tape, hg.output.trans h4.output, Nat.le_trans h4.size hg.size, fun b hb hn => (hsame b (Nat.lt_of_lt_of_le hb h4.size) ?_).trans (h4.blk b hb hn)⟩⟩
  · rintro r e rfl
    obtain ⟨_, o, ho, hc⟩ := hr b e
    obtain ⟨cur, e', p, hcur⟩ := own_cells h1 b hb
    rw [hcur] at ho
    cases ho
    simp [Obj.isCells] at hc
  · rintro r e rfl
    have := (hr b e).1
    omega
theorem Rd_of {Bs b off len cap : Nat} {zs : List Int} {W W' : World} (h1 : W'.heap[Bs]? = W.heap[Bs]?) (h2 : W'.heap[b]? = W.heap[b]?) (h : Rd Bs b off len cap zs W) : Rd Bs b off len cap zs W' := by
  refine ⟨?_, fun j hj => ?_⟩
  · rw [World.cell?_of_block (w := W) h1]; exact h.1
  · rw [World.cell?_of_block (w := W) h2]; exact h.2 j hj
/-- How the body of a round is read. -/
def bCtx (W : World) (F0 : Nat → Prop) (o5 : List Nat) (v5 : Value) : Ctx := { w0 := W, Fz := F0, own0 := o5, fx := fun e => if e = 5 then some v5 else none }
def bSt (l : List Ty) (fs : List Go.AM.Fd) (k : Int) : St := stl [(2, .fptr [.fsl 6 (l.map Ty.z)]), (5, .box 32 [.usl 56 3 (fs.map Go.AM.Fd.o)]), (7, .v (.int .i64 k))]
theorem bSim' {l : List Ty} {fs : List Go.AM.Fd} {k : Int} {W : World} {F0 : Nat → Prop} {o5 : List Nat} {a : Act} (hd : a.defers = []) (hn : a.tmps.size = 23) (h2 : RepC W F0 (.fptr [.fsl 6 (l.map Ty.z)]) (tmOf a 2) []) (h5 : RepC W noF (.box 32 [.usl 56 3 (fs.map Go.AM.Fd.o)]) (tmOf a 5) o5)
    (h7 : tmOf a 7 = .int .i64 k) (hnd : o5.Nodup) (hlt : ∀ b ∈ o5, b < W.heap.size ∧ ¬ F0 b) (hF : ∀ b, F0 b → b < W.heap.size) : Sim (bCtx W F0 o5 (tmOf a 5)) 23 (bSt l fs k) a W := by
  refine ⟨hd, ⟨hn, fun k v h => ?_⟩, fun k => if k = 5 then o5 else [], Ext.refl _ _, fun k' => ?_, fun k => ?_, fun j k hjk b hb => ?_, by simp, by simp, ?_⟩
  · simp only [bCtx] at h
    split at h
    · rename_i e; subst e; exact Option.some.inj h
    · cases h
  · have hfz : ∀ b, F0 b → frz (bCtx W F0 o5 (tmOf a 5)) W (owned (fun k => if k = 5 then o5 else []) []) b := by
      intro b hb
      refine ⟨hF b hb, .inr (.inl hb), ?_⟩
      rintro (⟨k, hk⟩ | hk)
      · simp only at hk
        split at hk
        · exact (hlt b hk).2 hb
        · simp at hk
      · simp at hk
    by_cases e2 : k' = 2
    · subst e2
      exact (h2.keep (w' := W) (Fz' := frz (bCtx W F0 o5 (tmOf a 5)) W (owned (fun k => if k = 5 then o5 else []) [])) _ _ _ ⟨fun b hb => ⟨hfz b hb, rfl⟩, fun _ _ => rfl⟩).toV
    by_cases e5 : k' = 5
    · subst e5
      exact (h5.keep (w' := W) (Fz' := frz (bCtx W F0 o5 (tmOf a 5)) W (owned (fun k => if k = 5 then o5 else []) [])) _ _ _ ⟨fun b hb => hb.elim, fun _ _ => rfl⟩).toV
    by_cases e7 : k' = 7
    · subst e7
      rw [h7]
      simp [bSt, stl, RepV, RepC, Value.oneCell']
    · simp [bSt, stl, e2, e5, e7, RepV]
  · by_cases e : k = 5
    · simp [e, hnd]
    · simp [e]
  · by_cases e : j = 5
    · have hk : k ≠ 5 := fun h => hjk (e.trans h.symm)
      simp [hk]
    · simp [e] at hb
  · rintro b (⟨k, hk⟩ | hk)
    · simp only at hk
      split at hk
      · exact ⟨.inl hk, (hlt b hk).1⟩
      · simp at hk
    · simp at hk
theorem bSim {l : List Ty} {fs : List Go.AM.Fd} {k : Int} {W : World} {F0 : Nat → Prop} {o5 : List Nat} {a : Act} {v2 v5 : Value} (hd : a.defers = []) (hn : a.tmps.size = 23) (e2 : tmOf a 2 = v2) (e5 : tmOf a 5 = v5) (h7 : tmOf a 7 = .int .i64 k) (h2 : RepC W F0 (.fptr [.fsl 6 (l.map Ty.z)]) v2 []) (h5 : RepC W noF (.box 32 [.usl 56 3 (fs.map Go.AM.Fd.o)]) v5 o5)
    (hnd : o5.Nodup) (hlt : ∀ b ∈ o5, b < W.heap.size ∧ ¬ F0 b) (hF : ∀ b, F0 b → b < W.heap.size) : Sim (bCtx W F0 o5 v5) 23 (bSt l fs k) a W := by
  subst e2 e5
  exact bSim' hd hn h2 h5 h7 hnd hlt hF
end Go.Proofs.AllF

namespace Go.Proofs.Sizes
open Go Go.AM Go.RowKit Go.Shelf Go.Proofs
attribute [local go_sem] Oper.semAt_some
set_option linter.unusedVariables false
set_option linter.unusedSimpArgs false

/-- Each size is right, or not known yet. -/
def Som (l : List Ty) (s : List Int) : Prop := ∀ j : Nat, j < l.length → getS s (j : Int) = sz l (j : Int) ∨ getS s (j : Int) = -1
def Mor (l : List Ty) (s s' : List Int) : Prop := ∀ j : Nat, j < l.length → getS s (j : Int) = sz l (j : Int) → getS s' (j : Int) = sz l (j : Int)

theorem Mem.ext {Bo Bl Bf g gl hl cap c : Nat} {Fz : Nat → Prop} {l : List Ty} {s : List Int} {W W' : World} (M : Mem Bo Bl Bf g gl hl cap c Fz l s W) (hE : Ext W W' []) : Mem Bo Bl Bf g gl hl cap c Fz l s W' := by
  have hb : ∀ {p : Addr} {v : Value}, W.cell? p = some v → W'.cell? p = some v := fun {p v} h => (World.cell?_of_block (hE.blk _ (World.block_lt_of_cell? W _ h) (by simp))).trans h
  exact ⟨hb M.o, hb M.lb, hb M.f, (hE.blk _ (Array.getElem?_eq_some_iff.1 M.vals).1 (by simp)).trans M.vals, M.len, M.rep.keep _ _ _ ⟨fun b h => ⟨h, hE.blk b (M.fz b h).1 (by simp)⟩, fun b h => by simp at h⟩,
    fun b h => ⟨Nat.lt_of_lt_of_le (M.fz b h).1 hE.size, (M.fz b h).2⟩, M.ne⟩
theorem Mem.put {Bo Bl Bf g gl hl cap c : Nat} {Fz : Nat → Prop} {l : List Ty} {s : List Int} {W : World} (M : Mem Bo Bl Bf g gl hl cap c Fz l s W) {n : Nat} (hn : n < l.length) (v : Int) : Mem Bo Bl Bf g gl hl cap c Fz l (s.set n v) (W.setCell ⟨g, n, none⟩ (.int .i64 v)) ∧ Ext W (W.setCell ⟨g, n, none⟩ (.int .i64 v)) [g] := by
  have hg := (Array.getElem?_eq_some_iff.1 M.vals).1
  have hh : (W.setCell ⟨g, n, none⟩ (.int .i64 v)).heap[g]? = some (.cells ((s.set n v).map (Value.int .i64)).toArray 3 (0, 0)) := by
    simp [World.setCell, Array.getElem?_modify, M.vals, List.map_set]
  have hE : Ext W (W.setCell ⟨g, n, none⟩ (.int .i64 v)) [g] :=
    ⟨rfl, rfl, rfl, by simp [World.setCell], fun b hb hn => Below.heap_setCell _ _ _ b (by simpa using hn)⟩
  have hb : ∀ {p : Addr} {u : Value}, p.block ≠ g → W.cell? p = some u → (W.setCell ⟨g, n, none⟩ (.int .i64 v)).cell? p = some u := fun {p u} hne h => (World.cell?_of_block (hE.blk _ (World.block_lt_of_cell? W _ h) (by simpa using hne))).trans h
  exact ⟨⟨hb M.ne.1 M.o, hb M.ne.2.1 M.lb, hb M.ne.2.2 M.f, hh, by rw [List.length_set]; exact M.len, M.rep.keep _ _ _ ⟨fun b h => ⟨h, hE.blk b (M.fz b h).1 (by simpa using (M.fz b h).2)⟩, fun b h => by simp at h⟩,
    fun b h => ⟨Nat.lt_of_lt_of_le (M.fz b h).1 hE.size, (M.fz b h).2⟩, M.ne⟩, hE⟩

set_option maxRecDepth 100000 in
set_option maxHeartbeats 4000000 in
theorem c48 {Bo Bl Bf g gl hl cap c : Nat} {Fz : Nat → Prop} {l : List Ty} (ht : tabOk l = true) (hsm0 : ∀ t ∈ l, t.sm) (hll : l.length ≤ 24) (hcc : l.length ≤ cap) (hc : l.length ≤ c) : ∀ (k n : Nat), n < l.length → rk l (n : Int) < k → ∀ (W : World) (s : List Int), Mem Bo Bl Bf g gl hl cap c Fz l s W → Som l s →
    Calls Tryz.prog 48 #[.int .i64 (n : Int), .pointer (some ⟨Bo, 0, none⟩), .pointer (some ⟨Bl, 0, none⟩), .pointer (some ⟨Bf, 0, none⟩)] W fun e W' => e = .returned (.int .i64 (sz l (n : Int))) ∧ ∃ s', Mem Bo Bl Bf g gl hl cap c Fz l s' W' ∧ Som l s' ∧ getS s' (n : Int) = sz l (n : Int) ∧ Mor l s s' ∧ Ext W W' [g]
  | 0, n, _, h, _, _, _, _ => absurd h (by omega)
  | k + 1, n, hn, hk, W, s, M, hS => by
    have ih := c48 (cap := cap) (c := c) (Bo := Bo) (Bl := Bl) (Bf := Bf) (g := g) (gl := gl) (hl := hl) (Fz := Fz) ht hsm0 hll hcc hc k
    refine callsIn_wide (n := 9).1 (callsIn_of_wp Tryz.func48 rfl trivial ?_ rfl)
    simp only [Tryz.ntmps48, List.size_toArray, List.length_cons, List.length_nil, Nat.reduceAdd, Nat.reduceSub, Array.replicate_succ, Array.replicate_zero, List.push_toArray, List.append_toArray, List.nil_append, List.cons_append]
    have m1 := M.o
    have m2 := M.at hn
    rcases hS n hn with h0 | h0
    · have hnn := (sz_nn (tabOk_tys ht) (n : Int)).1
      rw [h0] at m2
      gi_wp2
      refine bodyPost_ret (results_tmp rfl _ _ _) rfl ?_
      exact ⟨rfl, s, M, hS, h0, fun j _ h => h, Ext.refl _ _⟩
    · rw [h0] at m2
      have m3 := M.lb
      obtain ⟨fv, f0, r0, r1, r2, r3, r4, r5⟩ := M.row hn
      have f0' := f0
      simp only [RepC] at f0'
      obtain ⟨_, Af, cf, rfl, hcf, hAf⟩ := f0'
      have G := tysOk_good (tabOk_tys ht) hn
      have hse : sz l (n : Int) = oneT l[n] (sz l) := by
        have := sz_eq (l := l) ht (n := (n : Int)) (Int.natCast_nonneg n) (by omega) (hn := by simpa using hn)
        simpa using this
      obtain ⟨W1, hW1⟩ : ∃ W1, W.alloc (Obj.cells #[Value.int .i64 l[n].kind, Value.int .i64 l[n].long, Value.int .i64 l[n].base, Value.slice Af (List.map Fd.z l[n].fields).length cf, Value.string l[n].owner, Value.string l[n].name] 34) = W1 := ⟨_, rfl⟩
      have hE1 : Ext W W1 [] := by rw [← hW1]; exact Ext.alloc _ _ _
      have M1 := M.ext hE1
      have hb1 : W1.heap[W.heap.size]? = some (Obj.cells #[Value.int .i64 l[n].kind, Value.int .i64 l[n].long, Value.int .i64 l[n].base, Value.slice Af (List.map Fd.z l[n].fields).length cf, Value.string l[n].owner, Value.string l[n].name] 34) := by rw [← hW1]; exact World.alloc_heap_new _ _
      have k0 : W1.cell? ⟨W.heap.size, 0, none⟩ = some (.int .i64 l[n].kind) := by rw [cell_of_cells hb1]; rfl
      have k1 : W1.cell? ⟨W.heap.size, 1, none⟩ = some (.int .i64 l[n].long) := by rw [cell_of_cells hb1]; rfl
      have k2 : W1.cell? ⟨W.heap.size, 2, none⟩ = some (.int .i64 l[n].base) := by rw [cell_of_cells hb1]; rfl
      have k3 : W1.cell? ⟨W.heap.size, 3, none⟩ = some (.slice Af l[n].fields.length cf) := by rw [cell_of_cells hb1]; simp
      have k4 : W1.cell? ⟨W.heap.size, 4, none⟩ = some (.string l[n].owner) := by rw [cell_of_cells hb1]; rfl
      have k5 : W1.cell? ⟨W.heap.size, 5, none⟩ = some (.string l[n].name) := by rw [cell_of_cells hb1]; rfl
      have n1 := M1.o
      have n2 := M1.at hn
      rw [h0] at n2
      have n3 := M1.f
      have n4 : W1.frozen? ⟨g, n, none⟩ = false := by simp [World.frozen?, M1.vals]
      have hE1g : Ext W W1 [g] := hE1.mono (by simp)
      have hlt1 : W.heap.size < W1.heap.size := (Array.getElem?_eq_some_iff.1 hb1).1
      have hne1 : W.heap.size ∉ [g] := by have := (Array.getElem?_eq_some_iff.1 M.vals).1; simp; omega
      simp only [List.length_map] at hW1
      -- what is stored and handed back
      have fin : ∀ (v : Int) (W2 : World) (s2 : List Int), v = sz l (n : Int) → Mem Bo Bl Bf g gl hl cap c Fz l s2 W2 → Som l s2 → Mor l s s2 → Ext W W2 [g] →
          ∃ s', Mem Bo Bl Bf g gl hl cap c Fz l s' (W2.setCell ⟨g, n, none⟩ (.int .i64 v)) ∧ Som l s' ∧ getS s' (n : Int) = sz l (n : Int) ∧ Mor l s s' ∧ Ext W (W2.setCell ⟨g, n, none⟩ (.int .i64 v)) [g] := by
        intro v W2 s2 hv M2 hS2 hM2 hE2
        obtain ⟨q1, q2⟩ := M2.put hn v
        have hn2 : n < s2.length := by rw [M2.len]; exact hn
        refine ⟨_, q1, fun j hj => ?_, ?_, fun j hj h => ?_, hE2.trans q2 fun b hb _ => hb⟩
        · rw [getS_set hn2]
          split
          · rename_i e; rw [e]; exact .inl hv
          · exact hS2 j hj
        · rw [getS_set hn2, if_pos rfl]; exact hv
        · rw [getS_set hn2]
          split
          · rename_i e; rw [e]; exact hv
          · exact hM2 j hj h
      have one := G.one
      have hsm := hsm0 _ (List.getElem_mem hn)
      have hcase : l[n].kind = 1 ∨ l[n].kind = 2 ∨ l[n].kind = 3 ∨ l[n].kind = 6 ∨ l[n].kind = 4 ∨ l[n].kind = 5 := by omega
      rcases hcase with hg | hg | hg | hg | hg | hg
      · have hv : sz l (n : Int) = 4 := by rw [hse]; simp [oneT, hg]
        rw [hg] at r0 k0 hW1
        obtain ⟨s', F1, F2, F3, F4, F5⟩ := fin (min 4 1000000001) W1 s (by rw [hv]; rfl) M1 hS (fun j _ h => h) hE1g
        obtain ⟨W2, hW2⟩ : ∃ W2, W1.setCell ⟨g, n, none⟩ (.int .i64 (min 4 1000000001)) = W2 := ⟨_, rfl⟩
        rw [hW2] at F1 F5
        have p1 := F1.o
        have p2 := F1.at hn
        rw [F3] at p2
        clear hv hse
        gi_wp2
        refine bodyPost_ret (results_tmp rfl _ _ _) rfl ?_
        exact ⟨rfl, s', F1, F2, F3, F4, F5⟩
      · have hv : sz l (n : Int) = 1 := by rw [hse]; simp [oneT, hg]
        rw [hg] at r0 k0 hW1
        obtain ⟨s', F1, F2, F3, F4, F5⟩ := fin (min 1 1000000001) W1 s (by rw [hv]; rfl) M1 hS (fun j _ h => h) hE1g
        obtain ⟨W2, hW2⟩ : ∃ W2, W1.setCell ⟨g, n, none⟩ (.int .i64 (min 1 1000000001)) = W2 := ⟨_, rfl⟩
        rw [hW2] at F1 F5
        have p1 := F1.o
        have p2 := F1.at hn
        rw [F3] at p2
        clear hv hse
        gi_wp2
        refine bodyPost_ret (results_tmp rfl _ _ _) rfl ?_
        exact ⟨rfl, s', F1, F2, F3, F4, F5⟩
      · have hv : sz l (n : Int) = 1 := by rw [hse]; simp [oneT, hg]
        rw [hg] at r0 k0 hW1
        obtain ⟨s', F1, F2, F3, F4, F5⟩ := fin (min 1 1000000001) W1 s (by rw [hv]; rfl) M1 hS (fun j _ h => h) hE1g
        obtain ⟨W2, hW2⟩ : ∃ W2, W1.setCell ⟨g, n, none⟩ (.int .i64 (min 1 1000000001)) = W2 := ⟨_, rfl⟩
        rw [hW2] at F1 F5
        have p1 := F1.o
        have p2 := F1.at hn
        rw [F3] at p2
        clear hv hse
        gi_wp2
        refine bodyPost_ret (results_tmp rfl _ _ _) rfl ?_
        exact ⟨rfl, s', F1, F2, F3, F4, F5⟩
      · have hv : sz l (n : Int) = 8 := by rw [hse]; simp [oneT, hg]
        rw [hg] at r0 k0 hW1
        obtain ⟨s', F1, F2, F3, F4, F5⟩ := fin (min 8 1000000001) W1 s (by rw [hv]; rfl) M1 hS (fun j _ h => h) hE1g
        obtain ⟨W2, hW2⟩ : ∃ W2, W1.setCell ⟨g, n, none⟩ (.int .i64 (min 8 1000000001)) = W2 := ⟨_, rfl⟩
        rw [hW2] at F1 F5
        have p1 := F1.o
        have p2 := F1.at hn
        rw [F3] at p2
        clear hv hse
        gi_wp2
        refine bodyPost_ret (results_tmp rfl _ _ _) rfl ?_
        exact ⟨rfl, s', F1, F2, F3, F4, F5⟩
      · obtain ⟨a1, a2, a3⟩ := G.arr hg
        obtain ⟨b0, b1⟩ := isNum_in.1 a1
        obtain ⟨m, hm⟩ : ∃ m : Nat, l[n].base = (m : Int) := ⟨l[n].base.toNat, by omega⟩
        have hml : m < l.length := by omega
        have hmk : rk l (m : Int) < k := by
          have : (m : Int) ∈ kids l false (n : Int) := by
            rw [kids_at (n := (n : Int)) (by simpa using hn)]
            simp [prt, hg, hm]
          have := rk_lt ht (Int.natCast_nonneg n) (by omega) this
          omega
        have hcall : ∀ W', Ext W1 W' [] → _ := fun W' hE' => ih m hml hmk W' s (M1.ext hE') hS
        rw [hg] at r0 k0 hW1
        rw [hm] at r2 k2 hW1
        gi_wp2
        refine wpIn_wide.2 ?_
        go_region_held3 (fun w => w.cell? ⟨W.heap.size, 1, none⟩ = some (.int .i64 l[n].long) ∧ w.cell? ⟨W.heap.size, 2, none⟩ = some (.int .i64 (m : Int)) ∧ w.cell? ⟨Bf, 0, none⟩ = some (.func (.func 48) #[] #[.pointer (some ⟨Bo, 0, none⟩), .pointer (some ⟨Bl, 0, none⟩), .pointer (some ⟨Bf, 0, none⟩)])) (first | exact ⟨k1, k2, n3⟩ | exact ⟨by assumption, by assumption, by assumption⟩) (first | (go_at_call 48; refine (hcall _ (Ext.drew _ _)).mono ?_; rintro e W2 ⟨rfl, s2, M2, S2, g2, Mo2, E2⟩; have c1 : W2.cell? ⟨W.heap.size, 1, none⟩ = some (.int .i64 l[n].long) := (World.cell?_of_block (E2.blk W.heap.size hlt1 hne1)).trans k1; have c2 : W2.cell? ⟨W.heap.size, 2, none⟩ = some (.int .i64 (m : Int)) := (World.cell?_of_block (E2.blk W.heap.size hlt1 hne1)).trans k2; have c3 := M2.f))
        have hv : min (l[n].long * sz l (m : Int)) 1000000001 = sz l (n : Int) := by
          have hp : prt false l[n] = [(m : Int)] := by
            simp [prt, hg, hm, G.none (by rw [hg]; omega)]
          rw [hse]
          unfold oneT capS
          rw [hg, hp]
          simp only [sumZ, show ((4 : Int) == 1) = false from rfl, show ((4 : Int) == 2) = false from rfl, show ((4 : Int) == 3) = false from rfl, show ((4 : Int) == 6) = false from rfl, show ((4 : Int) == 4) = true from rfl, Bool.or_self, Bool.false_eq_true, if_false, if_true, Int.add_zero]
          rw [Int.mul_comm, Int.min_comm]
        have hb := sz_nn (tabOk_tys ht) (m : Int)
        have hw1 : l[n].long * sz l (m : Int) ≤ 1000 * sz l (m : Int) := Int.mul_le_mul_of_nonneg_right a3 hb.1
        have hw0 : 0 ≤ l[n].long * sz l (m : Int) := Int.mul_nonneg (by omega) hb.1
        have hw := w64 (l[n].long * sz l (m : Int)) (by omega)
        simp only [hw]
        obtain ⟨s', F1, F2, F3, F4, F5⟩ := fin (min (l[n].long * sz l (m : Int)) 1000000001) W2 s2 hv M2 S2 Mo2 (hE1g.trans ((Ext.drew W1 [g]).trans E2 fun b hb _ => hb) fun b hb _ => hb)
        obtain ⟨W3, hW3⟩ : ∃ W3, W2.setCell ⟨g, n, none⟩ (.int .i64 (min (l[n].long * sz l (m : Int)) 1000000001)) = W3 := ⟨_, rfl⟩
        rw [hW3] at F1 F5
        have p1 := F1.o
        have p2 := F1.at hn
        rw [F3] at p2
        have o1 := M2.o
        have o2 := M2.at hn
        have o3 : W2.frozen? ⟨g, n, none⟩ = false := by simp [World.frozen?, M2.vals]
        clear hv hse hw hw0 hw1
        gi_wp2
        refine bodyPost_ret (results_tmp rfl _ _ _) rfl ?_
        exact ⟨rfl, s', F1, F2, F3, F4, F5⟩
      · have hk6 : ∀ i (h : i < (prt false l[n]).length), ∃ m : Nat, (prt false l[n])[i] = (m : Int) ∧ m < l.length ∧ rk l (m : Int) < k := by
          intro i h
          have hm : (prt false l[n])[i] ∈ kids l false (n : Int) := by
            rw [kids_at (n := (n : Int)) (by simpa using hn)]
            simp only [Int.toNat_natCast]
            exact List.getElem_mem h
          obtain ⟨b0, b1⟩ := kids_ok (tabOk_tys ht) (Int.natCast_nonneg n) (by omega) hm
          have hlt := rk_lt ht (Int.natCast_nonneg n) (by omega) hm
          exact ⟨(prt false l[n])[i].toNat, by omega, by omega, by rw [Int.toNat_of_nonneg b0]; omega⟩
        have h7 := prt_len (tabOk_tys ht) false hn
        have hv : min (sumZ (sz l) (prt false l[n])) 1000000001 = sz l (n : Int) := by
          rw [hse]
          unfold oneT capS
          rw [hg]
          simp only [show ((5 : Int) == 1) = false from rfl, show ((5 : Int) == 2) = false from rfl, show ((5 : Int) == 3) = false from rfl, show ((5 : Int) == 6) = false from rfl, show ((5 : Int) == 4) = false from rfl, Bool.or_self, Bool.false_eq_true, if_false]
          rw [Int.min_comm]
        have h136 := (d49 l[n] false hsm).2 W1 Fz [.agg #[Value.int .i64 l[n].kind, Value.int .i64 l[n].long, Value.int .i64 l[n].base, Value.slice Af (List.map Fd.z l[n].fields).length cf, Value.string l[n].owner, Value.string l[n].name], .bool false] [] (by
          have f1 : RepC W1 Fz (.fsl 3 (l[n].fields.map Fd.z)) (Value.slice Af (List.map Fd.z l[n].fields).length cf) [] := f0.keep _ _ _ ⟨fun b h => ⟨h, hE1.blk b (M.fz b h).1 (by simp)⟩, fun b h => by simp at h⟩
          refine ⟨_, _, [], [], rfl, rfl, ⟨[Value.int .i64 l[n].kind, Value.int .i64 l[n].long, Value.int .i64 l[n].base, Value.slice Af (List.map Fd.z l[n].fields).length cf, Value.string l[n].owner, Value.string l[n].name], rfl, ?_⟩, _, _, [], [], rfl, rfl, by simp [RepV, RepC, Value.oneCell'], rfl, rfl⟩
          exact ⟨_, _, [], [], rfl, rfl, by simp [RepV, RepC, Value.oneCell'], _, _, [], [], rfl, rfl, by simp [RepV, RepC, Value.oneCell'], _, _, [], [], rfl, rfl, by simp [RepV, RepC, Value.oneCell'], _, _, [], [], rfl, rfl, f1.toV, _, _, [], [], rfl, rfl, by simp [RepV, RepC, Value.oneCell'], _, _, [], [], rfl, rfl, by simp [RepV, RepC, Value.oneCell'], rfl, rfl⟩) List.nodup_nil (by simp) (fun b hb => (M1.fz b hb).1)
        rw [hg] at r0 k0 hW1 h136
        generalize hps : prt false l[n] = ps at h136 hk6 h7 hv
        clear hse
        gi_wp2
        simp only [List.length_map] at h136
        refine ⟨trivial, (callsIn_wide.2 h136).mono ?_⟩
        rintro e Wp ⟨x, ox, oo, rfl, hEp, hx, _, _, hold⟩
        have Mp := M1.ext hEp
        have hgW := (Array.getElem?_eq_some_iff.1 M1.vals).1
        obtain ⟨A, cp, rfl, hA⟩ : ∃ A cp, x = .slice A ps.length cp ∧ (0 < ps.length → ps.length ≤ cp ∧ ∃ gp hp, A = some ⟨gp, hp, none⟩ ∧ W1.heap.size ≤ gp ∧ gp < Wp.heap.size ∧ ∀ i (h : i < ps.length), Wp.cell? ⟨gp, hp + i, none⟩ = some (.int .i64 ps[i])) := by
          simp only [RepV, RepC] at hx
          rcases hx with ⟨rfl, hx, _⟩ | ⟨gp, hp, cp, cur, vs, o', rfl, rfl, _, hc, _, hrw, hat⟩
          · have : ps = [] := List.map_eq_nil_iff.1 hx
            subst this
            exact ⟨none, 0, rfl, fun h => absurd h (by simp)⟩
          · obtain ⟨rfl, rfl⟩ := AllF.rows_iv hrw
            have hgp := hold gp (by simp)
            refine ⟨some ⟨gp, hp * 1, none⟩, cp, by rw [List.length_map], fun _ => ⟨by simpa using hc, gp, hp * 1, rfl, by rcases hgp.1 with h | h; simp at h; exact h, hgp.2, fun i h => hat i _ (by simp [h])⟩⟩
        gi_wp2
        gi_loopw [7, 46] (fun a b wr => ∃ (i : Nat) (s2 : List Int), i ≤ ps.length ∧ b = .int .i64 (i : Int) ∧ a = .int .i64 (sumZ (sz l) (ps.take i)) ∧ Mem Bo Bl Bf g gl hl cap c Fz l s2 wr ∧ Som l s2 ∧ Mor l s s2 ∧ Ext W wr [g] ∧ Ext Wp wr [g])
          (fun a b _ => ps.length - (intOf b).toNat)
        case atStart => exact ⟨0, s, Nat.zero_le _, rfl, rfl, Mp, hS, fun j _ h => h, hE1g.trans (hEp.mono (by simp)) (fun b hb _ => hb), Ext.refl _ _⟩
        case round =>
          obtain ⟨i, s2, hi, rfl, rfl, Ms, Ss, Mo, EW, EP⟩ := hrel
          by_cases hlt : i < ps.length
          · obtain ⟨hc', gp, hp, rfl, hg1, hg2, hat⟩ := hA (by omega)
            have hcx : wr.cell? ⟨gp, hp + i, none⟩ = some (.int .i64 ps[i]) := (World.cell?_of_block (EP.blk gp hg2 (by simp; omega))).trans (hat i hlt)
            obtain ⟨m, hm, hml, hmk⟩ := hk6 i hlt
            rw [hm] at hcx
            have hf := Ms.f
            have hb := sz_nn (tabOk_tys ht) (m : Int)
            have hs1 : sumZ (sz l) (ps.take (i + 1)) = sumZ (sz l) (ps.take i) + sz l (m : Int) := by
              rw [List.take_succ_eq_append_getElem hlt, sumZ_app, hm]; simp [sumZ]
            have hs2 : 0 ≤ sumZ (sz l) (ps.take i) ∧ sumZ (sz l) (ps.take i) ≤ 7000000007 := by
              have q1 := sumZ_nn (g := sz l) (ks := ps.take i) fun k _ => (sz_nn (tabOk_tys ht) k).1
              have q2 := sumZ_le (g := sz l) (B := 1000000001) (ks := ps.take i) fun k _ => (sz_nn (tabOk_tys ht) k).2
              simp only [List.length_take] at q2
              omega
            gi_wp2
            refine ⟨trivial, (callsIn_wide.2 (ih m hml hmk wr s2 Ms Ss)).mono ?_⟩
            rintro e W3 ⟨rfl, s3, M3, S3, g3, Mo3, E3⟩
            gi_wp2
            exact ⟨⟨i + 1, s3, hlt, by simp, by rw [hs1], M3, S3, fun j hj h => Mo3 j hj (Mo j hj h), EW.trans E3 fun b hb _ => hb, EP.trans E3 fun b hb _ => hb⟩, by simp [intOf]; omega⟩
          · obtain rfl : i = ps.length := by omega
            simp only [List.take_length]
            obtain ⟨s', F1, F2, F3, F4, F5⟩ := fin (min (sumZ (sz l) ps) 1000000001) wr s2 hv Ms Ss Mo EW
            obtain ⟨W4, hW4⟩ : ∃ W4, wr.setCell ⟨g, n, none⟩ (.int .i64 (min (sumZ (sz l) ps) 1000000001)) = W4 := ⟨_, rfl⟩
            rw [hW4] at F1 F5
            have p1 := F1.o
            have p2 := F1.at hn
            rw [F3] at p2
            have o1 := Ms.o
            have o2 := Ms.at hn
            have o3 : wr.frozen? ⟨g, n, none⟩ = false := by simp [World.frozen?, Ms.vals]
            clear hv
            gi_wp2
            refine bodyPost_ret (results_tmp rfl _ _ _) rfl ?_
            exact ⟨rfl, s', F1, F2, F3, F4, F5⟩
end Go.Proofs.Sizes

namespace Go.Proofs.AllF
open Go Go.AM Go.RowKit Go.Shelf Go.Proofs Go.Proofs.Backw
attribute [local go_sem] Oper.semAt_some
set_option linter.unusedVariables false
set_option linter.unusedSimpArgs false

def noDef (ops : Array Oper) : Bool := ops.all fun o => match o.op with
  | .defer _ => false
  | _ => true
theorem noDef_spec {ops : Array Oper} (h : noDef ops = true) (i : Nat) (o : Oper) (c : Call) (ho : ops[i]? = some o) : o.op ≠ .defer c := by
  intro e
  simp only [noDef, Array.all_eq_true] at h
  obtain ⟨hi, rfl⟩ := Array.getElem?_eq_some_iff.1 ho
  have := h i hi
  rw [e] at this
  simp at this
theorem allL_rev (l : List Ty) : ∀ zs : List Int, allL l zs = zs.reverse.flatMap (fdsAt l)
  | [] => rfl
  | z :: zs => by simp [allL, allL_rev l zs]
theorem flds_all {l : List Ty} {zs : List Int} {fr : Nat → InT l} (h : ∀ k, (fr k).1.2 = zs[zs.length - 1 - k]?.getD 0) : flds l (upto fr zs.length) = allL l zs := by
  have e : (upto fr zs.length).map (fun x => x.1.2) = zs.reverse := by
    apply List.ext_getElem
    · simp [upto]
    · intro i h1 h2
      have hi : i < zs.length := by simpa using h2
      have hj : zs.length - 1 - i < zs.length := by omega
      simp [upto, h, List.getElem_reverse, hj]
  rw [allL_rev, ← e, List.flatMap_map]
  rfl
def bodyT : TT := .alt (.step 0 ⟨(some 15), none, .q (.load false 1 (.t 5))⟩
           (.step 1 ⟨(some 16), none, .q (.load false 1 (.t 2))⟩
            (.step 3 ⟨(some 18), none, .q (.iad 6 (.t 16) (.t 17))⟩
             (.step 4 ⟨(some 19), none, .q (.fad 3 (.t 18))⟩
              (.step 5 ⟨(some 20), none, .q (.load false 1 (.t 19))⟩
               (.step 6 ⟨(some 21), none, .a (.app false 56 3 32 (.t 15) (.t 20))⟩
                (.step 7 ⟨none, none, .a (.store 1 (.t 5) (.t 21))⟩
                 .nil)))))))
           (.step 1 ⟨(some 16), none, .q (.load false 1 (.t 2))⟩
           (.step 3 ⟨(some 18), none, .q (.iad 6 (.t 16) (.t 17))⟩
            (.step 4 ⟨(some 19), none, .q (.fad 3 (.t 18))⟩
             (.alt (.step 0 ⟨(some 15), none, .q (.load false 1 (.t 5))⟩
              (.step 5 ⟨(some 20), none, .q (.load false 1 (.t 19))⟩
               (.step 6 ⟨(some 21), none, .a (.app false 56 3 32 (.t 15) (.t 20))⟩
                (.step 7 ⟨none, none, .a (.store 1 (.t 5) (.t 21))⟩
                 .nil))))
              (.step 5 ⟨(some 20), none, .q (.load false 1 (.t 19))⟩
              (.step 0 ⟨(some 15), none, .q (.load false 1 (.t 5))⟩
               (.step 6 ⟨(some 21), none, .a (.app false 56 3 32 (.t 15) (.t 20))⟩
                (.step 7 ⟨none, none, .a (.store 1 (.t 5) (.t 21))⟩
                 .nil))))))))
def bodyM : MC := .mixt [7] [2, 5] [] [] [2] [⟨(some 17), none, .q (.mov (.t 7))⟩] bodyT
set_option maxRecDepth 100000 in
/-- What a round does. -/
theorem body_awp {l : List Ty} {fs : List Go.AM.Fd} {k : Int} (h0 : 0 ≤ k) (h1 : k.toNat < l.length) (hl : fs.length + (fdsAt l k).length ≤ 1000) :
    awp Tryz.prog bodyM (fun e st => st 5 = .box 32 [.usl 56 3 ((fs ++ fdsAt l k).map Go.AM.Fd.o)]) (bSt l fs k) := by
  have h2 : k < (l.length : Int) := by omega
  have he : (fs ++ fdsAt l k).map Go.AM.Fd.o = fs.map Go.AM.Fd.o ++ l[k.toNat].fields.map Go.AM.Fd.z := by rw [fdsAt_eq h1, List.map_append]; rfl
  rw [fdsAt_eq h1] at hl
  simp only [he, bodyM, bodyT, bSt, h0, h1, h2, nth_map h1, Ty.z, EV, Nat.reduceEqDiff, Nat.reduceBEq, Nat.reduceLT, Nat.reduceLeDiff, Nat.reduceAdd, Nat.reduceSub, reduceIte]
  exact ⟨.inl trivial, by omega, by omega⟩

set_option maxRecDepth 100000 in
set_option maxHeartbeats 2000000 in
theorem c25 (l : List Ty) (n : Int) (hl : (l.length : Int) ≤ 1048576) (ht : tabOk l = true) (hr : isRec l n = true) : Con Tryz.prog 25 [.fsl 6 (l.map Ty.z), .v (.int .i64 n)] false (.usl 56 3 ((allF l n).map Go.AM.Fd.o)) [.dead, .dead] := by
  intro w Fz xs os hrep hos hfz hlt
  simp only [RepVs] at hrep
  obtain ⟨sv, _, o1, _, rfl, rfl, h1, _, _, o2, _, rfl, rfl, h2, rfl, rfl⟩ := hrep
  simp only [RepV] at h1 h2
  have h1' := h1
  simp only [RepC] at h1 h2
  obtain ⟨rfl, A, cap, rfl, hcap, hA⟩ := h1
  obtain ⟨rfl, _, rfl⟩ := h2
  refine callsIn_wide (n := 9).1 (callsIn_of_wp_marks Tryz.func25 rfl trivial ?_ rfl)
  simp only [Tryz.ntmps25, List.size_toArray, List.length_cons, List.length_nil, Nat.reduceAdd, Nat.reduceSub, Array.replicate_succ, Array.replicate_zero, List.push_toArray, List.append_toArray, List.nil_append, List.cons_append]
  obtain ⟨w4, hw4⟩ : ∃ w4, (((w.alloc (Obj.cells #[Value.slice A l.length cap] 24)).alloc (Obj.cells #[] 56)).alloc (Obj.cells #[Value.slice (some { block := w.heap.size + 1, off := 0 }) 0 0] 32)) = w4 := ⟨_, rfl⟩
  have hE4 : Ext w w4 [] := by
    rw [← hw4]
    exact ((Ext.alloc _ _ _).trans (Ext.alloc _ [] _) (by simp)).trans (Ext.alloc _ [] _) (by simp)
  have hs4 : w4.heap.size = w.heap.size + 3 := by rw [← hw4]; simp
  have hb2 : w4.heap[w.heap.size]? = some (.cells #[Value.slice A l.length cap] 24) := by
    rw [← hw4]
    rw [Below.heap_alloc _ _ _ (by simp; omega), Below.heap_alloc _ _ _ (by simp)]
    exact World.alloc_heap_new _ _
  have hb3 : w4.heap[w.heap.size + 1]? = some (.cells #[] 56) := by
    rw [← hw4]
    rw [Below.heap_alloc _ _ _ (by simp)]
    have := World.alloc_heap_new (w.alloc (Obj.cells #[Value.slice A l.length cap] 24)) (.cells #[] 56)
    rwa [World.size_alloc] at this
  have hb5 : w4.heap[w.heap.size + 1 + 1]? = some (.cells #[Value.slice (some { block := w.heap.size + 1, off := 0 }) 0 0] 32) := by
    rw [← hw4]
    have := World.alloc_heap_new ((w.alloc (Obj.cells #[Value.slice A l.length cap] 24)).alloc (.cells #[] 56)) (Obj.cells #[Value.slice (some { block := w.heap.size + 1, off := 0 }) 0 0] 32)
    rwa [World.size_alloc, World.size_alloc] at this
  have hline := (d51 l n hl ht (.inr hr)).2 w4 Fz [Value.slice A l.length cap, Value.int IntKind.i64 n] [] ⟨_, _, [], [], rfl, rfl, (keepW hlt hE4 (by simpa using h1')).toV, _, _, [], [], rfl, rfl, by simp [RepV, RepC, Value.oneCell'], rfl, rfl⟩ List.nodup_nil (by simp) (fun b hb => by have := hlt b hb; omega)
  have hc2 : w4.cell? ⟨w.heap.size, 0, none⟩ = some (Value.slice A l.length cap) := by rw [cell_of_cells hb2]; rfl
  gi_wp2
  refine ⟨trivial, (callsIn_wide.2 hline).mono ?_⟩
  rintro e w5 ⟨x, ox, oo, rfl, hE5, hx, ho, hnd, hold⟩
  simp only [RepV] at hx
  have hlr := lineL_rec ht hr
  obtain ⟨zs, hzs⟩ : ∃ zs, lineL l n = zs := ⟨_, rfl⟩
  rw [hzs] at hx
  have hz0 : zs ≠ [] := by rw [← hzs, hlr]; simp
  simp only [RepC] at hx
  rcases hx with ⟨_, hx, _⟩ | ⟨g, h, c, cur, vs, o', rfl, rfl, hg, hc, hfit, hrw, hat⟩
  · exact absurd (List.map_eq_nil_iff.1 hx) hz0
  obtain ⟨rfl, rfl⟩ := rows_iv hrw
  simp only [List.length_map, Nat.mul_one] at hat ⊢
  gi_wp2
  refine ⟨trivial, (back_in Fence.wide _ trivial rfl _ _ _ _).mono ?_⟩
  rintro e w6 ⟨rfl, hw6⟩
  gi_wp2
  rw [← hw6]
  have hE56 : Ext w5 w6 [] := by rw [hw6]; exact Ext.alloc _ _ _
  have hE46 : Ext w4 w6 [] := hE5.trans hE56 (by simp)
  have hE6 : Ext w w6 [] := hE4.trans hE46 (by simp)
  have hs6 : w6.heap.size = w5.heap.size + 1 := by rw [hw6]; simp
  have hg5 : g < w5.heap.size := (hold g (by simp)).2
  have hg4 : w4.heap.size ≤ g := by rcases (hold g (by simp)).1 with h | h; simp at h; exact h
  have hs5 := hE5.size
  have hbs : w6.heap[w5.heap.size]? = some (.cells #[Value.slice (some { block := g, off := h }) zs.length c] 52) := by rw [hw6]; exact World.alloc_heap_new _ _
  have hRd : Rd w5.heap.size g h zs.length c zs w6 := by
    refine ⟨by rw [cell_of_cells hbs]; rfl, fun j hj => ?_⟩
    have := (hat.of_block (hE56.blk g hg5 (by simp))) j (.int .i64 zs[j]) (by simp [hj])
    rw [this]; simp [hj]
  have c2 : w6.heap[w.heap.size]? = some (Obj.cells #[Value.slice A l.length cap] 24) := (hE46.blk _ (by omega) (by simp)).trans hb2
  have c3 : w6.heap[w.heap.size + 1]? = some (.cells #[] 56) := (hE46.blk _ (by omega) (by simp)).trans hb3
  have c5 : w6.heap[w.heap.size + 1 + 1]? = some (Obj.cells #[Value.slice (some { block := w.heap.size + 1, off := 0 }) 0 0] 32) := (hE46.blk _ (by omega) (by simp)).trans hb5
  have h0 : LI w.heap.size w6 l [] w6 := by
    refine ⟨[w.heap.size + 1 + 1, w.heap.size + 1], ?_, by simp, ?_, Ext.refl _ _⟩
    · simp only [RepC, RepRow]
      refine ⟨_, [Value.slice (some { block := w.heap.size + 1, off := 0 }) 0 0], [w.heap.size + 1], rfl, rfl, c5, _, [], [w.heap.size + 1], [], rfl, rfl, .inr ⟨w.heap.size + 1, 0, 0, #[], [], [], by simp [flds], rfl, c3, by simp [flds], by simp, by simp [flds, RepRows], ?_⟩, rfl, rfl⟩
      intro j u hj; simp at hj
    · intro b hb
      simp only [List.mem_cons, List.not_mem_nil, or_false] at hb
      rcases hb with rfl | rfl
      · exact ⟨.inl rfl, by omega⟩
      · exact ⟨.inr (.inl rfl), by omega⟩
  let F0 : Nat → Prop := fun b => Fz b ∨ b = w.heap.size
  have hF0 : ∀ b, F0 b → b < w.heap.size + 1 := by rintro b (h | rfl); exact Nat.lt_succ_of_lt (hlt b h); omega
  have hl6 : RepC w6 Fz (.fsl 6 (l.map Ty.z)) (Value.slice A l.length cap) [] := keepW hlt hE6 (by simpa using h1')
  have f2 : RepC w6 F0 (.fptr [.fsl 6 (l.map Ty.z)]) (.pointer (some ⟨w.heap.size, 0, none⟩)) [] := by
    simp only [RepC, RepRow]
    refine ⟨trivial, w.heap.size, 0, [Value.slice A l.length cap], rfl, .inr rfl, ⟨_, [], [], [], rfl, rfl, ?_, rfl, rfl⟩, ?_⟩
    · have := hl6.keep (w' := w6) (Fz' := F0) _ _ _ ⟨fun b hb => ⟨.inl hb, rfl⟩, fun _ _ => rfl⟩
      simpa only [RepC] using this
    · intro j u hj
      rw [cell_of_cells c2]
      simpa using hj
  have hzin : ∀ j : Nat, 0 ≤ (zs[j]?.getD (0 : Int)) ∧ (zs[j]?.getD (0 : Int)).toNat < l.length := by
    intro j
    have h3 := (tysOk_len (tabOk_tys ht)).1
    by_cases hj : j < zs.length
    · have hm : zs[j] ∈ lineL l n := by rw [hzs]; exact List.getElem_mem hj
      obtain ⟨q0, q1, q2, _⟩ := isRec_in (lineL_in ht _ _ (.inr hr) _ hm)
      simp [hj, q0, q2]
    · simp [List.getElem?_eq_none (Nat.le_of_not_lt hj)]; omega
  have hz25 : zs.length ≤ 25 := by have h1 := lineL_len l n; have h2 := tabOk_len ht; rw [hzs] at h1; omega
  let fr : Nat → InT l := fun k => ⟨(((zs.length - 1 - k : Nat) : Int), zs[zs.length - 1 - k]?.getD 0), hzin _⟩
  have hstop := back_stops Fence.wide 8 trivial rfl (by omega) w5.heap.size g h zs.length c zs (fun x : InT l => #[Value.int .i64 x.1.1, Value.int .i64 x.1.2]) fr
    (fun k j hj => by have : zs.length - 1 - k = j := by omega
                      simp only [fr, this]) (by omega) w6 (by omega) (by omega) hRd
  refine wpIn_rangeFunc_ownF rfl (by omega) (gf := 70) (lb := #[.pointer (some ⟨w5.heap.size, 0, none⟩)]) rfl trivial (enters_of Tryz.func70 (by kernel_rfl) rfl) hstop (fun h k r => k (h r))
    (fun W lo o o' hlo _ _ _ h => Rd_of (World.putObj_heap_other (by omega)) (World.putObj_heap_other (by omega)) h) (Below.refl _ _) (fun _ => rfl)
    (LI w.heap.size w6 l) (fun _ _ _ => False) (LI_own _ _ _) (fun _ _ _ _ _ hs _ _ => hs) h0
    (fun x => { tmps := #[Value.slice A l.length cap, Value.int IntKind.i64 n, Value.pointer (some { block := w.heap.size, off := 0 }),
          undef, Value.slice none 0 0, Value.pointer (some { block := w.heap.size + 1 + 1, off := 0 }), undef, Value.int IntKind.i64 x.1.2,
          Value.slice (some { block := w.heap.size + 1, off := 0 }) 0 0, Value.slice A l.length cap,
          Value.int IntKind.i64 n, Value.slice (some { block := g, off := h }) zs.length c,
          Value.func (Fn.func 70) #[] #[Value.pointer (some { block := w5.heap.size, off := 0 })], Value.int IntKind.i64 x.1.1, Value.int IntKind.i64 x.1.2, undef,
          undef, undef, undef, undef, undef, undef, undef], defers := [] }) ?assign ?body ?done ?stop
  case assign =>
    intro l x W K hK
    gi_wp2
    exact hK
  case stop =>
    rintro D c pre W _ _ h _
    exact h.elim
  case done =>
    rintro D ys W hD rfl hI hK
    obtain ⟨o5, i1, i2, i3, i4⟩ := hI
    have hfl : flds l (upto fr zs.length) = allF l n := by
      rw [flds_all (fun k => rfl)]
      unfold allF
      rw [hzs]
    rw [hfl] at i1
    have hcl := own_cells i1
    simp only [RepC, RepRow] at i1
    obtain ⟨g5, xs5, o', hp, rfl, hg5', y, _, oy, _, rfl, rfl, hu, rfl, rfl⟩ := i1
    simp only [Value.pointer.injEq, Option.some.injEq, Addr.mk.injEq, and_true] at hp
    subst hp
    have hc5 : W.cell? ⟨w.heap.size + 1 + 1, 0, none⟩ = some y := by rw [cell_of_cells hg5']; rfl
    simp only [List.append_nil] at i2 i3
    gi_wp2
    refine ⟨by simp, .inl ⟨_, _, rfl, run_takeDeferred hK, ?_⟩⟩
    have hu' : RepC W noF (.usl 56 3 ((allF l n).map Go.AM.Fd.o)) y oy := by simp only [RepC]; exact hu
    have hW6 := i4.size
    have hEw : Ext w W [] := hE6.trans i4 fun b hb hlt => by simp only [List.mem_cons, List.not_mem_nil, or_false] at hb; omega
    have hEp : Ext w (W.putObj D (.deferred none)) [] := ⟨hEw.os, hEw.tape, hEw.output, by have := hEw.size; simpa using this, fun b hb hn => (World.putObj_heap_other (by omega)).trans (hEw.blk b hb hn)⟩
    have hsame : ∀ b ∈ oy, (W.putObj D (.deferred none)).heap[b]? = W.heap[b]? := fun b hb => World.putObj_heap_other (by
      rintro rfl
      obtain ⟨cur, e, p, hcur⟩ := hcl _ (List.mem_cons_of_mem _ (by simpa using hb))
      rw [hcur] at hK
      cases hK)
    have hk' := hu'.keep (w' := W.putObj D (.deferred none)) (Fz' := noF) _ _ _ ⟨fun b hb => hb.elim, hsame⟩
    refine ⟨_, results_tmp rfl _ _ _, y, oy, [], rfl, hEp, (nfzC _ hk' (by simp only [nfz, Go.AM.Fd.nfz])).toV, ⟨_, _, [], [], rfl, rfl, rfl, _, _, [], [], rfl, rfl, rfl, rfl, rfl⟩, by simpa using (List.nodup_cons.1 i2).2, fun b hb => ?_⟩
    have hb' : b ∈ oy := by simpa using hb
    obtain ⟨q1, q2⟩ := i3 b (List.mem_cons_of_mem _ hb')
    exact ⟨.inr (by omega), by simpa using q2⟩
  case body =>
    rintro lp pre x W ⟨o5, i1, i2, i3, i4⟩ hlen
    have hx := x.2
    have f2W : RepC W F0 (.fptr [.fsl 6 (l.map Ty.z)]) (.pointer (some ⟨w.heap.size, 0, none⟩)) [] :=
      f2.keep _ _ _ ⟨fun b hb => ⟨hb, i4.blk b (by have := hF0 b hb; omega) (by have := hF0 b hb; simp; omega)⟩, fun b hb => by simp at hb⟩
    have hW6 := i4.size
    have hnF : ∀ b ∈ o5, b < W.heap.size ∧ ¬ F0 b := fun b hb => ⟨(i3 b hb).2, fun hf => by have := hF0 b hf; have := (i3 b hb).1; omega⟩
    have hp1 := flds_len (tabOk_tys ht) pre
    have hp2 := fdsAt_len (tabOk_tys ht) x.1.2
    refine wpIn_block ?_
    refine mixt_round (N := 23) (fx := [5]) (c := bCtx W F0 o5 (.pointer (some ⟨w.heap.size + 1 + 1, 0, none⟩))) (noDef_spec (by decide +kernel)) ?_ (FL := [7]) (WL := [2, 5]) (RL := []) (B := []) (fi := [2]) (fs := [⟨(some 17), none, .q (.mov (.t 7))⟩]) (t := bodyT) (by decide +kernel)
      (bSim (l := l) (fs := flds l pre) (k := x.1.2) (F0 := F0) (o5 := o5) (by rfl) (by rfl) (by rfl) (by rfl) (by rfl) f2W i1 i2 hnF (fun b hb => by have := hF0 b hb; omega)) (body_awp (fs := flds l pre) hx.1 hx.2 (by omega)) ?_
    · intro e he
      simp only [bCtx] at he
      split at he
      · rename_i h; simp [h]
      · exact absurd rfl he
    · rintro st a' W' S' h5
      obtain ⟨own, C⟩ := S'.core
      have r5 := C.rep 5
      have hv5 : tmOf a' 5 = .pointer (some ⟨w.heap.size + 1 + 1, 0, none⟩) := S'.size.2 5 _ (by simp [bCtx])
      rw [h5, hv5] at r5
      have r5' := nfzC (Fz' := noF) _ (by simpa only [RepV] using r5) (by simp only [nfz, nfzs, Go.AM.Fd.nfz, Bool.and_self])
      have hE : Ext W W' o5 := C.fr
      refine ⟨⟨hE.size, fun k o hk hc => ?_⟩, fun hR => ?_, own 5, by rw [flds_snoc]; exact r5', C.nd 5, fun b hb => ?_, ?_⟩
      · have hkW := (Array.getElem?_eq_some_iff.1 hk).1
        refine (hE.blk k hkW fun hm => ?_).trans hk
        obtain ⟨cur, e, p, hcur⟩ := own_cells i1 k hm
        rw [hcur] at hk
        cases hk
        simp [Obj.isCells] at hc
      · refine Rd_of (hE.blk _ (by omega) fun hm => ?_) (hE.blk _ (by omega) fun hm => ?_) hR
        · have := (i3 _ hm).1; omega
        · have := (i3 _ hm).1; omega
      · obtain ⟨q1, q2⟩ := C.old b (.inl ⟨5, hb⟩)
        refine ⟨?_, q2⟩
        rcases q1 with q1 | q1
        · exact (i3 b q1).1
        · simp only [bCtx] at q1; exact .inr (.inr (by omega))
      · refine i4.trans hE fun b hb hlt => ?_
        have := (i3 b hb).1
        simp only [List.mem_cons, List.not_mem_nil, or_false]
        omega
end Go.Proofs.AllF

namespace Go.AM
theorem d25 (l : List Ty) (n : Int) (hl : (l.length : Int) ≤ 1048576) (ht : tabOk l = true) (hr : isRec l n = true) : Does Go.Proofs.Tryz.prog 25 [.fsl 6 (l.map Ty.z), .v (.int .i64 n)] false (.usl 56 3 ((allF l n).map Fd.o)) [.dead, .dead] :=
  ⟨by decide +kernel, Go.Proofs.AllF.c25 l n hl ht hr⟩

end Go.AM
