/- Contracts of functions of the given program, for the law FnExactAllFields: what they return and what they write, under the bounds that each theorem states. -/
import Derived.Test.YtjbmgopednpbmaaG2
import Derived.RangeFuncNested
import Derived.RangeFuncBound
import Derived.RangeFuncCalls
import Derived.RangeFuncLeaves
import Derived.RangeFuncBox
import Derived.Shelf.Abstract
import Derived.WalkKit
import Derived.OwnWalkIn
import Derived.TacticsInMore
import Derived.LoopNIn
import Derived.LoopIn
namespace Go.AM
set_option linter.unusedVariables false
set_option linter.unusedSimpArgs false
theorem tyNm_comm (x o : Ty) : tyNm x o = ((x.name.toList == o.name.toList) && (x.owner.toList == o.owner.toList)) := by
  unfold tyNm
  rw [Bool.beq_comm, Bool.beq_comm (a := o.owner.toList)]

theorem tysOk_base' {l : List Ty} (h : baseOk l = false) : tysOk l = false := by
  unfold tysOk
  unfold baseOk at h
  rcases e : decide (3 ≤ (l.length : Int)) with _ | _
  · simp only [Bool.false_and]
  · rw [e, Bool.true_and] at h
    simp only [h, Bool.false_and, Bool.and_false]

theorem tysOk_long {l : List Ty} (h : 24 < (l.length : Int)) : tysOk l = false := by
  unfold tysOk
  have : decide ((l.length : Int) ≤ 24) = false := decide_eq_false (by omega)
  simp only [this, Bool.false_and, Bool.and_false]

/-- loop.example/g00837/spec.l3Nearly -/
def m110 : MC :=
  (.seq
   (.reg [⟨(some 2), none, .a (.asg (.c (.bool false)))⟩])
   (.seq
    (.seq
     (.reg [⟨(some 7), none, .q (.mov (.t 0))⟩,
       ⟨(some 8), none, .a (.call (.fn 149) false [.lend (.t 7)])⟩,
       ⟨(some 9), none, .q (.un .not (.t 8))⟩,
       ⟨(some 10), none, .q (.mov (.t 9))⟩,
       ⟨(some 11), (some (10, false)), .q (.mov (.t 0))⟩,
       ⟨(some 12), (some (10, false)), .q (.len false (.t 11))⟩,
       ⟨(some 13), (some (10, false)), .q (.bin false .gtr (.t 12) (.c (.int .i64 24)))⟩,
       ⟨(some 14), none, .q (.pick (.t 10) (.c (.bool true)) (.t 13))⟩])
     (.cond (.t 14)
      (.seq
       (.reg [⟨(some 2), none, .a (.asg (.c (.bool false)))⟩])
       .ret)
      .skip))
    (.seq
     (.seq
      (.reg [⟨(some 15), none, .q (.mov (.t 0))⟩,
        ⟨(some 16), none, .q (.slc false 6 (.t 15) (some (.c (.int .i64 3))) none)⟩,
        ⟨(some 17), none, .q (.len false (.t 16))⟩,
        ⟨(some 18), none, .q (.mov (.c (.int .i64 0)))⟩])
      (.block 0
       (.loop [0, 15, 16, 17, 18]
        (.seq
         (.reg [⟨(some 19), none, .q (.bin false .lss (.t 18) (.t 17))⟩])
         (.seq
          (.cond (.t 19)
           .skip
           (.exit 0))
          (.seq
           (.block 1
            (.seq
             (.reg [⟨(some 20), none, .q (.mov (.t 18))⟩,
               ⟨(some 21), none, .q (.iad 6 (.t 16) (.t 18))⟩,
               ⟨(some 22), none, .q (.load true 6 (.t 21))⟩,
               ⟨(some 4), none, .a (.alloc 59 [.v (.int .i64 0), .v (.int .i64 0), .v (.int .i64 0), .s 57 3, .v (.string ({ data := #[] })), .v (.string ({ data := #[] }))])⟩,
               ⟨(some 3), none, .a (.asg (.t 20))⟩,
               ⟨none, none, .a (.store 6 (.t 4) (.t 22))⟩])
             (.seq
              (.seq
               (.reg [⟨(some 23), none, .q (.mov (.t 0))⟩,
                 ⟨(some 24), none, .q (.load true 6 (.t 4))⟩,
                 ⟨(some 25), none, .a (.call (.fn 150) false [.lend (.t 23), .lend (.t 24)])⟩,
                 ⟨(some 26), none, .q (.un .not (.t 25))⟩])
               (.cond (.t 26)
                (.seq
                 (.reg [⟨(some 2), none, .a (.asg (.c (.bool false)))⟩])
                 .ret)
                .skip))
              (.seq
               (.reg [⟨(some 27), none, .q (.mov (.t 0))⟩,
                 ⟨(some 28), none, .q (.mov (.t 3))⟩,
                 ⟨(some 29), none, .q (.bin false .add (.c (.int .i64 3)) (.t 28))⟩,
                 ⟨(some 30), none, .q (.slc false 6 (.t 27) (some (.c (.int .i64 3))) (some (.t 29)))⟩,
                 ⟨(some 31), none, .q (.len false (.t 30))⟩,
                 ⟨(some 32), none, .q (.mov (.c (.int .i64 0)))⟩])
               (.block 2
                (.loop [0, 4, 15, 16, 17, 18, 27, 29, 30, 31, 32]
                 (.seq
                  (.reg [⟨(some 33), none, .q (.bin false .lss (.t 32) (.t 31))⟩])
                  (.seq
                   (.cond (.t 33)
                    .skip
                    (.exit 2))
                   (.seq
                    (.block 3
                     (.seq
                      (.reg [⟨(some 34), none, .q (.iad 6 (.t 30) (.t 32))⟩,
                        ⟨(some 35), none, .q (.load true 6 (.t 34))⟩,
                        ⟨(some 6), none, .a (.alloc 59 [.v (.int .i64 0), .v (.int .i64 0), .v (.int .i64 0), .s 57 3, .v (.string ({ data := #[] })), .v (.string ({ data := #[] }))])⟩,
                        ⟨none, none, .a (.store 6 (.t 6) (.t 35))⟩])
                      (.seq
                       (.reg [⟨(some 36), none, .q (.fad 5 (.t 4))⟩,
                         ⟨(some 37), none, .q (.load false 1 (.t 36))⟩,
                         ⟨(some 38), none, .q (.bin false .neq (.t 37) (.c (.string ({ data := #[] }))))⟩,
                         ⟨(some 39), none, .q (.mov (.t 38))⟩,
                         ⟨(some 40), (some (39, true)), .q (.fad 5 (.t 4))⟩,
                         ⟨(some 41), (some (39, true)), .q (.load false 1 (.t 40))⟩,
                         ⟨(some 42), (some (39, true)), .q (.fad 5 (.t 6))⟩,
                         ⟨(some 43), (some (39, true)), .q (.load false 1 (.t 42))⟩,
                         ⟨(some 44), (some (39, true)), .q (.bin false .eql (.t 41) (.t 43))⟩,
                         ⟨(some 45), none, .q (.pick (.t 39) (.t 44) (.c (.bool false)))⟩,
                         ⟨(some 46), none, .q (.mov (.t 45))⟩,
                         ⟨(some 47), (some (46, true)), .q (.fad 4 (.t 4))⟩,
                         ⟨(some 48), (some (46, true)), .q (.load false 1 (.t 47))⟩,
                         ⟨(some 49), (some (46, true)), .q (.fad 4 (.t 6))⟩,
                         ⟨(some 50), (some (46, true)), .q (.load false 1 (.t 49))⟩,
                         ⟨(some 51), (some (46, true)), .q (.bin false .eql (.t 48) (.t 50))⟩,
                         ⟨(some 52), none, .q (.pick (.t 46) (.t 51) (.c (.bool false)))⟩])
                       (.cond (.t 52)
                        (.seq
                         (.reg [⟨(some 2), none, .a (.asg (.c (.bool false)))⟩])
                         .ret)
                        .skip))))
                    (.reg [⟨(some 53), none, .q (.bin false .add (.t 32) (.c (.int .i64 1)))⟩,
                      ⟨(some 32), none, .q (.mov (.t 53))⟩]))))))))))
           (.reg [⟨(some 54), none, .q (.bin false .add (.t 18) (.c (.int .i64 1)))⟩,
             ⟨(some 18), none, .q (.mov (.t 54))⟩])))))))
     (.seq
      (.reg [⟨(some 2), none, .a (.asg (.c (.bool true)))⟩])
      .ret))))

set_option maxHeartbeats 1000000 in
set_option maxRecDepth 100000 in
theorem d110 (l : List Ty) (hl : (l.length : Int) ≤ 1048576) (hs : ∀ s ∈ l, s.sm) : Does Go.Proofs.Try.prog 110 [.fsl 6 (l.map Ty.z)] false (.v (.bool (tysOk l))) [.dead] := by
  refine does_intro (mc := m110) (N := 55) (rs := [2]) (fx := []) 1 rfl (by decide +kernel) ?_
  simp only [m110, EV, Nat.reduceEqDiff, Nat.reduceBEq, Nat.reduceLT, Nat.reduceLeDiff, Nat.reduceAdd, Nat.reduceSub, reduceIte]
  refine callK_i (d149 l hl) ?_
  simp only [EV, Nat.reduceEqDiff, Nat.reduceBEq, Nat.reduceLT, Nat.reduceLeDiff, Nat.reduceAdd, Nat.reduceSub, reduceIte]
  rcases hb : baseOk l with _ | _
  · have e : tysOk l = false := tysOk_base' hb
    simp only [EV, Nat.reduceEqDiff, Nat.reduceBEq, Nat.reduceLT, Nat.reduceLeDiff, Nat.reduceAdd, Nat.reduceSub, reduceIte]
    simp only [e, EV, Nat.reduceEqDiff, Nat.reduceBEq, Nat.reduceLT, Nat.reduceLeDiff, Nat.reduceAdd, Nat.reduceSub, reduceIte, evRE, retVC, cellV', evR, nfz, nfzs, nfzss, List.contains_nil, List.contains_cons, Bool.or_false, or_true]
  simp only [EV, Nat.reduceEqDiff, Nat.reduceBEq, Nat.reduceLT, Nat.reduceLeDiff, Nat.reduceAdd, Nat.reduceSub, reduceIte]
  refine cK_cut (fun h => ?_) (fun h => ?_)
  · have e : tysOk l = false := tysOk_long (by simpa using h)
    simp only [EV, Nat.reduceEqDiff, Nat.reduceBEq, Nat.reduceLT, Nat.reduceLeDiff, Nat.reduceAdd, Nat.reduceSub, reduceIte]
    simp only [e, EV, Nat.reduceEqDiff, Nat.reduceBEq, Nat.reduceLT, Nat.reduceLeDiff, Nat.reduceAdd, Nat.reduceSub, reduceIte, evRE, retVC, cellV', evR, nfz, nfzs, nfzss, List.contains_nil, List.contains_cons, Bool.or_false, or_true]
  have h24 : (l.length : Int) ≤ 24 := by have : ¬ 24 < (l.length : Int) := by simpa using h
                                         omega
  have hbo := hb
  simp only [baseOk, Bool.and_eq_true, decide_eq_true_eq] at hbo
  obtain ⟨hl3, e2⟩ := hbo
  have e1 : (decide (3 ≤ (l.length : Int)) && decide ((l.length : Int) ≤ 24)) = true := by rw [decide_eq_true hl3, decide_eq_true h24]; rfl
  clear h
  have h3 : ((3 : Nat) : Int) = 3 := rfl
  have t3 : (3 : Int).toNat = 3 := rfl
  simp only [h3, EV, Nat.reduceEqDiff, Nat.reduceBEq, Nat.reduceLT, Nat.reduceLeDiff, Nat.reduceAdd, Nat.reduceSub, reduceIte]
  refine ⟨by omega, hl3, by omega, ?_⟩
  simp only [← List.map_drop, ← List.map_take, t3]
  have hm : ∃ m, l.drop 3 = m := ⟨_, rfl⟩
  obtain ⟨m, hm⟩ := hm
  have hml : (m.length : Int) = (l.length : Int) - 3 := by rw [← hm]; simp; omega
  have hsub : ∀ x ∈ m, x ∈ l := by rw [← hm]; exact fun x hx => List.mem_of_mem_drop hx
  have p9 : ∀ i (h : i < m.length), tyAt l m i h = false → tysOk l = false := by
    subst hm; exact fun i h e => tysOk_no h e
  refine awp_loop (fun i : Nat => i ≤ m.length ∧ tyTo l m i) (fun i => stl [(0, .fsl 6 (l.map Ty.z)), (15, .fsl 6 (l.map Ty.z)), (16, .fsl 6 (m.map Ty.z)), (17, .v (.int .i64 (m.length : Int))), (18, .v (.int .i64 (i : Int)))]) (fun i => m.length - i) 0 ⟨Nat.zero_le _, fun j hj h => absurd h (by omega)⟩ ?_ ?_
  · have htk : List.take (l.length - 3) m = m := List.take_of_length_le (by omega)
    simp only [hm, htk, EV, Nat.reduceEqDiff, Nat.reduceBEq, Nat.reduceLT, Nat.reduceLeDiff, Nat.reduceAdd, Nat.reduceSub, reduceIte]
    rfl
  · rintro i ⟨hi, hok⟩
    simp only [EV, Nat.reduceEqDiff, Nat.reduceBEq, Nat.reduceLT, Nat.reduceLeDiff, Nat.reduceAdd, Nat.reduceSub, reduceIte]
    refine cK_cut (fun h => ?_) (fun h => ?_)
    · have h1 : i < m.length := by simpa using h
      have h2 : (i : Int) < (m.length : Int) := by omega
      have hso : m[i].sm := hs m[i] (hsub _ (List.getElem_mem h1))
      clear h
      have hw : IntKind.i64.wrap (3 + (i : Int)) = ((3 + i : Nat) : Int) := by rw [w64 _ (by omega)]; omega
      have hdt : List.take (3 + i - 3) (List.drop 3 (l.map Ty.z)) = (m.take i).map Ty.z := by
        rw [← hm, Nat.add_sub_cancel_left, ← List.map_drop, ← List.map_take]
      have ht : (m.take i).length = i := by simp; omega
      have hcl : Ty.z m[i] = [.v (.int .i64 m[i].kind), .v (.int .i64 m[i].long), .v (.int .i64 m[i].base), .fsl 3 (m[i].fields.map Fd.z), .v (.string m[i].owner), .v (.string m[i].name)] := rfl
      have d7 := d150 l m[i] hl hso
      rw [hcl] at d7
      have en : (m[i].name.toList == (⟨#[]⟩ : ByteArray).toList) = nil' m[i].name := rfl
      simp only [TyE, nth_map h1, h2, h3, Ty.z, EV, Nat.reduceEqDiff, Nat.reduceBEq, Nat.reduceLT, Nat.reduceLeDiff, Nat.reduceAdd, Nat.reduceSub, reduceIte]
      refine callK_i d7 ?_
      simp only [EV, Nat.reduceEqDiff, Nat.reduceBEq, Nat.reduceLT, Nat.reduceLeDiff, Nat.reduceAdd, Nat.reduceSub, reduceIte]
      rcases e5 : tyOk l m[i] with _ | _
      · have e : tysOk l = false := p9 i h1 (by simp only [tyAt, e5, Bool.and_false])
        simp only [EV, Nat.reduceEqDiff, Nat.reduceBEq, Nat.reduceLT, Nat.reduceLeDiff, Nat.reduceAdd, Nat.reduceSub, reduceIte]
        simp only [e, EV, Nat.reduceEqDiff, Nat.reduceBEq, Nat.reduceLT, Nat.reduceLeDiff, Nat.reduceAdd, Nat.reduceSub, reduceIte, evRE, retVC, cellV', evR, nfz, nfzs, nfzss, List.contains_nil, List.contains_cons, Bool.or_false, or_true]
      simp only [h3, hw, t3, EV, Nat.reduceEqDiff, Nat.reduceBEq, Nat.reduceLT, Nat.reduceLeDiff, Nat.reduceAdd, Nat.reduceSub, reduceIte]
      refine ⟨by omega, by omega, by omega, ?_⟩
      rw [hdt]
      refine awp_loop (fun k : Nat => k ≤ i ∧ (nil' m[i].name = true ∨ ((m.take i).take k).any (tyNm m[i]) = false)) (fun k => stl [(0, .fsl 6 (l.map Ty.z)), (4, .box 59 m[i].z), (15, .fsl 6 (l.map Ty.z)), (16, .fsl 6 (m.map Ty.z)), (17, .v (.int .i64 (m.length : Int))), (18, .v (.int .i64 (i : Int))), (27, .fsl 6 (l.map Ty.z)), (29, .v (.int .i64 ((3 + i : Nat) : Int))), (30, .fsl 6 ((m.take i).map Ty.z)), (31, .v (.int .i64 (i : Int))), (32, .v (.int .i64 (k : Int)))]) (fun k => i - k) 0 ⟨Nat.zero_le _, Or.inr (by simp)⟩ ?_ ?_
      · simp only [Ty.z, EV, Nat.reduceEqDiff, Nat.reduceBEq, Nat.reduceLT, Nat.reduceLeDiff, Nat.reduceAdd, Nat.reduceSub, reduceIte]
        rw [ht]
        rfl
      · rintro k ⟨hk, hno⟩
        simp only [Ty.z, EV, Nat.reduceEqDiff, Nat.reduceBEq, Nat.reduceLT, Nat.reduceLeDiff, Nat.reduceAdd, Nat.reduceSub, reduceIte]
        refine cK_cut (fun h => ?_) (fun h => ?_)
        · have k3 : k < i := by have : (k : Int) < i := by simpa using h
                                omega
          have k1 : k < (m.take i).length := by rw [ht]; exact k3
          have k2 : (k : Int) < i := by omega
          clear h
          have hnx : tyNm m[i] (m.take i)[k] = false → ∃ a, (a ≤ i ∧ (nil' m[i].name = true ∨ ((m.take i).take a).any (tyNm m[i]) = false)) ∧ i - a < i - k ∧ a = k + 1 := by
            intro e
            refine ⟨k + 1, ⟨by omega, ?_⟩, by omega, rfl⟩
            rcases hno with hno | hno
            · exact .inl hno
            · exact .inr (any_take k1 hno e)
          simp only [TyE, nth_map k1, k2, k3, ht, Ty.z, EV, Nat.reduceEqDiff, Nat.reduceBEq, Nat.reduceLT, Nat.reduceLeDiff, Nat.reduceAdd, Nat.reduceSub, reduceIte]
          rw [en]
          have hcm := tyNm_comm m[i] (m.take i)[k]
          rcases e3 : nil' m[i].name with _ | _
          · simp only [Bool.not_false, TyE, nth_map k1, k2, k3, ht, Ty.z, EV, Nat.reduceEqDiff, Nat.reduceBEq, Nat.reduceLT, Nat.reduceLeDiff, Nat.reduceAdd, Nat.reduceSub, reduceIte]
            repeat' (first
    | (refine gK_cut (fun h => ?_) (fun h => ?_) <;> simp only [h, EV, Nat.reduceEqDiff, Nat.reduceBEq, Nat.reduceLT, Nat.reduceLeDiff, Nat.reduceAdd, Nat.reduceSub, reduceIte])
    | (refine cK_cut (fun h => ?_) (fun h => ?_) <;> simp only [h, EV, Nat.reduceEqDiff, Nat.reduceBEq, Nat.reduceLT, Nat.reduceLeDiff, Nat.reduceAdd, Nat.reduceSub, reduceIte]))
            all_goals first
              | (have e4 : tyNm m[i] (m.take i)[k] = true := by rw [hcm]; simp only [*, Bool.and_self]
                 have e : tysOk l = false := p9 i h1 (by
                   have := any_at k1 e4
                   simp only [tyAt, e3, this, Bool.not_false, Bool.true_and, Bool.not_true, Bool.false_and])
                 simp only [e, EV, Nat.reduceEqDiff, Nat.reduceBEq, Nat.reduceLT, Nat.reduceLeDiff, Nat.reduceAdd, Nat.reduceSub, reduceIte, evRE, retVC, cellV', evR, nfz, nfzs, nfzss, List.contains_nil, List.contains_cons, Bool.or_false, or_true]
                 done)
              | (have e4 : tyNm m[i] (m.take i)[k] = false := by rw [hcm]; simp only [*, Bool.false_and, Bool.and_false]
                 obtain ⟨a, q1, q2, rfl⟩ := hnx e4
                 rw [w64 _ (by omega)]
                 exact ⟨k + 1, ⟨q1.1, by rcases q1.2 with q | q; exact absurd (e3.symm.trans q) Bool.false_ne_true; exact Or.inr q⟩, q2, rfl⟩)
          · simp only [Bool.not_true, EV, Nat.reduceEqDiff, Nat.reduceBEq, Nat.reduceLT, Nat.reduceLeDiff, Nat.reduceAdd, Nat.reduceSub, reduceIte]
            rw [w64 _ (by omega)]
            exact ⟨k + 1, ⟨by omega, Or.inl trivial⟩, by omega, rfl⟩
        · have k1 : k = i := by have : ¬ (k : Int) < i := by simpa using h
                                omega
          subst k1
          have hq : tyAt l m k h1 = true := by
            simp only [tyAt, e5, Bool.and_true]
            rcases hno with hno | hno
            · rw [hno]; rfl
            · rw [List.take_take, Nat.min_self] at hno
              rw [hno, Bool.and_false]; rfl
          simp only [EV, Nat.reduceEqDiff, Nat.reduceBEq, Nat.reduceLT, Nat.reduceLeDiff, Nat.reduceAdd, Nat.reduceSub, reduceIte]
          rw [w64 _ (by omega)]
          exact ⟨k + 1, ⟨h1, tyTo_succ h1 hok hq⟩, by omega, rfl⟩
    · have h1 : i = m.length := by have : ¬ (i : Int) < m.length := by simpa using h
                                   omega
      subst h1
      have e : tysOk l = true := tysOk_yes e1 e2 (by rw [hm]; exact hok)
      simp only [EV, Nat.reduceEqDiff, Nat.reduceBEq, Nat.reduceLT, Nat.reduceLeDiff, Nat.reduceAdd, Nat.reduceSub, reduceIte]
      simp only [e, EV, Nat.reduceEqDiff, Nat.reduceBEq, Nat.reduceLT, Nat.reduceLeDiff, Nat.reduceAdd, Nat.reduceSub, reduceIte, evRE, retVC, cellV', evR, nfz, nfzs, nfzss, List.contains_nil, List.contains_cons, Bool.or_false, or_true]

end Go.AM
namespace Go.AM
set_option linter.unusedVariables false
set_option linter.unusedSimpArgs false
def noRd (l : List Ty) (n : Nat) : Prop := ∀ j : Nat, j < n → roundAt l (j : Int) = false

theorem tabOk_yes {l : List Ty} (h : tysOk l = true) (h2 : noRd l l.length) : tabOk l = true := by
  simp only [tabOk, h, Bool.true_and, List.all_eq_true, List.mem_range]
  intro n hn
  rw [h2 n hn]; rfl

theorem tabOk_no {l : List Ty} {i : Nat} (h : i < l.length) (h2 : roundAt l (i : Int) = true) : tabOk l = false := by
  rcases e : tabOk l with _ | _
  · rfl
  · have := tabOk_round e (n := (i : Int)) (by omega) (by omega)
    rw [h2] at this; cases this

theorem tabOk_tno {l : List Ty} (h : tysOk l = false) : tabOk l = false := by simp only [tabOk, h, Bool.false_and]

/-- loop.example/g00837/impl.isTable -/
def m79 : MC :=
  (.seq
   (.reg [⟨(some 2), none, .a (.asg (.c (.bool false)))⟩])
   (.seq
    (.seq
     (.reg [⟨(some 4), none, .q (.mov (.t 0))⟩,
       ⟨(some 5), none, .a (.call (.fn 108) false [.lend (.t 4)])⟩,
       ⟨(some 6), none, .q (.un .not (.t 5))⟩])
     (.cond (.t 6)
      (.seq
       (.reg [⟨(some 2), none, .a (.asg (.c (.bool false)))⟩])
       .ret)
      .skip))
    (.seq
     (.seq
      (.reg [⟨(some 7), none, .q (.mov (.t 0))⟩,
        ⟨(some 8), none, .q (.len false (.t 7))⟩,
        ⟨(some 9), none, .q (.mov (.c (.int .i64 0)))⟩])
      (.block 0
       (.loop [0, 8, 9]
        (.seq
         (.reg [⟨(some 10), none, .q (.bin false .lss (.t 9) (.t 8))⟩])
         (.seq
          (.cond (.t 10)
           .skip
           (.exit 0))
          (.seq
           (.block 1
            (.seq
             (.reg [⟨(some 11), none, .q (.mov (.t 9))⟩,
               ⟨(some 3), none, .a (.asg (.t 11))⟩])
             (.seq
              (.reg [⟨(some 12), none, .q (.mov (.t 0))⟩,
                ⟨(some 13), none, .q (.mov (.t 3))⟩,
                ⟨(some 14), none, .a (.call (.fn 109) false [.lend (.t 12), .lend (.t 13)])⟩])
              (.cond (.t 14)
               (.seq
                (.reg [⟨(some 2), none, .a (.asg (.c (.bool false)))⟩])
                .ret)
               .skip))))
           (.reg [⟨(some 15), none, .q (.bin false .add (.t 9) (.c (.int .i64 1)))⟩,
             ⟨(some 9), none, .q (.mov (.t 15))⟩])))))))
     (.seq
      (.reg [⟨(some 2), none, .a (.asg (.c (.bool true)))⟩])
      .ret))))

set_option maxRecDepth 100000 in
theorem d79 (l : List Ty) (hl : (l.length : Int) ≤ 1048576) (hs : ∀ s ∈ l, s.sm) : Does Go.Proofs.Try.prog 79 [.fsl 6 (l.map Ty.z)] false (.v (.bool (tabOk l))) [.dead] := by
  refine does_intro (mc := m79) (N := 16) (rs := [2]) (fx := []) 1 rfl (by decide +kernel) ?_
  simp only [m79, EV, Nat.reduceEqDiff, Nat.reduceBEq, Nat.reduceLT, Nat.reduceLeDiff, Nat.reduceAdd, Nat.reduceSub, reduceIte]
  refine callK_i (d108 l hl hs) ?_
  simp only [EV, Nat.reduceEqDiff, Nat.reduceBEq, Nat.reduceLT, Nat.reduceLeDiff, Nat.reduceAdd, Nat.reduceSub, reduceIte]
  rcases ht : tysOk l with _ | _
  · have e : tabOk l = false := tabOk_tno ht
    simp only [Bool.not_false, EV, Nat.reduceEqDiff, Nat.reduceBEq, Nat.reduceLT, Nat.reduceLeDiff, Nat.reduceAdd, Nat.reduceSub, reduceIte]
    simp only [e, EV, Nat.reduceEqDiff, Nat.reduceBEq, Nat.reduceLT, Nat.reduceLeDiff, Nat.reduceAdd, Nat.reduceSub, reduceIte, evRE, retVC, cellV', evR, nfz, nfzs, nfzss, List.contains_nil, List.contains_cons, Bool.or_false, or_true]
  simp only [Bool.not_true, EV, Nat.reduceEqDiff, Nat.reduceBEq, Nat.reduceLT, Nat.reduceLeDiff, Nat.reduceAdd, Nat.reduceSub, reduceIte]
  refine awp_loop (fun i : Nat => i ≤ l.length ∧ noRd l i) (fun i => stl [(0, .fsl 6 (l.map Ty.z)), (8, .v (.int .i64 (l.length : Int))), (9, .v (.int .i64 (i : Int)))]) (fun i => l.length - i) 0 ⟨Nat.zero_le _, fun j h => absurd h (by omega)⟩ ?_ ?_
  · simp only [EV, Nat.reduceEqDiff, Nat.reduceBEq, Nat.reduceLT, Nat.reduceLeDiff, Nat.reduceAdd, Nat.reduceSub, reduceIte]
    rfl
  · rintro i ⟨hi, hno⟩
    simp only [EV, Nat.reduceEqDiff, Nat.reduceBEq, Nat.reduceLT, Nat.reduceLeDiff, Nat.reduceAdd, Nat.reduceSub, reduceIte]
    refine cK_cut (fun h => ?_) (fun h => ?_)
    · have h1 : i < l.length := by simpa using h
      simp only [EV, Nat.reduceEqDiff, Nat.reduceBEq, Nat.reduceLT, Nat.reduceLeDiff, Nat.reduceAdd, Nat.reduceSub, reduceIte]
      refine callK_i (d109 l (i : Int) hl hs ht (by omega) (by omega)) ?_
      simp only [EV, Nat.reduceEqDiff, Nat.reduceBEq, Nat.reduceLT, Nat.reduceLeDiff, Nat.reduceAdd, Nat.reduceSub, reduceIte]
      rcases e1 : roundAt l (i : Int) with _ | _
      · simp only [EV, Nat.reduceEqDiff, Nat.reduceBEq, Nat.reduceLT, Nat.reduceLeDiff, Nat.reduceAdd, Nat.reduceSub, reduceIte]
        rw [w64 _ (by omega)]
        refine ⟨i + 1, ⟨h1, fun j hj => ?_⟩, by omega, rfl⟩
        by_cases e : j = i
        · subst e; exact e1
        · exact hno j (by omega)
      · have e : tabOk l = false := tabOk_no h1 e1
        simp only [EV, Nat.reduceEqDiff, Nat.reduceBEq, Nat.reduceLT, Nat.reduceLeDiff, Nat.reduceAdd, Nat.reduceSub, reduceIte]
        simp only [e, EV, Nat.reduceEqDiff, Nat.reduceBEq, Nat.reduceLT, Nat.reduceLeDiff, Nat.reduceAdd, Nat.reduceSub, reduceIte, evRE, retVC, cellV', evR, nfz, nfzs, nfzss, List.contains_nil, List.contains_cons, Bool.or_false, or_true]
    · have h1 : i = l.length := by have : ¬ (i : Int) < l.length := by simpa using h
                                   omega
      subst h1
      have e : tabOk l = true := tabOk_yes ht hno
      simp only [EV, Nat.reduceEqDiff, Nat.reduceBEq, Nat.reduceLT, Nat.reduceLeDiff, Nat.reduceAdd, Nat.reduceSub, reduceIte]
      simp only [e, EV, Nat.reduceEqDiff, Nat.reduceBEq, Nat.reduceLT, Nat.reduceLeDiff, Nat.reduceAdd, Nat.reduceSub, reduceIte, evRE, retVC, cellV', evR, nfz, nfzs, nfzss, List.contains_nil, List.contains_cons, Bool.or_false, or_true]

/-- loop.example/g00837/spec.l3Good -/
def m82 : MC :=
  (.seq
   (.reg [⟨(some 2), none, .a (.asg (.c (.bool false)))⟩])
   (.seq
    (.seq
     (.reg [⟨(some 4), none, .q (.mov (.t 0))⟩,
       ⟨(some 5), none, .a (.call (.fn 110) false [.lend (.t 4)])⟩,
       ⟨(some 6), none, .q (.un .not (.t 5))⟩])
     (.cond (.t 6)
      (.seq
       (.reg [⟨(some 2), none, .a (.asg (.c (.bool false)))⟩])
       .ret)
      .skip))
    (.seq
     (.seq
      (.reg [⟨(some 7), none, .q (.mov (.t 0))⟩,
        ⟨(some 8), none, .q (.len false (.t 7))⟩,
        ⟨(some 9), none, .q (.mov (.c (.int .i64 0)))⟩])
      (.block 0
       (.loop [0, 8, 9]
        (.seq
         (.reg [⟨(some 10), none, .q (.bin false .lss (.t 9) (.t 8))⟩])
         (.seq
          (.cond (.t 10)
           .skip
           (.exit 0))
          (.seq
           (.block 1
            (.seq
             (.reg [⟨(some 11), none, .q (.mov (.t 9))⟩,
               ⟨(some 3), none, .a (.asg (.t 11))⟩])
             (.seq
              (.reg [⟨(some 12), none, .q (.mov (.t 0))⟩,
                ⟨(some 13), none, .q (.mov (.t 3))⟩,
                ⟨(some 14), none, .a (.call (.fn 111) false [.lend (.t 12), .lend (.t 13)])⟩])
              (.cond (.t 14)
               (.seq
                (.reg [⟨(some 2), none, .a (.asg (.c (.bool false)))⟩])
                .ret)
               .skip))))
           (.reg [⟨(some 15), none, .q (.bin false .add (.t 9) (.c (.int .i64 1)))⟩,
             ⟨(some 9), none, .q (.mov (.t 15))⟩])))))))
     (.seq
      (.reg [⟨(some 2), none, .a (.asg (.c (.bool true)))⟩])
      .ret))))

set_option maxRecDepth 100000 in
theorem d82 (l : List Ty) (hl : (l.length : Int) ≤ 1048576) (hs : ∀ s ∈ l, s.sm) : Does Go.Proofs.Try.prog 82 [.fsl 6 (l.map Ty.z)] false (.v (.bool (tabOk l))) [.dead] := by
  refine does_intro (mc := m82) (N := 16) (rs := [2]) (fx := []) 1 rfl (by decide +kernel) ?_
  simp only [m82, EV, Nat.reduceEqDiff, Nat.reduceBEq, Nat.reduceLT, Nat.reduceLeDiff, Nat.reduceAdd, Nat.reduceSub, reduceIte]
  refine callK_i (d110 l hl hs) ?_
  simp only [EV, Nat.reduceEqDiff, Nat.reduceBEq, Nat.reduceLT, Nat.reduceLeDiff, Nat.reduceAdd, Nat.reduceSub, reduceIte]
  rcases ht : tysOk l with _ | _
  · have e : tabOk l = false := tabOk_tno ht
    simp only [Bool.not_false, EV, Nat.reduceEqDiff, Nat.reduceBEq, Nat.reduceLT, Nat.reduceLeDiff, Nat.reduceAdd, Nat.reduceSub, reduceIte]
    simp only [e, EV, Nat.reduceEqDiff, Nat.reduceBEq, Nat.reduceLT, Nat.reduceLeDiff, Nat.reduceAdd, Nat.reduceSub, reduceIte, evRE, retVC, cellV', evR, nfz, nfzs, nfzss, List.contains_nil, List.contains_cons, Bool.or_false, or_true]
  simp only [Bool.not_true, EV, Nat.reduceEqDiff, Nat.reduceBEq, Nat.reduceLT, Nat.reduceLeDiff, Nat.reduceAdd, Nat.reduceSub, reduceIte]
  refine awp_loop (fun i : Nat => i ≤ l.length ∧ noRd l i) (fun i => stl [(0, .fsl 6 (l.map Ty.z)), (8, .v (.int .i64 (l.length : Int))), (9, .v (.int .i64 (i : Int)))]) (fun i => l.length - i) 0 ⟨Nat.zero_le _, fun j h => absurd h (by omega)⟩ ?_ ?_
  · simp only [EV, Nat.reduceEqDiff, Nat.reduceBEq, Nat.reduceLT, Nat.reduceLeDiff, Nat.reduceAdd, Nat.reduceSub, reduceIte]
    rfl
  · rintro i ⟨hi, hno⟩
    simp only [EV, Nat.reduceEqDiff, Nat.reduceBEq, Nat.reduceLT, Nat.reduceLeDiff, Nat.reduceAdd, Nat.reduceSub, reduceIte]
    refine cK_cut (fun h => ?_) (fun h => ?_)
    · have h1 : i < l.length := by simpa using h
      simp only [EV, Nat.reduceEqDiff, Nat.reduceBEq, Nat.reduceLT, Nat.reduceLeDiff, Nat.reduceAdd, Nat.reduceSub, reduceIte]
      refine callK_i (d111 l (i : Int) hl hs ht (by omega) (by omega)) ?_
      simp only [EV, Nat.reduceEqDiff, Nat.reduceBEq, Nat.reduceLT, Nat.reduceLeDiff, Nat.reduceAdd, Nat.reduceSub, reduceIte]
      rcases e1 : roundAt l (i : Int) with _ | _
      · simp only [EV, Nat.reduceEqDiff, Nat.reduceBEq, Nat.reduceLT, Nat.reduceLeDiff, Nat.reduceAdd, Nat.reduceSub, reduceIte]
        rw [w64 _ (by omega)]
        refine ⟨i + 1, ⟨h1, fun j hj => ?_⟩, by omega, rfl⟩
        by_cases e : j = i
        · subst e; exact e1
        · exact hno j (by omega)
      · have e : tabOk l = false := tabOk_no h1 e1
        simp only [EV, Nat.reduceEqDiff, Nat.reduceBEq, Nat.reduceLT, Nat.reduceLeDiff, Nat.reduceAdd, Nat.reduceSub, reduceIte]
        simp only [e, EV, Nat.reduceEqDiff, Nat.reduceBEq, Nat.reduceLT, Nat.reduceLeDiff, Nat.reduceAdd, Nat.reduceSub, reduceIte, evRE, retVC, cellV', evR, nfz, nfzs, nfzss, List.contains_nil, List.contains_cons, Bool.or_false, or_true]
    · have h1 : i = l.length := by have : ¬ (i : Int) < l.length := by simpa using h
                                   omega
      subst h1
      have e : tabOk l = true := tabOk_yes ht hno
      simp only [EV, Nat.reduceEqDiff, Nat.reduceBEq, Nat.reduceLT, Nat.reduceLeDiff, Nat.reduceAdd, Nat.reduceSub, reduceIte]
      simp only [e, EV, Nat.reduceEqDiff, Nat.reduceBEq, Nat.reduceLT, Nat.reduceLeDiff, Nat.reduceAdd, Nat.reduceSub, reduceIte, evRE, retVC, cellV', evR, nfz, nfzs, nfzss, List.contains_nil, List.contains_cons, Bool.or_false, or_true]

end Go.AM
namespace Go.AM
set_option linter.unusedVariables false
set_option linter.unusedSimpArgs false
def baseAt (l : List Ty) (n : Int) : Int := match l[n.toNat]? with
  | some t => t.base
  | none => -1

theorem baseAt_eq {l : List Ty} {n : Int} (h : n.toNat < l.length) : baseAt l n = l[n.toNat].base := by simp [baseAt, h]

def chainF (l : List Ty) : Nat → Int → List Int
  | 0, _ => []
  | f + 1, n => if n < 0 then [] else n :: chainF l f (baseAt l n)

def lineL (l : List Ty) (n : Int) : List Int := chainF l (l.length + 1) n

/-- An end or a record. -/
def isL (l : List Ty) (n : Int) : Prop := n < 0 ∨ isRec l n = true

theorem isRec_in {l : List Ty} {n : Int} (h : isRec l n = true) : 0 ≤ n ∧ n < (l.length : Int) ∧ ∃ hn : n.toNat < l.length, l[n.toNat].kind = 5 := by
  simp only [isRec, Bool.and_eq_true, beq_iff_eq] at h
  obtain ⟨h0, h1, hn, hk⟩ := isNum_lt h.1
  exact ⟨h0, h1, hn, by rw [← hk]; exact h.2⟩

theorem isRec_base {l : List Ty} (ht : tysOk l = true) {n : Int} (h : isRec l n = true) : isL l (baseAt l n) ∧ (0 ≤ baseAt l n → baseAt l n ∈ kids l false n) := by
  obtain ⟨h0, h1, hn, hk⟩ := isRec_in h
  have G := tysOk_good ht hn
  rw [baseAt_eq hn]
  refine ⟨(G.rec5 hk).elim (fun e => .inl (by omega)) .inr, fun hb => ?_⟩
  rw [kids_at hn]
  have e6 : (l[n.toNat].kind == 6) = false := by rw [hk]; rfl
  simp only [prt, e6, hb, decide_true, Bool.not_false, Bool.or_true, Bool.and_self, if_true, List.mem_append, List.mem_singleton, true_or]

theorem rk_le (l : List Ty) (n : Int) : rk l n ≤ l.length := by
  unfold rk reachL
  refine Nat.le_trans (List.length_filter_le _ _) ?_
  simp

theorem chainF_irr {l : List Ty} (ht : tabOk l = true) : ∀ (f f' : Nat) (n : Int), isL l n → rk l n < f → rk l n < f' → chainF l f n = chainF l f' n
  | 0, _, n, _, h, _ => absurd h (by omega)
  | f + 1, 0, n, _, _, h => absurd h (by omega)
  | f + 1, f' + 1, n, hn, h, h' => by
    unfold chainF
    by_cases h0 : n < 0
    · rw [if_pos h0, if_pos h0]
    · rw [if_neg h0, if_neg h0]
      have hr : isRec l n = true := hn.resolve_left h0
      obtain ⟨b1, b2⟩ := isRec_base (tabOk_tys ht) hr
      obtain ⟨g0, g1, _⟩ := isRec_in hr
      by_cases hb : baseAt l n < 0
      · have e : ∀ g, chainF l g (baseAt l n) = [] := by
          intro g; cases g with
          | zero => rfl
          | succ g => unfold chainF; rw [if_pos hb]
        rw [e, e]
      · have hlt := rk_lt ht g0 g1 (b2 (by omega))
        rw [chainF_irr ht f f' (baseAt l n) b1 (by omega) (by omega)]

theorem lineL_neg {l : List Ty} {n : Int} (h : n < 0) : lineL l n = [] := by unfold lineL chainF; rw [if_pos h]

theorem lineL_rec {l : List Ty} (ht : tabOk l = true) {n : Int} (h : isRec l n = true) : lineL l n = n :: lineL l (baseAt l n) := by
  obtain ⟨b1, b2⟩ := isRec_base (tabOk_tys ht) h
  obtain ⟨g0, g1, _⟩ := isRec_in h
  unfold lineL
  rw [chainF]
  rw [if_neg (by omega)]
  by_cases hb : baseAt l n < 0
  · have e : ∀ g, chainF l g (baseAt l n) = [] := by
      intro g; cases g with
      | zero => rfl
      | succ g => unfold chainF; rw [if_pos hb]
    rw [e, e]
  · have hlt := rk_lt ht g0 g1 (b2 (by omega))
    have := rk_le l n
    rw [chainF_irr ht l.length (l.length + 1) _ b1 (by omega) (by omega)]

theorem lineL_in {l : List Ty} (ht : tabOk l = true) : ∀ (f : Nat) (n : Int), isL l n → ∀ k ∈ chainF l f n, isRec l k = true
  | 0, n, _, k, hk => by simp [chainF] at hk
  | f + 1, n, hn, k, hk => by
    unfold chainF at hk
    by_cases h0 : n < 0
    · rw [if_pos h0] at hk; simp at hk
    · rw [if_neg h0] at hk
      have hr : isRec l n = true := hn.resolve_left h0
      rcases List.mem_cons.1 hk with rfl | hk
      · exact hr
      · exact lineL_in ht f _ (isRec_base (tabOk_tys ht) hr).1 k hk

theorem chainF_len (l : List Ty) : ∀ (f : Nat) (n : Int), (chainF l f n).length ≤ f
  | 0, n => by simp [chainF]
  | f + 1, n => by
    unfold chainF
    split
    · simp
    · have := chainF_len l f (baseAt l n)
      simp; omega

theorem lineL_len (l : List Ty) (n : Int) : (lineL l n).length ≤ l.length + 1 := chainF_len _ _ _

theorem tabOk_len {l : List Ty} (h : tabOk l = true) : l.length ≤ 24 := (tysOk_len (tabOk_tys h)).2

noncomputable def recOk (l : List Ty) (n : Int) : Bool := tabOk l && isRec l n

/-- loop.example/g00837/impl.areRecords -/
def m73 : MC :=
  (.seq
   (.reg [⟨(some 4), none, .a (.asg (.c (.bool false)))⟩])
   (.seq
    (.reg [⟨(some 5), none, .q (.mov (.t 0))⟩,
      ⟨(some 6), none, .a (.call (.fn 79) false [.lend (.t 5)])⟩,
      ⟨(some 7), none, .q (.mov (.t 6))⟩,
      ⟨(some 8), (some (7, true)), .q (.mov (.t 0))⟩,
      ⟨(some 9), (some (7, true)), .q (.mov (.t 1))⟩,
      ⟨(some 10), (some (7, true)), .a (.call (.fn 98) false [.lend (.t 8), .lend (.t 9)])⟩,
      ⟨(some 11), none, .q (.pick (.t 7) (.t 10) (.c (.bool false)))⟩,
      ⟨(some 4), none, .a (.asg (.t 11))⟩])
    .ret))

theorem d73 (l : List Ty) (n : Int) (hl : (l.length : Int) ≤ 1048576) (hs : ∀ s ∈ l, s.sm) : Does Go.Proofs.Try.prog 73 [.fsl 6 (l.map Ty.z), .v (.int .i64 n)] false (.v (.bool (recOk l n))) [.dead, .dead] := by
  refine does_intro (mc := m73) (N := 12) (rs := [4]) (fx := []) 2 rfl (by decide +kernel) ?_
  simp only [m73, EV, Nat.reduceEqDiff, Nat.reduceBEq, Nat.reduceLT, Nat.reduceLeDiff, Nat.reduceAdd, Nat.reduceSub, reduceIte]
  refine callK_i (d79 l hl hs) ?_
  simp only [EV, Nat.reduceEqDiff, Nat.reduceBEq, Nat.reduceLT, Nat.reduceLeDiff, Nat.reduceAdd, Nat.reduceSub, reduceIte]
  rcases e : tabOk l with _ | _
  · simp only [EV, Nat.reduceEqDiff, Nat.reduceBEq, Nat.reduceLT, Nat.reduceLeDiff, Nat.reduceAdd, Nat.reduceSub, reduceIte]
    simp only [recOk, e, Bool.false_and, EV, Nat.reduceEqDiff, Nat.reduceBEq, Nat.reduceLT, Nat.reduceLeDiff, Nat.reduceAdd, Nat.reduceSub, reduceIte, evRE, retVC, cellV', evR, nfz, nfzs, nfzss, List.contains_nil, List.contains_cons, Bool.or_false, or_true]
  · simp only [EV, Nat.reduceEqDiff, Nat.reduceBEq, Nat.reduceLT, Nat.reduceLeDiff, Nat.reduceAdd, Nat.reduceSub, reduceIte]
    refine callK_i (d98 l n hl) ?_
    simp only [EV, Nat.reduceEqDiff, Nat.reduceBEq, Nat.reduceLT, Nat.reduceLeDiff, Nat.reduceAdd, Nat.reduceSub, reduceIte]
    simp only [recOk, e, Bool.true_and, EV, Nat.reduceEqDiff, Nat.reduceBEq, Nat.reduceLT, Nat.reduceLeDiff, Nat.reduceAdd, Nat.reduceSub, reduceIte, evRE, retVC, cellV', evR, nfz, nfzs, nfzss, List.contains_nil, List.contains_cons, Bool.or_false, or_true]

/-- loop.example/g00837/spec.l10Record -/
def m71 : MC :=
  (.seq
   (.reg [⟨(some 4), none, .a (.asg (.c (.bool false)))⟩])
   (.seq
    (.reg [⟨(some 5), none, .q (.mov (.t 0))⟩,
      ⟨(some 6), none, .a (.call (.fn 82) false [.lend (.t 5)])⟩,
      ⟨(some 7), none, .q (.mov (.t 6))⟩,
      ⟨(some 8), (some (7, true)), .q (.mov (.t 0))⟩,
      ⟨(some 9), (some (7, true)), .q (.mov (.t 1))⟩,
      ⟨(some 10), (some (7, true)), .a (.call (.fn 100) false [.lend (.t 8), .lend (.t 9), .lend (.c (.int .i64 5)), .lend (.c (.int .i64 5))])⟩,
      ⟨(some 11), none, .q (.pick (.t 7) (.t 10) (.c (.bool false)))⟩,
      ⟨(some 4), none, .a (.asg (.t 11))⟩])
    .ret))

theorem d71 (l : List Ty) (n : Int) (hl : (l.length : Int) ≤ 1048576) (hs : ∀ s ∈ l, s.sm) : Does Go.Proofs.Try.prog 71 [.fsl 6 (l.map Ty.z), .v (.int .i64 n)] false (.v (.bool (recOk l n))) [.dead, .dead] := by
  refine does_intro (mc := m71) (N := 12) (rs := [4]) (fx := []) 2 rfl (by decide +kernel) ?_
  simp only [m71, EV, Nat.reduceEqDiff, Nat.reduceBEq, Nat.reduceLT, Nat.reduceLeDiff, Nat.reduceAdd, Nat.reduceSub, reduceIte]
  refine callK_i (d82 l hl hs) ?_
  simp only [EV, Nat.reduceEqDiff, Nat.reduceBEq, Nat.reduceLT, Nat.reduceLeDiff, Nat.reduceAdd, Nat.reduceSub, reduceIte]
  rcases e : tabOk l with _ | _
  · simp only [EV, Nat.reduceEqDiff, Nat.reduceBEq, Nat.reduceLT, Nat.reduceLeDiff, Nat.reduceAdd, Nat.reduceSub, reduceIte]
    simp only [recOk, e, Bool.false_and, EV, Nat.reduceEqDiff, Nat.reduceBEq, Nat.reduceLT, Nat.reduceLeDiff, Nat.reduceAdd, Nat.reduceSub, reduceIte, evRE, retVC, cellV', evR, nfz, nfzs, nfzss, List.contains_nil, List.contains_cons, Bool.or_false, or_true]
  · simp only [EV, Nat.reduceEqDiff, Nat.reduceBEq, Nat.reduceLT, Nat.reduceLeDiff, Nat.reduceAdd, Nat.reduceSub, reduceIte]
    refine callK_i (d100 l n 5 5 hl) ?_
    rw [kindIn_same]
    simp only [EV, Nat.reduceEqDiff, Nat.reduceBEq, Nat.reduceLT, Nat.reduceLeDiff, Nat.reduceAdd, Nat.reduceSub, reduceIte]
    have e2 : (isNum l n && kd l n == 5) = isRec l n := rfl
    simp only [recOk, e, e2, Bool.true_and, EV, Nat.reduceEqDiff, Nat.reduceBEq, Nat.reduceLT, Nat.reduceLeDiff, Nat.reduceAdd, Nat.reduceSub, reduceIte, evRE, retVC, cellV', evR, nfz, nfzs, nfzss, List.contains_nil, List.contains_cons, Bool.or_false, or_true]

/-- loop.example/g00837/impl.line -/
def m74 : MC :=
  (.seq
   (.reg [⟨(some 4), none, .a (.asg (.nils 3 1))⟩])
   (.seq
    (.reg [⟨(some 6), none, .a (.bsl 3 1 [])⟩,
      ⟨(some 5), none, .a (.asg (.t 6))⟩])
    (.seq
     (.block 0
      (.loop [0, 1, 5, 6, 17]
       (.seq
        (.seq
         (.reg [⟨(some 7), none, .q (.mov (.t 1))⟩,
           ⟨(some 8), none, .q (.bin false .geq (.t 7) (.c (.int .i64 0)))⟩])
         (.cond (.t 8)
          .skip
          (.exit 0)))
        (.seq
         (.block 1
          (.reg [⟨(some 14), none, .q (.mov (.t 5))⟩,
            ⟨(some 15), none, .q (.mov (.t 1))⟩,
            ⟨(some 16), none, .a (.bsl 3 1 [.t 15])⟩,
            ⟨(some 17), none, .a (.app true 3 1 8 (.t 14) (.t 16))⟩,
            ⟨(some 5), none, .a (.asg (.t 17))⟩]))
         (.reg [⟨(some 9), none, .q (.mov (.t 0))⟩,
           ⟨(some 10), none, .q (.mov (.t 1))⟩,
           ⟨(some 11), none, .q (.iad 6 (.t 9) (.t 10))⟩,
           ⟨(some 12), none, .q (.fad 2 (.t 11))⟩,
           ⟨(some 13), none, .q (.load false 1 (.t 12))⟩,
           ⟨(some 1), none, .a (.asg (.t 13))⟩])))))
     (.seq
      (.reg [⟨(some 18), none, .q (.mov (.t 5))⟩,
        ⟨(some 4), none, .a (.asg (.t 18))⟩])
      .ret))))

set_option maxRecDepth 100000 in
theorem d74 (l : List Ty) (n0 : Int) (hl : (l.length : Int) ≤ 1048576) (ht : tabOk l = true) (h0 : isL l n0) : Does Go.Proofs.Try.prog 74 [.fsl 6 (l.map Ty.z), .v (.int .i64 n0)] false (.usl 3 1 ((lineL l n0).map iv)) [.dead, .dead] := by
  refine does_intro (mc := m74) (N := 19) (rs := [4]) (fx := []) 2 rfl (by decide +kernel) ?_
  simp only [m74, EV, Nat.reduceEqDiff, Nat.reduceBEq, Nat.reduceLT, Nat.reduceLeDiff, Nat.reduceAdd, Nat.reduceSub, reduceIte]
  refine awp_loop (fun p : List Int × Int => isL l p.2 ∧ lineL l n0 = p.1 ++ lineL l p.2) (fun p => stl [(0, .fsl 6 (l.map Ty.z)), (1, .v (.int .i64 p.2)), (5, .usl 3 1 (p.1.map iv)), (6, .dead), (17, .dead)]) (fun p => (lineL l p.2).length) ([], n0) ⟨h0, rfl⟩ ?_ ?_
  · simp only [EV, Nat.reduceEqDiff, Nat.reduceBEq, Nat.reduceLT, Nat.reduceLeDiff, Nat.reduceAdd, Nat.reduceSub, reduceIte]
  · rintro ⟨out, n⟩ ⟨hn, he⟩
    simp only at hn he
    simp only [EV, Nat.reduceEqDiff, Nat.reduceBEq, Nat.reduceLT, Nat.reduceLeDiff, Nat.reduceAdd, Nat.reduceSub, reduceIte]
    refine cK_cut (fun h => ?_) (fun h => ?_)
    · have hr : isRec l n = true := hn.resolve_left (by have : 0 ≤ n := by simpa using h
                                                        omega)
      obtain ⟨g0, g1, gn, _⟩ := isRec_in hr
      have hle := lineL_len l n0
      have h24 := tabOk_len ht
      rw [he, List.length_append] at hle
      have hlr := lineL_rec ht hr
      have hb := (isRec_base (tabOk_tys ht) hr).1
      rw [hlr] at he
      clear h
      simp only [g0, g1, nth_map gn, iv, Ty.z, EV, Nat.reduceEqDiff, Nat.reduceBEq, Nat.reduceLT, Nat.reduceLeDiff, Nat.reduceAdd, Nat.reduceSub, reduceIte]
      refine ⟨by omega, by omega, (out ++ [n], baseAt l n), ⟨hb, by rw [he]; simp⟩, by simp only; rw [hlr]; simp, ?_⟩
      rw [List.map_append, baseAt_eq gn]
      rfl
    · have hneg : n < 0 := by have : ¬ 0 ≤ n := by simpa using h
                              omega
      rw [lineL_neg hneg, List.append_nil] at he
      subst he
      simp only [EV, Nat.reduceEqDiff, Nat.reduceBEq, Nat.reduceLT, Nat.reduceLeDiff, Nat.reduceAdd, Nat.reduceSub, reduceIte]
      simp only [iv_nfz, EV, Nat.reduceEqDiff, Nat.reduceBEq, Nat.reduceLT, Nat.reduceLeDiff, Nat.reduceAdd, Nat.reduceSub, reduceIte, evRE, retVC, cellV', evR, nfz, nfzs, nfzss, List.contains_nil, List.contains_cons, Bool.or_false, or_true]

end Go.AM
namespace Go.AM
set_option linter.unusedVariables false
set_option linter.unusedSimpArgs false
/-- A byte as a row of one cell. -/
def bv (n : Int) : List AV := [.v (.int .u8 n)]

structure Cur where
  code : List Int
  pos : Int
  seed : Int

def Cur.z (c : Cur) : List AV := [.fsl 1 (c.code.map bv), .v (.int .i64 c.pos), .v (.int .u64 c.seed)]

def Cur.ok (c : Cur) (n : Int) : Prop := (c.code.length : Int) ≤ 1048576 ∧ (∀ b ∈ c.code, 0 ≤ b ∧ b ≤ 255) ∧ 0 ≤ c.pos ∧ c.pos ≤ n

theorem Cur.ok.up {c : Cur} {n m : Int} (h : c.ok n) (hm : n ≤ m) : c.ok m := ⟨h.1, h.2.1, h.2.2.1, by have := h.2.2.2; omega⟩

/-- A call that draws a number: told by what it says of the number and of the rest. -/
def Draws (f : Nat) (args : List AV) (c : Cur) (n m : Int) (Q : AV → Prop) : Prop :=
  DoesE Go.Proofs.Try.prog f (.box 115 c.z :: args) false fun r o => ∃ c' : Cur, o = .box 115 c'.z :: args.map (fun _ => AV.dead) ∧ c'.ok (n + m) ∧ Q r

theorem Draws.call {f : Nat} {args : List AV} {c : Cur} {n m : Int} {Q : AV → Prop} (h : Draws f args c n m Q) {O : AV → List AV} (hO : ∀ out, O out = out :: args.map fun _ => AV.dead) {S : AV → AV → Prop}
    (k : ∀ (r : AV) (c' : Cur), c'.ok (n + m) → Q r → S (.box 115 c'.z) r) : callK2 Go.Proofs.Try.prog f (.box 115 c.z :: args) false O (.box 115 c.z) S := by
  refine callE2_i (T := fun r out => ∃ c' : Cur, out = .box 115 c'.z ∧ c'.ok (n + m) ∧ Q r) h ?_ ?_
  · rintro r o ⟨c', rfl, h1, h2⟩
    exact ⟨.box 115 c'.z, ⟨c', rfl, h1, h2⟩, (hO _).symm⟩
  · rintro r out ⟨c', rfl, h1, h2⟩
    exact ⟨rfl, rfl, k r c' h1 h2⟩

end Go.AM
namespace Go.AM
set_option linter.unusedVariables false
set_option linter.unusedSimpArgs false
/-- What is drawn: small, and a pointer leads to a type. -/
structure TyD (n : Int) (t : Ty) : Prop where
  few : t.fields.length ≤ 3
  names : ∀ f ∈ t.fields, (f.name.size : Int) ≤ 40
  owner : (t.owner.size : Int) ≤ 40
  name : (t.name.size : Int) ≤ 40
  ptr : t.kind = 6 → 0 ≤ t.base ∧ t.base < n

theorem TyD.sm {n : Int} {t : Ty} (h : TyD n t) : t.sm := by
  have := h.few; have h2 := h.owner; have h3 := h.name
  exact ⟨trivial, trivial, trivial, ⟨by omega, fun f hf => ⟨by have := h.names f hf; omega, trivial, trivial⟩⟩, by omega, by omega⟩

theorem TyD.put {n : Int} {t : Ty} (h : TyD n t) {o m : ByteArray} (h1 : (o.size : Int) ≤ 40) (h2 : (m.size : Int) ≤ 40) : TyD n { t with owner := o, name := m } := ⟨h.few, h.names, h1, h2, h.ptr⟩

end Go.AM
namespace Go.AM
set_option linter.unusedVariables false
set_option linter.unusedSimpArgs false
def fdsAt (l : List Ty) (n : Int) : List Fd := match l[n.toNat]? with
  | some t => t.fields
  | none => []

theorem fdsAt_eq {l : List Ty} {n : Int} (h : n.toNat < l.length) : fdsAt l n = l[n.toNat].fields := by simp [fdsAt, h]

def allL (l : List Ty) : List Int → List Fd
  | [] => []
  | n :: ns => allL l ns ++ fdsAt l n

def allF (l : List Ty) (n : Int) : List Fd := allL l (lineL l n)

theorem fdsAt_len {l : List Ty} (ht : tysOk l = true) (n : Int) : (fdsAt l n).length ≤ 6 := by
  unfold fdsAt
  split
  · rename_i t h
    obtain ⟨hn, rfl⟩ := List.getElem?_eq_some_iff.1 h
    exact (tysOk_good ht hn).few
  · simp

theorem allL_len {l : List Ty} (ht : tysOk l = true) : ∀ ns : List Int, (allL l ns).length ≤ 6 * ns.length
  | [] => by simp [allL]
  | n :: ns => by
    have h1 := allL_len ht ns
    have h2 := fdsAt_len ht n
    simp only [allL, List.length_append, List.length_cons]
    omega

theorem allF_len {l : List Ty} (ht : tabOk l = true) (n : Int) : (allF l n).length ≤ 150 := by
  have h1 := allL_len (tabOk_tys ht) (lineL l n)
  have h2 := lineL_len l n
  have h3 := tabOk_len ht
  unfold allF
  omega

theorem allF_neg {l : List Ty} {n : Int} (h : n < 0) : allF l n = [] := by unfold allF; rw [lineL_neg h]; rfl

theorem allF_rec {l : List Ty} (ht : tabOk l = true) {n : Int} (h : isRec l n = true) : allF l n = allF l (baseAt l n) ++ fdsAt l n := by
  unfold allF; rw [lineL_rec ht h]; rfl

theorem fdsAt_sm {l : List Ty} (hs : ∀ s ∈ l, s.sm) (n : Int) : ∀ f ∈ fdsAt l n, f.sm := by
  intro f hf
  unfold fdsAt at hf
  split at hf
  · rename_i t h
    obtain ⟨hn, rfl⟩ := List.getElem?_eq_some_iff.1 h
    have := hs _ (List.getElem_mem hn)
    unfold Ty.sm at this
    exact this.2.2.2.1.2 f hf
  · simp at hf

theorem allL_sm {l : List Ty} (hs : ∀ s ∈ l, s.sm) : ∀ (ns : List Int), ∀ f ∈ allL l ns, f.sm
  | [], f, hf => by simp [allL] at hf
  | n :: ns, f, hf => by
    simp only [allL, List.mem_append] at hf
    rcases hf with hf | hf
    · exact allL_sm hs ns f hf
    · exact fdsAt_sm hs n f hf

/-- loop.example/g00837/spec.l10All -/
def m90 : MC :=
  (.seq
   (.reg [⟨(some 4), none, .a (.asg (.nils 57 3))⟩])
   (.seq
    (.seq
     (.reg [⟨(some 5), none, .q (.mov (.t 1))⟩,
       ⟨(some 6), none, .q (.bin false .lss (.t 5) (.c (.int .i64 0)))⟩])
     (.cond (.t 6)
      (.seq
       (.reg [⟨(some 4), none, .a (.asg (.nils 57 3))⟩])
       .ret)
      .skip))
    (.seq
     (.mix [0, 1] [0, 4, 19] [] [0] [1, 2, 3, 4, 5, 7, 8, 9, 10, 11] [0, 6, 12, 13]
       [⟨(some 8), none, .q (.mov (.t 0))⟩,
        ⟨(some 9), none, .q (.mov (.t 1))⟩,
        ⟨(some 10), none, .q (.iad 6 (.t 8) (.t 9))⟩,
        ⟨(some 11), none, .q (.fad 2 (.t 10))⟩,
        ⟨(some 12), none, .q (.load false 1 (.t 11))⟩,
        ⟨(some 14), none, .q (.mov (.t 0))⟩,
        ⟨(some 15), none, .q (.mov (.t 1))⟩,
        ⟨(some 16), none, .q (.iad 6 (.t 14) (.t 15))⟩,
        ⟨(some 17), none, .q (.fad 3 (.t 16))⟩,
        ⟨(some 18), none, .q (.load false 1 (.t 17))⟩]
       [⟨(some 7), none, .q (.mov (.t 0))⟩,
        ⟨(some 13), none, .a (.call (.fn 90) false [.lend (.t 7), .lend (.t 12)])⟩,
        ⟨(some 19), none, .a (.app false 57 3 32 (.t 13) (.t 18))⟩,
        ⟨(some 4), none, .a (.asg (.t 19))⟩])
     .ret)))

set_option maxRecDepth 100000 in
theorem d90 (l : List Ty) (hl : (l.length : Int) ≤ 1048576) (ht : tabOk l = true) : ∀ (k : Nat) (n : Int), (lineL l n).length < k → isL l n → Does Go.Proofs.Try.prog 90 [.fsl 6 (l.map Ty.z), .v (.int .i64 n)] false (.usl 57 3 ((allF l n).map Fd.o)) [.dead, .dead]
  | 0, n, h, _ => absurd h (by omega)
  | k + 1, n, h, hn => by
    have ih := d90 l hl ht k
    refine does_intro (mc := m90) (N := 20) (rs := [4]) (fx := []) 2 rfl (by decide +kernel) ?_
    simp only [m90, EV, Nat.reduceEqDiff, Nat.reduceBEq, Nat.reduceLT, Nat.reduceLeDiff, Nat.reduceAdd, Nat.reduceSub, reduceIte]
    refine cK_cut (fun h0 => ?_) (fun h0 => ?_)
    · have h1 : n < 0 := by simpa using h0
      simp only [EV, Nat.reduceEqDiff, Nat.reduceBEq, Nat.reduceLT, Nat.reduceLeDiff, Nat.reduceAdd, Nat.reduceSub, reduceIte]
      simp only [allF_neg h1, List.map_nil, EV, Nat.reduceEqDiff, Nat.reduceBEq, Nat.reduceLT, Nat.reduceLeDiff, Nat.reduceAdd, Nat.reduceSub, reduceIte, evRE, retVC, cellV', evR, nfz, nfzs, nfzss, List.contains_nil, List.contains_cons, Bool.or_false, or_true]
    · have h1 : isRec l n = true := hn.resolve_left (by simpa using h0)
      obtain ⟨g0, g1, gn, _⟩ := isRec_in h1
      have hb := (isRec_base (tabOk_tys ht) h1).1
      have hlr := lineL_rec ht h1
      rw [hlr, List.length_cons] at h
      have hc := ih (baseAt l n) (by omega) hb
      have hbe := baseAt_eq gn
      rw [hbe] at hc
      have hal := allF_len ht n
      have har := allF_rec ht h1
      rw [fdsAt_eq gn, hbe] at har
      rw [har] at hal
      clear h0
      simp only [g0, g1, nth_map gn, Ty.z, EV, Nat.reduceEqDiff, Nat.reduceBEq, Nat.reduceLT, Nat.reduceLeDiff, Nat.reduceAdd, Nat.reduceSub, reduceIte]
      refine callK_i hc ?_
      simp only [List.length_append] at hal
      have he : List.map Fd.o (allF l n) = List.map Fd.o (allF l l[n.toNat].base) ++ List.map Fd.z l[n.toNat].fields := by rw [har, List.map_append]; rfl
      simp only [g0, g1, nth_map gn, Ty.z, EV, Nat.reduceEqDiff, Nat.reduceBEq, Nat.reduceLT, Nat.reduceLeDiff, Nat.reduceAdd, Nat.reduceSub, reduceIte]
      refine ⟨.inl trivial, by omega, by omega, ?_⟩
      rw [← he]
      simp only [Fd.nfz, Fd.frz, EV, Nat.reduceEqDiff, Nat.reduceBEq, Nat.reduceLT, Nat.reduceLeDiff, Nat.reduceAdd, Nat.reduceSub, reduceIte, evRE, retVC, cellV', evR, nfz, nfzs, nfzss, List.contains_nil, List.contains_cons, Bool.or_false, or_true]

/-- loop.example/g00837/spec.AllFields -/
def m34 : MC :=
  (.seq
   (.reg [⟨(some 4), none, .a (.asg (.nils 57 3))⟩,
     ⟨(some 5), none, .a (.asg (.c (.bool false)))⟩])
   (.seq
    (.seq
     (.reg [⟨(some 6), none, .q (.mov (.t 0))⟩,
       ⟨(some 7), none, .q (.mov (.t 1))⟩,
       ⟨(some 8), none, .a (.call (.fn 71) false [.lend (.t 6), .lend (.t 7)])⟩,
       ⟨(some 9), none, .q (.un .not (.t 8))⟩])
     (.cond (.t 9)
      (.seq
       (.reg [⟨(some 4), none, .a (.asg (.nils 57 3))⟩,
         ⟨(some 5), none, .a (.asg (.c (.bool false)))⟩])
       .ret)
      .skip))
    (.seq
     (.reg [⟨(some 10), none, .q (.mov (.t 0))⟩,
       ⟨(some 11), none, .q (.mov (.t 1))⟩,
       ⟨(some 12), none, .a (.call (.fn 90) false [.lend (.t 10), .lend (.t 11)])⟩,
       ⟨(some 4), none, .a (.asg (.t 12))⟩,
       ⟨(some 5), none, .a (.asg (.c (.bool true)))⟩])
     .ret)))

set_option maxRecDepth 100000 in
theorem d34 (l : List Ty) (n : Int) (hl : (l.length : Int) ≤ 1048576) (hs : ∀ s ∈ l, s.sm) : Does Go.Proofs.Try.prog 34 [.fsl 6 (l.map Ty.z), .v (.int .i64 n)] false (.tup [.usl 57 3 ((if recOk l n = true then allF l n else []).map Fd.o), .v (.bool (recOk l n))]) [.dead, .dead] := by
  refine does_intro (mc := m34) (N := 13) (rs := [4, 5]) (fx := []) 2 rfl (by decide +kernel) ?_
  simp only [m34, EV, Nat.reduceEqDiff, Nat.reduceBEq, Nat.reduceLT, Nat.reduceLeDiff, Nat.reduceAdd, Nat.reduceSub, reduceIte]
  refine callK_i (d71 l n hl hs) ?_
  simp only [EV, Nat.reduceEqDiff, Nat.reduceBEq, Nat.reduceLT, Nat.reduceLeDiff, Nat.reduceAdd, Nat.reduceSub, reduceIte]
  rcases e : recOk l n with _ | _
  · simp only [Bool.not_false, EV, Nat.reduceEqDiff, Nat.reduceBEq, Nat.reduceLT, Nat.reduceLeDiff, Nat.reduceAdd, Nat.reduceSub, reduceIte]
    simp only [List.map_nil, EV, Nat.reduceEqDiff, Nat.reduceBEq, Nat.reduceLT, Nat.reduceLeDiff, Nat.reduceAdd, Nat.reduceSub, reduceIte, evRE, retVC, cellV', evR, nfz, nfzs, nfzss, List.contains_nil, List.contains_cons, Bool.or_false, or_true]
  · have e' := e
    simp only [recOk, Bool.and_eq_true] at e'
    obtain ⟨ht, hr⟩ := e'
    simp only [Bool.not_true, EV, Nat.reduceEqDiff, Nat.reduceBEq, Nat.reduceLT, Nat.reduceLeDiff, Nat.reduceAdd, Nat.reduceSub, reduceIte]
    refine callK_i (d90 l hl ht _ n (Nat.lt_succ_self _) (.inr hr)) ?_
    simp only [EV, Nat.reduceEqDiff, Nat.reduceBEq, Nat.reduceLT, Nat.reduceLeDiff, Nat.reduceAdd, Nat.reduceSub, reduceIte]
    simp only [Fd.nfz, Fd.frz, EV, Nat.reduceEqDiff, Nat.reduceBEq, Nat.reduceLT, Nat.reduceLeDiff, Nat.reduceAdd, Nat.reduceSub, reduceIte, evRE, retVC, cellV', evR, nfz, nfzs, nfzss, List.contains_nil, List.contains_cons, Bool.or_false, or_true]

/-- loop.example/g00837/impl.AllFields -/
def m35 : MC :=
  (.seq
   (.reg [⟨(some 4), none, .a (.asg (.nils 57 3))⟩,
     ⟨(some 5), none, .a (.asg (.c (.bool false)))⟩])
   (.seq
    (.seq
     (.reg [⟨(some 6), none, .q (.mov (.t 0))⟩,
       ⟨(some 7), none, .q (.mov (.t 1))⟩,
       ⟨(some 8), none, .a (.call (.fn 73) false [.lend (.t 6), .lend (.t 7)])⟩,
       ⟨(some 9), none, .q (.un .not (.t 8))⟩])
     (.cond (.t 9)
      (.seq
       (.reg [⟨(some 4), none, .a (.asg (.nils 57 3))⟩,
         ⟨(some 5), none, .a (.asg (.c (.bool false)))⟩])
       .ret)
      .skip))
    (.seq
     (.reg [⟨(some 10), none, .q (.mov (.t 0))⟩,
       ⟨(some 11), none, .q (.mov (.t 1))⟩,
       ⟨(some 12), none, .a (.call (.fn 91) false [.lend (.t 10), .lend (.t 11)])⟩,
       ⟨(some 4), none, .a (.asg (.t 12))⟩,
       ⟨(some 5), none, .a (.asg (.c (.bool true)))⟩])
     .ret)))

set_option maxRecDepth 100000 in
theorem d35_of (l : List Ty) (n : Int) (hl : (l.length : Int) ≤ 1048576) (hs : ∀ s ∈ l, s.sm)
    (h91 : tabOk l = true → isRec l n = true → Does Go.Proofs.Try.prog 91 [.fsl 6 (l.map Ty.z), .v (.int .i64 n)] false (.usl 57 3 ((allF l n).map Fd.o)) [.dead, .dead]) : Does Go.Proofs.Try.prog 35 [.fsl 6 (l.map Ty.z), .v (.int .i64 n)] false (.tup [.usl 57 3 ((if recOk l n = true then allF l n else []).map Fd.o), .v (.bool (recOk l n))]) [.dead, .dead] := by
  refine does_intro (mc := m35) (N := 13) (rs := [4, 5]) (fx := []) 2 rfl (by decide +kernel) ?_
  simp only [m35, EV, Nat.reduceEqDiff, Nat.reduceBEq, Nat.reduceLT, Nat.reduceLeDiff, Nat.reduceAdd, Nat.reduceSub, reduceIte]
  refine callK_i (d73 l n hl hs) ?_
  simp only [EV, Nat.reduceEqDiff, Nat.reduceBEq, Nat.reduceLT, Nat.reduceLeDiff, Nat.reduceAdd, Nat.reduceSub, reduceIte]
  rcases e : recOk l n with _ | _
  · simp only [Bool.not_false, EV, Nat.reduceEqDiff, Nat.reduceBEq, Nat.reduceLT, Nat.reduceLeDiff, Nat.reduceAdd, Nat.reduceSub, reduceIte]
    simp only [List.map_nil, EV, Nat.reduceEqDiff, Nat.reduceBEq, Nat.reduceLT, Nat.reduceLeDiff, Nat.reduceAdd, Nat.reduceSub, reduceIte, evRE, retVC, cellV', evR, nfz, nfzs, nfzss, List.contains_nil, List.contains_cons, Bool.or_false, or_true]
  · have e' := e
    simp only [recOk, Bool.and_eq_true] at e'
    obtain ⟨ht, hr⟩ := e'
    simp only [Bool.not_true, EV, Nat.reduceEqDiff, Nat.reduceBEq, Nat.reduceLT, Nat.reduceLeDiff, Nat.reduceAdd, Nat.reduceSub, reduceIte]
    refine callK_i (h91 ht hr) ?_
    simp only [EV, Nat.reduceEqDiff, Nat.reduceBEq, Nat.reduceLT, Nat.reduceLeDiff, Nat.reduceAdd, Nat.reduceSub, reduceIte]
    simp only [Fd.nfz, Fd.frz, EV, Nat.reduceEqDiff, Nat.reduceBEq, Nat.reduceLT, Nat.reduceLeDiff, Nat.reduceAdd, Nat.reduceSub, reduceIte, evRE, retVC, cellV', evR, nfz, nfzs, nfzss, List.contains_nil, List.contains_cons, Bool.or_false, or_true]

end Go.AM
namespace Go.AM
open Go.RowKit
set_option linter.unusedVariables false
set_option linter.unusedSimpArgs false
theorem rows_in {P : Program} {row : String} {args : Array Value} {w : World} {R : Value → World → Prop} {l n : Nat} (h : Rows P row args w R) : RowsIn (Fence.wide.inRound l) n P row args w R :=
  fun c cs _ => let ⟨v, w', r, s⟩ := h c cs; ⟨v, w', r, stepsIn_wide.2 s⟩

theorem op_in {P : Program} {o : Oper} {a : Act} {w : World} {K : Act → World → Prop} {Q : Exit → Act → World → Prop} {l n : Nat} (hd : ∀ c, o.op ≠ .defer c) (hL : ¬ LetsOut Q) (h : o.wp P a w K Q) : o.wpIn (Fence.wide.inRound l) n P a w K Q := by
  refine ⟨fun _ _ => trivial, ?_⟩
  rw [Oper.semAt_eq _ _ _ hd]
  unfold Oper.wp at h
  generalize (execOp a.eval o).run P w = r at h
  cases r with
  | ok x w' =>
    cases x with
    | value v => exact h
    | skip => exact h
    | defer d => exact h
    | enter f args =>
      refine ⟨fun hh => by simp [Fence.wide] at hh, CallsIn.inRound l (callsIn_wide.2 ?_)⟩
      exact h
    | row r args => exact ⟨fun hh => by simp [Fence.wide] at hh, rows_in h⟩
    | _ => exact h.elim
  | halt x w' =>
    cases x with
    | panic v => exact h
    | _ => exact h.elim

theorem any_in {P : Program} {md : Region.Mode} {ops : Array Oper} {Q : Exit → Act → World → Prop} {l n : Nat} (hd : ∀ (i : Nat) (o : Oper) c, ops[i]? = some o → o.op ≠ .defer c) (hL : ¬ LetsOut Q) :
    ∀ (fuel : Nat) (listed : Array Bool) (a : Act) (w : World), wpAny P md ops Q fuel listed a w → wpAnyIn (Fence.wide.inRound l) n P md ops Q fuel listed a w
  | 0, _, _, _, h => h
  | fuel + 1, listed, a, w, h => by
    refine ⟨h.1, fun i hi => ?_⟩
    have := h.2 i hi
    unfold wpOp at this
    unfold wpOpIn
    cases ho : ops[i]? with
    | none => rw [ho] at this; exact any_in hd hL fuel _ _ _ this
    | some o =>
      rw [ho] at this
      simp only at this ⊢
      split
      · rename_i hw
        rw [if_pos hw] at this
        rcases this with this | this
        · exact Oper.wpIn_mono (fun a' w' h' => any_in hd hL fuel _ _ _ h') (op_in (fun c => hd i o c ho) hL this)
        · exact absurd this.2 hL
      · rename_i hw
        rw [if_neg hw] at this
        exact ⟨fun _ _ => trivial, any_in hd hL fuel _ _ _ this⟩

theorem mixt_any {P : Program} {N : Nat} {fx : List Nat} {ops : Array Oper} {Q : Exit → Act → World → Prop} {c : Ctx} {st : St} {a : Act} {w : World} (hfx : ∀ e, c.fx e ≠ none → e ∈ fx) {FL WL RL B fi : List Nat} {fs : List MO} {t : TT} (hm : mixtOk P N fx ops FL WL RL B fi fs t = true) (S : Sim c N st a w) {k : K} (h : mixtV P FL WL RL B fs t k st)
    (hQ : ∀ st a w, Sim c N st a w → k st → Q .normal a w) : P.follows .mixedOrders = true ∧ wpAny P .any ops (fun e a w => e = .normal ∧ Q .normal a w) ops.size (Array.replicate ops.size false) a w.drew := by
  simp only [mixtOk, Bool.and_eq_true] at hm
  obtain ⟨⟨⟨⟨⟨hsel, hfol⟩, hlen⟩, hFW⟩, hRW⟩, hm⟩ := hm
  have S1 : Sim c N st a w.drew := S.world (Ext.drew w [])
  obtain ⟨hB, h⟩ := h
  obtain ⟨hd, hs, own, C⟩ := S1
  have hbare : ∀ k ∈ B, own k = [] := fun k hk => bare_own (st k) (C.rep k) (by simpa using List.all_eq_true.1 hB k hk)
  have hno : ∀ (l : List Nat), notFl B l WL = true → ∀ k ∈ l, ∀ b ∈ own k, b ∉ WL.flatMap own := by
    intro l hl k hk b hb hb2
    obtain ⟨j, hj, hbj⟩ := List.mem_flatMap.1 hb2
    by_cases e : k = j
    · subst e
      have h1 := List.all_eq_true.1 hl k hk
      simp only [Bool.or_eq_true, Bool.not_eq_true', List.contains_eq_mem, decide_eq_true_eq, decide_eq_false_iff_not] at h1
      rcases h1 with h1 | h1
      · exact h1 hj
      · rw [hbare k h1] at hb; simp at hb
    · exact C.dj k j e b hb hbj
  have hdj : ∀ b ∈ FL.flatMap own, b ∉ WL.flatMap own := by
    intro b hb
    obtain ⟨k, hk, hbk⟩ := List.mem_flatMap.1 hb
    exact hno FL hFW k hk b hbk
  have hfx' : ∀ (l : List Nat) e, (ctxL c w.drew own l RL a).fx e ≠ none → e ∈ RL ++ fx := by
    intro l e he
    simp only [ctxL] at he
    split at he
    · rename_i h'; simp [h']
    · have := hfx e he; simp [this]
  have hslots : ∀ l, Slots (ctxL c w.drew own l RL a) N a := by
    intro l
    refine ⟨hs.1, ?_⟩
    intro k v hk
    simp only [ctxL] at hk
    split at hk
    · simpa using hk
    · exact hs.2 k v hk
  have SW : Sim (ctxL c w.drew own WL RL a) N (keepL WL st) a w.drew := ⟨hd, hslots WL, _, core_part C WL RL⟩
  refine ⟨hfol, wpAny_of_held (S := held w.drew (WL.flatMap own)) _ _ _ _ ?_⟩
  · have hsz : ops.size = fi.length + t.sz := by simp only [beq_iff_eq] at hlen; exact hlen.symm
    show wpAnyH P .any ops _ _ ops.size (Array.replicate ops.size false) a w.drew
    have key := f_sound (Q := fun e a w => e = .normal ∧ Q .normal a w) (n := t.sz) C (hfx' FL) hsel (by rintro _ _ _ ⟨h, _⟩; cases h) hdj
      (kk := fun _ sW => ttV P (fun s3 => k (backS RL st s3)) t sW) (F := fun listed => (headsOk ops listed t && ttOk P N (RL ++ fx) ops t listed))
      (fun listed a' sF sW hF SW' h' => tt_sound (cW := ctxL c w.drew own WL RL a) rfl rfl (hfx' WL) hsel (k := fun s3 => k (backS RL st s3))
        (fun s3 a3 w3 S3 h3 => ⟨rfl, hQ _ _ _ (back_sound C hs (hno RL hRW) S3) h3⟩) (by rintro _ _ _ ⟨h, _⟩; cases h) t.sz t listed sW a' _ rfl (by simp only [Bool.and_eq_true] at hF; exact hF.1) (by simp only [Bool.and_eq_true] at hF; exact hF.2) SW' h')
      fi fs (Array.replicate ops.size false) (keepL FL st) (keepL WL st) a (ownL FL own) hm (core_part C FL RL) (fun b hb => ownL_mem.2 hb) SW h
    rw [← hsz] at key
    exact key

theorem mixt_round {P : Program} {N : Nat} {fx : List Nat} {ops : Array Oper} {Q : Exit → Act → World → Prop} {c : Ctx} {l n id : Nat} {st : St} {a : Act} {w : World} (hd : ∀ (i : Nat) (o : Oper) c, ops[i]? = some o → o.op ≠ .defer c) (hfx : ∀ e, c.fx e ≠ none → e ∈ fx) {FL WL RL B fi : List Nat} {fs : List MO} {t : TT} (hm : mixtOk P N fx ops FL WL RL B fi fs t = true) (S : Sim c N st a w) {k : K} (h : mixtV P FL WL RL B fs t k st)
    (hQ : ∀ st a w, Sim c N st a w → k st → Q .normal a w) : (Code.region id ops true).wpIn (Fence.wide.inRound l) n P Q a w := by
  obtain ⟨hf, h⟩ := mixt_any hfx hm S h hQ
  refine wpIn_mono (Q := fun e a w => e = .normal ∧ Q .normal a w) ?_ ?_
  · exact wpIn_region_any hf (any_in hd (by rintro ⟨_, _, h, _⟩; cases h) _ _ _ _ h)
  · rintro e a w ⟨rfl, h⟩; exact h

end Go.AM
namespace Go.Proofs.Backw
open Go Go.RowKit Go.Shelf Go.Proofs
attribute [local go_sem] Oper.semAt_some
set_option linter.unusedVariables false
set_option linter.unusedSimpArgs false

/-- What has come when k rounds are over. -/
def upto {α : Type} (f : Nat → α) (k : Nat) : List α := (List.range k).map f
theorem upto_succ {α : Type} (f : Nat → α) (k : Nat) : upto f (k + 1) = upto f k ++ [f k] := by simp [upto, List.range_succ]
theorem upto_length {α : Type} (f : Nat → α) (k : Nat) : (upto f k).length = k := by simp [upto]
/-- The slice of ints, and the box that holds it. -/
def Rd (Bs b off len cap : Nat) (zs : List Int) (W : World) : Prop := W.cell? ⟨Bs, 0, none⟩ = some (.slice (some ⟨b, off, none⟩) len cap) ∧ ∀ j, j < len → W.cell? ⟨b, off + j, none⟩ = some (.int .i64 (zs[j]?.getD 0))

set_option maxRecDepth 100000 in
set_option maxHeartbeats 2000000 in
theorem back1_in (F : Fence) (n : Nat) (h7 : F.fn 170) (hro : F.round = none) (hn : 1 ≤ n) (l Bs b off len cap : Nat) (zs : List Int) {α : Type} (encs : α → Array Value) (f : Nat → α)
    (hf : ∀ k j, j + k + 1 = len → encs (f k) = #[.int .i64 (j : Int), .int .i64 (zs[j]?.getD 0)]) (hreach : len * 8 ≤ 140737488351232) (J Jx : List α → World → Prop)
    (hY : ∀ pre x W, J pre W → pre.length < len → YieldAt F (n - 1) Try.prog l (encs x) W fun e W' =>
      (e = .returned (.bool true) ∧ J (pre ++ [x]) W' ∧ (Rd Bs b off len cap zs W → Rd Bs b off len cap zs W')) ∨ (e = .returned (.bool false) ∧ Jx (pre ++ [x]) W'))
    (W : World) (hR : Rd Bs b off len cap zs W) (h0 : J [] W) :
    CallsIn F n Try.prog 170 #[.func (.yield l) #[] #[], .pointer (some ⟨Bs, 0, none⟩)] W fun e W' => (∃ v, e = .returned v) ∧
      ((∃ ys, ys = upto f len ∧ J ys W') ∨ (∃ pre, (∃ k, k ≤ len ∧ pre = upto f k) ∧ Jx pre W')) := by
  refine callsIn_of_wp Try.func170 rfl h7 ?_ hro
  simp only [Try.ntmps170, List.size_toArray, List.length_cons, List.length_nil, Nat.reduceAdd, Nat.reduceSub, Array.replicate_succ, Array.replicate_zero, List.push_toArray, List.append_toArray, List.nil_append, List.cons_append]
  have hBs := hR.1
  gi_wp2
  gi_loopw [3] (fun i wr => ∃ k : Nat, k ≤ len ∧ i = .int .i64 ((len : Int) - 1 - (k : Int)) ∧ J (upto f k) wr ∧ Rd Bs b off len cap zs wr)
    (fun i _ => (intOf i + 1).toNat)
  case atStart => exact ⟨0, Nat.zero_le _, by simp, h0, hR⟩
  case round =>
    obtain ⟨k, hk, rfl, hJs, hR1, hR2⟩ := hrel
    by_cases hlt : k < len
    · obtain ⟨j, hj⟩ : ∃ j, j + k + 1 = len := ⟨len - k - 1, by omega⟩
      have hcx := hR2 j (by omega)
      obtain ⟨fn, tmps, assign, body, hy, hRR⟩ := hY _ (f k) wr hJs (by rw [upto_length]; exact hlt)
      rw [hf k j hj] at hy
      have hi : (len : Int) - 1 - (k : Int) = (j : Int) := by omega
      rw [hi]
      have hjl : j < len := by omega
      gi_wp2
      refine hRR.mono ?_
      rintro e W3 (⟨rfl, hJ3, hk3⟩ | ⟨rfl, hJx3⟩)
      · gi_wp2
        go_roundw
        case rel => exact ⟨k + 1, by omega, by simp; omega, by rw [upto_succ]; exact hJ3, hk3 ⟨hR1, hR2⟩⟩
        case measure => simp [intOf]
      · gi_wp2
        refine bodyPost_ret (results_none rfl _ _ _) rfl ?_
        exact ⟨⟨_, rfl⟩, .inr ⟨_, ⟨k + 1, by omega, (upto_succ _ _).symm⟩, hJx3⟩⟩
    · obtain rfl : k = len := by omega
      have hi : (k : Int) - 1 - (k : Int) = -1 := by omega
      rw [hi]
      gi_wp2
      go_end0
      exact ⟨⟨_, rfl⟩, .inl ⟨_, rfl, hJs⟩⟩

set_option maxHeartbeats 1000000 in
theorem back_in (F : Fence) (n : Nat) (h5 : F.fn 139) (hro : F.round = none) (a : Option Addr) (len cap : Nat) (w : World) :
    CallsIn F n Try.prog 139 #[.slice a len cap] w fun e w' => e = .returned (.func (.func 170) #[] #[.pointer (some ⟨w.heap.size, 0, none⟩)]) ∧ w' = w.alloc (.cells #[.slice a len cap] 39) := by
  refine callsIn_of_wp Try.func139 rfl h5 ?_ hro
  simp only [Try.ntmps139, List.size_toArray, List.length_cons, List.length_nil, Nat.reduceAdd, Nat.reduceSub, Array.replicate_succ, Array.replicate_zero, List.push_toArray, List.append_toArray, List.nil_append, List.cons_append]
  gi_wp2
  go_ret
  exact ⟨rfl, rfl⟩

/-- What it hands back: a function to range over. -/
theorem back_stops (F : Fence) (n : Nat) (h7 : F.fn 170) (hro : F.round = none) (hn : 1 ≤ n) (Bs b off len cap : Nat) (zs : List Int) {α : Type} (encs : α → Array Value) (f : Nat → α)
    (hf : ∀ k j, j + k + 1 = len → encs (f k) = #[.int .i64 (j : Int), .int .i64 (zs[j]?.getD 0)]) (hreach : len * 8 ≤ 140737488351232) (w : World) (hBs : Bs < w.heap.size) (hb : b < w.heap.size) (hR : Rd Bs b off len cap zs w) :
    SeqStopsK F n Try.prog 170 #[.pointer (some ⟨Bs, 0, none⟩)] encs (fun A B => Rd Bs b off len cap zs A → Rd Bs b off len cap zs B) (fun ys => ys = upto f len) (fun _ => True) len w := fun l J Jx W hW _ _ hY h0 => by
  have hR' : Rd Bs b off len cap zs W := ⟨(hW.cell (p := ⟨Bs, 0, none⟩) hBs).trans hR.1, fun j hj => (hW.cell (p := ⟨b, off + j, none⟩) hb).trans (hR.2 j hj)⟩
  refine (back1_in F n h7 hro hn l Bs b off len cap zs encs f hf hreach J Jx hY W hR' h0).mono ?_
  rintro e W' ⟨he, ⟨ys, rfl, hj⟩ | ⟨pre, _, hj⟩⟩
  · exact ⟨he, .inl ⟨_, rfl, hj⟩⟩
  · exact ⟨he, .inr ⟨_, trivial, hj⟩⟩
end Go.Proofs.Backw

namespace Go.Proofs.AllF
open Go Go.AM Go.RowKit Go.Shelf Go.Proofs Go.Proofs.Backw
attribute [local go_sem] Oper.semAt_some
set_option linter.unusedVariables false
set_option linter.unusedSimpArgs false

theorem rows_iv {w : World} {Fz : Nat → Prop} : ∀ {zs : List Int} {xs : List Value} {o : List Nat}, RepRows w Fz 1 (zs.map iv) xs o → xs = zs.map (fun k => Value.int .i64 k) ∧ o = []
  | [], xs, o, h => by simpa [RepRows] using h
  | z :: zs, xs, o, h => by
    simp only [List.map_cons, RepRows] at h
    obtain ⟨x1, x2, o1, o2, rfl, rfl, _, hr, hrs⟩ := h
    obtain ⟨rfl, rfl⟩ := rows_iv hrs
    simp only [iv, RepRow, RepC] at hr
    obtain ⟨x, xs', o3, o4, rfl, rfl, ⟨rfl, _, rfl⟩, rfl, rfl⟩ := hr
    exact ⟨rfl, rfl⟩
theorem keepW {w w' : World} {Fz : Nat → Prop} {av : AV} {x : Value} (hlt : ∀ b, Fz b → b < w.heap.size) (hE : Ext w w' []) (h : RepC w Fz av x []) : RepC w' Fz av x [] :=
  h.keep _ _ _ ⟨fun b hb => ⟨hb, hE.blk b (hlt b hb) (by simp)⟩, fun b hb => by simp at hb⟩

/-- What a round is handed: the index, and the number of a type. -/
def InT (l : List Ty) : Type := { x : Int × Int // 0 ≤ x.2 ∧ x.2.toNat < l.length }
def flds (l : List Ty) (pre : List (InT l)) : List Go.AM.Fd := pre.flatMap fun x => fdsAt l x.1.2
theorem flds_snoc (l : List Ty) (pre : List (InT l)) (x : InT l) : flds l (pre ++ [x]) = flds l pre ++ fdsAt l x.1.2 := by simp [flds]
theorem flds_len {l : List Ty} (ht : tysOk l = true) : ∀ pre : List (InT l), (flds l pre).length ≤ 6 * pre.length
  | [] => by simp [flds]
  | x :: pre => by
    have h1 := flds_len ht pre
    have h2 := fdsAt_len ht x.1.2
    simp only [flds, List.flatMap_cons, List.length_append, List.length_cons] at h1 ⊢
    omega
theorem rows_fd {w : World} {Fz : Nat → Prop} : ∀ {fs : List Go.AM.Fd} {xs : List Value} {o : List Nat}, RepRows w Fz 3 (fs.map Go.AM.Fd.o) xs o → o = []
  | [], xs, o, h => by simp only [List.map_nil, RepRows] at h; exact h.2
  | f :: fs, xs, o, h => by
    simp only [List.map_cons, RepRows] at h
    obtain ⟨x1, x2, o1, o2, rfl, rfl, _, hr, hrs⟩ := h
    rw [rows_fd hrs, List.append_nil]
    simp only [Go.AM.Fd.o, RepRow, RepC] at hr
    obtain ⟨_, _, _, _, rfl, rfl, ⟨_, _, rfl⟩, _, _, _, _, rfl, rfl, ⟨_, _, rfl⟩, _, _, _, _, rfl, rfl, ⟨_, _, rfl⟩, _, rfl⟩ := hr
    rfl
/-- Whatever is owned here is cells. -/
theorem own_cells {w : World} {Fz : Nat → Prop} {fs : List Go.AM.Fd} {x : Value} {o : List Nat} (h : RepC w Fz (.box 47 [.usl 57 3 (fs.map Go.AM.Fd.o)]) x o) : ∀ b ∈ o, ∃ cur e p, w.heap[b]? = some (.cells cur e p) := by
  simp only [RepC, RepRow] at h
  obtain ⟨g, xs, o', rfl, rfl, hg, y, ys, o1, o2, rfl, rfl, hu, rfl, rfl⟩ := h
  intro b hb
  rcases List.mem_cons.1 hb with rfl | hb
  · exact ⟨_, _, _, hg⟩
  · simp only [List.append_nil] at hb
    rcases hu with ⟨_, _, rfl⟩ | ⟨g2, h2, c, cur, vs, o3, _, rfl, hg2, _, _, hr, _⟩
    · simp at hb
    · rw [rows_fd hr] at hb
      simp only [List.mem_singleton] at hb
      subst hb
      exact ⟨_, _, _, hg2⟩

def noF : Nat → Prop := fun _ => False
/-- Between two rounds. -/
def LI (B : Nat) (w6 : World) (l : List Ty) (pre : List (InT l)) (W : World) : Prop := ∃ o5, RepC W noF (.box 47 [.usl 57 3 ((flds l pre).map Go.AM.Fd.o)]) (.pointer (some ⟨B + 1 + 1, 0, none⟩)) o5 ∧ o5.Nodup ∧
  (∀ b ∈ o5, (b = B + 1 + 1 ∨ b = B + 1 ∨ w6.heap.size ≤ b) ∧ b < W.heap.size) ∧ Ext w6 W [B + 1 + 1, B + 1]
theorem LI_own (B : Nat) (w6 : World) (l : List Ty) : OwnFrom w6.heap.size (LI B w6 l) := by
  rintro s W W' row ⟨o5, h1, h2, h3, h4⟩ hg hr
  have hsame : ∀ b, b < W.heap.size → (∀ r, row = some r → b ≠ r) → W'.heap[b]? = W.heap[b]? := fun b hb hn => hg.block b hb (by intro e; exact hn b e.symm rfl)
  refine ⟨o5, h1.keep _ _ _ ⟨fun b hb => hb.elim, fun b hb => hsame b (h3 b hb).2 ?_⟩, h2, fun b hb => ⟨(h3 b hb).1, Nat.lt_of_lt_of_le (h3 b hb).2 hg.size⟩, ⟨hg.os.trans h4.os, hg.tape.trans h4.tape, hg.output.trans h4.output, Nat.le_trans h4.size hg.size, fun b hb hn => (hsame b (Nat.lt_of_lt_of_le hb h4.size) ?_).trans (h4.blk b hb hn)⟩⟩
  · rintro r e rfl
    obtain ⟨_, o, ho, hc⟩ := hr b e
    obtain ⟨cur, e', p, hcur⟩ := own_cells h1 b hb
    rw [hcur] at ho
    cases ho
    simp [Obj.isCells] at hc
  · rintro r e rfl
    have := (hr b e).1
    omega
theorem Rd_of {Bs b off len cap : Nat} {zs : List Int} {W W' : World} (h1 : W'.heap[Bs]? = W.heap[Bs]?) (h2 : W'.heap[b]? = W.heap[b]?) (h : Rd Bs b off len cap zs W) : Rd Bs b off len cap zs W' := by
  refine ⟨?_, fun j hj => ?_⟩
  · rw [World.cell?_of_block (w := W) h1]; exact h.1
  · rw [World.cell?_of_block (w := W) h2]; exact h.2 j hj
/-- How the body of a round is read. -/
def bCtx (W : World) (F0 : Nat → Prop) (o5 : List Nat) (v5 : Value) : Ctx := { w0 := W, Fz := F0, own0 := o5, fx := fun e => if e = 5 then some v5 else none }
def bSt (l : List Ty) (fs : List Go.AM.Fd) (k : Int) : St := stl [(2, .fptr [.fsl 6 (l.map Ty.z)]), (5, .box 47 [.usl 57 3 (fs.map Go.AM.Fd.o)]), (7, .v (.int .i64 k))]
theorem bSim' {l : List Ty} {fs : List Go.AM.Fd} {k : Int} {W : World} {F0 : Nat → Prop} {o5 : List Nat} {a : Act} (hd : a.defers = []) (hn : a.tmps.size = 23) (h2 : RepC W F0 (.fptr [.fsl 6 (l.map Ty.z)]) (tmOf a 2) []) (h5 : RepC W noF (.box 47 [.usl 57 3 (fs.map Go.AM.Fd.o)]) (tmOf a 5) o5)
    (h7 : tmOf a 7 = .int .i64 k) (hnd : o5.Nodup) (hlt : ∀ b ∈ o5, b < W.heap.size ∧ ¬ F0 b) (hF : ∀ b, F0 b → b < W.heap.size) : Sim (bCtx W F0 o5 (tmOf a 5)) 23 (bSt l fs k) a W := by
  refine ⟨hd, ⟨hn, fun k v h => ?_⟩, fun k => if k = 5 then o5 else [], Ext.refl _ _, fun k' => ?_, fun k => ?_, fun j k hjk b hb => ?_, by simp, by simp, ?_⟩
  · simp only [bCtx] at h
    split at h
    · rename_i e; subst e; exact Option.some.inj h
    · cases h
  · have hfz : ∀ b, F0 b → frz (bCtx W F0 o5 (tmOf a 5)) W (owned (fun k => if k = 5 then o5 else []) []) b := by
      intro b hb
      refine ⟨hF b hb, .inr (.inl hb), ?_⟩
      rintro (⟨k, hk⟩ | hk)
      · simp only at hk
        split at hk
        · exact (hlt b hk).2 hb
        · simp at hk
      · simp at hk
    by_cases e2 : k' = 2
    · subst e2
      exact (h2.keep (w' := W) (Fz' := frz (bCtx W F0 o5 (tmOf a 5)) W (owned (fun k => if k = 5 then o5 else []) [])) _ _ _ ⟨fun b hb => ⟨hfz b hb, rfl⟩, fun _ _ => rfl⟩).toV
    by_cases e5 : k' = 5
    · subst e5
      exact (h5.keep (w' := W) (Fz' := frz (bCtx W F0 o5 (tmOf a 5)) W (owned (fun k => if k = 5 then o5 else []) [])) _ _ _ ⟨fun b hb => hb.elim, fun _ _ => rfl⟩).toV
    by_cases e7 : k' = 7
    · subst e7
      rw [h7]
      simp [bSt, stl, RepV, RepC, Value.oneCell']
    · simp [bSt, stl, e2, e5, e7, RepV]
  · by_cases e : k = 5
    · simp [e, hnd]
    · simp [e]
  · by_cases e : j = 5
    · have hk : k ≠ 5 := fun h => hjk (e.trans h.symm)
      simp [hk]
    · simp [e] at hb
  · rintro b (⟨k, hk⟩ | hk)
    · simp only at hk
      split at hk
      · exact ⟨.inl hk, (hlt b hk).1⟩
      · simp at hk
    · simp at hk
theorem bSim {l : List Ty} {fs : List Go.AM.Fd} {k : Int} {W : World} {F0 : Nat → Prop} {o5 : List Nat} {a : Act} {v2 v5 : Value} (hd : a.defers = []) (hn : a.tmps.size = 23) (e2 : tmOf a 2 = v2) (e5 : tmOf a 5 = v5) (h7 : tmOf a 7 = .int .i64 k) (h2 : RepC W F0 (.fptr [.fsl 6 (l.map Ty.z)]) v2 []) (h5 : RepC W noF (.box 47 [.usl 57 3 (fs.map Go.AM.Fd.o)]) v5 o5)
    (hnd : o5.Nodup) (hlt : ∀ b ∈ o5, b < W.heap.size ∧ ¬ F0 b) (hF : ∀ b, F0 b → b < W.heap.size) : Sim (bCtx W F0 o5 v5) 23 (bSt l fs k) a W := by
  subst e2 e5
  exact bSim' hd hn h2 h5 h7 hnd hlt hF
end Go.Proofs.AllF

namespace Go.Proofs.AllF
open Go Go.AM Go.RowKit Go.Shelf Go.Proofs Go.Proofs.Backw
attribute [local go_sem] Oper.semAt_some
set_option linter.unusedVariables false
set_option linter.unusedSimpArgs false

def noDef (ops : Array Oper) : Bool := ops.all fun o => match o.op with
  | .defer _ => false
  | _ => true
theorem noDef_spec {ops : Array Oper} (h : noDef ops = true) (i : Nat) (o : Oper) (c : Call) (ho : ops[i]? = some o) : o.op ≠ .defer c := by
  intro e
  simp only [noDef, Array.all_eq_true] at h
  obtain ⟨hi, rfl⟩ := Array.getElem?_eq_some_iff.1 ho
  have := h i hi
  rw [e] at this
  simp at this
theorem allL_rev (l : List Ty) : ∀ zs : List Int, allL l zs = zs.reverse.flatMap (fdsAt l)
  | [] => rfl
  | z :: zs => by simp [allL, allL_rev l zs]
theorem flds_all {l : List Ty} {zs : List Int} {fr : Nat → InT l} (h : ∀ k, (fr k).1.2 = zs[zs.length - 1 - k]?.getD 0) : flds l (upto fr zs.length) = allL l zs := by
  have e : (upto fr zs.length).map (fun x => x.1.2) = zs.reverse := by
    apply List.ext_getElem
    · simp [upto]
    · intro i h1 h2
      have hi : i < zs.length := by simpa using h2
      have hj : zs.length - 1 - i < zs.length := by omega
      simp [upto, h, List.getElem_reverse, hj]
  rw [allL_rev, ← e, List.flatMap_map]
  rfl
def bodyT : TT := .alt (.step 0 ⟨(some 15), none, .q (.load false 1 (.t 5))⟩
           (.step 1 ⟨(some 16), none, .q (.load false 1 (.t 2))⟩
            (.step 3 ⟨(some 18), none, .q (.iad 6 (.t 16) (.t 17))⟩
             (.step 4 ⟨(some 19), none, .q (.fad 3 (.t 18))⟩
              (.step 5 ⟨(some 20), none, .q (.load false 1 (.t 19))⟩
               (.step 6 ⟨(some 21), none, .a (.app false 57 3 32 (.t 15) (.t 20))⟩
                (.step 7 ⟨none, none, .a (.store 1 (.t 5) (.t 21))⟩
                 .nil)))))))
           (.step 1 ⟨(some 16), none, .q (.load false 1 (.t 2))⟩
           (.step 3 ⟨(some 18), none, .q (.iad 6 (.t 16) (.t 17))⟩
            (.step 4 ⟨(some 19), none, .q (.fad 3 (.t 18))⟩
             (.alt (.step 0 ⟨(some 15), none, .q (.load false 1 (.t 5))⟩
              (.step 5 ⟨(some 20), none, .q (.load false 1 (.t 19))⟩
               (.step 6 ⟨(some 21), none, .a (.app false 57 3 32 (.t 15) (.t 20))⟩
                (.step 7 ⟨none, none, .a (.store 1 (.t 5) (.t 21))⟩
                 .nil))))
              (.step 5 ⟨(some 20), none, .q (.load false 1 (.t 19))⟩
              (.step 0 ⟨(some 15), none, .q (.load false 1 (.t 5))⟩
               (.step 6 ⟨(some 21), none, .a (.app false 57 3 32 (.t 15) (.t 20))⟩
                (.step 7 ⟨none, none, .a (.store 1 (.t 5) (.t 21))⟩
                 .nil))))))))
def bodyM : MC := .mixt [7] [2, 5] [] [] [2] [⟨(some 17), none, .q (.mov (.t 7))⟩] bodyT
set_option maxRecDepth 100000 in
/-- What a round does. -/
theorem body_awp {l : List Ty} {fs : List Go.AM.Fd} {k : Int} (h0 : 0 ≤ k) (h1 : k.toNat < l.length) (hl : fs.length + (fdsAt l k).length ≤ 1000) :
    awp Try.prog bodyM (fun e st => st 5 = .box 47 [.usl 57 3 ((fs ++ fdsAt l k).map Go.AM.Fd.o)]) (bSt l fs k) := by
  have h2 : k < (l.length : Int) := by omega
  have he : (fs ++ fdsAt l k).map Go.AM.Fd.o = fs.map Go.AM.Fd.o ++ l[k.toNat].fields.map Go.AM.Fd.z := by rw [fdsAt_eq h1, List.map_append]; rfl
  rw [fdsAt_eq h1] at hl
  simp only [he, bodyM, bodyT, bSt, h0, h1, h2, nth_map h1, Ty.z, EV, Nat.reduceEqDiff, Nat.reduceBEq, Nat.reduceLT, Nat.reduceLeDiff, Nat.reduceAdd, Nat.reduceSub, reduceIte]
  exact ⟨.inl trivial, by omega, by omega⟩

set_option maxRecDepth 100000 in
set_option maxHeartbeats 2000000 in
theorem c91 (l : List Ty) (n : Int) (hl : (l.length : Int) ≤ 1048576) (ht : tabOk l = true) (hr : isRec l n = true) : Con Try.prog 91 [.fsl 6 (l.map Ty.z), .v (.int .i64 n)] false (.usl 57 3 ((allF l n).map Go.AM.Fd.o)) [.dead, .dead] := by
  intro w Fz xs os hrep hos hfz hlt
  simp only [RepVs] at hrep
  obtain ⟨sv, _, o1, _, rfl, rfl, h1, _, _, o2, _, rfl, rfl, h2, rfl, rfl⟩ := hrep
  simp only [RepV] at h1 h2
  have h1' := h1
  simp only [RepC] at h1 h2
  obtain ⟨rfl, A, cap, rfl, hcap, hA⟩ := h1
  obtain ⟨rfl, _, rfl⟩ := h2
  refine callsIn_wide (n := 9).1 (callsIn_of_wp_marks Try.func91 rfl trivial ?_ rfl)
  simp only [Try.ntmps91, List.size_toArray, List.length_cons, List.length_nil, Nat.reduceAdd, Nat.reduceSub, Array.replicate_succ, Array.replicate_zero, List.push_toArray, List.append_toArray, List.nil_append, List.cons_append]
  obtain ⟨w4, hw4⟩ : ∃ w4, (((w.alloc (Obj.cells #[Value.slice A l.length cap] 32)).alloc (Obj.cells #[] 57)).alloc (Obj.cells #[Value.slice (some { block := w.heap.size + 1, off := 0 }) 0 0] 47)) = w4 := ⟨_, rfl⟩
  have hE4 : Ext w w4 [] := by
    rw [← hw4]
    exact ((Ext.alloc _ _ _).trans (Ext.alloc _ [] _) (by simp)).trans (Ext.alloc _ [] _) (by simp)
  have hs4 : w4.heap.size = w.heap.size + 3 := by rw [← hw4]; simp
  have hb2 : w4.heap[w.heap.size]? = some (.cells #[Value.slice A l.length cap] 32) := by
    rw [← hw4]
    rw [Below.heap_alloc _ _ _ (by simp; omega), Below.heap_alloc _ _ _ (by simp)]
    exact World.alloc_heap_new _ _
  have hb3 : w4.heap[w.heap.size + 1]? = some (.cells #[] 57) := by
    rw [← hw4]
    rw [Below.heap_alloc _ _ _ (by simp)]
    have := World.alloc_heap_new (w.alloc (Obj.cells #[Value.slice A l.length cap] 32)) (.cells #[] 57)
    rwa [World.size_alloc] at this
  have hb5 : w4.heap[w.heap.size + 1 + 1]? = some (.cells #[Value.slice (some { block := w.heap.size + 1, off := 0 }) 0 0] 47) := by
    rw [← hw4]
    have := World.alloc_heap_new ((w.alloc (Obj.cells #[Value.slice A l.length cap] 32)).alloc (.cells #[] 57)) (Obj.cells #[Value.slice (some { block := w.heap.size + 1, off := 0 }) 0 0] 47)
    rwa [World.size_alloc, World.size_alloc] at this
  have hline := (d74 l n hl ht (.inr hr)).2 w4 Fz [Value.slice A l.length cap, Value.int IntKind.i64 n] [] ⟨_, _, [], [], rfl, rfl, (keepW hlt hE4 (by simpa using h1')).toV, _, _, [], [], rfl, rfl, by simp [RepV, RepC, Value.oneCell'], rfl, rfl⟩ List.nodup_nil (by simp) (fun b hb => by have := hlt b hb; omega)
  have hc2 : w4.cell? ⟨w.heap.size, 0, none⟩ = some (Value.slice A l.length cap) := by rw [cell_of_cells hb2]; rfl
  gi_wp2
  refine ⟨trivial, (callsIn_wide.2 hline).mono ?_⟩
  rintro e w5 ⟨x, ox, oo, rfl, hE5, hx, ho, hnd, hold⟩
  simp only [RepV] at hx
  have hlr := lineL_rec ht hr
  obtain ⟨zs, hzs⟩ : ∃ zs, lineL l n = zs := ⟨_, rfl⟩
  rw [hzs] at hx
  have hz0 : zs ≠ [] := by rw [← hzs, hlr]; simp
  simp only [RepC] at hx
  rcases hx with ⟨_, hx, _⟩ | ⟨g, h, c, cur, vs, o', rfl, rfl, hg, hc, hfit, hrw, hat⟩
  · exact absurd (List.map_eq_nil_iff.1 hx) hz0
  obtain ⟨rfl, rfl⟩ := rows_iv hrw
  simp only [List.length_map, Nat.mul_one] at hat ⊢
  gi_wp2
  refine ⟨trivial, (back_in Fence.wide _ trivial rfl _ _ _ _).mono ?_⟩
  rintro e w6 ⟨rfl, hw6⟩
  gi_wp2
  rw [← hw6]
  have hE56 : Ext w5 w6 [] := by rw [hw6]; exact Ext.alloc _ _ _
  have hE46 : Ext w4 w6 [] := hE5.trans hE56 (by simp)
  have hE6 : Ext w w6 [] := hE4.trans hE46 (by simp)
  have hs6 : w6.heap.size = w5.heap.size + 1 := by rw [hw6]; simp
  have hg5 : g < w5.heap.size := (hold g (by simp)).2
  have hg4 : w4.heap.size ≤ g := by rcases (hold g (by simp)).1 with h | h; simp at h; exact h
  have hs5 := hE5.size
  have hbs : w6.heap[w5.heap.size]? = some (.cells #[Value.slice (some { block := g, off := h }) zs.length c] 39) := by rw [hw6]; exact World.alloc_heap_new _ _
  have hRd : Rd w5.heap.size g h zs.length c zs w6 := by
    refine ⟨by rw [cell_of_cells hbs]; rfl, fun j hj => ?_⟩
    have := (hat.of_block (hE56.blk g hg5 (by simp))) j (.int .i64 zs[j]) (by simp [hj])
    rw [this]; simp [hj]
  have c2 : w6.heap[w.heap.size]? = some (Obj.cells #[Value.slice A l.length cap] 32) := (hE46.blk _ (by omega) (by simp)).trans hb2
  have c3 : w6.heap[w.heap.size + 1]? = some (.cells #[] 57) := (hE46.blk _ (by omega) (by simp)).trans hb3
  have c5 : w6.heap[w.heap.size + 1 + 1]? = some (Obj.cells #[Value.slice (some { block := w.heap.size + 1, off := 0 }) 0 0] 47) := (hE46.blk _ (by omega) (by simp)).trans hb5
  have h0 : LI w.heap.size w6 l [] w6 := by
    refine ⟨[w.heap.size + 1 + 1, w.heap.size + 1], ?_, by simp, ?_, Ext.refl _ _⟩
    · simp only [RepC, RepRow]
      refine ⟨_, [Value.slice (some { block := w.heap.size + 1, off := 0 }) 0 0], [w.heap.size + 1], rfl, rfl, c5, _, [], [w.heap.size + 1], [], rfl, rfl, .inr ⟨w.heap.size + 1, 0, 0, #[], [], [], by simp [flds], rfl, c3, by simp [flds], by simp, by simp [flds, RepRows], ?_⟩, rfl, rfl⟩
      intro j u hj; simp at hj
    · intro b hb
      simp only [List.mem_cons, List.not_mem_nil, or_false] at hb
      rcases hb with rfl | rfl
      · exact ⟨.inl rfl, by omega⟩
      · exact ⟨.inr (.inl rfl), by omega⟩
  let F0 : Nat → Prop := fun b => Fz b ∨ b = w.heap.size
  have hF0 : ∀ b, F0 b → b < w.heap.size + 1 := by rintro b (h | rfl); exact Nat.lt_succ_of_lt (hlt b h); omega
  have hl6 : RepC w6 Fz (.fsl 6 (l.map Ty.z)) (Value.slice A l.length cap) [] := keepW hlt hE6 (by simpa using h1')
  have f2 : RepC w6 F0 (.fptr [.fsl 6 (l.map Ty.z)]) (.pointer (some ⟨w.heap.size, 0, none⟩)) [] := by
    simp only [RepC, RepRow]
    refine ⟨trivial, w.heap.size, 0, [Value.slice A l.length cap], rfl, .inr rfl, ⟨_, [], [], [], rfl, rfl, ?_, rfl, rfl⟩, ?_⟩
    · have := hl6.keep (w' := w6) (Fz' := F0) _ _ _ ⟨fun b hb => ⟨.inl hb, rfl⟩, fun _ _ => rfl⟩
      simpa only [RepC] using this
    · intro j u hj
      rw [cell_of_cells c2]
      simpa using hj
  have hzin : ∀ j : Nat, 0 ≤ (zs[j]?.getD (0 : Int)) ∧ (zs[j]?.getD (0 : Int)).toNat < l.length := by
    intro j
    have h3 := (tysOk_len (tabOk_tys ht)).1
    by_cases hj : j < zs.length
    · have hm : zs[j] ∈ lineL l n := by rw [hzs]; exact List.getElem_mem hj
      obtain ⟨q0, q1, q2, _⟩ := isRec_in (lineL_in ht _ _ (.inr hr) _ hm)
      simp [hj, q0, q2]
    · simp [List.getElem?_eq_none (Nat.le_of_not_lt hj)]; omega
  have hz25 : zs.length ≤ 25 := by have h1 := lineL_len l n; have h2 := tabOk_len ht; rw [hzs] at h1; omega
  let fr : Nat → InT l := fun k => ⟨(((zs.length - 1 - k : Nat) : Int), zs[zs.length - 1 - k]?.getD 0), hzin _⟩
  have hstop := back_stops Fence.wide 8 trivial rfl (by omega) w5.heap.size g h zs.length c zs (fun x : InT l => #[Value.int .i64 x.1.1, Value.int .i64 x.1.2]) fr
    (fun k j hj => by have : zs.length - 1 - k = j := by omega
                      simp only [fr, this]) (by omega) w6 (by omega) (by omega) hRd
  refine wpIn_rangeFunc_ownF rfl (by omega) (gf := 170) (lb := #[.pointer (some ⟨w5.heap.size, 0, none⟩)]) rfl trivial (enters_of Try.func170 (by kernel_rfl) rfl) hstop (fun h k r => k (h r))
    (fun W lo o o' hlo _ _ _ h => Rd_of (World.putObj_heap_other (by omega)) (World.putObj_heap_other (by omega)) h) (Below.refl _ _) (fun _ => rfl)
    (LI w.heap.size w6 l) (fun _ _ _ => False) (LI_own _ _ _) (fun _ _ _ _ _ hs _ _ => hs) h0
    (fun x => { tmps := #[Value.slice A l.length cap, Value.int IntKind.i64 n, Value.pointer (some { block := w.heap.size, off := 0 }),
          undef, Value.slice none 0 0, Value.pointer (some { block := w.heap.size + 1 + 1, off := 0 }), undef, Value.int IntKind.i64 x.1.2,
          Value.slice (some { block := w.heap.size + 1, off := 0 }) 0 0, Value.slice A l.length cap,
          Value.int IntKind.i64 n, Value.slice (some { block := g, off := h }) zs.length c,
          Value.func (Fn.func 170) #[] #[Value.pointer (some { block := w5.heap.size, off := 0 })], Value.int IntKind.i64 x.1.1, Value.int IntKind.i64 x.1.2, undef,
          undef, undef, undef, undef, undef, undef, undef], defers := [] }) ?assign ?body ?done ?stop
  case assign =>
    intro l x W K hK
    gi_wp2
    exact hK
  case stop =>
    rintro D c pre W _ _ h _
    exact h.elim
  case done =>
    rintro D ys W hD rfl hI hK
    obtain ⟨o5, i1, i2, i3, i4⟩ := hI
    have hfl : flds l (upto fr zs.length) = allF l n := by
      rw [flds_all (fun k => rfl)]
      unfold allF
      rw [hzs]
    rw [hfl] at i1
    have hcl := own_cells i1
    simp only [RepC, RepRow] at i1
    obtain ⟨g5, xs5, o', hp, rfl, hg5', y, _, oy, _, rfl, rfl, hu, rfl, rfl⟩ := i1
    simp only [Value.pointer.injEq, Option.some.injEq, Addr.mk.injEq, and_true] at hp
    subst hp
    have hc5 : W.cell? ⟨w.heap.size + 1 + 1, 0, none⟩ = some y := by rw [cell_of_cells hg5']; rfl
    simp only [List.append_nil] at i2 i3
    gi_wp2
    refine ⟨by simp, .inl ⟨_, _, rfl, run_takeDeferred hK, ?_⟩⟩
    have hu' : RepC W noF (.usl 57 3 ((allF l n).map Go.AM.Fd.o)) y oy := by simp only [RepC]; exact hu
    have hW6 := i4.size
    have hEw : Ext w W [] := hE6.trans i4 fun b hb hlt => by simp only [List.mem_cons, List.not_mem_nil, or_false] at hb; omega
    have hEp : Ext w (W.putObj D (.deferred none)) [] := ⟨hEw.os, hEw.tape, hEw.output, by have := hEw.size; simpa using this, fun b hb hn => (World.putObj_heap_other (by omega)).trans (hEw.blk b hb hn)⟩
    have hsame : ∀ b ∈ oy, (W.putObj D (.deferred none)).heap[b]? = W.heap[b]? := fun b hb => World.putObj_heap_other (by
      rintro rfl
      obtain ⟨cur, e, p, hcur⟩ := hcl _ (List.mem_cons_of_mem _ (by simpa using hb))
      rw [hcur] at hK
      cases hK)
    have hk' := hu'.keep (w' := W.putObj D (.deferred none)) (Fz' := noF) _ _ _ ⟨fun b hb => hb.elim, hsame⟩
    refine ⟨_, results_tmp rfl _ _ _, y, oy, [], rfl, hEp, (nfzC _ hk' (by simp only [nfz, Go.AM.Fd.nfz])).toV, ⟨_, _, [], [], rfl, rfl, rfl, _, _, [], [], rfl, rfl, rfl, rfl, rfl⟩, by simpa using (List.nodup_cons.1 i2).2, fun b hb => ?_⟩
    have hb' : b ∈ oy := by simpa using hb
    obtain ⟨q1, q2⟩ := i3 b (List.mem_cons_of_mem _ hb')
    exact ⟨.inr (by omega), by simpa using q2⟩
  case body =>
    rintro lp pre x W ⟨o5, i1, i2, i3, i4⟩ hlen
    have hx := x.2
    have f2W : RepC W F0 (.fptr [.fsl 6 (l.map Ty.z)]) (.pointer (some ⟨w.heap.size, 0, none⟩)) [] :=
      f2.keep _ _ _ ⟨fun b hb => ⟨hb, i4.blk b (by have := hF0 b hb; omega) (by have := hF0 b hb; simp; omega)⟩, fun b hb => by simp at hb⟩
    have hW6 := i4.size
    have hnF : ∀ b ∈ o5, b < W.heap.size ∧ ¬ F0 b := fun b hb => ⟨(i3 b hb).2, fun hf => by have := hF0 b hf; have := (i3 b hb).1; omega⟩
    have hp1 := flds_len (tabOk_tys ht) pre
    have hp2 := fdsAt_len (tabOk_tys ht) x.1.2
    refine wpIn_block ?_
    refine mixt_round (N := 23) (fx := [5]) (c := bCtx W F0 o5 (.pointer (some ⟨w.heap.size + 1 + 1, 0, none⟩))) (noDef_spec (by decide +kernel)) ?_ (FL := [7]) (WL := [2, 5]) (RL := []) (B := []) (fi := [2]) (fs := [⟨(some 17), none, .q (.mov (.t 7))⟩]) (t := bodyT) (by decide +kernel)
      (bSim (l := l) (fs := flds l pre) (k := x.1.2) (F0 := F0) (o5 := o5) (by rfl) (by rfl) (by rfl) (by rfl) (by rfl) f2W i1 i2 hnF (fun b hb => by have := hF0 b hb; omega)) (body_awp (fs := flds l pre) hx.1 hx.2 (by omega)) ?_
    · intro e he
      simp only [bCtx] at he
      split at he
      · rename_i h; simp [h]
      · exact absurd rfl he
    · rintro st a' W' S' h5
      obtain ⟨own, C⟩ := S'.core
      have r5 := C.rep 5
      have hv5 : tmOf a' 5 = .pointer (some ⟨w.heap.size + 1 + 1, 0, none⟩) := S'.size.2 5 _ (by simp [bCtx])
      rw [h5, hv5] at r5
      have r5' := nfzC (Fz' := noF) _ (by simpa only [RepV] using r5) (by simp only [nfz, nfzs, Go.AM.Fd.nfz, Bool.and_self])
      have hE : Ext W W' o5 := C.fr
      refine ⟨⟨hE.size, fun k o hk hc => ?_⟩, fun hR => ?_, own 5, by rw [flds_snoc]; exact r5', C.nd 5, fun b hb => ?_, ?_⟩
      · have hkW := (Array.getElem?_eq_some_iff.1 hk).1
        refine (hE.blk k hkW fun hm => ?_).trans hk
        obtain ⟨cur, e, p, hcur⟩ := own_cells i1 k hm
        rw [hcur] at hk
        cases hk
        simp [Obj.isCells] at hc
      · refine Rd_of (hE.blk _ (by omega) fun hm => ?_) (hE.blk _ (by omega) fun hm => ?_) hR
        · have := (i3 _ hm).1; omega
        · have := (i3 _ hm).1; omega
      · obtain ⟨q1, q2⟩ := C.old b (.inl ⟨5, hb⟩)
        refine ⟨?_, q2⟩
        rcases q1 with q1 | q1
        · exact (i3 b q1).1
        · simp only [bCtx] at q1; exact .inr (.inr (by omega))
      · refine i4.trans hE fun b hb hlt => ?_
        have := (i3 b hb).1
        simp only [List.mem_cons, List.not_mem_nil, or_false]
        omega
end Go.Proofs.AllF

namespace Go.AM
theorem d91 (l : List Ty) (n : Int) (hl : (l.length : Int) ≤ 1048576) (ht : tabOk l = true) (hr : isRec l n = true) : Does Go.Proofs.Try.prog 91 [.fsl 6 (l.map Ty.z), .v (.int .i64 n)] false (.usl 57 3 ((allF l n).map Fd.o)) [.dead, .dead] :=
  ⟨by decide +kernel, Go.Proofs.AllF.c91 l n hl ht hr⟩

theorem d35 (l : List Ty) (n : Int) (hl : (l.length : Int) ≤ 1048576) (hs : ∀ s ∈ l, s.sm) : Does Go.Proofs.Try.prog 35 [.fsl 6 (l.map Ty.z), .v (.int .i64 n)] false (.tup [.usl 57 3 ((if recOk l n = true then allF l n else []).map Fd.o), .v (.bool (recOk l n))]) [.dead, .dead] :=
  d35_of l n hl hs fun ht hr => d91 l n hl ht hr

end Go.AM
namespace Go.AM
set_option linter.unusedVariables false
set_option linter.unusedSimpArgs false
/-- loop.example/g00837/laws.toIntS -/
def m28 : MC :=
  (.seq
   (.reg [⟨(some 2), none, .a (.asg (.nils 3 1))⟩])
   (.seq
    (.reg [⟨(some 5), none, .q (.mov (.t 0))⟩,
      ⟨(some 6), none, .q (.len false (.t 5))⟩,
      ⟨(some 7), none, .a (.mks 3 1 8 [.v (.int .i64 0)] (.t 6) (.t 6))⟩,
      ⟨(some 3), none, .a (.asg (.t 7))⟩])
    (.seq
     (.seq
      (.reg [⟨(some 4), none, .a (.asg (.c (.int .i64 0)))⟩])
      (.block 0
       (.loop [0, 3, 4, 7]
        (.seq
         (.seq
          (.reg [⟨(some 8), none, .q (.mov (.t 4))⟩,
            ⟨(some 9), none, .q (.mov (.t 0))⟩,
            ⟨(some 10), none, .q (.len false (.t 9))⟩,
            ⟨(some 11), none, .q (.bin false .lss (.t 8) (.t 10))⟩])
          (.cond (.t 11)
           .skip
           (.exit 0)))
         (.seq
          (.block 1
           (.reg [⟨(some 14), none, .q (.mov (.t 3))⟩,
             ⟨(some 15), none, .q (.mov (.t 4))⟩,
             ⟨(some 16), none, .q (.mov (.t 0))⟩,
             ⟨(some 17), none, .q (.mov (.t 4))⟩,
             ⟨(some 18), none, .q (.iad 1 (.t 16) (.t 17))⟩,
             ⟨(some 19), none, .q (.load false 1 (.t 18))⟩,
             ⟨(some 20), none, .q (.iad 1 (.t 14) (.t 15))⟩,
             ⟨none, none, .a (.store 1 (.t 20) (.t 19))⟩]))
          (.reg [⟨(some 12), none, .q (.mov (.t 4))⟩,
            ⟨(some 13), none, .q (.bin false .add (.t 12) (.c (.int .i64 1)))⟩,
            ⟨(some 4), none, .a (.asg (.t 13))⟩]))))))
     (.seq
      (.reg [⟨(some 21), none, .q (.mov (.t 3))⟩,
        ⟨(some 2), none, .a (.asg (.t 21))⟩])
      .ret))))

theorem d28 (l : List Int) (hl : (l.length : Int) ≤ 1048576) : Does Go.Proofs.Try.prog 28 [.fsl 1 (l.map iv)] false (.usl 3 1 (l.map iv)) [.dead] := by
  refine does_intro (mc := m28) (N := 22) (rs := [2]) (fx := []) 1 rfl (by decide +kernel) ?_
  simp only [m28, EV, Nat.reduceEqDiff, Nat.reduceBEq, Nat.reduceLT, Nat.reduceLeDiff, Nat.reduceAdd, Nat.reduceSub, reduceIte]
  refine ⟨by omega, by omega, ?_⟩
  refine awp_loop (fun i : Nat => i ≤ l.length) (fun i => stl [(0, .fsl 1 (l.map iv)), (3, .usl 3 1 ((l.take i).map iv ++ List.replicate (l.length - i) [.v (.int .i64 0)])), (4, .v (.int .i64 (i : Int))), (7, .dead)]) (fun i => l.length - i) 0 (Nat.zero_le _) ?_ ?_
  · simp only [EV, Nat.reduceEqDiff, Nat.reduceBEq, Nat.reduceLT, Nat.reduceLeDiff, Nat.reduceAdd, Nat.reduceSub, reduceIte]
    rfl
  · intro i hi
    simp only [EV, Nat.reduceEqDiff, Nat.reduceBEq, Nat.reduceLT, Nat.reduceLeDiff, Nat.reduceAdd, Nat.reduceSub, reduceIte]
    refine cK_cut (fun h => ?_) (fun h => ?_)
    · have h1 : i < l.length := by simpa using h
      have h2 : (i : Int) < (l.length : Int) := by omega
      have h3 : ((l.take i).map iv ++ List.replicate (l.length - i) [AV.v (.int .i64 0)]).length = l.length := by simp; omega
      have ei : iv l[i] = [.v (.int .i64 l[i])] := rfl
      simp only [nth_map h1, ei, h1, h2, h3, EV, Nat.reduceEqDiff, Nat.reduceBEq, Nat.reduceLT, Nat.reduceLeDiff, Nat.reduceAdd, Nat.reduceSub, reduceIte]
      try refine ⟨h1, ?_⟩
      refine ⟨i + 1, by omega, by omega, ?_⟩
      have ef := fill_set (g := iv) (l := l) (z := [AV.v (.int .i64 0)]) h1
      rw [fill_nth h1, w64 _ (by omega)]
      rw [← ef]
      rfl
    · have h1 : i = l.length := by have : ¬ (i : Int) < l.length := by simpa using h
                                   omega
      subst h1
      simp only [EV, Nat.reduceEqDiff, Nat.reduceBEq, Nat.reduceLT, Nat.reduceLeDiff, Nat.reduceAdd, Nat.reduceSub, reduceIte]
      simp only [Nat.sub_self, List.replicate_zero, iv_nfz, EV, Nat.reduceEqDiff, Nat.reduceBEq, Nat.reduceLT, Nat.reduceLeDiff, Nat.reduceAdd, Nat.reduceSub, reduceIte, evRE, retVC, cellV', evR, nfz, nfzs, nfzss, List.contains_nil, List.contains_cons, Bool.or_false, or_true]

/-- loop.example/g00837/laws.eqIntS -/
def m30 : MC :=
  (.seq
   (.reg [⟨(some 4), none, .a (.asg (.c (.bool false)))⟩])
   (.seq
    (.seq
     (.reg [⟨(some 6), none, .q (.mov (.t 0))⟩,
       ⟨(some 7), none, .q (.len false (.t 6))⟩,
       ⟨(some 8), none, .q (.mov (.t 1))⟩,
       ⟨(some 9), none, .q (.len false (.t 8))⟩,
       ⟨(some 10), none, .q (.bin false .neq (.t 7) (.t 9))⟩])
     (.cond (.t 10)
      (.seq
       (.reg [⟨(some 4), none, .a (.asg (.c (.bool false)))⟩])
       .ret)
      .skip))
    (.seq
     (.seq
      (.reg [⟨(some 5), none, .a (.asg (.c (.int .i64 0)))⟩])
      (.block 0
       (.loop [0, 1, 5]
        (.seq
         (.seq
          (.reg [⟨(some 11), none, .q (.mov (.t 5))⟩,
            ⟨(some 12), none, .q (.mov (.t 0))⟩,
            ⟨(some 13), none, .q (.len false (.t 12))⟩,
            ⟨(some 14), none, .q (.bin false .lss (.t 11) (.t 13))⟩])
          (.cond (.t 14)
           .skip
           (.exit 0)))
         (.seq
          (.block 1
           (.seq
            (.dreg [⟨(some 17), none, .q (.mov (.t 0))⟩,
              ⟨(some 18), none, .q (.mov (.t 5))⟩,
              ⟨(some 19), none, .q (.iad 1 (.t 17) (.t 18))⟩,
              ⟨(some 20), none, .q (.load false 1 (.t 19))⟩,
              ⟨(some 21), none, .q (.mov (.t 1))⟩,
              ⟨(some 22), none, .q (.mov (.t 5))⟩,
              ⟨(some 23), none, .q (.iad 1 (.t 21) (.t 22))⟩,
              ⟨(some 24), none, .q (.load false 1 (.t 23))⟩,
              ⟨(some 25), none, .q (.bin false .neq (.t 20) (.t 24))⟩])
            (.cond (.t 25)
             (.seq
              (.reg [⟨(some 4), none, .a (.asg (.c (.bool false)))⟩])
              .ret)
             .skip)))
          (.reg [⟨(some 15), none, .q (.mov (.t 5))⟩,
            ⟨(some 16), none, .q (.bin false .add (.t 15) (.c (.int .i64 1)))⟩,
            ⟨(some 5), none, .a (.asg (.t 16))⟩]))))))
     (.seq
      (.reg [⟨(some 4), none, .a (.asg (.c (.bool true)))⟩])
      .ret))))

theorem d30 (l : List Int) (hl : (l.length : Int) ≤ 1048576) : Does Go.Proofs.Try.prog 30 [.fsl 1 (l.map iv), .fsl 1 (l.map iv)] false (.v (.bool true)) [.dead, .dead] := by
  refine does_intro (mc := m30) (N := 26) (rs := [4]) (fx := []) 2 rfl (by decide +kernel) ?_
  simp only [m30, EV, Nat.reduceEqDiff, Nat.reduceBEq, Nat.reduceLT, Nat.reduceLeDiff, Nat.reduceAdd, Nat.reduceSub, reduceIte]
  refine awp_loop (fun i : Nat => i ≤ l.length) (fun i => stl [(0, .fsl 1 (l.map iv)), (1, .fsl 1 (l.map iv)), (5, .v (.int .i64 (i : Int)))]) (fun i => l.length - i) 0 (Nat.zero_le _) ?_ ?_
  · simp only [EV, Nat.reduceEqDiff, Nat.reduceBEq, Nat.reduceLT, Nat.reduceLeDiff, Nat.reduceAdd, Nat.reduceSub, reduceIte]
    rfl
  · intro i hi
    simp only [EV, Nat.reduceEqDiff, Nat.reduceBEq, Nat.reduceLT, Nat.reduceLeDiff, Nat.reduceAdd, Nat.reduceSub, reduceIte]
    refine cK_cut (fun h => ?_) (fun h => ?_)
    · have h1 : i < l.length := by simpa using h
      have h2 : (i : Int) < (l.length : Int) := by omega
      have ei : iv l[i] = [.v (.int .i64 l[i])] := rfl
      simp only [nth_map h1, ei, h2, EV, Nat.reduceEqDiff, Nat.reduceBEq, Nat.reduceLT, Nat.reduceLeDiff, Nat.reduceAdd, Nat.reduceSub, reduceIte]
      rw [w64 _ (by omega)]
      exact ⟨i + 1, by omega, by omega, rfl⟩
    · have h1 : i = l.length := by have : ¬ (i : Int) < l.length := by simpa using h
                                   omega
      simp only [EV, Nat.reduceEqDiff, Nat.reduceBEq, Nat.reduceLT, Nat.reduceLeDiff, Nat.reduceAdd, Nat.reduceSub, reduceIte]
      simp only [EV, Nat.reduceEqDiff, Nat.reduceBEq, Nat.reduceLT, Nat.reduceLeDiff, Nat.reduceAdd, Nat.reduceSub, reduceIte, evRE, retVC, cellV', evR, nfz, nfzs, nfzss, List.contains_nil, List.contains_cons, Bool.or_false, or_true]

def upI : Nat → Int → List Int
  | 0, _ => []
  | n + 1, k => k :: upI n (k + 1)

theorem upI_len : ∀ (n : Nat) (k : Int), (upI n k).length = n
  | 0, _ => rfl
  | n + 1, k => by simp [upI, upI_len n]

/-- loop.example/g00837/laws.markIntS -/
def m32 : MC :=
  (.seq
   (.reg [⟨(some 4), none, .a (.asg (.c (.int .i64 0)))⟩])
   (.seq
    (.seq
     (.reg [⟨(some 5), none, .a (.asg (.c (.int .i64 0)))⟩])
     (.block 0
      (.loop [0, 1, 5]
       (.seq
        (.seq
         (.reg [⟨(some 6), none, .q (.mov (.t 5))⟩,
           ⟨(some 7), none, .q (.mov (.t 0))⟩,
           ⟨(some 8), none, .q (.len false (.t 7))⟩,
           ⟨(some 9), none, .q (.bin false .lss (.t 6) (.t 8))⟩])
         (.cond (.t 9)
          .skip
          (.exit 0)))
        (.seq
         (.block 1
          (.seq
           (.reg [⟨(some 12), none, .q (.mov (.t 0))⟩,
             ⟨(some 13), none, .q (.mov (.t 5))⟩,
             ⟨(some 14), none, .q (.mov (.t 1))⟩,
             ⟨(some 15), none, .q (.iad 1 (.t 12) (.t 13))⟩,
             ⟨none, none, .a (.store 1 (.t 15) (.t 14))⟩])
           (.reg [⟨(some 16), none, .q (.mov (.t 1))⟩,
             ⟨(some 17), none, .q (.bin false .add (.t 16) (.c (.int .i64 1)))⟩,
             ⟨(some 1), none, .a (.asg (.t 17))⟩])))
         (.reg [⟨(some 10), none, .q (.mov (.t 5))⟩,
           ⟨(some 11), none, .q (.bin false .add (.t 10) (.c (.int .i64 1)))⟩,
           ⟨(some 5), none, .a (.asg (.t 11))⟩]))))))
    (.seq
     (.reg [⟨(some 18), none, .q (.mov (.t 1))⟩,
       ⟨(some 4), none, .a (.asg (.t 18))⟩])
     .ret)))

theorem d32 (l : List Int) (k : Int) (h0 : 0 ≤ k) (h1 : k + l.length ≤ 4611686018427387904) :
    Does Go.Proofs.Try.prog 32 [.usl 3 1 (l.map iv), .v (.int .i64 k)] false (.v (.int .i64 (k + l.length))) [.usl 3 1 ((upI l.length k).map iv), .dead] := by
  refine does_intro (mc := m32) (N := 19) (rs := [4]) (fx := [0]) 2 rfl (by decide +kernel) ?_
  simp only [m32, EV, Nat.reduceEqDiff, Nat.reduceBEq, Nat.reduceLT, Nat.reduceLeDiff, Nat.reduceAdd, Nat.reduceSub, reduceIte]
  refine awp_loop (fun p : List Int × List Int × Int => p.1 ++ upI p.2.1.length p.2.2 = upI l.length k ∧ p.2.2 + p.2.1.length = k + l.length ∧ 0 ≤ p.2.2 ∧ p.1.length + p.2.1.length = l.length)
    (fun p => stl [(0, .usl 3 1 ((p.1 ++ p.2.1).map iv)), (1, .v (.int .i64 p.2.2)), (5, .v (.int .i64 (p.1.length : Int)))]) (fun p => p.2.1.length) ([], l, k) ⟨rfl, rfl, h0, by simp⟩ ?_ ?_
  · simp only [EV, Nat.reduceEqDiff, Nat.reduceBEq, Nat.reduceLT, Nat.reduceLeDiff, Nat.reduceAdd, Nat.reduceSub, reduceIte]
    rfl
  · rintro ⟨pre, post, n⟩ ⟨p0, p1, p2, p3⟩
    cases post with
    | nil =>
      simp only [EV, Nat.reduceEqDiff, Nat.reduceBEq, Nat.reduceLT, Nat.reduceLeDiff, Nat.reduceAdd, Nat.reduceSub, reduceIte]
      refine cK_cut (fun h => ?_) (fun h => ?_)
      · simp at h
      · simp only [EV, Nat.reduceEqDiff, Nat.reduceBEq, Nat.reduceLT, Nat.reduceLeDiff, Nat.reduceAdd, Nat.reduceSub, reduceIte]
        simp only [List.append_nil, upI, List.length_nil] at p0 p1
        have e : n = k + l.length := by simp at p1; omega
        simp only [p0, ← e, EV, Nat.reduceEqDiff, Nat.reduceBEq, Nat.reduceLT, Nat.reduceLeDiff, Nat.reduceAdd, Nat.reduceSub, reduceIte, evRE, retVC, cellV', evR, nfz, nfzs, nfzss, List.contains_nil, List.contains_cons, Bool.or_false, or_true]
    | cons f post =>
      simp only [EV, Nat.reduceEqDiff, Nat.reduceBEq, Nat.reduceLT, Nat.reduceLeDiff, Nat.reduceAdd, Nat.reduceSub, reduceIte]
      refine cK_cut (fun h => ?_) (fun h => ?_)
      rotate_left
      · simp at h; omega
      simp only at p0 p1 p2 p3
      simp only [List.length_cons] at p1 p3
      have h3 : (pre.length : Int) < ((pre ++ f :: post).length : Int) := by simp; omega
      have h4 : pre.length < ((pre ++ f :: post).map iv).length := by simp
      have e1 : nth ((pre ++ f :: post).map iv) pre.length = [.v (.int .i64 f)] := nth_mid
      have e2 := set_mid (g := iv) (pre := pre) (post := post) (t := f) n
      generalize hR : (pre ++ f :: post).map iv = R at h4 e1 e2 ⊢
      have hRl : R.length = l.length := by rw [← hR]; simp; omega
      have h5 : (pre.length : Int) < (R.length : Int) := by omega
      have w0 := w64 ((pre.length : Int) + 1) (by omega)
      have w1 := w64 (n + 1) (by omega)
      simp only [h4, h5, e1, nth_set h4, List.getElem?_set_self h4, modify_set, w0, w1, EV, Nat.reduceEqDiff, Nat.reduceBEq, Nat.reduceLT, Nat.reduceLeDiff, Nat.reduceAdd, Nat.reduceSub, reduceIte]
      refine ⟨(pre ++ [n], post, n + 1), ⟨?_, ?_, ?_, ?_⟩, ?_, ?_⟩
      · rw [← p0]; simp [upI]
      · simp only; omega
      · simp only; omega
      · simp only [List.length_append, List.length_cons, List.length_nil]; omega
      · simp only; omega
      · simp only [iv] at e2
        simp only [← e2, List.length_append, List.length_cons, List.length_nil]
        rfl

/-- loop.example/g00837/laws.heldIntS -/
def m33 : MC :=
  (.seq
   (.reg [⟨(some 4), none, .a (.asg (.c (.int .i64 0)))⟩])
   (.seq
    (.seq
     (.reg [⟨(some 5), none, .a (.asg (.c (.int .i64 0)))⟩])
     (.block 0
      (.loop [0, 1, 5]
       (.seq
        (.seq
         (.reg [⟨(some 6), none, .q (.mov (.t 5))⟩,
           ⟨(some 7), none, .q (.mov (.t 0))⟩,
           ⟨(some 8), none, .q (.len false (.t 7))⟩,
           ⟨(some 9), none, .q (.bin false .lss (.t 6) (.t 8))⟩])
         (.cond (.t 9)
          .skip
          (.exit 0)))
        (.seq
         (.block 1
          (.seq
           (.seq
            (.reg [⟨(some 12), none, .q (.mov (.t 0))⟩,
              ⟨(some 13), none, .q (.mov (.t 5))⟩,
              ⟨(some 14), none, .q (.iad 1 (.t 12) (.t 13))⟩,
              ⟨(some 15), none, .q (.load false 1 (.t 14))⟩,
              ⟨(some 16), none, .q (.mov (.t 1))⟩,
              ⟨(some 17), none, .q (.bin false .neq (.t 15) (.t 16))⟩])
            (.cond (.t 17)
             (.seq
              (.reg [⟨(some 4), none, .a (.asg (.c (.int .i64 (-1))))⟩])
              .ret)
             .skip))
           (.reg [⟨(some 18), none, .q (.mov (.t 1))⟩,
             ⟨(some 19), none, .q (.bin false .add (.t 18) (.c (.int .i64 1)))⟩,
             ⟨(some 1), none, .a (.asg (.t 19))⟩])))
         (.reg [⟨(some 10), none, .q (.mov (.t 5))⟩,
           ⟨(some 11), none, .q (.bin false .add (.t 10) (.c (.int .i64 1)))⟩,
           ⟨(some 5), none, .a (.asg (.t 11))⟩]))))))
    (.seq
     (.reg [⟨(some 20), none, .q (.mov (.t 1))⟩,
       ⟨(some 4), none, .a (.asg (.t 20))⟩])
     .ret)))

theorem d33 (m : Nat) (k : Int) (h0 : 0 ≤ k) (h1 : k + m ≤ 4611686018427387904) :
    Does Go.Proofs.Try.prog 33 [.fsl 1 ((upI m k).map iv), .v (.int .i64 k)] false (.v (.int .i64 (k + m))) [.dead, .dead] := by
  have hl : (upI m k).length = m := upI_len m k
  generalize hM0 : upI m k = M at hl ⊢
  refine does_intro (mc := m33) (N := 21) (rs := [4]) (fx := []) 2 rfl (by decide +kernel) ?_
  simp only [m33, EV, Nat.reduceEqDiff, Nat.reduceBEq, Nat.reduceLT, Nat.reduceLeDiff, Nat.reduceAdd, Nat.reduceSub, reduceIte]
  refine awp_loop (fun p : List Int × Nat × Int => M = p.1 ++ upI p.2.1 p.2.2 ∧ p.2.2 + p.2.1 = k + m ∧ 0 ≤ p.2.2 ∧ p.1.length + p.2.1 = m)
    (fun p => stl [(0, .fsl 1 (M.map iv)), (1, .v (.int .i64 p.2.2)), (5, .v (.int .i64 (p.1.length : Int)))]) (fun p => p.2.1) ([], m, k) ⟨by rw [← hM0]; rfl, rfl, h0, by simp⟩ ?_ ?_
  · simp only [EV, Nat.reduceEqDiff, Nat.reduceBEq, Nat.reduceLT, Nat.reduceLeDiff, Nat.reduceAdd, Nat.reduceSub, reduceIte]
    rfl
  · rintro ⟨pre, post, n⟩ ⟨p0, p1, p2, p3⟩
    simp only at p0 p1 p2 p3
    cases post with
    | zero =>
      simp only [EV, Nat.reduceEqDiff, Nat.reduceBEq, Nat.reduceLT, Nat.reduceLeDiff, Nat.reduceAdd, Nat.reduceSub, reduceIte]
      refine cK_cut (fun h => ?_) (fun h => ?_)
      · simp at h p3; omega
      · simp only [EV, Nat.reduceEqDiff, Nat.reduceBEq, Nat.reduceLT, Nat.reduceLeDiff, Nat.reduceAdd, Nat.reduceSub, reduceIte]
        have e : n = k + m := by simp at p1; omega
        simp only [← e, EV, Nat.reduceEqDiff, Nat.reduceBEq, Nat.reduceLT, Nat.reduceLeDiff, Nat.reduceAdd, Nat.reduceSub, reduceIte, evRE, retVC, cellV', evR, nfz, nfzs, nfzss, List.contains_nil, List.contains_cons, Bool.or_false, or_true]
    | succ post =>
      simp only [EV, Nat.reduceEqDiff, Nat.reduceBEq, Nat.reduceLT, Nat.reduceLeDiff, Nat.reduceAdd, Nat.reduceSub, reduceIte]
      refine cK_cut (fun h => ?_) (fun h => ?_)
      rotate_left
      · simp at h; omega
      have h5 : (pre.length : Int) < (M.length : Int) := by omega
      have e1 : nth (M.map iv) pre.length = [.v (.int .i64 n)] := by rw [p0]; exact nth_mid
      have w0 := w64 ((pre.length : Int) + 1) (by omega)
      have w1 := w64 (n + 1) (by omega)
      simp only [h5, e1, w0, w1, bne_self_eq_false, EV, Nat.reduceEqDiff, Nat.reduceBEq, Nat.reduceLT, Nat.reduceLeDiff, Nat.reduceAdd, Nat.reduceSub, reduceIte]
      refine ⟨(pre ++ [n], post, n + 1), ⟨?_, ?_, ?_, ?_⟩, ?_, ?_⟩
      · rw [p0]; simp [upI]
      · simp only; omega
      · simp only; omega
      · simp only [List.length_append, List.length_cons, List.length_nil]; omega
      · simp only; omega
      · simp only [List.length_append, List.length_cons, List.length_nil]
        rfl

end Go.AM
namespace Go.AM
set_option linter.unusedVariables false
set_option linter.unusedSimpArgs false
/-- loop.example/g00837/laws.markText -/
def m89 : MC :=
  (.seq
   (.reg [⟨(some 2), none, .a (.asg (.c (.string ({ data := #[] }))))⟩])
   (.seq
    (.seq
     (.reg [⟨(some 4), none, .q (.mov (.t 0))⟩,
       ⟨(some 5), none, .q (.bin false .leq (.t 4) (.c (.int .i64 0)))⟩])
     (.cond (.t 5)
      (.seq
       (.reg [⟨(some 2), none, .a (.asg (.c (.string ({ data := #[109, 48] }))))⟩])
       .ret)
      .skip))
    (.seq
     (.reg [⟨(some 3), none, .a (.asg (.c (.string ({ data := #[] }))))⟩])
     (.seq
      (.block 0
       (.loop [0, 3]
        (.seq
         (.seq
          (.reg [⟨(some 6), none, .q (.mov (.t 0))⟩,
            ⟨(some 7), none, .q (.bin false .gtr (.t 6) (.c (.int .i64 0)))⟩])
          (.cond (.t 7)
           .skip
           (.exit 0)))
         (.block 1
          (.seq
           (.reg [⟨(some 8), none, .q (.mov (.t 0))⟩,
             ⟨(some 9), none, .q (.bin false .rem (.t 8) (.c (.int .i64 10)))⟩,
             ⟨(some 10), none, .q (.bin false .add (.c (.int .i64 48)) (.t 9))⟩,
             ⟨(some 11), none, .q (.conv .u8 (.t 10))⟩,
             ⟨(some 12), none, .a (.bsl 5 1 [.t 11])⟩,
             ⟨(some 13), none, .q (.b2s (.t 12))⟩,
             ⟨(some 14), none, .q (.mov (.t 3))⟩,
             ⟨(some 15), none, .q (.bin false .add (.t 13) (.t 14))⟩,
             ⟨(some 3), none, .a (.asg (.t 15))⟩])
           (.reg [⟨(some 16), none, .q (.mov (.t 0))⟩,
             ⟨(some 17), none, .q (.bin false .quo (.t 16) (.c (.int .i64 10)))⟩,
             ⟨(some 0), none, .a (.asg (.t 17))⟩]))))))
      (.seq
       (.reg [⟨(some 18), none, .q (.mov (.t 3))⟩,
         ⟨(some 19), none, .q (.bin false .add (.c (.string ({ data := #[109] }))) (.t 18))⟩,
         ⟨(some 2), none, .a (.asg (.t 19))⟩])
       .ret)))))

def mtL (k : Int) (s : ByteArray) : ByteArray := if h : 0 < k then mtL (k.tdiv 10) (strA [IntKind.u8.wrap (48 + k.tmod 10)] ++ s) else s
  termination_by k.toNat
  decreasing_by
  have : k.tdiv 10 = k / 10 := Int.tdiv_eq_ediv_of_nonneg (by omega)
  rw [this]; omega

def mt (k : Int) : ByteArray := if k ≤ 0 then ⟨#[109, 48]⟩ else ⟨#[109]⟩ ++ mtL k ⟨#[]⟩

theorem d89 (k : Int) (h0 : -9223372036854775808 ≤ k) (h1 : k ≤ 4611686018427387904) : Does Go.Proofs.Try.prog 89 [.v (.int .i64 k)] false (.v (.string (mt k))) [.dead] := by
  refine does_intro (mc := m89) (N := 20) (rs := [2]) (fx := []) 1 rfl (by decide +kernel) ?_
  simp only [m89, EV, Nat.reduceEqDiff, Nat.reduceBEq, Nat.reduceLT, Nat.reduceLeDiff, Nat.reduceAdd, Nat.reduceSub, reduceIte]
  refine cK_cut (fun h => ?_) (fun h => ?_)
  · have h2 : k ≤ 0 := by simpa using h
    simp only [EV, Nat.reduceEqDiff, Nat.reduceBEq, Nat.reduceLT, Nat.reduceLeDiff, Nat.reduceAdd, Nat.reduceSub, reduceIte]
    simp only [mt, h2, EV, Nat.reduceEqDiff, Nat.reduceBEq, Nat.reduceLT, Nat.reduceLeDiff, Nat.reduceAdd, Nat.reduceSub, reduceIte, evRE, retVC, cellV', evR, nfz, nfzs, nfzss, List.contains_nil, List.contains_cons, Bool.or_false, or_true]
  · have h2 : ¬ k ≤ 0 := by simpa using h
    simp only [EV, Nat.reduceEqDiff, Nat.reduceBEq, Nat.reduceLT, Nat.reduceLeDiff, Nat.reduceAdd, Nat.reduceSub, reduceIte]
    refine awp_loop (fun p : Int × ByteArray => 0 ≤ p.1 ∧ p.1 ≤ k ∧ (p.2.size : Int) + p.1 ≤ k ∧ mtL p.1 p.2 = mtL k ⟨#[]⟩) (fun p => stl [(0, .v (.int .i64 p.1)), (3, .v (.string p.2))]) (fun p => p.1.toNat) (k, ⟨#[]⟩) ⟨by omega, by omega, by show (((⟨#[]⟩ : ByteArray).size : Nat) : Int) + k ≤ k; simp [ByteArray.size], rfl⟩ ?_ ?_
    · simp only [EV, Nat.reduceEqDiff, Nat.reduceBEq, Nat.reduceLT, Nat.reduceLeDiff, Nat.reduceAdd, Nat.reduceSub, reduceIte]
    · rintro ⟨n, s⟩ ⟨p0, p1, p2, p3⟩
      simp only [EV, Nat.reduceEqDiff, Nat.reduceBEq, Nat.reduceLT, Nat.reduceLeDiff, Nat.reduceAdd, Nat.reduceSub, reduceIte]
      refine cK_cut (fun h => ?_) (fun h => ?_)
      · have h3 : 0 < n := by simpa using h
        have ed : n.tdiv 10 = n / 10 := Int.tdiv_eq_ediv_of_nonneg (by omega)
        have em : n.tmod 10 = n % 10 := Int.tmod_eq_emod_of_nonneg (by omega)
        have w1 : IntKind.i64.wrap (48 + n.tmod 10) = 48 + n.tmod 10 := w64 _ (by omega)
        have w2 : IntKind.i64.wrap (n.tdiv 10) = n.tdiv 10 := w64 _ (by omega)
        simp only [w1, w2, EV, Nat.reduceEqDiff, Nat.reduceBEq, Nat.reduceLT, Nat.reduceLeDiff, Nat.reduceAdd, Nat.reduceSub, reduceIte]
        simp only at p0 p1 p2 p3
        have hs : (strA [IntKind.u8.wrap (48 + n.tmod 10)]).size = 1 := rfl
        refine ⟨by decide, ?_, by decide, (n.tdiv 10, strA [IntKind.u8.wrap (48 + n.tmod 10)] ++ s), ⟨?_, ?_, ?_, ?_⟩, ?_, rfl⟩
        · rw [hs]; omega
        · show 0 ≤ n.tdiv 10; omega
        · show n.tdiv 10 ≤ k; omega
        · show (((strA [IntKind.u8.wrap (48 + n.tmod 10)] ++ s).size : Nat) : Int) + n.tdiv 10 ≤ k
          rw [ByteArray.size_append, hs]; omega
        · show mtL (n.tdiv 10) (strA [IntKind.u8.wrap (48 + n.tmod 10)] ++ s) = _
          rw [← p3, mtL.eq_def n, dif_pos h3]
        · show (n.tdiv 10).toNat < n.toNat; omega
      · have h3 : ¬ 0 < n := by simpa using h
        simp only at p0 p1 p2 p3
        have e : mtL k ⟨#[]⟩ = s := by rw [← p3, mtL.eq_def, dif_neg h3]
        have hs : ((⟨#[109]⟩ : ByteArray).size : Nat) = 1 := rfl
        simp only [EV, Nat.reduceEqDiff, Nat.reduceBEq, Nat.reduceLT, Nat.reduceLeDiff, Nat.reduceAdd, Nat.reduceSub, reduceIte]
        refine ⟨?_, ?_⟩
        · rw [hs]; omega
        · simp only [mt, h2, e, EV, Nat.reduceEqDiff, Nat.reduceBEq, Nat.reduceLT, Nat.reduceLeDiff, Nat.reduceAdd, Nat.reduceSub, reduceIte, evRE, retVC, cellV', evR, nfz, nfzs, nfzss, List.contains_nil, List.contains_cons, Bool.or_false, or_true]

def mkFd (k : Int) : Fd := ⟨mt (k), k + 1, k + 2⟩

def mkFdS : List Fd → Int → List Fd
  | [], _ => []
  | f :: fs, k => mkFd k :: mkFdS fs (k + 3)

theorem mkFdS_len : ∀ (l : List Fd) (k : Int), (mkFdS l k).length = l.length
  | [], _ => rfl
  | f :: fs, k => by simp [mkFdS, mkFdS_len fs]

/-- loop.example/g00837/laws.markFieldS -/
def m37 : MC :=
  (.seq
   (.reg [⟨(some 4), none, .a (.asg (.c (.int .i64 0)))⟩])
   (.seq
    (.seq
     (.reg [⟨(some 5), none, .a (.asg (.c (.int .i64 0)))⟩])
     (.block 0
      (.loop [0, 1, 5]
       (.seq
        (.seq
         (.reg [⟨(some 6), none, .q (.mov (.t 5))⟩,
           ⟨(some 7), none, .q (.mov (.t 0))⟩,
           ⟨(some 8), none, .q (.len false (.t 7))⟩,
           ⟨(some 9), none, .q (.bin false .lss (.t 6) (.t 8))⟩])
         (.cond (.t 9)
          .skip
          (.exit 0)))
        (.seq
         (.block 1
          (.seq
           (.reg [⟨(some 12), none, .q (.mov (.t 0))⟩,
             ⟨(some 13), none, .q (.mov (.t 5))⟩,
             ⟨(some 14), none, .q (.mov (.t 1))⟩,
             ⟨(some 15), none, .a (.call (.fn 89) false [.lend (.t 14)])⟩,
             ⟨(some 16), none, .q (.iad 3 (.t 12) (.t 13))⟩,
             ⟨(some 17), none, .q (.fad 0 (.t 16))⟩,
             ⟨none, none, .a (.store 1 (.t 17) (.t 15))⟩])
           (.seq
            (.reg [⟨(some 18), none, .q (.mov (.t 1))⟩,
              ⟨(some 19), none, .q (.bin false .add (.t 18) (.c (.int .i64 1)))⟩,
              ⟨(some 1), none, .a (.asg (.t 19))⟩])
            (.seq
             (.reg [⟨(some 20), none, .q (.mov (.t 0))⟩,
               ⟨(some 21), none, .q (.mov (.t 5))⟩,
               ⟨(some 22), none, .q (.mov (.t 1))⟩,
               ⟨(some 23), none, .q (.iad 3 (.t 20) (.t 21))⟩,
               ⟨(some 24), none, .q (.fad 1 (.t 23))⟩,
               ⟨none, none, .a (.store 1 (.t 24) (.t 22))⟩])
             (.seq
              (.reg [⟨(some 25), none, .q (.mov (.t 1))⟩,
                ⟨(some 26), none, .q (.bin false .add (.t 25) (.c (.int .i64 1)))⟩,
                ⟨(some 1), none, .a (.asg (.t 26))⟩])
              (.seq
               (.reg [⟨(some 27), none, .q (.mov (.t 0))⟩,
                 ⟨(some 28), none, .q (.mov (.t 5))⟩,
                 ⟨(some 29), none, .q (.mov (.t 1))⟩,
                 ⟨(some 30), none, .q (.iad 3 (.t 27) (.t 28))⟩,
                 ⟨(some 31), none, .q (.fad 2 (.t 30))⟩,
                 ⟨none, none, .a (.store 1 (.t 31) (.t 29))⟩])
               (.reg [⟨(some 32), none, .q (.mov (.t 1))⟩,
                 ⟨(some 33), none, .q (.bin false .add (.t 32) (.c (.int .i64 1)))⟩,
                 ⟨(some 1), none, .a (.asg (.t 33))⟩])))))))
         (.reg [⟨(some 10), none, .q (.mov (.t 5))⟩,
           ⟨(some 11), none, .q (.bin false .add (.t 10) (.c (.int .i64 1)))⟩,
           ⟨(some 5), none, .a (.asg (.t 11))⟩]))))))
    (.seq
     (.reg [⟨(some 34), none, .q (.mov (.t 1))⟩,
       ⟨(some 4), none, .a (.asg (.t 34))⟩])
     .ret)))

theorem d37 (l : List Fd) (k : Int) (h0 : 0 ≤ k) (h1 : k + 3 * l.length ≤ 4611686018427387904) :
    Does Go.Proofs.Try.prog 37 [.usl 57 3 (l.map Fd.o), .v (.int .i64 k)] false (.v (.int .i64 (k + 3 * l.length))) [.usl 57 3 ((mkFdS l k).map Fd.o), .dead] := by
  refine does_intro (mc := m37) (N := 35) (rs := [4]) (fx := [0]) 2 rfl (by decide +kernel) ?_
  simp only [m37, EV, Nat.reduceEqDiff, Nat.reduceBEq, Nat.reduceLT, Nat.reduceLeDiff, Nat.reduceAdd, Nat.reduceSub, reduceIte]
  refine awp_loop (fun p : List Fd × List Fd × Int => p.1 ++ mkFdS p.2.1 p.2.2 = mkFdS l k ∧ p.2.2 + 3 * p.2.1.length = k + 3 * l.length ∧ 0 ≤ p.2.2 ∧ p.1.length + p.2.1.length = l.length)
    (fun p => stl [(0, .usl 57 3 ((p.1 ++ p.2.1).map Fd.o)), (1, .v (.int .i64 p.2.2)), (5, .v (.int .i64 (p.1.length : Int)))]) (fun p => p.2.1.length) ([], l, k) ⟨rfl, rfl, h0, by simp⟩ ?_ ?_
  · simp only [EV, Nat.reduceEqDiff, Nat.reduceBEq, Nat.reduceLT, Nat.reduceLeDiff, Nat.reduceAdd, Nat.reduceSub, reduceIte]
    rfl
  · rintro ⟨pre, post, n⟩ ⟨p0, p1, p2, p3⟩
    cases post with
    | nil =>
      simp only [EV, Nat.reduceEqDiff, Nat.reduceBEq, Nat.reduceLT, Nat.reduceLeDiff, Nat.reduceAdd, Nat.reduceSub, reduceIte]
      refine cK_cut (fun h => ?_) (fun h => ?_)
      · simp at h
      · simp only [EV, Nat.reduceEqDiff, Nat.reduceBEq, Nat.reduceLT, Nat.reduceLeDiff, Nat.reduceAdd, Nat.reduceSub, reduceIte]
        simp only [List.append_nil, mkFdS, List.length_nil] at p0 p1
        have e : n = k + 3 * l.length := by simp at p1; omega
        simp only [p0, ← e, EV, Nat.reduceEqDiff, Nat.reduceBEq, Nat.reduceLT, Nat.reduceLeDiff, Nat.reduceAdd, Nat.reduceSub, reduceIte, evRE, retVC, cellV', evR, nfz, nfzs, nfzss, List.contains_nil, List.contains_cons, Bool.or_false, or_true]
    | cons f post =>
      simp only [EV, Nat.reduceEqDiff, Nat.reduceBEq, Nat.reduceLT, Nat.reduceLeDiff, Nat.reduceAdd, Nat.reduceSub, reduceIte]
      refine cK_cut (fun h => ?_) (fun h => ?_)
      rotate_left
      · simp at h; omega
      simp only at p0 p1 p2 p3
      simp only [List.length_cons] at p1 p3
      have h3 : (pre.length : Int) < ((pre ++ f :: post).length : Int) := by simp; omega
      have h4 : pre.length < ((pre ++ f :: post).map Fd.o).length := by simp
      have e1 : nth ((pre ++ f :: post).map Fd.o) pre.length = f.o := nth_mid
      generalize hR : (pre ++ f :: post).map Fd.o = R at h4 e1 ⊢
      have hRl : R.length = l.length := by rw [← hR]; simp; omega
      have h5 : (pre.length : Int) < (R.length : Int) := by omega
      have w0 := w64 ((pre.length : Int) + 1) (by omega)
      have w1 := w64 (n + 1) (by omega)
      have w2 := w64 (n + 1 + 1) (by omega)
      have w3 := w64 (n + 1 + 1 + 1) (by omega)
      simp only [h4, h5, e1, nth_set h4, List.getElem?_set_self h4, modify_set, Fd.o, w1, w2, w3, w0, EV, Nat.reduceEqDiff, Nat.reduceBEq, Nat.reduceLT, Nat.reduceLeDiff, Nat.reduceAdd, Nat.reduceSub, reduceIte]
      refine callK_i (d89 (n) (by omega) (by omega)) ?_
      simp only [h4, h5, e1, nth_set h4, List.getElem?_set_self h4, modify_set, Fd.o, w1, w2, w3, w0, EV, Nat.reduceEqDiff, Nat.reduceBEq, Nat.reduceLT, Nat.reduceLeDiff, Nat.reduceAdd, Nat.reduceSub, reduceIte]
      refine ⟨(pre ++ [mkFd n], post, n + 3), ⟨?_, ?_, ?_, ?_⟩, ?_, ?_⟩
      · rw [← p0]; simp [mkFdS]
      · simp only; omega
      · simp only; omega
      · simp only [List.length_append, List.length_cons, List.length_nil]; omega
      · simp only; omega
      · have e2 := set_mid (g := Fd.o) (pre := pre) (post := post) (t := f) (mkFd n)
        rw [hR] at e2
        simp only [Fd.o, mkFd] at e2
        simp only [← e2, mkFd, List.length_append, List.length_cons, List.length_nil, Int.add_assoc]
        rfl

/-- loop.example/g00837/laws.heldFieldS -/
def m38 : MC :=
  (.seq
   (.reg [⟨(some 4), none, .a (.asg (.c (.int .i64 0)))⟩])
   (.seq
    (.seq
     (.reg [⟨(some 5), none, .a (.asg (.c (.int .i64 0)))⟩])
     (.block 0
      (.loop [0, 1, 5]
       (.seq
        (.seq
         (.reg [⟨(some 6), none, .q (.mov (.t 5))⟩,
           ⟨(some 7), none, .q (.mov (.t 0))⟩,
           ⟨(some 8), none, .q (.len false (.t 7))⟩,
           ⟨(some 9), none, .q (.bin false .lss (.t 6) (.t 8))⟩])
         (.cond (.t 9)
          .skip
          (.exit 0)))
        (.seq
         (.block 1
          (.seq
           (.seq
            (.dreg [⟨(some 12), none, .q (.mov (.t 0))⟩,
              ⟨(some 13), none, .q (.mov (.t 5))⟩,
              ⟨(some 14), none, .q (.iad 3 (.t 12) (.t 13))⟩,
              ⟨(some 15), none, .q (.fad 0 (.t 14))⟩,
              ⟨(some 16), none, .q (.load false 1 (.t 15))⟩,
              ⟨(some 17), none, .q (.mov (.t 1))⟩,
              ⟨(some 18), none, .a (.call (.fn 89) false [.lend (.t 17)])⟩,
              ⟨(some 19), none, .q (.bin false .neq (.t 16) (.t 18))⟩])
            (.cond (.t 19)
             (.seq
              (.reg [⟨(some 4), none, .a (.asg (.c (.int .i64 (-1))))⟩])
              .ret)
             .skip))
           (.seq
            (.reg [⟨(some 20), none, .q (.mov (.t 1))⟩,
              ⟨(some 21), none, .q (.bin false .add (.t 20) (.c (.int .i64 1)))⟩,
              ⟨(some 1), none, .a (.asg (.t 21))⟩])
            (.seq
             (.seq
              (.reg [⟨(some 22), none, .q (.mov (.t 0))⟩,
                ⟨(some 23), none, .q (.mov (.t 5))⟩,
                ⟨(some 24), none, .q (.iad 3 (.t 22) (.t 23))⟩,
                ⟨(some 25), none, .q (.fad 1 (.t 24))⟩,
                ⟨(some 26), none, .q (.load false 1 (.t 25))⟩,
                ⟨(some 27), none, .q (.mov (.t 1))⟩,
                ⟨(some 28), none, .q (.bin false .neq (.t 26) (.t 27))⟩])
              (.cond (.t 28)
               (.seq
                (.reg [⟨(some 4), none, .a (.asg (.c (.int .i64 (-1))))⟩])
                .ret)
               .skip))
             (.seq
              (.reg [⟨(some 29), none, .q (.mov (.t 1))⟩,
                ⟨(some 30), none, .q (.bin false .add (.t 29) (.c (.int .i64 1)))⟩,
                ⟨(some 1), none, .a (.asg (.t 30))⟩])
              (.seq
               (.seq
                (.reg [⟨(some 31), none, .q (.mov (.t 0))⟩,
                  ⟨(some 32), none, .q (.mov (.t 5))⟩,
                  ⟨(some 33), none, .q (.iad 3 (.t 31) (.t 32))⟩,
                  ⟨(some 34), none, .q (.fad 2 (.t 33))⟩,
                  ⟨(some 35), none, .q (.load false 1 (.t 34))⟩,
                  ⟨(some 36), none, .q (.mov (.t 1))⟩,
                  ⟨(some 37), none, .q (.bin false .neq (.t 35) (.t 36))⟩])
                (.cond (.t 37)
                 (.seq
                  (.reg [⟨(some 4), none, .a (.asg (.c (.int .i64 (-1))))⟩])
                  .ret)
                 .skip))
               (.reg [⟨(some 38), none, .q (.mov (.t 1))⟩,
                 ⟨(some 39), none, .q (.bin false .add (.t 38) (.c (.int .i64 1)))⟩,
                 ⟨(some 1), none, .a (.asg (.t 39))⟩])))))))
         (.reg [⟨(some 10), none, .q (.mov (.t 5))⟩,
           ⟨(some 11), none, .q (.bin false .add (.t 10) (.c (.int .i64 1)))⟩,
           ⟨(some 5), none, .a (.asg (.t 11))⟩]))))))
    (.seq
     (.reg [⟨(some 40), none, .q (.mov (.t 1))⟩,
       ⟨(some 4), none, .a (.asg (.t 40))⟩])
     .ret)))

theorem d38 (l : List Fd) (k : Int) (h0 : 0 ≤ k) (h1 : k + 3 * l.length ≤ 4611686018427387904) :
    Does Go.Proofs.Try.prog 38 [.fsl 3 ((mkFdS l k).map Fd.z), .v (.int .i64 k)] false (.v (.int .i64 (k + 3 * l.length))) [.dead, .dead] := by
  have hl : (mkFdS l k).length = l.length := mkFdS_len l k
  generalize hM0 : mkFdS l k = M at hl ⊢
  refine does_intro (mc := m38) (N := 41) (rs := [4]) (fx := []) 2 rfl (by decide +kernel) ?_
  simp only [m38, EV, Nat.reduceEqDiff, Nat.reduceBEq, Nat.reduceLT, Nat.reduceLeDiff, Nat.reduceAdd, Nat.reduceSub, reduceIte]
  refine awp_loop (fun p : List Fd × List Fd × Int => M = p.1 ++ mkFdS p.2.1 p.2.2 ∧ p.2.2 + 3 * p.2.1.length = k + 3 * l.length ∧ 0 ≤ p.2.2 ∧ p.1.length + p.2.1.length = l.length)
    (fun p => stl [(0, .fsl 3 (M.map Fd.z)), (1, .v (.int .i64 p.2.2)), (5, .v (.int .i64 (p.1.length : Int)))]) (fun p => p.2.1.length) ([], l, k) ⟨by rw [← hM0]; rfl, rfl, h0, by simp⟩ ?_ ?_
  · simp only [EV, Nat.reduceEqDiff, Nat.reduceBEq, Nat.reduceLT, Nat.reduceLeDiff, Nat.reduceAdd, Nat.reduceSub, reduceIte]
    rfl
  · rintro ⟨pre, post, n⟩ ⟨p0, p1, p2, p3⟩
    simp only at p0 p1 p2 p3
    cases post with
    | nil =>
      simp only [EV, Nat.reduceEqDiff, Nat.reduceBEq, Nat.reduceLT, Nat.reduceLeDiff, Nat.reduceAdd, Nat.reduceSub, reduceIte]
      refine cK_cut (fun h => ?_) (fun h => ?_)
      · simp at h p3; omega
      · simp only [EV, Nat.reduceEqDiff, Nat.reduceBEq, Nat.reduceLT, Nat.reduceLeDiff, Nat.reduceAdd, Nat.reduceSub, reduceIte]
        have e : n = k + 3 * l.length := by simp at p1; omega
        simp only [← e, EV, Nat.reduceEqDiff, Nat.reduceBEq, Nat.reduceLT, Nat.reduceLeDiff, Nat.reduceAdd, Nat.reduceSub, reduceIte, evRE, retVC, cellV', evR, nfz, nfzs, nfzss, List.contains_nil, List.contains_cons, Bool.or_false, or_true]
    | cons f post =>
      simp only [EV, Nat.reduceEqDiff, Nat.reduceBEq, Nat.reduceLT, Nat.reduceLeDiff, Nat.reduceAdd, Nat.reduceSub, reduceIte]
      simp only [List.length_cons] at p1 p3
      refine cK_cut (fun h => ?_) (fun h => ?_)
      rotate_left
      · simp at h; omega
      have h5 : (pre.length : Int) < (M.length : Int) := by omega
      have e1 : nth (M.map Fd.z) pre.length = Fd.z (mkFd n) := by rw [p0]; exact nth_mid
      have w0 := w64 ((pre.length : Int) + 1) (by omega)
      have w1 := w64 (n + 1) (by omega)
      have w2 := w64 (n + 1 + 1) (by omega)
      have w3 := w64 (n + 2 + 1) (by omega)
      have q2 : n + 1 + 1 = n + 2 := by omega
      have q3 : n + 2 + 1 = n + 3 := by omega
      rw [q2] at w2
      rw [q3] at w3
      simp only [h5, e1, Fd.z, mkFd, w1, w2, w3, q2, q3, w0, EV, Nat.reduceEqDiff, Nat.reduceBEq, Nat.reduceLT, Nat.reduceLeDiff, Nat.reduceAdd, Nat.reduceSub, reduceIte]
      refine callD_i (d89 (n) (by omega) (by omega)) rfl ?_
      simp only [h5, e1, Fd.z, mkFd, w1, w2, w3, q2, q3, w0, EV, Nat.reduceEqDiff, Nat.reduceBEq, Nat.reduceLT, Nat.reduceLeDiff, Nat.reduceAdd, Nat.reduceSub, reduceIte]
      refine ⟨(pre ++ [mkFd n], post, n + 3), ⟨?_, ?_, ?_, ?_⟩, ?_, ?_⟩
      · rw [p0]; simp [mkFdS]
      · simp only; omega
      · simp only; omega
      · simp only [List.length_append, List.length_cons, List.length_nil]; omega
      · simp only; omega
      · simp only [List.length_append, List.length_cons, List.length_nil]
        rfl

end Go.AM
namespace Go.AM
set_option linter.unusedVariables false
set_option linter.unusedSimpArgs false
def mkTy (t : Ty) (k : Int) : Ty := ⟨k, k + 1, k + 2, mkFdS t.fields (k + 3), mt (k + 3 + 3 * t.fields.length), mt (k + 3 + 3 * t.fields.length + 1)⟩

def cntTy (t : Ty) : Int := 5 + 3 * t.fields.length

def cntTys : List Ty → Int
  | [] => 0
  | t :: l => cntTy t + cntTys l

theorem cntTys_nn : ∀ l : List Ty, 0 ≤ cntTys l
  | [] => Int.le_refl _
  | t :: l => by have := cntTys_nn l; unfold cntTys cntTy; omega

def mkTyS : List Ty → Int → List Ty
  | [], _ => []
  | t :: l, k => mkTy t k :: mkTyS l (k + cntTy t)

theorem mkTyS_len : ∀ (l : List Ty) (k : Int), (mkTyS l k).length = l.length
  | [], _ => rfl
  | f :: fs, k => by simp [mkTyS, mkTyS_len fs]

theorem mkTy_o (f : Ty) (n : Int) : Ty.o (mkTy f n) = [.v (.int .i64 n), .v (.int .i64 (n + 1)), .v (.int .i64 (n + 2)), .usl 57 3 ((mkFdS f.fields (n + 3)).map Fd.o), .v (.string (mt (n + 3 + 3 * f.fields.length))), .v (.string (mt (n + 3 + 3 * f.fields.length + 1)))] := rfl

/-- loop.example/g00837/laws.markTypeS -/
def m31 : MC :=
  (.seq
   (.reg [⟨(some 4), none, .a (.asg (.c (.int .i64 0)))⟩])
   (.seq
    (.seq
     (.reg [⟨(some 5), none, .a (.asg (.c (.int .i64 0)))⟩])
     (.block 0
      (.loop [0, 1, 5]
       (.seq
        (.seq
         (.reg [⟨(some 6), none, .q (.mov (.t 5))⟩,
           ⟨(some 7), none, .q (.mov (.t 0))⟩,
           ⟨(some 8), none, .q (.len false (.t 7))⟩,
           ⟨(some 9), none, .q (.bin false .lss (.t 6) (.t 8))⟩])
         (.cond (.t 9)
          .skip
          (.exit 0)))
        (.seq
         (.block 1
          (.seq
           (.reg [⟨(some 12), none, .q (.mov (.t 0))⟩,
             ⟨(some 13), none, .q (.mov (.t 5))⟩,
             ⟨(some 14), none, .q (.mov (.t 1))⟩,
             ⟨(some 15), none, .q (.iad 6 (.t 12) (.t 13))⟩,
             ⟨(some 16), none, .q (.fad 0 (.t 15))⟩,
             ⟨none, none, .a (.store 1 (.t 16) (.t 14))⟩])
           (.seq
            (.reg [⟨(some 17), none, .q (.mov (.t 1))⟩,
              ⟨(some 18), none, .q (.bin false .add (.t 17) (.c (.int .i64 1)))⟩,
              ⟨(some 1), none, .a (.asg (.t 18))⟩])
            (.seq
             (.reg [⟨(some 19), none, .q (.mov (.t 0))⟩,
               ⟨(some 20), none, .q (.mov (.t 5))⟩,
               ⟨(some 21), none, .q (.mov (.t 1))⟩,
               ⟨(some 22), none, .q (.iad 6 (.t 19) (.t 20))⟩,
               ⟨(some 23), none, .q (.fad 1 (.t 22))⟩,
               ⟨none, none, .a (.store 1 (.t 23) (.t 21))⟩])
             (.seq
              (.reg [⟨(some 24), none, .q (.mov (.t 1))⟩,
                ⟨(some 25), none, .q (.bin false .add (.t 24) (.c (.int .i64 1)))⟩,
                ⟨(some 1), none, .a (.asg (.t 25))⟩])
              (.seq
               (.reg [⟨(some 26), none, .q (.mov (.t 0))⟩,
                 ⟨(some 27), none, .q (.mov (.t 5))⟩,
                 ⟨(some 28), none, .q (.mov (.t 1))⟩,
                 ⟨(some 29), none, .q (.iad 6 (.t 26) (.t 27))⟩,
                 ⟨(some 30), none, .q (.fad 2 (.t 29))⟩,
                 ⟨none, none, .a (.store 1 (.t 30) (.t 28))⟩])
               (.seq
                (.reg [⟨(some 31), none, .q (.mov (.t 1))⟩,
                  ⟨(some 32), none, .q (.bin false .add (.t 31) (.c (.int .i64 1)))⟩,
                  ⟨(some 1), none, .a (.asg (.t 32))⟩])
                (.seq
                 (.reg [⟨(some 33), none, .q (.mov (.t 0))⟩,
                   ⟨(some 34), none, .q (.mov (.t 5))⟩,
                   ⟨(some 35), none, .q (.iad 6 (.t 33) (.t 34))⟩,
                   ⟨(some 36), none, .q (.fad 3 (.t 35))⟩,
                   ⟨(some 37), none, .q (.load false 1 (.t 36))⟩,
                   ⟨(some 38), none, .q (.mov (.t 1))⟩,
                   ⟨(some 39), none, .a (.call (.fn 37) false [.io (.t 37), .lend (.t 38)])⟩,
                   ⟨(some 1), none, .a (.asg (.t 39))⟩])
                 (.seq
                  (.reg [⟨(some 40), none, .q (.mov (.t 0))⟩,
                    ⟨(some 41), none, .q (.mov (.t 5))⟩,
                    ⟨(some 42), none, .q (.mov (.t 1))⟩,
                    ⟨(some 43), none, .a (.call (.fn 89) false [.lend (.t 42)])⟩,
                    ⟨(some 44), none, .q (.iad 6 (.t 40) (.t 41))⟩,
                    ⟨(some 45), none, .q (.fad 4 (.t 44))⟩,
                    ⟨none, none, .a (.store 1 (.t 45) (.t 43))⟩])
                  (.seq
                   (.reg [⟨(some 46), none, .q (.mov (.t 1))⟩,
                     ⟨(some 47), none, .q (.bin false .add (.t 46) (.c (.int .i64 1)))⟩,
                     ⟨(some 1), none, .a (.asg (.t 47))⟩])
                   (.seq
                    (.reg [⟨(some 48), none, .q (.mov (.t 0))⟩,
                      ⟨(some 49), none, .q (.mov (.t 5))⟩,
                      ⟨(some 50), none, .q (.mov (.t 1))⟩,
                      ⟨(some 51), none, .a (.call (.fn 89) false [.lend (.t 50)])⟩,
                      ⟨(some 52), none, .q (.iad 6 (.t 48) (.t 49))⟩,
                      ⟨(some 53), none, .q (.fad 5 (.t 52))⟩,
                      ⟨none, none, .a (.store 1 (.t 53) (.t 51))⟩])
                    (.reg [⟨(some 54), none, .q (.mov (.t 1))⟩,
                      ⟨(some 55), none, .q (.bin false .add (.t 54) (.c (.int .i64 1)))⟩,
                      ⟨(some 1), none, .a (.asg (.t 55))⟩]))))))))))))
         (.reg [⟨(some 10), none, .q (.mov (.t 5))⟩,
           ⟨(some 11), none, .q (.bin false .add (.t 10) (.c (.int .i64 1)))⟩,
           ⟨(some 5), none, .a (.asg (.t 11))⟩]))))))
    (.seq
     (.reg [⟨(some 56), none, .q (.mov (.t 1))⟩,
       ⟨(some 4), none, .a (.asg (.t 56))⟩])
     .ret)))

set_option maxHeartbeats 1000000 in
set_option maxRecDepth 100000 in
theorem d31 (l : List Ty) (k : Int) (h0 : 0 ≤ k) (h1 : k + cntTys l ≤ 4611686018427387904) (hl : (l.length : Int) ≤ 1048576) (hs : ∀ s ∈ l, s.sm) :
    Does Go.Proofs.Try.prog 31 [.usl 59 6 (l.map Ty.o), .v (.int .i64 k)] false (.v (.int .i64 (k + cntTys l))) [.usl 59 6 ((mkTyS l k).map Ty.o), .dead] := by
  refine does_intro (mc := m31) (N := 57) (rs := [4]) (fx := [0]) 2 rfl (by decide +kernel) ?_
  simp only [m31, EV, Nat.reduceEqDiff, Nat.reduceBEq, Nat.reduceLT, Nat.reduceLeDiff, Nat.reduceAdd, Nat.reduceSub, reduceIte]
  refine awp_loop (fun p : List Ty × List Ty × Int => p.1 ++ mkTyS p.2.1 p.2.2 = mkTyS l k ∧ p.2.2 + cntTys p.2.1 = k + cntTys l ∧ 0 ≤ p.2.2 ∧ p.1.length + p.2.1.length = l.length ∧ ∀ s ∈ p.2.1, s.sm)
    (fun p => stl [(0, .usl 59 6 ((p.1 ++ p.2.1).map Ty.o)), (1, .v (.int .i64 p.2.2)), (5, .v (.int .i64 (p.1.length : Int)))]) (fun p => p.2.1.length) ([], l, k) ⟨rfl, rfl, h0, by simp, hs⟩ ?_ ?_
  · simp only [EV, Nat.reduceEqDiff, Nat.reduceBEq, Nat.reduceLT, Nat.reduceLeDiff, Nat.reduceAdd, Nat.reduceSub, reduceIte]
    rfl
  · rintro ⟨pre, post, n⟩ ⟨p0, p1, p2, p3, p4⟩
    cases post with
    | nil =>
      simp only [EV, Nat.reduceEqDiff, Nat.reduceBEq, Nat.reduceLT, Nat.reduceLeDiff, Nat.reduceAdd, Nat.reduceSub, reduceIte]
      refine cK_cut (fun h => ?_) (fun h => ?_)
      · simp at h
      · simp only [EV, Nat.reduceEqDiff, Nat.reduceBEq, Nat.reduceLT, Nat.reduceLeDiff, Nat.reduceAdd, Nat.reduceSub, reduceIte]
        simp only [List.append_nil, mkTyS] at p0
        have e : n = k + cntTys l := by simp [cntTys] at p1; omega
        simp only [p0, ← e, EV, Nat.reduceEqDiff, Nat.reduceBEq, Nat.reduceLT, Nat.reduceLeDiff, Nat.reduceAdd, Nat.reduceSub, reduceIte, evRE, retVC, cellV', evR, nfz, nfzs, nfzss, List.contains_nil, List.contains_cons, Bool.or_false, or_true]
    | cons f post =>
      simp only [EV, Nat.reduceEqDiff, Nat.reduceBEq, Nat.reduceLT, Nat.reduceLeDiff, Nat.reduceAdd, Nat.reduceSub, reduceIte]
      refine cK_cut (fun h => ?_) (fun h => ?_)
      rotate_left
      · simp at h; omega
      simp only at p0 p1 p2 p3
      have hsm := p4 f (by simp)
      unfold Ty.sm at hsm
      have hfl := hsm.2.2.2.1.1
      have hnn := cntTys_nn post
      simp only [List.length_cons] at p3
      simp only [cntTys, cntTy] at p1
      have h4 : pre.length < ((pre ++ f :: post).map Ty.o).length := by simp
      have e1 : nth ((pre ++ f :: post).map Ty.o) pre.length = f.o := nth_mid
      have e2 := set_mid (g := Ty.o) (pre := pre) (post := post) (t := f) (mkTy f n)
      generalize hR : (pre ++ f :: post).map Ty.o = R at h4 e1 e2 ⊢
      have hRl : R.length = l.length := by rw [← hR]; simp; omega
      have h5 : (pre.length : Int) < (R.length : Int) := by omega
      have w0 := w64 ((pre.length : Int) + 1) (by omega)
      have w1 := w64 (n + 1) (by omega)
      have w2 := w64 (n + 1 + 1) (by omega)
      have w3 := w64 (n + 1 + 1 + 1) (by omega)
      simp only [h4, h5, e1, nth_set h4, List.getElem?_set_self h4, modify_set, Ty.o, w0, w1, w2, w3, EV, Nat.reduceEqDiff, Nat.reduceBEq, Nat.reduceLT, Nat.reduceLeDiff, Nat.reduceAdd, Nat.reduceSub, reduceIte]
      refine callK2_i (d37 f.fields (n + 1 + 1 + 1) (by omega) (by omega)) rfl ?_ ?_
      · simp only [mkFdS_len, EV, Nat.reduceEqDiff, Nat.reduceBEq, Nat.reduceLT, Nat.reduceLeDiff, Nat.reduceAdd, Nat.reduceSub, reduceIte]
      have g1 : n + 1 + 1 = n + 2 := by omega
      have g2 : n + 2 + 1 = n + 3 := by omega
      have w4 := w64 (n + 3 + 3 * (f.fields.length : Int) + 1) (by omega)
      have w5 := w64 (n + 3 + 3 * (f.fields.length : Int) + 1 + 1) (by omega)
      simp only [g1, g2, h4, h5, e1, nth_set h4, List.getElem?_set_self h4, modify_set, w4, EV, Nat.reduceEqDiff, Nat.reduceBEq, Nat.reduceLT, Nat.reduceLeDiff, Nat.reduceAdd, Nat.reduceSub, reduceIte]
      refine callK_i (d89 (n + 3 + 3 * (f.fields.length : Int)) (by omega) (by omega)) ?_
      simp only [g1, g2, h4, h5, e1, nth_set h4, List.getElem?_set_self h4, modify_set, w4, EV, Nat.reduceEqDiff, Nat.reduceBEq, Nat.reduceLT, Nat.reduceLeDiff, Nat.reduceAdd, Nat.reduceSub, reduceIte]
      refine callK_i (d89 (n + 3 + 3 * (f.fields.length : Int) + 1) (by omega) (by omega)) ?_
      simp only [g1, g2, h4, h5, e1, nth_set h4, List.getElem?_set_self h4, modify_set, w4, w5, EV, Nat.reduceEqDiff, Nat.reduceBEq, Nat.reduceLT, Nat.reduceLeDiff, Nat.reduceAdd, Nat.reduceSub, reduceIte]
      refine ⟨(pre ++ [mkTy f n], post, n + cntTy f), ⟨?_, ?_, ?_, ?_, ?_⟩, ?_, ?_⟩
      · rw [← p0]; simp [mkTyS]
      · simp only [cntTy]; omega
      · simp only [cntTy]; omega
      · simp only [List.length_append, List.length_cons, List.length_nil]; omega
      · intro s hs'; exact p4 s (by simp; exact .inr hs')
      · simp only; omega
      · rw [mkTy_o] at e2
        have g3 : n + 3 + 3 * (f.fields.length : Int) + 1 + 1 = n + cntTy f := by unfold cntTy; omega
        have g4 : (((pre ++ [mkTy f n]).length : Nat) : Int) = (pre.length : Int) + 1 := by simp
        simp only [← e2, g3, g4, w0]

end Go.AM
namespace Go.AM
set_option linter.unusedVariables false
set_option linter.unusedSimpArgs false
/-- Numbers rise up to a place. -/
def riseTo (n : List Int) (i : Nat) : Prop := ∀ j (h : j + 1 < n.length), j + 1 < i → n[j] < n[j + 1]

theorem riseTo_up {n : List Int} (h : riseTo n n.length) : n.Pairwise (· < ·) := by
  induction n with
  | nil => exact List.Pairwise.nil
  | cons x n ih =>
    have h2 : riseTo n n.length := fun j hj hji => by have := h (j + 1) (by simp; omega) (by simp; omega); simpa using this
    refine List.pairwise_cons.2 ⟨?_, ih h2⟩
    have hp := ih h2
    cases n with
    | nil => simp
    | cons y n =>
      have h0 : x < y := h 0 (by simp) (by simp)
      intro a ha
      rcases List.mem_cons.1 ha with rfl | ha
      · exact h0
      · have := (List.pairwise_cons.1 hp).1 a ha; omega

theorem up_rise {n : List Int} (h : n.Pairwise (· < ·)) : ∀ j (hj : j + 1 < n.length), n[j] < n[j + 1] := fun j hj => List.pairwise_iff_getElem.1 h j (j + 1) (by omega) hj (by omega)

open Classical in
noncomputable def upB (n : List Int) : Bool := decide (n.Pairwise (· < ·))

/-- loop.example/g00837/impl.areRising -/
def m85 : MC :=
  (.seq
   (.reg [⟨(some 2), none, .a (.asg (.c (.bool false)))⟩])
   (.seq
    (.seq
     (.reg [⟨(some 3), none, .a (.asg (.c (.int .i64 1)))⟩])
     (.block 0
      (.loop [0, 3]
       (.seq
        (.seq
         (.reg [⟨(some 4), none, .q (.mov (.t 3))⟩,
           ⟨(some 5), none, .q (.mov (.t 0))⟩,
           ⟨(some 6), none, .q (.len false (.t 5))⟩,
           ⟨(some 7), none, .q (.bin false .lss (.t 4) (.t 6))⟩])
         (.cond (.t 7)
          .skip
          (.exit 0)))
        (.seq
         (.block 1
          (.seq
           (.dreg [⟨(some 10), none, .q (.mov (.t 0))⟩,
             ⟨(some 11), none, .q (.mov (.t 3))⟩,
             ⟨(some 12), none, .q (.bin false .sub (.t 11) (.c (.int .i64 1)))⟩,
             ⟨(some 13), none, .q (.iad 1 (.t 10) (.t 12))⟩,
             ⟨(some 14), none, .q (.load false 1 (.t 13))⟩,
             ⟨(some 15), none, .q (.mov (.t 0))⟩,
             ⟨(some 16), none, .q (.mov (.t 3))⟩,
             ⟨(some 17), none, .q (.iad 1 (.t 15) (.t 16))⟩,
             ⟨(some 18), none, .q (.load false 1 (.t 17))⟩,
             ⟨(some 19), none, .q (.bin false .geq (.t 14) (.t 18))⟩])
           (.cond (.t 19)
            (.seq
             (.reg [⟨(some 2), none, .a (.asg (.c (.bool false)))⟩])
             .ret)
            .skip)))
         (.reg [⟨(some 8), none, .q (.mov (.t 3))⟩,
           ⟨(some 9), none, .q (.bin false .add (.t 8) (.c (.int .i64 1)))⟩,
           ⟨(some 3), none, .a (.asg (.t 9))⟩]))))))
    (.seq
     (.reg [⟨(some 2), none, .a (.asg (.c (.bool true)))⟩])
     .ret)))

set_option maxRecDepth 100000 in
theorem d85 (n : List Int) (hl : (n.length : Int) ≤ 1048576) : Does Go.Proofs.Try.prog 85 [.fsl 1 (n.map iv)] false (.v (.bool (upB n))) [.dead] := by
  refine does_intro (mc := m85) (N := 20) (rs := [2]) (fx := []) 1 rfl (by decide +kernel) ?_
  simp only [m85, EV, Nat.reduceEqDiff, Nat.reduceBEq, Nat.reduceLT, Nat.reduceLeDiff, Nat.reduceAdd, Nat.reduceSub, reduceIte]
  refine awp_loop (fun i : Nat => riseTo n (i + 1)) (fun i => stl [(0, .fsl 1 (n.map iv)), (3, .v (.int .i64 ((i : Int) + 1)))]) (fun i => n.length - i) 0 (fun j hj h => absurd h (by omega)) ?_ ?_
  · simp only [EV, Nat.reduceEqDiff, Nat.reduceBEq, Nat.reduceLT, Nat.reduceLeDiff, Nat.reduceAdd, Nat.reduceSub, reduceIte]
    rfl
  · rintro i hr
    simp only [EV, Nat.reduceEqDiff, Nat.reduceBEq, Nat.reduceLT, Nat.reduceLeDiff, Nat.reduceAdd, Nat.reduceSub, reduceIte]
    refine cK_cut (fun h => ?_) (fun h => ?_)
    · have h1 : i + 1 < n.length := by have : (i : Int) + 1 < (n.length : Int) := by simpa using h
                                       omega
      have h2 : i < n.length := by omega
      have w0 : IntKind.i64.wrap ((i : Int) + 1 - 1) = (i : Int) := by rw [w64 _ (by omega)]; omega
      have w1 : IntKind.i64.wrap ((i : Int) + 1 + 1) = ((i + 1 : Nat) : Int) + 1 := by rw [w64 _ (by omega)]; omega
      have t1 : ((i : Int) + 1).toNat = i + 1 := by omega
      have g1 : 0 ≤ (i : Int) + 1 := by omega
      have g2 : (i : Int) + 1 < (n.length : Int) := by omega
      have g3 : (i : Int) < (n.length : Int) := by omega
      simp only [w0, t1, g1, g2, g3, nth_map h1, nth_map h2, iv, EV, Nat.reduceEqDiff, Nat.reduceBEq, Nat.reduceLT, Nat.reduceLeDiff, Nat.reduceAdd, Nat.reduceSub, reduceIte]
      refine cK_cut (fun h3 => ?_) (fun h3 => ?_)
      · have e : upB n = false := by
          simp only [upB, decide_eq_false_iff_not]
          intro hp
          have := up_rise hp i h1
          have h4 : n[i + 1] ≤ n[i] := by simpa using h3
          omega
        simp only [EV, Nat.reduceEqDiff, Nat.reduceBEq, Nat.reduceLT, Nat.reduceLeDiff, Nat.reduceAdd, Nat.reduceSub, reduceIte]
        simp only [e, EV, Nat.reduceEqDiff, Nat.reduceBEq, Nat.reduceLT, Nat.reduceLeDiff, Nat.reduceAdd, Nat.reduceSub, reduceIte, evRE, retVC, cellV', evR, nfz, nfzs, nfzss, List.contains_nil, List.contains_cons, Bool.or_false, or_true]
      · simp only [EV, Nat.reduceEqDiff, Nat.reduceBEq, Nat.reduceLT, Nat.reduceLeDiff, Nat.reduceAdd, Nat.reduceSub, reduceIte]
        rw [w1]
        refine ⟨i + 1, ?_, by omega, rfl⟩
        intro j hj hji
        by_cases ej : j = i
        · subst ej
          have h4 : ¬ n[j + 1] ≤ n[j] := by simpa using h3
          omega
        · exact hr j hj (by omega)
    · have h1 : n.length ≤ i + 1 := by have : ¬ (i : Int) + 1 < (n.length : Int) := by simpa using h
                                       omega
      have e : upB n = true := by
        simp only [upB, decide_eq_true_eq]
        exact riseTo_up fun j hj hji => hr j hj (by omega)
      simp only [EV, Nat.reduceEqDiff, Nat.reduceBEq, Nat.reduceLT, Nat.reduceLeDiff, Nat.reduceAdd, Nat.reduceSub, reduceIte]
      simp only [e, EV, Nat.reduceEqDiff, Nat.reduceBEq, Nat.reduceLT, Nat.reduceLeDiff, Nat.reduceAdd, Nat.reduceSub, reduceIte, evRE, retVC, cellV', evR, nfz, nfzs, nfzss, List.contains_nil, List.contains_cons, Bool.or_false, or_true]

open Classical in
/-- Rising, and all of them between two. -/
noncomputable def upIn (n : List Int) (lo hi : Int) : Bool := decide (n.Pairwise (· < ·) ∧ ∀ k ∈ n, lo ≤ k ∧ k ≤ hi)

def inTo (n : List Int) (lo hi : Int) (i : Nat) : Prop := ∀ j (h : j < n.length), j < i → lo ≤ n[j] ∧ n[j] ≤ hi

/-- loop.example/g00837/spec.l1Rising -/
def m83 : MC :=
  (.seq
   (.reg [⟨(some 6), none, .a (.asg (.c (.bool false)))⟩])
   (.seq
    (.seq
     (.reg [⟨(some 9), none, .q (.mov (.t 0))⟩,
       ⟨(some 10), none, .q (.len false (.t 9))⟩,
       ⟨(some 11), none, .q (.mov (.c (.int .i64 0)))⟩])
     (.block 0
      (.loop [0, 1, 2, 9, 10, 11]
       (.seq
        (.reg [⟨(some 12), none, .q (.bin false .lss (.t 11) (.t 10))⟩])
        (.seq
         (.cond (.t 12)
          .skip
          (.exit 0))
         (.seq
          (.block 1
           (.seq
            (.reg [⟨(some 13), none, .q (.mov (.t 11))⟩,
              ⟨(some 14), none, .q (.iad 1 (.t 9) (.t 11))⟩,
              ⟨(some 15), none, .q (.load false 1 (.t 14))⟩,
              ⟨(some 7), none, .a (.asg (.t 13))⟩,
              ⟨(some 8), none, .a (.asg (.t 15))⟩])
            (.seq
             (.reg [⟨(some 16), none, .q (.mov (.t 8))⟩,
               ⟨(some 17), none, .q (.mov (.t 1))⟩,
               ⟨(some 18), none, .q (.mov (.t 2))⟩,
               ⟨(some 19), none, .a (.call (.fn 77) false [.lend (.t 16), .lend (.t 17), .lend (.t 18)])⟩,
               ⟨(some 20), none, .q (.un .not (.t 19))⟩,
               ⟨(some 21), none, .q (.mov (.t 20))⟩,
               ⟨(some 22), (some (21, false)), .q (.mov (.t 7))⟩,
               ⟨(some 23), (some (21, false)), .q (.bin false .gtr (.t 22) (.c (.int .i64 0)))⟩,
               ⟨(some 24), (some (21, false)), .q (.mov (.t 23))⟩,
               ⟨(some 25), (some (24, true)), .q (.mov (.t 0))⟩,
               ⟨(some 26), (some (24, true)), .q (.mov (.t 7))⟩,
               ⟨(some 27), (some (24, true)), .q (.bin false .sub (.t 26) (.c (.int .i64 1)))⟩,
               ⟨(some 28), (some (24, true)), .q (.iad 1 (.t 25) (.t 27))⟩,
               ⟨(some 29), (some (24, true)), .q (.load false 1 (.t 28))⟩,
               ⟨(some 30), (some (24, true)), .q (.mov (.t 8))⟩,
               ⟨(some 31), (some (24, true)), .q (.bin false .geq (.t 29) (.t 30))⟩,
               ⟨(some 32), (some (21, false)), .q (.pick (.t 24) (.t 31) (.c (.bool false)))⟩,
               ⟨(some 33), none, .q (.pick (.t 21) (.c (.bool true)) (.t 32))⟩])
             (.cond (.t 33)
              (.seq
               (.reg [⟨(some 6), none, .a (.asg (.c (.bool false)))⟩])
               .ret)
              .skip))))
          (.reg [⟨(some 34), none, .q (.bin false .add (.t 11) (.c (.int .i64 1)))⟩,
            ⟨(some 11), none, .q (.mov (.t 34))⟩])))))))
    (.seq
     (.reg [⟨(some 6), none, .a (.asg (.c (.bool true)))⟩])
     .ret)))

set_option maxRecDepth 100000 in
theorem d83 (n : List Int) (lo hi : Int) (hl : (n.length : Int) ≤ 1048576) : Does Go.Proofs.Try.prog 83 [.fsl 1 (n.map iv), .v (.int .i64 lo), .v (.int .i64 hi)] false (.v (.bool (upIn n lo hi))) [.dead, .dead, .dead] := by
  refine does_intro (mc := m83) (N := 35) (rs := [6]) (fx := []) 3 rfl (by decide +kernel) ?_
  simp only [m83, EV, Nat.reduceEqDiff, Nat.reduceBEq, Nat.reduceLT, Nat.reduceLeDiff, Nat.reduceAdd, Nat.reduceSub, reduceIte]
  refine awp_loop (fun i : Nat => i ≤ n.length ∧ riseTo n i ∧ inTo n lo hi i) (fun i => stl [(0, .fsl 1 (n.map iv)), (1, .v (.int .i64 lo)), (2, .v (.int .i64 hi)), (9, .fsl 1 (n.map iv)), (10, .v (.int .i64 (n.length : Int))), (11, .v (.int .i64 (i : Int)))]) (fun i => n.length - i) 0 ⟨Nat.zero_le _, fun j hj h => absurd h (by omega), fun j hj h => absurd h (by omega)⟩ ?_ ?_
  · simp only [EV, Nat.reduceEqDiff, Nat.reduceBEq, Nat.reduceLT, Nat.reduceLeDiff, Nat.reduceAdd, Nat.reduceSub, reduceIte]
    rfl
  · rintro i ⟨hi', hr, hn⟩
    simp only [EV, Nat.reduceEqDiff, Nat.reduceBEq, Nat.reduceLT, Nat.reduceLeDiff, Nat.reduceAdd, Nat.reduceSub, reduceIte]
    refine cK_cut (fun h => ?_) (fun h => ?_)
    · have h1 : i < n.length := by simpa using h
      have h2 : (i : Int) < (n.length : Int) := by omega
      have nx : (lo ≤ n[i] ∧ n[i] ≤ hi) → (∀ h : 0 < i, n[i - 1] < n[i]) → riseTo n (i + 1) ∧ inTo n lo hi (i + 1) := by
        intro q1 q2
        constructor
        · intro j hj hji
          by_cases e : j + 1 = i
          · subst e; exact q2 (by omega)
          · exact hr j hj (by omega)
        · intro j hj hji
          by_cases e : j = i
          · subst e; exact q1
          · exact hn j hj (by omega)
      clear h
      simp only [nth_map h1, h2, iv, EV, Nat.reduceEqDiff, Nat.reduceBEq, Nat.reduceLT, Nat.reduceLeDiff, Nat.reduceAdd, Nat.reduceSub, reduceIte]
      refine callK_i (d77 _ _ _) ?_
      simp only [EV, Nat.reduceEqDiff, Nat.reduceBEq, Nat.reduceLT, Nat.reduceLeDiff, Nat.reduceAdd, Nat.reduceSub, reduceIte]
      rcases e1 : (decide (lo ≤ n[i]) && decide (n[i] ≤ hi)) with _ | _
      · have e : upIn n lo hi = false := by
          simp only [upIn, decide_eq_false_iff_not]
          rintro ⟨_, hp⟩
          have := hp n[i] (List.getElem_mem h1)
          simp [this.1, this.2] at e1
        simp only [Bool.not_false, EV, Nat.reduceEqDiff, Nat.reduceBEq, Nat.reduceLT, Nat.reduceLeDiff, Nat.reduceAdd, Nat.reduceSub, reduceIte]
        simp only [e, EV, Nat.reduceEqDiff, Nat.reduceBEq, Nat.reduceLT, Nat.reduceLeDiff, Nat.reduceAdd, Nat.reduceSub, reduceIte, evRE, retVC, cellV', evR, nfz, nfzs, nfzss, List.contains_nil, List.contains_cons, Bool.or_false, or_true]
      have q1 : lo ≤ n[i] ∧ n[i] ≤ hi := by simpa using e1
      simp only [Bool.not_true, EV, Nat.reduceEqDiff, Nat.reduceBEq, Nat.reduceLT, Nat.reduceLeDiff, Nat.reduceAdd, Nat.reduceSub, reduceIte]
      refine gK_cut (fun h => ?_) (fun h => ?_)
      · have i0 : 0 < i := by have : 0 < (i : Int) := by simpa using h
                              omega
        have w0 : IntKind.i64.wrap ((i : Int) - 1) = ((i - 1 : Nat) : Int) := by rw [w64 _ (by omega)]; omega
        have g1 : i - 1 < n.length := by omega
        have g2 : ((i - 1 : Nat) : Int) < (n.length : Int) := by omega
        have t1 : (((i - 1 : Nat) : Int)).toNat = i - 1 := by omega
        simp only [h, w0, t1, g1, g2, nth_map g1, iv, EV, Nat.reduceEqDiff, Nat.reduceBEq, Nat.reduceLT, Nat.reduceLeDiff, Nat.reduceAdd, Nat.reduceSub, reduceIte]
        refine cK_cut (fun h3 => ?_) (fun h3 => ?_)
        · have e : upIn n lo hi = false := by
            simp only [upIn, decide_eq_false_iff_not]
            rintro ⟨hp, _⟩
            have := List.pairwise_iff_getElem.1 hp (i - 1) i g1 h1 (by omega)
            have h4 : n[i] ≤ n[i - 1] := by simpa using h3
            omega
          simp only [EV, Nat.reduceEqDiff, Nat.reduceBEq, Nat.reduceLT, Nat.reduceLeDiff, Nat.reduceAdd, Nat.reduceSub, reduceIte]
          simp only [e, EV, Nat.reduceEqDiff, Nat.reduceBEq, Nat.reduceLT, Nat.reduceLeDiff, Nat.reduceAdd, Nat.reduceSub, reduceIte, evRE, retVC, cellV', evR, nfz, nfzs, nfzss, List.contains_nil, List.contains_cons, Bool.or_false, or_true]
        · simp only [EV, Nat.reduceEqDiff, Nat.reduceBEq, Nat.reduceLT, Nat.reduceLeDiff, Nat.reduceAdd, Nat.reduceSub, reduceIte]
          rw [w64 _ (by omega)]
          have h4 : ¬ n[i] ≤ n[i - 1] := by simpa using h3
          exact ⟨i + 1, ⟨h1, nx q1 fun _ => by omega⟩, by omega, rfl⟩
      · have i0 : ¬ 0 < i := by have : ¬ 0 < (i : Int) := by simpa using h
                                omega
        simp only [h, EV, Nat.reduceEqDiff, Nat.reduceBEq, Nat.reduceLT, Nat.reduceLeDiff, Nat.reduceAdd, Nat.reduceSub, reduceIte]
        rw [w64 _ (by omega)]
        exact ⟨i + 1, ⟨h1, nx q1 fun h => absurd h i0⟩, by omega, rfl⟩
    · have h1 : i = n.length := by have : ¬ (i : Int) < n.length := by simpa using h
                                   omega
      subst h1
      have e : upIn n lo hi = true := by
        simp only [upIn, decide_eq_true_eq]
        refine ⟨riseTo_up hr, fun k hk => ?_⟩
        obtain ⟨j, hj, rfl⟩ := List.mem_iff_getElem.1 hk
        exact hn j hj hj
      simp only [EV, Nat.reduceEqDiff, Nat.reduceBEq, Nat.reduceLT, Nat.reduceLeDiff, Nat.reduceAdd, Nat.reduceSub, reduceIte]
      simp only [e, EV, Nat.reduceEqDiff, Nat.reduceBEq, Nat.reduceLT, Nat.reduceLeDiff, Nat.reduceAdd, Nat.reduceSub, reduceIte, evRE, retVC, cellV', evR, nfz, nfzs, nfzss, List.contains_nil, List.contains_cons, Bool.or_false, or_true]

/-- slices.IndexFunc[[]int,int] -/
def m134 : MC :=
  (.seq
   (.reg [⟨(some 4), none, .a (.asg (.c (.int .i64 0)))⟩])
   (.seq
    (.seq
     (.reg [⟨(some 6), none, .q (.mov (.t 0))⟩,
       ⟨(some 7), none, .q (.len false (.t 6))⟩,
       ⟨(some 8), none, .q (.mov (.c (.int .i64 0)))⟩])
     (.block 0
      (.loop [0, 1, 7, 8]
       (.seq
        (.reg [⟨(some 9), none, .q (.bin false .lss (.t 8) (.t 7))⟩])
        (.seq
         (.cond (.t 9)
          .skip
          (.exit 0))
         (.seq
          (.block 1
           (.seq
            (.reg [⟨(some 10), none, .q (.mov (.t 8))⟩,
              ⟨(some 5), none, .a (.asg (.t 10))⟩])
            (.seq
             (.reg [⟨(some 11), none, .q (.mov (.t 1))⟩,
               ⟨(some 12), none, .q (.mov (.t 0))⟩,
               ⟨(some 13), none, .q (.mov (.t 5))⟩,
               ⟨(some 14), none, .q (.iad 1 (.t 12) (.t 13))⟩,
               ⟨(some 15), none, .q (.load false 1 (.t 14))⟩,
               ⟨(some 16), none, .a (.call (.t 11) false [.lend (.t 15)])⟩])
             (.cond (.t 16)
              (.seq
               (.reg [⟨(some 17), none, .q (.mov (.t 5))⟩,
                 ⟨(some 4), none, .a (.asg (.t 17))⟩])
               .ret)
              .skip))))
          (.reg [⟨(some 18), none, .q (.bin false .add (.t 8) (.c (.int .i64 1)))⟩,
            ⟨(some 8), none, .q (.mov (.t 18))⟩])))))))
    (.seq
     (.reg [⟨(some 4), none, .a (.asg (.c (.int .i64 (-1))))⟩])
     .ret)))

theorem d134 (l : List Int) (hl : l.length < 9223372036854775807) (f : Nat) (caps : List AV) (q : Int → Bool) (hp : plains caps = true) (hb : bares caps = true) (hk : ∀ K, killVs K caps = caps) (hf : ∀ (st : St), frzBs st caps = caps)
    (hq : ∀ s ∈ l, Does Go.Proofs.Try.prog f (.v (.int .i64 s) :: caps) false (.v (.bool (q s))) (.dead :: caps.map fun _ => .dead)) :
    Does Go.Proofs.Try.prog 134 [.fsl 1 (l.map iv), .clo f caps] false (.v (.int .i64 (findI q l))) [.dead, .dead] := by
  refine does_intro (mc := m134) (N := 19) (rs := [4]) (fx := []) 2 rfl (by decide +kernel) ?_
  simp only [m134, EV, Nat.reduceEqDiff, Nat.reduceBEq, Nat.reduceLT, Nat.reduceLeDiff, Nat.reduceAdd, Nat.reduceSub, reduceIte]
  refine awp_loop (fun i : Nat => i ≤ l.length ∧ ∀ j (hj : j < l.length), j < i → q l[j] = false) (fun i => stl [(0, .fsl 1 (l.map iv)), (1, .clo f caps), (7, .v (.int .i64 (l.length : Int))), (8, .v (.int .i64 (i : Int)))]) (fun i => l.length - i) 0 ⟨Nat.zero_le _, fun j hj h => absurd h (by omega)⟩ ?_ ?_
  · simp only [hp, hb, hk, EV, Nat.reduceEqDiff, Nat.reduceBEq, Nat.reduceLT, Nat.reduceLeDiff, Nat.reduceAdd, Nat.reduceSub, reduceIte]
    rfl
  · rintro i ⟨hi, hno⟩
    simp only [EV, Nat.reduceEqDiff, Nat.reduceBEq, Nat.reduceLT, Nat.reduceLeDiff, Nat.reduceAdd, Nat.reduceSub, reduceIte]
    refine cK_cut (fun h => ?_) (fun h => ?_)
    · have h1 : i < l.length := by simpa using h
      have h2 : (i : Int) < (l.length : Int) := by omega
      simp only [nth_map h1, h2, iv, hp, hb, EV, Nat.reduceEqDiff, Nat.reduceBEq, Nat.reduceLT, Nat.reduceLeDiff, Nat.reduceAdd, Nat.reduceSub, reduceIte]
      refine callK_i (hq l[i] (List.getElem_mem h1)) ?_
      simp only [EV, Nat.reduceEqDiff, Nat.reduceBEq, Nat.reduceLT, Nat.reduceLeDiff, Nat.reduceAdd, Nat.reduceSub, reduceIte]
      refine cK_cut (fun h => ?_) (fun h => ?_)
      · simp only [EV, Nat.reduceEqDiff, Nat.reduceBEq, Nat.reduceLT, Nat.reduceLeDiff, Nat.reduceAdd, Nat.reduceSub, reduceIte]
        simp only [findI_at h1 h hno, EV, Nat.reduceEqDiff, Nat.reduceBEq, Nat.reduceLT, Nat.reduceLeDiff, Nat.reduceAdd, Nat.reduceSub, reduceIte, evRE, retVC, cellV', evR, nfz, nfzs, nfzss, List.contains_nil, List.contains_cons, Bool.or_false, or_true]
      · simp only [hp, hb, hk, EV, Nat.reduceEqDiff, Nat.reduceBEq, Nat.reduceLT, Nat.reduceLeDiff, Nat.reduceAdd, Nat.reduceSub, reduceIte]
        rw [w64 _ (by omega)]
        refine ⟨i + 1, ⟨by omega, ?_⟩, by omega, rfl⟩
        intro j hj hji
        by_cases e : j = i
        · subst e; exact h
        · exact hno j hj (by omega)
    · have h1 : i = l.length := by have : ¬ (i : Int) < l.length := by simpa using h
                                   omega
      subst h1
      simp only [EV, Nat.reduceEqDiff, Nat.reduceBEq, Nat.reduceLT, Nat.reduceLeDiff, Nat.reduceAdd, Nat.reduceSub, reduceIte]
      simp only [findI_no (fun j hj => hno j hj hj), EV, Nat.reduceEqDiff, Nat.reduceBEq, Nat.reduceLT, Nat.reduceLeDiff, Nat.reduceAdd, Nat.reduceSub, reduceIte, evRE, retVC, cellV', evR, nfz, nfzs, nfzss, List.contains_nil, List.contains_cons, Bool.or_false, or_true]

/-- slices.ContainsFunc[[]int,int] -/
def m86 : MC :=
  (.seq
   (.reg [⟨(some 4), none, .a (.asg (.c (.bool false)))⟩])
   (.seq
    (.reg [⟨(some 5), none, .q (.mov (.t 0))⟩,
      ⟨(some 6), none, .q (.mov (.t 1))⟩,
      ⟨(some 7), none, .a (.call (.fn 134) false [.lend (.t 5), .lend (.t 6)])⟩,
      ⟨(some 8), none, .q (.bin false .geq (.t 7) (.c (.int .i64 0)))⟩,
      ⟨(some 4), none, .a (.asg (.t 8))⟩])
    .ret))

theorem d86 (l : List Int) (hl : l.length < 9223372036854775807) (f : Nat) (caps : List AV) (q : Int → Bool) (hp : plains caps = true) (hb : bares caps = true) (hk : ∀ K, killVs K caps = caps) (hf : ∀ (st : St), frzBs st caps = caps)
    (hq : ∀ s ∈ l, Does Go.Proofs.Try.prog f (.v (.int .i64 s) :: caps) false (.v (.bool (q s))) (.dead :: caps.map fun _ => .dead)) :
    Does Go.Proofs.Try.prog 86 [.fsl 1 (l.map iv), .clo f caps] false (.v (.bool (l.any q))) [.dead, .dead] := by
  refine does_intro (mc := m86) (N := 9) (rs := [4]) (fx := []) 2 rfl (by decide +kernel) ?_
  simp only [m86, hp, hb, hk, hf, EV, Nat.reduceEqDiff, Nat.reduceBEq, Nat.reduceLT, Nat.reduceLeDiff, Nat.reduceAdd, Nat.reduceSub, reduceIte]
  refine callK_i (d134 l hl f caps q hp hb hk hf hq) ?_
  simp only [EV, Nat.reduceEqDiff, Nat.reduceBEq, Nat.reduceLT, Nat.reduceLeDiff, Nat.reduceAdd, Nat.reduceSub, reduceIte]
  simp only [findI_any, EV, Nat.reduceEqDiff, Nat.reduceBEq, Nat.reduceLT, Nat.reduceLeDiff, Nat.reduceAdd, Nat.reduceSub, reduceIte, evRE, retVC, cellV', evR, nfz, nfzs, nfzss, List.contains_nil, List.contains_cons, Bool.or_false, or_true]

/-- loop.example/g00837/impl.ReachedOf$1 -/
def m87 : MC :=
  (.seq
   (.reg [⟨(some 3), none, .a (.asg (.c (.bool false)))⟩])
   (.seq
    (.reg [⟨(some 4), none, .q (.load false 1 (.t 1))⟩,
      ⟨(some 5), none, .q (.mov (.t 0))⟩,
      ⟨(some 6), none, .a (.call (.fn 80) false [.lend (.t 4), .lend (.t 5)])⟩,
      ⟨(some 7), none, .q (.un .not (.t 6))⟩,
      ⟨(some 3), none, .a (.asg (.t 7))⟩])
    .ret))

theorem d87 (l : List Ty) (n : Int) (hl : (l.length : Int) ≤ 1048576) : Does Go.Proofs.Try.prog 87 [.v (.int .i64 n), .fptr [.fsl 6 (l.map Ty.z)]] false (.v (.bool (!isNum l n))) [.dead, .dead] := by
  refine does_intro (mc := m87) (N := 8) (rs := [3]) (fx := []) 2 rfl (by decide +kernel) ?_
  simp only [m87, EV, Nat.reduceEqDiff, Nat.reduceBEq, Nat.reduceLT, Nat.reduceLeDiff, Nat.reduceAdd, Nat.reduceSub, reduceIte]
  refine callK_i (d80 l n hl) ?_
  simp only [EV, Nat.reduceEqDiff, Nat.reduceBEq, Nat.reduceLT, Nat.reduceLeDiff, Nat.reduceAdd, Nat.reduceSub, reduceIte]
  simp only [EV, Nat.reduceEqDiff, Nat.reduceBEq, Nat.reduceLT, Nat.reduceLeDiff, Nat.reduceAdd, Nat.reduceSub, reduceIte, evRE, retVC, cellV', evR, nfz, nfzs, nfzss, List.contains_nil, List.contains_cons, Bool.or_false, or_true]

noncomputable def rchOk (l : List Ty) (n : List Int) : Bool := tabOk l && upIn n 0 ((l.length : Int) - 1)

theorem upIn_eq (n : List Int) (l : List Ty) : upIn n 0 ((l.length : Int) - 1) = (upB n && !(n.any fun k => !isNum l k)) := by
  unfold upIn upB
  rw [Bool.eq_iff_iff]
  simp only [decide_eq_true_eq, Bool.and_eq_true, Bool.not_eq_true', List.any_eq_false, Bool.not_eq_true, Bool.not_eq_false']
  constructor
  · rintro ⟨h1, h2⟩
    refine ⟨h1, fun k hk => ?_⟩
    have h3 := h2 k hk
    rw [isNum_in.2 (show 0 ≤ k ∧ k < (l.length : Int) by omega)]
    simp
  · rintro ⟨h1, h2⟩
    refine ⟨h1, fun k hk => ?_⟩
    have := isNum_in.1 (show isNum l k = true by simpa using h2 k hk)
    omega

theorem rchOk_spec {l : List Ty} {n : List Int} (h : rchOk l n = true) : tabOk l = true ∧ n.Nodup ∧ ∀ k ∈ n, 0 ≤ k ∧ k < (l.length : Int) := by
  simp only [rchOk, Bool.and_eq_true, upIn, decide_eq_true_eq] at h
  exact ⟨h.1, up_nodup h.2.1, fun k hk => by have := h.2.2 k hk; omega⟩

/-- loop.example/g00837/impl.ReachedOf -/
def m29 : MC :=
  (.seq
   (.reg [⟨(some 2), none, .a (.box 32 (.t 0))⟩,
     ⟨(some 4), none, .a (.asg (.nils 3 1))⟩,
     ⟨(some 5), none, .a (.asg (.c (.bool false)))⟩])
   (.seq
    (.seq
     (.reg [⟨(some 6), none, .q (.load false 1 (.t 2))⟩,
       ⟨(some 7), none, .a (.call (.fn 79) false [.lend (.t 6)])⟩,
       ⟨(some 8), none, .q (.un .not (.t 7))⟩,
       ⟨(some 9), none, .q (.mov (.t 8))⟩,
       ⟨(some 10), (some (9, false)), .q (.mov (.t 1))⟩,
       ⟨(some 11), (some (9, false)), .a (.call (.fn 85) false [.lend (.t 10)])⟩,
       ⟨(some 12), (some (9, false)), .q (.un .not (.t 11))⟩,
       ⟨(some 13), none, .q (.pick (.t 9) (.c (.bool true)) (.t 12))⟩,
       ⟨(some 14), none, .q (.mov (.t 13))⟩,
       ⟨(some 15), (some (14, false)), .q (.mov (.t 1))⟩,
       ⟨(some 16), (some (14, false)), .q (.mkf 87 [.t 2])⟩,
       ⟨(some 17), (some (14, false)), .a (.call (.fn 86) false [.lend (.t 15), .lend (.t 16)])⟩,
       ⟨(some 18), none, .q (.pick (.t 14) (.c (.bool true)) (.t 17))⟩])
     (.cond (.t 18)
      (.seq
       (.reg [⟨(some 4), none, .a (.asg (.nils 3 1))⟩,
         ⟨(some 5), none, .a (.asg (.c (.bool false)))⟩])
       .ret)
      .skip))
    (.seq
     (.reg [⟨(some 19), none, .q (.load false 1 (.t 2))⟩,
       ⟨(some 20), none, .q (.mov (.t 1))⟩,
       ⟨(some 21), none, .a (.call (.fn 88) false [.lend (.t 19), .lend (.t 20), .lend (.c (.bool true))])⟩,
       ⟨(some 4), none, .a (.asg (.t 21))⟩,
       ⟨(some 5), none, .a (.asg (.c (.bool true)))⟩])
     .ret)))

set_option maxRecDepth 100000 in
theorem d29 (l : List Ty) (n : List Int) (hl : (l.length : Int) ≤ 1048576) (hs : ∀ s ∈ l, s.sm) (hn : (n.length : Int) ≤ 1048576) :
    Does Go.Proofs.Try.prog 29 [.fsl 6 (l.map Ty.z), .fsl 1 (n.map iv)] false (.tup [.usl 3 1 ((if rchOk l n = true then reachL l true n else []).map iv), .v (.bool (rchOk l n))]) [.dead, .dead] := by
  refine does_intro (mc := m29) (N := 22) (rs := [4, 5]) (fx := []) 2 rfl (by decide +kernel) ?_
  simp only [m29, EV, Nat.reduceEqDiff, Nat.reduceBEq, Nat.reduceLT, Nat.reduceLeDiff, Nat.reduceAdd, Nat.reduceSub, reduceIte]
  refine callK_i (d79 l hl hs) ?_
  simp only [EV, Nat.reduceEqDiff, Nat.reduceBEq, Nat.reduceLT, Nat.reduceLeDiff, Nat.reduceAdd, Nat.reduceSub, reduceIte]
  rcases ht : tabOk l with _ | _
  · have e : rchOk l n = false := by unfold rchOk; rw [ht]; rfl
    simp only [Bool.not_false, EV, Nat.reduceEqDiff, Nat.reduceBEq, Nat.reduceLT, Nat.reduceLeDiff, Nat.reduceAdd, Nat.reduceSub, reduceIte]
    simp only [e, List.map_nil, EV, Nat.reduceEqDiff, Nat.reduceBEq, Nat.reduceLT, Nat.reduceLeDiff, Nat.reduceAdd, Nat.reduceSub, reduceIte, evRE, retVC, cellV', evR, nfz, nfzs, nfzss, List.contains_nil, List.contains_cons, Bool.or_false, or_true]
  simp only [Bool.not_true, EV, Nat.reduceEqDiff, Nat.reduceBEq, Nat.reduceLT, Nat.reduceLeDiff, Nat.reduceAdd, Nat.reduceSub, reduceIte]
  refine callK_i (d85 n hn) ?_
  simp only [EV, Nat.reduceEqDiff, Nat.reduceBEq, Nat.reduceLT, Nat.reduceLeDiff, Nat.reduceAdd, Nat.reduceSub, reduceIte]
  have hu := upIn_eq n l
  rcases hb : upB n with _ | _
  · have e : rchOk l n = false := by unfold rchOk; rw [ht, hu, hb]; rfl
    simp only [Bool.not_false, EV, Nat.reduceEqDiff, Nat.reduceBEq, Nat.reduceLT, Nat.reduceLeDiff, Nat.reduceAdd, Nat.reduceSub, reduceIte]
    simp only [e, List.map_nil, EV, Nat.reduceEqDiff, Nat.reduceBEq, Nat.reduceLT, Nat.reduceLeDiff, Nat.reduceAdd, Nat.reduceSub, reduceIte, evRE, retVC, cellV', evR, nfz, nfzs, nfzss, List.contains_nil, List.contains_cons, Bool.or_false, or_true]
  simp only [Bool.not_true, EV, Nat.reduceEqDiff, Nat.reduceBEq, Nat.reduceLT, Nat.reduceLeDiff, Nat.reduceAdd, Nat.reduceSub, reduceIte]
  refine callK_i (d86 n (by omega) 87 [.fptr [.fsl 6 (l.map Ty.z)]] (fun k => !isNum l k) rfl rfl (fun _ => rfl) (fun _ => rfl) (fun s _ => d87 l s hl)) ?_
  simp only [EV, Nat.reduceEqDiff, Nat.reduceBEq, Nat.reduceLT, Nat.reduceLeDiff, Nat.reduceAdd, Nat.reduceSub, reduceIte]
  rcases ha : (n.any fun k => !isNum l k) with _ | _
  rotate_left
  · have e : rchOk l n = false := by unfold rchOk; rw [ht, hu, hb, ha]; rfl
    simp only [EV, Nat.reduceEqDiff, Nat.reduceBEq, Nat.reduceLT, Nat.reduceLeDiff, Nat.reduceAdd, Nat.reduceSub, reduceIte]
    simp only [e, List.map_nil, EV, Nat.reduceEqDiff, Nat.reduceBEq, Nat.reduceLT, Nat.reduceLeDiff, Nat.reduceAdd, Nat.reduceSub, reduceIte, evRE, retVC, cellV', evR, nfz, nfzs, nfzss, List.contains_nil, List.contains_cons, Bool.or_false, or_true]
  have e : rchOk l n = true := by unfold rchOk; rw [ht, hu, hb, ha]; rfl
  obtain ⟨_, hnd, hin⟩ := rchOk_spec e
  simp only [EV, Nat.reduceEqDiff, Nat.reduceBEq, Nat.reduceLT, Nat.reduceLeDiff, Nat.reduceAdd, Nat.reduceSub, reduceIte]
  refine callK_i (d88 l n true hl hs (tabOk_tys ht) hin hnd) ?_
  simp only [EV, Nat.reduceEqDiff, Nat.reduceBEq, Nat.reduceLT, Nat.reduceLeDiff, Nat.reduceAdd, Nat.reduceSub, reduceIte]
  simp only [e, iv_nfz, EV, Nat.reduceEqDiff, Nat.reduceBEq, Nat.reduceLT, Nat.reduceLeDiff, Nat.reduceAdd, Nat.reduceSub, reduceIte, evRE, retVC, cellV', evR, nfz, nfzs, nfzss, List.contains_nil, List.contains_cons, Bool.or_false, or_true]

/-- loop.example/g00837/spec.ReachedOf -/
def m27 : MC :=
  (.seq
   (.reg [⟨(some 4), none, .a (.asg (.nils 3 1))⟩,
     ⟨(some 5), none, .a (.asg (.c (.bool false)))⟩])
   (.seq
    (.seq
     (.reg [⟨(some 6), none, .q (.mov (.t 0))⟩,
       ⟨(some 7), none, .a (.call (.fn 82) false [.lend (.t 6)])⟩,
       ⟨(some 8), none, .q (.un .not (.t 7))⟩,
       ⟨(some 9), none, .q (.mov (.t 8))⟩,
       ⟨(some 10), (some (9, false)), .q (.mov (.t 1))⟩,
       ⟨(some 11), (some (9, false)), .q (.mov (.t 0))⟩,
       ⟨(some 12), (some (9, false)), .q (.len false (.t 11))⟩,
       ⟨(some 13), (some (9, false)), .q (.bin false .sub (.t 12) (.c (.int .i64 1)))⟩,
       ⟨(some 14), (some (9, false)), .a (.call (.fn 83) false [.lend (.t 10), .lend (.c (.int .i64 0)), .lend (.t 13)])⟩,
       ⟨(some 15), (some (9, false)), .q (.un .not (.t 14))⟩,
       ⟨(some 16), none, .q (.pick (.t 9) (.c (.bool true)) (.t 15))⟩])
     (.cond (.t 16)
      (.seq
       (.reg [⟨(some 4), none, .a (.asg (.nils 3 1))⟩,
         ⟨(some 5), none, .a (.asg (.c (.bool false)))⟩])
       .ret)
      .skip))
    (.seq
     (.reg [⟨(some 17), none, .q (.mov (.t 0))⟩,
       ⟨(some 18), none, .q (.mov (.t 1))⟩,
       ⟨(some 19), none, .a (.call (.fn 84) false [.lend (.t 17), .lend (.t 18), .lend (.c (.bool true))])⟩,
       ⟨(some 4), none, .a (.asg (.t 19))⟩,
       ⟨(some 5), none, .a (.asg (.c (.bool true)))⟩])
     .ret)))

set_option maxRecDepth 100000 in
theorem d27 (l : List Ty) (n : List Int) (hl : (l.length : Int) ≤ 1048576) (hs : ∀ s ∈ l, s.sm) (hn : (n.length : Int) ≤ 1048576) :
    Does Go.Proofs.Try.prog 27 [.fsl 6 (l.map Ty.z), .fsl 1 (n.map iv)] false (.tup [.usl 3 1 ((if rchOk l n = true then reachL l true n else []).map iv), .v (.bool (rchOk l n))]) [.dead, .dead] := by
  refine does_intro (mc := m27) (N := 20) (rs := [4, 5]) (fx := []) 2 rfl (by decide +kernel) ?_
  simp only [m27, EV, Nat.reduceEqDiff, Nat.reduceBEq, Nat.reduceLT, Nat.reduceLeDiff, Nat.reduceAdd, Nat.reduceSub, reduceIte]
  refine callK_i (d82 l hl hs) ?_
  simp only [EV, Nat.reduceEqDiff, Nat.reduceBEq, Nat.reduceLT, Nat.reduceLeDiff, Nat.reduceAdd, Nat.reduceSub, reduceIte]
  rcases ht : tabOk l with _ | _
  · have e : rchOk l n = false := by unfold rchOk; rw [ht]; rfl
    simp only [Bool.not_false, EV, Nat.reduceEqDiff, Nat.reduceBEq, Nat.reduceLT, Nat.reduceLeDiff, Nat.reduceAdd, Nat.reduceSub, reduceIte]
    simp only [e, List.map_nil, EV, Nat.reduceEqDiff, Nat.reduceBEq, Nat.reduceLT, Nat.reduceLeDiff, Nat.reduceAdd, Nat.reduceSub, reduceIte, evRE, retVC, cellV', evR, nfz, nfzs, nfzss, List.contains_nil, List.contains_cons, Bool.or_false, or_true]
  simp only [Bool.not_true, EV, Nat.reduceEqDiff, Nat.reduceBEq, Nat.reduceLT, Nat.reduceLeDiff, Nat.reduceAdd, Nat.reduceSub, reduceIte]
  rw [w64 _ (by omega)]
  refine callK_i (d83 n 0 ((l.length : Int) - 1) hn) ?_
  simp only [EV, Nat.reduceEqDiff, Nat.reduceBEq, Nat.reduceLT, Nat.reduceLeDiff, Nat.reduceAdd, Nat.reduceSub, reduceIte]
  rcases hb : upIn n 0 ((l.length : Int) - 1) with _ | _
  · have e : rchOk l n = false := by unfold rchOk; rw [ht, hb]; rfl
    simp only [Bool.not_false, EV, Nat.reduceEqDiff, Nat.reduceBEq, Nat.reduceLT, Nat.reduceLeDiff, Nat.reduceAdd, Nat.reduceSub, reduceIte]
    simp only [e, List.map_nil, EV, Nat.reduceEqDiff, Nat.reduceBEq, Nat.reduceLT, Nat.reduceLeDiff, Nat.reduceAdd, Nat.reduceSub, reduceIte, evRE, retVC, cellV', evR, nfz, nfzs, nfzss, List.contains_nil, List.contains_cons, Bool.or_false, or_true]
  have e : rchOk l n = true := by unfold rchOk; rw [ht, hb]; rfl
  obtain ⟨_, hnd, hin⟩ := rchOk_spec e
  simp only [Bool.not_true, EV, Nat.reduceEqDiff, Nat.reduceBEq, Nat.reduceLT, Nat.reduceLeDiff, Nat.reduceAdd, Nat.reduceSub, reduceIte]
  refine callK_i (d84 l n true hl hs (tabOk_tys ht) hin hn) ?_
  simp only [EV, Nat.reduceEqDiff, Nat.reduceBEq, Nat.reduceLT, Nat.reduceLeDiff, Nat.reduceAdd, Nat.reduceSub, reduceIte]
  simp only [e, iv_nfz, EV, Nat.reduceEqDiff, Nat.reduceBEq, Nat.reduceLT, Nat.reduceLeDiff, Nat.reduceAdd, Nat.reduceSub, reduceIte, evRE, retVC, cellV', evR, nfz, nfzs, nfzss, List.contains_nil, List.contains_cons, Bool.or_false, or_true]

end Go.AM
