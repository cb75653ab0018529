/- Contracts of functions of the given program, for the law FnReached: what they return and what they write, under the bounds that each theorem states. -/
import Derived.Test.YtjbmgopednpbmaaG2
namespace Go.AM
set_option linter.unusedVariables false
set_option linter.unusedSimpArgs false
theorem tyNm_comm (x o : Ty) : tyNm x o = ((x.name.toList == o.name.toList) && (x.owner.toList == o.owner.toList)) := by
  unfold tyNm
  rw [Bool.beq_comm, Bool.beq_comm (a := o.owner.toList)]

theorem tysOk_base' {l : List Ty} (h : baseOk l = false) : tysOk l = false := by
  unfold tysOk
  unfold baseOk at h
  rcases e : decide (3 ≤ (l.length : Int)) with _ | _
  · simp only [Bool.false_and]
  · rw [e, Bool.true_and] at h
    simp only [h, Bool.false_and, Bool.and_false]

theorem tysOk_long {l : List Ty} (h : 24 < (l.length : Int)) : tysOk l = false := by
  unfold tysOk
  have : decide ((l.length : Int) ≤ 24) = false := decide_eq_false (by omega)
  simp only [this, Bool.false_and, Bool.and_false]

/-- loop.example/g00837/spec.l3Nearly -/
def m110 : MC :=
  (.seq
   (.reg [⟨(some 2), none, .a (.asg (.c (.bool false)))⟩])
   (.seq
    (.seq
     (.reg [⟨(some 7), none, .q (.mov (.t 0))⟩,
       ⟨(some 8), none, .a (.call (.fn 149) false [.lend (.t 7)])⟩,
       ⟨(some 9), none, .q (.un .not (.t 8))⟩,
       ⟨(some 10), none, .q (.mov (.t 9))⟩,
       ⟨(some 11), (some (10, false)), .q (.mov (.t 0))⟩,
       ⟨(some 12), (some (10, false)), .q (.len false (.t 11))⟩,
       ⟨(some 13), (some (10, false)), .q (.bin false .gtr (.t 12) (.c (.int .i64 24)))⟩,
       ⟨(some 14), none, .q (.pick (.t 10) (.c (.bool true)) (.t 13))⟩])
     (.cond (.t 14)
      (.seq
       (.reg [⟨(some 2), none, .a (.asg (.c (.bool false)))⟩])
       .ret)
      .skip))
    (.seq
     (.seq
      (.reg [⟨(some 15), none, .q (.mov (.t 0))⟩,
        ⟨(some 16), none, .q (.slc false 6 (.t 15) (some (.c (.int .i64 3))) none)⟩,
        ⟨(some 17), none, .q (.len false (.t 16))⟩,
        ⟨(some 18), none, .q (.mov (.c (.int .i64 0)))⟩])
      (.block 0
       (.loop [0, 15, 16, 17, 18]
        (.seq
         (.reg [⟨(some 19), none, .q (.bin false .lss (.t 18) (.t 17))⟩])
         (.seq
          (.cond (.t 19)
           .skip
           (.exit 0))
          (.seq
           (.block 1
            (.seq
             (.reg [⟨(some 20), none, .q (.mov (.t 18))⟩,
               ⟨(some 21), none, .q (.iad 6 (.t 16) (.t 18))⟩,
               ⟨(some 22), none, .q (.load true 6 (.t 21))⟩,
               ⟨(some 4), none, .a (.alloc 59 [.v (.int .i64 0), .v (.int .i64 0), .v (.int .i64 0), .s 57 3, .v (.string ({ data := #[] })), .v (.string ({ data := #[] }))])⟩,
               ⟨(some 3), none, .a (.asg (.t 20))⟩,
               ⟨none, none, .a (.store 6 (.t 4) (.t 22))⟩])
             (.seq
              (.seq
               (.reg [⟨(some 23), none, .q (.mov (.t 0))⟩,
                 ⟨(some 24), none, .q (.load true 6 (.t 4))⟩,
                 ⟨(some 25), none, .a (.call (.fn 150) false [.lend (.t 23), .lend (.t 24)])⟩,
                 ⟨(some 26), none, .q (.un .not (.t 25))⟩])
               (.cond (.t 26)
                (.seq
                 (.reg [⟨(some 2), none, .a (.asg (.c (.bool false)))⟩])
                 .ret)
                .skip))
              (.seq
               (.reg [⟨(some 27), none, .q (.mov (.t 0))⟩,
                 ⟨(some 28), none, .q (.mov (.t 3))⟩,
                 ⟨(some 29), none, .q (.bin false .add (.c (.int .i64 3)) (.t 28))⟩,
                 ⟨(some 30), none, .q (.slc false 6 (.t 27) (some (.c (.int .i64 3))) (some (.t 29)))⟩,
                 ⟨(some 31), none, .q (.len false (.t 30))⟩,
                 ⟨(some 32), none, .q (.mov (.c (.int .i64 0)))⟩])
               (.block 2
                (.loop [0, 4, 15, 16, 17, 18, 27, 29, 30, 31, 32]
                 (.seq
                  (.reg [⟨(some 33), none, .q (.bin false .lss (.t 32) (.t 31))⟩])
                  (.seq
                   (.cond (.t 33)
                    .skip
                    (.exit 2))
                   (.seq
                    (.block 3
                     (.seq
                      (.reg [⟨(some 34), none, .q (.iad 6 (.t 30) (.t 32))⟩,
                        ⟨(some 35), none, .q (.load true 6 (.t 34))⟩,
                        ⟨(some 6), none, .a (.alloc 59 [.v (.int .i64 0), .v (.int .i64 0), .v (.int .i64 0), .s 57 3, .v (.string ({ data := #[] })), .v (.string ({ data := #[] }))])⟩,
                        ⟨none, none, .a (.store 6 (.t 6) (.t 35))⟩])
                      (.seq
                       (.reg [⟨(some 36), none, .q (.fad 5 (.t 4))⟩,
                         ⟨(some 37), none, .q (.load false 1 (.t 36))⟩,
                         ⟨(some 38), none, .q (.bin false .neq (.t 37) (.c (.string ({ data := #[] }))))⟩,
                         ⟨(some 39), none, .q (.mov (.t 38))⟩,
                         ⟨(some 40), (some (39, true)), .q (.fad 5 (.t 4))⟩,
                         ⟨(some 41), (some (39, true)), .q (.load false 1 (.t 40))⟩,
                         ⟨(some 42), (some (39, true)), .q (.fad 5 (.t 6))⟩,
                         ⟨(some 43), (some (39, true)), .q (.load false 1 (.t 42))⟩,
                         ⟨(some 44), (some (39, true)), .q (.bin false .eql (.t 41) (.t 43))⟩,
                         ⟨(some 45), none, .q (.pick (.t 39) (.t 44) (.c (.bool false)))⟩,
                         ⟨(some 46), none, .q (.mov (.t 45))⟩,
                         ⟨(some 47), (some (46, true)), .q (.fad 4 (.t 4))⟩,
                         ⟨(some 48), (some (46, true)), .q (.load false 1 (.t 47))⟩,
                         ⟨(some 49), (some (46, true)), .q (.fad 4 (.t 6))⟩,
                         ⟨(some 50), (some (46, true)), .q (.load false 1 (.t 49))⟩,
                         ⟨(some 51), (some (46, true)), .q (.bin false .eql (.t 48) (.t 50))⟩,
                         ⟨(some 52), none, .q (.pick (.t 46) (.t 51) (.c (.bool false)))⟩])
                       (.cond (.t 52)
                        (.seq
                         (.reg [⟨(some 2), none, .a (.asg (.c (.bool false)))⟩])
                         .ret)
                        .skip))))
                    (.reg [⟨(some 53), none, .q (.bin false .add (.t 32) (.c (.int .i64 1)))⟩,
                      ⟨(some 32), none, .q (.mov (.t 53))⟩]))))))))))
           (.reg [⟨(some 54), none, .q (.bin false .add (.t 18) (.c (.int .i64 1)))⟩,
             ⟨(some 18), none, .q (.mov (.t 54))⟩])))))))
     (.seq
      (.reg [⟨(some 2), none, .a (.asg (.c (.bool true)))⟩])
      .ret))))

set_option maxHeartbeats 1000000 in
set_option maxRecDepth 100000 in
theorem d110 (l : List Ty) (hl : (l.length : Int) ≤ 1048576) (hs : ∀ s ∈ l, s.sm) : Does Go.Proofs.Try.prog 110 [.fsl 6 (l.map Ty.z)] false (.v (.bool (tysOk l))) [.dead] := by
  refine does_intro (mc := m110) (N := 55) (rs := [2]) (fx := []) 1 rfl (by decide +kernel) ?_
  simp only [m110, EV, Nat.reduceEqDiff, Nat.reduceBEq, Nat.reduceLT, Nat.reduceLeDiff, Nat.reduceAdd, Nat.reduceSub, reduceIte]
  refine callK_i (d149 l hl) ?_
  simp only [EV, Nat.reduceEqDiff, Nat.reduceBEq, Nat.reduceLT, Nat.reduceLeDiff, Nat.reduceAdd, Nat.reduceSub, reduceIte]
  rcases hb : baseOk l with _ | _
  · have e : tysOk l = false := tysOk_base' hb
    simp only [EV, Nat.reduceEqDiff, Nat.reduceBEq, Nat.reduceLT, Nat.reduceLeDiff, Nat.reduceAdd, Nat.reduceSub, reduceIte]
    simp only [e, EV, Nat.reduceEqDiff, Nat.reduceBEq, Nat.reduceLT, Nat.reduceLeDiff, Nat.reduceAdd, Nat.reduceSub, reduceIte, evRE, retVC, cellV', evR, nfz, nfzs, nfzss, List.contains_nil, List.contains_cons, Bool.or_false, or_true]
  simp only [EV, Nat.reduceEqDiff, Nat.reduceBEq, Nat.reduceLT, Nat.reduceLeDiff, Nat.reduceAdd, Nat.reduceSub, reduceIte]
  refine cK_cut (fun h => ?_) (fun h => ?_)
  · have e : tysOk l = false := tysOk_long (by simpa using h)
    simp only [EV, Nat.reduceEqDiff, Nat.reduceBEq, Nat.reduceLT, Nat.reduceLeDiff, Nat.reduceAdd, Nat.reduceSub, reduceIte]
    simp only [e, EV, Nat.reduceEqDiff, Nat.reduceBEq, Nat.reduceLT, Nat.reduceLeDiff, Nat.reduceAdd, Nat.reduceSub, reduceIte, evRE, retVC, cellV', evR, nfz, nfzs, nfzss, List.contains_nil, List.contains_cons, Bool.or_false, or_true]
  have h24 : (l.length : Int) ≤ 24 := by have : ¬ 24 < (l.length : Int) := by simpa using h
                                         omega
  have hbo := hb
  simp only [baseOk, Bool.and_eq_true, decide_eq_true_eq] at hbo
  obtain ⟨hl3, e2⟩ := hbo
  have e1 : (decide (3 ≤ (l.length : Int)) && decide ((l.length : Int) ≤ 24)) = true := by rw [decide_eq_true hl3, decide_eq_true h24]; rfl
  clear h
  have h3 : ((3 : Nat) : Int) = 3 := rfl
  have t3 : (3 : Int).toNat = 3 := rfl
  simp only [h3, EV, Nat.reduceEqDiff, Nat.reduceBEq, Nat.reduceLT, Nat.reduceLeDiff, Nat.reduceAdd, Nat.reduceSub, reduceIte]
  refine ⟨by omega, hl3, by omega, ?_⟩
  simp only [← List.map_drop, ← List.map_take, t3]
  have hm : ∃ m, l.drop 3 = m := ⟨_, rfl⟩
  obtain ⟨m, hm⟩ := hm
  have hml : (m.length : Int) = (l.length : Int) - 3 := by rw [← hm]; simp; omega
  have hsub : ∀ x ∈ m, x ∈ l := by rw [← hm]; exact fun x hx => List.mem_of_mem_drop hx
  have p9 : ∀ i (h : i < m.length), tyAt l m i h = false → tysOk l = false := by
    subst hm; exact fun i h e => tysOk_no h e
  refine awp_loop (fun i : Nat => i ≤ m.length ∧ tyTo l m i) (fun i => stl [(0, .fsl 6 (l.map Ty.z)), (15, .fsl 6 (l.map Ty.z)), (16, .fsl 6 (m.map Ty.z)), (17, .v (.int .i64 (m.length : Int))), (18, .v (.int .i64 (i : Int)))]) (fun i => m.length - i) 0 ⟨Nat.zero_le _, fun j hj h => absurd h (by omega)⟩ ?_ ?_
  · have htk : List.take (l.length - 3) m = m := List.take_of_length_le (by omega)
    simp only [hm, htk, EV, Nat.reduceEqDiff, Nat.reduceBEq, Nat.reduceLT, Nat.reduceLeDiff, Nat.reduceAdd, Nat.reduceSub, reduceIte]
    rfl
  · rintro i ⟨hi, hok⟩
    simp only [EV, Nat.reduceEqDiff, Nat.reduceBEq, Nat.reduceLT, Nat.reduceLeDiff, Nat.reduceAdd, Nat.reduceSub, reduceIte]
    refine cK_cut (fun h => ?_) (fun h => ?_)
    · have h1 : i < m.length := by simpa using h
      have h2 : (i : Int) < (m.length : Int) := by omega
      have hso : m[i].sm := hs m[i] (hsub _ (List.getElem_mem h1))
      clear h
      have hw : IntKind.i64.wrap (3 + (i : Int)) = ((3 + i : Nat) : Int) := by rw [w64 _ (by omega)]; omega
      have hdt : List.take (3 + i - 3) (List.drop 3 (l.map Ty.z)) = (m.take i).map Ty.z := by
        rw [← hm, Nat.add_sub_cancel_left, ← List.map_drop, ← List.map_take]
      have ht : (m.take i).length = i := by simp; omega
      have hcl : Ty.z m[i] = [.v (.int .i64 m[i].kind), .v (.int .i64 m[i].long), .v (.int .i64 m[i].base), .fsl 3 (m[i].fields.map Fd.z), .v (.string m[i].owner), .v (.string m[i].name)] := rfl
      have d7 := d150 l m[i] hl hso
      rw [hcl] at d7
      have en : (m[i].name.toList == (⟨#[]⟩ : ByteArray).toList) = nil' m[i].name := rfl
      simp only [TyE, nth_map h1, h2, h3, Ty.z, EV, Nat.reduceEqDiff, Nat.reduceBEq, Nat.reduceLT, Nat.reduceLeDiff, Nat.reduceAdd, Nat.reduceSub, reduceIte]
      refine callK_i d7 ?_
      simp only [EV, Nat.reduceEqDiff, Nat.reduceBEq, Nat.reduceLT, Nat.reduceLeDiff, Nat.reduceAdd, Nat.reduceSub, reduceIte]
      rcases e5 : tyOk l m[i] with _ | _
      · have e : tysOk l = false := p9 i h1 (by simp only [tyAt, e5, Bool.and_false])
        simp only [EV, Nat.reduceEqDiff, Nat.reduceBEq, Nat.reduceLT, Nat.reduceLeDiff, Nat.reduceAdd, Nat.reduceSub, reduceIte]
        simp only [e, EV, Nat.reduceEqDiff, Nat.reduceBEq, Nat.reduceLT, Nat.reduceLeDiff, Nat.reduceAdd, Nat.reduceSub, reduceIte, evRE, retVC, cellV', evR, nfz, nfzs, nfzss, List.contains_nil, List.contains_cons, Bool.or_false, or_true]
      simp only [h3, hw, t3, EV, Nat.reduceEqDiff, Nat.reduceBEq, Nat.reduceLT, Nat.reduceLeDiff, Nat.reduceAdd, Nat.reduceSub, reduceIte]
      refine ⟨by omega, by omega, by omega, ?_⟩
      rw [hdt]
      refine awp_loop (fun k : Nat => k ≤ i ∧ (nil' m[i].name = true ∨ ((m.take i).take k).any (tyNm m[i]) = false)) (fun k => stl [(0, .fsl 6 (l.map Ty.z)), (4, .box 59 m[i].z), (15, .fsl 6 (l.map Ty.z)), (16, .fsl 6 (m.map Ty.z)), (17, .v (.int .i64 (m.length : Int))), (18, .v (.int .i64 (i : Int))), (27, .fsl 6 (l.map Ty.z)), (29, .v (.int .i64 ((3 + i : Nat) : Int))), (30, .fsl 6 ((m.take i).map Ty.z)), (31, .v (.int .i64 (i : Int))), (32, .v (.int .i64 (k : Int)))]) (fun k => i - k) 0 ⟨Nat.zero_le _, Or.inr (by simp)⟩ ?_ ?_
      · simp only [Ty.z, EV, Nat.reduceEqDiff, Nat.reduceBEq, Nat.reduceLT, Nat.reduceLeDiff, Nat.reduceAdd, Nat.reduceSub, reduceIte]
        rw [ht]
        rfl
      · rintro k ⟨hk, hno⟩
        simp only [Ty.z, EV, Nat.reduceEqDiff, Nat.reduceBEq, Nat.reduceLT, Nat.reduceLeDiff, Nat.reduceAdd, Nat.reduceSub, reduceIte]
        refine cK_cut (fun h => ?_) (fun h => ?_)
        · have k3 : k < i := by have : (k : Int) < i := by simpa using h
                                omega
          have k1 : k < (m.take i).length := by rw [ht]; exact k3
          have k2 : (k : Int) < i := by omega
          clear h
          have hnx : tyNm m[i] (m.take i)[k] = false → ∃ a, (a ≤ i ∧ (nil' m[i].name = true ∨ ((m.take i).take a).any (tyNm m[i]) = false)) ∧ i - a < i - k ∧ a = k + 1 := by
            intro e
            refine ⟨k + 1, ⟨by omega, ?_⟩, by omega, rfl⟩
            rcases hno with hno | hno
            · exact .inl hno
            · exact .inr (any_take k1 hno e)
          simp only [TyE, nth_map k1, k2, k3, ht, Ty.z, EV, Nat.reduceEqDiff, Nat.reduceBEq, Nat.reduceLT, Nat.reduceLeDiff, Nat.reduceAdd, Nat.reduceSub, reduceIte]
          rw [en]
          have hcm := tyNm_comm m[i] (m.take i)[k]
          rcases e3 : nil' m[i].name with _ | _
          · simp only [Bool.not_false, TyE, nth_map k1, k2, k3, ht, Ty.z, EV, Nat.reduceEqDiff, Nat.reduceBEq, Nat.reduceLT, Nat.reduceLeDiff, Nat.reduceAdd, Nat.reduceSub, reduceIte]
            repeat' (first
    | (refine gK_cut (fun h => ?_) (fun h => ?_) <;> simp only [h, EV, Nat.reduceEqDiff, Nat.reduceBEq, Nat.reduceLT, Nat.reduceLeDiff, Nat.reduceAdd, Nat.reduceSub, reduceIte])
    | (refine cK_cut (fun h => ?_) (fun h => ?_) <;> simp only [h, EV, Nat.reduceEqDiff, Nat.reduceBEq, Nat.reduceLT, Nat.reduceLeDiff, Nat.reduceAdd, Nat.reduceSub, reduceIte]))
            all_goals first
              | (have e4 : tyNm m[i] (m.take i)[k] = true := by rw [hcm]; simp only [*, Bool.and_self]
                 have e : tysOk l = false := p9 i h1 (by
                   have := any_at k1 e4
                   simp only [tyAt, e3, this, Bool.not_false, Bool.true_and, Bool.not_true, Bool.false_and])
                 simp only [e, EV, Nat.reduceEqDiff, Nat.reduceBEq, Nat.reduceLT, Nat.reduceLeDiff, Nat.reduceAdd, Nat.reduceSub, reduceIte, evRE, retVC, cellV', evR, nfz, nfzs, nfzss, List.contains_nil, List.contains_cons, Bool.or_false, or_true]
                 done)
              | (have e4 : tyNm m[i] (m.take i)[k] = false := by rw [hcm]; simp only [*, Bool.false_and, Bool.and_false]
                 obtain ⟨a, q1, q2, rfl⟩ := hnx e4
                 rw [w64 _ (by omega)]
                 exact ⟨k + 1, ⟨q1.1, by rcases q1.2 with q | q; exact absurd (e3.symm.trans q) Bool.false_ne_true; exact Or.inr q⟩, q2, rfl⟩)
          · simp only [Bool.not_true, EV, Nat.reduceEqDiff, Nat.reduceBEq, Nat.reduceLT, Nat.reduceLeDiff, Nat.reduceAdd, Nat.reduceSub, reduceIte]
            rw [w64 _ (by omega)]
            exact ⟨k + 1, ⟨by omega, Or.inl trivial⟩, by omega, rfl⟩
        · have k1 : k = i := by have : ¬ (k : Int) < i := by simpa using h
                                omega
          subst k1
          have hq : tyAt l m k h1 = true := by
            simp only [tyAt, e5, Bool.and_true]
            rcases hno with hno | hno
            · rw [hno]; rfl
            · rw [List.take_take, Nat.min_self] at hno
              rw [hno, Bool.and_false]; rfl
          simp only [EV, Nat.reduceEqDiff, Nat.reduceBEq, Nat.reduceLT, Nat.reduceLeDiff, Nat.reduceAdd, Nat.reduceSub, reduceIte]
          rw [w64 _ (by omega)]
          exact ⟨k + 1, ⟨h1, tyTo_succ h1 hok hq⟩, by omega, rfl⟩
    · have h1 : i = m.length := by have : ¬ (i : Int) < m.length := by simpa using h
                                   omega
      subst h1
      have e : tysOk l = true := tysOk_yes e1 e2 (by rw [hm]; exact hok)
      simp only [EV, Nat.reduceEqDiff, Nat.reduceBEq, Nat.reduceLT, Nat.reduceLeDiff, Nat.reduceAdd, Nat.reduceSub, reduceIte]
      simp only [e, EV, Nat.reduceEqDiff, Nat.reduceBEq, Nat.reduceLT, Nat.reduceLeDiff, Nat.reduceAdd, Nat.reduceSub, reduceIte, evRE, retVC, cellV', evR, nfz, nfzs, nfzss, List.contains_nil, List.contains_cons, Bool.or_false, or_true]

end Go.AM
namespace Go.AM
set_option linter.unusedVariables false
set_option linter.unusedSimpArgs false
def noRd (l : List Ty) (n : Nat) : Prop := ∀ j : Nat, j < n → roundAt l (j : Int) = false

theorem tabOk_yes {l : List Ty} (h : tysOk l = true) (h2 : noRd l l.length) : tabOk l = true := by
  simp only [tabOk, h, Bool.true_and, List.all_eq_true, List.mem_range]
  intro n hn
  rw [h2 n hn]; rfl

theorem tabOk_no {l : List Ty} {i : Nat} (h : i < l.length) (h2 : roundAt l (i : Int) = true) : tabOk l = false := by
  rcases e : tabOk l with _ | _
  · rfl
  · have := tabOk_round e (n := (i : Int)) (by omega) (by omega)
    rw [h2] at this; cases this

theorem tabOk_tno {l : List Ty} (h : tysOk l = false) : tabOk l = false := by simp only [tabOk, h, Bool.false_and]

/-- loop.example/g00837/impl.isTable -/
def m79 : MC :=
  (.seq
   (.reg [⟨(some 2), none, .a (.asg (.c (.bool false)))⟩])
   (.seq
    (.seq
     (.reg [⟨(some 4), none, .q (.mov (.t 0))⟩,
       ⟨(some 5), none, .a (.call (.fn 108) false [.lend (.t 4)])⟩,
       ⟨(some 6), none, .q (.un .not (.t 5))⟩])
     (.cond (.t 6)
      (.seq
       (.reg [⟨(some 2), none, .a (.asg (.c (.bool false)))⟩])
       .ret)
      .skip))
    (.seq
     (.seq
      (.reg [⟨(some 7), none, .q (.mov (.t 0))⟩,
        ⟨(some 8), none, .q (.len false (.t 7))⟩,
        ⟨(some 9), none, .q (.mov (.c (.int .i64 0)))⟩])
      (.block 0
       (.loop [0, 8, 9]
        (.seq
         (.reg [⟨(some 10), none, .q (.bin false .lss (.t 9) (.t 8))⟩])
         (.seq
          (.cond (.t 10)
           .skip
           (.exit 0))
          (.seq
           (.block 1
            (.seq
             (.reg [⟨(some 11), none, .q (.mov (.t 9))⟩,
               ⟨(some 3), none, .a (.asg (.t 11))⟩])
             (.seq
              (.reg [⟨(some 12), none, .q (.mov (.t 0))⟩,
                ⟨(some 13), none, .q (.mov (.t 3))⟩,
                ⟨(some 14), none, .a (.call (.fn 109) false [.lend (.t 12), .lend (.t 13)])⟩])
              (.cond (.t 14)
               (.seq
                (.reg [⟨(some 2), none, .a (.asg (.c (.bool false)))⟩])
                .ret)
               .skip))))
           (.reg [⟨(some 15), none, .q (.bin false .add (.t 9) (.c (.int .i64 1)))⟩,
             ⟨(some 9), none, .q (.mov (.t 15))⟩])))))))
     (.seq
      (.reg [⟨(some 2), none, .a (.asg (.c (.bool true)))⟩])
      .ret))))

set_option maxRecDepth 100000 in
theorem d79 (l : List Ty) (hl : (l.length : Int) ≤ 1048576) (hs : ∀ s ∈ l, s.sm) : Does Go.Proofs.Try.prog 79 [.fsl 6 (l.map Ty.z)] false (.v (.bool (tabOk l))) [.dead] := by
  refine does_intro (mc := m79) (N := 16) (rs := [2]) (fx := []) 1 rfl (by decide +kernel) ?_
  simp only [m79, EV, Nat.reduceEqDiff, Nat.reduceBEq, Nat.reduceLT, Nat.reduceLeDiff, Nat.reduceAdd, Nat.reduceSub, reduceIte]
  refine callK_i (d108 l hl hs) ?_
  simp only [EV, Nat.reduceEqDiff, Nat.reduceBEq, Nat.reduceLT, Nat.reduceLeDiff, Nat.reduceAdd, Nat.reduceSub, reduceIte]
  rcases ht : tysOk l with _ | _
  · have e : tabOk l = false := tabOk_tno ht
    simp only [Bool.not_false, EV, Nat.reduceEqDiff, Nat.reduceBEq, Nat.reduceLT, Nat.reduceLeDiff, Nat.reduceAdd, Nat.reduceSub, reduceIte]
    simp only [e, EV, Nat.reduceEqDiff, Nat.reduceBEq, Nat.reduceLT, Nat.reduceLeDiff, Nat.reduceAdd, Nat.reduceSub, reduceIte, evRE, retVC, cellV', evR, nfz, nfzs, nfzss, List.contains_nil, List.contains_cons, Bool.or_false, or_true]
  simp only [Bool.not_true, EV, Nat.reduceEqDiff, Nat.reduceBEq, Nat.reduceLT, Nat.reduceLeDiff, Nat.reduceAdd, Nat.reduceSub, reduceIte]
  refine awp_loop (fun i : Nat => i ≤ l.length ∧ noRd l i) (fun i => stl [(0, .fsl 6 (l.map Ty.z)), (8, .v (.int .i64 (l.length : Int))), (9, .v (.int .i64 (i : Int)))]) (fun i => l.length - i) 0 ⟨Nat.zero_le _, fun j h => absurd h (by omega)⟩ ?_ ?_
  · simp only [EV, Nat.reduceEqDiff, Nat.reduceBEq, Nat.reduceLT, Nat.reduceLeDiff, Nat.reduceAdd, Nat.reduceSub, reduceIte]
    rfl
  · rintro i ⟨hi, hno⟩
    simp only [EV, Nat.reduceEqDiff, Nat.reduceBEq, Nat.reduceLT, Nat.reduceLeDiff, Nat.reduceAdd, Nat.reduceSub, reduceIte]
    refine cK_cut (fun h => ?_) (fun h => ?_)
    · have h1 : i < l.length := by simpa using h
      simp only [EV, Nat.reduceEqDiff, Nat.reduceBEq, Nat.reduceLT, Nat.reduceLeDiff, Nat.reduceAdd, Nat.reduceSub, reduceIte]
      refine callK_i (d109 l (i : Int) hl hs ht (by omega) (by omega)) ?_
      simp only [EV, Nat.reduceEqDiff, Nat.reduceBEq, Nat.reduceLT, Nat.reduceLeDiff, Nat.reduceAdd, Nat.reduceSub, reduceIte]
      rcases e1 : roundAt l (i : Int) with _ | _
      · simp only [EV, Nat.reduceEqDiff, Nat.reduceBEq, Nat.reduceLT, Nat.reduceLeDiff, Nat.reduceAdd, Nat.reduceSub, reduceIte]
        rw [w64 _ (by omega)]
        refine ⟨i + 1, ⟨h1, fun j hj => ?_⟩, by omega, rfl⟩
        by_cases e : j = i
        · subst e; exact e1
        · exact hno j (by omega)
      · have e : tabOk l = false := tabOk_no h1 e1
        simp only [EV, Nat.reduceEqDiff, Nat.reduceBEq, Nat.reduceLT, Nat.reduceLeDiff, Nat.reduceAdd, Nat.reduceSub, reduceIte]
        simp only [e, EV, Nat.reduceEqDiff, Nat.reduceBEq, Nat.reduceLT, Nat.reduceLeDiff, Nat.reduceAdd, Nat.reduceSub, reduceIte, evRE, retVC, cellV', evR, nfz, nfzs, nfzss, List.contains_nil, List.contains_cons, Bool.or_false, or_true]
    · have h1 : i = l.length := by have : ¬ (i : Int) < l.length := by simpa using h
                                   omega
      subst h1
      have e : tabOk l = true := tabOk_yes ht hno
      simp only [EV, Nat.reduceEqDiff, Nat.reduceBEq, Nat.reduceLT, Nat.reduceLeDiff, Nat.reduceAdd, Nat.reduceSub, reduceIte]
      simp only [e, EV, Nat.reduceEqDiff, Nat.reduceBEq, Nat.reduceLT, Nat.reduceLeDiff, Nat.reduceAdd, Nat.reduceSub, reduceIte, evRE, retVC, cellV', evR, nfz, nfzs, nfzss, List.contains_nil, List.contains_cons, Bool.or_false, or_true]

/-- loop.example/g00837/spec.l3Good -/
def m82 : MC :=
  (.seq
   (.reg [⟨(some 2), none, .a (.asg (.c (.bool false)))⟩])
   (.seq
    (.seq
     (.reg [⟨(some 4), none, .q (.mov (.t 0))⟩,
       ⟨(some 5), none, .a (.call (.fn 110) false [.lend (.t 4)])⟩,
       ⟨(some 6), none, .q (.un .not (.t 5))⟩])
     (.cond (.t 6)
      (.seq
       (.reg [⟨(some 2), none, .a (.asg (.c (.bool false)))⟩])
       .ret)
      .skip))
    (.seq
     (.seq
      (.reg [⟨(some 7), none, .q (.mov (.t 0))⟩,
        ⟨(some 8), none, .q (.len false (.t 7))⟩,
        ⟨(some 9), none, .q (.mov (.c (.int .i64 0)))⟩])
      (.block 0
       (.loop [0, 8, 9]
        (.seq
         (.reg [⟨(some 10), none, .q (.bin false .lss (.t 9) (.t 8))⟩])
         (.seq
          (.cond (.t 10)
           .skip
           (.exit 0))
          (.seq
           (.block 1
            (.seq
             (.reg [⟨(some 11), none, .q (.mov (.t 9))⟩,
               ⟨(some 3), none, .a (.asg (.t 11))⟩])
             (.seq
              (.reg [⟨(some 12), none, .q (.mov (.t 0))⟩,
                ⟨(some 13), none, .q (.mov (.t 3))⟩,
                ⟨(some 14), none, .a (.call (.fn 111) false [.lend (.t 12), .lend (.t 13)])⟩])
              (.cond (.t 14)
               (.seq
                (.reg [⟨(some 2), none, .a (.asg (.c (.bool false)))⟩])
                .ret)
               .skip))))
           (.reg [⟨(some 15), none, .q (.bin false .add (.t 9) (.c (.int .i64 1)))⟩,
             ⟨(some 9), none, .q (.mov (.t 15))⟩])))))))
     (.seq
      (.reg [⟨(some 2), none, .a (.asg (.c (.bool true)))⟩])
      .ret))))

set_option maxRecDepth 100000 in
theorem d82 (l : List Ty) (hl : (l.length : Int) ≤ 1048576) (hs : ∀ s ∈ l, s.sm) : Does Go.Proofs.Try.prog 82 [.fsl 6 (l.map Ty.z)] false (.v (.bool (tabOk l))) [.dead] := by
  refine does_intro (mc := m82) (N := 16) (rs := [2]) (fx := []) 1 rfl (by decide +kernel) ?_
  simp only [m82, EV, Nat.reduceEqDiff, Nat.reduceBEq, Nat.reduceLT, Nat.reduceLeDiff, Nat.reduceAdd, Nat.reduceSub, reduceIte]
  refine callK_i (d110 l hl hs) ?_
  simp only [EV, Nat.reduceEqDiff, Nat.reduceBEq, Nat.reduceLT, Nat.reduceLeDiff, Nat.reduceAdd, Nat.reduceSub, reduceIte]
  rcases ht : tysOk l with _ | _
  · have e : tabOk l = false := tabOk_tno ht
    simp only [Bool.not_false, EV, Nat.reduceEqDiff, Nat.reduceBEq, Nat.reduceLT, Nat.reduceLeDiff, Nat.reduceAdd, Nat.reduceSub, reduceIte]
    simp only [e, EV, Nat.reduceEqDiff, Nat.reduceBEq, Nat.reduceLT, Nat.reduceLeDiff, Nat.reduceAdd, Nat.reduceSub, reduceIte, evRE, retVC, cellV', evR, nfz, nfzs, nfzss, List.contains_nil, List.contains_cons, Bool.or_false, or_true]
  simp only [Bool.not_true, EV, Nat.reduceEqDiff, Nat.reduceBEq, Nat.reduceLT, Nat.reduceLeDiff, Nat.reduceAdd, Nat.reduceSub, reduceIte]
  refine awp_loop (fun i : Nat => i ≤ l.length ∧ noRd l i) (fun i => stl [(0, .fsl 6 (l.map Ty.z)), (8, .v (.int .i64 (l.length : Int))), (9, .v (.int .i64 (i : Int)))]) (fun i => l.length - i) 0 ⟨Nat.zero_le _, fun j h => absurd h (by omega)⟩ ?_ ?_
  · simp only [EV, Nat.reduceEqDiff, Nat.reduceBEq, Nat.reduceLT, Nat.reduceLeDiff, Nat.reduceAdd, Nat.reduceSub, reduceIte]
    rfl
  · rintro i ⟨hi, hno⟩
    simp only [EV, Nat.reduceEqDiff, Nat.reduceBEq, Nat.reduceLT, Nat.reduceLeDiff, Nat.reduceAdd, Nat.reduceSub, reduceIte]
    refine cK_cut (fun h => ?_) (fun h => ?_)
    · have h1 : i < l.length := by simpa using h
      simp only [EV, Nat.reduceEqDiff, Nat.reduceBEq, Nat.reduceLT, Nat.reduceLeDiff, Nat.reduceAdd, Nat.reduceSub, reduceIte]
      refine callK_i (d111 l (i : Int) hl hs ht (by omega) (by omega)) ?_
      simp only [EV, Nat.reduceEqDiff, Nat.reduceBEq, Nat.reduceLT, Nat.reduceLeDiff, Nat.reduceAdd, Nat.reduceSub, reduceIte]
      rcases e1 : roundAt l (i : Int) with _ | _
      · simp only [EV, Nat.reduceEqDiff, Nat.reduceBEq, Nat.reduceLT, Nat.reduceLeDiff, Nat.reduceAdd, Nat.reduceSub, reduceIte]
        rw [w64 _ (by omega)]
        refine ⟨i + 1, ⟨h1, fun j hj => ?_⟩, by omega, rfl⟩
        by_cases e : j = i
        · subst e; exact e1
        · exact hno j (by omega)
      · have e : tabOk l = false := tabOk_no h1 e1
        simp only [EV, Nat.reduceEqDiff, Nat.reduceBEq, Nat.reduceLT, Nat.reduceLeDiff, Nat.reduceAdd, Nat.reduceSub, reduceIte]
        simp only [e, EV, Nat.reduceEqDiff, Nat.reduceBEq, Nat.reduceLT, Nat.reduceLeDiff, Nat.reduceAdd, Nat.reduceSub, reduceIte, evRE, retVC, cellV', evR, nfz, nfzs, nfzss, List.contains_nil, List.contains_cons, Bool.or_false, or_true]
    · have h1 : i = l.length := by have : ¬ (i : Int) < l.length := by simpa using h
                                   omega
      subst h1
      have e : tabOk l = true := tabOk_yes ht hno
      simp only [EV, Nat.reduceEqDiff, Nat.reduceBEq, Nat.reduceLT, Nat.reduceLeDiff, Nat.reduceAdd, Nat.reduceSub, reduceIte]
      simp only [e, EV, Nat.reduceEqDiff, Nat.reduceBEq, Nat.reduceLT, Nat.reduceLeDiff, Nat.reduceAdd, Nat.reduceSub, reduceIte, evRE, retVC, cellV', evR, nfz, nfzs, nfzss, List.contains_nil, List.contains_cons, Bool.or_false, or_true]

end Go.AM
namespace Go.AM
set_option linter.unusedVariables false
set_option linter.unusedSimpArgs false
def baseAt (l : List Ty) (n : Int) : Int := match l[n.toNat]? with
  | some t => t.base
  | none => -1

theorem baseAt_eq {l : List Ty} {n : Int} (h : n.toNat < l.length) : baseAt l n = l[n.toNat].base := by simp [baseAt, h]

def chainF (l : List Ty) : Nat → Int → List Int
  | 0, _ => []
  | f + 1, n => if n < 0 then [] else n :: chainF l f (baseAt l n)

def lineL (l : List Ty) (n : Int) : List Int := chainF l (l.length + 1) n

/-- An end or a record. -/
def isL (l : List Ty) (n : Int) : Prop := n < 0 ∨ isRec l n = true

theorem isRec_in {l : List Ty} {n : Int} (h : isRec l n = true) : 0 ≤ n ∧ n < (l.length : Int) ∧ ∃ hn : n.toNat < l.length, l[n.toNat].kind = 5 := by
  simp only [isRec, Bool.and_eq_true, beq_iff_eq] at h
  obtain ⟨h0, h1, hn, hk⟩ := isNum_lt h.1
  exact ⟨h0, h1, hn, by rw [← hk]; exact h.2⟩

theorem isRec_base {l : List Ty} (ht : tysOk l = true) {n : Int} (h : isRec l n = true) : isL l (baseAt l n) ∧ (0 ≤ baseAt l n → baseAt l n ∈ kids l false n) := by
  obtain ⟨h0, h1, hn, hk⟩ := isRec_in h
  have G := tysOk_good ht hn
  rw [baseAt_eq hn]
  refine ⟨(G.rec5 hk).elim (fun e => .inl (by omega)) .inr, fun hb => ?_⟩
  rw [kids_at hn]
  have e6 : (l[n.toNat].kind == 6) = false := by rw [hk]; rfl
  simp only [prt, e6, hb, decide_true, Bool.not_false, Bool.or_true, Bool.and_self, if_true, List.mem_append, List.mem_singleton, true_or]

theorem rk_le (l : List Ty) (n : Int) : rk l n ≤ l.length := by
  unfold rk reachL
  refine Nat.le_trans (List.length_filter_le _ _) ?_
  simp

theorem chainF_irr {l : List Ty} (ht : tabOk l = true) : ∀ (f f' : Nat) (n : Int), isL l n → rk l n < f → rk l n < f' → chainF l f n = chainF l f' n
  | 0, _, n, _, h, _ => absurd h (by omega)
  | f + 1, 0, n, _, _, h => absurd h (by omega)
  | f + 1, f' + 1, n, hn, h, h' => by
    unfold chainF
    by_cases h0 : n < 0
    · rw [if_pos h0, if_pos h0]
    · rw [if_neg h0, if_neg h0]
      have hr : isRec l n = true := hn.resolve_left h0
      obtain ⟨b1, b2⟩ := isRec_base (tabOk_tys ht) hr
      obtain ⟨g0, g1, _⟩ := isRec_in hr
      by_cases hb : baseAt l n < 0
      · have e : ∀ g, chainF l g (baseAt l n) = [] := by
          intro g; cases g with
          | zero => rfl
          | succ g => unfold chainF; rw [if_pos hb]
        rw [e, e]
      · have hlt := rk_lt ht g0 g1 (b2 (by omega))
        rw [chainF_irr ht f f' (baseAt l n) b1 (by omega) (by omega)]

theorem lineL_neg {l : List Ty} {n : Int} (h : n < 0) : lineL l n = [] := by unfold lineL chainF; rw [if_pos h]

theorem lineL_rec {l : List Ty} (ht : tabOk l = true) {n : Int} (h : isRec l n = true) : lineL l n = n :: lineL l (baseAt l n) := by
  obtain ⟨b1, b2⟩ := isRec_base (tabOk_tys ht) h
  obtain ⟨g0, g1, _⟩ := isRec_in h
  unfold lineL
  rw [chainF]
  rw [if_neg (by omega)]
  by_cases hb : baseAt l n < 0
  · have e : ∀ g, chainF l g (baseAt l n) = [] := by
      intro g; cases g with
      | zero => rfl
      | succ g => unfold chainF; rw [if_pos hb]
    rw [e, e]
  · have hlt := rk_lt ht g0 g1 (b2 (by omega))
    have := rk_le l n
    rw [chainF_irr ht l.length (l.length + 1) _ b1 (by omega) (by omega)]

theorem lineL_in {l : List Ty} (ht : tabOk l = true) : ∀ (f : Nat) (n : Int), isL l n → ∀ k ∈ chainF l f n, isRec l k = true
  | 0, n, _, k, hk => by simp [chainF] at hk
  | f + 1, n, hn, k, hk => by
    unfold chainF at hk
    by_cases h0 : n < 0
    · rw [if_pos h0] at hk; simp at hk
    · rw [if_neg h0] at hk
      have hr : isRec l n = true := hn.resolve_left h0
      rcases List.mem_cons.1 hk with rfl | hk
      · exact hr
      · exact lineL_in ht f _ (isRec_base (tabOk_tys ht) hr).1 k hk

noncomputable def recOk (l : List Ty) (n : Int) : Bool := tabOk l && isRec l n

end Go.AM
namespace Go.AM
set_option linter.unusedVariables false
set_option linter.unusedSimpArgs false
/-- loop.example/g00837/laws.toIntS -/
def m28 : MC :=
  (.seq
   (.reg [⟨(some 2), none, .a (.asg (.nils 3 1))⟩])
   (.seq
    (.reg [⟨(some 5), none, .q (.mov (.t 0))⟩,
      ⟨(some 6), none, .q (.len false (.t 5))⟩,
      ⟨(some 7), none, .a (.mks 3 1 8 [.v (.int .i64 0)] (.t 6) (.t 6))⟩,
      ⟨(some 3), none, .a (.asg (.t 7))⟩])
    (.seq
     (.seq
      (.reg [⟨(some 4), none, .a (.asg (.c (.int .i64 0)))⟩])
      (.block 0
       (.loop [0, 3, 4, 7]
        (.seq
         (.seq
          (.reg [⟨(some 8), none, .q (.mov (.t 4))⟩,
            ⟨(some 9), none, .q (.mov (.t 0))⟩,
            ⟨(some 10), none, .q (.len false (.t 9))⟩,
            ⟨(some 11), none, .q (.bin false .lss (.t 8) (.t 10))⟩])
          (.cond (.t 11)
           .skip
           (.exit 0)))
         (.seq
          (.block 1
           (.reg [⟨(some 14), none, .q (.mov (.t 3))⟩,
             ⟨(some 15), none, .q (.mov (.t 4))⟩,
             ⟨(some 16), none, .q (.mov (.t 0))⟩,
             ⟨(some 17), none, .q (.mov (.t 4))⟩,
             ⟨(some 18), none, .q (.iad 1 (.t 16) (.t 17))⟩,
             ⟨(some 19), none, .q (.load false 1 (.t 18))⟩,
             ⟨(some 20), none, .q (.iad 1 (.t 14) (.t 15))⟩,
             ⟨none, none, .a (.store 1 (.t 20) (.t 19))⟩]))
          (.reg [⟨(some 12), none, .q (.mov (.t 4))⟩,
            ⟨(some 13), none, .q (.bin false .add (.t 12) (.c (.int .i64 1)))⟩,
            ⟨(some 4), none, .a (.asg (.t 13))⟩]))))))
     (.seq
      (.reg [⟨(some 21), none, .q (.mov (.t 3))⟩,
        ⟨(some 2), none, .a (.asg (.t 21))⟩])
      .ret))))

theorem d28 (l : List Int) (hl : (l.length : Int) ≤ 1048576) : Does Go.Proofs.Try.prog 28 [.fsl 1 (l.map iv)] false (.usl 3 1 (l.map iv)) [.dead] := by
  refine does_intro (mc := m28) (N := 22) (rs := [2]) (fx := []) 1 rfl (by decide +kernel) ?_
  simp only [m28, EV, Nat.reduceEqDiff, Nat.reduceBEq, Nat.reduceLT, Nat.reduceLeDiff, Nat.reduceAdd, Nat.reduceSub, reduceIte]
  refine ⟨by omega, by omega, ?_⟩
  refine awp_loop (fun i : Nat => i ≤ l.length) (fun i => stl [(0, .fsl 1 (l.map iv)), (3, .usl 3 1 ((l.take i).map iv ++ List.replicate (l.length - i) [.v (.int .i64 0)])), (4, .v (.int .i64 (i : Int))), (7, .dead)]) (fun i => l.length - i) 0 (Nat.zero_le _) ?_ ?_
  · simp only [EV, Nat.reduceEqDiff, Nat.reduceBEq, Nat.reduceLT, Nat.reduceLeDiff, Nat.reduceAdd, Nat.reduceSub, reduceIte]
    rfl
  · intro i hi
    simp only [EV, Nat.reduceEqDiff, Nat.reduceBEq, Nat.reduceLT, Nat.reduceLeDiff, Nat.reduceAdd, Nat.reduceSub, reduceIte]
    refine cK_cut (fun h => ?_) (fun h => ?_)
    · have h1 : i < l.length := by simpa using h
      have h2 : (i : Int) < (l.length : Int) := by omega
      have h3 : ((l.take i).map iv ++ List.replicate (l.length - i) [AV.v (.int .i64 0)]).length = l.length := by simp; omega
      have ei : iv l[i] = [.v (.int .i64 l[i])] := rfl
      simp only [nth_map h1, ei, h1, h2, h3, EV, Nat.reduceEqDiff, Nat.reduceBEq, Nat.reduceLT, Nat.reduceLeDiff, Nat.reduceAdd, Nat.reduceSub, reduceIte]
      try refine ⟨h1, ?_⟩
      refine ⟨i + 1, by omega, by omega, ?_⟩
      have ef := fill_set (g := iv) (l := l) (z := [AV.v (.int .i64 0)]) h1
      rw [fill_nth h1, w64 _ (by omega)]
      rw [← ef]
      rfl
    · have h1 : i = l.length := by have : ¬ (i : Int) < l.length := by simpa using h
                                   omega
      subst h1
      simp only [EV, Nat.reduceEqDiff, Nat.reduceBEq, Nat.reduceLT, Nat.reduceLeDiff, Nat.reduceAdd, Nat.reduceSub, reduceIte]
      simp only [Nat.sub_self, List.replicate_zero, iv_nfz, EV, Nat.reduceEqDiff, Nat.reduceBEq, Nat.reduceLT, Nat.reduceLeDiff, Nat.reduceAdd, Nat.reduceSub, reduceIte, evRE, retVC, cellV', evR, nfz, nfzs, nfzss, List.contains_nil, List.contains_cons, Bool.or_false, or_true]

/-- loop.example/g00837/laws.eqIntS -/
def m30 : MC :=
  (.seq
   (.reg [⟨(some 4), none, .a (.asg (.c (.bool false)))⟩])
   (.seq
    (.seq
     (.reg [⟨(some 6), none, .q (.mov (.t 0))⟩,
       ⟨(some 7), none, .q (.len false (.t 6))⟩,
       ⟨(some 8), none, .q (.mov (.t 1))⟩,
       ⟨(some 9), none, .q (.len false (.t 8))⟩,
       ⟨(some 10), none, .q (.bin false .neq (.t 7) (.t 9))⟩])
     (.cond (.t 10)
      (.seq
       (.reg [⟨(some 4), none, .a (.asg (.c (.bool false)))⟩])
       .ret)
      .skip))
    (.seq
     (.seq
      (.reg [⟨(some 5), none, .a (.asg (.c (.int .i64 0)))⟩])
      (.block 0
       (.loop [0, 1, 5]
        (.seq
         (.seq
          (.reg [⟨(some 11), none, .q (.mov (.t 5))⟩,
            ⟨(some 12), none, .q (.mov (.t 0))⟩,
            ⟨(some 13), none, .q (.len false (.t 12))⟩,
            ⟨(some 14), none, .q (.bin false .lss (.t 11) (.t 13))⟩])
          (.cond (.t 14)
           .skip
           (.exit 0)))
         (.seq
          (.block 1
           (.seq
            (.dreg [⟨(some 17), none, .q (.mov (.t 0))⟩,
              ⟨(some 18), none, .q (.mov (.t 5))⟩,
              ⟨(some 19), none, .q (.iad 1 (.t 17) (.t 18))⟩,
              ⟨(some 20), none, .q (.load false 1 (.t 19))⟩,
              ⟨(some 21), none, .q (.mov (.t 1))⟩,
              ⟨(some 22), none, .q (.mov (.t 5))⟩,
              ⟨(some 23), none, .q (.iad 1 (.t 21) (.t 22))⟩,
              ⟨(some 24), none, .q (.load false 1 (.t 23))⟩,
              ⟨(some 25), none, .q (.bin false .neq (.t 20) (.t 24))⟩])
            (.cond (.t 25)
             (.seq
              (.reg [⟨(some 4), none, .a (.asg (.c (.bool false)))⟩])
              .ret)
             .skip)))
          (.reg [⟨(some 15), none, .q (.mov (.t 5))⟩,
            ⟨(some 16), none, .q (.bin false .add (.t 15) (.c (.int .i64 1)))⟩,
            ⟨(some 5), none, .a (.asg (.t 16))⟩]))))))
     (.seq
      (.reg [⟨(some 4), none, .a (.asg (.c (.bool true)))⟩])
      .ret))))

theorem d30 (l : List Int) (hl : (l.length : Int) ≤ 1048576) : Does Go.Proofs.Try.prog 30 [.fsl 1 (l.map iv), .fsl 1 (l.map iv)] false (.v (.bool true)) [.dead, .dead] := by
  refine does_intro (mc := m30) (N := 26) (rs := [4]) (fx := []) 2 rfl (by decide +kernel) ?_
  simp only [m30, EV, Nat.reduceEqDiff, Nat.reduceBEq, Nat.reduceLT, Nat.reduceLeDiff, Nat.reduceAdd, Nat.reduceSub, reduceIte]
  refine awp_loop (fun i : Nat => i ≤ l.length) (fun i => stl [(0, .fsl 1 (l.map iv)), (1, .fsl 1 (l.map iv)), (5, .v (.int .i64 (i : Int)))]) (fun i => l.length - i) 0 (Nat.zero_le _) ?_ ?_
  · simp only [EV, Nat.reduceEqDiff, Nat.reduceBEq, Nat.reduceLT, Nat.reduceLeDiff, Nat.reduceAdd, Nat.reduceSub, reduceIte]
    rfl
  · intro i hi
    simp only [EV, Nat.reduceEqDiff, Nat.reduceBEq, Nat.reduceLT, Nat.reduceLeDiff, Nat.reduceAdd, Nat.reduceSub, reduceIte]
    refine cK_cut (fun h => ?_) (fun h => ?_)
    · have h1 : i < l.length := by simpa using h
      have h2 : (i : Int) < (l.length : Int) := by omega
      have ei : iv l[i] = [.v (.int .i64 l[i])] := rfl
      simp only [nth_map h1, ei, h2, EV, Nat.reduceEqDiff, Nat.reduceBEq, Nat.reduceLT, Nat.reduceLeDiff, Nat.reduceAdd, Nat.reduceSub, reduceIte]
      rw [w64 _ (by omega)]
      exact ⟨i + 1, by omega, by omega, rfl⟩
    · have h1 : i = l.length := by have : ¬ (i : Int) < l.length := by simpa using h
                                   omega
      simp only [EV, Nat.reduceEqDiff, Nat.reduceBEq, Nat.reduceLT, Nat.reduceLeDiff, Nat.reduceAdd, Nat.reduceSub, reduceIte]
      simp only [EV, Nat.reduceEqDiff, Nat.reduceBEq, Nat.reduceLT, Nat.reduceLeDiff, Nat.reduceAdd, Nat.reduceSub, reduceIte, evRE, retVC, cellV', evR, nfz, nfzs, nfzss, List.contains_nil, List.contains_cons, Bool.or_false, or_true]

def upI : Nat → Int → List Int
  | 0, _ => []
  | n + 1, k => k :: upI n (k + 1)

theorem upI_len : ∀ (n : Nat) (k : Int), (upI n k).length = n
  | 0, _ => rfl
  | n + 1, k => by simp [upI, upI_len n]

/-- loop.example/g00837/laws.markIntS -/
def m32 : MC :=
  (.seq
   (.reg [⟨(some 4), none, .a (.asg (.c (.int .i64 0)))⟩])
   (.seq
    (.seq
     (.reg [⟨(some 5), none, .a (.asg (.c (.int .i64 0)))⟩])
     (.block 0
      (.loop [0, 1, 5]
       (.seq
        (.seq
         (.reg [⟨(some 6), none, .q (.mov (.t 5))⟩,
           ⟨(some 7), none, .q (.mov (.t 0))⟩,
           ⟨(some 8), none, .q (.len false (.t 7))⟩,
           ⟨(some 9), none, .q (.bin false .lss (.t 6) (.t 8))⟩])
         (.cond (.t 9)
          .skip
          (.exit 0)))
        (.seq
         (.block 1
          (.seq
           (.reg [⟨(some 12), none, .q (.mov (.t 0))⟩,
             ⟨(some 13), none, .q (.mov (.t 5))⟩,
             ⟨(some 14), none, .q (.mov (.t 1))⟩,
             ⟨(some 15), none, .q (.iad 1 (.t 12) (.t 13))⟩,
             ⟨none, none, .a (.store 1 (.t 15) (.t 14))⟩])
           (.reg [⟨(some 16), none, .q (.mov (.t 1))⟩,
             ⟨(some 17), none, .q (.bin false .add (.t 16) (.c (.int .i64 1)))⟩,
             ⟨(some 1), none, .a (.asg (.t 17))⟩])))
         (.reg [⟨(some 10), none, .q (.mov (.t 5))⟩,
           ⟨(some 11), none, .q (.bin false .add (.t 10) (.c (.int .i64 1)))⟩,
           ⟨(some 5), none, .a (.asg (.t 11))⟩]))))))
    (.seq
     (.reg [⟨(some 18), none, .q (.mov (.t 1))⟩,
       ⟨(some 4), none, .a (.asg (.t 18))⟩])
     .ret)))

theorem d32 (l : List Int) (k : Int) (h0 : 0 ≤ k) (h1 : k + l.length ≤ 4611686018427387904) :
    Does Go.Proofs.Try.prog 32 [.usl 3 1 (l.map iv), .v (.int .i64 k)] false (.v (.int .i64 (k + l.length))) [.usl 3 1 ((upI l.length k).map iv), .dead] := by
  refine does_intro (mc := m32) (N := 19) (rs := [4]) (fx := [0]) 2 rfl (by decide +kernel) ?_
  simp only [m32, EV, Nat.reduceEqDiff, Nat.reduceBEq, Nat.reduceLT, Nat.reduceLeDiff, Nat.reduceAdd, Nat.reduceSub, reduceIte]
  refine awp_loop (fun p : List Int × List Int × Int => p.1 ++ upI p.2.1.length p.2.2 = upI l.length k ∧ p.2.2 + p.2.1.length = k + l.length ∧ 0 ≤ p.2.2 ∧ p.1.length + p.2.1.length = l.length)
    (fun p => stl [(0, .usl 3 1 ((p.1 ++ p.2.1).map iv)), (1, .v (.int .i64 p.2.2)), (5, .v (.int .i64 (p.1.length : Int)))]) (fun p => p.2.1.length) ([], l, k) ⟨rfl, rfl, h0, by simp⟩ ?_ ?_
  · simp only [EV, Nat.reduceEqDiff, Nat.reduceBEq, Nat.reduceLT, Nat.reduceLeDiff, Nat.reduceAdd, Nat.reduceSub, reduceIte]
    rfl
  · rintro ⟨pre, post, n⟩ ⟨p0, p1, p2, p3⟩
    cases post with
    | nil =>
      simp only [EV, Nat.reduceEqDiff, Nat.reduceBEq, Nat.reduceLT, Nat.reduceLeDiff, Nat.reduceAdd, Nat.reduceSub, reduceIte]
      refine cK_cut (fun h => ?_) (fun h => ?_)
      · simp at h
      · simp only [EV, Nat.reduceEqDiff, Nat.reduceBEq, Nat.reduceLT, Nat.reduceLeDiff, Nat.reduceAdd, Nat.reduceSub, reduceIte]
        simp only [List.append_nil, upI, List.length_nil] at p0 p1
        have e : n = k + l.length := by simp at p1; omega
        simp only [p0, ← e, EV, Nat.reduceEqDiff, Nat.reduceBEq, Nat.reduceLT, Nat.reduceLeDiff, Nat.reduceAdd, Nat.reduceSub, reduceIte, evRE, retVC, cellV', evR, nfz, nfzs, nfzss, List.contains_nil, List.contains_cons, Bool.or_false, or_true]
    | cons f post =>
      simp only [EV, Nat.reduceEqDiff, Nat.reduceBEq, Nat.reduceLT, Nat.reduceLeDiff, Nat.reduceAdd, Nat.reduceSub, reduceIte]
      refine cK_cut (fun h => ?_) (fun h => ?_)
      rotate_left
      · simp at h; omega
      simp only at p0 p1 p2 p3
      simp only [List.length_cons] at p1 p3
      have h3 : (pre.length : Int) < ((pre ++ f :: post).length : Int) := by simp; omega
      have h4 : pre.length < ((pre ++ f :: post).map iv).length := by simp
      have e1 : nth ((pre ++ f :: post).map iv) pre.length = [.v (.int .i64 f)] := nth_mid
      have e2 := set_mid (g := iv) (pre := pre) (post := post) (t := f) n
      generalize hR : (pre ++ f :: post).map iv = R at h4 e1 e2 ⊢
      have hRl : R.length = l.length := by rw [← hR]; simp; omega
      have h5 : (pre.length : Int) < (R.length : Int) := by omega
      have w0 := w64 ((pre.length : Int) + 1) (by omega)
      have w1 := w64 (n + 1) (by omega)
      simp only [h4, h5, e1, nth_set h4, List.getElem?_set_self h4, modify_set, w0, w1, EV, Nat.reduceEqDiff, Nat.reduceBEq, Nat.reduceLT, Nat.reduceLeDiff, Nat.reduceAdd, Nat.reduceSub, reduceIte]
      refine ⟨(pre ++ [n], post, n + 1), ⟨?_, ?_, ?_, ?_⟩, ?_, ?_⟩
      · rw [← p0]; simp [upI]
      · simp only; omega
      · simp only; omega
      · simp only [List.length_append, List.length_cons, List.length_nil]; omega
      · simp only; omega
      · simp only [iv] at e2
        simp only [← e2, List.length_append, List.length_cons, List.length_nil]
        rfl

/-- loop.example/g00837/laws.heldIntS -/
def m33 : MC :=
  (.seq
   (.reg [⟨(some 4), none, .a (.asg (.c (.int .i64 0)))⟩])
   (.seq
    (.seq
     (.reg [⟨(some 5), none, .a (.asg (.c (.int .i64 0)))⟩])
     (.block 0
      (.loop [0, 1, 5]
       (.seq
        (.seq
         (.reg [⟨(some 6), none, .q (.mov (.t 5))⟩,
           ⟨(some 7), none, .q (.mov (.t 0))⟩,
           ⟨(some 8), none, .q (.len false (.t 7))⟩,
           ⟨(some 9), none, .q (.bin false .lss (.t 6) (.t 8))⟩])
         (.cond (.t 9)
          .skip
          (.exit 0)))
        (.seq
         (.block 1
          (.seq
           (.seq
            (.reg [⟨(some 12), none, .q (.mov (.t 0))⟩,
              ⟨(some 13), none, .q (.mov (.t 5))⟩,
              ⟨(some 14), none, .q (.iad 1 (.t 12) (.t 13))⟩,
              ⟨(some 15), none, .q (.load false 1 (.t 14))⟩,
              ⟨(some 16), none, .q (.mov (.t 1))⟩,
              ⟨(some 17), none, .q (.bin false .neq (.t 15) (.t 16))⟩])
            (.cond (.t 17)
             (.seq
              (.reg [⟨(some 4), none, .a (.asg (.c (.int .i64 (-1))))⟩])
              .ret)
             .skip))
           (.reg [⟨(some 18), none, .q (.mov (.t 1))⟩,
             ⟨(some 19), none, .q (.bin false .add (.t 18) (.c (.int .i64 1)))⟩,
             ⟨(some 1), none, .a (.asg (.t 19))⟩])))
         (.reg [⟨(some 10), none, .q (.mov (.t 5))⟩,
           ⟨(some 11), none, .q (.bin false .add (.t 10) (.c (.int .i64 1)))⟩,
           ⟨(some 5), none, .a (.asg (.t 11))⟩]))))))
    (.seq
     (.reg [⟨(some 20), none, .q (.mov (.t 1))⟩,
       ⟨(some 4), none, .a (.asg (.t 20))⟩])
     .ret)))

theorem d33 (m : Nat) (k : Int) (h0 : 0 ≤ k) (h1 : k + m ≤ 4611686018427387904) :
    Does Go.Proofs.Try.prog 33 [.fsl 1 ((upI m k).map iv), .v (.int .i64 k)] false (.v (.int .i64 (k + m))) [.dead, .dead] := by
  have hl : (upI m k).length = m := upI_len m k
  generalize hM0 : upI m k = M at hl ⊢
  refine does_intro (mc := m33) (N := 21) (rs := [4]) (fx := []) 2 rfl (by decide +kernel) ?_
  simp only [m33, EV, Nat.reduceEqDiff, Nat.reduceBEq, Nat.reduceLT, Nat.reduceLeDiff, Nat.reduceAdd, Nat.reduceSub, reduceIte]
  refine awp_loop (fun p : List Int × Nat × Int => M = p.1 ++ upI p.2.1 p.2.2 ∧ p.2.2 + p.2.1 = k + m ∧ 0 ≤ p.2.2 ∧ p.1.length + p.2.1 = m)
    (fun p => stl [(0, .fsl 1 (M.map iv)), (1, .v (.int .i64 p.2.2)), (5, .v (.int .i64 (p.1.length : Int)))]) (fun p => p.2.1) ([], m, k) ⟨by rw [← hM0]; rfl, rfl, h0, by simp⟩ ?_ ?_
  · simp only [EV, Nat.reduceEqDiff, Nat.reduceBEq, Nat.reduceLT, Nat.reduceLeDiff, Nat.reduceAdd, Nat.reduceSub, reduceIte]
    rfl
  · rintro ⟨pre, post, n⟩ ⟨p0, p1, p2, p3⟩
    simp only at p0 p1 p2 p3
    cases post with
    | zero =>
      simp only [EV, Nat.reduceEqDiff, Nat.reduceBEq, Nat.reduceLT, Nat.reduceLeDiff, Nat.reduceAdd, Nat.reduceSub, reduceIte]
      refine cK_cut (fun h => ?_) (fun h => ?_)
      · simp at h p3; omega
      · simp only [EV, Nat.reduceEqDiff, Nat.reduceBEq, Nat.reduceLT, Nat.reduceLeDiff, Nat.reduceAdd, Nat.reduceSub, reduceIte]
        have e : n = k + m := by simp at p1; omega
        simp only [← e, EV, Nat.reduceEqDiff, Nat.reduceBEq, Nat.reduceLT, Nat.reduceLeDiff, Nat.reduceAdd, Nat.reduceSub, reduceIte, evRE, retVC, cellV', evR, nfz, nfzs, nfzss, List.contains_nil, List.contains_cons, Bool.or_false, or_true]
    | succ post =>
      simp only [EV, Nat.reduceEqDiff, Nat.reduceBEq, Nat.reduceLT, Nat.reduceLeDiff, Nat.reduceAdd, Nat.reduceSub, reduceIte]
      refine cK_cut (fun h => ?_) (fun h => ?_)
      rotate_left
      · simp at h; omega
      have h5 : (pre.length : Int) < (M.length : Int) := by omega
      have e1 : nth (M.map iv) pre.length = [.v (.int .i64 n)] := by rw [p0]; exact nth_mid
      have w0 := w64 ((pre.length : Int) + 1) (by omega)
      have w1 := w64 (n + 1) (by omega)
      simp only [h5, e1, w0, w1, bne_self_eq_false, EV, Nat.reduceEqDiff, Nat.reduceBEq, Nat.reduceLT, Nat.reduceLeDiff, Nat.reduceAdd, Nat.reduceSub, reduceIte]
      refine ⟨(pre ++ [n], post, n + 1), ⟨?_, ?_, ?_, ?_⟩, ?_, ?_⟩
      · rw [p0]; simp [upI]
      · simp only; omega
      · simp only; omega
      · simp only [List.length_append, List.length_cons, List.length_nil]; omega
      · simp only; omega
      · simp only [List.length_append, List.length_cons, List.length_nil]
        rfl

end Go.AM
namespace Go.AM
set_option linter.unusedVariables false
set_option linter.unusedSimpArgs false
/-- loop.example/g00837/laws.markText -/
def m89 : MC :=
  (.seq
   (.reg [⟨(some 2), none, .a (.asg (.c (.string ({ data := #[] }))))⟩])
   (.seq
    (.seq
     (.reg [⟨(some 4), none, .q (.mov (.t 0))⟩,
       ⟨(some 5), none, .q (.bin false .leq (.t 4) (.c (.int .i64 0)))⟩])
     (.cond (.t 5)
      (.seq
       (.reg [⟨(some 2), none, .a (.asg (.c (.string ({ data := #[109, 48] }))))⟩])
       .ret)
      .skip))
    (.seq
     (.reg [⟨(some 3), none, .a (.asg (.c (.string ({ data := #[] }))))⟩])
     (.seq
      (.block 0
       (.loop [0, 3]
        (.seq
         (.seq
          (.reg [⟨(some 6), none, .q (.mov (.t 0))⟩,
            ⟨(some 7), none, .q (.bin false .gtr (.t 6) (.c (.int .i64 0)))⟩])
          (.cond (.t 7)
           .skip
           (.exit 0)))
         (.block 1
          (.seq
           (.reg [⟨(some 8), none, .q (.mov (.t 0))⟩,
             ⟨(some 9), none, .q (.bin false .rem (.t 8) (.c (.int .i64 10)))⟩,
             ⟨(some 10), none, .q (.bin false .add (.c (.int .i64 48)) (.t 9))⟩,
             ⟨(some 11), none, .q (.conv .u8 (.t 10))⟩,
             ⟨(some 12), none, .a (.bsl 5 1 [.t 11])⟩,
             ⟨(some 13), none, .q (.b2s (.t 12))⟩,
             ⟨(some 14), none, .q (.mov (.t 3))⟩,
             ⟨(some 15), none, .q (.bin false .add (.t 13) (.t 14))⟩,
             ⟨(some 3), none, .a (.asg (.t 15))⟩])
           (.reg [⟨(some 16), none, .q (.mov (.t 0))⟩,
             ⟨(some 17), none, .q (.bin false .quo (.t 16) (.c (.int .i64 10)))⟩,
             ⟨(some 0), none, .a (.asg (.t 17))⟩]))))))
      (.seq
       (.reg [⟨(some 18), none, .q (.mov (.t 3))⟩,
         ⟨(some 19), none, .q (.bin false .add (.c (.string ({ data := #[109] }))) (.t 18))⟩,
         ⟨(some 2), none, .a (.asg (.t 19))⟩])
       .ret)))))

def mtL (k : Int) (s : ByteArray) : ByteArray := if h : 0 < k then mtL (k.tdiv 10) (strA [IntKind.u8.wrap (48 + k.tmod 10)] ++ s) else s
  termination_by k.toNat
  decreasing_by
  have : k.tdiv 10 = k / 10 := Int.tdiv_eq_ediv_of_nonneg (by omega)
  rw [this]; omega

def mt (k : Int) : ByteArray := if k ≤ 0 then ⟨#[109, 48]⟩ else ⟨#[109]⟩ ++ mtL k ⟨#[]⟩

theorem d89 (k : Int) (h0 : -9223372036854775808 ≤ k) (h1 : k ≤ 4611686018427387904) : Does Go.Proofs.Try.prog 89 [.v (.int .i64 k)] false (.v (.string (mt k))) [.dead] := by
  refine does_intro (mc := m89) (N := 20) (rs := [2]) (fx := []) 1 rfl (by decide +kernel) ?_
  simp only [m89, EV, Nat.reduceEqDiff, Nat.reduceBEq, Nat.reduceLT, Nat.reduceLeDiff, Nat.reduceAdd, Nat.reduceSub, reduceIte]
  refine cK_cut (fun h => ?_) (fun h => ?_)
  · have h2 : k ≤ 0 := by simpa using h
    simp only [EV, Nat.reduceEqDiff, Nat.reduceBEq, Nat.reduceLT, Nat.reduceLeDiff, Nat.reduceAdd, Nat.reduceSub, reduceIte]
    simp only [mt, h2, EV, Nat.reduceEqDiff, Nat.reduceBEq, Nat.reduceLT, Nat.reduceLeDiff, Nat.reduceAdd, Nat.reduceSub, reduceIte, evRE, retVC, cellV', evR, nfz, nfzs, nfzss, List.contains_nil, List.contains_cons, Bool.or_false, or_true]
  · have h2 : ¬ k ≤ 0 := by simpa using h
    simp only [EV, Nat.reduceEqDiff, Nat.reduceBEq, Nat.reduceLT, Nat.reduceLeDiff, Nat.reduceAdd, Nat.reduceSub, reduceIte]
    refine awp_loop (fun p : Int × ByteArray => 0 ≤ p.1 ∧ p.1 ≤ k ∧ (p.2.size : Int) + p.1 ≤ k ∧ mtL p.1 p.2 = mtL k ⟨#[]⟩) (fun p => stl [(0, .v (.int .i64 p.1)), (3, .v (.string p.2))]) (fun p => p.1.toNat) (k, ⟨#[]⟩) ⟨by omega, by omega, by show (((⟨#[]⟩ : ByteArray).size : Nat) : Int) + k ≤ k; simp [ByteArray.size], rfl⟩ ?_ ?_
    · simp only [EV, Nat.reduceEqDiff, Nat.reduceBEq, Nat.reduceLT, Nat.reduceLeDiff, Nat.reduceAdd, Nat.reduceSub, reduceIte]
    · rintro ⟨n, s⟩ ⟨p0, p1, p2, p3⟩
      simp only [EV, Nat.reduceEqDiff, Nat.reduceBEq, Nat.reduceLT, Nat.reduceLeDiff, Nat.reduceAdd, Nat.reduceSub, reduceIte]
      refine cK_cut (fun h => ?_) (fun h => ?_)
      · have h3 : 0 < n := by simpa using h
        have ed : n.tdiv 10 = n / 10 := Int.tdiv_eq_ediv_of_nonneg (by omega)
        have em : n.tmod 10 = n % 10 := Int.tmod_eq_emod_of_nonneg (by omega)
        have w1 : IntKind.i64.wrap (48 + n.tmod 10) = 48 + n.tmod 10 := w64 _ (by omega)
        have w2 : IntKind.i64.wrap (n.tdiv 10) = n.tdiv 10 := w64 _ (by omega)
        simp only [w1, w2, EV, Nat.reduceEqDiff, Nat.reduceBEq, Nat.reduceLT, Nat.reduceLeDiff, Nat.reduceAdd, Nat.reduceSub, reduceIte]
        simp only at p0 p1 p2 p3
        have hs : (strA [IntKind.u8.wrap (48 + n.tmod 10)]).size = 1 := rfl
        refine ⟨by decide, ?_, by decide, (n.tdiv 10, strA [IntKind.u8.wrap (48 + n.tmod 10)] ++ s), ⟨?_, ?_, ?_, ?_⟩, ?_, rfl⟩
        · rw [hs]; omega
        · show 0 ≤ n.tdiv 10; omega
        · show n.tdiv 10 ≤ k; omega
        · show (((strA [IntKind.u8.wrap (48 + n.tmod 10)] ++ s).size : Nat) : Int) + n.tdiv 10 ≤ k
          rw [ByteArray.size_append, hs]; omega
        · show mtL (n.tdiv 10) (strA [IntKind.u8.wrap (48 + n.tmod 10)] ++ s) = _
          rw [← p3, mtL.eq_def n, dif_pos h3]
        · show (n.tdiv 10).toNat < n.toNat; omega
      · have h3 : ¬ 0 < n := by simpa using h
        simp only at p0 p1 p2 p3
        have e : mtL k ⟨#[]⟩ = s := by rw [← p3, mtL.eq_def, dif_neg h3]
        have hs : ((⟨#[109]⟩ : ByteArray).size : Nat) = 1 := rfl
        simp only [EV, Nat.reduceEqDiff, Nat.reduceBEq, Nat.reduceLT, Nat.reduceLeDiff, Nat.reduceAdd, Nat.reduceSub, reduceIte]
        refine ⟨?_, ?_⟩
        · rw [hs]; omega
        · simp only [mt, h2, e, EV, Nat.reduceEqDiff, Nat.reduceBEq, Nat.reduceLT, Nat.reduceLeDiff, Nat.reduceAdd, Nat.reduceSub, reduceIte, evRE, retVC, cellV', evR, nfz, nfzs, nfzss, List.contains_nil, List.contains_cons, Bool.or_false, or_true]

def mkFd (k : Int) : Fd := ⟨mt (k), k + 1, k + 2⟩

def mkFdS : List Fd → Int → List Fd
  | [], _ => []
  | f :: fs, k => mkFd k :: mkFdS fs (k + 3)

theorem mkFdS_len : ∀ (l : List Fd) (k : Int), (mkFdS l k).length = l.length
  | [], _ => rfl
  | f :: fs, k => by simp [mkFdS, mkFdS_len fs]

/-- loop.example/g00837/laws.markFieldS -/
def m37 : MC :=
  (.seq
   (.reg [⟨(some 4), none, .a (.asg (.c (.int .i64 0)))⟩])
   (.seq
    (.seq
     (.reg [⟨(some 5), none, .a (.asg (.c (.int .i64 0)))⟩])
     (.block 0
      (.loop [0, 1, 5]
       (.seq
        (.seq
         (.reg [⟨(some 6), none, .q (.mov (.t 5))⟩,
           ⟨(some 7), none, .q (.mov (.t 0))⟩,
           ⟨(some 8), none, .q (.len false (.t 7))⟩,
           ⟨(some 9), none, .q (.bin false .lss (.t 6) (.t 8))⟩])
         (.cond (.t 9)
          .skip
          (.exit 0)))
        (.seq
         (.block 1
          (.seq
           (.reg [⟨(some 12), none, .q (.mov (.t 0))⟩,
             ⟨(some 13), none, .q (.mov (.t 5))⟩,
             ⟨(some 14), none, .q (.mov (.t 1))⟩,
             ⟨(some 15), none, .a (.call (.fn 89) false [.lend (.t 14)])⟩,
             ⟨(some 16), none, .q (.iad 3 (.t 12) (.t 13))⟩,
             ⟨(some 17), none, .q (.fad 0 (.t 16))⟩,
             ⟨none, none, .a (.store 1 (.t 17) (.t 15))⟩])
           (.seq
            (.reg [⟨(some 18), none, .q (.mov (.t 1))⟩,
              ⟨(some 19), none, .q (.bin false .add (.t 18) (.c (.int .i64 1)))⟩,
              ⟨(some 1), none, .a (.asg (.t 19))⟩])
            (.seq
             (.reg [⟨(some 20), none, .q (.mov (.t 0))⟩,
               ⟨(some 21), none, .q (.mov (.t 5))⟩,
               ⟨(some 22), none, .q (.mov (.t 1))⟩,
               ⟨(some 23), none, .q (.iad 3 (.t 20) (.t 21))⟩,
               ⟨(some 24), none, .q (.fad 1 (.t 23))⟩,
               ⟨none, none, .a (.store 1 (.t 24) (.t 22))⟩])
             (.seq
              (.reg [⟨(some 25), none, .q (.mov (.t 1))⟩,
                ⟨(some 26), none, .q (.bin false .add (.t 25) (.c (.int .i64 1)))⟩,
                ⟨(some 1), none, .a (.asg (.t 26))⟩])
              (.seq
               (.reg [⟨(some 27), none, .q (.mov (.t 0))⟩,
                 ⟨(some 28), none, .q (.mov (.t 5))⟩,
                 ⟨(some 29), none, .q (.mov (.t 1))⟩,
                 ⟨(some 30), none, .q (.iad 3 (.t 27) (.t 28))⟩,
                 ⟨(some 31), none, .q (.fad 2 (.t 30))⟩,
                 ⟨none, none, .a (.store 1 (.t 31) (.t 29))⟩])
               (.reg [⟨(some 32), none, .q (.mov (.t 1))⟩,
                 ⟨(some 33), none, .q (.bin false .add (.t 32) (.c (.int .i64 1)))⟩,
                 ⟨(some 1), none, .a (.asg (.t 33))⟩])))))))
         (.reg [⟨(some 10), none, .q (.mov (.t 5))⟩,
           ⟨(some 11), none, .q (.bin false .add (.t 10) (.c (.int .i64 1)))⟩,
           ⟨(some 5), none, .a (.asg (.t 11))⟩]))))))
    (.seq
     (.reg [⟨(some 34), none, .q (.mov (.t 1))⟩,
       ⟨(some 4), none, .a (.asg (.t 34))⟩])
     .ret)))

theorem d37 (l : List Fd) (k : Int) (h0 : 0 ≤ k) (h1 : k + 3 * l.length ≤ 4611686018427387904) :
    Does Go.Proofs.Try.prog 37 [.usl 57 3 (l.map Fd.o), .v (.int .i64 k)] false (.v (.int .i64 (k + 3 * l.length))) [.usl 57 3 ((mkFdS l k).map Fd.o), .dead] := by
  refine does_intro (mc := m37) (N := 35) (rs := [4]) (fx := [0]) 2 rfl (by decide +kernel) ?_
  simp only [m37, EV, Nat.reduceEqDiff, Nat.reduceBEq, Nat.reduceLT, Nat.reduceLeDiff, Nat.reduceAdd, Nat.reduceSub, reduceIte]
  refine awp_loop (fun p : List Fd × List Fd × Int => p.1 ++ mkFdS p.2.1 p.2.2 = mkFdS l k ∧ p.2.2 + 3 * p.2.1.length = k + 3 * l.length ∧ 0 ≤ p.2.2 ∧ p.1.length + p.2.1.length = l.length)
    (fun p => stl [(0, .usl 57 3 ((p.1 ++ p.2.1).map Fd.o)), (1, .v (.int .i64 p.2.2)), (5, .v (.int .i64 (p.1.length : Int)))]) (fun p => p.2.1.length) ([], l, k) ⟨rfl, rfl, h0, by simp⟩ ?_ ?_
  · simp only [EV, Nat.reduceEqDiff, Nat.reduceBEq, Nat.reduceLT, Nat.reduceLeDiff, Nat.reduceAdd, Nat.reduceSub, reduceIte]
    rfl
  · rintro ⟨pre, post, n⟩ ⟨p0, p1, p2, p3⟩
    cases post with
    | nil =>
      simp only [EV, Nat.reduceEqDiff, Nat.reduceBEq, Nat.reduceLT, Nat.reduceLeDiff, Nat.reduceAdd, Nat.reduceSub, reduceIte]
      refine cK_cut (fun h => ?_) (fun h => ?_)
      · simp at h
      · simp only [EV, Nat.reduceEqDiff, Nat.reduceBEq, Nat.reduceLT, Nat.reduceLeDiff, Nat.reduceAdd, Nat.reduceSub, reduceIte]
        simp only [List.append_nil, mkFdS, List.length_nil] at p0 p1
        have e : n = k + 3 * l.length := by simp at p1; omega
        simp only [p0, ← e, EV, Nat.reduceEqDiff, Nat.reduceBEq, Nat.reduceLT, Nat.reduceLeDiff, Nat.reduceAdd, Nat.reduceSub, reduceIte, evRE, retVC, cellV', evR, nfz, nfzs, nfzss, List.contains_nil, List.contains_cons, Bool.or_false, or_true]
    | cons f post =>
      simp only [EV, Nat.reduceEqDiff, Nat.reduceBEq, Nat.reduceLT, Nat.reduceLeDiff, Nat.reduceAdd, Nat.reduceSub, reduceIte]
      refine cK_cut (fun h => ?_) (fun h => ?_)
      rotate_left
      · simp at h; omega
      simp only at p0 p1 p2 p3
      simp only [List.length_cons] at p1 p3
      have h3 : (pre.length : Int) < ((pre ++ f :: post).length : Int) := by simp; omega
      have h4 : pre.length < ((pre ++ f :: post).map Fd.o).length := by simp
      have e1 : nth ((pre ++ f :: post).map Fd.o) pre.length = f.o := nth_mid
      generalize hR : (pre ++ f :: post).map Fd.o = R at h4 e1 ⊢
      have hRl : R.length = l.length := by rw [← hR]; simp; omega
      have h5 : (pre.length : Int) < (R.length : Int) := by omega
      have w0 := w64 ((pre.length : Int) + 1) (by omega)
      have w1 := w64 (n + 1) (by omega)
      have w2 := w64 (n + 1 + 1) (by omega)
      have w3 := w64 (n + 1 + 1 + 1) (by omega)
      simp only [h4, h5, e1, nth_set h4, List.getElem?_set_self h4, modify_set, Fd.o, w1, w2, w3, w0, EV, Nat.reduceEqDiff, Nat.reduceBEq, Nat.reduceLT, Nat.reduceLeDiff, Nat.reduceAdd, Nat.reduceSub, reduceIte]
      refine callK_i (d89 (n) (by omega) (by omega)) ?_
      simp only [h4, h5, e1, nth_set h4, List.getElem?_set_self h4, modify_set, Fd.o, w1, w2, w3, w0, EV, Nat.reduceEqDiff, Nat.reduceBEq, Nat.reduceLT, Nat.reduceLeDiff, Nat.reduceAdd, Nat.reduceSub, reduceIte]
      refine ⟨(pre ++ [mkFd n], post, n + 3), ⟨?_, ?_, ?_, ?_⟩, ?_, ?_⟩
      · rw [← p0]; simp [mkFdS]
      · simp only; omega
      · simp only; omega
      · simp only [List.length_append, List.length_cons, List.length_nil]; omega
      · simp only; omega
      · have e2 := set_mid (g := Fd.o) (pre := pre) (post := post) (t := f) (mkFd n)
        rw [hR] at e2
        simp only [Fd.o, mkFd] at e2
        simp only [← e2, mkFd, List.length_append, List.length_cons, List.length_nil, Int.add_assoc]
        rfl

end Go.AM
namespace Go.AM
set_option linter.unusedVariables false
set_option linter.unusedSimpArgs false
def mkTy (t : Ty) (k : Int) : Ty := ⟨k, k + 1, k + 2, mkFdS t.fields (k + 3), mt (k + 3 + 3 * t.fields.length), mt (k + 3 + 3 * t.fields.length + 1)⟩

def cntTy (t : Ty) : Int := 5 + 3 * t.fields.length

def cntTys : List Ty → Int
  | [] => 0
  | t :: l => cntTy t + cntTys l

theorem cntTys_nn : ∀ l : List Ty, 0 ≤ cntTys l
  | [] => Int.le_refl _
  | t :: l => by have := cntTys_nn l; unfold cntTys cntTy; omega

def mkTyS : List Ty → Int → List Ty
  | [], _ => []
  | t :: l, k => mkTy t k :: mkTyS l (k + cntTy t)

theorem mkTyS_len : ∀ (l : List Ty) (k : Int), (mkTyS l k).length = l.length
  | [], _ => rfl
  | f :: fs, k => by simp [mkTyS, mkTyS_len fs]

theorem mkTy_o (f : Ty) (n : Int) : Ty.o (mkTy f n) = [.v (.int .i64 n), .v (.int .i64 (n + 1)), .v (.int .i64 (n + 2)), .usl 57 3 ((mkFdS f.fields (n + 3)).map Fd.o), .v (.string (mt (n + 3 + 3 * f.fields.length))), .v (.string (mt (n + 3 + 3 * f.fields.length + 1)))] := rfl

/-- loop.example/g00837/laws.markTypeS -/
def m31 : MC :=
  (.seq
   (.reg [⟨(some 4), none, .a (.asg (.c (.int .i64 0)))⟩])
   (.seq
    (.seq
     (.reg [⟨(some 5), none, .a (.asg (.c (.int .i64 0)))⟩])
     (.block 0
      (.loop [0, 1, 5]
       (.seq
        (.seq
         (.reg [⟨(some 6), none, .q (.mov (.t 5))⟩,
           ⟨(some 7), none, .q (.mov (.t 0))⟩,
           ⟨(some 8), none, .q (.len false (.t 7))⟩,
           ⟨(some 9), none, .q (.bin false .lss (.t 6) (.t 8))⟩])
         (.cond (.t 9)
          .skip
          (.exit 0)))
        (.seq
         (.block 1
          (.seq
           (.reg [⟨(some 12), none, .q (.mov (.t 0))⟩,
             ⟨(some 13), none, .q (.mov (.t 5))⟩,
             ⟨(some 14), none, .q (.mov (.t 1))⟩,
             ⟨(some 15), none, .q (.iad 6 (.t 12) (.t 13))⟩,
             ⟨(some 16), none, .q (.fad 0 (.t 15))⟩,
             ⟨none, none, .a (.store 1 (.t 16) (.t 14))⟩])
           (.seq
            (.reg [⟨(some 17), none, .q (.mov (.t 1))⟩,
              ⟨(some 18), none, .q (.bin false .add (.t 17) (.c (.int .i64 1)))⟩,
              ⟨(some 1), none, .a (.asg (.t 18))⟩])
            (.seq
             (.reg [⟨(some 19), none, .q (.mov (.t 0))⟩,
               ⟨(some 20), none, .q (.mov (.t 5))⟩,
               ⟨(some 21), none, .q (.mov (.t 1))⟩,
               ⟨(some 22), none, .q (.iad 6 (.t 19) (.t 20))⟩,
               ⟨(some 23), none, .q (.fad 1 (.t 22))⟩,
               ⟨none, none, .a (.store 1 (.t 23) (.t 21))⟩])
             (.seq
              (.reg [⟨(some 24), none, .q (.mov (.t 1))⟩,
                ⟨(some 25), none, .q (.bin false .add (.t 24) (.c (.int .i64 1)))⟩,
                ⟨(some 1), none, .a (.asg (.t 25))⟩])
              (.seq
               (.reg [⟨(some 26), none, .q (.mov (.t 0))⟩,
                 ⟨(some 27), none, .q (.mov (.t 5))⟩,
                 ⟨(some 28), none, .q (.mov (.t 1))⟩,
                 ⟨(some 29), none, .q (.iad 6 (.t 26) (.t 27))⟩,
                 ⟨(some 30), none, .q (.fad 2 (.t 29))⟩,
                 ⟨none, none, .a (.store 1 (.t 30) (.t 28))⟩])
               (.seq
                (.reg [⟨(some 31), none, .q (.mov (.t 1))⟩,
                  ⟨(some 32), none, .q (.bin false .add (.t 31) (.c (.int .i64 1)))⟩,
                  ⟨(some 1), none, .a (.asg (.t 32))⟩])
                (.seq
                 (.reg [⟨(some 33), none, .q (.mov (.t 0))⟩,
                   ⟨(some 34), none, .q (.mov (.t 5))⟩,
                   ⟨(some 35), none, .q (.iad 6 (.t 33) (.t 34))⟩,
                   ⟨(some 36), none, .q (.fad 3 (.t 35))⟩,
                   ⟨(some 37), none, .q (.load false 1 (.t 36))⟩,
                   ⟨(some 38), none, .q (.mov (.t 1))⟩,
                   ⟨(some 39), none, .a (.call (.fn 37) false [.io (.t 37), .lend (.t 38)])⟩,
                   ⟨(some 1), none, .a (.asg (.t 39))⟩])
                 (.seq
                  (.reg [⟨(some 40), none, .q (.mov (.t 0))⟩,
                    ⟨(some 41), none, .q (.mov (.t 5))⟩,
                    ⟨(some 42), none, .q (.mov (.t 1))⟩,
                    ⟨(some 43), none, .a (.call (.fn 89) false [.lend (.t 42)])⟩,
                    ⟨(some 44), none, .q (.iad 6 (.t 40) (.t 41))⟩,
                    ⟨(some 45), none, .q (.fad 4 (.t 44))⟩,
                    ⟨none, none, .a (.store 1 (.t 45) (.t 43))⟩])
                  (.seq
                   (.reg [⟨(some 46), none, .q (.mov (.t 1))⟩,
                     ⟨(some 47), none, .q (.bin false .add (.t 46) (.c (.int .i64 1)))⟩,
                     ⟨(some 1), none, .a (.asg (.t 47))⟩])
                   (.seq
                    (.reg [⟨(some 48), none, .q (.mov (.t 0))⟩,
                      ⟨(some 49), none, .q (.mov (.t 5))⟩,
                      ⟨(some 50), none, .q (.mov (.t 1))⟩,
                      ⟨(some 51), none, .a (.call (.fn 89) false [.lend (.t 50)])⟩,
                      ⟨(some 52), none, .q (.iad 6 (.t 48) (.t 49))⟩,
                      ⟨(some 53), none, .q (.fad 5 (.t 52))⟩,
                      ⟨none, none, .a (.store 1 (.t 53) (.t 51))⟩])
                    (.reg [⟨(some 54), none, .q (.mov (.t 1))⟩,
                      ⟨(some 55), none, .q (.bin false .add (.t 54) (.c (.int .i64 1)))⟩,
                      ⟨(some 1), none, .a (.asg (.t 55))⟩]))))))))))))
         (.reg [⟨(some 10), none, .q (.mov (.t 5))⟩,
           ⟨(some 11), none, .q (.bin false .add (.t 10) (.c (.int .i64 1)))⟩,
           ⟨(some 5), none, .a (.asg (.t 11))⟩]))))))
    (.seq
     (.reg [⟨(some 56), none, .q (.mov (.t 1))⟩,
       ⟨(some 4), none, .a (.asg (.t 56))⟩])
     .ret)))

set_option maxHeartbeats 1000000 in
set_option maxRecDepth 100000 in
theorem d31 (l : List Ty) (k : Int) (h0 : 0 ≤ k) (h1 : k + cntTys l ≤ 4611686018427387904) (hl : (l.length : Int) ≤ 1048576) (hs : ∀ s ∈ l, s.sm) :
    Does Go.Proofs.Try.prog 31 [.usl 59 6 (l.map Ty.o), .v (.int .i64 k)] false (.v (.int .i64 (k + cntTys l))) [.usl 59 6 ((mkTyS l k).map Ty.o), .dead] := by
  refine does_intro (mc := m31) (N := 57) (rs := [4]) (fx := [0]) 2 rfl (by decide +kernel) ?_
  simp only [m31, EV, Nat.reduceEqDiff, Nat.reduceBEq, Nat.reduceLT, Nat.reduceLeDiff, Nat.reduceAdd, Nat.reduceSub, reduceIte]
  refine awp_loop (fun p : List Ty × List Ty × Int => p.1 ++ mkTyS p.2.1 p.2.2 = mkTyS l k ∧ p.2.2 + cntTys p.2.1 = k + cntTys l ∧ 0 ≤ p.2.2 ∧ p.1.length + p.2.1.length = l.length ∧ ∀ s ∈ p.2.1, s.sm)
    (fun p => stl [(0, .usl 59 6 ((p.1 ++ p.2.1).map Ty.o)), (1, .v (.int .i64 p.2.2)), (5, .v (.int .i64 (p.1.length : Int)))]) (fun p => p.2.1.length) ([], l, k) ⟨rfl, rfl, h0, by simp, hs⟩ ?_ ?_
  · simp only [EV, Nat.reduceEqDiff, Nat.reduceBEq, Nat.reduceLT, Nat.reduceLeDiff, Nat.reduceAdd, Nat.reduceSub, reduceIte]
    rfl
  · rintro ⟨pre, post, n⟩ ⟨p0, p1, p2, p3, p4⟩
    cases post with
    | nil =>
      simp only [EV, Nat.reduceEqDiff, Nat.reduceBEq, Nat.reduceLT, Nat.reduceLeDiff, Nat.reduceAdd, Nat.reduceSub, reduceIte]
      refine cK_cut (fun h => ?_) (fun h => ?_)
      · simp at h
      · simp only [EV, Nat.reduceEqDiff, Nat.reduceBEq, Nat.reduceLT, Nat.reduceLeDiff, Nat.reduceAdd, Nat.reduceSub, reduceIte]
        simp only [List.append_nil, mkTyS] at p0
        have e : n = k + cntTys l := by simp [cntTys] at p1; omega
        simp only [p0, ← e, EV, Nat.reduceEqDiff, Nat.reduceBEq, Nat.reduceLT, Nat.reduceLeDiff, Nat.reduceAdd, Nat.reduceSub, reduceIte, evRE, retVC, cellV', evR, nfz, nfzs, nfzss, List.contains_nil, List.contains_cons, Bool.or_false, or_true]
    | cons f post =>
      simp only [EV, Nat.reduceEqDiff, Nat.reduceBEq, Nat.reduceLT, Nat.reduceLeDiff, Nat.reduceAdd, Nat.reduceSub, reduceIte]
      refine cK_cut (fun h => ?_) (fun h => ?_)
      rotate_left
      · simp at h; omega
      simp only at p0 p1 p2 p3
      have hsm := p4 f (by simp)
      unfold Ty.sm at hsm
      have hfl := hsm.2.2.2.1.1
      have hnn := cntTys_nn post
      simp only [List.length_cons] at p3
      simp only [cntTys, cntTy] at p1
      have h4 : pre.length < ((pre ++ f :: post).map Ty.o).length := by simp
      have e1 : nth ((pre ++ f :: post).map Ty.o) pre.length = f.o := nth_mid
      have e2 := set_mid (g := Ty.o) (pre := pre) (post := post) (t := f) (mkTy f n)
      generalize hR : (pre ++ f :: post).map Ty.o = R at h4 e1 e2 ⊢
      have hRl : R.length = l.length := by rw [← hR]; simp; omega
      have h5 : (pre.length : Int) < (R.length : Int) := by omega
      have w0 := w64 ((pre.length : Int) + 1) (by omega)
      have w1 := w64 (n + 1) (by omega)
      have w2 := w64 (n + 1 + 1) (by omega)
      have w3 := w64 (n + 1 + 1 + 1) (by omega)
      simp only [h4, h5, e1, nth_set h4, List.getElem?_set_self h4, modify_set, Ty.o, w0, w1, w2, w3, EV, Nat.reduceEqDiff, Nat.reduceBEq, Nat.reduceLT, Nat.reduceLeDiff, Nat.reduceAdd, Nat.reduceSub, reduceIte]
      refine callK2_i (d37 f.fields (n + 1 + 1 + 1) (by omega) (by omega)) rfl ?_ ?_
      · simp only [mkFdS_len, EV, Nat.reduceEqDiff, Nat.reduceBEq, Nat.reduceLT, Nat.reduceLeDiff, Nat.reduceAdd, Nat.reduceSub, reduceIte]
      have g1 : n + 1 + 1 = n + 2 := by omega
      have g2 : n + 2 + 1 = n + 3 := by omega
      have w4 := w64 (n + 3 + 3 * (f.fields.length : Int) + 1) (by omega)
      have w5 := w64 (n + 3 + 3 * (f.fields.length : Int) + 1 + 1) (by omega)
      simp only [g1, g2, h4, h5, e1, nth_set h4, List.getElem?_set_self h4, modify_set, w4, EV, Nat.reduceEqDiff, Nat.reduceBEq, Nat.reduceLT, Nat.reduceLeDiff, Nat.reduceAdd, Nat.reduceSub, reduceIte]
      refine callK_i (d89 (n + 3 + 3 * (f.fields.length : Int)) (by omega) (by omega)) ?_
      simp only [g1, g2, h4, h5, e1, nth_set h4, List.getElem?_set_self h4, modify_set, w4, EV, Nat.reduceEqDiff, Nat.reduceBEq, Nat.reduceLT, Nat.reduceLeDiff, Nat.reduceAdd, Nat.reduceSub, reduceIte]
      refine callK_i (d89 (n + 3 + 3 * (f.fields.length : Int) + 1) (by omega) (by omega)) ?_
      simp only [g1, g2, h4, h5, e1, nth_set h4, List.getElem?_set_self h4, modify_set, w4, w5, EV, Nat.reduceEqDiff, Nat.reduceBEq, Nat.reduceLT, Nat.reduceLeDiff, Nat.reduceAdd, Nat.reduceSub, reduceIte]
      refine ⟨(pre ++ [mkTy f n], post, n + cntTy f), ⟨?_, ?_, ?_, ?_, ?_⟩, ?_, ?_⟩
      · rw [← p0]; simp [mkTyS]
      · simp only [cntTy]; omega
      · simp only [cntTy]; omega
      · simp only [List.length_append, List.length_cons, List.length_nil]; omega
      · intro s hs'; exact p4 s (by simp; exact .inr hs')
      · simp only; omega
      · rw [mkTy_o] at e2
        have g3 : n + 3 + 3 * (f.fields.length : Int) + 1 + 1 = n + cntTy f := by unfold cntTy; omega
        have g4 : (((pre ++ [mkTy f n]).length : Nat) : Int) = (pre.length : Int) + 1 := by simp
        simp only [← e2, g3, g4, w0]

end Go.AM
namespace Go.AM
set_option linter.unusedVariables false
set_option linter.unusedSimpArgs false
/-- Numbers rise up to a place. -/
def riseTo (n : List Int) (i : Nat) : Prop := ∀ j (h : j + 1 < n.length), j + 1 < i → n[j] < n[j + 1]

theorem riseTo_up {n : List Int} (h : riseTo n n.length) : n.Pairwise (· < ·) := by
  induction n with
  | nil => exact List.Pairwise.nil
  | cons x n ih =>
    have h2 : riseTo n n.length := fun j hj hji => by have := h (j + 1) (by simp; omega) (by simp; omega); simpa using this
    refine List.pairwise_cons.2 ⟨?_, ih h2⟩
    have hp := ih h2
    cases n with
    | nil => simp
    | cons y n =>
      have h0 : x < y := h 0 (by simp) (by simp)
      intro a ha
      rcases List.mem_cons.1 ha with rfl | ha
      · exact h0
      · have := (List.pairwise_cons.1 hp).1 a ha; omega

theorem up_rise {n : List Int} (h : n.Pairwise (· < ·)) : ∀ j (hj : j + 1 < n.length), n[j] < n[j + 1] := fun j hj => List.pairwise_iff_getElem.1 h j (j + 1) (by omega) hj (by omega)

open Classical in
noncomputable def upB (n : List Int) : Bool := decide (n.Pairwise (· < ·))

/-- loop.example/g00837/impl.areRising -/
def m85 : MC :=
  (.seq
   (.reg [⟨(some 2), none, .a (.asg (.c (.bool false)))⟩])
   (.seq
    (.seq
     (.reg [⟨(some 3), none, .a (.asg (.c (.int .i64 1)))⟩])
     (.block 0
      (.loop [0, 3]
       (.seq
        (.seq
         (.reg [⟨(some 4), none, .q (.mov (.t 3))⟩,
           ⟨(some 5), none, .q (.mov (.t 0))⟩,
           ⟨(some 6), none, .q (.len false (.t 5))⟩,
           ⟨(some 7), none, .q (.bin false .lss (.t 4) (.t 6))⟩])
         (.cond (.t 7)
          .skip
          (.exit 0)))
        (.seq
         (.block 1
          (.seq
           (.dreg [⟨(some 10), none, .q (.mov (.t 0))⟩,
             ⟨(some 11), none, .q (.mov (.t 3))⟩,
             ⟨(some 12), none, .q (.bin false .sub (.t 11) (.c (.int .i64 1)))⟩,
             ⟨(some 13), none, .q (.iad 1 (.t 10) (.t 12))⟩,
             ⟨(some 14), none, .q (.load false 1 (.t 13))⟩,
             ⟨(some 15), none, .q (.mov (.t 0))⟩,
             ⟨(some 16), none, .q (.mov (.t 3))⟩,
             ⟨(some 17), none, .q (.iad 1 (.t 15) (.t 16))⟩,
             ⟨(some 18), none, .q (.load false 1 (.t 17))⟩,
             ⟨(some 19), none, .q (.bin false .geq (.t 14) (.t 18))⟩])
           (.cond (.t 19)
            (.seq
             (.reg [⟨(some 2), none, .a (.asg (.c (.bool false)))⟩])
             .ret)
            .skip)))
         (.reg [⟨(some 8), none, .q (.mov (.t 3))⟩,
           ⟨(some 9), none, .q (.bin false .add (.t 8) (.c (.int .i64 1)))⟩,
           ⟨(some 3), none, .a (.asg (.t 9))⟩]))))))
    (.seq
     (.reg [⟨(some 2), none, .a (.asg (.c (.bool true)))⟩])
     .ret)))

set_option maxRecDepth 100000 in
theorem d85 (n : List Int) (hl : (n.length : Int) ≤ 1048576) : Does Go.Proofs.Try.prog 85 [.fsl 1 (n.map iv)] false (.v (.bool (upB n))) [.dead] := by
  refine does_intro (mc := m85) (N := 20) (rs := [2]) (fx := []) 1 rfl (by decide +kernel) ?_
  simp only [m85, EV, Nat.reduceEqDiff, Nat.reduceBEq, Nat.reduceLT, Nat.reduceLeDiff, Nat.reduceAdd, Nat.reduceSub, reduceIte]
  refine awp_loop (fun i : Nat => riseTo n (i + 1)) (fun i => stl [(0, .fsl 1 (n.map iv)), (3, .v (.int .i64 ((i : Int) + 1)))]) (fun i => n.length - i) 0 (fun j hj h => absurd h (by omega)) ?_ ?_
  · simp only [EV, Nat.reduceEqDiff, Nat.reduceBEq, Nat.reduceLT, Nat.reduceLeDiff, Nat.reduceAdd, Nat.reduceSub, reduceIte]
    rfl
  · rintro i hr
    simp only [EV, Nat.reduceEqDiff, Nat.reduceBEq, Nat.reduceLT, Nat.reduceLeDiff, Nat.reduceAdd, Nat.reduceSub, reduceIte]
    refine cK_cut (fun h => ?_) (fun h => ?_)
    · have h1 : i + 1 < n.length := by have : (i : Int) + 1 < (n.length : Int) := by simpa using h
                                       omega
      have h2 : i < n.length := by omega
      have w0 : IntKind.i64.wrap ((i : Int) + 1 - 1) = (i : Int) := by rw [w64 _ (by omega)]; omega
      have w1 : IntKind.i64.wrap ((i : Int) + 1 + 1) = ((i + 1 : Nat) : Int) + 1 := by rw [w64 _ (by omega)]; omega
      have t1 : ((i : Int) + 1).toNat = i + 1 := by omega
      have g1 : 0 ≤ (i : Int) + 1 := by omega
      have g2 : (i : Int) + 1 < (n.length : Int) := by omega
      have g3 : (i : Int) < (n.length : Int) := by omega
      simp only [w0, t1, g1, g2, g3, nth_map h1, nth_map h2, iv, EV, Nat.reduceEqDiff, Nat.reduceBEq, Nat.reduceLT, Nat.reduceLeDiff, Nat.reduceAdd, Nat.reduceSub, reduceIte]
      refine cK_cut (fun h3 => ?_) (fun h3 => ?_)
      · have e : upB n = false := by
          simp only [upB, decide_eq_false_iff_not]
          intro hp
          have := up_rise hp i h1
          have h4 : n[i + 1] ≤ n[i] := by simpa using h3
          omega
        simp only [EV, Nat.reduceEqDiff, Nat.reduceBEq, Nat.reduceLT, Nat.reduceLeDiff, Nat.reduceAdd, Nat.reduceSub, reduceIte]
        simp only [e, EV, Nat.reduceEqDiff, Nat.reduceBEq, Nat.reduceLT, Nat.reduceLeDiff, Nat.reduceAdd, Nat.reduceSub, reduceIte, evRE, retVC, cellV', evR, nfz, nfzs, nfzss, List.contains_nil, List.contains_cons, Bool.or_false, or_true]
      · simp only [EV, Nat.reduceEqDiff, Nat.reduceBEq, Nat.reduceLT, Nat.reduceLeDiff, Nat.reduceAdd, Nat.reduceSub, reduceIte]
        rw [w1]
        refine ⟨i + 1, ?_, by omega, rfl⟩
        intro j hj hji
        by_cases ej : j = i
        · subst ej
          have h4 : ¬ n[j + 1] ≤ n[j] := by simpa using h3
          omega
        · exact hr j hj (by omega)
    · have h1 : n.length ≤ i + 1 := by have : ¬ (i : Int) + 1 < (n.length : Int) := by simpa using h
                                       omega
      have e : upB n = true := by
        simp only [upB, decide_eq_true_eq]
        exact riseTo_up fun j hj hji => hr j hj (by omega)
      simp only [EV, Nat.reduceEqDiff, Nat.reduceBEq, Nat.reduceLT, Nat.reduceLeDiff, Nat.reduceAdd, Nat.reduceSub, reduceIte]
      simp only [e, EV, Nat.reduceEqDiff, Nat.reduceBEq, Nat.reduceLT, Nat.reduceLeDiff, Nat.reduceAdd, Nat.reduceSub, reduceIte, evRE, retVC, cellV', evR, nfz, nfzs, nfzss, List.contains_nil, List.contains_cons, Bool.or_false, or_true]

open Classical in
/-- Rising, and all of them between two. -/
noncomputable def upIn (n : List Int) (lo hi : Int) : Bool := decide (n.Pairwise (· < ·) ∧ ∀ k ∈ n, lo ≤ k ∧ k ≤ hi)

def inTo (n : List Int) (lo hi : Int) (i : Nat) : Prop := ∀ j (h : j < n.length), j < i → lo ≤ n[j] ∧ n[j] ≤ hi

/-- loop.example/g00837/spec.l1Rising -/
def m83 : MC :=
  (.seq
   (.reg [⟨(some 6), none, .a (.asg (.c (.bool false)))⟩])
   (.seq
    (.seq
     (.reg [⟨(some 9), none, .q (.mov (.t 0))⟩,
       ⟨(some 10), none, .q (.len false (.t 9))⟩,
       ⟨(some 11), none, .q (.mov (.c (.int .i64 0)))⟩])
     (.block 0
      (.loop [0, 1, 2, 9, 10, 11]
       (.seq
        (.reg [⟨(some 12), none, .q (.bin false .lss (.t 11) (.t 10))⟩])
        (.seq
         (.cond (.t 12)
          .skip
          (.exit 0))
         (.seq
          (.block 1
           (.seq
            (.reg [⟨(some 13), none, .q (.mov (.t 11))⟩,
              ⟨(some 14), none, .q (.iad 1 (.t 9) (.t 11))⟩,
              ⟨(some 15), none, .q (.load false 1 (.t 14))⟩,
              ⟨(some 7), none, .a (.asg (.t 13))⟩,
              ⟨(some 8), none, .a (.asg (.t 15))⟩])
            (.seq
             (.reg [⟨(some 16), none, .q (.mov (.t 8))⟩,
               ⟨(some 17), none, .q (.mov (.t 1))⟩,
               ⟨(some 18), none, .q (.mov (.t 2))⟩,
               ⟨(some 19), none, .a (.call (.fn 77) false [.lend (.t 16), .lend (.t 17), .lend (.t 18)])⟩,
               ⟨(some 20), none, .q (.un .not (.t 19))⟩,
               ⟨(some 21), none, .q (.mov (.t 20))⟩,
               ⟨(some 22), (some (21, false)), .q (.mov (.t 7))⟩,
               ⟨(some 23), (some (21, false)), .q (.bin false .gtr (.t 22) (.c (.int .i64 0)))⟩,
               ⟨(some 24), (some (21, false)), .q (.mov (.t 23))⟩,
               ⟨(some 25), (some (24, true)), .q (.mov (.t 0))⟩,
               ⟨(some 26), (some (24, true)), .q (.mov (.t 7))⟩,
               ⟨(some 27), (some (24, true)), .q (.bin false .sub (.t 26) (.c (.int .i64 1)))⟩,
               ⟨(some 28), (some (24, true)), .q (.iad 1 (.t 25) (.t 27))⟩,
               ⟨(some 29), (some (24, true)), .q (.load false 1 (.t 28))⟩,
               ⟨(some 30), (some (24, true)), .q (.mov (.t 8))⟩,
               ⟨(some 31), (some (24, true)), .q (.bin false .geq (.t 29) (.t 30))⟩,
               ⟨(some 32), (some (21, false)), .q (.pick (.t 24) (.t 31) (.c (.bool false)))⟩,
               ⟨(some 33), none, .q (.pick (.t 21) (.c (.bool true)) (.t 32))⟩])
             (.cond (.t 33)
              (.seq
               (.reg [⟨(some 6), none, .a (.asg (.c (.bool false)))⟩])
               .ret)
              .skip))))
          (.reg [⟨(some 34), none, .q (.bin false .add (.t 11) (.c (.int .i64 1)))⟩,
            ⟨(some 11), none, .q (.mov (.t 34))⟩])))))))
    (.seq
     (.reg [⟨(some 6), none, .a (.asg (.c (.bool true)))⟩])
     .ret)))

set_option maxRecDepth 100000 in
theorem d83 (n : List Int) (lo hi : Int) (hl : (n.length : Int) ≤ 1048576) : Does Go.Proofs.Try.prog 83 [.fsl 1 (n.map iv), .v (.int .i64 lo), .v (.int .i64 hi)] false (.v (.bool (upIn n lo hi))) [.dead, .dead, .dead] := by
  refine does_intro (mc := m83) (N := 35) (rs := [6]) (fx := []) 3 rfl (by decide +kernel) ?_
  simp only [m83, EV, Nat.reduceEqDiff, Nat.reduceBEq, Nat.reduceLT, Nat.reduceLeDiff, Nat.reduceAdd, Nat.reduceSub, reduceIte]
  refine awp_loop (fun i : Nat => i ≤ n.length ∧ riseTo n i ∧ inTo n lo hi i) (fun i => stl [(0, .fsl 1 (n.map iv)), (1, .v (.int .i64 lo)), (2, .v (.int .i64 hi)), (9, .fsl 1 (n.map iv)), (10, .v (.int .i64 (n.length : Int))), (11, .v (.int .i64 (i : Int)))]) (fun i => n.length - i) 0 ⟨Nat.zero_le _, fun j hj h => absurd h (by omega), fun j hj h => absurd h (by omega)⟩ ?_ ?_
  · simp only [EV, Nat.reduceEqDiff, Nat.reduceBEq, Nat.reduceLT, Nat.reduceLeDiff, Nat.reduceAdd, Nat.reduceSub, reduceIte]
    rfl
  · rintro i ⟨hi', hr, hn⟩
    simp only [EV, Nat.reduceEqDiff, Nat.reduceBEq, Nat.reduceLT, Nat.reduceLeDiff, Nat.reduceAdd, Nat.reduceSub, reduceIte]
    refine cK_cut (fun h => ?_) (fun h => ?_)
    · have h1 : i < n.length := by simpa using h
      have h2 : (i : Int) < (n.length : Int) := by omega
      have nx : (lo ≤ n[i] ∧ n[i] ≤ hi) → (∀ h : 0 < i, n[i - 1] < n[i]) → riseTo n (i + 1) ∧ inTo n lo hi (i + 1) := by
        intro q1 q2
        constructor
        · intro j hj hji
          by_cases e : j + 1 = i
          · subst e; exact q2 (by omega)
          · exact hr j hj (by omega)
        · intro j hj hji
          by_cases e : j = i
          · subst e; exact q1
          · exact hn j hj (by omega)
      clear h
      simp only [nth_map h1, h2, iv, EV, Nat.reduceEqDiff, Nat.reduceBEq, Nat.reduceLT, Nat.reduceLeDiff, Nat.reduceAdd, Nat.reduceSub, reduceIte]
      refine callK_i (d77 _ _ _) ?_
      simp only [EV, Nat.reduceEqDiff, Nat.reduceBEq, Nat.reduceLT, Nat.reduceLeDiff, Nat.reduceAdd, Nat.reduceSub, reduceIte]
      rcases e1 : (decide (lo ≤ n[i]) && decide (n[i] ≤ hi)) with _ | _
      · have e : upIn n lo hi = false := by
          simp only [upIn, decide_eq_false_iff_not]
          rintro ⟨_, hp⟩
          have := hp n[i] (List.getElem_mem h1)
          simp [this.1, this.2] at e1
        simp only [Bool.not_false, EV, Nat.reduceEqDiff, Nat.reduceBEq, Nat.reduceLT, Nat.reduceLeDiff, Nat.reduceAdd, Nat.reduceSub, reduceIte]
        simp only [e, EV, Nat.reduceEqDiff, Nat.reduceBEq, Nat.reduceLT, Nat.reduceLeDiff, Nat.reduceAdd, Nat.reduceSub, reduceIte, evRE, retVC, cellV', evR, nfz, nfzs, nfzss, List.contains_nil, List.contains_cons, Bool.or_false, or_true]
      have q1 : lo ≤ n[i] ∧ n[i] ≤ hi := by simpa using e1
      simp only [Bool.not_true, EV, Nat.reduceEqDiff, Nat.reduceBEq, Nat.reduceLT, Nat.reduceLeDiff, Nat.reduceAdd, Nat.reduceSub, reduceIte]
      refine gK_cut (fun h => ?_) (fun h => ?_)
      · have i0 : 0 < i := by have : 0 < (i : Int) := by simpa using h
                              omega
        have w0 : IntKind.i64.wrap ((i : Int) - 1) = ((i - 1 : Nat) : Int) := by rw [w64 _ (by omega)]; omega
        have g1 : i - 1 < n.length := by omega
        have g2 : ((i - 1 : Nat) : Int) < (n.length : Int) := by omega
        have t1 : (((i - 1 : Nat) : Int)).toNat = i - 1 := by omega
        simp only [h, w0, t1, g1, g2, nth_map g1, iv, EV, Nat.reduceEqDiff, Nat.reduceBEq, Nat.reduceLT, Nat.reduceLeDiff, Nat.reduceAdd, Nat.reduceSub, reduceIte]
        refine cK_cut (fun h3 => ?_) (fun h3 => ?_)
        · have e : upIn n lo hi = false := by
            simp only [upIn, decide_eq_false_iff_not]
            rintro ⟨hp, _⟩
            have := List.pairwise_iff_getElem.1 hp (i - 1) i g1 h1 (by omega)
            have h4 : n[i] ≤ n[i - 1] := by simpa using h3
            omega
          simp only [EV, Nat.reduceEqDiff, Nat.reduceBEq, Nat.reduceLT, Nat.reduceLeDiff, Nat.reduceAdd, Nat.reduceSub, reduceIte]
          simp only [e, EV, Nat.reduceEqDiff, Nat.reduceBEq, Nat.reduceLT, Nat.reduceLeDiff, Nat.reduceAdd, Nat.reduceSub, reduceIte, evRE, retVC, cellV', evR, nfz, nfzs, nfzss, List.contains_nil, List.contains_cons, Bool.or_false, or_true]
        · simp only [EV, Nat.reduceEqDiff, Nat.reduceBEq, Nat.reduceLT, Nat.reduceLeDiff, Nat.reduceAdd, Nat.reduceSub, reduceIte]
          rw [w64 _ (by omega)]
          have h4 : ¬ n[i] ≤ n[i - 1] := by simpa using h3
          exact ⟨i + 1, ⟨h1, nx q1 fun _ => by omega⟩, by omega, rfl⟩
      · have i0 : ¬ 0 < i := by have : ¬ 0 < (i : Int) := by simpa using h
                                omega
        simp only [h, EV, Nat.reduceEqDiff, Nat.reduceBEq, Nat.reduceLT, Nat.reduceLeDiff, Nat.reduceAdd, Nat.reduceSub, reduceIte]
        rw [w64 _ (by omega)]
        exact ⟨i + 1, ⟨h1, nx q1 fun h => absurd h i0⟩, by omega, rfl⟩
    · have h1 : i = n.length := by have : ¬ (i : Int) < n.length := by simpa using h
                                   omega
      subst h1
      have e : upIn n lo hi = true := by
        simp only [upIn, decide_eq_true_eq]
        refine ⟨riseTo_up hr, fun k hk => ?_⟩
        obtain ⟨j, hj, rfl⟩ := List.mem_iff_getElem.1 hk
        exact hn j hj hj
      simp only [EV, Nat.reduceEqDiff, Nat.reduceBEq, Nat.reduceLT, Nat.reduceLeDiff, Nat.reduceAdd, Nat.reduceSub, reduceIte]
      simp only [e, EV, Nat.reduceEqDiff, Nat.reduceBEq, Nat.reduceLT, Nat.reduceLeDiff, Nat.reduceAdd, Nat.reduceSub, reduceIte, evRE, retVC, cellV', evR, nfz, nfzs, nfzss, List.contains_nil, List.contains_cons, Bool.or_false, or_true]

/-- slices.IndexFunc[[]int,int] -/
def m134 : MC :=
  (.seq
   (.reg [⟨(some 4), none, .a (.asg (.c (.int .i64 0)))⟩])
   (.seq
    (.seq
     (.reg [⟨(some 6), none, .q (.mov (.t 0))⟩,
       ⟨(some 7), none, .q (.len false (.t 6))⟩,
       ⟨(some 8), none, .q (.mov (.c (.int .i64 0)))⟩])
     (.block 0
      (.loop [0, 1, 7, 8]
       (.seq
        (.reg [⟨(some 9), none, .q (.bin false .lss (.t 8) (.t 7))⟩])
        (.seq
         (.cond (.t 9)
          .skip
          (.exit 0))
         (.seq
          (.block 1
           (.seq
            (.reg [⟨(some 10), none, .q (.mov (.t 8))⟩,
              ⟨(some 5), none, .a (.asg (.t 10))⟩])
            (.seq
             (.reg [⟨(some 11), none, .q (.mov (.t 1))⟩,
               ⟨(some 12), none, .q (.mov (.t 0))⟩,
               ⟨(some 13), none, .q (.mov (.t 5))⟩,
               ⟨(some 14), none, .q (.iad 1 (.t 12) (.t 13))⟩,
               ⟨(some 15), none, .q (.load false 1 (.t 14))⟩,
               ⟨(some 16), none, .a (.call (.t 11) false [.lend (.t 15)])⟩])
             (.cond (.t 16)
              (.seq
               (.reg [⟨(some 17), none, .q (.mov (.t 5))⟩,
                 ⟨(some 4), none, .a (.asg (.t 17))⟩])
               .ret)
              .skip))))
          (.reg [⟨(some 18), none, .q (.bin false .add (.t 8) (.c (.int .i64 1)))⟩,
            ⟨(some 8), none, .q (.mov (.t 18))⟩])))))))
    (.seq
     (.reg [⟨(some 4), none, .a (.asg (.c (.int .i64 (-1))))⟩])
     .ret)))

theorem d134 (l : List Int) (hl : l.length < 9223372036854775807) (f : Nat) (caps : List AV) (q : Int → Bool) (hp : plains caps = true) (hb : bares caps = true) (hk : ∀ K, killVs K caps = caps) (hf : ∀ (st : St), frzBs st caps = caps)
    (hq : ∀ s ∈ l, Does Go.Proofs.Try.prog f (.v (.int .i64 s) :: caps) false (.v (.bool (q s))) (.dead :: caps.map fun _ => .dead)) :
    Does Go.Proofs.Try.prog 134 [.fsl 1 (l.map iv), .clo f caps] false (.v (.int .i64 (findI q l))) [.dead, .dead] := by
  refine does_intro (mc := m134) (N := 19) (rs := [4]) (fx := []) 2 rfl (by decide +kernel) ?_
  simp only [m134, EV, Nat.reduceEqDiff, Nat.reduceBEq, Nat.reduceLT, Nat.reduceLeDiff, Nat.reduceAdd, Nat.reduceSub, reduceIte]
  refine awp_loop (fun i : Nat => i ≤ l.length ∧ ∀ j (hj : j < l.length), j < i → q l[j] = false) (fun i => stl [(0, .fsl 1 (l.map iv)), (1, .clo f caps), (7, .v (.int .i64 (l.length : Int))), (8, .v (.int .i64 (i : Int)))]) (fun i => l.length - i) 0 ⟨Nat.zero_le _, fun j hj h => absurd h (by omega)⟩ ?_ ?_
  · simp only [hp, hb, hk, EV, Nat.reduceEqDiff, Nat.reduceBEq, Nat.reduceLT, Nat.reduceLeDiff, Nat.reduceAdd, Nat.reduceSub, reduceIte]
    rfl
  · rintro i ⟨hi, hno⟩
    simp only [EV, Nat.reduceEqDiff, Nat.reduceBEq, Nat.reduceLT, Nat.reduceLeDiff, Nat.reduceAdd, Nat.reduceSub, reduceIte]
    refine cK_cut (fun h => ?_) (fun h => ?_)
    · have h1 : i < l.length := by simpa using h
      have h2 : (i : Int) < (l.length : Int) := by omega
      simp only [nth_map h1, h2, iv, hp, hb, EV, Nat.reduceEqDiff, Nat.reduceBEq, Nat.reduceLT, Nat.reduceLeDiff, Nat.reduceAdd, Nat.reduceSub, reduceIte]
      refine callK_i (hq l[i] (List.getElem_mem h1)) ?_
      simp only [EV, Nat.reduceEqDiff, Nat.reduceBEq, Nat.reduceLT, Nat.reduceLeDiff, Nat.reduceAdd, Nat.reduceSub, reduceIte]
      refine cK_cut (fun h => ?_) (fun h => ?_)
      · simp only [EV, Nat.reduceEqDiff, Nat.reduceBEq, Nat.reduceLT, Nat.reduceLeDiff, Nat.reduceAdd, Nat.reduceSub, reduceIte]
        simp only [findI_at h1 h hno, EV, Nat.reduceEqDiff, Nat.reduceBEq, Nat.reduceLT, Nat.reduceLeDiff, Nat.reduceAdd, Nat.reduceSub, reduceIte, evRE, retVC, cellV', evR, nfz, nfzs, nfzss, List.contains_nil, List.contains_cons, Bool.or_false, or_true]
      · simp only [hp, hb, hk, EV, Nat.reduceEqDiff, Nat.reduceBEq, Nat.reduceLT, Nat.reduceLeDiff, Nat.reduceAdd, Nat.reduceSub, reduceIte]
        rw [w64 _ (by omega)]
        refine ⟨i + 1, ⟨by omega, ?_⟩, by omega, rfl⟩
        intro j hj hji
        by_cases e : j = i
        · subst e; exact h
        · exact hno j hj (by omega)
    · have h1 : i = l.length := by have : ¬ (i : Int) < l.length := by simpa using h
                                   omega
      subst h1
      simp only [EV, Nat.reduceEqDiff, Nat.reduceBEq, Nat.reduceLT, Nat.reduceLeDiff, Nat.reduceAdd, Nat.reduceSub, reduceIte]
      simp only [findI_no (fun j hj => hno j hj hj), EV, Nat.reduceEqDiff, Nat.reduceBEq, Nat.reduceLT, Nat.reduceLeDiff, Nat.reduceAdd, Nat.reduceSub, reduceIte, evRE, retVC, cellV', evR, nfz, nfzs, nfzss, List.contains_nil, List.contains_cons, Bool.or_false, or_true]

/-- slices.ContainsFunc[[]int,int] -/
def m86 : MC :=
  (.seq
   (.reg [⟨(some 4), none, .a (.asg (.c (.bool false)))⟩])
   (.seq
    (.reg [⟨(some 5), none, .q (.mov (.t 0))⟩,
      ⟨(some 6), none, .q (.mov (.t 1))⟩,
      ⟨(some 7), none, .a (.call (.fn 134) false [.lend (.t 5), .lend (.t 6)])⟩,
      ⟨(some 8), none, .q (.bin false .geq (.t 7) (.c (.int .i64 0)))⟩,
      ⟨(some 4), none, .a (.asg (.t 8))⟩])
    .ret))

theorem d86 (l : List Int) (hl : l.length < 9223372036854775807) (f : Nat) (caps : List AV) (q : Int → Bool) (hp : plains caps = true) (hb : bares caps = true) (hk : ∀ K, killVs K caps = caps) (hf : ∀ (st : St), frzBs st caps = caps)
    (hq : ∀ s ∈ l, Does Go.Proofs.Try.prog f (.v (.int .i64 s) :: caps) false (.v (.bool (q s))) (.dead :: caps.map fun _ => .dead)) :
    Does Go.Proofs.Try.prog 86 [.fsl 1 (l.map iv), .clo f caps] false (.v (.bool (l.any q))) [.dead, .dead] := by
  refine does_intro (mc := m86) (N := 9) (rs := [4]) (fx := []) 2 rfl (by decide +kernel) ?_
  simp only [m86, hp, hb, hk, hf, EV, Nat.reduceEqDiff, Nat.reduceBEq, Nat.reduceLT, Nat.reduceLeDiff, Nat.reduceAdd, Nat.reduceSub, reduceIte]
  refine callK_i (d134 l hl f caps q hp hb hk hf hq) ?_
  simp only [EV, Nat.reduceEqDiff, Nat.reduceBEq, Nat.reduceLT, Nat.reduceLeDiff, Nat.reduceAdd, Nat.reduceSub, reduceIte]
  simp only [findI_any, EV, Nat.reduceEqDiff, Nat.reduceBEq, Nat.reduceLT, Nat.reduceLeDiff, Nat.reduceAdd, Nat.reduceSub, reduceIte, evRE, retVC, cellV', evR, nfz, nfzs, nfzss, List.contains_nil, List.contains_cons, Bool.or_false, or_true]

/-- loop.example/g00837/impl.ReachedOf$1 -/
def m87 : MC :=
  (.seq
   (.reg [⟨(some 3), none, .a (.asg (.c (.bool false)))⟩])
   (.seq
    (.reg [⟨(some 4), none, .q (.load false 1 (.t 1))⟩,
      ⟨(some 5), none, .q (.mov (.t 0))⟩,
      ⟨(some 6), none, .a (.call (.fn 80) false [.lend (.t 4), .lend (.t 5)])⟩,
      ⟨(some 7), none, .q (.un .not (.t 6))⟩,
      ⟨(some 3), none, .a (.asg (.t 7))⟩])
    .ret))

theorem d87 (l : List Ty) (n : Int) (hl : (l.length : Int) ≤ 1048576) : Does Go.Proofs.Try.prog 87 [.v (.int .i64 n), .fptr [.fsl 6 (l.map Ty.z)]] false (.v (.bool (!isNum l n))) [.dead, .dead] := by
  refine does_intro (mc := m87) (N := 8) (rs := [3]) (fx := []) 2 rfl (by decide +kernel) ?_
  simp only [m87, EV, Nat.reduceEqDiff, Nat.reduceBEq, Nat.reduceLT, Nat.reduceLeDiff, Nat.reduceAdd, Nat.reduceSub, reduceIte]
  refine callK_i (d80 l n hl) ?_
  simp only [EV, Nat.reduceEqDiff, Nat.reduceBEq, Nat.reduceLT, Nat.reduceLeDiff, Nat.reduceAdd, Nat.reduceSub, reduceIte]
  simp only [EV, Nat.reduceEqDiff, Nat.reduceBEq, Nat.reduceLT, Nat.reduceLeDiff, Nat.reduceAdd, Nat.reduceSub, reduceIte, evRE, retVC, cellV', evR, nfz, nfzs, nfzss, List.contains_nil, List.contains_cons, Bool.or_false, or_true]

noncomputable def rchOk (l : List Ty) (n : List Int) : Bool := tabOk l && upIn n 0 ((l.length : Int) - 1)

theorem upIn_eq (n : List Int) (l : List Ty) : upIn n 0 ((l.length : Int) - 1) = (upB n && !(n.any fun k => !isNum l k)) := by
  unfold upIn upB
  rw [Bool.eq_iff_iff]
  simp only [decide_eq_true_eq, Bool.and_eq_true, Bool.not_eq_true', List.any_eq_false, Bool.not_eq_true, Bool.not_eq_false']
  constructor
  · rintro ⟨h1, h2⟩
    refine ⟨h1, fun k hk => ?_⟩
    have h3 := h2 k hk
    rw [isNum_in.2 (show 0 ≤ k ∧ k < (l.length : Int) by omega)]
    simp
  · rintro ⟨h1, h2⟩
    refine ⟨h1, fun k hk => ?_⟩
    have := isNum_in.1 (show isNum l k = true by simpa using h2 k hk)
    omega

theorem rchOk_spec {l : List Ty} {n : List Int} (h : rchOk l n = true) : tabOk l = true ∧ n.Nodup ∧ ∀ k ∈ n, 0 ≤ k ∧ k < (l.length : Int) := by
  simp only [rchOk, Bool.and_eq_true, upIn, decide_eq_true_eq] at h
  exact ⟨h.1, up_nodup h.2.1, fun k hk => by have := h.2.2 k hk; omega⟩

/-- loop.example/g00837/impl.ReachedOf -/
def m29 : MC :=
  (.seq
   (.reg [⟨(some 2), none, .a (.box 32 (.t 0))⟩,
     ⟨(some 4), none, .a (.asg (.nils 3 1))⟩,
     ⟨(some 5), none, .a (.asg (.c (.bool false)))⟩])
   (.seq
    (.seq
     (.reg [⟨(some 6), none, .q (.load false 1 (.t 2))⟩,
       ⟨(some 7), none, .a (.call (.fn 79) false [.lend (.t 6)])⟩,
       ⟨(some 8), none, .q (.un .not (.t 7))⟩,
       ⟨(some 9), none, .q (.mov (.t 8))⟩,
       ⟨(some 10), (some (9, false)), .q (.mov (.t 1))⟩,
       ⟨(some 11), (some (9, false)), .a (.call (.fn 85) false [.lend (.t 10)])⟩,
       ⟨(some 12), (some (9, false)), .q (.un .not (.t 11))⟩,
       ⟨(some 13), none, .q (.pick (.t 9) (.c (.bool true)) (.t 12))⟩,
       ⟨(some 14), none, .q (.mov (.t 13))⟩,
       ⟨(some 15), (some (14, false)), .q (.mov (.t 1))⟩,
       ⟨(some 16), (some (14, false)), .q (.mkf 87 [.t 2])⟩,
       ⟨(some 17), (some (14, false)), .a (.call (.fn 86) false [.lend (.t 15), .lend (.t 16)])⟩,
       ⟨(some 18), none, .q (.pick (.t 14) (.c (.bool true)) (.t 17))⟩])
     (.cond (.t 18)
      (.seq
       (.reg [⟨(some 4), none, .a (.asg (.nils 3 1))⟩,
         ⟨(some 5), none, .a (.asg (.c (.bool false)))⟩])
       .ret)
      .skip))
    (.seq
     (.reg [⟨(some 19), none, .q (.load false 1 (.t 2))⟩,
       ⟨(some 20), none, .q (.mov (.t 1))⟩,
       ⟨(some 21), none, .a (.call (.fn 88) false [.lend (.t 19), .lend (.t 20), .lend (.c (.bool true))])⟩,
       ⟨(some 4), none, .a (.asg (.t 21))⟩,
       ⟨(some 5), none, .a (.asg (.c (.bool true)))⟩])
     .ret)))

set_option maxRecDepth 100000 in
theorem d29 (l : List Ty) (n : List Int) (hl : (l.length : Int) ≤ 1048576) (hs : ∀ s ∈ l, s.sm) (hn : (n.length : Int) ≤ 1048576) :
    Does Go.Proofs.Try.prog 29 [.fsl 6 (l.map Ty.z), .fsl 1 (n.map iv)] false (.tup [.usl 3 1 ((if rchOk l n = true then reachL l true n else []).map iv), .v (.bool (rchOk l n))]) [.dead, .dead] := by
  refine does_intro (mc := m29) (N := 22) (rs := [4, 5]) (fx := []) 2 rfl (by decide +kernel) ?_
  simp only [m29, EV, Nat.reduceEqDiff, Nat.reduceBEq, Nat.reduceLT, Nat.reduceLeDiff, Nat.reduceAdd, Nat.reduceSub, reduceIte]
  refine callK_i (d79 l hl hs) ?_
  simp only [EV, Nat.reduceEqDiff, Nat.reduceBEq, Nat.reduceLT, Nat.reduceLeDiff, Nat.reduceAdd, Nat.reduceSub, reduceIte]
  rcases ht : tabOk l with _ | _
  · have e : rchOk l n = false := by unfold rchOk; rw [ht]; rfl
    simp only [Bool.not_false, EV, Nat.reduceEqDiff, Nat.reduceBEq, Nat.reduceLT, Nat.reduceLeDiff, Nat.reduceAdd, Nat.reduceSub, reduceIte]
    simp only [e, List.map_nil, EV, Nat.reduceEqDiff, Nat.reduceBEq, Nat.reduceLT, Nat.reduceLeDiff, Nat.reduceAdd, Nat.reduceSub, reduceIte, evRE, retVC, cellV', evR, nfz, nfzs, nfzss, List.contains_nil, List.contains_cons, Bool.or_false, or_true]
  simp only [Bool.not_true, EV, Nat.reduceEqDiff, Nat.reduceBEq, Nat.reduceLT, Nat.reduceLeDiff, Nat.reduceAdd, Nat.reduceSub, reduceIte]
  refine callK_i (d85 n hn) ?_
  simp only [EV, Nat.reduceEqDiff, Nat.reduceBEq, Nat.reduceLT, Nat.reduceLeDiff, Nat.reduceAdd, Nat.reduceSub, reduceIte]
  have hu := upIn_eq n l
  rcases hb : upB n with _ | _
  · have e : rchOk l n = false := by unfold rchOk; rw [ht, hu, hb]; rfl
    simp only [Bool.not_false, EV, Nat.reduceEqDiff, Nat.reduceBEq, Nat.reduceLT, Nat.reduceLeDiff, Nat.reduceAdd, Nat.reduceSub, reduceIte]
    simp only [e, List.map_nil, EV, Nat.reduceEqDiff, Nat.reduceBEq, Nat.reduceLT, Nat.reduceLeDiff, Nat.reduceAdd, Nat.reduceSub, reduceIte, evRE, retVC, cellV', evR, nfz, nfzs, nfzss, List.contains_nil, List.contains_cons, Bool.or_false, or_true]
  simp only [Bool.not_true, EV, Nat.reduceEqDiff, Nat.reduceBEq, Nat.reduceLT, Nat.reduceLeDiff, Nat.reduceAdd, Nat.reduceSub, reduceIte]
  refine callK_i (d86 n (by omega) 87 [.fptr [.fsl 6 (l.map Ty.z)]] (fun k => !isNum l k) rfl rfl (fun _ => rfl) (fun _ => rfl) (fun s _ => d87 l s hl)) ?_
  simp only [EV, Nat.reduceEqDiff, Nat.reduceBEq, Nat.reduceLT, Nat.reduceLeDiff, Nat.reduceAdd, Nat.reduceSub, reduceIte]
  rcases ha : (n.any fun k => !isNum l k) with _ | _
  rotate_left
  · have e : rchOk l n = false := by unfold rchOk; rw [ht, hu, hb, ha]; rfl
    simp only [EV, Nat.reduceEqDiff, Nat.reduceBEq, Nat.reduceLT, Nat.reduceLeDiff, Nat.reduceAdd, Nat.reduceSub, reduceIte]
    simp only [e, List.map_nil, EV, Nat.reduceEqDiff, Nat.reduceBEq, Nat.reduceLT, Nat.reduceLeDiff, Nat.reduceAdd, Nat.reduceSub, reduceIte, evRE, retVC, cellV', evR, nfz, nfzs, nfzss, List.contains_nil, List.contains_cons, Bool.or_false, or_true]
  have e : rchOk l n = true := by unfold rchOk; rw [ht, hu, hb, ha]; rfl
  obtain ⟨_, hnd, hin⟩ := rchOk_spec e
  simp only [EV, Nat.reduceEqDiff, Nat.reduceBEq, Nat.reduceLT, Nat.reduceLeDiff, Nat.reduceAdd, Nat.reduceSub, reduceIte]
  refine callK_i (d88 l n true hl hs (tabOk_tys ht) hin hnd) ?_
  simp only [EV, Nat.reduceEqDiff, Nat.reduceBEq, Nat.reduceLT, Nat.reduceLeDiff, Nat.reduceAdd, Nat.reduceSub, reduceIte]
  simp only [e, iv_nfz, EV, Nat.reduceEqDiff, Nat.reduceBEq, Nat.reduceLT, Nat.reduceLeDiff, Nat.reduceAdd, Nat.reduceSub, reduceIte, evRE, retVC, cellV', evR, nfz, nfzs, nfzss, List.contains_nil, List.contains_cons, Bool.or_false, or_true]

/-- loop.example/g00837/spec.ReachedOf -/
def m27 : MC :=
  (.seq
   (.reg [⟨(some 4), none, .a (.asg (.nils 3 1))⟩,
     ⟨(some 5), none, .a (.asg (.c (.bool false)))⟩])
   (.seq
    (.seq
     (.reg [⟨(some 6), none, .q (.mov (.t 0))⟩,
       ⟨(some 7), none, .a (.call (.fn 82) false [.lend (.t 6)])⟩,
       ⟨(some 8), none, .q (.un .not (.t 7))⟩,
       ⟨(some 9), none, .q (.mov (.t 8))⟩,
       ⟨(some 10), (some (9, false)), .q (.mov (.t 1))⟩,
       ⟨(some 11), (some (9, false)), .q (.mov (.t 0))⟩,
       ⟨(some 12), (some (9, false)), .q (.len false (.t 11))⟩,
       ⟨(some 13), (some (9, false)), .q (.bin false .sub (.t 12) (.c (.int .i64 1)))⟩,
       ⟨(some 14), (some (9, false)), .a (.call (.fn 83) false [.lend (.t 10), .lend (.c (.int .i64 0)), .lend (.t 13)])⟩,
       ⟨(some 15), (some (9, false)), .q (.un .not (.t 14))⟩,
       ⟨(some 16), none, .q (.pick (.t 9) (.c (.bool true)) (.t 15))⟩])
     (.cond (.t 16)
      (.seq
       (.reg [⟨(some 4), none, .a (.asg (.nils 3 1))⟩,
         ⟨(some 5), none, .a (.asg (.c (.bool false)))⟩])
       .ret)
      .skip))
    (.seq
     (.reg [⟨(some 17), none, .q (.mov (.t 0))⟩,
       ⟨(some 18), none, .q (.mov (.t 1))⟩,
       ⟨(some 19), none, .a (.call (.fn 84) false [.lend (.t 17), .lend (.t 18), .lend (.c (.bool true))])⟩,
       ⟨(some 4), none, .a (.asg (.t 19))⟩,
       ⟨(some 5), none, .a (.asg (.c (.bool true)))⟩])
     .ret)))

set_option maxRecDepth 100000 in
theorem d27 (l : List Ty) (n : List Int) (hl : (l.length : Int) ≤ 1048576) (hs : ∀ s ∈ l, s.sm) (hn : (n.length : Int) ≤ 1048576) :
    Does Go.Proofs.Try.prog 27 [.fsl 6 (l.map Ty.z), .fsl 1 (n.map iv)] false (.tup [.usl 3 1 ((if rchOk l n = true then reachL l true n else []).map iv), .v (.bool (rchOk l n))]) [.dead, .dead] := by
  refine does_intro (mc := m27) (N := 20) (rs := [4, 5]) (fx := []) 2 rfl (by decide +kernel) ?_
  simp only [m27, EV, Nat.reduceEqDiff, Nat.reduceBEq, Nat.reduceLT, Nat.reduceLeDiff, Nat.reduceAdd, Nat.reduceSub, reduceIte]
  refine callK_i (d82 l hl hs) ?_
  simp only [EV, Nat.reduceEqDiff, Nat.reduceBEq, Nat.reduceLT, Nat.reduceLeDiff, Nat.reduceAdd, Nat.reduceSub, reduceIte]
  rcases ht : tabOk l with _ | _
  · have e : rchOk l n = false := by unfold rchOk; rw [ht]; rfl
    simp only [Bool.not_false, EV, Nat.reduceEqDiff, Nat.reduceBEq, Nat.reduceLT, Nat.reduceLeDiff, Nat.reduceAdd, Nat.reduceSub, reduceIte]
    simp only [e, List.map_nil, EV, Nat.reduceEqDiff, Nat.reduceBEq, Nat.reduceLT, Nat.reduceLeDiff, Nat.reduceAdd, Nat.reduceSub, reduceIte, evRE, retVC, cellV', evR, nfz, nfzs, nfzss, List.contains_nil, List.contains_cons, Bool.or_false, or_true]
  simp only [Bool.not_true, EV, Nat.reduceEqDiff, Nat.reduceBEq, Nat.reduceLT, Nat.reduceLeDiff, Nat.reduceAdd, Nat.reduceSub, reduceIte]
  rw [w64 _ (by omega)]
  refine callK_i (d83 n 0 ((l.length : Int) - 1) hn) ?_
  simp only [EV, Nat.reduceEqDiff, Nat.reduceBEq, Nat.reduceLT, Nat.reduceLeDiff, Nat.reduceAdd, Nat.reduceSub, reduceIte]
  rcases hb : upIn n 0 ((l.length : Int) - 1) with _ | _
  · have e : rchOk l n = false := by unfold rchOk; rw [ht, hb]; rfl
    simp only [Bool.not_false, EV, Nat.reduceEqDiff, Nat.reduceBEq, Nat.reduceLT, Nat.reduceLeDiff, Nat.reduceAdd, Nat.reduceSub, reduceIte]
    simp only [e, List.map_nil, EV, Nat.reduceEqDiff, Nat.reduceBEq, Nat.reduceLT, Nat.reduceLeDiff, Nat.reduceAdd, Nat.reduceSub, reduceIte, evRE, retVC, cellV', evR, nfz, nfzs, nfzss, List.contains_nil, List.contains_cons, Bool.or_false, or_true]
  have e : rchOk l n = true := by unfold rchOk; rw [ht, hb]; rfl
  obtain ⟨_, hnd, hin⟩ := rchOk_spec e
  simp only [Bool.not_true, EV, Nat.reduceEqDiff, Nat.reduceBEq, Nat.reduceLT, Nat.reduceLeDiff, Nat.reduceAdd, Nat.reduceSub, reduceIte]
  refine callK_i (d84 l n true hl hs (tabOk_tys ht) hin hn) ?_
  simp only [EV, Nat.reduceEqDiff, Nat.reduceBEq, Nat.reduceLT, Nat.reduceLeDiff, Nat.reduceAdd, Nat.reduceSub, reduceIte]
  simp only [e, iv_nfz, EV, Nat.reduceEqDiff, Nat.reduceBEq, Nat.reduceLT, Nat.reduceLeDiff, Nat.reduceAdd, Nat.reduceSub, reduceIte, evRE, retVC, cellV', evR, nfz, nfzs, nfzss, List.contains_nil, List.contains_cons, Bool.or_false, or_true]

end Go.AM
namespace Go.AM
set_option linter.unusedVariables false
set_option linter.unusedSimpArgs false
theorem cnt_tot : ∀ l : List Ty, (∀ s ∈ l, s.sm) → cntTys l ≤ 5 * l.length + 3 * 1048576 * l.length
  | [], _ => by simp [cntTys]
  | t :: l, h => by
    have h1 := cnt_tot l fun s hs => h s (by simp [hs])
    have h2 := h t (by simp)
    unfold Ty.sm at h2
    have h3 := h2.2.2.2.1.1
    simp only [cntTys, cntTy, List.length_cons]
    omega

/-- loop.example/g00837/laws.FnExactReachedOf -/
def m7 : MC :=
  (.seq
   (.reg [⟨(some 4), none, .a (.asg (.c (.bool false)))⟩])
   (.keep [0, 1]
   (.seq
    (.seq
     (.reg [⟨(some 17), none, .q (.mov (.t 1))⟩,
       ⟨(some 18), none, .q (.len false (.t 17))⟩,
       ⟨(some 19), none, .q (.bin false .gtr (.t 18) (.c (.int .i64 1048576)))⟩])
     (.keep [0, 1, 19]
     (.cond (.t 19)
      (.seq
       (.reg [⟨(some 4), none, .a (.asg (.c (.bool true)))⟩])
       .ret)
      .skip)))
    (.keep [0, 1]
    (.seq
     (.reg [⟨(some 5), none, .a (.asg (.c (.int .i64 1048576)))⟩])
     (.keep [0, 1, 5]
     (.seq
      (.reg [⟨(some 20), none, .q (.mov (.t 0))⟩,
        ⟨(some 21), none, .q (.mov (.t 5))⟩,
        ⟨(some 22), none, .a (.call (.fn 18) false [.lend (.t 20), .lend (.t 21)])⟩,
        ⟨(some 5), none, .a (.asg (.t 22))⟩])
      (.keep [0, 1, 5]
      (.seq
       (.seq
        (.reg [⟨(some 23), none, .q (.mov (.t 5))⟩,
          ⟨(some 24), none, .q (.bin false .lss (.t 23) (.c (.int .i64 0)))⟩])
        (.keep [0, 1, 24]
        (.cond (.t 24)
         (.seq
          (.reg [⟨(some 4), none, .a (.asg (.c (.bool true)))⟩])
          .ret)
         .skip)))
       (.keep [0, 1]
       (.seq
        (.reg [⟨(some 26), none, .q (.mov (.t 0))⟩,
          ⟨(some 27), none, .a (.call (.fn 20) false [.lend (.t 26)])⟩,
          ⟨(some 28), none, .q (.mov (.t 1))⟩,
          ⟨(some 29), none, .a (.call (.fn 28) false [.lend (.t 28)])⟩,
          ⟨(some 30), none, .a (.call (.fn 27) false [.lend (.t 27), .lend (.t 29)])⟩,
          ⟨(some 25), none, .a (.asg (.t 30))⟩,
          ⟨(some 31), none, .q (.ext 25 0)⟩,
          ⟨(some 32), none, .q (.ext 25 1)⟩,
          ⟨(some 6), none, .a (.asg (.t 31))⟩,
          ⟨(some 7), none, .a (.asg (.t 32))⟩])
        (.keep [0, 1, 6, 7, 25, 30, 31]
        (.seq
         (.reg [⟨(some 33), none, .q (.mov (.t 0))⟩,
           ⟨(some 34), none, .a (.call (.fn 20) false [.lend (.t 33)])⟩,
           ⟨(some 8), none, .a (.asg (.t 34))⟩])
         (.keep [0, 1, 6, 7, 8, 25, 30, 31, 34]
         (.seq
          (.reg [⟨(some 35), none, .q (.mov (.t 1))⟩,
            ⟨(some 36), none, .a (.call (.fn 28) false [.lend (.t 35)])⟩,
            ⟨(some 9), none, .a (.asg (.t 36))⟩])
          (.keep [0, 1, 6, 7, 8, 9, 25, 30, 31, 34, 36]
          (.seq
           (.reg [⟨(some 38), none, .q (.mov (.t 8))⟩,
             ⟨(some 39), none, .q (.mov (.t 9))⟩,
             ⟨(some 40), none, .a (.call (.fn 29) false [.lend (.t 38), .lend (.t 39)])⟩,
             ⟨(some 37), none, .a (.asg (.t 40))⟩,
             ⟨(some 41), none, .q (.ext 37 0)⟩,
             ⟨(some 42), none, .q (.ext 37 1)⟩,
             ⟨(some 10), none, .a (.asg (.t 41))⟩,
             ⟨(some 11), none, .a (.asg (.t 42))⟩])
           (.keep [0, 1, 6, 7, 8, 9, 10, 11, 25, 30, 31, 34, 36, 37, 40, 41]
           (.seq
            (.seq
             (.reg [⟨(some 43), none, .q (.mov (.t 10))⟩,
               ⟨(some 44), none, .q (.mov (.t 6))⟩,
               ⟨(some 45), none, .a (.call (.fn 30) false [.lend (.t 43), .lend (.t 44)])⟩,
               ⟨(some 46), none, .q (.un .not (.t 45))⟩,
               ⟨(some 47), none, .q (.mov (.t 46))⟩,
               ⟨(some 48), (some (47, false)), .q (.mov (.t 11))⟩,
               ⟨(some 49), (some (47, false)), .q (.mov (.t 7))⟩,
               ⟨(some 50), (some (47, false)), .q (.bin true .neq (.t 48) (.t 49))⟩,
               ⟨(some 51), none, .q (.pick (.t 47) (.c (.bool true)) (.t 50))⟩])
             (.keep [0, 1, 6, 7, 8, 9, 10, 11, 25, 30, 31, 34, 36, 37, 40, 41, 51]
             (.cond (.t 51)
              (.seq
               (.reg [⟨(some 4), none, .a (.asg (.c (.bool false)))⟩])
               .ret)
              .skip)))
            (.keep [0, 1, 6, 7, 8, 9, 10, 11, 25, 30, 31, 34, 36, 37, 40, 41]
            (.seq
             (.seq
              (.reg [⟨(some 52), none, .q (.mov (.t 8))⟩,
                ⟨(some 53), none, .q (.mov (.t 0))⟩,
                ⟨(some 54), none, .a (.call (.fn 20) false [.lend (.t 53)])⟩,
                ⟨(some 55), none, .a (.call (.fn 22) false [.lend (.t 52), .lend (.t 54)])⟩,
                ⟨(some 56), none, .q (.un .not (.t 55))⟩])
              (.keep [0, 1, 6, 7, 8, 9, 10, 11, 25, 30, 31, 34, 36, 37, 40, 41, 56]
              (.cond (.t 56)
               (.seq
                (.reg [⟨(some 4), none, .a (.asg (.c (.bool false)))⟩])
                .ret)
               .skip)))
             (.keep [0, 1, 6, 7, 8, 9, 10, 11, 25, 30, 31, 34, 36, 37, 40, 41]
             (.seq
              (.seq
               (.reg [⟨(some 57), none, .q (.mov (.t 9))⟩,
                 ⟨(some 58), none, .q (.mov (.t 1))⟩,
                 ⟨(some 59), none, .a (.call (.fn 28) false [.lend (.t 58)])⟩,
                 ⟨(some 60), none, .a (.call (.fn 30) false [.lend (.t 57), .lend (.t 59)])⟩,
                 ⟨(some 61), none, .q (.un .not (.t 60))⟩])
               (.keep [0, 1, 6, 7, 8, 9, 10, 11, 25, 30, 31, 34, 36, 37, 40, 41, 61]
               (.cond (.t 61)
                (.seq
                 (.reg [⟨(some 4), none, .a (.asg (.c (.bool false)))⟩])
                 .ret)
                .skip)))
              (.keep [0, 1, 6, 7, 8, 9, 10, 11, 25, 30, 31, 34, 36, 37, 40, 41]
              (.seq
               (.reg [⟨(some 12), none, .a (.asg (.c (.int .i64 1)))⟩])
               (.keep [0, 1, 6, 7, 8, 9, 10, 11, 12, 25, 30, 31, 34, 36, 37, 40, 41]
               (.seq
                (.reg [⟨(some 62), none, .q (.mov (.t 8))⟩,
                  ⟨(some 63), none, .q (.mov (.t 12))⟩,
                  ⟨(some 64), none, .a (.call (.fn 31) false [.io (.t 62), .lend (.t 63)])⟩,
                  ⟨(some 12), none, .a (.asg (.t 64))⟩])
                (.keep [0, 1, 6, 7, 9, 10, 11, 12, 25, 30, 31, 36, 37, 40, 41]
                (.seq
                 (.reg [⟨(some 65), none, .q (.mov (.t 9))⟩,
                   ⟨(some 66), none, .q (.mov (.t 12))⟩,
                   ⟨(some 67), none, .a (.call (.fn 32) false [.io (.t 65), .lend (.t 66)])⟩,
                   ⟨(some 12), none, .a (.asg (.t 67))⟩])
                 (.keep [0, 1, 6, 7, 10, 11, 12, 25, 30, 31, 37, 40, 41]
                 (.seq
                  (.seq
                   (.reg [⟨(some 68), none, .q (.mov (.t 12))⟩,
                     ⟨(some 69), none, .q (.bin false .lss (.t 68) (.c (.int .i64 0)))⟩,
                     ⟨(some 70), none, .q (.mov (.t 69))⟩,
                     ⟨(some 71), (some (70, false)), .q (.mov (.t 10))⟩,
                     ⟨(some 72), (some (70, false)), .q (.mov (.t 6))⟩,
                     ⟨(some 73), (some (70, false)), .a (.call (.fn 30) false [.lend (.t 71), .lend (.t 72)])⟩,
                     ⟨(some 74), (some (70, false)), .q (.un .not (.t 73))⟩,
                     ⟨(some 75), none, .q (.pick (.t 70) (.c (.bool true)) (.t 74))⟩,
                     ⟨(some 76), none, .q (.mov (.t 75))⟩,
                     ⟨(some 77), (some (76, false)), .q (.mov (.t 11))⟩,
                     ⟨(some 78), (some (76, false)), .q (.mov (.t 7))⟩,
                     ⟨(some 79), (some (76, false)), .q (.bin true .neq (.t 77) (.t 78))⟩,
                     ⟨(some 80), none, .q (.pick (.t 76) (.c (.bool true)) (.t 79))⟩])
                   (.keep [0, 1, 6, 7, 10, 25, 30, 31, 37, 40, 41, 80]
                   (.cond (.t 80)
                    (.seq
                     (.reg [⟨(some 4), none, .a (.asg (.c (.bool false)))⟩])
                     .ret)
                    .skip)))
                  (.keep [0, 1, 6, 7, 10, 25, 30, 31, 37, 40, 41]
                  (.seq
                   (.reg [⟨(some 13), none, .a (.asg (.c (.int .i64 1)))⟩])
                   (.keep [0, 1, 6, 7, 10, 13, 25, 30, 31, 37, 40, 41]
                   (.seq
                    (.reg [⟨(some 81), none, .q (.mov (.t 10))⟩,
                      ⟨(some 82), none, .q (.mov (.t 13))⟩,
                      ⟨(some 83), none, .a (.call (.fn 32) false [.io (.t 81), .lend (.t 82)])⟩,
                      ⟨(some 13), none, .a (.asg (.t 83))⟩])
                    (.keep [0, 1, 6, 7, 10, 13, 25, 30, 31, 37, 40, 41]
                    (.seq
                     (.reg [⟨(some 14), none, .a (.asg (.c (.int .i64 1)))⟩])
                     (.keep [0, 1, 6, 7, 10, 13, 14, 25, 30, 31, 37, 40, 41]
                     (.seq
                      (.reg [⟨(some 84), none, .q (.mov (.t 10))⟩,
                        ⟨(some 85), none, .q (.mov (.t 14))⟩,
                        ⟨(some 86), none, .a (.call (.fn 33) false [.lend (.t 84), .lend (.t 85)])⟩,
                        ⟨(some 14), none, .a (.asg (.t 86))⟩])
                      (.keep [0, 1, 6, 7, 10, 13, 14, 25, 30, 31, 37, 40, 41]
                      (.seq
                       (.seq
                        (.reg [⟨(some 87), none, .q (.mov (.t 14))⟩,
                          ⟨(some 88), none, .q (.bin false .lss (.t 87) (.c (.int .i64 0)))⟩])
                        (.keep [0, 1, 6, 7, 10, 13, 14, 25, 30, 31, 37, 40, 41, 88]
                        (.cond (.t 88)
                         (.seq
                          (.reg [⟨(some 4), none, .a (.asg (.c (.bool false)))⟩])
                          .ret)
                         .skip)))
                       (.keep [0, 1, 6, 7, 10, 13, 14, 25, 30, 31, 37, 40, 41]
                       (.seq
                        (.seq
                         (.reg [⟨(some 89), none, .q (.mov (.t 14))⟩,
                           ⟨(some 90), none, .q (.mov (.t 13))⟩,
                           ⟨(some 91), none, .q (.bin false .neq (.t 89) (.t 90))⟩])
                         (.keep [0, 1, 6, 7, 10, 13, 25, 30, 31, 37, 40, 41, 91]
                         (.cond (.t 91)
                          (.seq
                           (.reg [⟨(some 4), none, .a (.asg (.c (.bool false)))⟩])
                           .ret)
                          .skip)))
                        (.keep [0, 1, 6, 7, 10, 13, 25, 30, 31, 37, 40, 41]
                        (.seq
                         (.reg [⟨(some 93), none, .q (.mov (.t 0))⟩,
                           ⟨(some 94), none, .a (.call (.fn 20) false [.lend (.t 93)])⟩,
                           ⟨(some 95), none, .q (.mov (.t 1))⟩,
                           ⟨(some 96), none, .a (.call (.fn 28) false [.lend (.t 95)])⟩,
                           ⟨(some 97), none, .a (.call (.fn 29) false [.lend (.t 94), .lend (.t 96)])⟩,
                           ⟨(some 92), none, .a (.asg (.t 97))⟩,
                           ⟨(some 98), none, .q (.ext 92 0)⟩,
                           ⟨(some 99), none, .q (.ext 92 1)⟩,
                           ⟨(some 15), none, .a (.asg (.t 98))⟩,
                           ⟨(some 16), none, .a (.asg (.t 99))⟩])
                         (.keep [6, 7, 10, 13, 15, 16, 25, 30, 31, 37, 40, 41, 92, 97, 98]
                         (.seq
                          (.seq
                           (.reg [⟨(some 100), none, .q (.mov (.t 15))⟩,
                             ⟨(some 101), none, .q (.mov (.t 6))⟩,
                             ⟨(some 102), none, .a (.call (.fn 30) false [.lend (.t 100), .lend (.t 101)])⟩,
                             ⟨(some 103), none, .q (.un .not (.t 102))⟩,
                             ⟨(some 104), none, .q (.mov (.t 103))⟩,
                             ⟨(some 105), (some (104, false)), .q (.mov (.t 16))⟩,
                             ⟨(some 106), (some (104, false)), .q (.mov (.t 7))⟩,
                             ⟨(some 107), (some (104, false)), .q (.bin true .neq (.t 105) (.t 106))⟩,
                             ⟨(some 108), none, .q (.pick (.t 104) (.c (.bool true)) (.t 107))⟩])
                           (.keep [10, 13, 37, 40, 41, 108]
                           (.cond (.t 108)
                            (.seq
                             (.reg [⟨(some 4), none, .a (.asg (.c (.bool false)))⟩])
                             .ret)
                            .skip)))
                          (.keep [10, 13, 37, 40, 41]
                          (.seq
                           (.reg [⟨(some 14), none, .a (.asg (.c (.int .i64 1)))⟩])
                           (.keep [10, 13, 14, 37, 40, 41]
                           (.seq
                            (.reg [⟨(some 109), none, .q (.mov (.t 10))⟩,
                              ⟨(some 110), none, .q (.mov (.t 14))⟩,
                              ⟨(some 111), none, .a (.call (.fn 33) false [.lend (.t 109), .lend (.t 110)])⟩,
                              ⟨(some 14), none, .a (.asg (.t 111))⟩])
                            (.keep [13, 14]
                            (.seq
                             (.seq
                              (.reg [⟨(some 112), none, .q (.mov (.t 14))⟩,
                                ⟨(some 113), none, .q (.bin false .lss (.t 112) (.c (.int .i64 0)))⟩])
                              (.keep [13, 14, 113]
                              (.cond (.t 113)
                               (.seq
                                (.reg [⟨(some 4), none, .a (.asg (.c (.bool false)))⟩])
                                .ret)
                               .skip)))
                             (.keep [13, 14]
                             (.seq
                              (.seq
                               (.reg [⟨(some 114), none, .q (.mov (.t 14))⟩,
                                 ⟨(some 115), none, .q (.mov (.t 13))⟩,
                                 ⟨(some 116), none, .q (.bin false .neq (.t 114) (.t 115))⟩])
                               (.keep [116]
                               (.cond (.t 116)
                                (.seq
                                 (.reg [⟨(some 4), none, .a (.asg (.c (.bool false)))⟩])
                                 .ret)
                                .skip)))
                              (.keep []
                              (.seq
                               (.reg [⟨(some 4), none, .a (.asg (.c (.bool true)))⟩])
                               .ret)))))))))))))))))))))))))))))))))))))))))))))))))))))))))

set_option maxHeartbeats 1000000 in
set_option maxRecDepth 100000 in
theorem d7 (a : List Ty) (n : List Int) (ha : (a.length : Int) ≤ 9223372036854775807) (hoa : ∀ s ∈ a, s.ok) (hn0 : (n.length : Int) ≤ 9223372036854775807) :
    Does Go.Proofs.Try.prog 7 [.fsl 6 (a.map Ty.z), .fsl 1 (n.map iv)] false (.v (.bool true)) [.dead, .dead] := by
  refine does_intro (mc := m7) (N := 117) (rs := [4]) (fx := []) 2 rfl (by decide +kernel) ?_
  simp only [m7, EV, Nat.reduceEqDiff, Nat.reduceBEq, Nat.reduceLT, Nat.reduceLeDiff, Nat.reduceAdd, Nat.reduceSub, reduceIte]
  refine cK_cut (fun h => ?_) (fun h => ?_)
  · simp only [EV, Nat.reduceEqDiff, Nat.reduceBEq, Nat.reduceLT, Nat.reduceLeDiff, Nat.reduceAdd, Nat.reduceSub, reduceIte]
    simp only [EV, Nat.reduceEqDiff, Nat.reduceBEq, Nat.reduceLT, Nat.reduceLeDiff, Nat.reduceAdd, Nat.reduceSub, reduceIte, evRE, retVC, cellV', evR, nfz, nfzs, nfzss, List.contains_nil, List.contains_cons, Bool.or_false, or_true]
  have hn : (n.length : Int) ≤ 1048576 := by have : ¬ 1048576 < (n.length : Int) := by simpa using h
                                             omega
  clear h
  simp only [EV, Nat.reduceEqDiff, Nat.reduceBEq, Nat.reduceLT, Nat.reduceLeDiff, Nat.reduceAdd, Nat.reduceSub, reduceIte]
  refine callK_i (d18 a 1048576 (by omega) (by omega) ha hoa) ?_
  simp only [EV, Nat.reduceEqDiff, Nat.reduceBEq, Nat.reduceLT, Nat.reduceLeDiff, Nat.reduceAdd, Nat.reduceSub, reduceIte]
  refine cK_cut (fun h => ?_) (fun h => ?_)
  · simp only [EV, Nat.reduceEqDiff, Nat.reduceBEq, Nat.reduceLT, Nat.reduceLeDiff, Nat.reduceAdd, Nat.reduceSub, reduceIte]
    simp only [EV, Nat.reduceEqDiff, Nat.reduceBEq, Nat.reduceLT, Nat.reduceLeDiff, Nat.reduceAdd, Nat.reduceSub, reduceIte, evRE, retVC, cellV', evR, nfz, nfzs, nfzss, List.contains_nil, List.contains_cons, Bool.or_false, or_true]
  have h0 : 0 ≤ szTyS a 1048576 := by simpa using h
  have h1 := szTyS_tot a _ h0
  have h2 := totTys_nn a
  have h3 : (a.length : Int) ≤ 1048576 := by omega
  have hx : ∀ s ∈ a, s.sm := fun s g => s.sm_of (by have := totTys_mem a s g; omega)
  clear h
  have d27' := d27 a n h3 hx hn
  have d29' := d29 a n h3 hx hn
  have hRl : (if rchOk a n = true then reachL a true n else []).length ≤ 1048576 := by
    split
    · rename_i hr
      have := nodup_le (up_nodup (reachL_up a true n)) (fun k hk => (mem_reachL.1 hk).1)
      omega
    · simp
  generalize (if rchOk a n = true then reachL a true n else []) = R at d27' d29' hRl
  have hct := cnt_tot a hx
  have hcn := cntTys_nn a
  have hk1 : decide (1 + cntTys a + (n.length : Int) < 0) = false := by simp; omega
  have hk2 : decide (1 + (R.length : Int) < 0) = false := by simp; omega
  simp only [EV, Nat.reduceEqDiff, Nat.reduceBEq, Nat.reduceLT, Nat.reduceLeDiff, Nat.reduceAdd, Nat.reduceSub, reduceIte]
  refine callK_i (d20 a h3 hx) ?_
  simp only [Ty.frz, iv_frz, EV, Nat.reduceEqDiff, Nat.reduceBEq, Nat.reduceLT, Nat.reduceLeDiff, Nat.reduceAdd, Nat.reduceSub, reduceIte]
  refine callK_i (d28 n hn) ?_
  simp only [Ty.frz, iv_frz, EV, Nat.reduceEqDiff, Nat.reduceBEq, Nat.reduceLT, Nat.reduceLeDiff, Nat.reduceAdd, Nat.reduceSub, reduceIte]
  refine callK_i d27' ?_
  simp only [Ty.frz, iv_frz, EV, Nat.reduceEqDiff, Nat.reduceBEq, Nat.reduceLT, Nat.reduceLeDiff, Nat.reduceAdd, Nat.reduceSub, reduceIte]
  refine callK_i (d20 a h3 hx) ?_
  simp only [Ty.frz, iv_frz, EV, Nat.reduceEqDiff, Nat.reduceBEq, Nat.reduceLT, Nat.reduceLeDiff, Nat.reduceAdd, Nat.reduceSub, reduceIte]
  refine callK_i (d28 n hn) ?_
  simp only [Ty.frz, iv_frz, EV, Nat.reduceEqDiff, Nat.reduceBEq, Nat.reduceLT, Nat.reduceLeDiff, Nat.reduceAdd, Nat.reduceSub, reduceIte]
  refine callK_i d29' ?_
  simp only [Ty.frz, iv_frz, EV, Nat.reduceEqDiff, Nat.reduceBEq, Nat.reduceLT, Nat.reduceLeDiff, Nat.reduceAdd, Nat.reduceSub, reduceIte]
  refine callK_i (d30 R (by omega)) ?_
  simp only [Ty.frz, iv_frz, EV, Nat.reduceEqDiff, Nat.reduceBEq, Nat.reduceLT, Nat.reduceLeDiff, Nat.reduceAdd, Nat.reduceSub, reduceIte]
  refine callK_i (d20 a h3 hx) ?_
  simp only [Ty.frz, iv_frz, EV, Nat.reduceEqDiff, Nat.reduceBEq, Nat.reduceLT, Nat.reduceLeDiff, Nat.reduceAdd, Nat.reduceSub, reduceIte]
  refine callK_i (d22 a h3 hx) ?_
  simp only [Ty.frz, iv_frz, EV, Nat.reduceEqDiff, Nat.reduceBEq, Nat.reduceLT, Nat.reduceLeDiff, Nat.reduceAdd, Nat.reduceSub, reduceIte]
  refine callK_i (d28 n hn) ?_
  simp only [Ty.frz, iv_frz, EV, Nat.reduceEqDiff, Nat.reduceBEq, Nat.reduceLT, Nat.reduceLeDiff, Nat.reduceAdd, Nat.reduceSub, reduceIte]
  refine callK_i (d30 n hn) ?_
  simp only [Ty.frz, iv_frz, EV, Nat.reduceEqDiff, Nat.reduceBEq, Nat.reduceLT, Nat.reduceLeDiff, Nat.reduceAdd, Nat.reduceSub, reduceIte]
  refine callK2_i (d31 a 1 (by omega) (by omega) h3 hx) rfl (by simp [shapeOf, mkTyS_len]) ?_
  simp only [Ty.frz, iv_frz, EV, Nat.reduceEqDiff, Nat.reduceBEq, Nat.reduceLT, Nat.reduceLeDiff, Nat.reduceAdd, Nat.reduceSub, reduceIte]
  refine callK2_i (d32 n (1 + cntTys a) (by omega) (by omega)) rfl (by simp [shapeOf, upI_len]) ?_
  simp only [Ty.frz, iv_frz, hk1, EV, Nat.reduceEqDiff, Nat.reduceBEq, Nat.reduceLT, Nat.reduceLeDiff, Nat.reduceAdd, Nat.reduceSub, reduceIte]
  refine callK_i (d30 R (by omega)) ?_
  simp only [Ty.frz, iv_frz, hk1, EV, Nat.reduceEqDiff, Nat.reduceBEq, Nat.reduceLT, Nat.reduceLeDiff, Nat.reduceAdd, Nat.reduceSub, reduceIte]
  refine callK2_i (d32 R 1 (by omega) (by omega)) rfl (by simp [shapeOf, upI_len]) ?_
  simp only [Ty.frz, iv_frz, hk2, EV, Nat.reduceEqDiff, Nat.reduceBEq, Nat.reduceLT, Nat.reduceLeDiff, Nat.reduceAdd, Nat.reduceSub, reduceIte]
  refine callK_i (d33 R.length 1 (by omega) (by omega)) ?_
  simp only [Ty.frz, iv_frz, hk2, EV, Nat.reduceEqDiff, Nat.reduceBEq, Nat.reduceLT, Nat.reduceLeDiff, Nat.reduceAdd, Nat.reduceSub, reduceIte]
  refine callK_i (d20 a h3 hx) ?_
  simp only [Ty.frz, iv_frz, hk2, EV, Nat.reduceEqDiff, Nat.reduceBEq, Nat.reduceLT, Nat.reduceLeDiff, Nat.reduceAdd, Nat.reduceSub, reduceIte]
  refine callK_i (d28 n hn) ?_
  simp only [Ty.frz, iv_frz, hk2, EV, Nat.reduceEqDiff, Nat.reduceBEq, Nat.reduceLT, Nat.reduceLeDiff, Nat.reduceAdd, Nat.reduceSub, reduceIte]
  refine callK_i d29' ?_
  simp only [Ty.frz, iv_frz, hk2, EV, Nat.reduceEqDiff, Nat.reduceBEq, Nat.reduceLT, Nat.reduceLeDiff, Nat.reduceAdd, Nat.reduceSub, reduceIte]
  refine callK_i (d30 R (by omega)) ?_
  simp only [Ty.frz, iv_frz, hk2, EV, Nat.reduceEqDiff, Nat.reduceBEq, Nat.reduceLT, Nat.reduceLeDiff, Nat.reduceAdd, Nat.reduceSub, reduceIte]
  refine callK_i (d33 R.length 1 (by omega) (by omega)) ?_
  simp only [Ty.frz, iv_frz, hk2, EV, Nat.reduceEqDiff, Nat.reduceBEq, Nat.reduceLT, Nat.reduceLeDiff, Nat.reduceAdd, Nat.reduceSub, reduceIte]
  simp only [EV, Nat.reduceEqDiff, Nat.reduceBEq, Nat.reduceLT, Nat.reduceLeDiff, Nat.reduceAdd, Nat.reduceSub, reduceIte, evRE, retVC, cellV', evR, nfz, nfzs, nfzss, List.contains_nil, List.contains_cons, Bool.or_false, or_true]

end Go.AM
namespace Go.AM
set_option linter.unusedVariables false
set_option linter.unusedSimpArgs false
def fdIn (l : List Ty) (n : Int) : List Fd := match l[n.toNat]? with
  | some t => t.fields
  | none => []

theorem fdIn_eq {l : List Ty} {n : Int} (h : n.toNat < l.length) : fdIn l n = l[n.toNat].fields := by simp [fdIn, h]

def fAt (nm : ByteArray) : List Fd → Option Int
  | [] => none
  | f :: fs => if (f.name.toList == nm.toList) = true then some f.typ else fAt nm fs

def fOn (l : List Ty) (nm : ByteArray) : List Int → Option Int
  | [] => none
  | n :: ns => match fAt nm (fdIn l n) with
    | some x => some x
    | none => fOn l nm ns

theorem fAt_mem {nm : ByteArray} : ∀ {fs : List Fd} {x : Int}, fAt nm fs = some x → ∃ f ∈ fs, f.typ = x
  | [], x, h => by simp [fAt] at h
  | f :: fs, x, h => by
    unfold fAt at h
    split at h
    · exact ⟨f, by simp, Option.some.inj h⟩
    · obtain ⟨g, hg, e⟩ := fAt_mem h
      exact ⟨g, by simp [hg], e⟩

theorem fOn_mem {l : List Ty} {nm : ByteArray} : ∀ {ns : List Int} {x : Int}, fOn l nm ns = some x → ∃ n ∈ ns, ∃ f ∈ fdIn l n, f.typ = x
  | [], x, h => by simp [fOn] at h
  | n :: ns, x, h => by
    unfold fOn at h
    split at h
    · rename_i y hy
      obtain ⟨f, hf, e⟩ := fAt_mem hy
      exact ⟨n, by simp, f, hf, by rw [e]; exact Option.some.inj h⟩
    · obtain ⟨m, hm, r⟩ := fOn_mem h
      exact ⟨m, by simp [hm], r⟩

def fldOf (l : List Ty) (n : Int) (nm : ByteArray) : Option Int := fOn l nm (lineL l n)

theorem fldOf_nn {l : List Ty} (ht : tabOk l = true) {n : Int} (hn : isL l n) {nm : ByteArray} {x : Int} (h : fldOf l n nm = some x) : 0 ≤ x := by
  obtain ⟨m, hm, f, hf, rfl⟩ := fOn_mem h
  have hr := lineL_in ht _ _ hn m hm
  obtain ⟨_, _, hml, _⟩ := isRec_in hr
  rw [fdIn_eq hml] at hf
  exact (isNum_in.1 ((tysOk_good (tabOk_tys ht) hml).flds f hf)).1

theorem fAt_drop {nm : ByteArray} {fs : List Fd} {i : Nat} (h : i < fs.length) : fAt nm (fs.drop i) = if (fs[i].name.toList == nm.toList) = true then some fs[i].typ else fAt nm (fs.drop (i + 1)) := by
  rw [List.drop_eq_getElem_cons h, fAt]

/-- loop.example/g00837/impl.fieldOf -/
def m99 : MC :=
  (.seq
   (.reg [⟨(some 6), none, .a (.asg (.c (.int .i64 0)))⟩,
     ⟨(some 7), none, .a (.asg (.c (.bool false)))⟩])
   (.seq
    (.block 0
     (.loop [0, 1, 2]
      (.seq
       (.seq
        (.reg [⟨(some 10), none, .q (.mov (.t 1))⟩,
          ⟨(some 11), none, .q (.bin false .geq (.t 10) (.c (.int .i64 0)))⟩])
        (.cond (.t 11)
         .skip
         (.exit 0)))
       (.seq
        (.block 1
         (.seq
          (.reg [⟨(some 17), none, .q (.mov (.t 0))⟩,
            ⟨(some 18), none, .q (.mov (.t 1))⟩,
            ⟨(some 19), none, .q (.iad 6 (.t 17) (.t 18))⟩,
            ⟨(some 20), none, .q (.fad 3 (.t 19))⟩,
            ⟨(some 21), none, .q (.load false 1 (.t 20))⟩,
            ⟨(some 22), none, .q (.len false (.t 21))⟩,
            ⟨(some 23), none, .q (.mov (.c (.int .i64 0)))⟩])
          (.block 2
           (.loop [0, 1, 2, 17, 18, 19, 20, 21, 22, 23]
            (.seq
             (.reg [⟨(some 24), none, .q (.bin false .lss (.t 23) (.t 22))⟩])
             (.seq
              (.cond (.t 24)
               .skip
               (.exit 2))
              (.seq
               (.block 3
                (.seq
                 (.reg [⟨(some 25), none, .q (.iad 3 (.t 21) (.t 23))⟩,
                   ⟨(some 26), none, .q (.load true 3 (.t 25))⟩,
                   ⟨(some 9), none, .a (.alloc 57 [.v (.string ({ data := #[] })), .v (.int .i64 0), .v (.int .i64 0)])⟩,
                   ⟨none, none, .a (.store 3 (.t 9) (.t 26))⟩])
                 (.seq
                  (.reg [⟨(some 27), none, .q (.fad 0 (.t 9))⟩,
                    ⟨(some 28), none, .q (.load false 1 (.t 27))⟩,
                    ⟨(some 29), none, .q (.mov (.t 2))⟩,
                    ⟨(some 30), none, .q (.bin false .eql (.t 28) (.t 29))⟩])
                  (.cond (.t 30)
                   (.seq
                    (.reg [⟨(some 31), none, .q (.fad 2 (.t 9))⟩,
                      ⟨(some 32), none, .q (.load false 1 (.t 31))⟩,
                      ⟨(some 6), none, .a (.asg (.t 32))⟩,
                      ⟨(some 7), none, .a (.asg (.c (.bool true)))⟩])
                    .ret)
                   .skip))))
               (.reg [⟨(some 33), none, .q (.bin false .add (.t 23) (.c (.int .i64 1)))⟩,
                 ⟨(some 23), none, .q (.mov (.t 33))⟩]))))))))
        (.reg [⟨(some 12), none, .q (.mov (.t 0))⟩,
          ⟨(some 13), none, .q (.mov (.t 1))⟩,
          ⟨(some 14), none, .q (.iad 6 (.t 12) (.t 13))⟩,
          ⟨(some 15), none, .q (.fad 2 (.t 14))⟩,
          ⟨(some 16), none, .q (.load false 1 (.t 15))⟩,
          ⟨(some 1), none, .a (.asg (.t 16))⟩])))))
    (.seq
     (.reg [⟨(some 6), none, .a (.asg (.c (.int .i64 0)))⟩,
       ⟨(some 7), none, .a (.asg (.c (.bool false)))⟩])
     .ret)))

set_option maxHeartbeats 1000000 in
set_option maxRecDepth 100000 in
theorem d99 (l : List Ty) (n0 : Int) (nm : ByteArray) (hl : (l.length : Int) ≤ 1048576) (ht : tabOk l = true) (h0 : isL l n0) : Does Go.Proofs.Try.prog 99 [.fsl 6 (l.map Ty.z), .v (.int .i64 n0), .v (.string nm)] false (.tup [.v (.int .i64 ((fldOf l n0 nm).getD 0)), .v (.bool (fldOf l n0 nm).isSome)]) [.dead, .dead, .dead] := by
  refine does_intro (mc := m99) (N := 34) (rs := [6, 7]) (fx := []) 3 rfl (by decide +kernel) ?_
  simp only [m99, EV, Nat.reduceEqDiff, Nat.reduceBEq, Nat.reduceLT, Nat.reduceLeDiff, Nat.reduceAdd, Nat.reduceSub, reduceIte]
  refine awp_loop (fun n : Int => isL l n ∧ fldOf l n0 nm = fldOf l n nm) (fun n => stl [(0, .fsl 6 (l.map Ty.z)), (1, .v (.int .i64 n)), (2, .v (.string nm))]) (fun n => (lineL l n).length) n0 ⟨h0, rfl⟩ ?_ ?_
  · simp only [EV, Nat.reduceEqDiff, Nat.reduceBEq, Nat.reduceLT, Nat.reduceLeDiff, Nat.reduceAdd, Nat.reduceSub, reduceIte]
  · rintro n ⟨hn, he⟩
    simp only [EV, Nat.reduceEqDiff, Nat.reduceBEq, Nat.reduceLT, Nat.reduceLeDiff, Nat.reduceAdd, Nat.reduceSub, reduceIte]
    refine cK_cut (fun h => ?_) (fun h => ?_)
    · have hr : isRec l n = true := hn.resolve_left (by have : 0 ≤ n := by simpa using h
                                                        omega)
      obtain ⟨g0, g1, gn, _⟩ := isRec_in hr
      have hlr := lineL_rec ht hr
      have hb := (isRec_base (tabOk_tys ht) hr).1
      have hfe := fdIn_eq gn
      have h6 := (tysOk_good (tabOk_tys ht) gn).few
      clear h
      simp only [g0, g1, nth_map gn, Ty.z, EV, Nat.reduceEqDiff, Nat.reduceBEq, Nat.reduceLT, Nat.reduceLeDiff, Nat.reduceAdd, Nat.reduceSub, reduceIte]
      refine awp_loop (fun i : Nat => i ≤ (l[n.toNat]).fields.length ∧ fAt nm l[n.toNat].fields = fAt nm (l[n.toNat].fields.drop i)) (fun i => stl [(0, .fsl 6 (l.map Ty.z)), (1, .v (.int .i64 n)), (2, .v (.string nm)), (17, .fsl 6 (l.map Ty.z)), (18, .v (.int .i64 n)), (19, .fptr (l[n.toNat]).z), (20, .fptr (l[n.toNat].z.drop 3)), (21, .fsl 3 (l[n.toNat].fields.map Fd.z)), (22, .v (.int .i64 (l[n.toNat].fields.length : Int))), (23, .v (.int .i64 (i : Int)))]) (fun i => l[n.toNat].fields.length - i) 0 ⟨Nat.zero_le _, rfl⟩ ?_ ?_
      · simp only [Ty.z, EV, Nat.reduceEqDiff, Nat.reduceBEq, Nat.reduceLT, Nat.reduceLeDiff, Nat.reduceAdd, Nat.reduceSub, reduceIte]
        rfl
      · rintro i ⟨hi, hf⟩
        simp only [Ty.z, EV, Nat.reduceEqDiff, Nat.reduceBEq, Nat.reduceLT, Nat.reduceLeDiff, Nat.reduceAdd, Nat.reduceSub, reduceIte]
        refine cK_cut (fun h => ?_) (fun h => ?_)
        · have h1 : i < l[n.toNat].fields.length := by simpa using h
          have h2 : (i : Int) < (l[n.toNat].fields.length : Int) := by omega
          have hd := fAt_drop (nm := nm) h1
          clear h
          simp only [FdE, nth_map h1, h1, h2, Fd.z, EV, Nat.reduceEqDiff, Nat.reduceBEq, Nat.reduceLT, Nat.reduceLeDiff, Nat.reduceAdd, Nat.reduceSub, reduceIte]
          rcases e : (l[n.toNat].fields[i].name.toList == nm.toList) with _ | _
          · simp only [EV, Nat.reduceEqDiff, Nat.reduceBEq, Nat.reduceLT, Nat.reduceLeDiff, Nat.reduceAdd, Nat.reduceSub, reduceIte]
            rw [w64 _ (by omega)]
            rw [hf, hd, if_neg (by rw [e]; simp)]
            exact ⟨i + 1, ⟨h1, rfl⟩, by omega, rfl⟩
          · have ef : fldOf l n0 nm = some l[n.toNat].fields[i].typ := by
              rw [he]; unfold fldOf; rw [hlr, fOn, hfe, hf, hd, if_pos e]
            simp only [EV, Nat.reduceEqDiff, Nat.reduceBEq, Nat.reduceLT, Nat.reduceLeDiff, Nat.reduceAdd, Nat.reduceSub, reduceIte]
            simp only [ef, Option.getD_some, Option.isSome_some, EV, Nat.reduceEqDiff, Nat.reduceBEq, Nat.reduceLT, Nat.reduceLeDiff, Nat.reduceAdd, Nat.reduceSub, reduceIte, evRE, retVC, cellV', evR, nfz, nfzs, nfzss, List.contains_nil, List.contains_cons, Bool.or_false, or_true]
        · have h1 : i = l[n.toNat].fields.length := by have : ¬ (i : Int) < l[n.toNat].fields.length := by simpa using h
                                                       omega
          subst h1
          rw [List.drop_length] at hf
          have ef : fldOf l n nm = fldOf l (baseAt l n) nm := by
            unfold fldOf; rw [hlr, fOn, hfe, hf]; rfl
          simp only [g0, g1, nth_map gn, Ty.z, EV, Nat.reduceEqDiff, Nat.reduceBEq, Nat.reduceLT, Nat.reduceLeDiff, Nat.reduceAdd, Nat.reduceSub, reduceIte]
          refine ⟨baseAt l n, ⟨hb, by rw [he, ef]⟩, by rw [hlr]; simp, ?_⟩
          rw [baseAt_eq gn]
    · have hneg : n < 0 := by have : ¬ 0 ≤ n := by simpa using h
                              omega
      have e : fldOf l n0 nm = none := by rw [he]; unfold fldOf; rw [lineL_neg hneg]; rfl
      simp only [EV, Nat.reduceEqDiff, Nat.reduceBEq, Nat.reduceLT, Nat.reduceLeDiff, Nat.reduceAdd, Nat.reduceSub, reduceIte]
      simp only [e, Option.getD_none, Option.isSome_none, EV, Nat.reduceEqDiff, Nat.reduceBEq, Nat.reduceLT, Nat.reduceLeDiff, Nat.reduceAdd, Nat.reduceSub, reduceIte, evRE, retVC, cellV', evR, nfz, nfzs, nfzss, List.contains_nil, List.contains_cons, Bool.or_false, or_true]

/-- loop.example/g00837/spec.l3Field -/
def m101 : MC :=
  (.seq
   (.reg [⟨(some 6), none, .a (.asg (.c (.int .i64 0)))⟩])
   (.seq
    (.block 0
     (.loop [0, 1, 2]
      (.seq
       (.seq
        (.reg [⟨(some 9), none, .q (.mov (.t 1))⟩,
          ⟨(some 10), none, .q (.bin false .geq (.t 9) (.c (.int .i64 0)))⟩])
        (.cond (.t 10)
         .skip
         (.exit 0)))
       (.seq
        (.block 1
         (.seq
          (.reg [⟨(some 16), none, .q (.mov (.t 0))⟩,
            ⟨(some 17), none, .q (.mov (.t 1))⟩,
            ⟨(some 18), none, .q (.iad 6 (.t 16) (.t 17))⟩,
            ⟨(some 19), none, .q (.fad 3 (.t 18))⟩,
            ⟨(some 20), none, .q (.load false 1 (.t 19))⟩,
            ⟨(some 21), none, .q (.len false (.t 20))⟩,
            ⟨(some 22), none, .q (.mov (.c (.int .i64 0)))⟩])
          (.block 2
           (.loop [0, 1, 2, 16, 17, 18, 19, 20, 21, 22]
            (.seq
             (.reg [⟨(some 23), none, .q (.bin false .lss (.t 22) (.t 21))⟩])
             (.seq
              (.cond (.t 23)
               .skip
               (.exit 2))
              (.seq
               (.block 3
                (.seq
                 (.reg [⟨(some 24), none, .q (.iad 3 (.t 20) (.t 22))⟩,
                   ⟨(some 25), none, .q (.load true 3 (.t 24))⟩,
                   ⟨(some 8), none, .a (.alloc 57 [.v (.string ({ data := #[] })), .v (.int .i64 0), .v (.int .i64 0)])⟩,
                   ⟨none, none, .a (.store 3 (.t 8) (.t 25))⟩])
                 (.seq
                  (.reg [⟨(some 26), none, .q (.fad 0 (.t 8))⟩,
                    ⟨(some 27), none, .q (.load false 1 (.t 26))⟩,
                    ⟨(some 28), none, .q (.mov (.t 2))⟩,
                    ⟨(some 29), none, .q (.bin false .eql (.t 27) (.t 28))⟩])
                  (.cond (.t 29)
                   (.seq
                    (.reg [⟨(some 30), none, .q (.fad 2 (.t 8))⟩,
                      ⟨(some 31), none, .q (.load false 1 (.t 30))⟩,
                      ⟨(some 6), none, .a (.asg (.t 31))⟩])
                    .ret)
                   .skip))))
               (.reg [⟨(some 32), none, .q (.bin false .add (.t 22) (.c (.int .i64 1)))⟩,
                 ⟨(some 22), none, .q (.mov (.t 32))⟩]))))))))
        (.reg [⟨(some 11), none, .q (.mov (.t 0))⟩,
          ⟨(some 12), none, .q (.mov (.t 1))⟩,
          ⟨(some 13), none, .q (.iad 6 (.t 11) (.t 12))⟩,
          ⟨(some 14), none, .q (.fad 2 (.t 13))⟩,
          ⟨(some 15), none, .q (.load false 1 (.t 14))⟩,
          ⟨(some 1), none, .a (.asg (.t 15))⟩])))))
    (.seq
     (.reg [⟨(some 6), none, .a (.asg (.c (.int .i64 (-1))))⟩])
     .ret)))

set_option maxHeartbeats 1000000 in
set_option maxRecDepth 100000 in
theorem d101 (l : List Ty) (n0 : Int) (nm : ByteArray) (hl : (l.length : Int) ≤ 1048576) (ht : tabOk l = true) (h0 : isL l n0) : Does Go.Proofs.Try.prog 101 [.fsl 6 (l.map Ty.z), .v (.int .i64 n0), .v (.string nm)] false (.v (.int .i64 ((fldOf l n0 nm).getD (-1)))) [.dead, .dead, .dead] := by
  refine does_intro (mc := m101) (N := 33) (rs := [6]) (fx := []) 3 rfl (by decide +kernel) ?_
  simp only [m101, EV, Nat.reduceEqDiff, Nat.reduceBEq, Nat.reduceLT, Nat.reduceLeDiff, Nat.reduceAdd, Nat.reduceSub, reduceIte]
  refine awp_loop (fun n : Int => isL l n ∧ fldOf l n0 nm = fldOf l n nm) (fun n => stl [(0, .fsl 6 (l.map Ty.z)), (1, .v (.int .i64 n)), (2, .v (.string nm))]) (fun n => (lineL l n).length) n0 ⟨h0, rfl⟩ ?_ ?_
  · simp only [EV, Nat.reduceEqDiff, Nat.reduceBEq, Nat.reduceLT, Nat.reduceLeDiff, Nat.reduceAdd, Nat.reduceSub, reduceIte]
  · rintro n ⟨hn, he⟩
    simp only [EV, Nat.reduceEqDiff, Nat.reduceBEq, Nat.reduceLT, Nat.reduceLeDiff, Nat.reduceAdd, Nat.reduceSub, reduceIte]
    refine cK_cut (fun h => ?_) (fun h => ?_)
    · have hr : isRec l n = true := hn.resolve_left (by have : 0 ≤ n := by simpa using h
                                                        omega)
      obtain ⟨g0, g1, gn, _⟩ := isRec_in hr
      have hlr := lineL_rec ht hr
      have hb := (isRec_base (tabOk_tys ht) hr).1
      have hfe := fdIn_eq gn
      have h6 := (tysOk_good (tabOk_tys ht) gn).few
      clear h
      simp only [g0, g1, nth_map gn, Ty.z, EV, Nat.reduceEqDiff, Nat.reduceBEq, Nat.reduceLT, Nat.reduceLeDiff, Nat.reduceAdd, Nat.reduceSub, reduceIte]
      refine awp_loop (fun i : Nat => i ≤ (l[n.toNat]).fields.length ∧ fAt nm l[n.toNat].fields = fAt nm (l[n.toNat].fields.drop i)) (fun i => stl [(0, .fsl 6 (l.map Ty.z)), (1, .v (.int .i64 n)), (2, .v (.string nm)), (16, .fsl 6 (l.map Ty.z)), (17, .v (.int .i64 n)), (18, .fptr (l[n.toNat]).z), (19, .fptr (l[n.toNat].z.drop 3)), (20, .fsl 3 (l[n.toNat].fields.map Fd.z)), (21, .v (.int .i64 (l[n.toNat].fields.length : Int))), (22, .v (.int .i64 (i : Int)))]) (fun i => l[n.toNat].fields.length - i) 0 ⟨Nat.zero_le _, rfl⟩ ?_ ?_
      · simp only [Ty.z, EV, Nat.reduceEqDiff, Nat.reduceBEq, Nat.reduceLT, Nat.reduceLeDiff, Nat.reduceAdd, Nat.reduceSub, reduceIte]
        rfl
      · rintro i ⟨hi, hf⟩
        simp only [Ty.z, EV, Nat.reduceEqDiff, Nat.reduceBEq, Nat.reduceLT, Nat.reduceLeDiff, Nat.reduceAdd, Nat.reduceSub, reduceIte]
        refine cK_cut (fun h => ?_) (fun h => ?_)
        · have h1 : i < l[n.toNat].fields.length := by simpa using h
          have h2 : (i : Int) < (l[n.toNat].fields.length : Int) := by omega
          have hd := fAt_drop (nm := nm) h1
          clear h
          simp only [FdE, nth_map h1, h1, h2, Fd.z, EV, Nat.reduceEqDiff, Nat.reduceBEq, Nat.reduceLT, Nat.reduceLeDiff, Nat.reduceAdd, Nat.reduceSub, reduceIte]
          rcases e : (l[n.toNat].fields[i].name.toList == nm.toList) with _ | _
          · simp only [EV, Nat.reduceEqDiff, Nat.reduceBEq, Nat.reduceLT, Nat.reduceLeDiff, Nat.reduceAdd, Nat.reduceSub, reduceIte]
            rw [w64 _ (by omega)]
            rw [hf, hd, if_neg (by rw [e]; simp)]
            exact ⟨i + 1, ⟨h1, rfl⟩, by omega, rfl⟩
          · have ef : fldOf l n0 nm = some l[n.toNat].fields[i].typ := by
              rw [he]; unfold fldOf; rw [hlr, fOn, hfe, hf, hd, if_pos e]
            simp only [EV, Nat.reduceEqDiff, Nat.reduceBEq, Nat.reduceLT, Nat.reduceLeDiff, Nat.reduceAdd, Nat.reduceSub, reduceIte]
            simp only [ef, Option.getD_some, Option.isSome_some, EV, Nat.reduceEqDiff, Nat.reduceBEq, Nat.reduceLT, Nat.reduceLeDiff, Nat.reduceAdd, Nat.reduceSub, reduceIte, evRE, retVC, cellV', evR, nfz, nfzs, nfzss, List.contains_nil, List.contains_cons, Bool.or_false, or_true]
        · have h1 : i = l[n.toNat].fields.length := by have : ¬ (i : Int) < l[n.toNat].fields.length := by simpa using h
                                                       omega
          subst h1
          rw [List.drop_length] at hf
          have ef : fldOf l n nm = fldOf l (baseAt l n) nm := by
            unfold fldOf; rw [hlr, fOn, hfe, hf]; rfl
          simp only [g0, g1, nth_map gn, Ty.z, EV, Nat.reduceEqDiff, Nat.reduceBEq, Nat.reduceLT, Nat.reduceLeDiff, Nat.reduceAdd, Nat.reduceSub, reduceIte]
          refine ⟨baseAt l n, ⟨hb, by rw [he, ef]⟩, by rw [hlr]; simp, ?_⟩
          rw [baseAt_eq gn]
    · have hneg : n < 0 := by have : ¬ 0 ≤ n := by simpa using h
                              omega
      have e : fldOf l n0 nm = none := by rw [he]; unfold fldOf; rw [lineL_neg hneg]; rfl
      simp only [EV, Nat.reduceEqDiff, Nat.reduceBEq, Nat.reduceLT, Nat.reduceLeDiff, Nat.reduceAdd, Nat.reduceSub, reduceIte]
      simp only [e, Option.getD_none, Option.isSome_none, EV, Nat.reduceEqDiff, Nat.reduceBEq, Nat.reduceLT, Nat.reduceLeDiff, Nat.reduceAdd, Nat.reduceSub, reduceIte, evRE, retVC, cellV', evR, nfz, nfzs, nfzss, List.contains_nil, List.contains_cons, Bool.or_false, or_true]

/-- loop.example/g00837/impl.FieldOf -/
def m47 : MC :=
  (.seq
   (.reg [⟨(some 6), none, .a (.asg (.c (.int .i64 0)))⟩,
     ⟨(some 7), none, .a (.asg (.c (.bool false)))⟩])
   (.seq
    (.seq
     (.reg [⟨(some 8), none, .q (.mov (.t 0))⟩,
       ⟨(some 9), none, .a (.call (.fn 79) false [.lend (.t 8)])⟩,
       ⟨(some 10), none, .q (.un .not (.t 9))⟩,
       ⟨(some 11), none, .q (.mov (.t 10))⟩,
       ⟨(some 12), (some (11, false)), .q (.mov (.t 0))⟩,
       ⟨(some 13), (some (11, false)), .q (.mov (.t 1))⟩,
       ⟨(some 14), (some (11, false)), .a (.call (.fn 98) false [.lend (.t 12), .lend (.t 13)])⟩,
       ⟨(some 15), (some (11, false)), .q (.un .not (.t 14))⟩,
       ⟨(some 16), none, .q (.pick (.t 11) (.c (.bool true)) (.t 15))⟩])
     (.cond (.t 16)
      (.seq
       (.reg [⟨(some 6), none, .a (.asg (.c (.int .i64 0)))⟩,
         ⟨(some 7), none, .a (.asg (.c (.bool false)))⟩])
       .ret)
      .skip))
    (.seq
     (.reg [⟨(some 17), none, .q (.mov (.t 0))⟩,
       ⟨(some 18), none, .q (.mov (.t 1))⟩,
       ⟨(some 19), none, .q (.mov (.t 2))⟩,
       ⟨(some 20), none, .a (.call (.fn 99) false [.lend (.t 17), .lend (.t 18), .lend (.t 19)])⟩,
       ⟨(some 21), none, .q (.ext 20 0)⟩,
       ⟨(some 22), none, .q (.ext 20 1)⟩,
       ⟨(some 6), none, .a (.asg (.t 21))⟩,
       ⟨(some 7), none, .a (.asg (.t 22))⟩])
     .ret)))

set_option maxRecDepth 100000 in
theorem d47 (l : List Ty) (n : Int) (nm : ByteArray) (hl : (l.length : Int) ≤ 1048576) (hs : ∀ s ∈ l, s.sm) : Does Go.Proofs.Try.prog 47 [.fsl 6 (l.map Ty.z), .v (.int .i64 n), .v (.string nm)] false (.tup [.v (.int .i64 (if recOk l n = true then (fldOf l n nm).getD 0 else 0)), .v (.bool (recOk l n && (fldOf l n nm).isSome))]) [.dead, .dead, .dead] := by
  refine does_intro (mc := m47) (N := 23) (rs := [6, 7]) (fx := []) 3 rfl (by decide +kernel) ?_
  simp only [m47, EV, Nat.reduceEqDiff, Nat.reduceBEq, Nat.reduceLT, Nat.reduceLeDiff, Nat.reduceAdd, Nat.reduceSub, reduceIte]
  refine callK_i (d79 l hl hs) ?_
  simp only [EV, Nat.reduceEqDiff, Nat.reduceBEq, Nat.reduceLT, Nat.reduceLeDiff, Nat.reduceAdd, Nat.reduceSub, reduceIte]
  rcases e : tabOk l with _ | _
  · simp only [Bool.not_false, EV, Nat.reduceEqDiff, Nat.reduceBEq, Nat.reduceLT, Nat.reduceLeDiff, Nat.reduceAdd, Nat.reduceSub, reduceIte]
    simp only [recOk, e, Bool.false_and, EV, Nat.reduceEqDiff, Nat.reduceBEq, Nat.reduceLT, Nat.reduceLeDiff, Nat.reduceAdd, Nat.reduceSub, reduceIte, evRE, retVC, cellV', evR, nfz, nfzs, nfzss, List.contains_nil, List.contains_cons, Bool.or_false, or_true]
  · simp only [Bool.not_true, EV, Nat.reduceEqDiff, Nat.reduceBEq, Nat.reduceLT, Nat.reduceLeDiff, Nat.reduceAdd, Nat.reduceSub, reduceIte]
    refine callK_i (d98 l n hl) ?_
    simp only [EV, Nat.reduceEqDiff, Nat.reduceBEq, Nat.reduceLT, Nat.reduceLeDiff, Nat.reduceAdd, Nat.reduceSub, reduceIte]
    rcases e2 : isRec l n with _ | _
    · simp only [Bool.not_false, EV, Nat.reduceEqDiff, Nat.reduceBEq, Nat.reduceLT, Nat.reduceLeDiff, Nat.reduceAdd, Nat.reduceSub, reduceIte]
      simp only [recOk, e, e2, Bool.and_false, Bool.false_and, EV, Nat.reduceEqDiff, Nat.reduceBEq, Nat.reduceLT, Nat.reduceLeDiff, Nat.reduceAdd, Nat.reduceSub, reduceIte, evRE, retVC, cellV', evR, nfz, nfzs, nfzss, List.contains_nil, List.contains_cons, Bool.or_false, or_true]
    · simp only [Bool.not_true, EV, Nat.reduceEqDiff, Nat.reduceBEq, Nat.reduceLT, Nat.reduceLeDiff, Nat.reduceAdd, Nat.reduceSub, reduceIte]
      refine callK_i (d99 l n nm hl e (.inr e2)) ?_
      simp only [EV, Nat.reduceEqDiff, Nat.reduceBEq, Nat.reduceLT, Nat.reduceLeDiff, Nat.reduceAdd, Nat.reduceSub, reduceIte]
      simp only [recOk, e, e2, Bool.and_self, Bool.true_and, if_true, EV, Nat.reduceEqDiff, Nat.reduceBEq, Nat.reduceLT, Nat.reduceLeDiff, Nat.reduceAdd, Nat.reduceSub, reduceIte, evRE, retVC, cellV', evR, nfz, nfzs, nfzss, List.contains_nil, List.contains_cons, Bool.or_false, or_true]

/-- loop.example/g00837/spec.FieldOf -/
def m48 : MC :=
  (.seq
   (.reg [⟨(some 6), none, .a (.asg (.c (.int .i64 0)))⟩,
     ⟨(some 7), none, .a (.asg (.c (.bool false)))⟩])
   (.seq
    (.seq
     (.reg [⟨(some 8), none, .q (.mov (.t 0))⟩,
       ⟨(some 9), none, .a (.call (.fn 82) false [.lend (.t 8)])⟩,
       ⟨(some 10), none, .q (.un .not (.t 9))⟩,
       ⟨(some 11), none, .q (.mov (.t 10))⟩,
       ⟨(some 12), (some (11, false)), .q (.mov (.t 0))⟩,
       ⟨(some 13), (some (11, false)), .q (.mov (.t 1))⟩,
       ⟨(some 14), (some (11, false)), .a (.call (.fn 100) false [.lend (.t 12), .lend (.t 13), .lend (.c (.int .i64 5)), .lend (.c (.int .i64 5))])⟩,
       ⟨(some 15), (some (11, false)), .q (.un .not (.t 14))⟩,
       ⟨(some 16), none, .q (.pick (.t 11) (.c (.bool true)) (.t 15))⟩,
       ⟨(some 17), none, .q (.mov (.t 16))⟩,
       ⟨(some 18), (some (17, false)), .q (.mov (.t 0))⟩,
       ⟨(some 19), (some (17, false)), .q (.mov (.t 1))⟩,
       ⟨(some 20), (some (17, false)), .q (.mov (.t 2))⟩,
       ⟨(some 21), (some (17, false)), .a (.call (.fn 101) false [.lend (.t 18), .lend (.t 19), .lend (.t 20)])⟩,
       ⟨(some 22), (some (17, false)), .q (.bin false .lss (.t 21) (.c (.int .i64 0)))⟩,
       ⟨(some 23), none, .q (.pick (.t 17) (.c (.bool true)) (.t 22))⟩])
     (.cond (.t 23)
      (.seq
       (.reg [⟨(some 6), none, .a (.asg (.c (.int .i64 0)))⟩,
         ⟨(some 7), none, .a (.asg (.c (.bool false)))⟩])
       .ret)
      .skip))
    (.seq
     (.reg [⟨(some 24), none, .q (.mov (.t 0))⟩,
       ⟨(some 25), none, .q (.mov (.t 1))⟩,
       ⟨(some 26), none, .q (.mov (.t 2))⟩,
       ⟨(some 27), none, .a (.call (.fn 101) false [.lend (.t 24), .lend (.t 25), .lend (.t 26)])⟩,
       ⟨(some 6), none, .a (.asg (.t 27))⟩,
       ⟨(some 7), none, .a (.asg (.c (.bool true)))⟩])
     .ret)))

set_option maxRecDepth 100000 in
theorem d48 (l : List Ty) (n : Int) (nm : ByteArray) (hl : (l.length : Int) ≤ 1048576) (hs : ∀ s ∈ l, s.sm) : Does Go.Proofs.Try.prog 48 [.fsl 6 (l.map Ty.z), .v (.int .i64 n), .v (.string nm)] false (.tup [.v (.int .i64 (if recOk l n = true then (fldOf l n nm).getD 0 else 0)), .v (.bool (recOk l n && (fldOf l n nm).isSome))]) [.dead, .dead, .dead] := by
  refine does_intro (mc := m48) (N := 28) (rs := [6, 7]) (fx := []) 3 rfl (by decide +kernel) ?_
  simp only [m48, EV, Nat.reduceEqDiff, Nat.reduceBEq, Nat.reduceLT, Nat.reduceLeDiff, Nat.reduceAdd, Nat.reduceSub, reduceIte]
  refine callK_i (d82 l hl hs) ?_
  simp only [EV, Nat.reduceEqDiff, Nat.reduceBEq, Nat.reduceLT, Nat.reduceLeDiff, Nat.reduceAdd, Nat.reduceSub, reduceIte]
  rcases e : tabOk l with _ | _
  · simp only [Bool.not_false, EV, Nat.reduceEqDiff, Nat.reduceBEq, Nat.reduceLT, Nat.reduceLeDiff, Nat.reduceAdd, Nat.reduceSub, reduceIte]
    simp only [recOk, e, Bool.false_and, EV, Nat.reduceEqDiff, Nat.reduceBEq, Nat.reduceLT, Nat.reduceLeDiff, Nat.reduceAdd, Nat.reduceSub, reduceIte, evRE, retVC, cellV', evR, nfz, nfzs, nfzss, List.contains_nil, List.contains_cons, Bool.or_false, or_true]
  · simp only [Bool.not_true, EV, Nat.reduceEqDiff, Nat.reduceBEq, Nat.reduceLT, Nat.reduceLeDiff, Nat.reduceAdd, Nat.reduceSub, reduceIte]
    refine callK_i (d100 l n 5 5 hl) ?_
    rw [kindIn_same]
    have e3 : (isNum l n && kd l n == 5) = isRec l n := rfl
    rw [e3]
    simp only [EV, Nat.reduceEqDiff, Nat.reduceBEq, Nat.reduceLT, Nat.reduceLeDiff, Nat.reduceAdd, Nat.reduceSub, reduceIte]
    rcases e2 : isRec l n with _ | _
    · simp only [Bool.not_false, EV, Nat.reduceEqDiff, Nat.reduceBEq, Nat.reduceLT, Nat.reduceLeDiff, Nat.reduceAdd, Nat.reduceSub, reduceIte]
      simp only [recOk, e, e2, Bool.and_false, Bool.false_and, EV, Nat.reduceEqDiff, Nat.reduceBEq, Nat.reduceLT, Nat.reduceLeDiff, Nat.reduceAdd, Nat.reduceSub, reduceIte, evRE, retVC, cellV', evR, nfz, nfzs, nfzss, List.contains_nil, List.contains_cons, Bool.or_false, or_true]
    · simp only [Bool.not_true, EV, Nat.reduceEqDiff, Nat.reduceBEq, Nat.reduceLT, Nat.reduceLeDiff, Nat.reduceAdd, Nat.reduceSub, reduceIte]
      refine callK_i (d101 l n nm hl e (.inr e2)) ?_
      simp only [EV, Nat.reduceEqDiff, Nat.reduceBEq, Nat.reduceLT, Nat.reduceLeDiff, Nat.reduceAdd, Nat.reduceSub, reduceIte]
      rcases ef : fldOf l n nm with _ | x
      · have hm : decide ((-1 : Int) < 0) = true := rfl
        simp only [Option.getD_none, hm, EV, Nat.reduceEqDiff, Nat.reduceBEq, Nat.reduceLT, Nat.reduceLeDiff, Nat.reduceAdd, Nat.reduceSub, reduceIte]
        simp only [recOk, e, e2, ef, Option.getD_none, Option.isSome_none, Bool.and_self, Bool.and_false, if_true, EV, Nat.reduceEqDiff, Nat.reduceBEq, Nat.reduceLT, Nat.reduceLeDiff, Nat.reduceAdd, Nat.reduceSub, reduceIte, evRE, retVC, cellV', evR, nfz, nfzs, nfzss, List.contains_nil, List.contains_cons, Bool.or_false, or_true]
      · have hx : ¬ x < 0 := by have := fldOf_nn e (.inr e2) ef; omega
        have hx2 : decide (x < 0) = false := by simpa using hx
        simp only [Option.getD_some, hx2, EV, Nat.reduceEqDiff, Nat.reduceBEq, Nat.reduceLT, Nat.reduceLeDiff, Nat.reduceAdd, Nat.reduceSub, reduceIte]
        refine callK_i (d101 l n nm hl e (.inr e2)) ?_
        simp only [EV, Nat.reduceEqDiff, Nat.reduceBEq, Nat.reduceLT, Nat.reduceLeDiff, Nat.reduceAdd, Nat.reduceSub, reduceIte]
        simp only [recOk, e, e2, ef, Option.getD_some, Option.isSome_some, Bool.and_self, if_true, EV, Nat.reduceEqDiff, Nat.reduceBEq, Nat.reduceLT, Nat.reduceLeDiff, Nat.reduceAdd, Nat.reduceSub, reduceIte, evRE, retVC, cellV', evR, nfz, nfzs, nfzss, List.contains_nil, List.contains_cons, Bool.or_false, or_true]

end Go.AM
namespace Go.AM
set_option linter.unusedVariables false
set_option linter.unusedSimpArgs false
/-- A byte as a row of one cell. -/
def bv (n : Int) : List AV := [.v (.int .u8 n)]

structure Cur where
  code : List Int
  pos : Int
  seed : Int

def Cur.z (c : Cur) : List AV := [.fsl 1 (c.code.map bv), .v (.int .i64 c.pos), .v (.int .u64 c.seed)]

def Cur.ok (c : Cur) (n : Int) : Prop := (c.code.length : Int) ≤ 1048576 ∧ (∀ b ∈ c.code, 0 ≤ b ∧ b ≤ 255) ∧ 0 ≤ c.pos ∧ c.pos ≤ n

theorem Cur.ok.up {c : Cur} {n m : Int} (h : c.ok n) (hm : n ≤ m) : c.ok m := ⟨h.1, h.2.1, h.2.2.1, by have := h.2.2.2; omega⟩

def andK (kd : IntKind) (a b : Int) : Int := kd.wrap (BitVec.ofInt kd.bits a &&& BitVec.ofInt kd.bits b).toNat

def shrK (kd : IntKind) (a b : Int) : Int := a.fdiv (2 ^ (min b.toNat kd.bits))

theorem evB2 :
    (∀ (kd ky : IntKind) (a b : Int) (K : AV → Prop), (binV .shr (.v (.int kd a)) (.v (.int ky b)) K = (0 ≤ b ∧ K (.v (.int kd (shrK kd a b)))))) ∧
    (∀ (kd : IntKind) (a b : Int) (K : AV → Prop), (binV .and (.v (.int kd a)) (.v (.int kd b)) K = K (.v (.int kd (andK kd a b))))) := by
  refine ⟨?_, ?_⟩ <;> intros <;> simp [binV, binC, binR, andK, shrK]

theorem andK_255 (a : Int) : 0 ≤ andK .u64 a 255 ∧ andK .u64 a 255 ≤ 255 := by
  have h2 : (BitVec.ofInt IntKind.u64.bits 255).toNat = 255 := by decide
  have e : (BitVec.ofInt IntKind.u64.bits a &&& BitVec.ofInt IntKind.u64.bits 255).toNat ≤ 255 := by
    rw [BitVec.toNat_and, h2]
    exact Nat.and_le_right
  have w : ∀ n : Nat, n ≤ 255 → IntKind.u64.wrap (n : Int) = (n : Int) := by
    intro n h1
    simp [IntKind.wrap, IntKind.bits, IntKind.signed]
    omega
  unfold andK
  rw [w _ e]
  omega

theorem evN (n : Nat) (p : List (Nat × Nat)) (i k : Nat) (K : AV → Prop) : nilchkV (.ref n p i k) K = K (.ref n p i k) := rfl

/-- (*loop.example/g00837/spec.l1Cur).next -/
def m144 : MC :=
  (.seq
   (.reg [⟨(some 2), none, .a (.asg (.c (.int .i64 0)))⟩])
   (.seq
    (.reg [⟨(some 3), none, .a (.asg (.c (.int .i64 0)))⟩])
    (.join [0, 3]
     (.seq
      (.dreg [⟨(some 4), none, .q (.mov (.t 0))⟩,
        ⟨(some 5), none, .q (.nilchk (.t 4))⟩,
        ⟨(some 6), none, .q (.fad 1 (.t 5))⟩,
        ⟨(some 7), none, .q (.load false 1 (.t 6))⟩,
        ⟨(some 8), none, .q (.mov (.t 0))⟩,
        ⟨(some 9), none, .q (.nilchk (.t 8))⟩,
        ⟨(some 10), none, .q (.fad 0 (.t 9))⟩,
        ⟨(some 11), none, .q (.load false 1 (.t 10))⟩,
        ⟨(some 12), none, .q (.len false (.t 11))⟩,
        ⟨(some 13), none, .q (.bin false .lss (.t 7) (.t 12))⟩])
      (.cond (.t 13)
       (.dreg [⟨(some 14), none, .q (.mov (.t 0))⟩,
         ⟨(some 15), none, .q (.nilchk (.t 14))⟩,
         ⟨(some 16), none, .q (.fad 0 (.t 15))⟩,
         ⟨(some 17), none, .q (.load false 1 (.t 16))⟩,
         ⟨(some 18), none, .q (.mov (.t 0))⟩,
         ⟨(some 19), none, .q (.nilchk (.t 18))⟩,
         ⟨(some 20), none, .q (.fad 1 (.t 19))⟩,
         ⟨(some 21), none, .q (.load false 1 (.t 20))⟩,
         ⟨(some 22), none, .q (.iad 1 (.t 17) (.t 21))⟩,
         ⟨(some 23), none, .q (.load false 1 (.t 22))⟩,
         ⟨(some 24), none, .q (.conv .i64 (.t 23))⟩,
         ⟨(some 3), none, .q (.mov (.t 24))⟩])
       .skip))
     (.seq
      (.reg [⟨(some 25), none, .q (.mov (.t 0))⟩,
        ⟨(some 26), none, .q (.nilchk (.t 25))⟩,
        ⟨(some 27), none, .q (.fad 1 (.t 26))⟩,
        ⟨(some 28), none, .q (.load false 1 (.t 27))⟩,
        ⟨(some 29), none, .q (.bin false .add (.t 28) (.c (.int .i64 1)))⟩,
        ⟨(some 30), none, .q (.nilchk (.t 25))⟩,
        ⟨(some 31), none, .q (.fad 1 (.t 30))⟩,
        ⟨none, none, .a (.store 1 (.t 31) (.t 29))⟩])
      (.seq
       (.reg [⟨(some 32), none, .q (.mov (.t 0))⟩,
         ⟨(some 33), none, .q (.mov (.t 0))⟩,
         ⟨(some 34), none, .q (.nilchk (.t 33))⟩,
         ⟨(some 35), none, .q (.fad 2 (.t 34))⟩,
         ⟨(some 36), none, .q (.load false 1 (.t 35))⟩,
         ⟨(some 37), none, .q (.bin false .mul (.t 36) (.c (.int .u64 6364136223846793005)))⟩,
         ⟨(some 38), none, .q (.mov (.t 3))⟩,
         ⟨(some 39), none, .q (.conv .u64 (.t 38))⟩,
         ⟨(some 40), none, .q (.bin false .add (.t 37) (.t 39))⟩,
         ⟨(some 41), none, .q (.bin false .add (.t 40) (.c (.int .u64 1442695040888963407)))⟩,
         ⟨(some 42), none, .q (.nilchk (.t 32))⟩,
         ⟨(some 43), none, .q (.fad 2 (.t 42))⟩,
         ⟨none, none, .a (.store 1 (.t 43) (.t 41))⟩])
       (.seq
        (.seq
         (.dreg [⟨(some 44), none, .q (.mov (.t 0))⟩,
           ⟨(some 45), none, .q (.nilchk (.t 44))⟩,
           ⟨(some 46), none, .q (.fad 1 (.t 45))⟩,
           ⟨(some 47), none, .q (.load false 1 (.t 46))⟩,
           ⟨(some 48), none, .q (.mov (.t 0))⟩,
           ⟨(some 49), none, .q (.nilchk (.t 48))⟩,
           ⟨(some 50), none, .q (.fad 0 (.t 49))⟩,
           ⟨(some 51), none, .q (.load false 1 (.t 50))⟩,
           ⟨(some 52), none, .q (.len false (.t 51))⟩,
           ⟨(some 53), none, .q (.bin false .leq (.t 47) (.t 52))⟩])
         (.cond (.t 53)
          (.seq
           (.reg [⟨(some 54), none, .q (.mov (.t 3))⟩,
             ⟨(some 2), none, .a (.asg (.t 54))⟩])
           .ret)
          .skip))
        (.seq
         (.reg [⟨(some 55), none, .q (.mov (.t 0))⟩,
           ⟨(some 56), none, .q (.nilchk (.t 55))⟩,
           ⟨(some 57), none, .q (.fad 2 (.t 56))⟩,
           ⟨(some 58), none, .q (.load false 1 (.t 57))⟩,
           ⟨(some 59), none, .q (.bin false .shr (.t 58) (.c (.int .u64 40)))⟩,
           ⟨(some 60), none, .q (.bin false .and (.t 59) (.c (.int .u64 255)))⟩,
           ⟨(some 61), none, .q (.conv .i64 (.t 60))⟩,
           ⟨(some 2), none, .a (.asg (.t 61))⟩])
         .ret)))))))

set_option maxRecDepth 100000 in
theorem d144 (c : Cur) (n : Int) (hc : c.ok n) (hn : n ≤ 1152921504606846976) :
    DoesE Go.Proofs.Try.prog 144 [.box 115 c.z] false (fun r o => ∃ (v : Int) (c' : Cur), r = .v (.int .i64 v) ∧ o = [.box 115 c'.z] ∧ 0 ≤ v ∧ v ≤ 255 ∧ c'.ok (n + 1)) := by
  obtain ⟨h1, h2, h3, h4⟩ := hc
  refine doesE_intro (mc := m144) (N := 62) (rs := [2]) (fx := [0]) 1 rfl (by decide +kernel) ?_
  simp only [m144, EV, Nat.reduceEqDiff, Nat.reduceBEq, Nat.reduceLT, Nat.reduceLeDiff, Nat.reduceAdd, Nat.reduceSub, reduceIte]
  refine awp_join (fun v : Int => 0 ≤ v ∧ v ≤ 255) (fun v => stl [(0, .box 115 c.z), (3, .v (.int .i64 v))]) ?_ ?_
  · simp only [Cur.z, evN, EV, Nat.reduceEqDiff, Nat.reduceBEq, Nat.reduceLT, Nat.reduceLeDiff, Nat.reduceAdd, Nat.reduceSub, reduceIte]
    refine cK_cut (fun h => ?_) (fun h => ?_)
    · have g1 : c.pos.toNat < c.code.length := by have : c.pos < (c.code.length : Int) := by simpa using h
                                                  omega
      have g2 : c.pos < (c.code.length : Int) := by omega
      have gb := h2 _ (List.getElem_mem g1)
      have w := w64 c.code[c.pos.toNat] (by omega)
      simp only [h3, g2, nth_map g1, bv, w, evN, EV, Nat.reduceEqDiff, Nat.reduceBEq, Nat.reduceLT, Nat.reduceLeDiff, Nat.reduceAdd, Nat.reduceSub, reduceIte]
      exact ⟨_, gb, rfl⟩
    · simp only [evN, EV, Nat.reduceEqDiff, Nat.reduceBEq, Nat.reduceLT, Nat.reduceLeDiff, Nat.reduceAdd, Nat.reduceSub, reduceIte]
      exact ⟨0, by omega, rfl⟩
  · rintro v ⟨v0, v1⟩
    have w1 := w64 (c.pos + 1) (by omega)
    simp only [Cur.z, evN, evB2, w1, EV, Nat.reduceEqDiff, Nat.reduceBEq, Nat.reduceLT, Nat.reduceLeDiff, Nat.reduceAdd, Nat.reduceSub, reduceIte]
    refine cK_cut (fun h => ?_) (fun h => ?_)
    · simp only [evN, evB2, EV, Nat.reduceEqDiff, Nat.reduceBEq, Nat.reduceLT, Nat.reduceLeDiff, Nat.reduceAdd, Nat.reduceSub, reduceIte]
      simp only [EV, Nat.reduceEqDiff, Nat.reduceBEq, Nat.reduceLT, Nat.reduceLeDiff, Nat.reduceAdd, Nat.reduceSub, reduceIte, evRE, retVC, cellV', evR, nfz, nfzs, nfzss, List.contains_nil, List.contains_cons, Bool.or_false, or_true]
      exact ⟨v, ⟨c.code, c.pos + 1, _⟩, rfl, rfl, v0, v1, h1, h2, by simp only; omega, by simp only; omega⟩
    · simp only [evN, evB2, EV, Nat.reduceEqDiff, Nat.reduceBEq, Nat.reduceLT, Nat.reduceLeDiff, Nat.reduceAdd, Nat.reduceSub, reduceIte]
      refine ⟨by omega, ?_⟩
      have ab := andK_255 (shrK .u64 (IntKind.u64.wrap (IntKind.u64.wrap (IntKind.u64.wrap (c.seed * 6364136223846793005) + IntKind.u64.wrap v) + 1442695040888963407)) 40)
      rw [w64 _ (by omega)]
      simp only [EV, Nat.reduceEqDiff, Nat.reduceBEq, Nat.reduceLT, Nat.reduceLeDiff, Nat.reduceAdd, Nat.reduceSub, reduceIte, evRE, retVC, cellV', evR, nfz, nfzs, nfzss, List.contains_nil, List.contains_cons, Bool.or_false, or_true]
      exact ⟨_, ⟨c.code, c.pos + 1, _⟩, rfl, rfl, ab.1, ab.2, h1, h2, by simp only; omega, by simp only; omega⟩

/-- A call that draws a number: told by what it says of the number and of the rest. -/
def Draws (f : Nat) (args : List AV) (c : Cur) (n m : Int) (Q : AV → Prop) : Prop :=
  DoesE Go.Proofs.Try.prog f (.box 115 c.z :: args) false fun r o => ∃ c' : Cur, o = .box 115 c'.z :: args.map (fun _ => AV.dead) ∧ c'.ok (n + m) ∧ Q r

theorem Draws.call {f : Nat} {args : List AV} {c : Cur} {n m : Int} {Q : AV → Prop} (h : Draws f args c n m Q) {O : AV → List AV} (hO : ∀ out, O out = out :: args.map fun _ => AV.dead) {S : AV → AV → Prop}
    (k : ∀ (r : AV) (c' : Cur), c'.ok (n + m) → Q r → S (.box 115 c'.z) r) : callK2 Go.Proofs.Try.prog f (.box 115 c.z :: args) false O (.box 115 c.z) S := by
  refine callE2_i (T := fun r out => ∃ c' : Cur, out = .box 115 c'.z ∧ c'.ok (n + m) ∧ Q r) h ?_ ?_
  · rintro r o ⟨c', rfl, h1, h2⟩
    exact ⟨.box 115 c'.z, ⟨c', rfl, h1, h2⟩, (hO _).symm⟩
  · rintro r out ⟨c', rfl, h1, h2⟩
    exact ⟨rfl, rfl, k r c' h1 h2⟩

theorem p144 (c : Cur) (n : Int) (hc : c.ok n) (hn : n ≤ 1152921504606846976) : Draws 144 [] c n 1 fun r => ∃ v : Int, r = .v (.int .i64 v) ∧ 0 ≤ v ∧ v ≤ 255 := by
  have h := d144 c n hc hn
  refine ⟨h.1, fun w Fz xs os h1 h2 h3 h4 => (h.2 w Fz xs os h1 h2 h3 h4).mono ?_⟩
  rintro e w' ⟨res, outs, ⟨v, c', rfl, rfl, g1, g2, g3⟩, hh⟩
  exact ⟨_, _, ⟨c', rfl, g3, v, rfl, g1, g2⟩, hh⟩

/-- (*loop.example/g00837/spec.l1Cur).pick -/
def m106 : MC :=
  (.seq
   (.reg [⟨(some 4), none, .a (.asg (.c (.int .i64 0)))⟩])
   (.seq
    (.seq
     (.reg [⟨(some 6), none, .q (.mov (.t 1))⟩,
       ⟨(some 7), none, .q (.bin false .leq (.t 6) (.c (.int .i64 1)))⟩])
     (.cond (.t 7)
      (.seq
       (.reg [⟨(some 4), none, .a (.asg (.c (.int .i64 0)))⟩])
       .ret)
      .skip))
    (.seq
     (.reg [⟨(some 8), none, .q (.mov (.t 0))⟩,
       ⟨(some 9), none, .a (.call (.fn 144) false [.io (.t 8)])⟩,
       ⟨(some 5), none, .a (.asg (.t 9))⟩])
     (.join [0, 1, 5]
      (.seq
       (.reg [⟨(some 10), none, .q (.mov (.t 1))⟩,
         ⟨(some 11), none, .q (.bin false .gtr (.t 10) (.c (.int .i64 200)))⟩])
       (.cond (.t 11)
        (.reg [⟨(some 12), none, .q (.mov (.t 5))⟩,
          ⟨(some 13), none, .q (.bin false .mul (.t 12) (.c (.int .i64 256)))⟩,
          ⟨(some 14), none, .q (.mov (.t 0))⟩,
          ⟨(some 15), none, .a (.call (.fn 144) false [.io (.t 14)])⟩,
          ⟨(some 16), none, .q (.bin false .add (.t 13) (.t 15))⟩,
          ⟨(some 5), none, .a (.asg (.t 16))⟩])
        .skip))
      (.seq
       (.reg [⟨(some 17), none, .q (.mov (.t 5))⟩,
         ⟨(some 18), none, .q (.mov (.t 1))⟩,
         ⟨(some 19), none, .q (.bin false .rem (.t 17) (.t 18))⟩,
         ⟨(some 4), none, .a (.asg (.t 19))⟩])
       .ret)))))

set_option maxRecDepth 100000 in
theorem p106 (c : Cur) (n k : Int) (hc : c.ok n) (hn : n ≤ 1152921504606846) (hk : k ≤ 1048577) : Draws 106 [.v (.int .i64 k)] c n 2 fun r => ∃ v : Int, r = .v (.int .i64 v) ∧ 0 ≤ v ∧ (1 < k → v < k) ∧ (k ≤ 1 → v = 0) := by
  refine doesE_intro (mc := m106) (N := 20) (rs := [4]) (fx := [0]) 2 rfl (by decide +kernel) ?_
  simp only [m106, EV, Nat.reduceEqDiff, Nat.reduceBEq, Nat.reduceLT, Nat.reduceLeDiff, Nat.reduceAdd, Nat.reduceSub, reduceIte]
  refine cK_cut (fun h => ?_) (fun h => ?_)
  · have hk1 : k ≤ 1 := by simpa using h
    simp only [EV, Nat.reduceEqDiff, Nat.reduceBEq, Nat.reduceLT, Nat.reduceLeDiff, Nat.reduceAdd, Nat.reduceSub, reduceIte]
    simp only [EV, Nat.reduceEqDiff, Nat.reduceBEq, Nat.reduceLT, Nat.reduceLeDiff, Nat.reduceAdd, Nat.reduceSub, reduceIte, evRE, retVC, cellV', evR, nfz, nfzs, nfzss, List.contains_nil, List.contains_cons, Bool.or_false, or_true]
    exact ⟨c, rfl, hc.up (by omega), 0, rfl, Int.le_refl _, fun h => absurd h (by omega), fun _ => rfl⟩
  have hk1 : 1 < k := by have : ¬ k ≤ 1 := by simpa using h
                         omega
  clear h
  simp only [EV, Nat.reduceEqDiff, Nat.reduceBEq, Nat.reduceLT, Nat.reduceLeDiff, Nat.reduceAdd, Nat.reduceSub, reduceIte]
  refine (p144 c n hc (by omega)).call (fun _ => rfl) ?_
  rintro _ c1 hc1 ⟨v, rfl, v0, v1⟩
  simp only [EV, Nat.reduceEqDiff, Nat.reduceBEq, Nat.reduceLT, Nat.reduceLeDiff, Nat.reduceAdd, Nat.reduceSub, reduceIte]
  refine awp_join (fun p : Int × Cur => 0 ≤ p.1 ∧ p.1 ≤ 65535 ∧ p.2.ok (n + 2)) (fun p => stl [(0, .box 115 p.2.z), (1, .v (.int .i64 k)), (5, .v (.int .i64 p.1))]) ?_ ?_
  · simp only [EV, Nat.reduceEqDiff, Nat.reduceBEq, Nat.reduceLT, Nat.reduceLeDiff, Nat.reduceAdd, Nat.reduceSub, reduceIte]
    refine cK_cut (fun h => ?_) (fun h => ?_)
    · simp only [EV, Nat.reduceEqDiff, Nat.reduceBEq, Nat.reduceLT, Nat.reduceLeDiff, Nat.reduceAdd, Nat.reduceSub, reduceIte]
      refine (p144 c1 (n + 1) hc1 (by omega)).call (fun _ => rfl) ?_
      rintro _ c2 hc2 ⟨u, rfl, u0, u1⟩
      simp only [EV, Nat.reduceEqDiff, Nat.reduceBEq, Nat.reduceLT, Nat.reduceLeDiff, Nat.reduceAdd, Nat.reduceSub, reduceIte]
      rw [w64 (v * 256) (by omega), w64 _ (by omega)]
      exact ⟨(v * 256 + u, c2), ⟨by simp only; omega, by simp only; omega, hc2.up (by omega)⟩, rfl⟩
    · simp only [EV, Nat.reduceEqDiff, Nat.reduceBEq, Nat.reduceLT, Nat.reduceLeDiff, Nat.reduceAdd, Nat.reduceSub, reduceIte]
      exact ⟨(v, c1), ⟨v0, by simp only; omega, hc1.up (by omega)⟩, rfl⟩
  · rintro ⟨v, c'⟩ ⟨g0, g1, g2⟩
    simp only at g0 g1 g2
    have em : v.tmod k = v % k := Int.tmod_eq_emod_of_nonneg g0
    have e0 := Int.emod_nonneg v (show k ≠ 0 by omega)
    have e1 := Int.emod_lt_of_pos v (show 0 < k by omega)
    simp only [EV, Nat.reduceEqDiff, Nat.reduceBEq, Nat.reduceLT, Nat.reduceLeDiff, Nat.reduceAdd, Nat.reduceSub, reduceIte]
    refine ⟨by omega, ?_⟩
    simp only [EV, Nat.reduceEqDiff, Nat.reduceBEq, Nat.reduceLT, Nat.reduceLeDiff, Nat.reduceAdd, Nat.reduceSub, reduceIte, evRE, retVC, cellV', evR, nfz, nfzs, nfzss, List.contains_nil, List.contains_cons, Bool.or_false, or_true]
    exact ⟨c', rfl, g2, _, rfl, by omega, fun _ => by omega, fun h => by omega⟩

/-- (*loop.example/g00837/spec.l1Cur).one -/
def m96 : MC :=
  (.seq
   (.reg [⟨(some 4), none, .a (.asg (.c (.bool false)))⟩])
   (.seq
    (.reg [⟨(some 5), none, .q (.mov (.t 0))⟩,
      ⟨(some 6), none, .q (.mov (.t 1))⟩,
      ⟨(some 7), none, .a (.call (.fn 106) false [.io (.t 5), .lend (.t 6)])⟩,
      ⟨(some 8), none, .q (.bin false .eql (.t 7) (.c (.int .i64 0)))⟩,
      ⟨(some 4), none, .a (.asg (.t 8))⟩])
    .ret))

theorem p96 (c : Cur) (n k : Int) (hc : c.ok n) (hn : n ≤ 1152921504606846) (hk : k ≤ 1048577) : Draws 96 [.v (.int .i64 k)] c n 2 fun r => ∃ b : Bool, r = .v (.bool b) := by
  refine doesE_intro (mc := m96) (N := 9) (rs := [4]) (fx := [0]) 2 rfl (by decide +kernel) ?_
  simp only [m96, EV, Nat.reduceEqDiff, Nat.reduceBEq, Nat.reduceLT, Nat.reduceLeDiff, Nat.reduceAdd, Nat.reduceSub, reduceIte]
  refine (p106 c n k hc hn hk).call (fun _ => rfl) ?_
  rintro _ c' hc' ⟨v, rfl, _⟩
  simp only [EV, Nat.reduceEqDiff, Nat.reduceBEq, Nat.reduceLT, Nat.reduceLeDiff, Nat.reduceAdd, Nat.reduceSub, reduceIte]
  simp only [EV, Nat.reduceEqDiff, Nat.reduceBEq, Nat.reduceLT, Nat.reduceLeDiff, Nat.reduceAdd, Nat.reduceSub, reduceIte, evRE, retVC, cellV', evR, nfz, nfzs, nfzss, List.contains_nil, List.contains_cons, Bool.or_false, or_true]
  exact ⟨c', rfl, hc', _, rfl⟩

/-- (*loop.example/g00837/spec.l1Cur).of -/
def m97 : MC :=
  (.seq
   (.reg [⟨(some 4), none, .a (.asg (.c (.string ({ data := #[] }))))⟩])
   (.seq
    (.reg [⟨(some 5), none, .q (.mov (.t 1))⟩,
      ⟨(some 6), none, .q (.mov (.t 0))⟩,
      ⟨(some 7), none, .q (.mov (.t 1))⟩,
      ⟨(some 8), none, .q (.len false (.t 7))⟩,
      ⟨(some 9), none, .a (.call (.fn 106) false [.io (.t 6), .lend (.t 8)])⟩,
      ⟨(some 10), none, .q (.iad 1 (.t 5) (.t 9))⟩,
      ⟨(some 11), none, .q (.load false 1 (.t 10))⟩,
      ⟨(some 4), none, .a (.asg (.t 11))⟩])
    .ret))

theorem p97 (c : Cur) (n : Int) (l : List ByteArray) (hc : c.ok n) (hn : n ≤ 1152921504606846) (h0 : 0 < l.length) (hk : (l.length : Int) ≤ 1048577) :
    Draws 97 [.fsl 1 (l.map fun s => [.v (.string s)])] c n 2 fun r => ∃ s ∈ l, r = .v (.string s) := by
  refine doesE_intro (mc := m97) (N := 12) (rs := [4]) (fx := [0]) 2 rfl (by decide +kernel) ?_
  simp only [m97, EV, Nat.reduceEqDiff, Nat.reduceBEq, Nat.reduceLT, Nat.reduceLeDiff, Nat.reduceAdd, Nat.reduceSub, reduceIte]
  refine (p106 c n l.length hc hn hk).call (fun _ => rfl) ?_
  rintro _ c' hc' ⟨v, rfl, v0, v1, v2⟩
  have hv : v < (l.length : Int) := by
    by_cases h : 1 < (l.length : Int)
    · exact v1 h
    · have := v2 (by omega); omega
  have hn' : v.toNat < l.length := by omega
  simp only [v0, hv, nth_map hn', EV, Nat.reduceEqDiff, Nat.reduceBEq, Nat.reduceLT, Nat.reduceLeDiff, Nat.reduceAdd, Nat.reduceSub, reduceIte]
  simp only [EV, Nat.reduceEqDiff, Nat.reduceBEq, Nat.reduceLT, Nat.reduceLeDiff, Nat.reduceAdd, Nat.reduceSub, reduceIte, evRE, retVC, cellV', evR, nfz, nfzs, nfzss, List.contains_nil, List.contains_cons, Bool.or_false, or_true]
  exact ⟨c', rfl, hc', _, List.getElem_mem hn', rfl⟩

/-- loop.example/g00837/spec.l1Most -/
def m107 : MC :=
  (.seq
   (.reg [⟨(some 4), none, .a (.asg (.c (.int .i64 0)))⟩])
   (.seq
    (.seq
     (.reg [⟨(some 5), none, .q (.mov (.t 0))⟩,
       ⟨(some 6), none, .q (.mov (.t 1))⟩,
       ⟨(some 7), none, .q (.bin false .gtr (.t 5) (.t 6))⟩])
     (.cond (.t 7)
      (.seq
       (.reg [⟨(some 8), none, .q (.mov (.t 0))⟩,
         ⟨(some 4), none, .a (.asg (.t 8))⟩])
       .ret)
      .skip))
    (.seq
     (.reg [⟨(some 9), none, .q (.mov (.t 1))⟩,
       ⟨(some 4), none, .a (.asg (.t 9))⟩])
     .ret)))

theorem d107 (a b : Int) : Does Go.Proofs.Try.prog 107 [.v (.int .i64 a), .v (.int .i64 b)] false (.v (.int .i64 (max a b))) [.dead, .dead] := by
  refine does_intro (mc := m107) (N := 10) (rs := [4]) (fx := []) 2 rfl (by decide +kernel) ?_
  simp only [m107, EV, Nat.reduceEqDiff, Nat.reduceBEq, Nat.reduceLT, Nat.reduceLeDiff, Nat.reduceAdd, Nat.reduceSub, reduceIte]
  refine cK_cut (fun h => ?_) (fun h => ?_)
  · have e : max a b = a := by have : b < a := by simpa using h
                               omega
    simp only [EV, Nat.reduceEqDiff, Nat.reduceBEq, Nat.reduceLT, Nat.reduceLeDiff, Nat.reduceAdd, Nat.reduceSub, reduceIte]
    simp only [e, EV, Nat.reduceEqDiff, Nat.reduceBEq, Nat.reduceLT, Nat.reduceLeDiff, Nat.reduceAdd, Nat.reduceSub, reduceIte, evRE, retVC, cellV', evR, nfz, nfzs, nfzss, List.contains_nil, List.contains_cons, Bool.or_false, or_true]
  · have e : max a b = b := by have : ¬ b < a := by simpa using h
                               omega
    simp only [EV, Nat.reduceEqDiff, Nat.reduceBEq, Nat.reduceLT, Nat.reduceLeDiff, Nat.reduceAdd, Nat.reduceSub, reduceIte]
    simp only [e, EV, Nat.reduceEqDiff, Nat.reduceBEq, Nat.reduceLT, Nat.reduceLeDiff, Nat.reduceAdd, Nat.reduceSub, reduceIte, evRE, retVC, cellV', evR, nfz, nfzs, nfzss, List.contains_nil, List.contains_cons, Bool.or_false, or_true]

end Go.AM
