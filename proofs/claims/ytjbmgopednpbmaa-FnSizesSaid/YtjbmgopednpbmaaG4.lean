/- Contracts of functions of the given program, for the law FnSizes: what they return and what they write, under the bounds that each theorem states. -/
import Derived.Test.YtjbmgopednpbmaaG3
import Derived.RangeFuncBox
import Derived.RangeFuncLeaves
import Derived.RangeFuncNested
import Derived.Shelf.Abstract
import Derived.WalkKit
import Derived.OwnWalkIn
import Derived.TacticsInMore
import Derived.LoopNIn
import Derived.LoopIn
import Derived.Deep.RegionHeld3
namespace Go.AM
set_option linter.unusedVariables false
set_option linter.unusedSimpArgs false
/-- loop.example/g00837/spec.DrawIsRound -/
def m58 : MC :=
  (.seq
   (.reg [⟨(some 2), none, .a (.asg (.nils 59 6))⟩,
     ⟨(some 3), none, .a (.asg (.c (.int .i64 0)))⟩])
   (.seq
    (.reg [⟨(some 8), none, .q (.mov (.t 0))⟩,
      ⟨(some 9), none, .a (.build [0] [0] [1] [.s 5 1, .v (.int .i64 0), .v (.int .u64 0)] [.t 8])⟩,
      ⟨(some 10), none, .a (.box 115 (.t 9))⟩,
      ⟨(some 4), none, .a (.asg (.t 10))⟩])
    (.seq
     (.reg [⟨(some 12), none, .q (.mov (.t 4))⟩,
       ⟨(some 13), none, .a (.call (.fn 95) false [.io (.t 12)])⟩,
       ⟨(some 11), none, .a (.asg (.t 13))⟩,
       ⟨(some 14), none, .q (.ext 11 0)⟩,
       ⟨(some 15), none, .q (.ext 11 1)⟩,
       ⟨(some 5), none, .a (.asg (.t 14))⟩,
       ⟨(some 6), none, .a (.asg (.t 15))⟩])
     (.seq
      (.reg [⟨(some 16), none, .q (.mov (.t 4))⟩,
        ⟨(some 17), none, .q (.mov (.t 5))⟩,
        ⟨(some 18), none, .q (.len false (.t 17))⟩,
        ⟨(some 19), none, .a (.call (.fn 107) false [.lend (.c (.int .i64 1)), .lend (.t 18)])⟩,
        ⟨(some 20), none, .a (.call (.fn 106) false [.io (.t 16), .lend (.t 19)])⟩,
        ⟨(some 7), none, .a (.asg (.t 20))⟩])
      (.join [5, 6, 11, 13, 14]
       (.seq
        (.reg [⟨(some 21), none, .q (.mov (.t 7))⟩,
          ⟨(some 22), none, .q (.mov (.t 5))⟩,
          ⟨(some 23), none, .q (.len false (.t 22))⟩,
          ⟨(some 24), none, .q (.bin false .lss (.t 21) (.t 23))⟩,
          ⟨(some 25), none, .q (.mov (.t 24))⟩,
          ⟨(some 26), (some (25, true)), .q (.mov (.t 5))⟩,
          ⟨(some 27), (some (25, true)), .q (.mov (.t 7))⟩,
          ⟨(some 28), (some (25, true)), .q (.iad 6 (.t 26) (.t 27))⟩,
          ⟨(some 29), (some (25, true)), .q (.fad 3 (.t 28))⟩,
          ⟨(some 30), (some (25, true)), .q (.load false 1 (.t 29))⟩,
          ⟨(some 31), (some (25, true)), .q (.len false (.t 30))⟩,
          ⟨(some 32), (some (25, true)), .q (.bin false .gtr (.t 31) (.c (.int .i64 0)))⟩,
          ⟨(some 33), none, .q (.pick (.t 25) (.t 32) (.c (.bool false)))⟩,
          ⟨(some 34), none, .q (.mov (.t 33))⟩,
          ⟨(some 35), (some (34, true)), .q (.mov (.t 4))⟩,
          ⟨(some 36), (some (34, true)), .a (.call (.fn 96) false [.io (.t 35), .lend (.c (.int .i64 3))])⟩,
          ⟨(some 37), none, .q (.pick (.t 34) (.t 36) (.c (.bool false)))⟩])
        (.cond (.t 37)
         (.reg [⟨(some 38), none, .q (.mov (.t 5))⟩,
           ⟨(some 39), none, .q (.mov (.t 7))⟩,
           ⟨(some 40), none, .q (.iad 6 (.t 38) (.t 39))⟩,
           ⟨(some 41), none, .q (.fad 3 (.t 40))⟩,
           ⟨(some 42), none, .q (.load false 1 (.t 41))⟩,
           ⟨(some 43), none, .q (.mov (.t 7))⟩,
           ⟨(some 44), none, .q (.iad 3 (.t 42) (.c (.int .i64 0)))⟩,
           ⟨(some 45), none, .q (.fad 2 (.t 44))⟩,
           ⟨none, none, .a (.store 1 (.t 45) (.t 43))⟩])
         .skip))
       (.seq
        (.reg [⟨(some 46), none, .q (.mov (.t 5))⟩,
          ⟨(some 47), none, .q (.mov (.t 6))⟩,
          ⟨(some 2), none, .a (.asg (.t 46))⟩,
          ⟨(some 3), none, .a (.asg (.t 47))⟩])
        .ret))))))

set_option maxHeartbeats 1000000 in
set_option maxRecDepth 100000 in
theorem p58 (code : List Int) (hl : (code.length : Int) ≤ 1048576) (hb : ∀ b ∈ code, 0 ≤ b ∧ b ≤ 255) :
    DoesE Go.Proofs.Try.prog 58 [.fsl 1 (code.map bv)] true fun r o => o = [.dead] ∧ ∃ (l : List Ty) (n : Int), r = .tup [.usl 59 6 (l.map Ty.o), .v (.int .i64 n)] ∧ l.length ≤ 9 ∧ ∀ t ∈ l, t.sm := by
  have hc : Cur.ok ⟨code, 0, 0⟩ 0 := ⟨hl, hb, Int.le_refl _, Int.le_refl _⟩
  have pc := p95 ⟨code, 0, 0⟩ 0 hc (by omega)
  refine doesE_intro (mc := m58) (N := 48) (rs := [2, 3]) (fx := []) 1 rfl (by decide +kernel) ?_
  simp only [m58, EV, Nat.reduceEqDiff, Nat.reduceBEq, Nat.reduceLT, Nat.reduceLeDiff, Nat.reduceAdd, Nat.reduceSub, reduceIte]
  refine pc.call (fun _ => rfl) ?_
  rintro _ c1 hc1 ⟨l, x, rfl, l9, hs, x0, x1⟩
  simp only [pbeq, EV, Nat.reduceEqDiff, Nat.reduceBEq, Nat.reduceLT, Nat.reduceLeDiff, Nat.reduceAdd, Nat.reduceSub, reduceIte]
  refine callK_i (d107 1 (l.length : Int)) ?_
  simp only [pbeq, EV, Nat.reduceEqDiff, Nat.reduceBEq, Nat.reduceLT, Nat.reduceLeDiff, Nat.reduceAdd, Nat.reduceSub, reduceIte]
  refine (p106 c1 _ (max 1 (l.length : Int)) hc1 (by omega) (by omega)).call (fun _ => rfl) ?_
  rintro _ c2 hc2 ⟨u, rfl, u0, u1, u2⟩
  simp only [pbeq, EV, Nat.reduceEqDiff, Nat.reduceBEq, Nat.reduceLT, Nat.reduceLeDiff, Nat.reduceAdd, Nat.reduceSub, reduceIte]
  refine awp_join (fun l' : List Ty => l'.length ≤ 9 ∧ ∀ t ∈ l', t.sm) (fun l' => stl [(5, .usl 59 6 (l'.map Ty.o)), (6, .v (.int .i64 x)), (11, .tup [.dead, .v (.int .i64 x)]), (13, .dead), (14, .dead)]) ?_ ?_
  · simp only [EV, Nat.reduceEqDiff, Nat.reduceBEq, Nat.reduceLT, Nat.reduceLeDiff, Nat.reduceAdd, Nat.reduceSub, reduceIte]
    rcases e1 : decide (u < (l.length : Int)) with _ | _
    · simp only [EV, Nat.reduceEqDiff, Nat.reduceBEq, Nat.reduceLT, Nat.reduceLeDiff, Nat.reduceAdd, Nat.reduceSub, reduceIte]
      refine ⟨l, ⟨l9, hs⟩, ?_⟩
      first
        | rfl
        | trivial
    have h2 : u < (l.length : Int) := by simpa using e1
    have h1 : u.toNat < l.length := by omega
    simp only [u0, h1, h2, nth_map h1, Ty.o, EV, Nat.reduceEqDiff, Nat.reduceBEq, Nat.reduceLT, Nat.reduceLeDiff, Nat.reduceAdd, Nat.reduceSub, reduceIte]
    rcases e2 : decide (0 < (l[u.toNat].fields.length : Int)) with _ | _
    · simp only [EV, Nat.reduceEqDiff, Nat.reduceBEq, Nat.reduceLT, Nat.reduceLeDiff, Nat.reduceAdd, Nat.reduceSub, reduceIte]
      refine ⟨l, ⟨l9, hs⟩, ?_⟩
      first
        | rfl
        | trivial
    have h3 : 0 < l[u.toNat].fields.length := by have : 0 < (l[u.toNat].fields.length : Int) := by simpa using e2
                                                 omega
    simp only [EV, Nat.reduceEqDiff, Nat.reduceBEq, Nat.reduceLT, Nat.reduceLeDiff, Nat.reduceAdd, Nat.reduceSub, reduceIte]
    refine (p96 c2 _ 3 hc2 (by omega) (by omega)).call (fun _ => rfl) ?_
    rintro _ c3 hc3 ⟨b, rfl⟩
    simp only [pbeq, EV, Nat.reduceEqDiff, Nat.reduceBEq, Nat.reduceLT, Nat.reduceLeDiff, Nat.reduceAdd, Nat.reduceSub, reduceIte]
    cases b
    · simp only [EV, Nat.reduceEqDiff, Nat.reduceBEq, Nat.reduceLT, Nat.reduceLeDiff, Nat.reduceAdd, Nat.reduceSub, reduceIte]
      refine ⟨l, ⟨l9, hs⟩, ?_⟩
      first
        | rfl
        | trivial
    have z0 : (l.map Ty.o)[u.toNat]? = some l[u.toNat].o := by rw [List.getElem?_map, List.getElem?_eq_getElem h1]; rfl
    have h4 : u.toNat < (l.map Ty.o).length := by simp; exact h1
    simp only [z0, u0, h1, h2, h3, h4, nth_map h1, Ty.o, EV, Nat.reduceEqDiff, Nat.reduceBEq, Nat.reduceLT, Nat.reduceLeDiff, Nat.reduceAdd, Nat.reduceSub, reduceIte]
    have hk := hs _ (List.getElem_mem h1)
    obtain ⟨a, ha, he⟩ := set_ty l h1 ⟨l[u.toNat].kind, l[u.toNat].long, l[u.toNat].base, l[u.toNat].fields.set 0 ⟨l[u.toNat].fields[0].name, l[u.toNat].fields[0].mark, u⟩, l[u.toNat].owner, l[u.toNat].name⟩ (by
      unfold Ty.sm at hk ⊢
      refine ⟨trivial, trivial, trivial, ⟨by simp only [List.length_set]; exact hk.2.2.2.1.1, fun y hy => ?_⟩, hk.2.2.2.2⟩
      rcases List.mem_or_eq_of_mem_set hy with hy | rfl
      · exact hk.2.2.2.1.2 y hy
      · have := hk.2.2.2.1.2 _ (List.getElem_mem h3)
        unfold Fd.sm at this ⊢
        exact this) hs l9
    refine ⟨by omega, by omega, a, ha, ?_⟩
    rw [← he, modify_get z0, nth_map h3]
    have e5 : (List.map Fd.o l[u.toNat].fields).set 0 (List.take 2 (Fd.o l[u.toNat].fields[0]) ++ AV.v (Value.int IntKind.i64 u) :: List.drop 3 (Fd.o l[u.toNat].fields[0])) = List.map Fd.o (l[u.toNat].fields.set 0 ⟨l[u.toNat].fields[0].name, l[u.toNat].fields[0].mark, u⟩) := by
      rw [List.map_set]; rfl
    rw [e5]
    rfl
  · rintro l' ⟨l9', hs'⟩
    simp only [pbeq, EV, Nat.reduceEqDiff, Nat.reduceBEq, Nat.reduceLT, Nat.reduceLeDiff, Nat.reduceAdd, Nat.reduceSub, reduceIte]
    simp only [Ty.nfz, EV, Nat.reduceEqDiff, Nat.reduceBEq, Nat.reduceLT, Nat.reduceLeDiff, Nat.reduceAdd, Nat.reduceSub, reduceIte, evRE, retVC, cellV', evR, nfz, nfzs, nfzss, List.contains_nil, List.contains_cons, Bool.or_false, or_true]
    exact ⟨l', x, rfl, l9', hs'⟩

end Go.AM
namespace Go.AM
set_option linter.unusedVariables false
set_option linter.unusedSimpArgs false
/-- loop.example/g00837/laws.toIntS -/
def m28 : MC :=
  (.seq
   (.reg [⟨(some 2), none, .a (.asg (.nils 3 1))⟩])
   (.seq
    (.reg [⟨(some 5), none, .q (.mov (.t 0))⟩,
      ⟨(some 6), none, .q (.len false (.t 5))⟩,
      ⟨(some 7), none, .a (.mks 3 1 8 [.v (.int .i64 0)] (.t 6) (.t 6))⟩,
      ⟨(some 3), none, .a (.asg (.t 7))⟩])
    (.seq
     (.seq
      (.reg [⟨(some 4), none, .a (.asg (.c (.int .i64 0)))⟩])
      (.block 0
       (.loop [0, 3, 4, 7]
        (.seq
         (.seq
          (.reg [⟨(some 8), none, .q (.mov (.t 4))⟩,
            ⟨(some 9), none, .q (.mov (.t 0))⟩,
            ⟨(some 10), none, .q (.len false (.t 9))⟩,
            ⟨(some 11), none, .q (.bin false .lss (.t 8) (.t 10))⟩])
          (.cond (.t 11)
           .skip
           (.exit 0)))
         (.seq
          (.block 1
           (.reg [⟨(some 14), none, .q (.mov (.t 3))⟩,
             ⟨(some 15), none, .q (.mov (.t 4))⟩,
             ⟨(some 16), none, .q (.mov (.t 0))⟩,
             ⟨(some 17), none, .q (.mov (.t 4))⟩,
             ⟨(some 18), none, .q (.iad 1 (.t 16) (.t 17))⟩,
             ⟨(some 19), none, .q (.load false 1 (.t 18))⟩,
             ⟨(some 20), none, .q (.iad 1 (.t 14) (.t 15))⟩,
             ⟨none, none, .a (.store 1 (.t 20) (.t 19))⟩]))
          (.reg [⟨(some 12), none, .q (.mov (.t 4))⟩,
            ⟨(some 13), none, .q (.bin false .add (.t 12) (.c (.int .i64 1)))⟩,
            ⟨(some 4), none, .a (.asg (.t 13))⟩]))))))
     (.seq
      (.reg [⟨(some 21), none, .q (.mov (.t 3))⟩,
        ⟨(some 2), none, .a (.asg (.t 21))⟩])
      .ret))))

theorem d28 (l : List Int) (hl : (l.length : Int) ≤ 1048576) : Does Go.Proofs.Try.prog 28 [.fsl 1 (l.map iv)] false (.usl 3 1 (l.map iv)) [.dead] := by
  refine does_intro (mc := m28) (N := 22) (rs := [2]) (fx := []) 1 rfl (by decide +kernel) ?_
  simp only [m28, EV, Nat.reduceEqDiff, Nat.reduceBEq, Nat.reduceLT, Nat.reduceLeDiff, Nat.reduceAdd, Nat.reduceSub, reduceIte]
  refine ⟨by omega, by omega, ?_⟩
  refine awp_loop (fun i : Nat => i ≤ l.length) (fun i => stl [(0, .fsl 1 (l.map iv)), (3, .usl 3 1 ((l.take i).map iv ++ List.replicate (l.length - i) [.v (.int .i64 0)])), (4, .v (.int .i64 (i : Int))), (7, .dead)]) (fun i => l.length - i) 0 (Nat.zero_le _) ?_ ?_
  · simp only [EV, Nat.reduceEqDiff, Nat.reduceBEq, Nat.reduceLT, Nat.reduceLeDiff, Nat.reduceAdd, Nat.reduceSub, reduceIte]
    rfl
  · intro i hi
    simp only [EV, Nat.reduceEqDiff, Nat.reduceBEq, Nat.reduceLT, Nat.reduceLeDiff, Nat.reduceAdd, Nat.reduceSub, reduceIte]
    refine cK_cut (fun h => ?_) (fun h => ?_)
    · have h1 : i < l.length := by simpa using h
      have h2 : (i : Int) < (l.length : Int) := by omega
      have h3 : ((l.take i).map iv ++ List.replicate (l.length - i) [AV.v (.int .i64 0)]).length = l.length := by simp; omega
      have ei : iv l[i] = [.v (.int .i64 l[i])] := rfl
      simp only [nth_map h1, ei, h1, h2, h3, EV, Nat.reduceEqDiff, Nat.reduceBEq, Nat.reduceLT, Nat.reduceLeDiff, Nat.reduceAdd, Nat.reduceSub, reduceIte]
      try refine ⟨h1, ?_⟩
      refine ⟨i + 1, by omega, by omega, ?_⟩
      have ef := fill_set (g := iv) (l := l) (z := [AV.v (.int .i64 0)]) h1
      rw [fill_nth h1, w64 _ (by omega)]
      rw [← ef]
      rfl
    · have h1 : i = l.length := by have : ¬ (i : Int) < l.length := by simpa using h
                                   omega
      subst h1
      simp only [EV, Nat.reduceEqDiff, Nat.reduceBEq, Nat.reduceLT, Nat.reduceLeDiff, Nat.reduceAdd, Nat.reduceSub, reduceIte]
      simp only [Nat.sub_self, List.replicate_zero, iv_nfz, EV, Nat.reduceEqDiff, Nat.reduceBEq, Nat.reduceLT, Nat.reduceLeDiff, Nat.reduceAdd, Nat.reduceSub, reduceIte, evRE, retVC, cellV', evR, nfz, nfzs, nfzss, List.contains_nil, List.contains_cons, Bool.or_false, or_true]

/-- loop.example/g00837/laws.eqIntS -/
def m30 : MC :=
  (.seq
   (.reg [⟨(some 4), none, .a (.asg (.c (.bool false)))⟩])
   (.seq
    (.seq
     (.reg [⟨(some 6), none, .q (.mov (.t 0))⟩,
       ⟨(some 7), none, .q (.len false (.t 6))⟩,
       ⟨(some 8), none, .q (.mov (.t 1))⟩,
       ⟨(some 9), none, .q (.len false (.t 8))⟩,
       ⟨(some 10), none, .q (.bin false .neq (.t 7) (.t 9))⟩])
     (.cond (.t 10)
      (.seq
       (.reg [⟨(some 4), none, .a (.asg (.c (.bool false)))⟩])
       .ret)
      .skip))
    (.seq
     (.seq
      (.reg [⟨(some 5), none, .a (.asg (.c (.int .i64 0)))⟩])
      (.block 0
       (.loop [0, 1, 5]
        (.seq
         (.seq
          (.reg [⟨(some 11), none, .q (.mov (.t 5))⟩,
            ⟨(some 12), none, .q (.mov (.t 0))⟩,
            ⟨(some 13), none, .q (.len false (.t 12))⟩,
            ⟨(some 14), none, .q (.bin false .lss (.t 11) (.t 13))⟩])
          (.cond (.t 14)
           .skip
           (.exit 0)))
         (.seq
          (.block 1
           (.seq
            (.dreg [⟨(some 17), none, .q (.mov (.t 0))⟩,
              ⟨(some 18), none, .q (.mov (.t 5))⟩,
              ⟨(some 19), none, .q (.iad 1 (.t 17) (.t 18))⟩,
              ⟨(some 20), none, .q (.load false 1 (.t 19))⟩,
              ⟨(some 21), none, .q (.mov (.t 1))⟩,
              ⟨(some 22), none, .q (.mov (.t 5))⟩,
              ⟨(some 23), none, .q (.iad 1 (.t 21) (.t 22))⟩,
              ⟨(some 24), none, .q (.load false 1 (.t 23))⟩,
              ⟨(some 25), none, .q (.bin false .neq (.t 20) (.t 24))⟩])
            (.cond (.t 25)
             (.seq
              (.reg [⟨(some 4), none, .a (.asg (.c (.bool false)))⟩])
              .ret)
             .skip)))
          (.reg [⟨(some 15), none, .q (.mov (.t 5))⟩,
            ⟨(some 16), none, .q (.bin false .add (.t 15) (.c (.int .i64 1)))⟩,
            ⟨(some 5), none, .a (.asg (.t 16))⟩]))))))
     (.seq
      (.reg [⟨(some 4), none, .a (.asg (.c (.bool true)))⟩])
      .ret))))

theorem d30 (l : List Int) (hl : (l.length : Int) ≤ 1048576) : Does Go.Proofs.Try.prog 30 [.fsl 1 (l.map iv), .fsl 1 (l.map iv)] false (.v (.bool true)) [.dead, .dead] := by
  refine does_intro (mc := m30) (N := 26) (rs := [4]) (fx := []) 2 rfl (by decide +kernel) ?_
  simp only [m30, EV, Nat.reduceEqDiff, Nat.reduceBEq, Nat.reduceLT, Nat.reduceLeDiff, Nat.reduceAdd, Nat.reduceSub, reduceIte]
  refine awp_loop (fun i : Nat => i ≤ l.length) (fun i => stl [(0, .fsl 1 (l.map iv)), (1, .fsl 1 (l.map iv)), (5, .v (.int .i64 (i : Int)))]) (fun i => l.length - i) 0 (Nat.zero_le _) ?_ ?_
  · simp only [EV, Nat.reduceEqDiff, Nat.reduceBEq, Nat.reduceLT, Nat.reduceLeDiff, Nat.reduceAdd, Nat.reduceSub, reduceIte]
    rfl
  · intro i hi
    simp only [EV, Nat.reduceEqDiff, Nat.reduceBEq, Nat.reduceLT, Nat.reduceLeDiff, Nat.reduceAdd, Nat.reduceSub, reduceIte]
    refine cK_cut (fun h => ?_) (fun h => ?_)
    · have h1 : i < l.length := by simpa using h
      have h2 : (i : Int) < (l.length : Int) := by omega
      have ei : iv l[i] = [.v (.int .i64 l[i])] := rfl
      simp only [nth_map h1, ei, h2, EV, Nat.reduceEqDiff, Nat.reduceBEq, Nat.reduceLT, Nat.reduceLeDiff, Nat.reduceAdd, Nat.reduceSub, reduceIte]
      rw [w64 _ (by omega)]
      exact ⟨i + 1, by omega, by omega, rfl⟩
    · have h1 : i = l.length := by have : ¬ (i : Int) < l.length := by simpa using h
                                   omega
      simp only [EV, Nat.reduceEqDiff, Nat.reduceBEq, Nat.reduceLT, Nat.reduceLeDiff, Nat.reduceAdd, Nat.reduceSub, reduceIte]
      simp only [EV, Nat.reduceEqDiff, Nat.reduceBEq, Nat.reduceLT, Nat.reduceLeDiff, Nat.reduceAdd, Nat.reduceSub, reduceIte, evRE, retVC, cellV', evR, nfz, nfzs, nfzss, List.contains_nil, List.contains_cons, Bool.or_false, or_true]

def upI : Nat → Int → List Int
  | 0, _ => []
  | n + 1, k => k :: upI n (k + 1)

theorem upI_len : ∀ (n : Nat) (k : Int), (upI n k).length = n
  | 0, _ => rfl
  | n + 1, k => by simp [upI, upI_len n]

/-- loop.example/g00837/laws.markIntS -/
def m32 : MC :=
  (.seq
   (.reg [⟨(some 4), none, .a (.asg (.c (.int .i64 0)))⟩])
   (.seq
    (.seq
     (.reg [⟨(some 5), none, .a (.asg (.c (.int .i64 0)))⟩])
     (.block 0
      (.loop [0, 1, 5]
       (.seq
        (.seq
         (.reg [⟨(some 6), none, .q (.mov (.t 5))⟩,
           ⟨(some 7), none, .q (.mov (.t 0))⟩,
           ⟨(some 8), none, .q (.len false (.t 7))⟩,
           ⟨(some 9), none, .q (.bin false .lss (.t 6) (.t 8))⟩])
         (.cond (.t 9)
          .skip
          (.exit 0)))
        (.seq
         (.block 1
          (.seq
           (.reg [⟨(some 12), none, .q (.mov (.t 0))⟩,
             ⟨(some 13), none, .q (.mov (.t 5))⟩,
             ⟨(some 14), none, .q (.mov (.t 1))⟩,
             ⟨(some 15), none, .q (.iad 1 (.t 12) (.t 13))⟩,
             ⟨none, none, .a (.store 1 (.t 15) (.t 14))⟩])
           (.reg [⟨(some 16), none, .q (.mov (.t 1))⟩,
             ⟨(some 17), none, .q (.bin false .add (.t 16) (.c (.int .i64 1)))⟩,
             ⟨(some 1), none, .a (.asg (.t 17))⟩])))
         (.reg [⟨(some 10), none, .q (.mov (.t 5))⟩,
           ⟨(some 11), none, .q (.bin false .add (.t 10) (.c (.int .i64 1)))⟩,
           ⟨(some 5), none, .a (.asg (.t 11))⟩]))))))
    (.seq
     (.reg [⟨(some 18), none, .q (.mov (.t 1))⟩,
       ⟨(some 4), none, .a (.asg (.t 18))⟩])
     .ret)))

theorem d32 (l : List Int) (k : Int) (h0 : 0 ≤ k) (h1 : k + l.length ≤ 4611686018427387904) :
    Does Go.Proofs.Try.prog 32 [.usl 3 1 (l.map iv), .v (.int .i64 k)] false (.v (.int .i64 (k + l.length))) [.usl 3 1 ((upI l.length k).map iv), .dead] := by
  refine does_intro (mc := m32) (N := 19) (rs := [4]) (fx := [0]) 2 rfl (by decide +kernel) ?_
  simp only [m32, EV, Nat.reduceEqDiff, Nat.reduceBEq, Nat.reduceLT, Nat.reduceLeDiff, Nat.reduceAdd, Nat.reduceSub, reduceIte]
  refine awp_loop (fun p : List Int × List Int × Int => p.1 ++ upI p.2.1.length p.2.2 = upI l.length k ∧ p.2.2 + p.2.1.length = k + l.length ∧ 0 ≤ p.2.2 ∧ p.1.length + p.2.1.length = l.length)
    (fun p => stl [(0, .usl 3 1 ((p.1 ++ p.2.1).map iv)), (1, .v (.int .i64 p.2.2)), (5, .v (.int .i64 (p.1.length : Int)))]) (fun p => p.2.1.length) ([], l, k) ⟨rfl, rfl, h0, by simp⟩ ?_ ?_
  · simp only [EV, Nat.reduceEqDiff, Nat.reduceBEq, Nat.reduceLT, Nat.reduceLeDiff, Nat.reduceAdd, Nat.reduceSub, reduceIte]
    rfl
  · rintro ⟨pre, post, n⟩ ⟨p0, p1, p2, p3⟩
    cases post with
    | nil =>
      simp only [EV, Nat.reduceEqDiff, Nat.reduceBEq, Nat.reduceLT, Nat.reduceLeDiff, Nat.reduceAdd, Nat.reduceSub, reduceIte]
      refine cK_cut (fun h => ?_) (fun h => ?_)
      · simp at h
      · simp only [EV, Nat.reduceEqDiff, Nat.reduceBEq, Nat.reduceLT, Nat.reduceLeDiff, Nat.reduceAdd, Nat.reduceSub, reduceIte]
        simp only [List.append_nil, upI, List.length_nil] at p0 p1
        have e : n = k + l.length := by simp at p1; omega
        simp only [p0, ← e, EV, Nat.reduceEqDiff, Nat.reduceBEq, Nat.reduceLT, Nat.reduceLeDiff, Nat.reduceAdd, Nat.reduceSub, reduceIte, evRE, retVC, cellV', evR, nfz, nfzs, nfzss, List.contains_nil, List.contains_cons, Bool.or_false, or_true]
    | cons f post =>
      simp only [EV, Nat.reduceEqDiff, Nat.reduceBEq, Nat.reduceLT, Nat.reduceLeDiff, Nat.reduceAdd, Nat.reduceSub, reduceIte]
      refine cK_cut (fun h => ?_) (fun h => ?_)
      rotate_left
      · simp at h; omega
      simp only at p0 p1 p2 p3
      simp only [List.length_cons] at p1 p3
      have h3 : (pre.length : Int) < ((pre ++ f :: post).length : Int) := by simp; omega
      have h4 : pre.length < ((pre ++ f :: post).map iv).length := by simp
      have e1 : nth ((pre ++ f :: post).map iv) pre.length = [.v (.int .i64 f)] := nth_mid
      have e2 := set_mid (g := iv) (pre := pre) (post := post) (t := f) n
      generalize hR : (pre ++ f :: post).map iv = R at h4 e1 e2 ⊢
      have hRl : R.length = l.length := by rw [← hR]; simp; omega
      have h5 : (pre.length : Int) < (R.length : Int) := by omega
      have w0 := w64 ((pre.length : Int) + 1) (by omega)
      have w1 := w64 (n + 1) (by omega)
      simp only [h4, h5, e1, nth_set h4, List.getElem?_set_self h4, modify_set, w0, w1, EV, Nat.reduceEqDiff, Nat.reduceBEq, Nat.reduceLT, Nat.reduceLeDiff, Nat.reduceAdd, Nat.reduceSub, reduceIte]
      refine ⟨(pre ++ [n], post, n + 1), ⟨?_, ?_, ?_, ?_⟩, ?_, ?_⟩
      · rw [← p0]; simp [upI]
      · simp only; omega
      · simp only; omega
      · simp only [List.length_append, List.length_cons, List.length_nil]; omega
      · simp only; omega
      · simp only [iv] at e2
        simp only [← e2, List.length_append, List.length_cons, List.length_nil]
        rfl

/-- loop.example/g00837/laws.heldIntS -/
def m33 : MC :=
  (.seq
   (.reg [⟨(some 4), none, .a (.asg (.c (.int .i64 0)))⟩])
   (.seq
    (.seq
     (.reg [⟨(some 5), none, .a (.asg (.c (.int .i64 0)))⟩])
     (.block 0
      (.loop [0, 1, 5]
       (.seq
        (.seq
         (.reg [⟨(some 6), none, .q (.mov (.t 5))⟩,
           ⟨(some 7), none, .q (.mov (.t 0))⟩,
           ⟨(some 8), none, .q (.len false (.t 7))⟩,
           ⟨(some 9), none, .q (.bin false .lss (.t 6) (.t 8))⟩])
         (.cond (.t 9)
          .skip
          (.exit 0)))
        (.seq
         (.block 1
          (.seq
           (.seq
            (.reg [⟨(some 12), none, .q (.mov (.t 0))⟩,
              ⟨(some 13), none, .q (.mov (.t 5))⟩,
              ⟨(some 14), none, .q (.iad 1 (.t 12) (.t 13))⟩,
              ⟨(some 15), none, .q (.load false 1 (.t 14))⟩,
              ⟨(some 16), none, .q (.mov (.t 1))⟩,
              ⟨(some 17), none, .q (.bin false .neq (.t 15) (.t 16))⟩])
            (.cond (.t 17)
             (.seq
              (.reg [⟨(some 4), none, .a (.asg (.c (.int .i64 (-1))))⟩])
              .ret)
             .skip))
           (.reg [⟨(some 18), none, .q (.mov (.t 1))⟩,
             ⟨(some 19), none, .q (.bin false .add (.t 18) (.c (.int .i64 1)))⟩,
             ⟨(some 1), none, .a (.asg (.t 19))⟩])))
         (.reg [⟨(some 10), none, .q (.mov (.t 5))⟩,
           ⟨(some 11), none, .q (.bin false .add (.t 10) (.c (.int .i64 1)))⟩,
           ⟨(some 5), none, .a (.asg (.t 11))⟩]))))))
    (.seq
     (.reg [⟨(some 20), none, .q (.mov (.t 1))⟩,
       ⟨(some 4), none, .a (.asg (.t 20))⟩])
     .ret)))

theorem d33 (m : Nat) (k : Int) (h0 : 0 ≤ k) (h1 : k + m ≤ 4611686018427387904) :
    Does Go.Proofs.Try.prog 33 [.fsl 1 ((upI m k).map iv), .v (.int .i64 k)] false (.v (.int .i64 (k + m))) [.dead, .dead] := by
  have hl : (upI m k).length = m := upI_len m k
  generalize hM0 : upI m k = M at hl ⊢
  refine does_intro (mc := m33) (N := 21) (rs := [4]) (fx := []) 2 rfl (by decide +kernel) ?_
  simp only [m33, EV, Nat.reduceEqDiff, Nat.reduceBEq, Nat.reduceLT, Nat.reduceLeDiff, Nat.reduceAdd, Nat.reduceSub, reduceIte]
  refine awp_loop (fun p : List Int × Nat × Int => M = p.1 ++ upI p.2.1 p.2.2 ∧ p.2.2 + p.2.1 = k + m ∧ 0 ≤ p.2.2 ∧ p.1.length + p.2.1 = m)
    (fun p => stl [(0, .fsl 1 (M.map iv)), (1, .v (.int .i64 p.2.2)), (5, .v (.int .i64 (p.1.length : Int)))]) (fun p => p.2.1) ([], m, k) ⟨by rw [← hM0]; rfl, rfl, h0, by simp⟩ ?_ ?_
  · simp only [EV, Nat.reduceEqDiff, Nat.reduceBEq, Nat.reduceLT, Nat.reduceLeDiff, Nat.reduceAdd, Nat.reduceSub, reduceIte]
    rfl
  · rintro ⟨pre, post, n⟩ ⟨p0, p1, p2, p3⟩
    simp only at p0 p1 p2 p3
    cases post with
    | zero =>
      simp only [EV, Nat.reduceEqDiff, Nat.reduceBEq, Nat.reduceLT, Nat.reduceLeDiff, Nat.reduceAdd, Nat.reduceSub, reduceIte]
      refine cK_cut (fun h => ?_) (fun h => ?_)
      · simp at h p3; omega
      · simp only [EV, Nat.reduceEqDiff, Nat.reduceBEq, Nat.reduceLT, Nat.reduceLeDiff, Nat.reduceAdd, Nat.reduceSub, reduceIte]
        have e : n = k + m := by simp at p1; omega
        simp only [← e, EV, Nat.reduceEqDiff, Nat.reduceBEq, Nat.reduceLT, Nat.reduceLeDiff, Nat.reduceAdd, Nat.reduceSub, reduceIte, evRE, retVC, cellV', evR, nfz, nfzs, nfzss, List.contains_nil, List.contains_cons, Bool.or_false, or_true]
    | succ post =>
      simp only [EV, Nat.reduceEqDiff, Nat.reduceBEq, Nat.reduceLT, Nat.reduceLeDiff, Nat.reduceAdd, Nat.reduceSub, reduceIte]
      refine cK_cut (fun h => ?_) (fun h => ?_)
      rotate_left
      · simp at h; omega
      have h5 : (pre.length : Int) < (M.length : Int) := by omega
      have e1 : nth (M.map iv) pre.length = [.v (.int .i64 n)] := by rw [p0]; exact nth_mid
      have w0 := w64 ((pre.length : Int) + 1) (by omega)
      have w1 := w64 (n + 1) (by omega)
      simp only [h5, e1, w0, w1, bne_self_eq_false, EV, Nat.reduceEqDiff, Nat.reduceBEq, Nat.reduceLT, Nat.reduceLeDiff, Nat.reduceAdd, Nat.reduceSub, reduceIte]
      refine ⟨(pre ++ [n], post, n + 1), ⟨?_, ?_, ?_, ?_⟩, ?_, ?_⟩
      · rw [p0]; simp [upI]
      · simp only; omega
      · simp only; omega
      · simp only [List.length_append, List.length_cons, List.length_nil]; omega
      · simp only; omega
      · simp only [List.length_append, List.length_cons, List.length_nil]
        rfl

end Go.AM
namespace Go.AM
set_option linter.unusedVariables false
set_option linter.unusedSimpArgs false
/-- loop.example/g00837/laws.markText -/
def m89 : MC :=
  (.seq
   (.reg [⟨(some 2), none, .a (.asg (.c (.string ({ data := #[] }))))⟩])
   (.seq
    (.seq
     (.reg [⟨(some 4), none, .q (.mov (.t 0))⟩,
       ⟨(some 5), none, .q (.bin false .leq (.t 4) (.c (.int .i64 0)))⟩])
     (.cond (.t 5)
      (.seq
       (.reg [⟨(some 2), none, .a (.asg (.c (.string ({ data := #[109, 48] }))))⟩])
       .ret)
      .skip))
    (.seq
     (.reg [⟨(some 3), none, .a (.asg (.c (.string ({ data := #[] }))))⟩])
     (.seq
      (.block 0
       (.loop [0, 3]
        (.seq
         (.seq
          (.reg [⟨(some 6), none, .q (.mov (.t 0))⟩,
            ⟨(some 7), none, .q (.bin false .gtr (.t 6) (.c (.int .i64 0)))⟩])
          (.cond (.t 7)
           .skip
           (.exit 0)))
         (.block 1
          (.seq
           (.reg [⟨(some 8), none, .q (.mov (.t 0))⟩,
             ⟨(some 9), none, .q (.bin false .rem (.t 8) (.c (.int .i64 10)))⟩,
             ⟨(some 10), none, .q (.bin false .add (.c (.int .i64 48)) (.t 9))⟩,
             ⟨(some 11), none, .q (.conv .u8 (.t 10))⟩,
             ⟨(some 12), none, .a (.bsl 5 1 [.t 11])⟩,
             ⟨(some 13), none, .q (.b2s (.t 12))⟩,
             ⟨(some 14), none, .q (.mov (.t 3))⟩,
             ⟨(some 15), none, .q (.bin false .add (.t 13) (.t 14))⟩,
             ⟨(some 3), none, .a (.asg (.t 15))⟩])
           (.reg [⟨(some 16), none, .q (.mov (.t 0))⟩,
             ⟨(some 17), none, .q (.bin false .quo (.t 16) (.c (.int .i64 10)))⟩,
             ⟨(some 0), none, .a (.asg (.t 17))⟩]))))))
      (.seq
       (.reg [⟨(some 18), none, .q (.mov (.t 3))⟩,
         ⟨(some 19), none, .q (.bin false .add (.c (.string ({ data := #[109] }))) (.t 18))⟩,
         ⟨(some 2), none, .a (.asg (.t 19))⟩])
       .ret)))))

def mtL (k : Int) (s : ByteArray) : ByteArray := if h : 0 < k then mtL (k.tdiv 10) (strA [IntKind.u8.wrap (48 + k.tmod 10)] ++ s) else s
  termination_by k.toNat
  decreasing_by
  have : k.tdiv 10 = k / 10 := Int.tdiv_eq_ediv_of_nonneg (by omega)
  rw [this]; omega

def mt (k : Int) : ByteArray := if k ≤ 0 then ⟨#[109, 48]⟩ else ⟨#[109]⟩ ++ mtL k ⟨#[]⟩

theorem d89 (k : Int) (h0 : -9223372036854775808 ≤ k) (h1 : k ≤ 4611686018427387904) : Does Go.Proofs.Try.prog 89 [.v (.int .i64 k)] false (.v (.string (mt k))) [.dead] := by
  refine does_intro (mc := m89) (N := 20) (rs := [2]) (fx := []) 1 rfl (by decide +kernel) ?_
  simp only [m89, EV, Nat.reduceEqDiff, Nat.reduceBEq, Nat.reduceLT, Nat.reduceLeDiff, Nat.reduceAdd, Nat.reduceSub, reduceIte]
  refine cK_cut (fun h => ?_) (fun h => ?_)
  · have h2 : k ≤ 0 := by simpa using h
    simp only [EV, Nat.reduceEqDiff, Nat.reduceBEq, Nat.reduceLT, Nat.reduceLeDiff, Nat.reduceAdd, Nat.reduceSub, reduceIte]
    simp only [mt, h2, EV, Nat.reduceEqDiff, Nat.reduceBEq, Nat.reduceLT, Nat.reduceLeDiff, Nat.reduceAdd, Nat.reduceSub, reduceIte, evRE, retVC, cellV', evR, nfz, nfzs, nfzss, List.contains_nil, List.contains_cons, Bool.or_false, or_true]
  · have h2 : ¬ k ≤ 0 := by simpa using h
    simp only [EV, Nat.reduceEqDiff, Nat.reduceBEq, Nat.reduceLT, Nat.reduceLeDiff, Nat.reduceAdd, Nat.reduceSub, reduceIte]
    refine awp_loop (fun p : Int × ByteArray => 0 ≤ p.1 ∧ p.1 ≤ k ∧ (p.2.size : Int) + p.1 ≤ k ∧ mtL p.1 p.2 = mtL k ⟨#[]⟩) (fun p => stl [(0, .v (.int .i64 p.1)), (3, .v (.string p.2))]) (fun p => p.1.toNat) (k, ⟨#[]⟩) ⟨by omega, by omega, by show (((⟨#[]⟩ : ByteArray).size : Nat) : Int) + k ≤ k; simp [ByteArray.size], rfl⟩ ?_ ?_
    · simp only [EV, Nat.reduceEqDiff, Nat.reduceBEq, Nat.reduceLT, Nat.reduceLeDiff, Nat.reduceAdd, Nat.reduceSub, reduceIte]
    · rintro ⟨n, s⟩ ⟨p0, p1, p2, p3⟩
      simp only [EV, Nat.reduceEqDiff, Nat.reduceBEq, Nat.reduceLT, Nat.reduceLeDiff, Nat.reduceAdd, Nat.reduceSub, reduceIte]
      refine cK_cut (fun h => ?_) (fun h => ?_)
      · have h3 : 0 < n := by simpa using h
        have ed : n.tdiv 10 = n / 10 := Int.tdiv_eq_ediv_of_nonneg (by omega)
        have em : n.tmod 10 = n % 10 := Int.tmod_eq_emod_of_nonneg (by omega)
        have w1 : IntKind.i64.wrap (48 + n.tmod 10) = 48 + n.tmod 10 := w64 _ (by omega)
        have w2 : IntKind.i64.wrap (n.tdiv 10) = n.tdiv 10 := w64 _ (by omega)
        simp only [w1, w2, EV, Nat.reduceEqDiff, Nat.reduceBEq, Nat.reduceLT, Nat.reduceLeDiff, Nat.reduceAdd, Nat.reduceSub, reduceIte]
        simp only at p0 p1 p2 p3
        have hs : (strA [IntKind.u8.wrap (48 + n.tmod 10)]).size = 1 := rfl
        refine ⟨by decide, ?_, by decide, (n.tdiv 10, strA [IntKind.u8.wrap (48 + n.tmod 10)] ++ s), ⟨?_, ?_, ?_, ?_⟩, ?_, rfl⟩
        · rw [hs]; omega
        · show 0 ≤ n.tdiv 10; omega
        · show n.tdiv 10 ≤ k; omega
        · show (((strA [IntKind.u8.wrap (48 + n.tmod 10)] ++ s).size : Nat) : Int) + n.tdiv 10 ≤ k
          rw [ByteArray.size_append, hs]; omega
        · show mtL (n.tdiv 10) (strA [IntKind.u8.wrap (48 + n.tmod 10)] ++ s) = _
          rw [← p3, mtL.eq_def n, dif_pos h3]
        · show (n.tdiv 10).toNat < n.toNat; omega
      · have h3 : ¬ 0 < n := by simpa using h
        simp only at p0 p1 p2 p3
        have e : mtL k ⟨#[]⟩ = s := by rw [← p3, mtL.eq_def, dif_neg h3]
        have hs : ((⟨#[109]⟩ : ByteArray).size : Nat) = 1 := rfl
        simp only [EV, Nat.reduceEqDiff, Nat.reduceBEq, Nat.reduceLT, Nat.reduceLeDiff, Nat.reduceAdd, Nat.reduceSub, reduceIte]
        refine ⟨?_, ?_⟩
        · rw [hs]; omega
        · simp only [mt, h2, e, EV, Nat.reduceEqDiff, Nat.reduceBEq, Nat.reduceLT, Nat.reduceLeDiff, Nat.reduceAdd, Nat.reduceSub, reduceIte, evRE, retVC, cellV', evR, nfz, nfzs, nfzss, List.contains_nil, List.contains_cons, Bool.or_false, or_true]

def mkFd (k : Int) : Fd := ⟨mt (k), k + 1, k + 2⟩

def mkFdS : List Fd → Int → List Fd
  | [], _ => []
  | f :: fs, k => mkFd k :: mkFdS fs (k + 3)

theorem mkFdS_len : ∀ (l : List Fd) (k : Int), (mkFdS l k).length = l.length
  | [], _ => rfl
  | f :: fs, k => by simp [mkFdS, mkFdS_len fs]

/-- loop.example/g00837/laws.markFieldS -/
def m37 : MC :=
  (.seq
   (.reg [⟨(some 4), none, .a (.asg (.c (.int .i64 0)))⟩])
   (.seq
    (.seq
     (.reg [⟨(some 5), none, .a (.asg (.c (.int .i64 0)))⟩])
     (.block 0
      (.loop [0, 1, 5]
       (.seq
        (.seq
         (.reg [⟨(some 6), none, .q (.mov (.t 5))⟩,
           ⟨(some 7), none, .q (.mov (.t 0))⟩,
           ⟨(some 8), none, .q (.len false (.t 7))⟩,
           ⟨(some 9), none, .q (.bin false .lss (.t 6) (.t 8))⟩])
         (.cond (.t 9)
          .skip
          (.exit 0)))
        (.seq
         (.block 1
          (.seq
           (.reg [⟨(some 12), none, .q (.mov (.t 0))⟩,
             ⟨(some 13), none, .q (.mov (.t 5))⟩,
             ⟨(some 14), none, .q (.mov (.t 1))⟩,
             ⟨(some 15), none, .a (.call (.fn 89) false [.lend (.t 14)])⟩,
             ⟨(some 16), none, .q (.iad 3 (.t 12) (.t 13))⟩,
             ⟨(some 17), none, .q (.fad 0 (.t 16))⟩,
             ⟨none, none, .a (.store 1 (.t 17) (.t 15))⟩])
           (.seq
            (.reg [⟨(some 18), none, .q (.mov (.t 1))⟩,
              ⟨(some 19), none, .q (.bin false .add (.t 18) (.c (.int .i64 1)))⟩,
              ⟨(some 1), none, .a (.asg (.t 19))⟩])
            (.seq
             (.reg [⟨(some 20), none, .q (.mov (.t 0))⟩,
               ⟨(some 21), none, .q (.mov (.t 5))⟩,
               ⟨(some 22), none, .q (.mov (.t 1))⟩,
               ⟨(some 23), none, .q (.iad 3 (.t 20) (.t 21))⟩,
               ⟨(some 24), none, .q (.fad 1 (.t 23))⟩,
               ⟨none, none, .a (.store 1 (.t 24) (.t 22))⟩])
             (.seq
              (.reg [⟨(some 25), none, .q (.mov (.t 1))⟩,
                ⟨(some 26), none, .q (.bin false .add (.t 25) (.c (.int .i64 1)))⟩,
                ⟨(some 1), none, .a (.asg (.t 26))⟩])
              (.seq
               (.reg [⟨(some 27), none, .q (.mov (.t 0))⟩,
                 ⟨(some 28), none, .q (.mov (.t 5))⟩,
                 ⟨(some 29), none, .q (.mov (.t 1))⟩,
                 ⟨(some 30), none, .q (.iad 3 (.t 27) (.t 28))⟩,
                 ⟨(some 31), none, .q (.fad 2 (.t 30))⟩,
                 ⟨none, none, .a (.store 1 (.t 31) (.t 29))⟩])
               (.reg [⟨(some 32), none, .q (.mov (.t 1))⟩,
                 ⟨(some 33), none, .q (.bin false .add (.t 32) (.c (.int .i64 1)))⟩,
                 ⟨(some 1), none, .a (.asg (.t 33))⟩])))))))
         (.reg [⟨(some 10), none, .q (.mov (.t 5))⟩,
           ⟨(some 11), none, .q (.bin false .add (.t 10) (.c (.int .i64 1)))⟩,
           ⟨(some 5), none, .a (.asg (.t 11))⟩]))))))
    (.seq
     (.reg [⟨(some 34), none, .q (.mov (.t 1))⟩,
       ⟨(some 4), none, .a (.asg (.t 34))⟩])
     .ret)))

theorem d37 (l : List Fd) (k : Int) (h0 : 0 ≤ k) (h1 : k + 3 * l.length ≤ 4611686018427387904) :
    Does Go.Proofs.Try.prog 37 [.usl 57 3 (l.map Fd.o), .v (.int .i64 k)] false (.v (.int .i64 (k + 3 * l.length))) [.usl 57 3 ((mkFdS l k).map Fd.o), .dead] := by
  refine does_intro (mc := m37) (N := 35) (rs := [4]) (fx := [0]) 2 rfl (by decide +kernel) ?_
  simp only [m37, EV, Nat.reduceEqDiff, Nat.reduceBEq, Nat.reduceLT, Nat.reduceLeDiff, Nat.reduceAdd, Nat.reduceSub, reduceIte]
  refine awp_loop (fun p : List Fd × List Fd × Int => p.1 ++ mkFdS p.2.1 p.2.2 = mkFdS l k ∧ p.2.2 + 3 * p.2.1.length = k + 3 * l.length ∧ 0 ≤ p.2.2 ∧ p.1.length + p.2.1.length = l.length)
    (fun p => stl [(0, .usl 57 3 ((p.1 ++ p.2.1).map Fd.o)), (1, .v (.int .i64 p.2.2)), (5, .v (.int .i64 (p.1.length : Int)))]) (fun p => p.2.1.length) ([], l, k) ⟨rfl, rfl, h0, by simp⟩ ?_ ?_
  · simp only [EV, Nat.reduceEqDiff, Nat.reduceBEq, Nat.reduceLT, Nat.reduceLeDiff, Nat.reduceAdd, Nat.reduceSub, reduceIte]
    rfl
  · rintro ⟨pre, post, n⟩ ⟨p0, p1, p2, p3⟩
    cases post with
    | nil =>
      simp only [EV, Nat.reduceEqDiff, Nat.reduceBEq, Nat.reduceLT, Nat.reduceLeDiff, Nat.reduceAdd, Nat.reduceSub, reduceIte]
      refine cK_cut (fun h => ?_) (fun h => ?_)
      · simp at h
      · simp only [EV, Nat.reduceEqDiff, Nat.reduceBEq, Nat.reduceLT, Nat.reduceLeDiff, Nat.reduceAdd, Nat.reduceSub, reduceIte]
        simp only [List.append_nil, mkFdS, List.length_nil] at p0 p1
        have e : n = k + 3 * l.length := by simp at p1; omega
        simp only [p0, ← e, EV, Nat.reduceEqDiff, Nat.reduceBEq, Nat.reduceLT, Nat.reduceLeDiff, Nat.reduceAdd, Nat.reduceSub, reduceIte, evRE, retVC, cellV', evR, nfz, nfzs, nfzss, List.contains_nil, List.contains_cons, Bool.or_false, or_true]
    | cons f post =>
      simp only [EV, Nat.reduceEqDiff, Nat.reduceBEq, Nat.reduceLT, Nat.reduceLeDiff, Nat.reduceAdd, Nat.reduceSub, reduceIte]
      refine cK_cut (fun h => ?_) (fun h => ?_)
      rotate_left
      · simp at h; omega
      simp only at p0 p1 p2 p3
      simp only [List.length_cons] at p1 p3
      have h3 : (pre.length : Int) < ((pre ++ f :: post).length : Int) := by simp; omega
      have h4 : pre.length < ((pre ++ f :: post).map Fd.o).length := by simp
      have e1 : nth ((pre ++ f :: post).map Fd.o) pre.length = f.o := nth_mid
      generalize hR : (pre ++ f :: post).map Fd.o = R at h4 e1 ⊢
      have hRl : R.length = l.length := by rw [← hR]; simp; omega
      have h5 : (pre.length : Int) < (R.length : Int) := by omega
      have w0 := w64 ((pre.length : Int) + 1) (by omega)
      have w1 := w64 (n + 1) (by omega)
      have w2 := w64 (n + 1 + 1) (by omega)
      have w3 := w64 (n + 1 + 1 + 1) (by omega)
      simp only [h4, h5, e1, nth_set h4, List.getElem?_set_self h4, modify_set, Fd.o, w1, w2, w3, w0, EV, Nat.reduceEqDiff, Nat.reduceBEq, Nat.reduceLT, Nat.reduceLeDiff, Nat.reduceAdd, Nat.reduceSub, reduceIte]
      refine callK_i (d89 (n) (by omega) (by omega)) ?_
      simp only [h4, h5, e1, nth_set h4, List.getElem?_set_self h4, modify_set, Fd.o, w1, w2, w3, w0, EV, Nat.reduceEqDiff, Nat.reduceBEq, Nat.reduceLT, Nat.reduceLeDiff, Nat.reduceAdd, Nat.reduceSub, reduceIte]
      refine ⟨(pre ++ [mkFd n], post, n + 3), ⟨?_, ?_, ?_, ?_⟩, ?_, ?_⟩
      · rw [← p0]; simp [mkFdS]
      · simp only; omega
      · simp only; omega
      · simp only [List.length_append, List.length_cons, List.length_nil]; omega
      · simp only; omega
      · have e2 := set_mid (g := Fd.o) (pre := pre) (post := post) (t := f) (mkFd n)
        rw [hR] at e2
        simp only [Fd.o, mkFd] at e2
        simp only [← e2, mkFd, List.length_append, List.length_cons, List.length_nil, Int.add_assoc]
        rfl

end Go.AM
namespace Go.AM
set_option linter.unusedVariables false
set_option linter.unusedSimpArgs false
def mkTy (t : Ty) (k : Int) : Ty := ⟨k, k + 1, k + 2, mkFdS t.fields (k + 3), mt (k + 3 + 3 * t.fields.length), mt (k + 3 + 3 * t.fields.length + 1)⟩

def cntTy (t : Ty) : Int := 5 + 3 * t.fields.length

def cntTys : List Ty → Int
  | [] => 0
  | t :: l => cntTy t + cntTys l

theorem cntTys_nn : ∀ l : List Ty, 0 ≤ cntTys l
  | [] => Int.le_refl _
  | t :: l => by have := cntTys_nn l; unfold cntTys cntTy; omega

def mkTyS : List Ty → Int → List Ty
  | [], _ => []
  | t :: l, k => mkTy t k :: mkTyS l (k + cntTy t)

theorem mkTyS_len : ∀ (l : List Ty) (k : Int), (mkTyS l k).length = l.length
  | [], _ => rfl
  | f :: fs, k => by simp [mkTyS, mkTyS_len fs]

theorem mkTy_o (f : Ty) (n : Int) : Ty.o (mkTy f n) = [.v (.int .i64 n), .v (.int .i64 (n + 1)), .v (.int .i64 (n + 2)), .usl 57 3 ((mkFdS f.fields (n + 3)).map Fd.o), .v (.string (mt (n + 3 + 3 * f.fields.length))), .v (.string (mt (n + 3 + 3 * f.fields.length + 1)))] := rfl

/-- loop.example/g00837/laws.markTypeS -/
def m31 : MC :=
  (.seq
   (.reg [⟨(some 4), none, .a (.asg (.c (.int .i64 0)))⟩])
   (.seq
    (.seq
     (.reg [⟨(some 5), none, .a (.asg (.c (.int .i64 0)))⟩])
     (.block 0
      (.loop [0, 1, 5]
       (.seq
        (.seq
         (.reg [⟨(some 6), none, .q (.mov (.t 5))⟩,
           ⟨(some 7), none, .q (.mov (.t 0))⟩,
           ⟨(some 8), none, .q (.len false (.t 7))⟩,
           ⟨(some 9), none, .q (.bin false .lss (.t 6) (.t 8))⟩])
         (.cond (.t 9)
          .skip
          (.exit 0)))
        (.seq
         (.block 1
          (.seq
           (.reg [⟨(some 12), none, .q (.mov (.t 0))⟩,
             ⟨(some 13), none, .q (.mov (.t 5))⟩,
             ⟨(some 14), none, .q (.mov (.t 1))⟩,
             ⟨(some 15), none, .q (.iad 6 (.t 12) (.t 13))⟩,
             ⟨(some 16), none, .q (.fad 0 (.t 15))⟩,
             ⟨none, none, .a (.store 1 (.t 16) (.t 14))⟩])
           (.seq
            (.reg [⟨(some 17), none, .q (.mov (.t 1))⟩,
              ⟨(some 18), none, .q (.bin false .add (.t 17) (.c (.int .i64 1)))⟩,
              ⟨(some 1), none, .a (.asg (.t 18))⟩])
            (.seq
             (.reg [⟨(some 19), none, .q (.mov (.t 0))⟩,
               ⟨(some 20), none, .q (.mov (.t 5))⟩,
               ⟨(some 21), none, .q (.mov (.t 1))⟩,
               ⟨(some 22), none, .q (.iad 6 (.t 19) (.t 20))⟩,
               ⟨(some 23), none, .q (.fad 1 (.t 22))⟩,
               ⟨none, none, .a (.store 1 (.t 23) (.t 21))⟩])
             (.seq
              (.reg [⟨(some 24), none, .q (.mov (.t 1))⟩,
                ⟨(some 25), none, .q (.bin false .add (.t 24) (.c (.int .i64 1)))⟩,
                ⟨(some 1), none, .a (.asg (.t 25))⟩])
              (.seq
               (.reg [⟨(some 26), none, .q (.mov (.t 0))⟩,
                 ⟨(some 27), none, .q (.mov (.t 5))⟩,
                 ⟨(some 28), none, .q (.mov (.t 1))⟩,
                 ⟨(some 29), none, .q (.iad 6 (.t 26) (.t 27))⟩,
                 ⟨(some 30), none, .q (.fad 2 (.t 29))⟩,
                 ⟨none, none, .a (.store 1 (.t 30) (.t 28))⟩])
               (.seq
                (.reg [⟨(some 31), none, .q (.mov (.t 1))⟩,
                  ⟨(some 32), none, .q (.bin false .add (.t 31) (.c (.int .i64 1)))⟩,
                  ⟨(some 1), none, .a (.asg (.t 32))⟩])
                (.seq
                 (.reg [⟨(some 33), none, .q (.mov (.t 0))⟩,
                   ⟨(some 34), none, .q (.mov (.t 5))⟩,
                   ⟨(some 35), none, .q (.iad 6 (.t 33) (.t 34))⟩,
                   ⟨(some 36), none, .q (.fad 3 (.t 35))⟩,
                   ⟨(some 37), none, .q (.load false 1 (.t 36))⟩,
                   ⟨(some 38), none, .q (.mov (.t 1))⟩,
                   ⟨(some 39), none, .a (.call (.fn 37) false [.io (.t 37), .lend (.t 38)])⟩,
                   ⟨(some 1), none, .a (.asg (.t 39))⟩])
                 (.seq
                  (.reg [⟨(some 40), none, .q (.mov (.t 0))⟩,
                    ⟨(some 41), none, .q (.mov (.t 5))⟩,
                    ⟨(some 42), none, .q (.mov (.t 1))⟩,
                    ⟨(some 43), none, .a (.call (.fn 89) false [.lend (.t 42)])⟩,
                    ⟨(some 44), none, .q (.iad 6 (.t 40) (.t 41))⟩,
                    ⟨(some 45), none, .q (.fad 4 (.t 44))⟩,
                    ⟨none, none, .a (.store 1 (.t 45) (.t 43))⟩])
                  (.seq
                   (.reg [⟨(some 46), none, .q (.mov (.t 1))⟩,
                     ⟨(some 47), none, .q (.bin false .add (.t 46) (.c (.int .i64 1)))⟩,
                     ⟨(some 1), none, .a (.asg (.t 47))⟩])
                   (.seq
                    (.reg [⟨(some 48), none, .q (.mov (.t 0))⟩,
                      ⟨(some 49), none, .q (.mov (.t 5))⟩,
                      ⟨(some 50), none, .q (.mov (.t 1))⟩,
                      ⟨(some 51), none, .a (.call (.fn 89) false [.lend (.t 50)])⟩,
                      ⟨(some 52), none, .q (.iad 6 (.t 48) (.t 49))⟩,
                      ⟨(some 53), none, .q (.fad 5 (.t 52))⟩,
                      ⟨none, none, .a (.store 1 (.t 53) (.t 51))⟩])
                    (.reg [⟨(some 54), none, .q (.mov (.t 1))⟩,
                      ⟨(some 55), none, .q (.bin false .add (.t 54) (.c (.int .i64 1)))⟩,
                      ⟨(some 1), none, .a (.asg (.t 55))⟩]))))))))))))
         (.reg [⟨(some 10), none, .q (.mov (.t 5))⟩,
           ⟨(some 11), none, .q (.bin false .add (.t 10) (.c (.int .i64 1)))⟩,
           ⟨(some 5), none, .a (.asg (.t 11))⟩]))))))
    (.seq
     (.reg [⟨(some 56), none, .q (.mov (.t 1))⟩,
       ⟨(some 4), none, .a (.asg (.t 56))⟩])
     .ret)))

set_option maxHeartbeats 1000000 in
set_option maxRecDepth 100000 in
theorem d31 (l : List Ty) (k : Int) (h0 : 0 ≤ k) (h1 : k + cntTys l ≤ 4611686018427387904) (hl : (l.length : Int) ≤ 1048576) (hs : ∀ s ∈ l, s.sm) :
    Does Go.Proofs.Try.prog 31 [.usl 59 6 (l.map Ty.o), .v (.int .i64 k)] false (.v (.int .i64 (k + cntTys l))) [.usl 59 6 ((mkTyS l k).map Ty.o), .dead] := by
  refine does_intro (mc := m31) (N := 57) (rs := [4]) (fx := [0]) 2 rfl (by decide +kernel) ?_
  simp only [m31, EV, Nat.reduceEqDiff, Nat.reduceBEq, Nat.reduceLT, Nat.reduceLeDiff, Nat.reduceAdd, Nat.reduceSub, reduceIte]
  refine awp_loop (fun p : List Ty × List Ty × Int => p.1 ++ mkTyS p.2.1 p.2.2 = mkTyS l k ∧ p.2.2 + cntTys p.2.1 = k + cntTys l ∧ 0 ≤ p.2.2 ∧ p.1.length + p.2.1.length = l.length ∧ ∀ s ∈ p.2.1, s.sm)
    (fun p => stl [(0, .usl 59 6 ((p.1 ++ p.2.1).map Ty.o)), (1, .v (.int .i64 p.2.2)), (5, .v (.int .i64 (p.1.length : Int)))]) (fun p => p.2.1.length) ([], l, k) ⟨rfl, rfl, h0, by simp, hs⟩ ?_ ?_
  · simp only [EV, Nat.reduceEqDiff, Nat.reduceBEq, Nat.reduceLT, Nat.reduceLeDiff, Nat.reduceAdd, Nat.reduceSub, reduceIte]
    rfl
  · rintro ⟨pre, post, n⟩ ⟨p0, p1, p2, p3, p4⟩
    cases post with
    | nil =>
      simp only [EV, Nat.reduceEqDiff, Nat.reduceBEq, Nat.reduceLT, Nat.reduceLeDiff, Nat.reduceAdd, Nat.reduceSub, reduceIte]
      refine cK_cut (fun h => ?_) (fun h => ?_)
      · simp at h
      · simp only [EV, Nat.reduceEqDiff, Nat.reduceBEq, Nat.reduceLT, Nat.reduceLeDiff, Nat.reduceAdd, Nat.reduceSub, reduceIte]
        simp only [List.append_nil, mkTyS] at p0
        have e : n = k + cntTys l := by simp [cntTys] at p1; omega
        simp only [p0, ← e, EV, Nat.reduceEqDiff, Nat.reduceBEq, Nat.reduceLT, Nat.reduceLeDiff, Nat.reduceAdd, Nat.reduceSub, reduceIte, evRE, retVC, cellV', evR, nfz, nfzs, nfzss, List.contains_nil, List.contains_cons, Bool.or_false, or_true]
    | cons f post =>
      simp only [EV, Nat.reduceEqDiff, Nat.reduceBEq, Nat.reduceLT, Nat.reduceLeDiff, Nat.reduceAdd, Nat.reduceSub, reduceIte]
      refine cK_cut (fun h => ?_) (fun h => ?_)
      rotate_left
      · simp at h; omega
      simp only at p0 p1 p2 p3
      have hsm := p4 f (by simp)
      unfold Ty.sm at hsm
      have hfl := hsm.2.2.2.1.1
      have hnn := cntTys_nn post
      simp only [List.length_cons] at p3
      simp only [cntTys, cntTy] at p1
      have h4 : pre.length < ((pre ++ f :: post).map Ty.o).length := by simp
      have e1 : nth ((pre ++ f :: post).map Ty.o) pre.length = f.o := nth_mid
      have e2 := set_mid (g := Ty.o) (pre := pre) (post := post) (t := f) (mkTy f n)
      generalize hR : (pre ++ f :: post).map Ty.o = R at h4 e1 e2 ⊢
      have hRl : R.length = l.length := by rw [← hR]; simp; omega
      have h5 : (pre.length : Int) < (R.length : Int) := by omega
      have w0 := w64 ((pre.length : Int) + 1) (by omega)
      have w1 := w64 (n + 1) (by omega)
      have w2 := w64 (n + 1 + 1) (by omega)
      have w3 := w64 (n + 1 + 1 + 1) (by omega)
      simp only [h4, h5, e1, nth_set h4, List.getElem?_set_self h4, modify_set, Ty.o, w0, w1, w2, w3, EV, Nat.reduceEqDiff, Nat.reduceBEq, Nat.reduceLT, Nat.reduceLeDiff, Nat.reduceAdd, Nat.reduceSub, reduceIte]
      refine callK2_i (d37 f.fields (n + 1 + 1 + 1) (by omega) (by omega)) rfl ?_ ?_
      · simp only [mkFdS_len, EV, Nat.reduceEqDiff, Nat.reduceBEq, Nat.reduceLT, Nat.reduceLeDiff, Nat.reduceAdd, Nat.reduceSub, reduceIte]
      have g1 : n + 1 + 1 = n + 2 := by omega
      have g2 : n + 2 + 1 = n + 3 := by omega
      have w4 := w64 (n + 3 + 3 * (f.fields.length : Int) + 1) (by omega)
      have w5 := w64 (n + 3 + 3 * (f.fields.length : Int) + 1 + 1) (by omega)
      simp only [g1, g2, h4, h5, e1, nth_set h4, List.getElem?_set_self h4, modify_set, w4, EV, Nat.reduceEqDiff, Nat.reduceBEq, Nat.reduceLT, Nat.reduceLeDiff, Nat.reduceAdd, Nat.reduceSub, reduceIte]
      refine callK_i (d89 (n + 3 + 3 * (f.fields.length : Int)) (by omega) (by omega)) ?_
      simp only [g1, g2, h4, h5, e1, nth_set h4, List.getElem?_set_self h4, modify_set, w4, EV, Nat.reduceEqDiff, Nat.reduceBEq, Nat.reduceLT, Nat.reduceLeDiff, Nat.reduceAdd, Nat.reduceSub, reduceIte]
      refine callK_i (d89 (n + 3 + 3 * (f.fields.length : Int) + 1) (by omega) (by omega)) ?_
      simp only [g1, g2, h4, h5, e1, nth_set h4, List.getElem?_set_self h4, modify_set, w4, w5, EV, Nat.reduceEqDiff, Nat.reduceBEq, Nat.reduceLT, Nat.reduceLeDiff, Nat.reduceAdd, Nat.reduceSub, reduceIte]
      refine ⟨(pre ++ [mkTy f n], post, n + cntTy f), ⟨?_, ?_, ?_, ?_, ?_⟩, ?_, ?_⟩
      · rw [← p0]; simp [mkTyS]
      · simp only [cntTy]; omega
      · simp only [cntTy]; omega
      · simp only [List.length_append, List.length_cons, List.length_nil]; omega
      · intro s hs'; exact p4 s (by simp; exact .inr hs')
      · simp only; omega
      · rw [mkTy_o] at e2
        have g3 : n + 3 + 3 * (f.fields.length : Int) + 1 + 1 = n + cntTy f := by unfold cntTy; omega
        have g4 : (((pre ++ [mkTy f n]).length : Nat) : Int) = (pre.length : Int) + 1 := by simp
        simp only [← e2, g3, g4, w0]

end Go.AM
namespace Go.AM
set_option linter.unusedVariables false
set_option linter.unusedSimpArgs false
/-- Numbers rise up to a place. -/
def riseTo (n : List Int) (i : Nat) : Prop := ∀ j (h : j + 1 < n.length), j + 1 < i → n[j] < n[j + 1]

theorem riseTo_up {n : List Int} (h : riseTo n n.length) : n.Pairwise (· < ·) := by
  induction n with
  | nil => exact List.Pairwise.nil
  | cons x n ih =>
    have h2 : riseTo n n.length := fun j hj hji => by have := h (j + 1) (by simp; omega) (by simp; omega); simpa using this
    refine List.pairwise_cons.2 ⟨?_, ih h2⟩
    have hp := ih h2
    cases n with
    | nil => simp
    | cons y n =>
      have h0 : x < y := h 0 (by simp) (by simp)
      intro a ha
      rcases List.mem_cons.1 ha with rfl | ha
      · exact h0
      · have := (List.pairwise_cons.1 hp).1 a ha; omega

theorem up_rise {n : List Int} (h : n.Pairwise (· < ·)) : ∀ j (hj : j + 1 < n.length), n[j] < n[j + 1] := fun j hj => List.pairwise_iff_getElem.1 h j (j + 1) (by omega) hj (by omega)

open Classical in
noncomputable def upB (n : List Int) : Bool := decide (n.Pairwise (· < ·))

/-- loop.example/g00837/impl.areRising -/
def m85 : MC :=
  (.seq
   (.reg [⟨(some 2), none, .a (.asg (.c (.bool false)))⟩])
   (.seq
    (.seq
     (.reg [⟨(some 3), none, .a (.asg (.c (.int .i64 1)))⟩])
     (.block 0
      (.loop [0, 3]
       (.seq
        (.seq
         (.reg [⟨(some 4), none, .q (.mov (.t 3))⟩,
           ⟨(some 5), none, .q (.mov (.t 0))⟩,
           ⟨(some 6), none, .q (.len false (.t 5))⟩,
           ⟨(some 7), none, .q (.bin false .lss (.t 4) (.t 6))⟩])
         (.cond (.t 7)
          .skip
          (.exit 0)))
        (.seq
         (.block 1
          (.seq
           (.dreg [⟨(some 10), none, .q (.mov (.t 0))⟩,
             ⟨(some 11), none, .q (.mov (.t 3))⟩,
             ⟨(some 12), none, .q (.bin false .sub (.t 11) (.c (.int .i64 1)))⟩,
             ⟨(some 13), none, .q (.iad 1 (.t 10) (.t 12))⟩,
             ⟨(some 14), none, .q (.load false 1 (.t 13))⟩,
             ⟨(some 15), none, .q (.mov (.t 0))⟩,
             ⟨(some 16), none, .q (.mov (.t 3))⟩,
             ⟨(some 17), none, .q (.iad 1 (.t 15) (.t 16))⟩,
             ⟨(some 18), none, .q (.load false 1 (.t 17))⟩,
             ⟨(some 19), none, .q (.bin false .geq (.t 14) (.t 18))⟩])
           (.cond (.t 19)
            (.seq
             (.reg [⟨(some 2), none, .a (.asg (.c (.bool false)))⟩])
             .ret)
            .skip)))
         (.reg [⟨(some 8), none, .q (.mov (.t 3))⟩,
           ⟨(some 9), none, .q (.bin false .add (.t 8) (.c (.int .i64 1)))⟩,
           ⟨(some 3), none, .a (.asg (.t 9))⟩]))))))
    (.seq
     (.reg [⟨(some 2), none, .a (.asg (.c (.bool true)))⟩])
     .ret)))

set_option maxRecDepth 100000 in
theorem d85 (n : List Int) (hl : (n.length : Int) ≤ 1048576) : Does Go.Proofs.Try.prog 85 [.fsl 1 (n.map iv)] false (.v (.bool (upB n))) [.dead] := by
  refine does_intro (mc := m85) (N := 20) (rs := [2]) (fx := []) 1 rfl (by decide +kernel) ?_
  simp only [m85, EV, Nat.reduceEqDiff, Nat.reduceBEq, Nat.reduceLT, Nat.reduceLeDiff, Nat.reduceAdd, Nat.reduceSub, reduceIte]
  refine awp_loop (fun i : Nat => riseTo n (i + 1)) (fun i => stl [(0, .fsl 1 (n.map iv)), (3, .v (.int .i64 ((i : Int) + 1)))]) (fun i => n.length - i) 0 (fun j hj h => absurd h (by omega)) ?_ ?_
  · simp only [EV, Nat.reduceEqDiff, Nat.reduceBEq, Nat.reduceLT, Nat.reduceLeDiff, Nat.reduceAdd, Nat.reduceSub, reduceIte]
    rfl
  · rintro i hr
    simp only [EV, Nat.reduceEqDiff, Nat.reduceBEq, Nat.reduceLT, Nat.reduceLeDiff, Nat.reduceAdd, Nat.reduceSub, reduceIte]
    refine cK_cut (fun h => ?_) (fun h => ?_)
    · have h1 : i + 1 < n.length := by have : (i : Int) + 1 < (n.length : Int) := by simpa using h
                                       omega
      have h2 : i < n.length := by omega
      have w0 : IntKind.i64.wrap ((i : Int) + 1 - 1) = (i : Int) := by rw [w64 _ (by omega)]; omega
      have w1 : IntKind.i64.wrap ((i : Int) + 1 + 1) = ((i + 1 : Nat) : Int) + 1 := by rw [w64 _ (by omega)]; omega
      have t1 : ((i : Int) + 1).toNat = i + 1 := by omega
      have g1 : 0 ≤ (i : Int) + 1 := by omega
      have g2 : (i : Int) + 1 < (n.length : Int) := by omega
      have g3 : (i : Int) < (n.length : Int) := by omega
      simp only [w0, t1, g1, g2, g3, nth_map h1, nth_map h2, iv, EV, Nat.reduceEqDiff, Nat.reduceBEq, Nat.reduceLT, Nat.reduceLeDiff, Nat.reduceAdd, Nat.reduceSub, reduceIte]
      refine cK_cut (fun h3 => ?_) (fun h3 => ?_)
      · have e : upB n = false := by
          simp only [upB, decide_eq_false_iff_not]
          intro hp
          have := up_rise hp i h1
          have h4 : n[i + 1] ≤ n[i] := by simpa using h3
          omega
        simp only [EV, Nat.reduceEqDiff, Nat.reduceBEq, Nat.reduceLT, Nat.reduceLeDiff, Nat.reduceAdd, Nat.reduceSub, reduceIte]
        simp only [e, EV, Nat.reduceEqDiff, Nat.reduceBEq, Nat.reduceLT, Nat.reduceLeDiff, Nat.reduceAdd, Nat.reduceSub, reduceIte, evRE, retVC, cellV', evR, nfz, nfzs, nfzss, List.contains_nil, List.contains_cons, Bool.or_false, or_true]
      · simp only [EV, Nat.reduceEqDiff, Nat.reduceBEq, Nat.reduceLT, Nat.reduceLeDiff, Nat.reduceAdd, Nat.reduceSub, reduceIte]
        rw [w1]
        refine ⟨i + 1, ?_, by omega, rfl⟩
        intro j hj hji
        by_cases ej : j = i
        · subst ej
          have h4 : ¬ n[j + 1] ≤ n[j] := by simpa using h3
          omega
        · exact hr j hj (by omega)
    · have h1 : n.length ≤ i + 1 := by have : ¬ (i : Int) + 1 < (n.length : Int) := by simpa using h
                                       omega
      have e : upB n = true := by
        simp only [upB, decide_eq_true_eq]
        exact riseTo_up fun j hj hji => hr j hj (by omega)
      simp only [EV, Nat.reduceEqDiff, Nat.reduceBEq, Nat.reduceLT, Nat.reduceLeDiff, Nat.reduceAdd, Nat.reduceSub, reduceIte]
      simp only [e, EV, Nat.reduceEqDiff, Nat.reduceBEq, Nat.reduceLT, Nat.reduceLeDiff, Nat.reduceAdd, Nat.reduceSub, reduceIte, evRE, retVC, cellV', evR, nfz, nfzs, nfzss, List.contains_nil, List.contains_cons, Bool.or_false, or_true]

open Classical in
/-- Rising, and all of them between two. -/
noncomputable def upIn (n : List Int) (lo hi : Int) : Bool := decide (n.Pairwise (· < ·) ∧ ∀ k ∈ n, lo ≤ k ∧ k ≤ hi)

def inTo (n : List Int) (lo hi : Int) (i : Nat) : Prop := ∀ j (h : j < n.length), j < i → lo ≤ n[j] ∧ n[j] ≤ hi

/-- loop.example/g00837/spec.l1Rising -/
def m83 : MC :=
  (.seq
   (.reg [⟨(some 6), none, .a (.asg (.c (.bool false)))⟩])
   (.seq
    (.seq
     (.reg [⟨(some 9), none, .q (.mov (.t 0))⟩,
       ⟨(some 10), none, .q (.len false (.t 9))⟩,
       ⟨(some 11), none, .q (.mov (.c (.int .i64 0)))⟩])
     (.block 0
      (.loop [0, 1, 2, 9, 10, 11]
       (.seq
        (.reg [⟨(some 12), none, .q (.bin false .lss (.t 11) (.t 10))⟩])
        (.seq
         (.cond (.t 12)
          .skip
          (.exit 0))
         (.seq
          (.block 1
           (.seq
            (.reg [⟨(some 13), none, .q (.mov (.t 11))⟩,
              ⟨(some 14), none, .q (.iad 1 (.t 9) (.t 11))⟩,
              ⟨(some 15), none, .q (.load false 1 (.t 14))⟩,
              ⟨(some 7), none, .a (.asg (.t 13))⟩,
              ⟨(some 8), none, .a (.asg (.t 15))⟩])
            (.seq
             (.reg [⟨(some 16), none, .q (.mov (.t 8))⟩,
               ⟨(some 17), none, .q (.mov (.t 1))⟩,
               ⟨(some 18), none, .q (.mov (.t 2))⟩,
               ⟨(some 19), none, .a (.call (.fn 77) false [.lend (.t 16), .lend (.t 17), .lend (.t 18)])⟩,
               ⟨(some 20), none, .q (.un .not (.t 19))⟩,
               ⟨(some 21), none, .q (.mov (.t 20))⟩,
               ⟨(some 22), (some (21, false)), .q (.mov (.t 7))⟩,
               ⟨(some 23), (some (21, false)), .q (.bin false .gtr (.t 22) (.c (.int .i64 0)))⟩,
               ⟨(some 24), (some (21, false)), .q (.mov (.t 23))⟩,
               ⟨(some 25), (some (24, true)), .q (.mov (.t 0))⟩,
               ⟨(some 26), (some (24, true)), .q (.mov (.t 7))⟩,
               ⟨(some 27), (some (24, true)), .q (.bin false .sub (.t 26) (.c (.int .i64 1)))⟩,
               ⟨(some 28), (some (24, true)), .q (.iad 1 (.t 25) (.t 27))⟩,
               ⟨(some 29), (some (24, true)), .q (.load false 1 (.t 28))⟩,
               ⟨(some 30), (some (24, true)), .q (.mov (.t 8))⟩,
               ⟨(some 31), (some (24, true)), .q (.bin false .geq (.t 29) (.t 30))⟩,
               ⟨(some 32), (some (21, false)), .q (.pick (.t 24) (.t 31) (.c (.bool false)))⟩,
               ⟨(some 33), none, .q (.pick (.t 21) (.c (.bool true)) (.t 32))⟩])
             (.cond (.t 33)
              (.seq
               (.reg [⟨(some 6), none, .a (.asg (.c (.bool false)))⟩])
               .ret)
              .skip))))
          (.reg [⟨(some 34), none, .q (.bin false .add (.t 11) (.c (.int .i64 1)))⟩,
            ⟨(some 11), none, .q (.mov (.t 34))⟩])))))))
    (.seq
     (.reg [⟨(some 6), none, .a (.asg (.c (.bool true)))⟩])
     .ret)))

set_option maxRecDepth 100000 in
theorem d83 (n : List Int) (lo hi : Int) (hl : (n.length : Int) ≤ 1048576) : Does Go.Proofs.Try.prog 83 [.fsl 1 (n.map iv), .v (.int .i64 lo), .v (.int .i64 hi)] false (.v (.bool (upIn n lo hi))) [.dead, .dead, .dead] := by
  refine does_intro (mc := m83) (N := 35) (rs := [6]) (fx := []) 3 rfl (by decide +kernel) ?_
  simp only [m83, EV, Nat.reduceEqDiff, Nat.reduceBEq, Nat.reduceLT, Nat.reduceLeDiff, Nat.reduceAdd, Nat.reduceSub, reduceIte]
  refine awp_loop (fun i : Nat => i ≤ n.length ∧ riseTo n i ∧ inTo n lo hi i) (fun i => stl [(0, .fsl 1 (n.map iv)), (1, .v (.int .i64 lo)), (2, .v (.int .i64 hi)), (9, .fsl 1 (n.map iv)), (10, .v (.int .i64 (n.length : Int))), (11, .v (.int .i64 (i : Int)))]) (fun i => n.length - i) 0 ⟨Nat.zero_le _, fun j hj h => absurd h (by omega), fun j hj h => absurd h (by omega)⟩ ?_ ?_
  · simp only [EV, Nat.reduceEqDiff, Nat.reduceBEq, Nat.reduceLT, Nat.reduceLeDiff, Nat.reduceAdd, Nat.reduceSub, reduceIte]
    rfl
  · rintro i ⟨hi', hr, hn⟩
    simp only [EV, Nat.reduceEqDiff, Nat.reduceBEq, Nat.reduceLT, Nat.reduceLeDiff, Nat.reduceAdd, Nat.reduceSub, reduceIte]
    refine cK_cut (fun h => ?_) (fun h => ?_)
    · have h1 : i < n.length := by simpa using h
      have h2 : (i : Int) < (n.length : Int) := by omega
      have nx : (lo ≤ n[i] ∧ n[i] ≤ hi) → (∀ h : 0 < i, n[i - 1] < n[i]) → riseTo n (i + 1) ∧ inTo n lo hi (i + 1) := by
        intro q1 q2
        constructor
        · intro j hj hji
          by_cases e : j + 1 = i
          · subst e; exact q2 (by omega)
          · exact hr j hj (by omega)
        · intro j hj hji
          by_cases e : j = i
          · subst e; exact q1
          · exact hn j hj (by omega)
      clear h
      simp only [nth_map h1, h2, iv, EV, Nat.reduceEqDiff, Nat.reduceBEq, Nat.reduceLT, Nat.reduceLeDiff, Nat.reduceAdd, Nat.reduceSub, reduceIte]
      refine callK_i (d77 _ _ _) ?_
      simp only [EV, Nat.reduceEqDiff, Nat.reduceBEq, Nat.reduceLT, Nat.reduceLeDiff, Nat.reduceAdd, Nat.reduceSub, reduceIte]
      rcases e1 : (decide (lo ≤ n[i]) && decide (n[i] ≤ hi)) with _ | _
      · have e : upIn n lo hi = false := by
          simp only [upIn, decide_eq_false_iff_not]
          rintro ⟨_, hp⟩
          have := hp n[i] (List.getElem_mem h1)
          simp [this.1, this.2] at e1
        simp only [Bool.not_false, EV, Nat.reduceEqDiff, Nat.reduceBEq, Nat.reduceLT, Nat.reduceLeDiff, Nat.reduceAdd, Nat.reduceSub, reduceIte]
        simp only [e, EV, Nat.reduceEqDiff, Nat.reduceBEq, Nat.reduceLT, Nat.reduceLeDiff, Nat.reduceAdd, Nat.reduceSub, reduceIte, evRE, retVC, cellV', evR, nfz, nfzs, nfzss, List.contains_nil, List.contains_cons, Bool.or_false, or_true]
      have q1 : lo ≤ n[i] ∧ n[i] ≤ hi := by simpa using e1
      simp only [Bool.not_true, EV, Nat.reduceEqDiff, Nat.reduceBEq, Nat.reduceLT, Nat.reduceLeDiff, Nat.reduceAdd, Nat.reduceSub, reduceIte]
      refine gK_cut (fun h => ?_) (fun h => ?_)
      · have i0 : 0 < i := by have : 0 < (i : Int) := by simpa using h
                              omega
        have w0 : IntKind.i64.wrap ((i : Int) - 1) = ((i - 1 : Nat) : Int) := by rw [w64 _ (by omega)]; omega
        have g1 : i - 1 < n.length := by omega
        have g2 : ((i - 1 : Nat) : Int) < (n.length : Int) := by omega
        have t1 : (((i - 1 : Nat) : Int)).toNat = i - 1 := by omega
        simp only [h, w0, t1, g1, g2, nth_map g1, iv, EV, Nat.reduceEqDiff, Nat.reduceBEq, Nat.reduceLT, Nat.reduceLeDiff, Nat.reduceAdd, Nat.reduceSub, reduceIte]
        refine cK_cut (fun h3 => ?_) (fun h3 => ?_)
        · have e : upIn n lo hi = false := by
            simp only [upIn, decide_eq_false_iff_not]
            rintro ⟨hp, _⟩
            have := List.pairwise_iff_getElem.1 hp (i - 1) i g1 h1 (by omega)
            have h4 : n[i] ≤ n[i - 1] := by simpa using h3
            omega
          simp only [EV, Nat.reduceEqDiff, Nat.reduceBEq, Nat.reduceLT, Nat.reduceLeDiff, Nat.reduceAdd, Nat.reduceSub, reduceIte]
          simp only [e, EV, Nat.reduceEqDiff, Nat.reduceBEq, Nat.reduceLT, Nat.reduceLeDiff, Nat.reduceAdd, Nat.reduceSub, reduceIte, evRE, retVC, cellV', evR, nfz, nfzs, nfzss, List.contains_nil, List.contains_cons, Bool.or_false, or_true]
        · simp only [EV, Nat.reduceEqDiff, Nat.reduceBEq, Nat.reduceLT, Nat.reduceLeDiff, Nat.reduceAdd, Nat.reduceSub, reduceIte]
          rw [w64 _ (by omega)]
          have h4 : ¬ n[i] ≤ n[i - 1] := by simpa using h3
          exact ⟨i + 1, ⟨h1, nx q1 fun _ => by omega⟩, by omega, rfl⟩
      · have i0 : ¬ 0 < i := by have : ¬ 0 < (i : Int) := by simpa using h
                                omega
        simp only [h, EV, Nat.reduceEqDiff, Nat.reduceBEq, Nat.reduceLT, Nat.reduceLeDiff, Nat.reduceAdd, Nat.reduceSub, reduceIte]
        rw [w64 _ (by omega)]
        exact ⟨i + 1, ⟨h1, nx q1 fun h => absurd h i0⟩, by omega, rfl⟩
    · have h1 : i = n.length := by have : ¬ (i : Int) < n.length := by simpa using h
                                   omega
      subst h1
      have e : upIn n lo hi = true := by
        simp only [upIn, decide_eq_true_eq]
        refine ⟨riseTo_up hr, fun k hk => ?_⟩
        obtain ⟨j, hj, rfl⟩ := List.mem_iff_getElem.1 hk
        exact hn j hj hj
      simp only [EV, Nat.reduceEqDiff, Nat.reduceBEq, Nat.reduceLT, Nat.reduceLeDiff, Nat.reduceAdd, Nat.reduceSub, reduceIte]
      simp only [e, EV, Nat.reduceEqDiff, Nat.reduceBEq, Nat.reduceLT, Nat.reduceLeDiff, Nat.reduceAdd, Nat.reduceSub, reduceIte, evRE, retVC, cellV', evR, nfz, nfzs, nfzss, List.contains_nil, List.contains_cons, Bool.or_false, or_true]

/-- slices.IndexFunc[[]int,int] -/
def m134 : MC :=
  (.seq
   (.reg [⟨(some 4), none, .a (.asg (.c (.int .i64 0)))⟩])
   (.seq
    (.seq
     (.reg [⟨(some 6), none, .q (.mov (.t 0))⟩,
       ⟨(some 7), none, .q (.len false (.t 6))⟩,
       ⟨(some 8), none, .q (.mov (.c (.int .i64 0)))⟩])
     (.block 0
      (.loop [0, 1, 7, 8]
       (.seq
        (.reg [⟨(some 9), none, .q (.bin false .lss (.t 8) (.t 7))⟩])
        (.seq
         (.cond (.t 9)
          .skip
          (.exit 0))
         (.seq
          (.block 1
           (.seq
            (.reg [⟨(some 10), none, .q (.mov (.t 8))⟩,
              ⟨(some 5), none, .a (.asg (.t 10))⟩])
            (.seq
             (.reg [⟨(some 11), none, .q (.mov (.t 1))⟩,
               ⟨(some 12), none, .q (.mov (.t 0))⟩,
               ⟨(some 13), none, .q (.mov (.t 5))⟩,
               ⟨(some 14), none, .q (.iad 1 (.t 12) (.t 13))⟩,
               ⟨(some 15), none, .q (.load false 1 (.t 14))⟩,
               ⟨(some 16), none, .a (.call (.t 11) false [.lend (.t 15)])⟩])
             (.cond (.t 16)
              (.seq
               (.reg [⟨(some 17), none, .q (.mov (.t 5))⟩,
                 ⟨(some 4), none, .a (.asg (.t 17))⟩])
               .ret)
              .skip))))
          (.reg [⟨(some 18), none, .q (.bin false .add (.t 8) (.c (.int .i64 1)))⟩,
            ⟨(some 8), none, .q (.mov (.t 18))⟩])))))))
    (.seq
     (.reg [⟨(some 4), none, .a (.asg (.c (.int .i64 (-1))))⟩])
     .ret)))

theorem d134 (l : List Int) (hl : l.length < 9223372036854775807) (f : Nat) (caps : List AV) (q : Int → Bool) (hp : plains caps = true) (hb : bares caps = true) (hk : ∀ K, killVs K caps = caps) (hf : ∀ (st : St), frzBs st caps = caps)
    (hq : ∀ s ∈ l, Does Go.Proofs.Try.prog f (.v (.int .i64 s) :: caps) false (.v (.bool (q s))) (.dead :: caps.map fun _ => .dead)) :
    Does Go.Proofs.Try.prog 134 [.fsl 1 (l.map iv), .clo f caps] false (.v (.int .i64 (findI q l))) [.dead, .dead] := by
  refine does_intro (mc := m134) (N := 19) (rs := [4]) (fx := []) 2 rfl (by decide +kernel) ?_
  simp only [m134, EV, Nat.reduceEqDiff, Nat.reduceBEq, Nat.reduceLT, Nat.reduceLeDiff, Nat.reduceAdd, Nat.reduceSub, reduceIte]
  refine awp_loop (fun i : Nat => i ≤ l.length ∧ ∀ j (hj : j < l.length), j < i → q l[j] = false) (fun i => stl [(0, .fsl 1 (l.map iv)), (1, .clo f caps), (7, .v (.int .i64 (l.length : Int))), (8, .v (.int .i64 (i : Int)))]) (fun i => l.length - i) 0 ⟨Nat.zero_le _, fun j hj h => absurd h (by omega)⟩ ?_ ?_
  · simp only [hp, hb, hk, EV, Nat.reduceEqDiff, Nat.reduceBEq, Nat.reduceLT, Nat.reduceLeDiff, Nat.reduceAdd, Nat.reduceSub, reduceIte]
    rfl
  · rintro i ⟨hi, hno⟩
    simp only [EV, Nat.reduceEqDiff, Nat.reduceBEq, Nat.reduceLT, Nat.reduceLeDiff, Nat.reduceAdd, Nat.reduceSub, reduceIte]
    refine cK_cut (fun h => ?_) (fun h => ?_)
    · have h1 : i < l.length := by simpa using h
      have h2 : (i : Int) < (l.length : Int) := by omega
      simp only [nth_map h1, h2, iv, hp, hb, EV, Nat.reduceEqDiff, Nat.reduceBEq, Nat.reduceLT, Nat.reduceLeDiff, Nat.reduceAdd, Nat.reduceSub, reduceIte]
      refine callK_i (hq l[i] (List.getElem_mem h1)) ?_
      simp only [EV, Nat.reduceEqDiff, Nat.reduceBEq, Nat.reduceLT, Nat.reduceLeDiff, Nat.reduceAdd, Nat.reduceSub, reduceIte]
      refine cK_cut (fun h => ?_) (fun h => ?_)
      · simp only [EV, Nat.reduceEqDiff, Nat.reduceBEq, Nat.reduceLT, Nat.reduceLeDiff, Nat.reduceAdd, Nat.reduceSub, reduceIte]
        simp only [findI_at h1 h hno, EV, Nat.reduceEqDiff, Nat.reduceBEq, Nat.reduceLT, Nat.reduceLeDiff, Nat.reduceAdd, Nat.reduceSub, reduceIte, evRE, retVC, cellV', evR, nfz, nfzs, nfzss, List.contains_nil, List.contains_cons, Bool.or_false, or_true]
      · simp only [hp, hb, hk, EV, Nat.reduceEqDiff, Nat.reduceBEq, Nat.reduceLT, Nat.reduceLeDiff, Nat.reduceAdd, Nat.reduceSub, reduceIte]
        rw [w64 _ (by omega)]
        refine ⟨i + 1, ⟨by omega, ?_⟩, by omega, rfl⟩
        intro j hj hji
        by_cases e : j = i
        · subst e; exact h
        · exact hno j hj (by omega)
    · have h1 : i = l.length := by have : ¬ (i : Int) < l.length := by simpa using h
                                   omega
      subst h1
      simp only [EV, Nat.reduceEqDiff, Nat.reduceBEq, Nat.reduceLT, Nat.reduceLeDiff, Nat.reduceAdd, Nat.reduceSub, reduceIte]
      simp only [findI_no (fun j hj => hno j hj hj), EV, Nat.reduceEqDiff, Nat.reduceBEq, Nat.reduceLT, Nat.reduceLeDiff, Nat.reduceAdd, Nat.reduceSub, reduceIte, evRE, retVC, cellV', evR, nfz, nfzs, nfzss, List.contains_nil, List.contains_cons, Bool.or_false, or_true]

/-- slices.ContainsFunc[[]int,int] -/
def m86 : MC :=
  (.seq
   (.reg [⟨(some 4), none, .a (.asg (.c (.bool false)))⟩])
   (.seq
    (.reg [⟨(some 5), none, .q (.mov (.t 0))⟩,
      ⟨(some 6), none, .q (.mov (.t 1))⟩,
      ⟨(some 7), none, .a (.call (.fn 134) false [.lend (.t 5), .lend (.t 6)])⟩,
      ⟨(some 8), none, .q (.bin false .geq (.t 7) (.c (.int .i64 0)))⟩,
      ⟨(some 4), none, .a (.asg (.t 8))⟩])
    .ret))

theorem d86 (l : List Int) (hl : l.length < 9223372036854775807) (f : Nat) (caps : List AV) (q : Int → Bool) (hp : plains caps = true) (hb : bares caps = true) (hk : ∀ K, killVs K caps = caps) (hf : ∀ (st : St), frzBs st caps = caps)
    (hq : ∀ s ∈ l, Does Go.Proofs.Try.prog f (.v (.int .i64 s) :: caps) false (.v (.bool (q s))) (.dead :: caps.map fun _ => .dead)) :
    Does Go.Proofs.Try.prog 86 [.fsl 1 (l.map iv), .clo f caps] false (.v (.bool (l.any q))) [.dead, .dead] := by
  refine does_intro (mc := m86) (N := 9) (rs := [4]) (fx := []) 2 rfl (by decide +kernel) ?_
  simp only [m86, hp, hb, hk, hf, EV, Nat.reduceEqDiff, Nat.reduceBEq, Nat.reduceLT, Nat.reduceLeDiff, Nat.reduceAdd, Nat.reduceSub, reduceIte]
  refine callK_i (d134 l hl f caps q hp hb hk hf hq) ?_
  simp only [EV, Nat.reduceEqDiff, Nat.reduceBEq, Nat.reduceLT, Nat.reduceLeDiff, Nat.reduceAdd, Nat.reduceSub, reduceIte]
  simp only [findI_any, EV, Nat.reduceEqDiff, Nat.reduceBEq, Nat.reduceLT, Nat.reduceLeDiff, Nat.reduceAdd, Nat.reduceSub, reduceIte, evRE, retVC, cellV', evR, nfz, nfzs, nfzss, List.contains_nil, List.contains_cons, Bool.or_false, or_true]

/-- loop.example/g00837/impl.ReachedOf$1 -/
def m87 : MC :=
  (.seq
   (.reg [⟨(some 3), none, .a (.asg (.c (.bool false)))⟩])
   (.seq
    (.reg [⟨(some 4), none, .q (.load false 1 (.t 1))⟩,
      ⟨(some 5), none, .q (.mov (.t 0))⟩,
      ⟨(some 6), none, .a (.call (.fn 80) false [.lend (.t 4), .lend (.t 5)])⟩,
      ⟨(some 7), none, .q (.un .not (.t 6))⟩,
      ⟨(some 3), none, .a (.asg (.t 7))⟩])
    .ret))

theorem d87 (l : List Ty) (n : Int) (hl : (l.length : Int) ≤ 1048576) : Does Go.Proofs.Try.prog 87 [.v (.int .i64 n), .fptr [.fsl 6 (l.map Ty.z)]] false (.v (.bool (!isNum l n))) [.dead, .dead] := by
  refine does_intro (mc := m87) (N := 8) (rs := [3]) (fx := []) 2 rfl (by decide +kernel) ?_
  simp only [m87, EV, Nat.reduceEqDiff, Nat.reduceBEq, Nat.reduceLT, Nat.reduceLeDiff, Nat.reduceAdd, Nat.reduceSub, reduceIte]
  refine callK_i (d80 l n hl) ?_
  simp only [EV, Nat.reduceEqDiff, Nat.reduceBEq, Nat.reduceLT, Nat.reduceLeDiff, Nat.reduceAdd, Nat.reduceSub, reduceIte]
  simp only [EV, Nat.reduceEqDiff, Nat.reduceBEq, Nat.reduceLT, Nat.reduceLeDiff, Nat.reduceAdd, Nat.reduceSub, reduceIte, evRE, retVC, cellV', evR, nfz, nfzs, nfzss, List.contains_nil, List.contains_cons, Bool.or_false, or_true]

noncomputable def rchOk (l : List Ty) (n : List Int) : Bool := tabOk l && upIn n 0 ((l.length : Int) - 1)

theorem upIn_eq (n : List Int) (l : List Ty) : upIn n 0 ((l.length : Int) - 1) = (upB n && !(n.any fun k => !isNum l k)) := by
  unfold upIn upB
  rw [Bool.eq_iff_iff]
  simp only [decide_eq_true_eq, Bool.and_eq_true, Bool.not_eq_true', List.any_eq_false, Bool.not_eq_true, Bool.not_eq_false']
  constructor
  · rintro ⟨h1, h2⟩
    refine ⟨h1, fun k hk => ?_⟩
    have h3 := h2 k hk
    rw [isNum_in.2 (show 0 ≤ k ∧ k < (l.length : Int) by omega)]
    simp
  · rintro ⟨h1, h2⟩
    refine ⟨h1, fun k hk => ?_⟩
    have := isNum_in.1 (show isNum l k = true by simpa using h2 k hk)
    omega

theorem rchOk_spec {l : List Ty} {n : List Int} (h : rchOk l n = true) : tabOk l = true ∧ n.Nodup ∧ ∀ k ∈ n, 0 ≤ k ∧ k < (l.length : Int) := by
  simp only [rchOk, Bool.and_eq_true, upIn, decide_eq_true_eq] at h
  exact ⟨h.1, up_nodup h.2.1, fun k hk => by have := h.2.2 k hk; omega⟩

/-- loop.example/g00837/impl.ReachedOf -/
def m29 : MC :=
  (.seq
   (.reg [⟨(some 2), none, .a (.box 32 (.t 0))⟩,
     ⟨(some 4), none, .a (.asg (.nils 3 1))⟩,
     ⟨(some 5), none, .a (.asg (.c (.bool false)))⟩])
   (.seq
    (.seq
     (.reg [⟨(some 6), none, .q (.load false 1 (.t 2))⟩,
       ⟨(some 7), none, .a (.call (.fn 79) false [.lend (.t 6)])⟩,
       ⟨(some 8), none, .q (.un .not (.t 7))⟩,
       ⟨(some 9), none, .q (.mov (.t 8))⟩,
       ⟨(some 10), (some (9, false)), .q (.mov (.t 1))⟩,
       ⟨(some 11), (some (9, false)), .a (.call (.fn 85) false [.lend (.t 10)])⟩,
       ⟨(some 12), (some (9, false)), .q (.un .not (.t 11))⟩,
       ⟨(some 13), none, .q (.pick (.t 9) (.c (.bool true)) (.t 12))⟩,
       ⟨(some 14), none, .q (.mov (.t 13))⟩,
       ⟨(some 15), (some (14, false)), .q (.mov (.t 1))⟩,
       ⟨(some 16), (some (14, false)), .q (.mkf 87 [.t 2])⟩,
       ⟨(some 17), (some (14, false)), .a (.call (.fn 86) false [.lend (.t 15), .lend (.t 16)])⟩,
       ⟨(some 18), none, .q (.pick (.t 14) (.c (.bool true)) (.t 17))⟩])
     (.cond (.t 18)
      (.seq
       (.reg [⟨(some 4), none, .a (.asg (.nils 3 1))⟩,
         ⟨(some 5), none, .a (.asg (.c (.bool false)))⟩])
       .ret)
      .skip))
    (.seq
     (.reg [⟨(some 19), none, .q (.load false 1 (.t 2))⟩,
       ⟨(some 20), none, .q (.mov (.t 1))⟩,
       ⟨(some 21), none, .a (.call (.fn 88) false [.lend (.t 19), .lend (.t 20), .lend (.c (.bool true))])⟩,
       ⟨(some 4), none, .a (.asg (.t 21))⟩,
       ⟨(some 5), none, .a (.asg (.c (.bool true)))⟩])
     .ret)))

set_option maxRecDepth 100000 in
theorem d29 (l : List Ty) (n : List Int) (hl : (l.length : Int) ≤ 1048576) (hs : ∀ s ∈ l, s.sm) (hn : (n.length : Int) ≤ 1048576) :
    Does Go.Proofs.Try.prog 29 [.fsl 6 (l.map Ty.z), .fsl 1 (n.map iv)] false (.tup [.usl 3 1 ((if rchOk l n = true then reachL l true n else []).map iv), .v (.bool (rchOk l n))]) [.dead, .dead] := by
  refine does_intro (mc := m29) (N := 22) (rs := [4, 5]) (fx := []) 2 rfl (by decide +kernel) ?_
  simp only [m29, EV, Nat.reduceEqDiff, Nat.reduceBEq, Nat.reduceLT, Nat.reduceLeDiff, Nat.reduceAdd, Nat.reduceSub, reduceIte]
  refine callK_i (d79 l hl hs) ?_
  simp only [EV, Nat.reduceEqDiff, Nat.reduceBEq, Nat.reduceLT, Nat.reduceLeDiff, Nat.reduceAdd, Nat.reduceSub, reduceIte]
  rcases ht : tabOk l with _ | _
  · have e : rchOk l n = false := by unfold rchOk; rw [ht]; rfl
    simp only [Bool.not_false, EV, Nat.reduceEqDiff, Nat.reduceBEq, Nat.reduceLT, Nat.reduceLeDiff, Nat.reduceAdd, Nat.reduceSub, reduceIte]
    simp only [e, List.map_nil, EV, Nat.reduceEqDiff, Nat.reduceBEq, Nat.reduceLT, Nat.reduceLeDiff, Nat.reduceAdd, Nat.reduceSub, reduceIte, evRE, retVC, cellV', evR, nfz, nfzs, nfzss, List.contains_nil, List.contains_cons, Bool.or_false, or_true]
  simp only [Bool.not_true, EV, Nat.reduceEqDiff, Nat.reduceBEq, Nat.reduceLT, Nat.reduceLeDiff, Nat.reduceAdd, Nat.reduceSub, reduceIte]
  refine callK_i (d85 n hn) ?_
  simp only [EV, Nat.reduceEqDiff, Nat.reduceBEq, Nat.reduceLT, Nat.reduceLeDiff, Nat.reduceAdd, Nat.reduceSub, reduceIte]
  have hu := upIn_eq n l
  rcases hb : upB n with _ | _
  · have e : rchOk l n = false := by unfold rchOk; rw [ht, hu, hb]; rfl
    simp only [Bool.not_false, EV, Nat.reduceEqDiff, Nat.reduceBEq, Nat.reduceLT, Nat.reduceLeDiff, Nat.reduceAdd, Nat.reduceSub, reduceIte]
    simp only [e, List.map_nil, EV, Nat.reduceEqDiff, Nat.reduceBEq, Nat.reduceLT, Nat.reduceLeDiff, Nat.reduceAdd, Nat.reduceSub, reduceIte, evRE, retVC, cellV', evR, nfz, nfzs, nfzss, List.contains_nil, List.contains_cons, Bool.or_false, or_true]
  simp only [Bool.not_true, EV, Nat.reduceEqDiff, Nat.reduceBEq, Nat.reduceLT, Nat.reduceLeDiff, Nat.reduceAdd, Nat.reduceSub, reduceIte]
  refine callK_i (d86 n (by omega) 87 [.fptr [.fsl 6 (l.map Ty.z)]] (fun k => !isNum l k) rfl rfl (fun _ => rfl) (fun _ => rfl) (fun s _ => d87 l s hl)) ?_
  simp only [EV, Nat.reduceEqDiff, Nat.reduceBEq, Nat.reduceLT, Nat.reduceLeDiff, Nat.reduceAdd, Nat.reduceSub, reduceIte]
  rcases ha : (n.any fun k => !isNum l k) with _ | _
  rotate_left
  · have e : rchOk l n = false := by unfold rchOk; rw [ht, hu, hb, ha]; rfl
    simp only [EV, Nat.reduceEqDiff, Nat.reduceBEq, Nat.reduceLT, Nat.reduceLeDiff, Nat.reduceAdd, Nat.reduceSub, reduceIte]
    simp only [e, List.map_nil, EV, Nat.reduceEqDiff, Nat.reduceBEq, Nat.reduceLT, Nat.reduceLeDiff, Nat.reduceAdd, Nat.reduceSub, reduceIte, evRE, retVC, cellV', evR, nfz, nfzs, nfzss, List.contains_nil, List.contains_cons, Bool.or_false, or_true]
  have e : rchOk l n = true := by unfold rchOk; rw [ht, hu, hb, ha]; rfl
  obtain ⟨_, hnd, hin⟩ := rchOk_spec e
  simp only [EV, Nat.reduceEqDiff, Nat.reduceBEq, Nat.reduceLT, Nat.reduceLeDiff, Nat.reduceAdd, Nat.reduceSub, reduceIte]
  refine callK_i (d88 l n true hl hs (tabOk_tys ht) hin hnd) ?_
  simp only [EV, Nat.reduceEqDiff, Nat.reduceBEq, Nat.reduceLT, Nat.reduceLeDiff, Nat.reduceAdd, Nat.reduceSub, reduceIte]
  simp only [e, iv_nfz, EV, Nat.reduceEqDiff, Nat.reduceBEq, Nat.reduceLT, Nat.reduceLeDiff, Nat.reduceAdd, Nat.reduceSub, reduceIte, evRE, retVC, cellV', evR, nfz, nfzs, nfzss, List.contains_nil, List.contains_cons, Bool.or_false, or_true]

/-- loop.example/g00837/spec.ReachedOf -/
def m27 : MC :=
  (.seq
   (.reg [⟨(some 4), none, .a (.asg (.nils 3 1))⟩,
     ⟨(some 5), none, .a (.asg (.c (.bool false)))⟩])
   (.seq
    (.seq
     (.reg [⟨(some 6), none, .q (.mov (.t 0))⟩,
       ⟨(some 7), none, .a (.call (.fn 82) false [.lend (.t 6)])⟩,
       ⟨(some 8), none, .q (.un .not (.t 7))⟩,
       ⟨(some 9), none, .q (.mov (.t 8))⟩,
       ⟨(some 10), (some (9, false)), .q (.mov (.t 1))⟩,
       ⟨(some 11), (some (9, false)), .q (.mov (.t 0))⟩,
       ⟨(some 12), (some (9, false)), .q (.len false (.t 11))⟩,
       ⟨(some 13), (some (9, false)), .q (.bin false .sub (.t 12) (.c (.int .i64 1)))⟩,
       ⟨(some 14), (some (9, false)), .a (.call (.fn 83) false [.lend (.t 10), .lend (.c (.int .i64 0)), .lend (.t 13)])⟩,
       ⟨(some 15), (some (9, false)), .q (.un .not (.t 14))⟩,
       ⟨(some 16), none, .q (.pick (.t 9) (.c (.bool true)) (.t 15))⟩])
     (.cond (.t 16)
      (.seq
       (.reg [⟨(some 4), none, .a (.asg (.nils 3 1))⟩,
         ⟨(some 5), none, .a (.asg (.c (.bool false)))⟩])
       .ret)
      .skip))
    (.seq
     (.reg [⟨(some 17), none, .q (.mov (.t 0))⟩,
       ⟨(some 18), none, .q (.mov (.t 1))⟩,
       ⟨(some 19), none, .a (.call (.fn 84) false [.lend (.t 17), .lend (.t 18), .lend (.c (.bool true))])⟩,
       ⟨(some 4), none, .a (.asg (.t 19))⟩,
       ⟨(some 5), none, .a (.asg (.c (.bool true)))⟩])
     .ret)))

set_option maxRecDepth 100000 in
theorem d27 (l : List Ty) (n : List Int) (hl : (l.length : Int) ≤ 1048576) (hs : ∀ s ∈ l, s.sm) (hn : (n.length : Int) ≤ 1048576) :
    Does Go.Proofs.Try.prog 27 [.fsl 6 (l.map Ty.z), .fsl 1 (n.map iv)] false (.tup [.usl 3 1 ((if rchOk l n = true then reachL l true n else []).map iv), .v (.bool (rchOk l n))]) [.dead, .dead] := by
  refine does_intro (mc := m27) (N := 20) (rs := [4, 5]) (fx := []) 2 rfl (by decide +kernel) ?_
  simp only [m27, EV, Nat.reduceEqDiff, Nat.reduceBEq, Nat.reduceLT, Nat.reduceLeDiff, Nat.reduceAdd, Nat.reduceSub, reduceIte]
  refine callK_i (d82 l hl hs) ?_
  simp only [EV, Nat.reduceEqDiff, Nat.reduceBEq, Nat.reduceLT, Nat.reduceLeDiff, Nat.reduceAdd, Nat.reduceSub, reduceIte]
  rcases ht : tabOk l with _ | _
  · have e : rchOk l n = false := by unfold rchOk; rw [ht]; rfl
    simp only [Bool.not_false, EV, Nat.reduceEqDiff, Nat.reduceBEq, Nat.reduceLT, Nat.reduceLeDiff, Nat.reduceAdd, Nat.reduceSub, reduceIte]
    simp only [e, List.map_nil, EV, Nat.reduceEqDiff, Nat.reduceBEq, Nat.reduceLT, Nat.reduceLeDiff, Nat.reduceAdd, Nat.reduceSub, reduceIte, evRE, retVC, cellV', evR, nfz, nfzs, nfzss, List.contains_nil, List.contains_cons, Bool.or_false, or_true]
  simp only [Bool.not_true, EV, Nat.reduceEqDiff, Nat.reduceBEq, Nat.reduceLT, Nat.reduceLeDiff, Nat.reduceAdd, Nat.reduceSub, reduceIte]
  rw [w64 _ (by omega)]
  refine callK_i (d83 n 0 ((l.length : Int) - 1) hn) ?_
  simp only [EV, Nat.reduceEqDiff, Nat.reduceBEq, Nat.reduceLT, Nat.reduceLeDiff, Nat.reduceAdd, Nat.reduceSub, reduceIte]
  rcases hb : upIn n 0 ((l.length : Int) - 1) with _ | _
  · have e : rchOk l n = false := by unfold rchOk; rw [ht, hb]; rfl
    simp only [Bool.not_false, EV, Nat.reduceEqDiff, Nat.reduceBEq, Nat.reduceLT, Nat.reduceLeDiff, Nat.reduceAdd, Nat.reduceSub, reduceIte]
    simp only [e, List.map_nil, EV, Nat.reduceEqDiff, Nat.reduceBEq, Nat.reduceLT, Nat.reduceLeDiff, Nat.reduceAdd, Nat.reduceSub, reduceIte, evRE, retVC, cellV', evR, nfz, nfzs, nfzss, List.contains_nil, List.contains_cons, Bool.or_false, or_true]
  have e : rchOk l n = true := by unfold rchOk; rw [ht, hb]; rfl
  obtain ⟨_, hnd, hin⟩ := rchOk_spec e
  simp only [Bool.not_true, EV, Nat.reduceEqDiff, Nat.reduceBEq, Nat.reduceLT, Nat.reduceLeDiff, Nat.reduceAdd, Nat.reduceSub, reduceIte]
  refine callK_i (d84 l n true hl hs (tabOk_tys ht) hin hn) ?_
  simp only [EV, Nat.reduceEqDiff, Nat.reduceBEq, Nat.reduceLT, Nat.reduceLeDiff, Nat.reduceAdd, Nat.reduceSub, reduceIte]
  simp only [e, iv_nfz, EV, Nat.reduceEqDiff, Nat.reduceBEq, Nat.reduceLT, Nat.reduceLeDiff, Nat.reduceAdd, Nat.reduceSub, reduceIte, evRE, retVC, cellV', evR, nfz, nfzs, nfzss, List.contains_nil, List.contains_cons, Bool.or_false, or_true]

end Go.AM
namespace Go.AM
set_option linter.unusedVariables false
set_option linter.unusedSimpArgs false
theorem cnt_tot : ∀ l : List Ty, (∀ s ∈ l, s.sm) → cntTys l ≤ 5 * l.length + 3 * 1048576 * l.length
  | [], _ => by simp [cntTys]
  | t :: l, h => by
    have h1 := cnt_tot l fun s hs => h s (by simp [hs])
    have h2 := h t (by simp)
    unfold Ty.sm at h2
    have h3 := h2.2.2.2.1.1
    simp only [cntTys, cntTy, List.length_cons]
    omega

/-- loop.example/g00837/laws.FnExactReachedOf -/
def m7 : MC :=
  (.seq
   (.reg [⟨(some 4), none, .a (.asg (.c (.bool false)))⟩])
   (.keep [0, 1]
   (.seq
    (.seq
     (.reg [⟨(some 17), none, .q (.mov (.t 1))⟩,
       ⟨(some 18), none, .q (.len false (.t 17))⟩,
       ⟨(some 19), none, .q (.bin false .gtr (.t 18) (.c (.int .i64 1048576)))⟩])
     (.keep [0, 1, 19]
     (.cond (.t 19)
      (.seq
       (.reg [⟨(some 4), none, .a (.asg (.c (.bool true)))⟩])
       .ret)
      .skip)))
    (.keep [0, 1]
    (.seq
     (.reg [⟨(some 5), none, .a (.asg (.c (.int .i64 1048576)))⟩])
     (.keep [0, 1, 5]
     (.seq
      (.reg [⟨(some 20), none, .q (.mov (.t 0))⟩,
        ⟨(some 21), none, .q (.mov (.t 5))⟩,
        ⟨(some 22), none, .a (.call (.fn 18) false [.lend (.t 20), .lend (.t 21)])⟩,
        ⟨(some 5), none, .a (.asg (.t 22))⟩])
      (.keep [0, 1, 5]
      (.seq
       (.seq
        (.reg [⟨(some 23), none, .q (.mov (.t 5))⟩,
          ⟨(some 24), none, .q (.bin false .lss (.t 23) (.c (.int .i64 0)))⟩])
        (.keep [0, 1, 24]
        (.cond (.t 24)
         (.seq
          (.reg [⟨(some 4), none, .a (.asg (.c (.bool true)))⟩])
          .ret)
         .skip)))
       (.keep [0, 1]
       (.seq
        (.reg [⟨(some 26), none, .q (.mov (.t 0))⟩,
          ⟨(some 27), none, .a (.call (.fn 20) false [.lend (.t 26)])⟩,
          ⟨(some 28), none, .q (.mov (.t 1))⟩,
          ⟨(some 29), none, .a (.call (.fn 28) false [.lend (.t 28)])⟩,
          ⟨(some 30), none, .a (.call (.fn 27) false [.lend (.t 27), .lend (.t 29)])⟩,
          ⟨(some 25), none, .a (.asg (.t 30))⟩,
          ⟨(some 31), none, .q (.ext 25 0)⟩,
          ⟨(some 32), none, .q (.ext 25 1)⟩,
          ⟨(some 6), none, .a (.asg (.t 31))⟩,
          ⟨(some 7), none, .a (.asg (.t 32))⟩])
        (.keep [0, 1, 6, 7, 25, 30, 31]
        (.seq
         (.reg [⟨(some 33), none, .q (.mov (.t 0))⟩,
           ⟨(some 34), none, .a (.call (.fn 20) false [.lend (.t 33)])⟩,
           ⟨(some 8), none, .a (.asg (.t 34))⟩])
         (.keep [0, 1, 6, 7, 8, 25, 30, 31, 34]
         (.seq
          (.reg [⟨(some 35), none, .q (.mov (.t 1))⟩,
            ⟨(some 36), none, .a (.call (.fn 28) false [.lend (.t 35)])⟩,
            ⟨(some 9), none, .a (.asg (.t 36))⟩])
          (.keep [0, 1, 6, 7, 8, 9, 25, 30, 31, 34, 36]
          (.seq
           (.reg [⟨(some 38), none, .q (.mov (.t 8))⟩,
             ⟨(some 39), none, .q (.mov (.t 9))⟩,
             ⟨(some 40), none, .a (.call (.fn 29) false [.lend (.t 38), .lend (.t 39)])⟩,
             ⟨(some 37), none, .a (.asg (.t 40))⟩,
             ⟨(some 41), none, .q (.ext 37 0)⟩,
             ⟨(some 42), none, .q (.ext 37 1)⟩,
             ⟨(some 10), none, .a (.asg (.t 41))⟩,
             ⟨(some 11), none, .a (.asg (.t 42))⟩])
           (.keep [0, 1, 6, 7, 8, 9, 10, 11, 25, 30, 31, 34, 36, 37, 40, 41]
           (.seq
            (.seq
             (.reg [⟨(some 43), none, .q (.mov (.t 10))⟩,
               ⟨(some 44), none, .q (.mov (.t 6))⟩,
               ⟨(some 45), none, .a (.call (.fn 30) false [.lend (.t 43), .lend (.t 44)])⟩,
               ⟨(some 46), none, .q (.un .not (.t 45))⟩,
               ⟨(some 47), none, .q (.mov (.t 46))⟩,
               ⟨(some 48), (some (47, false)), .q (.mov (.t 11))⟩,
               ⟨(some 49), (some (47, false)), .q (.mov (.t 7))⟩,
               ⟨(some 50), (some (47, false)), .q (.bin true .neq (.t 48) (.t 49))⟩,
               ⟨(some 51), none, .q (.pick (.t 47) (.c (.bool true)) (.t 50))⟩])
             (.keep [0, 1, 6, 7, 8, 9, 10, 11, 25, 30, 31, 34, 36, 37, 40, 41, 51]
             (.cond (.t 51)
              (.seq
               (.reg [⟨(some 4), none, .a (.asg (.c (.bool false)))⟩])
               .ret)
              .skip)))
            (.keep [0, 1, 6, 7, 8, 9, 10, 11, 25, 30, 31, 34, 36, 37, 40, 41]
            (.seq
             (.seq
              (.reg [⟨(some 52), none, .q (.mov (.t 8))⟩,
                ⟨(some 53), none, .q (.mov (.t 0))⟩,
                ⟨(some 54), none, .a (.call (.fn 20) false [.lend (.t 53)])⟩,
                ⟨(some 55), none, .a (.call (.fn 22) false [.lend (.t 52), .lend (.t 54)])⟩,
                ⟨(some 56), none, .q (.un .not (.t 55))⟩])
              (.keep [0, 1, 6, 7, 8, 9, 10, 11, 25, 30, 31, 34, 36, 37, 40, 41, 56]
              (.cond (.t 56)
               (.seq
                (.reg [⟨(some 4), none, .a (.asg (.c (.bool false)))⟩])
                .ret)
               .skip)))
             (.keep [0, 1, 6, 7, 8, 9, 10, 11, 25, 30, 31, 34, 36, 37, 40, 41]
             (.seq
              (.seq
               (.reg [⟨(some 57), none, .q (.mov (.t 9))⟩,
                 ⟨(some 58), none, .q (.mov (.t 1))⟩,
                 ⟨(some 59), none, .a (.call (.fn 28) false [.lend (.t 58)])⟩,
                 ⟨(some 60), none, .a (.call (.fn 30) false [.lend (.t 57), .lend (.t 59)])⟩,
                 ⟨(some 61), none, .q (.un .not (.t 60))⟩])
               (.keep [0, 1, 6, 7, 8, 9, 10, 11, 25, 30, 31, 34, 36, 37, 40, 41, 61]
               (.cond (.t 61)
                (.seq
                 (.reg [⟨(some 4), none, .a (.asg (.c (.bool false)))⟩])
                 .ret)
                .skip)))
              (.keep [0, 1, 6, 7, 8, 9, 10, 11, 25, 30, 31, 34, 36, 37, 40, 41]
              (.seq
               (.reg [⟨(some 12), none, .a (.asg (.c (.int .i64 1)))⟩])
               (.keep [0, 1, 6, 7, 8, 9, 10, 11, 12, 25, 30, 31, 34, 36, 37, 40, 41]
               (.seq
                (.reg [⟨(some 62), none, .q (.mov (.t 8))⟩,
                  ⟨(some 63), none, .q (.mov (.t 12))⟩,
                  ⟨(some 64), none, .a (.call (.fn 31) false [.io (.t 62), .lend (.t 63)])⟩,
                  ⟨(some 12), none, .a (.asg (.t 64))⟩])
                (.keep [0, 1, 6, 7, 9, 10, 11, 12, 25, 30, 31, 36, 37, 40, 41]
                (.seq
                 (.reg [⟨(some 65), none, .q (.mov (.t 9))⟩,
                   ⟨(some 66), none, .q (.mov (.t 12))⟩,
                   ⟨(some 67), none, .a (.call (.fn 32) false [.io (.t 65), .lend (.t 66)])⟩,
                   ⟨(some 12), none, .a (.asg (.t 67))⟩])
                 (.keep [0, 1, 6, 7, 10, 11, 12, 25, 30, 31, 37, 40, 41]
                 (.seq
                  (.seq
                   (.reg [⟨(some 68), none, .q (.mov (.t 12))⟩,
                     ⟨(some 69), none, .q (.bin false .lss (.t 68) (.c (.int .i64 0)))⟩,
                     ⟨(some 70), none, .q (.mov (.t 69))⟩,
                     ⟨(some 71), (some (70, false)), .q (.mov (.t 10))⟩,
                     ⟨(some 72), (some (70, false)), .q (.mov (.t 6))⟩,
                     ⟨(some 73), (some (70, false)), .a (.call (.fn 30) false [.lend (.t 71), .lend (.t 72)])⟩,
                     ⟨(some 74), (some (70, false)), .q (.un .not (.t 73))⟩,
                     ⟨(some 75), none, .q (.pick (.t 70) (.c (.bool true)) (.t 74))⟩,
                     ⟨(some 76), none, .q (.mov (.t 75))⟩,
                     ⟨(some 77), (some (76, false)), .q (.mov (.t 11))⟩,
                     ⟨(some 78), (some (76, false)), .q (.mov (.t 7))⟩,
                     ⟨(some 79), (some (76, false)), .q (.bin true .neq (.t 77) (.t 78))⟩,
                     ⟨(some 80), none, .q (.pick (.t 76) (.c (.bool true)) (.t 79))⟩])
                   (.keep [0, 1, 6, 7, 10, 25, 30, 31, 37, 40, 41, 80]
                   (.cond (.t 80)
                    (.seq
                     (.reg [⟨(some 4), none, .a (.asg (.c (.bool false)))⟩])
                     .ret)
                    .skip)))
                  (.keep [0, 1, 6, 7, 10, 25, 30, 31, 37, 40, 41]
                  (.seq
                   (.reg [⟨(some 13), none, .a (.asg (.c (.int .i64 1)))⟩])
                   (.keep [0, 1, 6, 7, 10, 13, 25, 30, 31, 37, 40, 41]
                   (.seq
                    (.reg [⟨(some 81), none, .q (.mov (.t 10))⟩,
                      ⟨(some 82), none, .q (.mov (.t 13))⟩,
                      ⟨(some 83), none, .a (.call (.fn 32) false [.io (.t 81), .lend (.t 82)])⟩,
                      ⟨(some 13), none, .a (.asg (.t 83))⟩])
                    (.keep [0, 1, 6, 7, 10, 13, 25, 30, 31, 37, 40, 41]
                    (.seq
                     (.reg [⟨(some 14), none, .a (.asg (.c (.int .i64 1)))⟩])
                     (.keep [0, 1, 6, 7, 10, 13, 14, 25, 30, 31, 37, 40, 41]
                     (.seq
                      (.reg [⟨(some 84), none, .q (.mov (.t 10))⟩,
                        ⟨(some 85), none, .q (.mov (.t 14))⟩,
                        ⟨(some 86), none, .a (.call (.fn 33) false [.lend (.t 84), .lend (.t 85)])⟩,
                        ⟨(some 14), none, .a (.asg (.t 86))⟩])
                      (.keep [0, 1, 6, 7, 10, 13, 14, 25, 30, 31, 37, 40, 41]
                      (.seq
                       (.seq
                        (.reg [⟨(some 87), none, .q (.mov (.t 14))⟩,
                          ⟨(some 88), none, .q (.bin false .lss (.t 87) (.c (.int .i64 0)))⟩])
                        (.keep [0, 1, 6, 7, 10, 13, 14, 25, 30, 31, 37, 40, 41, 88]
                        (.cond (.t 88)
                         (.seq
                          (.reg [⟨(some 4), none, .a (.asg (.c (.bool false)))⟩])
                          .ret)
                         .skip)))
                       (.keep [0, 1, 6, 7, 10, 13, 14, 25, 30, 31, 37, 40, 41]
                       (.seq
                        (.seq
                         (.reg [⟨(some 89), none, .q (.mov (.t 14))⟩,
                           ⟨(some 90), none, .q (.mov (.t 13))⟩,
                           ⟨(some 91), none, .q (.bin false .neq (.t 89) (.t 90))⟩])
                         (.keep [0, 1, 6, 7, 10, 13, 25, 30, 31, 37, 40, 41, 91]
                         (.cond (.t 91)
                          (.seq
                           (.reg [⟨(some 4), none, .a (.asg (.c (.bool false)))⟩])
                           .ret)
                          .skip)))
                        (.keep [0, 1, 6, 7, 10, 13, 25, 30, 31, 37, 40, 41]
                        (.seq
                         (.reg [⟨(some 93), none, .q (.mov (.t 0))⟩,
                           ⟨(some 94), none, .a (.call (.fn 20) false [.lend (.t 93)])⟩,
                           ⟨(some 95), none, .q (.mov (.t 1))⟩,
                           ⟨(some 96), none, .a (.call (.fn 28) false [.lend (.t 95)])⟩,
                           ⟨(some 97), none, .a (.call (.fn 29) false [.lend (.t 94), .lend (.t 96)])⟩,
                           ⟨(some 92), none, .a (.asg (.t 97))⟩,
                           ⟨(some 98), none, .q (.ext 92 0)⟩,
                           ⟨(some 99), none, .q (.ext 92 1)⟩,
                           ⟨(some 15), none, .a (.asg (.t 98))⟩,
                           ⟨(some 16), none, .a (.asg (.t 99))⟩])
                         (.keep [6, 7, 10, 13, 15, 16, 25, 30, 31, 37, 40, 41, 92, 97, 98]
                         (.seq
                          (.seq
                           (.reg [⟨(some 100), none, .q (.mov (.t 15))⟩,
                             ⟨(some 101), none, .q (.mov (.t 6))⟩,
                             ⟨(some 102), none, .a (.call (.fn 30) false [.lend (.t 100), .lend (.t 101)])⟩,
                             ⟨(some 103), none, .q (.un .not (.t 102))⟩,
                             ⟨(some 104), none, .q (.mov (.t 103))⟩,
                             ⟨(some 105), (some (104, false)), .q (.mov (.t 16))⟩,
                             ⟨(some 106), (some (104, false)), .q (.mov (.t 7))⟩,
                             ⟨(some 107), (some (104, false)), .q (.bin true .neq (.t 105) (.t 106))⟩,
                             ⟨(some 108), none, .q (.pick (.t 104) (.c (.bool true)) (.t 107))⟩])
                           (.keep [10, 13, 37, 40, 41, 108]
                           (.cond (.t 108)
                            (.seq
                             (.reg [⟨(some 4), none, .a (.asg (.c (.bool false)))⟩])
                             .ret)
                            .skip)))
                          (.keep [10, 13, 37, 40, 41]
                          (.seq
                           (.reg [⟨(some 14), none, .a (.asg (.c (.int .i64 1)))⟩])
                           (.keep [10, 13, 14, 37, 40, 41]
                           (.seq
                            (.reg [⟨(some 109), none, .q (.mov (.t 10))⟩,
                              ⟨(some 110), none, .q (.mov (.t 14))⟩,
                              ⟨(some 111), none, .a (.call (.fn 33) false [.lend (.t 109), .lend (.t 110)])⟩,
                              ⟨(some 14), none, .a (.asg (.t 111))⟩])
                            (.keep [13, 14]
                            (.seq
                             (.seq
                              (.reg [⟨(some 112), none, .q (.mov (.t 14))⟩,
                                ⟨(some 113), none, .q (.bin false .lss (.t 112) (.c (.int .i64 0)))⟩])
                              (.keep [13, 14, 113]
                              (.cond (.t 113)
                               (.seq
                                (.reg [⟨(some 4), none, .a (.asg (.c (.bool false)))⟩])
                                .ret)
                               .skip)))
                             (.keep [13, 14]
                             (.seq
                              (.seq
                               (.reg [⟨(some 114), none, .q (.mov (.t 14))⟩,
                                 ⟨(some 115), none, .q (.mov (.t 13))⟩,
                                 ⟨(some 116), none, .q (.bin false .neq (.t 114) (.t 115))⟩])
                               (.keep [116]
                               (.cond (.t 116)
                                (.seq
                                 (.reg [⟨(some 4), none, .a (.asg (.c (.bool false)))⟩])
                                 .ret)
                                .skip)))
                              (.keep []
                              (.seq
                               (.reg [⟨(some 4), none, .a (.asg (.c (.bool true)))⟩])
                               .ret)))))))))))))))))))))))))))))))))))))))))))))))))))))))))

set_option maxHeartbeats 1000000 in
set_option maxRecDepth 100000 in
theorem d7 (a : List Ty) (n : List Int) (ha : (a.length : Int) ≤ 9223372036854775807) (hoa : ∀ s ∈ a, s.ok) (hn0 : (n.length : Int) ≤ 9223372036854775807) :
    Does Go.Proofs.Try.prog 7 [.fsl 6 (a.map Ty.z), .fsl 1 (n.map iv)] false (.v (.bool true)) [.dead, .dead] := by
  refine does_intro (mc := m7) (N := 117) (rs := [4]) (fx := []) 2 rfl (by decide +kernel) ?_
  simp only [m7, EV, Nat.reduceEqDiff, Nat.reduceBEq, Nat.reduceLT, Nat.reduceLeDiff, Nat.reduceAdd, Nat.reduceSub, reduceIte]
  refine cK_cut (fun h => ?_) (fun h => ?_)
  · simp only [EV, Nat.reduceEqDiff, Nat.reduceBEq, Nat.reduceLT, Nat.reduceLeDiff, Nat.reduceAdd, Nat.reduceSub, reduceIte]
    simp only [EV, Nat.reduceEqDiff, Nat.reduceBEq, Nat.reduceLT, Nat.reduceLeDiff, Nat.reduceAdd, Nat.reduceSub, reduceIte, evRE, retVC, cellV', evR, nfz, nfzs, nfzss, List.contains_nil, List.contains_cons, Bool.or_false, or_true]
  have hn : (n.length : Int) ≤ 1048576 := by have : ¬ 1048576 < (n.length : Int) := by simpa using h
                                             omega
  clear h
  simp only [EV, Nat.reduceEqDiff, Nat.reduceBEq, Nat.reduceLT, Nat.reduceLeDiff, Nat.reduceAdd, Nat.reduceSub, reduceIte]
  refine callK_i (d18 a 1048576 (by omega) (by omega) ha hoa) ?_
  simp only [EV, Nat.reduceEqDiff, Nat.reduceBEq, Nat.reduceLT, Nat.reduceLeDiff, Nat.reduceAdd, Nat.reduceSub, reduceIte]
  refine cK_cut (fun h => ?_) (fun h => ?_)
  · simp only [EV, Nat.reduceEqDiff, Nat.reduceBEq, Nat.reduceLT, Nat.reduceLeDiff, Nat.reduceAdd, Nat.reduceSub, reduceIte]
    simp only [EV, Nat.reduceEqDiff, Nat.reduceBEq, Nat.reduceLT, Nat.reduceLeDiff, Nat.reduceAdd, Nat.reduceSub, reduceIte, evRE, retVC, cellV', evR, nfz, nfzs, nfzss, List.contains_nil, List.contains_cons, Bool.or_false, or_true]
  have h0 : 0 ≤ szTyS a 1048576 := by simpa using h
  have h1 := szTyS_tot a _ h0
  have h2 := totTys_nn a
  have h3 : (a.length : Int) ≤ 1048576 := by omega
  have hx : ∀ s ∈ a, s.sm := fun s g => s.sm_of (by have := totTys_mem a s g; omega)
  clear h
  have d27' := d27 a n h3 hx hn
  have d29' := d29 a n h3 hx hn
  have hRl : (if rchOk a n = true then reachL a true n else []).length ≤ 1048576 := by
    split
    · rename_i hr
      have := nodup_le (up_nodup (reachL_up a true n)) (fun k hk => (mem_reachL.1 hk).1)
      omega
    · simp
  generalize (if rchOk a n = true then reachL a true n else []) = R at d27' d29' hRl
  have hct := cnt_tot a hx
  have hcn := cntTys_nn a
  have hk1 : decide (1 + cntTys a + (n.length : Int) < 0) = false := by simp; omega
  have hk2 : decide (1 + (R.length : Int) < 0) = false := by simp; omega
  simp only [EV, Nat.reduceEqDiff, Nat.reduceBEq, Nat.reduceLT, Nat.reduceLeDiff, Nat.reduceAdd, Nat.reduceSub, reduceIte]
  refine callK_i (d20 a h3 hx) ?_
  simp only [Ty.frz, iv_frz, EV, Nat.reduceEqDiff, Nat.reduceBEq, Nat.reduceLT, Nat.reduceLeDiff, Nat.reduceAdd, Nat.reduceSub, reduceIte]
  refine callK_i (d28 n hn) ?_
  simp only [Ty.frz, iv_frz, EV, Nat.reduceEqDiff, Nat.reduceBEq, Nat.reduceLT, Nat.reduceLeDiff, Nat.reduceAdd, Nat.reduceSub, reduceIte]
  refine callK_i d27' ?_
  simp only [Ty.frz, iv_frz, EV, Nat.reduceEqDiff, Nat.reduceBEq, Nat.reduceLT, Nat.reduceLeDiff, Nat.reduceAdd, Nat.reduceSub, reduceIte]
  refine callK_i (d20 a h3 hx) ?_
  simp only [Ty.frz, iv_frz, EV, Nat.reduceEqDiff, Nat.reduceBEq, Nat.reduceLT, Nat.reduceLeDiff, Nat.reduceAdd, Nat.reduceSub, reduceIte]
  refine callK_i (d28 n hn) ?_
  simp only [Ty.frz, iv_frz, EV, Nat.reduceEqDiff, Nat.reduceBEq, Nat.reduceLT, Nat.reduceLeDiff, Nat.reduceAdd, Nat.reduceSub, reduceIte]
  refine callK_i d29' ?_
  simp only [Ty.frz, iv_frz, EV, Nat.reduceEqDiff, Nat.reduceBEq, Nat.reduceLT, Nat.reduceLeDiff, Nat.reduceAdd, Nat.reduceSub, reduceIte]
  refine callK_i (d30 R (by omega)) ?_
  simp only [Ty.frz, iv_frz, EV, Nat.reduceEqDiff, Nat.reduceBEq, Nat.reduceLT, Nat.reduceLeDiff, Nat.reduceAdd, Nat.reduceSub, reduceIte]
  refine callK_i (d20 a h3 hx) ?_
  simp only [Ty.frz, iv_frz, EV, Nat.reduceEqDiff, Nat.reduceBEq, Nat.reduceLT, Nat.reduceLeDiff, Nat.reduceAdd, Nat.reduceSub, reduceIte]
  refine callK_i (d22 a h3 hx) ?_
  simp only [Ty.frz, iv_frz, EV, Nat.reduceEqDiff, Nat.reduceBEq, Nat.reduceLT, Nat.reduceLeDiff, Nat.reduceAdd, Nat.reduceSub, reduceIte]
  refine callK_i (d28 n hn) ?_
  simp only [Ty.frz, iv_frz, EV, Nat.reduceEqDiff, Nat.reduceBEq, Nat.reduceLT, Nat.reduceLeDiff, Nat.reduceAdd, Nat.reduceSub, reduceIte]
  refine callK_i (d30 n hn) ?_
  simp only [Ty.frz, iv_frz, EV, Nat.reduceEqDiff, Nat.reduceBEq, Nat.reduceLT, Nat.reduceLeDiff, Nat.reduceAdd, Nat.reduceSub, reduceIte]
  refine callK2_i (d31 a 1 (by omega) (by omega) h3 hx) rfl (by simp [shapeOf, mkTyS_len]) ?_
  simp only [Ty.frz, iv_frz, EV, Nat.reduceEqDiff, Nat.reduceBEq, Nat.reduceLT, Nat.reduceLeDiff, Nat.reduceAdd, Nat.reduceSub, reduceIte]
  refine callK2_i (d32 n (1 + cntTys a) (by omega) (by omega)) rfl (by simp [shapeOf, upI_len]) ?_
  simp only [Ty.frz, iv_frz, hk1, EV, Nat.reduceEqDiff, Nat.reduceBEq, Nat.reduceLT, Nat.reduceLeDiff, Nat.reduceAdd, Nat.reduceSub, reduceIte]
  refine callK_i (d30 R (by omega)) ?_
  simp only [Ty.frz, iv_frz, hk1, EV, Nat.reduceEqDiff, Nat.reduceBEq, Nat.reduceLT, Nat.reduceLeDiff, Nat.reduceAdd, Nat.reduceSub, reduceIte]
  refine callK2_i (d32 R 1 (by omega) (by omega)) rfl (by simp [shapeOf, upI_len]) ?_
  simp only [Ty.frz, iv_frz, hk2, EV, Nat.reduceEqDiff, Nat.reduceBEq, Nat.reduceLT, Nat.reduceLeDiff, Nat.reduceAdd, Nat.reduceSub, reduceIte]
  refine callK_i (d33 R.length 1 (by omega) (by omega)) ?_
  simp only [Ty.frz, iv_frz, hk2, EV, Nat.reduceEqDiff, Nat.reduceBEq, Nat.reduceLT, Nat.reduceLeDiff, Nat.reduceAdd, Nat.reduceSub, reduceIte]
  refine callK_i (d20 a h3 hx) ?_
  simp only [Ty.frz, iv_frz, hk2, EV, Nat.reduceEqDiff, Nat.reduceBEq, Nat.reduceLT, Nat.reduceLeDiff, Nat.reduceAdd, Nat.reduceSub, reduceIte]
  refine callK_i (d28 n hn) ?_
  simp only [Ty.frz, iv_frz, hk2, EV, Nat.reduceEqDiff, Nat.reduceBEq, Nat.reduceLT, Nat.reduceLeDiff, Nat.reduceAdd, Nat.reduceSub, reduceIte]
  refine callK_i d29' ?_
  simp only [Ty.frz, iv_frz, hk2, EV, Nat.reduceEqDiff, Nat.reduceBEq, Nat.reduceLT, Nat.reduceLeDiff, Nat.reduceAdd, Nat.reduceSub, reduceIte]
  refine callK_i (d30 R (by omega)) ?_
  simp only [Ty.frz, iv_frz, hk2, EV, Nat.reduceEqDiff, Nat.reduceBEq, Nat.reduceLT, Nat.reduceLeDiff, Nat.reduceAdd, Nat.reduceSub, reduceIte]
  refine callK_i (d33 R.length 1 (by omega) (by omega)) ?_
  simp only [Ty.frz, iv_frz, hk2, EV, Nat.reduceEqDiff, Nat.reduceBEq, Nat.reduceLT, Nat.reduceLeDiff, Nat.reduceAdd, Nat.reduceSub, reduceIte]
  simp only [EV, Nat.reduceEqDiff, Nat.reduceBEq, Nat.reduceLT, Nat.reduceLeDiff, Nat.reduceAdd, Nat.reduceSub, reduceIte, evRE, retVC, cellV', evR, nfz, nfzs, nfzss, List.contains_nil, List.contains_cons, Bool.or_false, or_true]

end Go.AM
namespace Go.AM
set_option linter.unusedVariables false
set_option linter.unusedSimpArgs false
/-- loop.example/g00837/laws.big -/
def m39 : MC :=
  (.seq
   (.reg [⟨(some 4), none, .a (.asg (.c (.bool false)))⟩])
   (.seq
    (.reg [⟨(some 5), none, .q (.mov (.t 0))⟩,
      ⟨(some 6), none, .q (.len false (.t 5))⟩,
      ⟨(some 7), none, .q (.bin false .gtr (.t 6) (.c (.int .i64 1048576)))⟩,
      ⟨(some 8), none, .q (.mov (.t 7))⟩,
      ⟨(some 9), (some (8, false)), .q (.mov (.t 1))⟩,
      ⟨(some 10), (some (8, false)), .q (.len false (.t 9))⟩,
      ⟨(some 11), (some (8, false)), .q (.mov (.t 0))⟩,
      ⟨(some 12), (some (8, false)), .q (.len false (.t 11))⟩,
      ⟨(some 13), (some (8, false)), .q (.bin false .sub (.c (.int .i64 1048576)) (.t 12))⟩,
      ⟨(some 14), (some (8, false)), .q (.bin false .gtr (.t 10) (.t 13))⟩,
      ⟨(some 15), none, .q (.pick (.t 8) (.c (.bool true)) (.t 14))⟩,
      ⟨(some 4), none, .a (.asg (.t 15))⟩])
    .ret))

theorem d39 (a b : List Int) (ha : (a.length : Int) ≤ 9223372036854775807) (hb : (b.length : Int) ≤ 9223372036854775807) : Does Go.Proofs.Try.prog 39 [.fsl 1 (a.map bv), .fsl 1 (b.map bv)] false (.v (.bool (decide (1048576 < (a.length : Int)) || decide (1048576 - (a.length : Int) < (b.length : Int))))) [.dead, .dead] := by
  refine does_intro (mc := m39) (N := 16) (rs := [4]) (fx := []) 2 rfl (by decide +kernel) ?_
  simp only [m39, EV, Nat.reduceEqDiff, Nat.reduceBEq, Nat.reduceLT, Nat.reduceLeDiff, Nat.reduceAdd, Nat.reduceSub, reduceIte]
  rcases e : decide (1048576 < (a.length : Int)) with _ | _
  · have h : ¬ 1048576 < (a.length : Int) := by simpa using e
    have w := w64 (1048576 - (a.length : Int)) (by omega)
    simp only [w, EV, Nat.reduceEqDiff, Nat.reduceBEq, Nat.reduceLT, Nat.reduceLeDiff, Nat.reduceAdd, Nat.reduceSub, reduceIte]
    simp only [Bool.false_or, EV, Nat.reduceEqDiff, Nat.reduceBEq, Nat.reduceLT, Nat.reduceLeDiff, Nat.reduceAdd, Nat.reduceSub, reduceIte, evRE, retVC, cellV', evR, nfz, nfzs, nfzss, List.contains_nil, List.contains_cons, Bool.or_false, or_true]
  · simp only [EV, Nat.reduceEqDiff, Nat.reduceBEq, Nat.reduceLT, Nat.reduceLeDiff, Nat.reduceAdd, Nat.reduceSub, reduceIte]
    simp only [Bool.true_or, EV, Nat.reduceEqDiff, Nat.reduceBEq, Nat.reduceLT, Nat.reduceLeDiff, Nat.reduceAdd, Nat.reduceSub, reduceIte, evRE, retVC, cellV', evR, nfz, nfzs, nfzss, List.contains_nil, List.contains_cons, Bool.or_false, or_true]

end Go.AM
namespace Go.AM
set_option linter.unusedVariables false
set_option linter.unusedSimpArgs false
theorem sameTy_refl (x : Ty) : sameTy x x = true := by
  have : eqL qFd x.fields x.fields = true := eqL_yes rfl fun j ha hb _ => by simp [qFd]
  simp [sameTy, this]

theorem base_tys : tysOk baseTs = true := by
  simp only [tysOk, Bool.and_eq_true, decide_eq_true_eq]
  have e1 : List.take 3 baseTs = baseTs := rfl
  have e2 : List.drop 3 baseTs = [] := rfl
  rw [e1, e2, base_len3]
  exact ⟨⟨by omega, by omega⟩, eqL_yes rfl fun j ha hb _ => sameTy_refl _, fun i h => absurd h (by simp)⟩

theorem base_tab : tabOk baseTs = true := by
  have hk : ∀ n : Nat, n < 3 → kids baseTs false (n : Int) = [] := by
    intro n hn
    have : n = 0 ∨ n = 1 ∨ n = 2 := by omega
    rcases this with rfl | rfl | rfl <;> decide
  simp only [tabOk, base_tys, Bool.true_and, List.all_eq_true, List.mem_range]
  intro n hn
  rw [base_len3] at hn
  have : roundAt baseTs (n : Int) = false := by
    unfold roundAt
    rw [hk n hn]
    have : reachL baseTs false [] = [] := by
      apply List.eq_nil_iff_forall_not_mem.2
      intro k hk'
      have := (mem_reachL.1 hk').2
      clear hk'
      induction this with
      | base h => simp at h
      | step _ _ ih => exact ih
    rw [this]; rfl
  rw [this]; rfl

/-- A type that is not too large has parts that are not. -/
theorem sz_rec {l : List Ty} (ht : tabOk l = true) {n : Int} (h0 : 0 ≤ n) (h1 : n < (l.length : Int)) {hn : n.toNat < l.length} (hk : l[n.toNat].kind = 5) (hs : sz l n ≤ 1000000000) :
    sz l n = sumZ (sz l) (prt false l[n.toNat]) ∧ ∀ k ∈ prt false l[n.toNat], sz l k ≤ 1000000000 := by
  have hnn : ∀ k, 0 ≤ sz l k := fun k => (sz_nn (tabOk_tys ht) k).1
  have e := sz_eq ht h0 h1 (hn := hn)
  unfold oneT capS at e
  rw [hk] at e
  simp only [show ((5 : Int) == 1) = false from rfl, show ((5 : Int) == 2) = false from rfl, show ((5 : Int) == 3) = false from rfl, show ((5 : Int) == 6) = false from rfl, show ((5 : Int) == 4) = false from rfl, Bool.or_self, Bool.false_eq_true, if_false] at e
  have e2 : sz l n = sumZ (sz l) (prt false l[n.toNat]) := by omega
  refine ⟨e2, fun k hk => ?_⟩
  have : ∀ {ks : List Int} {k : Int}, k ∈ ks → sz l k ≤ sumZ (sz l) ks := by
    intro ks
    induction ks with
    | nil => intro k h; simp at h
    | cons x ks ih =>
      intro k h
      have h2 := sumZ_nn (g := sz l) (ks := ks) fun k _ => hnn k
      have h3 := hnn x
      simp only [sumZ]
      rcases List.mem_cons.1 h with rfl | h
      · omega
      · have := ih h; omega
  have := this hk
  omega

theorem sz_arr {l : List Ty} (ht : tabOk l = true) {n : Int} (h0 : 0 ≤ n) (h1 : n < (l.length : Int)) {hn : n.toNat < l.length} (hk : l[n.toNat].kind = 4) (hs : sz l n ≤ 1000000000) :
    sz l n = l[n.toNat].long * sz l l[n.toNat].base ∧ sz l l[n.toNat].base ≤ 1000000000 := by
  have hnn : ∀ k, 0 ≤ sz l k := fun k => (sz_nn (tabOk_tys ht) k).1
  have G := tysOk_good (tabOk_tys ht) hn
  obtain ⟨g1, g2, g3⟩ := G.arr hk
  have e := sz_eq ht h0 h1 (hn := hn)
  have hb := (isNum_in.1 g1).1
  have hp : prt false l[n.toNat] = [l[n.toNat].base] := by
    simp only [prt, hk, G.none (by rw [hk]; omega), List.map_nil, List.append_nil, hb, decide_true]
    rfl
  unfold oneT capS at e
  rw [hk, hp] at e
  simp only [sumZ, show ((4 : Int) == 1) = false from rfl, show ((4 : Int) == 2) = false from rfl, show ((4 : Int) == 3) = false from rfl, show ((4 : Int) == 6) = false from rfl, show ((4 : Int) == 4) = true from rfl, Bool.or_self, Bool.false_eq_true, if_false, if_true, Int.add_zero] at e
  have h3 := hnn l[n.toNat].base
  have hm : sz l l[n.toNat].base * 1 ≤ sz l l[n.toNat].base * l[n.toNat].long := Int.mul_le_mul_of_nonneg_left (by omega) h3
  rw [Int.mul_comm l[n.toNat].long]
  omega

theorem sumZ_app {g : Int → Int} : ∀ {a b : List Int}, sumZ g (a ++ b) = sumZ g a + sumZ g b
  | [], b => by simp [sumZ]
  | x :: a, b => by simp only [List.cons_append, sumZ, sumZ_app (a := a)]; omega

end Go.AM
namespace Go.AM
set_option linter.unusedVariables false
set_option linter.unusedSimpArgs false
/-- loop.example/g00837/laws.FnSizes -/
def m12 : MC :=
  (.seq
   (.reg [⟨(some 4), none, .a (.asg (.c (.bool false)))⟩])
   (.keep [0, 1]
   (.seq
    (.seq
     (.reg [⟨(some 29), none, .q (.mov (.t 0))⟩,
       ⟨(some 30), none, .q (.mov (.t 1))⟩,
       ⟨(some 31), none, .a (.call (.fn 39) false [.lend (.t 29), .lend (.t 30)])⟩])
     (.keep [0, 1, 31]
     (.cond (.t 31)
      (.seq
       (.reg [⟨(some 4), none, .a (.asg (.c (.bool true)))⟩])
       .ret)
      .skip)))
    (.keep [0, 1]
    (.seq
     (.reg [⟨(some 33), none, .q (.mov (.t 0))⟩,
       ⟨(some 34), none, .a (.call (.fn 53) true [.lend (.t 33)])⟩,
       ⟨(some 32), none, .a (.asg (.t 34))⟩,
       ⟨(some 35), none, .q (.ext 32 0)⟩,
       ⟨(some 36), none, .q (.ext 32 1)⟩,
       ⟨(some 5), none, .a (.asgf (.t 35))⟩,
       ⟨(some 6), none, .a (.asg (.t 36))⟩])
     (.keep [1, 5, 6, 32, 34, 35]
     (.seq
      (.reg [⟨(some 38), none, .q (.mov (.t 5))⟩,
        ⟨(some 39), none, .q (.mov (.t 6))⟩,
        ⟨(some 40), none, .a (.call (.fn 54) false [.lend (.t 38), .lend (.t 39)])⟩,
        ⟨(some 37), none, .q (.mov (.t 40))⟩,
        ⟨(some 41), none, .q (.ext 37 0)⟩,
        ⟨(some 42), none, .q (.ext 37 1)⟩,
        ⟨(some 7), none, .a (.asg (.t 41))⟩,
        ⟨(some 8), none, .a (.asg (.t 42))⟩])
      (.keep [1, 5, 6, 7, 8, 32, 34, 35]
      (.seq
       (.reg [⟨(some 44), none, .q (.mov (.t 5))⟩,
         ⟨(some 45), none, .q (.mov (.t 6))⟩,
         ⟨(some 46), none, .a (.call (.fn 55) false [.lend (.t 44), .lend (.t 45)])⟩,
         ⟨(some 43), none, .q (.mov (.t 46))⟩,
         ⟨(some 47), none, .q (.ext 43 0)⟩,
         ⟨(some 48), none, .q (.ext 43 1)⟩,
         ⟨(some 9), none, .a (.asg (.t 47))⟩,
         ⟨(some 10), none, .a (.asg (.t 48))⟩])
       (.keep [1, 5, 6, 7, 8, 9, 10, 32, 34, 35]
       (.seq
        (.seq
         (.reg [⟨(some 49), none, .q (.mov (.t 8))⟩,
           ⟨(some 50), none, .q (.mov (.t 10))⟩,
           ⟨(some 51), none, .q (.bin true .neq (.t 49) (.t 50))⟩,
           ⟨(some 52), none, .q (.mov (.t 51))⟩,
           ⟨(some 53), (some (52, false)), .q (.mov (.t 7))⟩,
           ⟨(some 54), (some (52, false)), .q (.mov (.t 9))⟩,
           ⟨(some 55), (some (52, false)), .q (.bin false .neq (.t 53) (.t 54))⟩,
           ⟨(some 56), none, .q (.pick (.t 52) (.c (.bool true)) (.t 55))⟩,
           ⟨(some 57), none, .q (.mov (.t 56))⟩,
           ⟨(some 58), (some (57, false)), .q (.mov (.t 5))⟩,
           ⟨(some 59), (some (57, false)), .a (.call (.fn 56) false [.lend (.t 58)])⟩,
           ⟨(some 60), (some (57, false)), .q (.mov (.t 5))⟩,
           ⟨(some 61), (some (57, false)), .a (.call (.fn 57) false [.lend (.t 60)])⟩,
           ⟨(some 62), (some (57, false)), .q (.bin true .neq (.t 59) (.t 61))⟩,
           ⟨(some 63), none, .q (.pick (.t 57) (.c (.bool true)) (.t 62))⟩])
         (.keep [1, 5, 6, 7, 8, 32, 34, 35, 63]
         (.cond (.t 63)
          (.seq
           (.reg [⟨(some 4), none, .a (.asg (.c (.bool false)))⟩])
           .ret)
          .skip)))
        (.keep [1, 5, 6, 7, 8, 32, 34, 35]
        (.join [1]
         (.seq
          (.reg [⟨(some 64), none, .q (.mov (.t 8))⟩,
            ⟨(some 65), none, .q (.mov (.t 64))⟩,
            ⟨(some 66), (some (65, true)), .q (.mov (.t 6))⟩,
            ⟨(some 67), (some (65, true)), .q (.bin false .geq (.t 66) (.c (.int .i64 0)))⟩,
            ⟨(some 68), none, .q (.pick (.t 65) (.t 67) (.c (.bool false)))⟩,
            ⟨(some 69), none, .q (.mov (.t 68))⟩,
            ⟨(some 70), (some (69, true)), .q (.mov (.t 6))⟩,
            ⟨(some 71), (some (69, true)), .q (.mov (.t 5))⟩,
            ⟨(some 72), (some (69, true)), .q (.len false (.t 71))⟩,
            ⟨(some 73), (some (69, true)), .q (.bin false .lss (.t 70) (.t 72))⟩,
            ⟨(some 74), none, .q (.pick (.t 69) (.t 73) (.c (.bool false)))⟩])
          (.keep [1, 5, 6, 7, 32, 34, 35, 74]
          (.cond (.t 74)
           (.seq
            (.reg [⟨(some 75), none, .q (.mov (.t 5))⟩,
              ⟨(some 76), none, .q (.mov (.t 6))⟩,
              ⟨(some 77), none, .q (.iad 6 (.t 75) (.t 76))⟩,
              ⟨(some 78), none, .q (.load true 6 (.t 77))⟩,
              ⟨(some 11), none, .a (.alloc 59 [.v (.int .i64 0), .v (.int .i64 0), .v (.int .i64 0), .s 57 3, .v (.string ({ data := #[] })), .v (.string ({ data := #[] }))])⟩,
              ⟨none, none, .a (.store 6 (.t 11) (.t 78))⟩])
            (.keep [1, 5, 7, 11, 32, 34, 35]
            (.seq
             (.reg [⟨(some 12), none, .a (.asg (.c (.int .i64 0)))⟩,
               ⟨(some 13), none, .a (.asg (.c (.bool true)))⟩])
             (.keep [1, 5, 7, 11, 12, 13, 32, 34, 35]
             (.seq
              (.seq
               (.reg [⟨(some 79), none, .q (.fad 3 (.t 11))⟩,
                 ⟨(some 80), none, .q (.load false 1 (.t 79))⟩,
                 ⟨(some 81), none, .q (.len false (.t 80))⟩,
                 ⟨(some 82), none, .q (.mov (.c (.int .i64 0)))⟩])
               (.keep [1, 5, 7, 11, 12, 13, 32, 34, 35, 79, 80, 81, 82]
               (.block 0
                (.loop [1, 5, 7, 11, 12, 13, 32, 34, 35, 79, 80, 81, 82]
                 (.seq
                  (.reg [⟨(some 83), none, .q (.bin false .lss (.t 82) (.t 81))⟩])
                  (.keep [1, 5, 7, 11, 12, 13, 32, 34, 35, 79, 80, 81, 82, 83]
                  (.seq
                   (.cond (.t 83)
                    .skip
                    (.exit 0))
                   (.keep [1, 5, 7, 11, 12, 13, 32, 34, 35, 79, 80, 81, 82]
                   (.seq
                    (.block 1
                     (.seq
                      (.reg [⟨(some 84), none, .q (.iad 3 (.t 80) (.t 82))⟩,
                        ⟨(some 85), none, .q (.load true 3 (.t 84))⟩,
                        ⟨(some 15), none, .a (.alloc 57 [.v (.string ({ data := #[] })), .v (.int .i64 0), .v (.int .i64 0)])⟩,
                        ⟨none, none, .a (.store 3 (.t 15) (.t 85))⟩])
                      (.keep [1, 5, 7, 11, 12, 13, 15, 32, 34, 35, 79, 80, 81, 82]
                      (.seq
                       (.reg [⟨(some 87), none, .q (.mov (.t 5))⟩,
                         ⟨(some 88), none, .q (.fad 2 (.t 15))⟩,
                         ⟨(some 89), none, .q (.load false 1 (.t 88))⟩,
                         ⟨(some 90), none, .a (.call (.fn 54) false [.lend (.t 87), .lend (.t 89)])⟩,
                         ⟨(some 86), none, .q (.mov (.t 90))⟩,
                         ⟨(some 91), none, .q (.ext 86 0)⟩,
                         ⟨(some 92), none, .q (.ext 86 1)⟩,
                         ⟨(some 16), none, .a (.asg (.t 91))⟩,
                         ⟨(some 17), none, .a (.asg (.t 92))⟩])
                       (.keep [1, 5, 7, 11, 12, 13, 16, 17, 32, 34, 35, 79, 80, 81, 82]
                       (.seq
                        (.reg [⟨(some 93), none, .q (.mov (.t 12))⟩,
                          ⟨(some 94), none, .q (.mov (.t 16))⟩,
                          ⟨(some 95), none, .q (.bin false .add (.t 93) (.t 94))⟩,
                          ⟨(some 12), none, .a (.asg (.t 95))⟩])
                        (.keep [1, 5, 7, 11, 12, 13, 17, 32, 34, 35, 79, 80, 81, 82]
                        (.reg [⟨(some 96), none, .q (.mov (.t 13))⟩,
                          ⟨(some 97), none, .q (.mov (.t 96))⟩,
                          ⟨(some 98), (some (97, true)), .q (.mov (.t 17))⟩,
                          ⟨(some 99), none, .q (.pick (.t 97) (.t 98) (.c (.bool false)))⟩,
                          ⟨(some 13), none, .a (.asg (.t 99))⟩]))))))))
                    (.keep [1, 5, 7, 11, 12, 13, 32, 34, 35, 79, 80, 81, 82]
                    (.reg [⟨(some 100), none, .q (.bin false .add (.t 82) (.c (.int .i64 1)))⟩,
                      ⟨(some 82), none, .q (.mov (.t 100))⟩])))))))))))
              (.keep [1, 5, 7, 11, 12, 13, 32, 34, 35]
              (.seq
               (.reg [⟨(some 101), none, .q (.fad 0 (.t 11))⟩,
                 ⟨(some 102), none, .q (.load false 1 (.t 101))⟩])
               (.keep [1, 5, 7, 11, 12, 13, 32, 34, 35, 102]
               (.block 2
                (.seq
                 (.reg [⟨(some 104), none, .q (.bin false .eql (.t 102) (.c (.int .i64 5)))⟩,
                   ⟨(some 103), none, .a (.asg (.t 104))⟩])
                 (.keep [1, 5, 7, 11, 12, 13, 32, 34, 35, 102, 103]
                 (.cond (.t 103)
                  (.join [1, 7, 12, 13]
                   (.seq
                    (.reg [⟨(some 105), none, .q (.fad 2 (.t 11))⟩,
                      ⟨(some 106), none, .q (.load false 1 (.t 105))⟩,
                      ⟨(some 107), none, .q (.bin false .geq (.t 106) (.c (.int .i64 0)))⟩])
                    (.keep [1, 5, 7, 11, 12, 13, 32, 34, 35, 107]
                    (.cond (.t 107)
                     (.seq
                      (.reg [⟨(some 109), none, .q (.mov (.t 5))⟩,
                        ⟨(some 110), none, .q (.fad 2 (.t 11))⟩,
                        ⟨(some 111), none, .q (.load false 1 (.t 110))⟩,
                        ⟨(some 112), none, .a (.call (.fn 54) false [.lend (.t 109), .lend (.t 111)])⟩,
                        ⟨(some 108), none, .q (.mov (.t 112))⟩,
                        ⟨(some 113), none, .q (.ext 108 0)⟩,
                        ⟨(some 114), none, .q (.ext 108 1)⟩,
                        ⟨(some 18), none, .a (.asg (.t 113))⟩,
                        ⟨(some 19), none, .a (.asg (.t 114))⟩])
                      (.keep [1, 7, 12, 13, 18, 19]
                      (.seq
                       (.reg [⟨(some 115), none, .q (.mov (.t 12))⟩,
                         ⟨(some 116), none, .q (.mov (.t 18))⟩,
                         ⟨(some 117), none, .q (.bin false .add (.t 115) (.t 116))⟩,
                         ⟨(some 12), none, .a (.asg (.t 117))⟩])
                       (.keep [1, 7, 12, 13, 19]
                       (.reg [⟨(some 118), none, .q (.mov (.t 13))⟩,
                         ⟨(some 119), none, .q (.mov (.t 118))⟩,
                         ⟨(some 120), (some (119, true)), .q (.mov (.t 19))⟩,
                         ⟨(some 121), none, .q (.pick (.t 119) (.t 120) (.c (.bool false)))⟩,
                         ⟨(some 13), none, .a (.asg (.t 121))⟩])))))
                     .skip)))
                   (.seq
                    (.reg [⟨(some 122), none, .q (.mov (.t 13))⟩,
                      ⟨(some 123), none, .q (.un .not (.t 122))⟩,
                      ⟨(some 124), none, .q (.mov (.t 123))⟩,
                      ⟨(some 125), (some (124, false)), .q (.mov (.t 7))⟩,
                      ⟨(some 126), (some (124, false)), .q (.mov (.t 12))⟩,
                      ⟨(some 127), (some (124, false)), .q (.bin false .neq (.t 125) (.t 126))⟩,
                      ⟨(some 128), none, .q (.pick (.t 124) (.c (.bool true)) (.t 127))⟩])
                    (.keep [1, 128]
                    (.cond (.t 128)
                     (.seq
                      (.reg [⟨(some 4), none, .a (.asg (.c (.bool false)))⟩])
                      .ret)
                     .skip))))
                  (.seq
                   (.reg [⟨(some 130), none, .q (.bin false .eql (.t 102) (.c (.int .i64 4)))⟩,
                     ⟨(some 129), none, .a (.asg (.t 130))⟩])
                   (.keep [1, 5, 7, 11, 32, 34, 35, 129]
                   (.cond (.t 129)
                    (.seq
                     (.reg [⟨(some 132), none, .q (.mov (.t 5))⟩,
                       ⟨(some 133), none, .q (.fad 2 (.t 11))⟩,
                       ⟨(some 134), none, .q (.load false 1 (.t 133))⟩,
                       ⟨(some 135), none, .a (.call (.fn 54) false [.lend (.t 132), .lend (.t 134)])⟩,
                       ⟨(some 131), none, .q (.mov (.t 135))⟩,
                       ⟨(some 136), none, .q (.ext 131 0)⟩,
                       ⟨(some 137), none, .q (.ext 131 1)⟩,
                       ⟨(some 20), none, .a (.asg (.t 136))⟩,
                       ⟨(some 21), none, .a (.asg (.t 137))⟩])
                     (.keep [1, 7, 11, 20, 21]
                     (.seq
                      (.reg [⟨(some 138), none, .q (.mov (.t 21))⟩,
                        ⟨(some 139), none, .q (.un .not (.t 138))⟩,
                        ⟨(some 140), none, .q (.mov (.t 139))⟩,
                        ⟨(some 141), (some (140, false)), .q (.mov (.t 7))⟩,
                        ⟨(some 142), (some (140, false)), .q (.fad 1 (.t 11))⟩,
                        ⟨(some 143), (some (140, false)), .q (.load false 1 (.t 142))⟩,
                        ⟨(some 144), (some (140, false)), .q (.mov (.t 20))⟩,
                        ⟨(some 145), (some (140, false)), .q (.bin false .mul (.t 143) (.t 144))⟩,
                        ⟨(some 146), (some (140, false)), .q (.bin false .neq (.t 141) (.t 145))⟩,
                        ⟨(some 147), none, .q (.pick (.t 140) (.c (.bool true)) (.t 146))⟩])
                      (.keep [1, 147]
                      (.cond (.t 147)
                       (.seq
                        (.reg [⟨(some 4), none, .a (.asg (.c (.bool false)))⟩])
                        .ret)
                       .skip)))))
                    .skip)))))))))))))))
           .skip)))
         (.seq
          (.reg [⟨(some 149), none, .q (.mov (.t 1))⟩,
            ⟨(some 150), none, .a (.call (.fn 58) true [.lend (.t 149)])⟩,
            ⟨(some 148), none, .a (.asg (.t 150))⟩,
            ⟨(some 151), none, .q (.ext 148 0)⟩,
            ⟨(some 152), none, .q (.ext 148 1)⟩,
            ⟨(some 22), none, .a (.asg (.t 151))⟩,
            ⟨(some 23), none, .a (.asg (.t 152))⟩])
          (.keep [22, 23, 148, 150, 151]
          (.seq
           (.reg [⟨(some 154), none, .q (.mov (.t 22))⟩,
             ⟨(some 155), none, .q (.mov (.t 23))⟩,
             ⟨(some 156), none, .a (.call (.fn 59) false [.lend (.t 154), .lend (.t 155)])⟩,
             ⟨(some 153), none, .q (.mov (.t 156))⟩,
             ⟨(some 157), none, .q (.ext 153 0)⟩,
             ⟨(some 158), none, .q (.ext 153 1)⟩,
             ⟨(some 24), none, .a (.asg (.t 157))⟩,
             ⟨(some 25), none, .a (.asg (.t 158))⟩])
           (.keep [22, 23, 24, 25, 148, 150, 151]
           (.seq
            (.reg [⟨(some 160), none, .q (.mov (.t 22))⟩,
              ⟨(some 161), none, .q (.mov (.t 23))⟩,
              ⟨(some 162), none, .a (.call (.fn 60) false [.lend (.t 160), .lend (.t 161)])⟩,
              ⟨(some 159), none, .q (.mov (.t 162))⟩,
              ⟨(some 163), none, .q (.ext 159 0)⟩,
              ⟨(some 164), none, .q (.ext 159 1)⟩,
              ⟨(some 26), none, .a (.asg (.t 163))⟩,
              ⟨(some 27), none, .a (.asg (.t 164))⟩])
            (.keep [24, 25, 26, 27]
            (.seq
             (.seq
              (.reg [⟨(some 165), none, .q (.mov (.t 25))⟩,
                ⟨(some 166), none, .q (.mov (.t 27))⟩,
                ⟨(some 167), none, .q (.bin true .neq (.t 165) (.t 166))⟩,
                ⟨(some 168), none, .q (.mov (.t 167))⟩,
                ⟨(some 169), (some (168, false)), .q (.mov (.t 24))⟩,
                ⟨(some 170), (some (168, false)), .q (.mov (.t 26))⟩,
                ⟨(some 171), (some (168, false)), .q (.bin true .neq (.t 169) (.t 170))⟩,
                ⟨(some 172), none, .q (.pick (.t 168) (.c (.bool true)) (.t 171))⟩])
              (.keep [172]
              (.cond (.t 172)
               (.seq
                (.reg [⟨(some 4), none, .a (.asg (.c (.bool false)))⟩])
                .ret)
               .skip)))
             (.keep []
             (.seq
              (.reg [⟨(some 173), none, .a (.call (.fn 61) false [])⟩,
                ⟨(some 28), none, .a (.asg (.t 173))⟩])
              (.keep [28, 173]
              (.seq
               (.reg [⟨(some 174), none, .q (.mov (.t 28))⟩,
                 ⟨(some 175), none, .q (.len false (.t 174))⟩,
                 ⟨(some 176), none, .q (.bin false .eql (.t 175) (.c (.int .i64 3)))⟩,
                 ⟨(some 177), none, .q (.mov (.t 176))⟩,
                 ⟨(some 178), (some (177, true)), .q (.mov (.t 28))⟩,
                 ⟨(some 179), (some (177, true)), .a (.call (.fn 56) false [.lend (.t 178)])⟩,
                 ⟨(some 180), none, .q (.pick (.t 177) (.t 179) (.c (.bool false)))⟩,
                 ⟨(some 4), none, .a (.asg (.t 180))⟩])
               .ret))))))))))))))))))))))))

set_option maxHeartbeats 2000000 in
set_option maxRecDepth 100000 in
theorem d12_of (h104 : ∀ l : List Ty, (l.length : Int) ≤ 1048576 → (∀ s ∈ l, s.sm) → tabOk l = true → Does Go.Proofs.Try.prog 104 [.fsl 6 (l.map Ty.z)] false (.usl 3 1 ((sizesL l).map iv)) [.dead])
    (code more : List Int) (hc : (code.length : Int) ≤ 9223372036854775807) (hm : (more.length : Int) ≤ 9223372036854775807) (hcb : ∀ b ∈ code, 0 ≤ b ∧ b ≤ 255) (hmb : ∀ b ∈ more, 0 ≤ b ∧ b ≤ 255) :
    Does Go.Proofs.Try.prog 12 [.fsl 1 (code.map bv), .fsl 1 (more.map bv)] false (.v (.bool true)) [.dead, .dead] := by
  have bs : ∀ b : Bool, (b != b) = false := fun b => by cases b <;> rfl
  refine does_intro (mc := m12) (N := 181) (rs := [4]) (fx := []) 2 rfl (by decide +kernel) ?_
  simp only [m12, EV, Nat.reduceEqDiff, Nat.reduceBEq, Nat.reduceLT, Nat.reduceLeDiff, Nat.reduceAdd, Nat.reduceSub, reduceIte]
  refine callK_i (d39 code more hc hm) ?_
  simp only [EV, Nat.reduceEqDiff, Nat.reduceBEq, Nat.reduceLT, Nat.reduceLeDiff, Nat.reduceAdd, Nat.reduceSub, reduceIte]
  refine cK_cut (fun h => ?_) (fun h => ?_)
  · simp only [EV, Nat.reduceEqDiff, Nat.reduceBEq, Nat.reduceLT, Nat.reduceLeDiff, Nat.reduceAdd, Nat.reduceSub, reduceIte]
    simp only [EV, Nat.reduceEqDiff, Nat.reduceBEq, Nat.reduceLT, Nat.reduceLeDiff, Nat.reduceAdd, Nat.reduceSub, reduceIte, evRE, retVC, cellV', evR, nfz, nfzs, nfzss, List.contains_nil, List.contains_cons, Bool.or_false, or_true]
  have h1 : (code.length : Int) ≤ 1048576 ∧ (more.length : Int) ≤ 1048576 := by
    simp only [Bool.or_eq_false_iff, decide_eq_false_iff_not] at h
    omega
  clear h
  simp only [EV, Nat.reduceEqDiff, Nat.reduceBEq, Nat.reduceLT, Nat.reduceLeDiff, Nat.reduceAdd, Nat.reduceSub, reduceIte]
  refine callE_i (p53 code h1.1 hcb) (fun r o h => ⟨h.2, h.1⟩) ?_
  rintro _ ⟨l, n, rfl, l9, hs⟩
  have hl : (l.length : Int) ≤ 1048576 := by omega
  have d54k := fun k => d54_of l k hl hs (h104 l hl hs)
  simp only [Ty.frz, pbeq, EV, Nat.reduceEqDiff, Nat.reduceBEq, Nat.reduceLT, Nat.reduceLeDiff, Nat.reduceAdd, Nat.reduceSub, reduceIte]
  refine callK_i (d54k n) ?_
  simp only [Ty.frz, pbeq, EV, Nat.reduceEqDiff, Nat.reduceBEq, Nat.reduceLT, Nat.reduceLeDiff, Nat.reduceAdd, Nat.reduceSub, reduceIte]
  refine callK_i (d55 l n hl hs) ?_
  simp only [bs, Ty.frz, pbeq, EV, Nat.reduceEqDiff, Nat.reduceBEq, Nat.reduceLT, Nat.reduceLeDiff, Nat.reduceAdd, Nat.reduceSub, reduceIte]
  refine callK_i (d56 l hl hs) ?_
  simp only [bs, Ty.frz, pbeq, EV, Nat.reduceEqDiff, Nat.reduceBEq, Nat.reduceLT, Nat.reduceLeDiff, Nat.reduceAdd, Nat.reduceSub, reduceIte]
  refine callK_i (d57 l hl hs) ?_
  simp only [bs, Ty.frz, pbeq, EV, Nat.reduceEqDiff, Nat.reduceBEq, Nat.reduceLT, Nat.reduceLeDiff, Nat.reduceAdd, Nat.reduceSub, reduceIte]
  refine awp_join (fun _ : Unit => True) (fun _ => stl [(1, .fsl 1 (more.map bv))]) ?_ ?_
  · simp only [EV, Nat.reduceEqDiff, Nat.reduceBEq, Nat.reduceLT, Nat.reduceLeDiff, Nat.reduceAdd, Nat.reduceSub, reduceIte]
    rcases e : szOk l n with _ | _
    · simp only [EV, Nat.reduceEqDiff, Nat.reduceBEq, Nat.reduceLT, Nat.reduceLeDiff, Nat.reduceAdd, Nat.reduceSub, reduceIte]
      exact ⟨(), trivial⟩
    have e' := e
    simp only [szOk, Bool.and_eq_true, decide_eq_true_eq] at e'
    obtain ⟨⟨ht, hn⟩, hsz⟩ := e'
    obtain ⟨g0, g1⟩ := isNum_in.1 hn
    have gn : n.toNat < l.length := by omega
    have G := tysOk_good (tabOk_tys ht) gn
    have hnn : ∀ k, 0 ≤ sz l k := fun k => (sz_nn (tabOk_tys ht) k).1
    rw [if_pos rfl]
    simp only [g0, g1, gn, decide_true, nth_map gn, Ty.z, EV, Nat.reduceEqDiff, Nat.reduceBEq, Nat.reduceLT, Nat.reduceLeDiff, Nat.reduceAdd, Nat.reduceSub, reduceIte]
    have hfk : ∀ f ∈ l[n.toNat].fields, szOk l f.typ = true := by
      intro f hf
      have hk5 : l[n.toNat].kind = 5 := by
        by_cases h : l[n.toNat].kind = 5
        · exact h
        · rw [G.none h] at hf; simp at hf
      have h2 := (sz_rec ht g0 g1 (hn := gn) hk5 hsz).2 f.typ (by simp only [prt, List.mem_append]; exact .inr (List.mem_map.2 ⟨f, hf, rfl⟩))
      simp only [szOk, ht, G.flds f hf, Bool.and_self, Bool.true_and, decide_eq_true_eq]
      exact h2
    have hF : ∀ i, sumZ (sz l) ((l[n.toNat].fields.take i).map Fd.typ) ≤ 1000000001 * 6 ∧ 0 ≤ sumZ (sz l) ((l[n.toNat].fields.take i).map Fd.typ) := by
      intro i
      have h6 := G.few
      have h7 := sumZ_le (g := sz l) (B := 1000000001) (ks := (l[n.toNat].fields.take i).map Fd.typ) fun k _ => (sz_nn (tabOk_tys ht) k).2
      have h8 := sumZ_nn (g := sz l) (ks := (l[n.toNat].fields.take i).map Fd.typ) fun k _ => hnn k
      simp only [List.length_map, List.length_take] at h7
      omega
    refine awp_loop (fun i : Nat => i ≤ l[n.toNat].fields.length) (fun i => stl [(1, .fsl 1 (more.map bv)), (5, .fsl 6 (l.map Ty.z)), (7, .v (.int .i64 (sz l n))), (11, .box 59 l[n.toNat].z), (12, .v (.int .i64 (sumZ (sz l) ((l[n.toNat].fields.take i).map Fd.typ)))), (13, .v (.bool true)), (32, .tup [.dead, .v (.int .i64 n)]), (34, .dead), (35, .dead), (79, .ref 11 [] 0 3), (80, .fsl 3 (l[n.toNat].fields.map Fd.z)), (81, .v (.int .i64 (l[n.toNat].fields.length : Int))), (82, .v (.int .i64 (i : Int)))]) (fun i => l[n.toNat].fields.length - i) 0 (Nat.zero_le _) ?_ ?_
    · simp only [List.take_zero, List.map_nil, sumZ, Ty.z, EV, Nat.reduceEqDiff, Nat.reduceBEq, Nat.reduceLT, Nat.reduceLeDiff, Nat.reduceAdd, Nat.reduceSub, reduceIte]
      rfl
    · intro i hi
      simp only [Ty.z, EV, Nat.reduceEqDiff, Nat.reduceBEq, Nat.reduceLT, Nat.reduceLeDiff, Nat.reduceAdd, Nat.reduceSub, reduceIte]
      refine cK_cut (fun h => ?_) (fun h => ?_)
      · have q1 : i < l[n.toNat].fields.length := by simpa using h
        have q2 : (i : Int) < (l[n.toNat].fields.length : Int) := by omega
        have hok := hfk _ (List.getElem_mem q1)
        have d54f := d54k l[n.toNat].fields[i].typ
        rw [hok, if_pos rfl] at d54f
        clear h
        simp only [FdE, nth_map q1, q1, q2, Fd.z, EV, Nat.reduceEqDiff, Nat.reduceBEq, Nat.reduceLT, Nat.reduceLeDiff, Nat.reduceAdd, Nat.reduceSub, reduceIte]
        refine callK_i d54f ?_
        simp only [pbeq, EV, Nat.reduceEqDiff, Nat.reduceBEq, Nat.reduceLT, Nat.reduceLeDiff, Nat.reduceAdd, Nat.reduceSub, reduceIte]
        have hb := hF i
        have h6 := G.few
        have hb2 := sz_nn (tabOk_tys ht) l[n.toNat].fields[i].typ
        have e1 : sumZ (sz l) ((l[n.toNat].fields.take (i + 1)).map Fd.typ) = sumZ (sz l) ((l[n.toNat].fields.take i).map Fd.typ) + sz l l[n.toNat].fields[i].typ := by
          rw [List.take_succ_eq_append_getElem q1, List.map_append, sumZ_app]; simp [sumZ]
        rw [w64 _ (by omega), w64 _ (by omega)]
        exact ⟨i + 1, q1, by omega, by rw [e1]; rfl⟩
      · have q1 : i = l[n.toNat].fields.length := by have : ¬ (i : Int) < (l[n.toNat].fields.length : Int) := by simpa using h
                                                     omega
        subst q1
        have hb := hF l[n.toNat].fields.length
        rw [List.take_length] at hb ⊢
        clear h
        simp only [Ty.z, EV, Nat.reduceEqDiff, Nat.reduceBEq, Nat.reduceLT, Nat.reduceLeDiff, Nat.reduceAdd, Nat.reduceSub, reduceIte]
        rcases e5 : (l[n.toNat].kind == 5) with _ | _
        · simp only [e5, Ty.z, EV, Nat.reduceEqDiff, Nat.reduceBEq, Nat.reduceLT, Nat.reduceLeDiff, Nat.reduceAdd, Nat.reduceSub, reduceIte]
          rcases e4 : (l[n.toNat].kind == 4) with _ | _
          · simp only [e4, Ty.z, EV, Nat.reduceEqDiff, Nat.reduceBEq, Nat.reduceLT, Nat.reduceLeDiff, Nat.reduceAdd, Nat.reduceSub, reduceIte]
            exact ⟨(), trivial⟩
          · obtain ⟨s1, s2⟩ := sz_arr ht g0 g1 (hn := gn) (by simpa using e4) hsz
            have hbn := (G.arr (by simpa using e4)).1
            have hok : szOk l l[n.toNat].base = true := by simp only [szOk, ht, hbn, Bool.and_self, Bool.true_and, decide_eq_true_eq]; exact s2
            have d54b := d54k l[n.toNat].base
            rw [hok, if_pos rfl] at d54b
            simp only [e4, Ty.z, EV, Nat.reduceEqDiff, Nat.reduceBEq, Nat.reduceLT, Nat.reduceLeDiff, Nat.reduceAdd, Nat.reduceSub, reduceIte]
            refine callK_i d54b ?_
            simp only [pbeq, Ty.z, EV, Nat.reduceEqDiff, Nat.reduceBEq, Nat.reduceLT, Nat.reduceLeDiff, Nat.reduceAdd, Nat.reduceSub, reduceIte]
            rw [← s1, w64 _ (by have := hnn n; omega)]
            simp only [bne_self_eq_false, EV, Nat.reduceEqDiff, Nat.reduceBEq, Nat.reduceLT, Nat.reduceLeDiff, Nat.reduceAdd, Nat.reduceSub, reduceIte]
            exact ⟨(), trivial⟩
        · have hk5 : l[n.toNat].kind = 5 := by simpa using e5
          obtain ⟨s1, s2⟩ := sz_rec ht g0 g1 (hn := gn) hk5 hsz
          have hbr := G.rec5 hk5
          simp only [Ty.z, EV, Nat.reduceEqDiff, Nat.reduceBEq, Nat.reduceLT, Nat.reduceLeDiff, Nat.reduceAdd, Nat.reduceSub, reduceIte]
          refine awp_join (fun _ : Unit => True) (fun _ => stl [(1, .fsl 1 (more.map bv)), (7, .v (.int .i64 (sz l n))), (12, .v (.int .i64 (sz l n))), (13, .v (.bool true))]) ?_ ?_
          · simp only [Ty.z, EV, Nat.reduceEqDiff, Nat.reduceBEq, Nat.reduceLT, Nat.reduceLeDiff, Nat.reduceAdd, Nat.reduceSub, reduceIte]
            rcases eb : decide (0 ≤ l[n.toNat].base) with _ | _
            · have e2 : sz l n = sumZ (sz l) (l[n.toNat].fields.map Fd.typ) := by rw [s1]; simp only [prt, eb, Bool.false_and, Bool.false_eq_true, if_false, List.nil_append]
              simp only [Ty.z, EV, Nat.reduceEqDiff, Nat.reduceBEq, Nat.reduceLT, Nat.reduceLeDiff, Nat.reduceAdd, Nat.reduceSub, reduceIte]
              rw [← e2]
              exact ⟨(), rfl⟩
            · have eb' : 0 ≤ l[n.toNat].base := by simpa using eb
              have hbi : isNum l l[n.toNat].base = true := by
                rcases hbr with h | h
                · omega
                · simp only [isRec, Bool.and_eq_true] at h; exact h.1
              have e6 : (l[n.toNat].kind == 6) = false := by rw [hk5]; rfl
              have hp : prt false l[n.toNat] = l[n.toNat].base :: l[n.toNat].fields.map Fd.typ := by simp only [prt, eb, e6, Bool.not_false, Bool.or_true, Bool.and_self, if_true, List.singleton_append]
              have hok : szOk l l[n.toNat].base = true := by
                simp only [szOk, ht, hbi, Bool.and_self, Bool.true_and, decide_eq_true_eq]
                exact s2 _ (by rw [hp]; simp)
              have d54b := d54k l[n.toNat].base
              rw [hok, if_pos rfl] at d54b
              rw [hp, sumZ] at s1
              simp only [Ty.z, EV, Nat.reduceEqDiff, Nat.reduceBEq, Nat.reduceLT, Nat.reduceLeDiff, Nat.reduceAdd, Nat.reduceSub, reduceIte]
              refine callK_i d54b ?_
              simp only [pbeq, Ty.z, EV, Nat.reduceEqDiff, Nat.reduceBEq, Nat.reduceLT, Nat.reduceLeDiff, Nat.reduceAdd, Nat.reduceSub, reduceIte]
              have e2 : sumZ (sz l) (l[n.toNat].fields.map Fd.typ) + sz l l[n.toNat].base = sz l n := by omega
              rw [e2, w64 _ (by have := hnn n; omega)]
              exact ⟨(), rfl⟩
          · rintro _ _
            simp only [bne_self_eq_false, EV, Nat.reduceEqDiff, Nat.reduceBEq, Nat.reduceLT, Nat.reduceLeDiff, Nat.reduceAdd, Nat.reduceSub, reduceIte]
            exact ⟨(), trivial⟩
  rintro _ _
  simp only [EV, Nat.reduceEqDiff, Nat.reduceBEq, Nat.reduceLT, Nat.reduceLeDiff, Nat.reduceAdd, Nat.reduceSub, reduceIte]
  refine callE_i (p58 more h1.2 hmb) (fun r o h => ⟨h.2, h.1⟩) ?_
  rintro _ ⟨l', m, rfl, l9', hs'⟩
  have hl' : (l'.length : Int) ≤ 1048576 := by omega
  simp only [Ty.frz, pbeq, EV, Nat.reduceEqDiff, Nat.reduceBEq, Nat.reduceLT, Nat.reduceLeDiff, Nat.reduceAdd, Nat.reduceSub, reduceIte]
  refine callK_i (d59 l' m hl' hs') ?_
  simp only [Ty.frz, pbeq, EV, Nat.reduceEqDiff, Nat.reduceBEq, Nat.reduceLT, Nat.reduceLeDiff, Nat.reduceAdd, Nat.reduceSub, reduceIte]
  refine callK_i (d60 l' m hl' hs') ?_
  simp only [bs, Ty.frz, pbeq, EV, Nat.reduceEqDiff, Nat.reduceBEq, Nat.reduceLT, Nat.reduceLeDiff, Nat.reduceAdd, Nat.reduceSub, reduceIte]
  refine callK_i d61 ?_
  have b3 : ((baseTs.length : Int) == 3) = true := rfl
  simp only [b3, Ty.frz, pbeq, EV, Nat.reduceEqDiff, Nat.reduceBEq, Nat.reduceLT, Nat.reduceLeDiff, Nat.reduceAdd, Nat.reduceSub, reduceIte]
  refine callK_i (d56 baseTs (by decide) base_sm) ?_
  simp only [base_tab, Ty.frz, pbeq, EV, Nat.reduceEqDiff, Nat.reduceBEq, Nat.reduceLT, Nat.reduceLeDiff, Nat.reduceAdd, Nat.reduceSub, reduceIte]
  simp only [EV, Nat.reduceEqDiff, Nat.reduceBEq, Nat.reduceLT, Nat.reduceLeDiff, Nat.reduceAdd, Nat.reduceSub, reduceIte, evRE, retVC, cellV', evR, nfz, nfzs, nfzss, List.contains_nil, List.contains_cons, Bool.or_false, or_true]

end Go.AM
namespace Go.Proofs.Backw
open Go Go.RowKit Go.Shelf Go.Proofs
attribute [local go_sem] Oper.semAt_some
set_option linter.unusedVariables false
set_option linter.unusedSimpArgs false

/-- What has come when k rounds are over. -/
def upto {α : Type} (f : Nat → α) (k : Nat) : List α := (List.range k).map f
theorem upto_succ {α : Type} (f : Nat → α) (k : Nat) : upto f (k + 1) = upto f k ++ [f k] := by simp [upto, List.range_succ]
theorem upto_length {α : Type} (f : Nat → α) (k : Nat) : (upto f k).length = k := by simp [upto]
/-- The slice of ints, and the box that holds it. -/
def Rd (Bs b off len cap : Nat) (zs : List Int) (W : World) : Prop := W.cell? ⟨Bs, 0, none⟩ = some (.slice (some ⟨b, off, none⟩) len cap) ∧ ∀ j, j < len → W.cell? ⟨b, off + j, none⟩ = some (.int .i64 (zs[j]?.getD 0))

set_option maxRecDepth 100000 in
set_option maxHeartbeats 2000000 in
theorem back1_in (F : Fence) (n : Nat) (h7 : F.fn 170) (hro : F.round = none) (hn : 1 ≤ n) (l Bs b off len cap : Nat) (zs : List Int) {α : Type} (encs : α → Array Value) (f : Nat → α)
    (hf : ∀ k j, j + k + 1 = len → encs (f k) = #[.int .i64 (j : Int), .int .i64 (zs[j]?.getD 0)]) (hreach : len * 8 ≤ 140737488351232) (J Jx : List α → World → Prop)
    (hY : ∀ pre x W, J pre W → pre.length < len → YieldAt F (n - 1) Try.prog l (encs x) W fun e W' =>
      (e = .returned (.bool true) ∧ J (pre ++ [x]) W' ∧ (Rd Bs b off len cap zs W → Rd Bs b off len cap zs W')) ∨ (e = .returned (.bool false) ∧ Jx (pre ++ [x]) W'))
    (W : World) (hR : Rd Bs b off len cap zs W) (h0 : J [] W) :
    CallsIn F n Try.prog 170 #[.func (.yield l) #[] #[], .pointer (some ⟨Bs, 0, none⟩)] W fun e W' => (∃ v, e = .returned v) ∧
      ((∃ ys, ys = upto f len ∧ J ys W') ∨ (∃ pre, (∃ k, k ≤ len ∧ pre = upto f k) ∧ Jx pre W')) := by
  refine callsIn_of_wp Try.func170 rfl h7 ?_ hro
  simp only [Try.ntmps170, List.size_toArray, List.length_cons, List.length_nil, Nat.reduceAdd, Nat.reduceSub, Array.replicate_succ, Array.replicate_zero, List.push_toArray, List.append_toArray, List.nil_append, List.cons_append]
  have hBs := hR.1
  gi_wp2
  gi_loopw [3] (fun i wr => ∃ k : Nat, k ≤ len ∧ i = .int .i64 ((len : Int) - 1 - (k : Int)) ∧ J (upto f k) wr ∧ Rd Bs b off len cap zs wr)
    (fun i _ => (intOf i + 1).toNat)
  case atStart => exact ⟨0, Nat.zero_le _, by simp, h0, hR⟩
  case round =>
    obtain ⟨k, hk, rfl, hJs, hR1, hR2⟩ := hrel
    by_cases hlt : k < len
    · obtain ⟨j, hj⟩ : ∃ j, j + k + 1 = len := ⟨len - k - 1, by omega⟩
      have hcx := hR2 j (by omega)
      obtain ⟨fn, tmps, assign, body, hy, hRR⟩ := hY _ (f k) wr hJs (by rw [upto_length]; exact hlt)
      rw [hf k j hj] at hy
      have hi : (len : Int) - 1 - (k : Int) = (j : Int) := by omega
      rw [hi]
      have hjl : j < len := by omega
      gi_wp2
      refine hRR.mono ?_
      rintro e W3 (⟨rfl, hJ3, hk3⟩ | ⟨rfl, hJx3⟩)
      · gi_wp2
        go_roundw
        case rel => exact ⟨k + 1, by omega, by simp; omega, by rw [upto_succ]; exact hJ3, hk3 ⟨hR1, hR2⟩⟩
        case measure => simp [intOf]
      · gi_wp2
        refine bodyPost_ret (results_none rfl _ _ _) rfl ?_
        exact ⟨⟨_, rfl⟩, .inr ⟨_, ⟨k + 1, by omega, (upto_succ _ _).symm⟩, hJx3⟩⟩
    · obtain rfl : k = len := by omega
      have hi : (k : Int) - 1 - (k : Int) = -1 := by omega
      rw [hi]
      gi_wp2
      go_end0
      exact ⟨⟨_, rfl⟩, .inl ⟨_, rfl, hJs⟩⟩

set_option maxHeartbeats 1000000 in
theorem back_in (F : Fence) (n : Nat) (h5 : F.fn 139) (hro : F.round = none) (a : Option Addr) (len cap : Nat) (w : World) :
    CallsIn F n Try.prog 139 #[.slice a len cap] w fun e w' => e = .returned (.func (.func 170) #[] #[.pointer (some ⟨w.heap.size, 0, none⟩)]) ∧ w' = w.alloc (.cells #[.slice a len cap] 39) := by
  refine callsIn_of_wp Try.func139 rfl h5 ?_ hro
  simp only [Try.ntmps139, List.size_toArray, List.length_cons, List.length_nil, Nat.reduceAdd, Nat.reduceSub, Array.replicate_succ, Array.replicate_zero, List.push_toArray, List.append_toArray, List.nil_append, List.cons_append]
  gi_wp2
  go_ret
  exact ⟨rfl, rfl⟩

/-- What it hands back: a function to range over. -/
theorem back_stops (F : Fence) (n : Nat) (h7 : F.fn 170) (hro : F.round = none) (hn : 1 ≤ n) (Bs b off len cap : Nat) (zs : List Int) {α : Type} (encs : α → Array Value) (f : Nat → α)
    (hf : ∀ k j, j + k + 1 = len → encs (f k) = #[.int .i64 (j : Int), .int .i64 (zs[j]?.getD 0)]) (hreach : len * 8 ≤ 140737488351232) (w : World) (hBs : Bs < w.heap.size) (hb : b < w.heap.size) (hR : Rd Bs b off len cap zs w) :
    SeqStopsK F n Try.prog 170 #[.pointer (some ⟨Bs, 0, none⟩)] encs (fun A B => Rd Bs b off len cap zs A → Rd Bs b off len cap zs B) (fun ys => ys = upto f len) (fun _ => True) len w := fun l J Jx W hW _ _ hY h0 => by
  have hR' : Rd Bs b off len cap zs W := ⟨(hW.cell (p := ⟨Bs, 0, none⟩) hBs).trans hR.1, fun j hj => (hW.cell (p := ⟨b, off + j, none⟩) hb).trans (hR.2 j hj)⟩
  refine (back1_in F n h7 hro hn l Bs b off len cap zs encs f hf hreach J Jx hY W hR' h0).mono ?_
  rintro e W' ⟨he, ⟨ys, rfl, hj⟩ | ⟨pre, _, hj⟩⟩
  · exact ⟨he, .inl ⟨_, rfl, hj⟩⟩
  · exact ⟨he, .inr ⟨_, trivial, hj⟩⟩
end Go.Proofs.Backw

namespace Go.Proofs.Sizes
open Go Go.AM Go.RowKit Go.Shelf Go.Proofs
set_option linter.unusedVariables false
set_option linter.unusedSimpArgs false

/-- The cells of a type. -/
theorem row_at {w : World} {Fz : Nat → Prop} {sz : Nat} : ∀ {rows : List (List AV)} {xs : List Value} {o : List Nat} {g h : Nat} {i : Nat} (hi : i < rows.length), RepRows w Fz sz rows xs o → At w g h xs → ∃ x1 o1, RepRow w Fz rows[i] x1 o1 ∧ rows[i].length = sz ∧ At w g (h + i * sz) x1
  | [], xs, o, g, h, i, hi, _, _ => absurd hi (by simp)
  | r :: rows, xs, o, g, h, i, hi, hr, ha => by
    simp only [RepRows] at hr
    obtain ⟨x1, x2, o1, o2, rfl, rfl, hl, h1, h2⟩ := hr
    have hx : x1.length = sz := by rw [← hl]; exact h1.length
    cases i with
    | zero => exact ⟨x1, o1, h1, hl, fun j u hj => by simpa using ha j u (by rw [List.getElem?_append_left (List.getElem?_eq_some_iff.1 hj).1]; exact hj)⟩
    | succ i =>
      have ha2 : At w g (h + sz) x2 := fun j u hj => by
        have := ha (sz + j) u (by rw [List.getElem?_append_right (by omega), hx, Nat.add_sub_cancel_left]; exact hj)
        rwa [← Nat.add_assoc] at this
      obtain ⟨y, oy, q1, q2, q3⟩ := row_at (rows := rows) (i := i) (by simpa using hi) h2 ha2
      refine ⟨y, oy, q1, q2, ?_⟩
      have e : h + (i + 1) * sz = h + sz + i * sz := by rw [Nat.succ_mul]; omega
      rw [e]
      exact q3

structure Mem (Bo Bl Bf g gl hl cap c : Nat) (Fz : Nat → Prop) (l : List Ty) (s : List Int) (W : World) : Prop where
  o : W.cell? ⟨Bo, 0, none⟩ = some (.slice (some ⟨g, 0, none⟩) l.length c)
  lb : W.cell? ⟨Bl, 0, none⟩ = some (.slice (some ⟨gl, hl, none⟩) l.length cap)
  f : W.cell? ⟨Bf, 0, none⟩ = some (.func (.func 142) #[] #[.pointer (some ⟨Bo, 0, none⟩), .pointer (some ⟨Bl, 0, none⟩), .pointer (some ⟨Bf, 0, none⟩)])
  vals : W.heap[g]? = some (.cells (s.map (Value.int .i64)).toArray 3 (0, 0))
  len : s.length = l.length
  rep : RepC W Fz (.fsl 6 (l.map Ty.z)) (.slice (some ⟨gl, hl, none⟩) l.length cap) []
  fz : ∀ b, Fz b → b < W.heap.size ∧ b ≠ g
  ne : Bo ≠ g ∧ Bl ≠ g ∧ Bf ≠ g
theorem Mem.at {Bo Bl Bf g gl hl cap c : Nat} {Fz : Nat → Prop} {l : List Ty} {s : List Int} {W : World} (M : Mem Bo Bl Bf g gl hl cap c Fz l s W) {j : Nat} (hj : j < l.length) : W.cell? ⟨g, j, none⟩ = some (.int .i64 (getS s j)) := by
  rw [cell_of_cells M.vals]
  have : j < s.length := by rw [M.len]; exact hj
  simp [getS_at this, this]
theorem Mem.row {Bo Bl Bf g gl hl cap c : Nat} {Fz : Nat → Prop} {l : List Ty} {s : List Int} {W : World} (M : Mem Bo Bl Bf g gl hl cap c Fz l s W) {n : Nat} (hn : n < l.length) :
    ∃ fv, RepC W Fz (.fsl 3 (l[n].fields.map Fd.z)) fv [] ∧ W.cell? ⟨gl, hl + n * 6, none⟩ = some (.int .i64 l[n].kind) ∧ W.cell? ⟨gl, hl + n * 6 + 1, none⟩ = some (.int .i64 l[n].long) ∧ W.cell? ⟨gl, hl + n * 6 + 2, none⟩ = some (.int .i64 l[n].base) ∧
      W.cell? ⟨gl, hl + n * 6 + 3, none⟩ = some fv ∧ W.cell? ⟨gl, hl + n * 6 + 4, none⟩ = some (.string l[n].owner) ∧ W.cell? ⟨gl, hl + n * 6 + 5, none⟩ = some (.string l[n].name) := by
  have hr := M.rep
  simp only [RepC] at hr
  obtain ⟨_, A, cc, he, _, hr⟩ := hr
  rcases hr with hr | ⟨g2, h2, xs, rfl, _, hrs, hat⟩
  · have : l = [] := List.map_eq_nil_iff.1 hr
    subst this
    simp at hn
  · simp only [Value.slice.injEq, Option.some.injEq, Addr.mk.injEq] at he
    obtain ⟨⟨rfl, rfl, _⟩, _, rfl⟩ := he
    obtain ⟨x1, o1, q1, _, q3⟩ := row_at (i := n) (by simpa using hn) hrs hat
    simp only [List.getElem_map, Ty.z, RepRow] at q1
    obtain ⟨_, _, _, _, rfl, rfl, ⟨rfl, _, rfl⟩, _, _, _, _, rfl, rfl, ⟨rfl, _, rfl⟩, _, _, _, _, rfl, rfl, ⟨rfl, _, rfl⟩, fv, _, _, _, rfl, rfl, hf, _, _, _, _, rfl, rfl, ⟨rfl, _, rfl⟩, _, _, _, _, rfl, rfl, ⟨rfl, _, rfl⟩, rfl, rfl⟩ := q1
    have hf0 : ∀ {o : List Nat}, RepC W Fz (.fsl 3 (l[n].fields.map Fd.z)) fv o → o = [] := fun h => by simp only [RepC] at h; exact h.1
    refine ⟨fv, ?_, q3 0 _ rfl, q3 1 _ rfl, q3 2 _ rfl, q3 3 _ rfl, q3 4 _ rfl, q3 5 _ rfl⟩
    have := hf0 hf
    subst this
    exact hf
end Go.Proofs.Sizes

namespace Go.AM
set_option linter.unusedVariables false
set_option linter.unusedSimpArgs false
def fdsAt (l : List Ty) (n : Int) : List Fd := match l[n.toNat]? with
  | some t => t.fields
  | none => []

theorem fdsAt_len {l : List Ty} (ht : tysOk l = true) (n : Int) : (fdsAt l n).length ≤ 6 := by
  unfold fdsAt
  split
  · rename_i t h
    obtain ⟨hn, rfl⟩ := List.getElem?_eq_some_iff.1 h
    exact (tysOk_good ht hn).few
  · simp

end Go.AM
namespace Go.Proofs.AllF
open Go Go.AM Go.RowKit Go.Shelf Go.Proofs Go.Proofs.Backw
attribute [local go_sem] Oper.semAt_some
set_option linter.unusedVariables false
set_option linter.unusedSimpArgs false

theorem rows_iv {w : World} {Fz : Nat → Prop} : ∀ {zs : List Int} {xs : List Value} {o : List Nat}, RepRows w Fz 1 (zs.map iv) xs o → xs = zs.map (fun k => Value.int .i64 k) ∧ o = []
  | [], xs, o, h => by simpa [RepRows] using h
  | z :: zs, xs, o, h => by
    simp only [List.map_cons, RepRows] at h
    obtain ⟨x1, x2, o1, o2, rfl, rfl, _, hr, hrs⟩ := h
    obtain ⟨rfl, rfl⟩ := rows_iv hrs
    simp only [iv, RepRow, RepC] at hr
    obtain ⟨x, xs', o3, o4, rfl, rfl, ⟨rfl, _, rfl⟩, rfl, rfl⟩ := hr
    exact ⟨rfl, rfl⟩
theorem keepW {w w' : World} {Fz : Nat → Prop} {av : AV} {x : Value} (hlt : ∀ b, Fz b → b < w.heap.size) (hE : Ext w w' []) (h : RepC w Fz av x []) : RepC w' Fz av x [] :=
  h.keep _ _ _ ⟨fun b hb => ⟨hb, hE.blk b (hlt b hb) (by simp)⟩, fun b hb => by simp at hb⟩

/-- What a round is handed: the index, and the number of a type. -/
def InT (l : List Ty) : Type := { x : Int × Int // 0 ≤ x.2 ∧ x.2.toNat < l.length }
def flds (l : List Ty) (pre : List (InT l)) : List Go.AM.Fd := pre.flatMap fun x => fdsAt l x.1.2
theorem flds_snoc (l : List Ty) (pre : List (InT l)) (x : InT l) : flds l (pre ++ [x]) = flds l pre ++ fdsAt l x.1.2 := by simp [flds]
theorem flds_len {l : List Ty} (ht : tysOk l = true) : ∀ pre : List (InT l), (flds l pre).length ≤ 6 * pre.length
  | [] => by simp [flds]
  | x :: pre => by
    have h1 := flds_len ht pre
    have h2 := fdsAt_len ht x.1.2
    simp only [flds, List.flatMap_cons, List.length_append, List.length_cons] at h1 ⊢
    omega
theorem rows_fd {w : World} {Fz : Nat → Prop} : ∀ {fs : List Go.AM.Fd} {xs : List Value} {o : List Nat}, RepRows w Fz 3 (fs.map Go.AM.Fd.o) xs o → o = []
  | [], xs, o, h => by simp only [List.map_nil, RepRows] at h; exact h.2
  | f :: fs, xs, o, h => by
    simp only [List.map_cons, RepRows] at h
    obtain ⟨x1, x2, o1, o2, rfl, rfl, _, hr, hrs⟩ := h
    rw [rows_fd hrs, List.append_nil]
    simp only [Go.AM.Fd.o, RepRow, RepC] at hr
    obtain ⟨_, _, _, _, rfl, rfl, ⟨_, _, rfl⟩, _, _, _, _, rfl, rfl, ⟨_, _, rfl⟩, _, _, _, _, rfl, rfl, ⟨_, _, rfl⟩, _, rfl⟩ := hr
    rfl
/-- Whatever is owned here is cells. -/
theorem own_cells {w : World} {Fz : Nat → Prop} {fs : List Go.AM.Fd} {x : Value} {o : List Nat} (h : RepC w Fz (.box 47 [.usl 57 3 (fs.map Go.AM.Fd.o)]) x o) : ∀ b ∈ o, ∃ cur e p, w.heap[b]? = some (.cells cur e p) := by
  simp only [RepC, RepRow] at h
  obtain ⟨g, xs, o', rfl, rfl, hg, y, ys, o1, o2, rfl, rfl, hu, rfl, rfl⟩ := h
  intro b hb
  rcases List.mem_cons.1 hb with rfl | hb
  · exact ⟨_, _, _, hg⟩
  · simp only [List.append_nil] at hb
    rcases hu with ⟨_, _, rfl⟩ | ⟨g2, h2, c, cur, vs, o3, _, rfl, hg2, _, _, hr, _⟩
    · simp at hb
    · rw [rows_fd hr] at hb
      simp only [List.mem_singleton] at hb
      subst hb
      exact ⟨_, _, _, hg2⟩

def noF : Nat → Prop := fun _ => False
/-- Between two rounds. -/
def LI (B : Nat) (w6 : World) (l : List Ty) (pre : List (InT l)) (W : World) : Prop := ∃ o5, RepC W noF (.box 47 [.usl 57 3 ((flds l pre).map Go.AM.Fd.o)]) (.pointer (some ⟨B + 1 + 1, 0, none⟩)) o5 ∧ o5.Nodup ∧
  (∀ b ∈ o5, (b = B + 1 + 1 ∨ b = B + 1 ∨ w6.heap.size ≤ b) ∧ b < W.heap.size) ∧ Ext w6 W [B + 1 + 1, B + 1]
theorem LI_own (B : Nat) (w6 : World) (l : List Ty) : OwnFrom w6.heap.size (LI B w6 l) := by
  rintro s W W' row ⟨o5, h1, h2, h3, h4⟩ hg hr
  have hsame : ∀ b, b < W.heap.size → (∀ r, row = some r → b ≠ r) → W'.heap[b]? = W.heap[b]? := fun b hb hn => hg.block b hb (by intro e; exact hn b e.symm rfl)
  refine ⟨o5, h1.keep _ _ _ ⟨fun b hb => hb.elim, fun b hb => hsame b (h3 b hb).2 ?_⟩, h2, fun b hb => ⟨(h3 b hb).1, Nat.lt_of_lt_of_le (h3 b hb).2 hg.size⟩, ⟨hg.os.trans h4.os, hg.tape.trans h4.tape, hg.output.trans h4.output, Nat.le_trans h4.size hg.size, fun b hb hn => (hsame b (Nat.lt_of_lt_of_le hb h4.size) ?_).trans (h4.blk b hb hn)⟩⟩
  · rintro r e rfl
    obtain ⟨_, o, ho, hc⟩ := hr b e
    obtain ⟨cur, e', p, hcur⟩ := own_cells h1 b hb
    rw [hcur] at ho
    cases ho
    simp [Obj.isCells] at hc
  · rintro r e rfl
    have := (hr b e).1
    omega
theorem Rd_of {Bs b off len cap : Nat} {zs : List Int} {W W' : World} (h1 : W'.heap[Bs]? = W.heap[Bs]?) (h2 : W'.heap[b]? = W.heap[b]?) (h : Rd Bs b off len cap zs W) : Rd Bs b off len cap zs W' := by
  refine ⟨?_, fun j hj => ?_⟩
  · rw [World.cell?_of_block (w := W) h1]; exact h.1
  · rw [World.cell?_of_block (w := W) h2]; exact h.2 j hj
/-- How the body of a round is read. -/
def bCtx (W : World) (F0 : Nat → Prop) (o5 : List Nat) (v5 : Value) : Ctx := { w0 := W, Fz := F0, own0 := o5, fx := fun e => if e = 5 then some v5 else none }
def bSt (l : List Ty) (fs : List Go.AM.Fd) (k : Int) : St := stl [(2, .fptr [.fsl 6 (l.map Ty.z)]), (5, .box 47 [.usl 57 3 (fs.map Go.AM.Fd.o)]), (7, .v (.int .i64 k))]
theorem bSim' {l : List Ty} {fs : List Go.AM.Fd} {k : Int} {W : World} {F0 : Nat → Prop} {o5 : List Nat} {a : Act} (hd : a.defers = []) (hn : a.tmps.size = 23) (h2 : RepC W F0 (.fptr [.fsl 6 (l.map Ty.z)]) (tmOf a 2) []) (h5 : RepC W noF (.box 47 [.usl 57 3 (fs.map Go.AM.Fd.o)]) (tmOf a 5) o5)
    (h7 : tmOf a 7 = .int .i64 k) (hnd : o5.Nodup) (hlt : ∀ b ∈ o5, b < W.heap.size ∧ ¬ F0 b) (hF : ∀ b, F0 b → b < W.heap.size) : Sim (bCtx W F0 o5 (tmOf a 5)) 23 (bSt l fs k) a W := by
  refine ⟨hd, ⟨hn, fun k v h => ?_⟩, fun k => if k = 5 then o5 else [], Ext.refl _ _, fun k' => ?_, fun k => ?_, fun j k hjk b hb => ?_, by simp, by simp, ?_⟩
  · simp only [bCtx] at h
    split at h
    · rename_i e; subst e; exact Option.some.inj h
    · cases h
  · have hfz : ∀ b, F0 b → frz (bCtx W F0 o5 (tmOf a 5)) W (owned (fun k => if k = 5 then o5 else []) []) b := by
      intro b hb
      refine ⟨hF b hb, .inr (.inl hb), ?_⟩
      rintro (⟨k, hk⟩ | hk)
      · simp only at hk
        split at hk
        · exact (hlt b hk).2 hb
        · simp at hk
      · simp at hk
    by_cases e2 : k' = 2
    · subst e2
      exact (h2.keep (w' := W) (Fz' := frz (bCtx W F0 o5 (tmOf a 5)) W (owned (fun k => if k = 5 then o5 else []) [])) _ _ _ ⟨fun b hb => ⟨hfz b hb, rfl⟩, fun _ _ => rfl⟩).toV
    by_cases e5 : k' = 5
    · subst e5
      exact (h5.keep (w' := W) (Fz' := frz (bCtx W F0 o5 (tmOf a 5)) W (owned (fun k => if k = 5 then o5 else []) [])) _ _ _ ⟨fun b hb => hb.elim, fun _ _ => rfl⟩).toV
    by_cases e7 : k' = 7
    · subst e7
      rw [h7]
      simp [bSt, stl, RepV, RepC, Value.oneCell']
    · simp [bSt, stl, e2, e5, e7, RepV]
  · by_cases e : k = 5
    · simp [e, hnd]
    · simp [e]
  · by_cases e : j = 5
    · have hk : k ≠ 5 := fun h => hjk (e.trans h.symm)
      simp [hk]
    · simp [e] at hb
  · rintro b (⟨k, hk⟩ | hk)
    · simp only at hk
      split at hk
      · exact ⟨.inl hk, (hlt b hk).1⟩
      · simp at hk
    · simp at hk
theorem bSim {l : List Ty} {fs : List Go.AM.Fd} {k : Int} {W : World} {F0 : Nat → Prop} {o5 : List Nat} {a : Act} {v2 v5 : Value} (hd : a.defers = []) (hn : a.tmps.size = 23) (e2 : tmOf a 2 = v2) (e5 : tmOf a 5 = v5) (h7 : tmOf a 7 = .int .i64 k) (h2 : RepC W F0 (.fptr [.fsl 6 (l.map Ty.z)]) v2 []) (h5 : RepC W noF (.box 47 [.usl 57 3 (fs.map Go.AM.Fd.o)]) v5 o5)
    (hnd : o5.Nodup) (hlt : ∀ b ∈ o5, b < W.heap.size ∧ ¬ F0 b) (hF : ∀ b, F0 b → b < W.heap.size) : Sim (bCtx W F0 o5 v5) 23 (bSt l fs k) a W := by
  subst e2 e5
  exact bSim' hd hn h2 h5 h7 hnd hlt hF
end Go.Proofs.AllF

namespace Go.Proofs.Sizes
open Go Go.AM Go.RowKit Go.Shelf Go.Proofs
attribute [local go_sem] Oper.semAt_some
set_option linter.unusedVariables false
set_option linter.unusedSimpArgs false

/-- Each size is right, or not known yet. -/
def Som (l : List Ty) (s : List Int) : Prop := ∀ j : Nat, j < l.length → getS s (j : Int) = sz l (j : Int) ∨ getS s (j : Int) = -1
def Mor (l : List Ty) (s s' : List Int) : Prop := ∀ j : Nat, j < l.length → getS s (j : Int) = sz l (j : Int) → getS s' (j : Int) = sz l (j : Int)

theorem Mem.ext {Bo Bl Bf g gl hl cap c : Nat} {Fz : Nat → Prop} {l : List Ty} {s : List Int} {W W' : World} (M : Mem Bo Bl Bf g gl hl cap c Fz l s W) (hE : Ext W W' []) : Mem Bo Bl Bf g gl hl cap c Fz l s W' := by
  have hb : ∀ {p : Addr} {v : Value}, W.cell? p = some v → W'.cell? p = some v := fun {p v} h => (World.cell?_of_block (hE.blk _ (World.block_lt_of_cell? W _ h) (by simp))).trans h
  exact ⟨hb M.o, hb M.lb, hb M.f, (hE.blk _ (Array.getElem?_eq_some_iff.1 M.vals).1 (by simp)).trans M.vals, M.len, M.rep.keep _ _ _ ⟨fun b h => ⟨h, hE.blk b (M.fz b h).1 (by simp)⟩, fun b h => by simp at h⟩,
    fun b h => ⟨Nat.lt_of_lt_of_le (M.fz b h).1 hE.size, (M.fz b h).2⟩, M.ne⟩
theorem Mem.put {Bo Bl Bf g gl hl cap c : Nat} {Fz : Nat → Prop} {l : List Ty} {s : List Int} {W : World} (M : Mem Bo Bl Bf g gl hl cap c Fz l s W) {n : Nat} (hn : n < l.length) (v : Int) : Mem Bo Bl Bf g gl hl cap c Fz l (s.set n v) (W.setCell ⟨g, n, none⟩ (.int .i64 v)) ∧ Ext W (W.setCell ⟨g, n, none⟩ (.int .i64 v)) [g] := by
  have hg := (Array.getElem?_eq_some_iff.1 M.vals).1
  have hh : (W.setCell ⟨g, n, none⟩ (.int .i64 v)).heap[g]? = some (.cells ((s.set n v).map (Value.int .i64)).toArray 3 (0, 0)) := by
    simp [World.setCell, Array.getElem?_modify, M.vals, List.map_set]
  have hE : Ext W (W.setCell ⟨g, n, none⟩ (.int .i64 v)) [g] :=
    ⟨rfl, rfl, rfl, by simp [World.setCell], fun b hb hn => Below.heap_setCell _ _ _ b (by simpa using hn)⟩
  have hb : ∀ {p : Addr} {u : Value}, p.block ≠ g → W.cell? p = some u → (W.setCell ⟨g, n, none⟩ (.int .i64 v)).cell? p = some u := fun {p u} hne h => (World.cell?_of_block (hE.blk _ (World.block_lt_of_cell? W _ h) (by simpa using hne))).trans h
  exact ⟨⟨hb M.ne.1 M.o, hb M.ne.2.1 M.lb, hb M.ne.2.2 M.f, hh, by rw [List.length_set]; exact M.len, M.rep.keep _ _ _ ⟨fun b h => ⟨h, hE.blk b (M.fz b h).1 (by simpa using (M.fz b h).2)⟩, fun b h => by simp at h⟩,
    fun b h => ⟨Nat.lt_of_lt_of_le (M.fz b h).1 hE.size, (M.fz b h).2⟩, M.ne⟩, hE⟩

set_option maxRecDepth 100000 in
set_option maxHeartbeats 4000000 in
theorem c142 {Bo Bl Bf g gl hl cap c : Nat} {Fz : Nat → Prop} {l : List Ty} (ht : tabOk l = true) (hsm0 : ∀ t ∈ l, t.sm) (hll : l.length ≤ 24) (hcc : l.length ≤ cap) (hc : l.length ≤ c) : ∀ (k n : Nat), n < l.length → rk l (n : Int) < k → ∀ (W : World) (s : List Int), Mem Bo Bl Bf g gl hl cap c Fz l s W → Som l s →
    Calls Try.prog 142 #[.int .i64 (n : Int), .pointer (some ⟨Bo, 0, none⟩), .pointer (some ⟨Bl, 0, none⟩), .pointer (some ⟨Bf, 0, none⟩)] W fun e W' => e = .returned (.int .i64 (sz l (n : Int))) ∧ ∃ s', Mem Bo Bl Bf g gl hl cap c Fz l s' W' ∧ Som l s' ∧ getS s' (n : Int) = sz l (n : Int) ∧ Mor l s s' ∧ Ext W W' [g]
  | 0, n, _, h, _, _, _, _ => absurd h (by omega)
  | k + 1, n, hn, hk, W, s, M, hS => by
    have ih := c142 (cap := cap) (c := c) (Bo := Bo) (Bl := Bl) (Bf := Bf) (g := g) (gl := gl) (hl := hl) (Fz := Fz) ht hsm0 hll hcc hc k
    refine callsIn_wide (n := 9).1 (callsIn_of_wp Try.func142 rfl trivial ?_ rfl)
    simp only [Try.ntmps142, List.size_toArray, List.length_cons, List.length_nil, Nat.reduceAdd, Nat.reduceSub, Array.replicate_succ, Array.replicate_zero, List.push_toArray, List.append_toArray, List.nil_append, List.cons_append]
    have m1 := M.o
    have m2 := M.at hn
    rcases hS n hn with h0 | h0
    · have hnn := (sz_nn (tabOk_tys ht) (n : Int)).1
      rw [h0] at m2
      gi_wp2
      refine bodyPost_ret (results_tmp rfl _ _ _) rfl ?_
      exact ⟨rfl, s, M, hS, h0, fun j _ h => h, Ext.refl _ _⟩
    · rw [h0] at m2
      have m3 := M.lb
      obtain ⟨fv, f0, r0, r1, r2, r3, r4, r5⟩ := M.row hn
      have f0' := f0
      simp only [RepC] at f0'
      obtain ⟨_, Af, cf, rfl, hcf, hAf⟩ := f0'
      have G := tysOk_good (tabOk_tys ht) hn
      have hse : sz l (n : Int) = oneT l[n] (sz l) := by
        have := sz_eq (l := l) ht (n := (n : Int)) (Int.natCast_nonneg n) (by omega) (hn := by simpa using hn)
        simpa using this
      obtain ⟨W1, hW1⟩ : ∃ W1, W.alloc (Obj.cells #[Value.int .i64 l[n].kind, Value.int .i64 l[n].long, Value.int .i64 l[n].base, Value.slice Af (List.map Fd.z l[n].fields).length cf, Value.string l[n].owner, Value.string l[n].name] 59) = W1 := ⟨_, rfl⟩
      have hE1 : Ext W W1 [] := by rw [← hW1]; exact Ext.alloc _ _ _
      have M1 := M.ext hE1
      have hb1 : W1.heap[W.heap.size]? = some (Obj.cells #[Value.int .i64 l[n].kind, Value.int .i64 l[n].long, Value.int .i64 l[n].base, Value.slice Af (List.map Fd.z l[n].fields).length cf, Value.string l[n].owner, Value.string l[n].name] 59) := by rw [← hW1]; exact World.alloc_heap_new _ _
      have k0 : W1.cell? ⟨W.heap.size, 0, none⟩ = some (.int .i64 l[n].kind) := by rw [cell_of_cells hb1]; rfl
      have k1 : W1.cell? ⟨W.heap.size, 1, none⟩ = some (.int .i64 l[n].long) := by rw [cell_of_cells hb1]; rfl
      have k2 : W1.cell? ⟨W.heap.size, 2, none⟩ = some (.int .i64 l[n].base) := by rw [cell_of_cells hb1]; rfl
      have k3 : W1.cell? ⟨W.heap.size, 3, none⟩ = some (.slice Af l[n].fields.length cf) := by rw [cell_of_cells hb1]; simp
      have k4 : W1.cell? ⟨W.heap.size, 4, none⟩ = some (.string l[n].owner) := by rw [cell_of_cells hb1]; rfl
      have k5 : W1.cell? ⟨W.heap.size, 5, none⟩ = some (.string l[n].name) := by rw [cell_of_cells hb1]; rfl
      have n1 := M1.o
      have n2 := M1.at hn
      rw [h0] at n2
      have n3 := M1.f
      have n4 : W1.frozen? ⟨g, n, none⟩ = false := by simp [World.frozen?, M1.vals]
      have hE1g : Ext W W1 [g] := hE1.mono (by simp)
      have hlt1 : W.heap.size < W1.heap.size := (Array.getElem?_eq_some_iff.1 hb1).1
      have hne1 : W.heap.size ∉ [g] := by have := (Array.getElem?_eq_some_iff.1 M.vals).1; simp; omega
      simp only [List.length_map] at hW1
      -- what is stored and handed back
      have fin : ∀ (v : Int) (W2 : World) (s2 : List Int), v = sz l (n : Int) → Mem Bo Bl Bf g gl hl cap c Fz l s2 W2 → Som l s2 → Mor l s s2 → Ext W W2 [g] →
          ∃ s', Mem Bo Bl Bf g gl hl cap c Fz l s' (W2.setCell ⟨g, n, none⟩ (.int .i64 v)) ∧ Som l s' ∧ getS s' (n : Int) = sz l (n : Int) ∧ Mor l s s' ∧ Ext W (W2.setCell ⟨g, n, none⟩ (.int .i64 v)) [g] := by
        intro v W2 s2 hv M2 hS2 hM2 hE2
        obtain ⟨q1, q2⟩ := M2.put hn v
        have hn2 : n < s2.length := by rw [M2.len]; exact hn
        refine ⟨_, q1, fun j hj => ?_, ?_, fun j hj h => ?_, hE2.trans q2 fun b hb _ => hb⟩
        · rw [getS_set hn2]
          split
          · rename_i e; rw [e]; exact .inl hv
          · exact hS2 j hj
        · rw [getS_set hn2, if_pos rfl]; exact hv
        · rw [getS_set hn2]
          split
          · rename_i e; rw [e]; exact hv
          · exact hM2 j hj h
      have one := G.one
      have hsm := hsm0 _ (List.getElem_mem hn)
      have hcase : l[n].kind = 1 ∨ l[n].kind = 2 ∨ l[n].kind = 3 ∨ l[n].kind = 6 ∨ l[n].kind = 4 ∨ l[n].kind = 5 := by omega
      rcases hcase with hg | hg | hg | hg | hg | hg
      · have hv : sz l (n : Int) = 4 := by rw [hse]; simp [oneT, hg]
        rw [hg] at r0 k0 hW1
        obtain ⟨s', F1, F2, F3, F4, F5⟩ := fin (min 4 1000000001) W1 s (by rw [hv]; rfl) M1 hS (fun j _ h => h) hE1g
        obtain ⟨W2, hW2⟩ : ∃ W2, W1.setCell ⟨g, n, none⟩ (.int .i64 (min 4 1000000001)) = W2 := ⟨_, rfl⟩
        rw [hW2] at F1 F5
        have p1 := F1.o
        have p2 := F1.at hn
        rw [F3] at p2
        clear hv hse
        gi_wp2
        refine bodyPost_ret (results_tmp rfl _ _ _) rfl ?_
        exact ⟨rfl, s', F1, F2, F3, F4, F5⟩
      · have hv : sz l (n : Int) = 1 := by rw [hse]; simp [oneT, hg]
        rw [hg] at r0 k0 hW1
        obtain ⟨s', F1, F2, F3, F4, F5⟩ := fin (min 1 1000000001) W1 s (by rw [hv]; rfl) M1 hS (fun j _ h => h) hE1g
        obtain ⟨W2, hW2⟩ : ∃ W2, W1.setCell ⟨g, n, none⟩ (.int .i64 (min 1 1000000001)) = W2 := ⟨_, rfl⟩
        rw [hW2] at F1 F5
        have p1 := F1.o
        have p2 := F1.at hn
        rw [F3] at p2
        clear hv hse
        gi_wp2
        refine bodyPost_ret (results_tmp rfl _ _ _) rfl ?_
        exact ⟨rfl, s', F1, F2, F3, F4, F5⟩
      · have hv : sz l (n : Int) = 1 := by rw [hse]; simp [oneT, hg]
        rw [hg] at r0 k0 hW1
        obtain ⟨s', F1, F2, F3, F4, F5⟩ := fin (min 1 1000000001) W1 s (by rw [hv]; rfl) M1 hS (fun j _ h => h) hE1g
        obtain ⟨W2, hW2⟩ : ∃ W2, W1.setCell ⟨g, n, none⟩ (.int .i64 (min 1 1000000001)) = W2 := ⟨_, rfl⟩
        rw [hW2] at F1 F5
        have p1 := F1.o
        have p2 := F1.at hn
        rw [F3] at p2
        clear hv hse
        gi_wp2
        refine bodyPost_ret (results_tmp rfl _ _ _) rfl ?_
        exact ⟨rfl, s', F1, F2, F3, F4, F5⟩
      · have hv : sz l (n : Int) = 8 := by rw [hse]; simp [oneT, hg]
        rw [hg] at r0 k0 hW1
        obtain ⟨s', F1, F2, F3, F4, F5⟩ := fin (min 8 1000000001) W1 s (by rw [hv]; rfl) M1 hS (fun j _ h => h) hE1g
        obtain ⟨W2, hW2⟩ : ∃ W2, W1.setCell ⟨g, n, none⟩ (.int .i64 (min 8 1000000001)) = W2 := ⟨_, rfl⟩
        rw [hW2] at F1 F5
        have p1 := F1.o
        have p2 := F1.at hn
        rw [F3] at p2
        clear hv hse
        gi_wp2
        refine bodyPost_ret (results_tmp rfl _ _ _) rfl ?_
        exact ⟨rfl, s', F1, F2, F3, F4, F5⟩
      · obtain ⟨a1, a2, a3⟩ := G.arr hg
        obtain ⟨b0, b1⟩ := isNum_in.1 a1
        obtain ⟨m, hm⟩ : ∃ m : Nat, l[n].base = (m : Int) := ⟨l[n].base.toNat, by omega⟩
        have hml : m < l.length := by omega
        have hmk : rk l (m : Int) < k := by
          have : (m : Int) ∈ kids l false (n : Int) := by
            rw [kids_at (n := (n : Int)) (by simpa using hn)]
            simp [prt, hg, hm]
          have := rk_lt ht (Int.natCast_nonneg n) (by omega) this
          omega
        have hcall : ∀ W', Ext W1 W' [] → _ := fun W' hE' => ih m hml hmk W' s (M1.ext hE') hS
        rw [hg] at r0 k0 hW1
        rw [hm] at r2 k2 hW1
        gi_wp2
        refine wpIn_wide.2 ?_
        go_region_held3 (fun w => w.cell? ⟨W.heap.size, 1, none⟩ = some (.int .i64 l[n].long) ∧ w.cell? ⟨W.heap.size, 2, none⟩ = some (.int .i64 (m : Int)) ∧ w.cell? ⟨Bf, 0, none⟩ = some (.func (.func 142) #[] #[.pointer (some ⟨Bo, 0, none⟩), .pointer (some ⟨Bl, 0, none⟩), .pointer (some ⟨Bf, 0, none⟩)])) (first | exact ⟨k1, k2, n3⟩ | exact ⟨by assumption, by assumption, by assumption⟩) (first | (go_at_call 142; refine (hcall _ (Ext.drew _ _)).mono ?_; rintro e W2 ⟨rfl, s2, M2, S2, g2, Mo2, E2⟩; have c1 : W2.cell? ⟨W.heap.size, 1, none⟩ = some (.int .i64 l[n].long) := (World.cell?_of_block (E2.blk W.heap.size hlt1 hne1)).trans k1; have c2 : W2.cell? ⟨W.heap.size, 2, none⟩ = some (.int .i64 (m : Int)) := (World.cell?_of_block (E2.blk W.heap.size hlt1 hne1)).trans k2; have c3 := M2.f))
        have hv : min (l[n].long * sz l (m : Int)) 1000000001 = sz l (n : Int) := by
          have hp : prt false l[n] = [(m : Int)] := by
            simp [prt, hg, hm, G.none (by rw [hg]; omega)]
          rw [hse]
          unfold oneT capS
          rw [hg, hp]
          simp only [sumZ, show ((4 : Int) == 1) = false from rfl, show ((4 : Int) == 2) = false from rfl, show ((4 : Int) == 3) = false from rfl, show ((4 : Int) == 6) = false from rfl, show ((4 : Int) == 4) = true from rfl, Bool.or_self, Bool.false_eq_true, if_false, if_true, Int.add_zero]
          rw [Int.mul_comm, Int.min_comm]
        have hb := sz_nn (tabOk_tys ht) (m : Int)
        have hw1 : l[n].long * sz l (m : Int) ≤ 1000 * sz l (m : Int) := Int.mul_le_mul_of_nonneg_right a3 hb.1
        have hw0 : 0 ≤ l[n].long * sz l (m : Int) := Int.mul_nonneg (by omega) hb.1
        have hw := w64 (l[n].long * sz l (m : Int)) (by omega)
        simp only [hw]
        obtain ⟨s', F1, F2, F3, F4, F5⟩ := fin (min (l[n].long * sz l (m : Int)) 1000000001) W2 s2 hv M2 S2 Mo2 (hE1g.trans ((Ext.drew W1 [g]).trans E2 fun b hb _ => hb) fun b hb _ => hb)
        obtain ⟨W3, hW3⟩ : ∃ W3, W2.setCell ⟨g, n, none⟩ (.int .i64 (min (l[n].long * sz l (m : Int)) 1000000001)) = W3 := ⟨_, rfl⟩
        rw [hW3] at F1 F5
        have p1 := F1.o
        have p2 := F1.at hn
        rw [F3] at p2
        have o1 := M2.o
        have o2 := M2.at hn
        have o3 : W2.frozen? ⟨g, n, none⟩ = false := by simp [World.frozen?, M2.vals]
        clear hv hse hw hw0 hw1
        gi_wp2
        refine bodyPost_ret (results_tmp rfl _ _ _) rfl ?_
        exact ⟨rfl, s', F1, F2, F3, F4, F5⟩
      · have hk6 : ∀ i (h : i < (prt false l[n]).length), ∃ m : Nat, (prt false l[n])[i] = (m : Int) ∧ m < l.length ∧ rk l (m : Int) < k := by
          intro i h
          have hm : (prt false l[n])[i] ∈ kids l false (n : Int) := by
            rw [kids_at (n := (n : Int)) (by simpa using hn)]
            simp only [Int.toNat_natCast]
            exact List.getElem_mem h
          obtain ⟨b0, b1⟩ := kids_ok (tabOk_tys ht) (Int.natCast_nonneg n) (by omega) hm
          have hlt := rk_lt ht (Int.natCast_nonneg n) (by omega) hm
          exact ⟨(prt false l[n])[i].toNat, by omega, by omega, by rw [Int.toNat_of_nonneg b0]; omega⟩
        have h7 := prt_len (tabOk_tys ht) false hn
        have hv : min (sumZ (sz l) (prt false l[n])) 1000000001 = sz l (n : Int) := by
          rw [hse]
          unfold oneT capS
          rw [hg]
          simp only [show ((5 : Int) == 1) = false from rfl, show ((5 : Int) == 2) = false from rfl, show ((5 : Int) == 3) = false from rfl, show ((5 : Int) == 6) = false from rfl, show ((5 : Int) == 4) = false from rfl, Bool.or_self, Bool.false_eq_true, if_false]
          rw [Int.min_comm]
        have h136 := (d136 l[n] false hsm).2 W1 Fz [.agg #[Value.int .i64 l[n].kind, Value.int .i64 l[n].long, Value.int .i64 l[n].base, Value.slice Af (List.map Fd.z l[n].fields).length cf, Value.string l[n].owner, Value.string l[n].name], .bool false] [] (by
          have f1 : RepC W1 Fz (.fsl 3 (l[n].fields.map Fd.z)) (Value.slice Af (List.map Fd.z l[n].fields).length cf) [] := f0.keep _ _ _ ⟨fun b h => ⟨h, hE1.blk b (M.fz b h).1 (by simp)⟩, fun b h => by simp at h⟩
          refine ⟨_, _, [], [], rfl, rfl, ⟨[Value.int .i64 l[n].kind, Value.int .i64 l[n].long, Value.int .i64 l[n].base, Value.slice Af (List.map Fd.z l[n].fields).length cf, Value.string l[n].owner, Value.string l[n].name], rfl, ?_⟩, _, _, [], [], rfl, rfl, by simp [RepV, RepC, Value.oneCell'], rfl, rfl⟩
          exact ⟨_, _, [], [], rfl, rfl, by simp [RepV, RepC, Value.oneCell'], _, _, [], [], rfl, rfl, by simp [RepV, RepC, Value.oneCell'], _, _, [], [], rfl, rfl, by simp [RepV, RepC, Value.oneCell'], _, _, [], [], rfl, rfl, f1.toV, _, _, [], [], rfl, rfl, by simp [RepV, RepC, Value.oneCell'], _, _, [], [], rfl, rfl, by simp [RepV, RepC, Value.oneCell'], rfl, rfl⟩) List.nodup_nil (by simp) (fun b hb => (M1.fz b hb).1)
        rw [hg] at r0 k0 hW1 h136
        generalize hps : prt false l[n] = ps at h136 hk6 h7 hv
        clear hse
        gi_wp2
        simp only [List.length_map] at h136
        refine ⟨trivial, (callsIn_wide.2 h136).mono ?_⟩
        rintro e Wp ⟨x, ox, oo, rfl, hEp, hx, _, _, hold⟩
        have Mp := M1.ext hEp
        have hgW := (Array.getElem?_eq_some_iff.1 M1.vals).1
        obtain ⟨A, cp, rfl, hA⟩ : ∃ A cp, x = .slice A ps.length cp ∧ (0 < ps.length → ps.length ≤ cp ∧ ∃ gp hp, A = some ⟨gp, hp, none⟩ ∧ W1.heap.size ≤ gp ∧ gp < Wp.heap.size ∧ ∀ i (h : i < ps.length), Wp.cell? ⟨gp, hp + i, none⟩ = some (.int .i64 ps[i])) := by
          simp only [RepV, RepC] at hx
          rcases hx with ⟨rfl, hx, _⟩ | ⟨gp, hp, cp, cur, vs, o', rfl, rfl, _, hc, _, hrw, hat⟩
          · have : ps = [] := List.map_eq_nil_iff.1 hx
            subst this
            exact ⟨none, 0, rfl, fun h => absurd h (by simp)⟩
          · obtain ⟨rfl, rfl⟩ := AllF.rows_iv hrw
            have hgp := hold gp (by simp)
            refine ⟨some ⟨gp, hp * 1, none⟩, cp, by rw [List.length_map], fun _ => ⟨by simpa using hc, gp, hp * 1, rfl, by rcases hgp.1 with h | h; simp at h; exact h, hgp.2, fun i h => hat i _ (by simp [h])⟩⟩
        gi_wp2
        gi_loopw [7, 46] (fun a b wr => ∃ (i : Nat) (s2 : List Int), i ≤ ps.length ∧ b = .int .i64 (i : Int) ∧ a = .int .i64 (sumZ (sz l) (ps.take i)) ∧ Mem Bo Bl Bf g gl hl cap c Fz l s2 wr ∧ Som l s2 ∧ Mor l s s2 ∧ Ext W wr [g] ∧ Ext Wp wr [g])
          (fun a b _ => ps.length - (intOf b).toNat)
        case atStart => exact ⟨0, s, Nat.zero_le _, rfl, rfl, Mp, hS, fun j _ h => h, hE1g.trans (hEp.mono (by simp)) (fun b hb _ => hb), Ext.refl _ _⟩
        case round =>
          obtain ⟨i, s2, hi, rfl, rfl, Ms, Ss, Mo, EW, EP⟩ := hrel
          by_cases hlt : i < ps.length
          · obtain ⟨hc', gp, hp, rfl, hg1, hg2, hat⟩ := hA (by omega)
            have hcx : wr.cell? ⟨gp, hp + i, none⟩ = some (.int .i64 ps[i]) := (World.cell?_of_block (EP.blk gp hg2 (by simp; omega))).trans (hat i hlt)
            obtain ⟨m, hm, hml, hmk⟩ := hk6 i hlt
            rw [hm] at hcx
            have hf := Ms.f
            have hb := sz_nn (tabOk_tys ht) (m : Int)
            have hs1 : sumZ (sz l) (ps.take (i + 1)) = sumZ (sz l) (ps.take i) + sz l (m : Int) := by
              rw [List.take_succ_eq_append_getElem hlt, sumZ_app, hm]; simp [sumZ]
            have hs2 : 0 ≤ sumZ (sz l) (ps.take i) ∧ sumZ (sz l) (ps.take i) ≤ 7000000007 := by
              have q1 := sumZ_nn (g := sz l) (ks := ps.take i) fun k _ => (sz_nn (tabOk_tys ht) k).1
              have q2 := sumZ_le (g := sz l) (B := 1000000001) (ks := ps.take i) fun k _ => (sz_nn (tabOk_tys ht) k).2
              simp only [List.length_take] at q2
              omega
            gi_wp2
            refine ⟨trivial, (callsIn_wide.2 (ih m hml hmk wr s2 Ms Ss)).mono ?_⟩
            rintro e W3 ⟨rfl, s3, M3, S3, g3, Mo3, E3⟩
            gi_wp2
            exact ⟨⟨i + 1, s3, hlt, by simp, by rw [hs1], M3, S3, fun j hj h => Mo3 j hj (Mo j hj h), EW.trans E3 fun b hb _ => hb, EP.trans E3 fun b hb _ => hb⟩, by simp [intOf]; omega⟩
          · obtain rfl : i = ps.length := by omega
            simp only [List.take_length]
            obtain ⟨s', F1, F2, F3, F4, F5⟩ := fin (min (sumZ (sz l) ps) 1000000001) wr s2 hv Ms Ss Mo EW
            obtain ⟨W4, hW4⟩ : ∃ W4, wr.setCell ⟨g, n, none⟩ (.int .i64 (min (sumZ (sz l) ps) 1000000001)) = W4 := ⟨_, rfl⟩
            rw [hW4] at F1 F5
            have p1 := F1.o
            have p2 := F1.at hn
            rw [F3] at p2
            have o1 := Ms.o
            have o2 := Ms.at hn
            have o3 : wr.frozen? ⟨g, n, none⟩ = false := by simp [World.frozen?, Ms.vals]
            clear hv
            gi_wp2
            refine bodyPost_ret (results_tmp rfl _ _ _) rfl ?_
            exact ⟨rfl, s', F1, F2, F3, F4, F5⟩
end Go.Proofs.Sizes

