/- Contracts of functions of the given program, for the law FnExactSameStore: what they return and what they write, under the bounds that each theorem states. -/
import Derived.Test.YtjbmgopednpbmaaC9
import Derived.Test.YtjbmgopednpbmaaU9
namespace Go.AM
set_option linter.unusedVariables false
set_option linter.unusedSimpArgs false

noncomputable def sameSc (x y : Scope) : Bool := (x.name.toList == y.name.toList) && (eqL qStr x.imports y.imports && (eqL sameTy x.types y.types && (eqL sameOb x.objects y.objects && (eqL qUs x.uses y.uses))))
noncomputable def sameMo (x y : Modu) : Bool := sameSc x.scope y.scope && eqL qSeen x.seen y.seen

/-- loop.example/g00837/impl.sameScope -/
def m67 : MC :=
  (.seq
   (.reg [⟨(some 2), none, .a (.box 83 (.t 0))⟩,
     ⟨(some 3), none, .a (.box 83 (.t 1))⟩,
     ⟨(some 4), none, .a (.asg (.c (.bool false)))⟩])
   (.seq
    (.reg [⟨(some 5), none, .q (.fad 0 (.t 2))⟩,
      ⟨(some 6), none, .q (.load false 1 (.t 5))⟩,
      ⟨(some 7), none, .q (.fad 0 (.t 3))⟩,
      ⟨(some 8), none, .q (.load false 1 (.t 7))⟩,
      ⟨(some 9), none, .q (.bin false .eql (.t 6) (.t 8))⟩,
      ⟨(some 10), none, .q (.mov (.t 9))⟩,
      ⟨(some 11), (some (10, true)), .q (.fad 1 (.t 2))⟩,
      ⟨(some 12), (some (10, true)), .q (.load false 1 (.t 11))⟩,
      ⟨(some 13), (some (10, true)), .q (.fad 1 (.t 3))⟩,
      ⟨(some 14), (some (10, true)), .q (.load false 1 (.t 13))⟩,
      ⟨(some 15), (some (10, true)), .a (.call (.fn 119) false [.lend (.t 12), .lend (.t 14)])⟩,
      ⟨(some 16), none, .q (.pick (.t 10) (.t 15) (.c (.bool false)))⟩,
      ⟨(some 17), none, .q (.mov (.t 16))⟩,
      ⟨(some 18), (some (17, true)), .q (.fad 2 (.t 2))⟩,
      ⟨(some 19), (some (17, true)), .q (.load false 1 (.t 18))⟩,
      ⟨(some 20), (some (17, true)), .q (.fad 2 (.t 3))⟩,
      ⟨(some 21), (some (17, true)), .q (.load false 1 (.t 20))⟩,
      ⟨(some 22), (some (17, true)), .a (.call (.fn 120) false [.lend (.t 19), .lend (.t 21), .lend (.fn 121)])⟩,
      ⟨(some 23), none, .q (.pick (.t 17) (.t 22) (.c (.bool false)))⟩,
      ⟨(some 24), none, .q (.mov (.t 23))⟩,
      ⟨(some 25), (some (24, true)), .q (.fad 3 (.t 2))⟩,
      ⟨(some 26), (some (24, true)), .q (.load false 1 (.t 25))⟩,
      ⟨(some 27), (some (24, true)), .q (.fad 3 (.t 3))⟩,
      ⟨(some 28), (some (24, true)), .q (.load false 1 (.t 27))⟩,
      ⟨(some 29), (some (24, true)), .a (.call (.fn 122) false [.lend (.t 26), .lend (.t 28), .lend (.fn 123)])⟩,
      ⟨(some 30), none, .q (.pick (.t 24) (.t 29) (.c (.bool false)))⟩,
      ⟨(some 31), none, .q (.mov (.t 30))⟩,
      ⟨(some 32), (some (31, true)), .q (.fad 4 (.t 2))⟩,
      ⟨(some 33), (some (31, true)), .q (.load false 1 (.t 32))⟩,
      ⟨(some 34), (some (31, true)), .q (.fad 4 (.t 3))⟩,
      ⟨(some 35), (some (31, true)), .q (.load false 1 (.t 34))⟩,
      ⟨(some 36), (some (31, true)), .a (.call (.fn 124) false [.lend (.t 33), .lend (.t 35)])⟩,
      ⟨(some 37), none, .q (.pick (.t 31) (.t 36) (.c (.bool false)))⟩,
      ⟨(some 4), none, .a (.asg (.t 37))⟩])
    .ret))


set_option maxRecDepth 100000 in
theorem d67 (x y : Scope) (hx : x.sm) (hy : y.sm) : Does Go.Proofs.Try.prog 67 [.agg x.z, .agg y.z] false (.v (.bool (sameSc x y))) [.dead, .dead] := by
  unfold Scope.sm at hx hy
  refine does_intro (mc := m67) (N := 38) (rs := [4]) (fx := []) 2 rfl (by decide +kernel) ?_
  simp only [m67, Scope.z, EV, Nat.reduceEqDiff, Nat.reduceBEq, Nat.reduceLT, Nat.reduceLeDiff, Nat.reduceAdd, Nat.reduceSub, reduceIte]
  repeat' (first
    | (refine gK_cut (fun h => ?_) (fun h => ?_) <;> simp only [h, EV, Nat.reduceEqDiff, Nat.reduceBEq, Nat.reduceLT, Nat.reduceLeDiff, Nat.reduceAdd, Nat.reduceSub, reduceIte])
    | (refine cK_cut (fun h => ?_) (fun h => ?_) <;> simp only [h, EV, Nat.reduceEqDiff, Nat.reduceBEq, Nat.reduceLT, Nat.reduceLeDiff, Nat.reduceAdd, Nat.reduceSub, reduceIte])
    | (refine callK_i (d119 _ _ (by omega) (by omega)) ?_ <;> simp only [h, EV, Nat.reduceEqDiff, Nat.reduceBEq, Nat.reduceLT, Nat.reduceLeDiff, Nat.reduceAdd, Nat.reduceSub, reduceIte])
    | (refine callK_i (d120 x.types y.types (by omega) (by omega) 121 sameTy (fun a ha b hb => d121 a b (hx.2.2.1.2 a ha) (hy.2.2.1.2 b hb))) ?_ <;> simp only [h, EV, Nat.reduceEqDiff, Nat.reduceBEq, Nat.reduceLT, Nat.reduceLeDiff, Nat.reduceAdd, Nat.reduceSub, reduceIte])
    | (refine callK_i (d122 x.objects y.objects (by omega) (by omega) 123 sameOb (fun a ha b hb => d123 a b (hx.2.2.2.1.2 a ha) (hy.2.2.2.1.2 b hb))) ?_ <;> simp only [h, EV, Nat.reduceEqDiff, Nat.reduceBEq, Nat.reduceLT, Nat.reduceLeDiff, Nat.reduceAdd, Nat.reduceSub, reduceIte])
    | (refine callK_i (d124 _ _ (by omega) (by omega)) ?_ <;> simp only [h, EV, Nat.reduceEqDiff, Nat.reduceBEq, Nat.reduceLT, Nat.reduceLeDiff, Nat.reduceAdd, Nat.reduceSub, reduceIte]))
  all_goals simp only [sameSc, *, Bool.true_and, Bool.false_and, Bool.and_true, Bool.and_false, Bool.and_self, EV, Nat.reduceEqDiff, Nat.reduceBEq, Nat.reduceLT, Nat.reduceLeDiff, Nat.reduceAdd, Nat.reduceSub, reduceIte, retVC, cellV', evR, nfz, nfzs, nfzss, List.contains_nil, List.contains_cons, Bool.or_false, or_true]

/-- loop.example/g00837/impl.SameStore$1 -/
def m66 : MC :=
  (.seq
   (.reg [⟨(some 2), none, .a (.box 86 (.t 0))⟩,
     ⟨(some 3), none, .a (.box 86 (.t 1))⟩,
     ⟨(some 4), none, .a (.asg (.c (.bool false)))⟩])
   (.seq
    (.reg [⟨(some 5), none, .q (.fad 0 (.t 2))⟩,
      ⟨(some 6), none, .q (.load true 5 (.t 5))⟩,
      ⟨(some 7), none, .q (.fad 0 (.t 3))⟩,
      ⟨(some 8), none, .q (.load true 5 (.t 7))⟩,
      ⟨(some 9), none, .a (.call (.fn 67) false [.lend (.t 6), .lend (.t 8)])⟩,
      ⟨(some 10), none, .q (.mov (.t 9))⟩,
      ⟨(some 11), (some (10, true)), .q (.fad 5 (.t 2))⟩,
      ⟨(some 12), (some (10, true)), .q (.load false 1 (.t 11))⟩,
      ⟨(some 13), (some (10, true)), .q (.fad 5 (.t 3))⟩,
      ⟨(some 14), (some (10, true)), .q (.load false 1 (.t 13))⟩,
      ⟨(some 15), (some (10, true)), .a (.call (.fn 68) false [.lend (.t 12), .lend (.t 14)])⟩,
      ⟨(some 16), none, .q (.pick (.t 10) (.t 15) (.c (.bool false)))⟩,
      ⟨(some 4), none, .a (.asg (.t 16))⟩])
    .ret))


set_option maxRecDepth 100000 in
theorem d66 (x y : Modu) (hx : x.sm) (hy : y.sm) : Does Go.Proofs.Try.prog 66 [.agg x.z, .agg y.z] false (.v (.bool (sameMo x y))) [.dead, .dead] := by
  unfold Modu.sm at hx hy
  refine does_intro (mc := m66) (N := 17) (rs := [4]) (fx := []) 2 rfl (by decide +kernel) ?_
  simp only [m66, Modu.z, Scope.z, EV, Nat.reduceEqDiff, Nat.reduceBEq, Nat.reduceLT, Nat.reduceLeDiff, Nat.reduceAdd, Nat.reduceSub, reduceIte]
  refine callK_i (d67 x.scope y.scope hx.1 hy.1) ?_
  simp only [EV, Nat.reduceEqDiff, Nat.reduceBEq, Nat.reduceLT, Nat.reduceLeDiff, Nat.reduceAdd, Nat.reduceSub, reduceIte]
  repeat' (first
    | (refine gK_cut (fun h => ?_) (fun h => ?_) <;> simp only [h, EV, Nat.reduceEqDiff, Nat.reduceBEq, Nat.reduceLT, Nat.reduceLeDiff, Nat.reduceAdd, Nat.reduceSub, reduceIte])
    | (refine cK_cut (fun h => ?_) (fun h => ?_) <;> simp only [h, EV, Nat.reduceEqDiff, Nat.reduceBEq, Nat.reduceLT, Nat.reduceLeDiff, Nat.reduceAdd, Nat.reduceSub, reduceIte])
    | (refine callK_i (d68 _ _ (by omega) (by omega)) ?_ <;> simp only [h, EV, Nat.reduceEqDiff, Nat.reduceBEq, Nat.reduceLT, Nat.reduceLeDiff, Nat.reduceAdd, Nat.reduceSub, reduceIte]))
  all_goals simp only [sameMo, *, Bool.true_and, Bool.false_and, Bool.and_true, Bool.and_false, Bool.and_self, EV, Nat.reduceEqDiff, Nat.reduceBEq, Nat.reduceLT, Nat.reduceLeDiff, Nat.reduceAdd, Nat.reduceSub, reduceIte, retVC, cellV', evR, nfz, nfzs, nfzss, List.contains_nil, List.contains_cons, Bool.or_false, or_true]

/-- loop.example/g00837/impl.SameStore -/
def m16 : MC :=
  (.seq
   (.reg [⟨(some 4), none, .a (.asg (.c (.bool false)))⟩])
   (.seq
    (.reg [⟨(some 5), none, .q (.mov (.t 0))⟩,
      ⟨(some 6), none, .q (.mov (.t 1))⟩,
      ⟨(some 7), none, .a (.call (.fn 65) false [.lend (.t 5), .lend (.t 6), .lend (.fn 66)])⟩,
      ⟨(some 4), none, .a (.asg (.t 7))⟩])
    .ret))


theorem d16 (a b : List Modu) (ha : (a.length : Int) ≤ 1048576) (hb : (b.length : Int) ≤ 1048576) (hx : ∀ x ∈ a, x.sm) (hy : ∀ x ∈ b, x.sm) : Does Go.Proofs.Try.prog 16 [.fsl 6 (a.map Modu.z), .fsl 6 (b.map Modu.z)] false (.v (.bool (eqL sameMo a b))) [.dead, .dead] := by
  refine does_intro (mc := m16) (N := 8) (rs := [4]) (fx := []) 2 rfl (by decide +kernel) ?_
  simp only [m16, EV, Nat.reduceEqDiff, Nat.reduceBEq, Nat.reduceLT, Nat.reduceLeDiff, Nat.reduceAdd, Nat.reduceSub, reduceIte]
  refine callK_i (d65 a b ha hb 66 sameMo (fun x h y g => d66 x y (hx x h) (hy y g))) ?_
  simp only [EV, Nat.reduceEqDiff, Nat.reduceBEq, Nat.reduceLT, Nat.reduceLeDiff, Nat.reduceAdd, Nat.reduceSub, reduceIte]
  simp only [EV, Nat.reduceEqDiff, Nat.reduceBEq, Nat.reduceLT, Nat.reduceLeDiff, Nat.reduceAdd, Nat.reduceSub, reduceIte, retVC, cellV', evR, nfz, nfzs, nfzss, List.contains_nil, List.contains_cons, Bool.or_false, or_true]

/-- loop.example/g00837/spec.SameScope -/
def m63 : MC :=
  (.seq
   (.reg [⟨(some 2), none, .a (.box 83 (.t 0))⟩,
     ⟨(some 3), none, .a (.box 83 (.t 1))⟩,
     ⟨(some 4), none, .a (.asg (.c (.bool false)))⟩])
   (.seq
    (.seq
     (.reg [⟨(some 8), none, .q (.fad 0 (.t 2))⟩,
       ⟨(some 9), none, .q (.load false 1 (.t 8))⟩,
       ⟨(some 10), none, .q (.fad 0 (.t 3))⟩,
       ⟨(some 11), none, .q (.load false 1 (.t 10))⟩,
       ⟨(some 12), none, .q (.bin false .neq (.t 9) (.t 11))⟩,
       ⟨(some 13), none, .q (.mov (.t 12))⟩,
       ⟨(some 14), (some (13, false)), .q (.fad 1 (.t 2))⟩,
       ⟨(some 15), (some (13, false)), .q (.load false 1 (.t 14))⟩,
       ⟨(some 16), (some (13, false)), .q (.fad 1 (.t 3))⟩,
       ⟨(some 17), (some (13, false)), .q (.load false 1 (.t 16))⟩,
       ⟨(some 18), (some (13, false)), .a (.call (.fn 114) false [.lend (.t 15), .lend (.t 17)])⟩,
       ⟨(some 19), (some (13, false)), .q (.un .not (.t 18))⟩,
       ⟨(some 20), none, .q (.pick (.t 13) (.c (.bool true)) (.t 19))⟩,
       ⟨(some 21), none, .q (.mov (.t 20))⟩,
       ⟨(some 22), (some (21, false)), .q (.fad 2 (.t 2))⟩,
       ⟨(some 23), (some (21, false)), .q (.load false 1 (.t 22))⟩,
       ⟨(some 24), (some (21, false)), .q (.len false (.t 23))⟩,
       ⟨(some 25), (some (21, false)), .q (.fad 2 (.t 3))⟩,
       ⟨(some 26), (some (21, false)), .q (.load false 1 (.t 25))⟩,
       ⟨(some 27), (some (21, false)), .q (.len false (.t 26))⟩,
       ⟨(some 28), (some (21, false)), .q (.bin false .neq (.t 24) (.t 27))⟩,
       ⟨(some 29), none, .q (.pick (.t 21) (.c (.bool true)) (.t 28))⟩,
       ⟨(some 30), none, .q (.mov (.t 29))⟩,
       ⟨(some 31), (some (30, false)), .q (.fad 3 (.t 2))⟩,
       ⟨(some 32), (some (30, false)), .q (.load false 1 (.t 31))⟩,
       ⟨(some 33), (some (30, false)), .q (.len false (.t 32))⟩,
       ⟨(some 34), (some (30, false)), .q (.fad 3 (.t 3))⟩,
       ⟨(some 35), (some (30, false)), .q (.load false 1 (.t 34))⟩,
       ⟨(some 36), (some (30, false)), .q (.len false (.t 35))⟩,
       ⟨(some 37), (some (30, false)), .q (.bin false .neq (.t 33) (.t 36))⟩,
       ⟨(some 38), none, .q (.pick (.t 30) (.c (.bool true)) (.t 37))⟩,
       ⟨(some 39), none, .q (.mov (.t 38))⟩,
       ⟨(some 40), (some (39, false)), .q (.fad 4 (.t 2))⟩,
       ⟨(some 41), (some (39, false)), .q (.load false 1 (.t 40))⟩,
       ⟨(some 42), (some (39, false)), .q (.len false (.t 41))⟩,
       ⟨(some 43), (some (39, false)), .q (.fad 4 (.t 3))⟩,
       ⟨(some 44), (some (39, false)), .q (.load false 1 (.t 43))⟩,
       ⟨(some 45), (some (39, false)), .q (.len false (.t 44))⟩,
       ⟨(some 46), (some (39, false)), .q (.bin false .neq (.t 42) (.t 45))⟩,
       ⟨(some 47), none, .q (.pick (.t 39) (.c (.bool true)) (.t 46))⟩])
     (.cond (.t 47)
      (.seq
       (.reg [⟨(some 4), none, .a (.asg (.c (.bool false)))⟩])
       .ret)
      .skip))
    (.seq
     (.seq
      (.reg [⟨(some 48), none, .q (.fad 2 (.t 2))⟩,
        ⟨(some 49), none, .q (.load false 1 (.t 48))⟩,
        ⟨(some 50), none, .q (.len false (.t 49))⟩,
        ⟨(some 51), none, .q (.mov (.c (.int .i64 0)))⟩])
      (.block 0
       (.loop [2, 3, 50, 51]
        (.seq
         (.reg [⟨(some 52), none, .q (.bin false .lss (.t 51) (.t 50))⟩])
         (.seq
          (.cond (.t 52)
           .skip
           (.exit 0))
          (.seq
           (.block 1
            (.seq
             (.reg [⟨(some 53), none, .q (.mov (.t 51))⟩,
               ⟨(some 5), none, .a (.asg (.t 53))⟩])
             (.seq
              (.dreg [⟨(some 54), none, .q (.fad 2 (.t 2))⟩,
                ⟨(some 55), none, .q (.load false 1 (.t 54))⟩,
                ⟨(some 56), none, .q (.mov (.t 5))⟩,
                ⟨(some 57), none, .q (.iad 6 (.t 55) (.t 56))⟩,
                ⟨(some 58), none, .q (.load true 6 (.t 57))⟩,
                ⟨(some 59), none, .q (.fad 2 (.t 3))⟩,
                ⟨(some 60), none, .q (.load false 1 (.t 59))⟩,
                ⟨(some 61), none, .q (.mov (.t 5))⟩,
                ⟨(some 62), none, .q (.iad 6 (.t 60) (.t 61))⟩,
                ⟨(some 63), none, .q (.load true 6 (.t 62))⟩,
                ⟨(some 64), none, .a (.call (.fn 115) false [.lend (.t 58), .lend (.t 63)])⟩,
                ⟨(some 65), none, .q (.un .not (.t 64))⟩])
              (.cond (.t 65)
               (.seq
                (.reg [⟨(some 4), none, .a (.asg (.c (.bool false)))⟩])
                .ret)
               .skip))))
           (.reg [⟨(some 66), none, .q (.bin false .add (.t 51) (.c (.int .i64 1)))⟩,
             ⟨(some 51), none, .q (.mov (.t 66))⟩])))))))
     (.seq
      (.seq
       (.reg [⟨(some 67), none, .q (.fad 3 (.t 2))⟩,
         ⟨(some 68), none, .q (.load false 1 (.t 67))⟩,
         ⟨(some 69), none, .q (.len false (.t 68))⟩,
         ⟨(some 70), none, .q (.mov (.c (.int .i64 0)))⟩])
       (.block 2
        (.loop [2, 3, 69, 70]
         (.seq
          (.reg [⟨(some 71), none, .q (.bin false .lss (.t 70) (.t 69))⟩])
          (.seq
           (.cond (.t 71)
            .skip
            (.exit 2))
           (.seq
            (.block 3
             (.seq
              (.reg [⟨(some 72), none, .q (.mov (.t 70))⟩,
                ⟨(some 6), none, .a (.asg (.t 72))⟩])
              (.seq
               (.dreg [⟨(some 73), none, .q (.fad 3 (.t 2))⟩,
                 ⟨(some 74), none, .q (.load false 1 (.t 73))⟩,
                 ⟨(some 75), none, .q (.mov (.t 6))⟩,
                 ⟨(some 76), none, .q (.iad 6 (.t 74) (.t 75))⟩,
                 ⟨(some 77), none, .q (.load true 6 (.t 76))⟩,
                 ⟨(some 78), none, .q (.fad 3 (.t 3))⟩,
                 ⟨(some 79), none, .q (.load false 1 (.t 78))⟩,
                 ⟨(some 80), none, .q (.mov (.t 6))⟩,
                 ⟨(some 81), none, .q (.iad 6 (.t 79) (.t 80))⟩,
                 ⟨(some 82), none, .q (.load true 6 (.t 81))⟩,
                 ⟨(some 83), none, .a (.call (.fn 116) false [.lend (.t 77), .lend (.t 82)])⟩,
                 ⟨(some 84), none, .q (.un .not (.t 83))⟩])
               (.cond (.t 84)
                (.seq
                 (.reg [⟨(some 4), none, .a (.asg (.c (.bool false)))⟩])
                 .ret)
                .skip))))
            (.reg [⟨(some 85), none, .q (.bin false .add (.t 70) (.c (.int .i64 1)))⟩,
              ⟨(some 70), none, .q (.mov (.t 85))⟩])))))))
      (.seq
       (.seq
        (.reg [⟨(some 86), none, .q (.fad 4 (.t 2))⟩,
          ⟨(some 87), none, .q (.load false 1 (.t 86))⟩,
          ⟨(some 88), none, .q (.len false (.t 87))⟩,
          ⟨(some 89), none, .q (.mov (.c (.int .i64 0)))⟩])
        (.block 4
         (.loop [2, 3, 88, 89]
          (.seq
           (.reg [⟨(some 90), none, .q (.bin false .lss (.t 89) (.t 88))⟩])
           (.seq
            (.cond (.t 90)
             .skip
             (.exit 4))
            (.seq
             (.block 5
              (.seq
               (.reg [⟨(some 91), none, .q (.mov (.t 89))⟩,
                 ⟨(some 7), none, .a (.asg (.t 91))⟩])
               (.seq
                (.dreg [⟨(some 92), none, .q (.fad 4 (.t 2))⟩,
                  ⟨(some 93), none, .q (.load false 1 (.t 92))⟩,
                  ⟨(some 94), none, .q (.mov (.t 7))⟩,
                  ⟨(some 95), none, .q (.iad 2 (.t 93) (.t 94))⟩,
                  ⟨(some 96), none, .q (.load true 2 (.t 95))⟩,
                  ⟨(some 97), none, .q (.fad 4 (.t 3))⟩,
                  ⟨(some 98), none, .q (.load false 1 (.t 97))⟩,
                  ⟨(some 99), none, .q (.mov (.t 7))⟩,
                  ⟨(some 100), none, .q (.iad 2 (.t 98) (.t 99))⟩,
                  ⟨(some 101), none, .q (.load true 2 (.t 100))⟩,
                  ⟨(some 102), none, .q (.eqa true [1, 1] (.t 96) (.t 101))⟩])
                (.cond (.t 102)
                 (.seq
                  (.reg [⟨(some 4), none, .a (.asg (.c (.bool false)))⟩])
                  .ret)
                 .skip))))
             (.reg [⟨(some 103), none, .q (.bin false .add (.t 89) (.c (.int .i64 1)))⟩,
               ⟨(some 89), none, .q (.mov (.t 103))⟩])))))))
       (.seq
        (.reg [⟨(some 4), none, .a (.asg (.c (.bool true)))⟩])
        .ret))))))


set_option maxRecDepth 100000 in
theorem d63 (x y : Scope) (hx : x.sm) (hy : y.sm) : Does Go.Proofs.Try.prog 63 [.agg x.z, .agg y.z] false (.v (.bool (sameSc x y))) [.dead, .dead] := by
  unfold Scope.sm at hx hy
  refine does_intro (mc := m63) (N := 104) (rs := [4]) (fx := []) 2 rfl (by decide +kernel) ?_
  simp only [m63, Scope.z, EV, Nat.reduceEqDiff, Nat.reduceBEq, Nat.reduceLT, Nat.reduceLeDiff, Nat.reduceAdd, Nat.reduceSub, reduceIte]
  repeat' (first
    | (refine gK_cut (fun h => ?_) (fun h => ?_) <;> simp only [h, EV, Nat.reduceEqDiff, Nat.reduceBEq, Nat.reduceLT, Nat.reduceLeDiff, Nat.reduceAdd, Nat.reduceSub, reduceIte])
    | (refine cK_cut (fun h => ?_) (fun h => ?_) <;> simp only [h, EV, Nat.reduceEqDiff, Nat.reduceBEq, Nat.reduceLT, Nat.reduceLeDiff, Nat.reduceAdd, Nat.reduceSub, reduceIte])
    | (refine callK_i (d114 x.imports y.imports (by omega) (by omega)) ?_ <;> simp only [h, EV, Nat.reduceEqDiff, Nat.reduceBEq, Nat.reduceLT, Nat.reduceLeDiff, Nat.reduceAdd, Nat.reduceSub, reduceIte]))
  all_goals simp only [bne, Bool.not_eq_true', Bool.not_eq_false', beq_eq_false_iff_ne, ne_eq] at *
  · have e : sameSc x y = false := by simp_all [sameSc]
    simp only [e, EV, Nat.reduceEqDiff, Nat.reduceBEq, Nat.reduceLT, Nat.reduceLeDiff, Nat.reduceAdd, Nat.reduceSub, reduceIte, retVC, cellV', evR, nfz, nfzs, nfzss, List.contains_nil, List.contains_cons, Bool.or_false, or_true]
  · have e : sameSc x y = false := by simp_all [sameSc]
    simp only [e, EV, Nat.reduceEqDiff, Nat.reduceBEq, Nat.reduceLT, Nat.reduceLeDiff, Nat.reduceAdd, Nat.reduceSub, reduceIte, retVC, cellV', evR, nfz, nfzs, nfzss, List.contains_nil, List.contains_cons, Bool.or_false, or_true]
  · have hn : ¬ x.types.length = y.types.length := by omega
    have e : sameSc x y = false := by simp only [sameSc, eqL_ne hn, Bool.true_and, Bool.false_and, Bool.and_true, Bool.and_false, Bool.and_self]
    simp only [e, EV, Nat.reduceEqDiff, Nat.reduceBEq, Nat.reduceLT, Nat.reduceLeDiff, Nat.reduceAdd, Nat.reduceSub, reduceIte, retVC, cellV', evR, nfz, nfzs, nfzss, List.contains_nil, List.contains_cons, Bool.or_false, or_true]
  · have hn : ¬ x.objects.length = y.objects.length := by simp only [beq_iff_eq] at *; omega
    have e : sameSc x y = false := by simp only [sameSc, eqL_ne hn, Bool.true_and, Bool.false_and, Bool.and_true, Bool.and_false, Bool.and_self]
    simp only [e, EV, Nat.reduceEqDiff, Nat.reduceBEq, Nat.reduceLT, Nat.reduceLeDiff, Nat.reduceAdd, Nat.reduceSub, reduceIte, retVC, cellV', evR, nfz, nfzs, nfzss, List.contains_nil, List.contains_cons, Bool.or_false, or_true]
  · have hn : ¬ x.uses.length = y.uses.length := by simp only [beq_iff_eq] at *; omega
    have e : sameSc x y = false := by simp only [sameSc, eqL_ne hn, Bool.true_and, Bool.false_and, Bool.and_true, Bool.and_false, Bool.and_self]
    simp only [e, EV, Nat.reduceEqDiff, Nat.reduceBEq, Nat.reduceLT, Nat.reduceLeDiff, Nat.reduceAdd, Nat.reduceSub, reduceIte, retVC, cellV', evR, nfz, nfzs, nfzss, List.contains_nil, List.contains_cons, Bool.or_false, or_true]
  · rename_i c1 c2 c3 c4
    have c5 := h
    clear h
    have hname : (x.name.toList == y.name.toList) = true := c1
    have himp : eqL qStr x.imports y.imports = true := c2
    simp only [beq_iff_eq] at c3 c4 c5
    have hltypes : x.types.length = y.types.length := by omega
    refine awp_loop (fun i : Nat => i ≤ x.types.length ∧ eqTo sameTy x.types y.types i) (fun i => stl [(2, .box 83 x.z), (3, .box 83 y.z), (50, .v (.int .i64 (x.types.length : Int))), (51, .v (.int .i64 (i : Int)))]) (fun i => x.types.length - i) 0 ⟨Nat.zero_le _, fun j _ _ h => absurd h (by omega)⟩ ?_ ?_
    · simp only [EV, Nat.reduceEqDiff, Nat.reduceBEq, Nat.reduceLT, Nat.reduceLeDiff, Nat.reduceAdd, Nat.reduceSub, reduceIte]
      rfl
    · rintro i ⟨hi, hto⟩
      simp only [Scope.z, EV, Nat.reduceEqDiff, Nat.reduceBEq, Nat.reduceLT, Nat.reduceLeDiff, Nat.reduceAdd, Nat.reduceSub, reduceIte]
      refine cK_cut (fun h => ?_) (fun h => ?_)
      · have h1 : i < x.types.length := by simpa using h
        have h2 : (i : Int) < (x.types.length : Int) := by omega
        have g1 : i < y.types.length := by omega
        have g2 : (i : Int) < (y.types.length : Int) := by omega
        simp only [TyE, nth_map h1, nth_map g1, h2, g2, EV, Nat.reduceEqDiff, Nat.reduceBEq, Nat.reduceLT, Nat.reduceLeDiff, Nat.reduceAdd, Nat.reduceSub, reduceIte]
        refine callD_i (d115 x.types[i] y.types[i] (hx.2.2.1.2 _ (List.getElem_mem h1)) (hy.2.2.1.2 _ (List.getElem_mem g1))) rfl ?_
        simp only [EV, Nat.reduceEqDiff, Nat.reduceBEq, Nat.reduceLT, Nat.reduceLeDiff, Nat.reduceAdd, Nat.reduceSub, reduceIte]
        refine cK_cut (fun h => ?_) (fun h => ?_)
        · have hq : sameTy x.types[i] y.types[i] = false := by simpa using h
          have e : sameSc x y = false := by simp only [sameSc, eqL_no h1 g1 hq, Bool.true_and, Bool.false_and, Bool.and_true, Bool.and_false, Bool.and_self]
          simp only [EV, Nat.reduceEqDiff, Nat.reduceBEq, Nat.reduceLT, Nat.reduceLeDiff, Nat.reduceAdd, Nat.reduceSub, reduceIte]
          simp only [e, EV, Nat.reduceEqDiff, Nat.reduceBEq, Nat.reduceLT, Nat.reduceLeDiff, Nat.reduceAdd, Nat.reduceSub, reduceIte, retVC, cellV', evR, nfz, nfzs, nfzss, List.contains_nil, List.contains_cons, Bool.or_false, or_true]
        · have hq : sameTy x.types[i] y.types[i] = true := by simpa using h
          simp only [EV, Nat.reduceEqDiff, Nat.reduceBEq, Nat.reduceLT, Nat.reduceLeDiff, Nat.reduceAdd, Nat.reduceSub, reduceIte]
          rw [w64 _ (by omega)]
          exact ⟨i + 1, ⟨by omega, eqTo_succ hto hq⟩, by omega, rfl⟩
      · have h0 : ¬ (i : Int) < x.types.length := by simpa using h
        have h1 : i = x.types.length := by omega
        subst h1
        have etypes := eqL_yes hltypes hto
        clear hto hi h h0
        simp only [EV, Nat.reduceEqDiff, Nat.reduceBEq, Nat.reduceLT, Nat.reduceLeDiff, Nat.reduceAdd, Nat.reduceSub, reduceIte]
        have hlobjects : x.objects.length = y.objects.length := by omega
        refine awp_loop (fun i : Nat => i ≤ x.objects.length ∧ eqTo sameOb x.objects y.objects i) (fun i => stl [(2, .box 83 x.z), (3, .box 83 y.z), (69, .v (.int .i64 (x.objects.length : Int))), (70, .v (.int .i64 (i : Int)))]) (fun i => x.objects.length - i) 0 ⟨Nat.zero_le _, fun j _ _ h => absurd h (by omega)⟩ ?_ ?_
        · simp only [EV, Nat.reduceEqDiff, Nat.reduceBEq, Nat.reduceLT, Nat.reduceLeDiff, Nat.reduceAdd, Nat.reduceSub, reduceIte]
          rfl
        · rintro i ⟨hi, hto⟩
          simp only [Scope.z, EV, Nat.reduceEqDiff, Nat.reduceBEq, Nat.reduceLT, Nat.reduceLeDiff, Nat.reduceAdd, Nat.reduceSub, reduceIte]
          refine cK_cut (fun h => ?_) (fun h => ?_)
          · have h1 : i < x.objects.length := by simpa using h
            have h2 : (i : Int) < (x.objects.length : Int) := by omega
            have g1 : i < y.objects.length := by omega
            have g2 : (i : Int) < (y.objects.length : Int) := by omega
            simp only [ObE, nth_map h1, nth_map g1, h2, g2, EV, Nat.reduceEqDiff, Nat.reduceBEq, Nat.reduceLT, Nat.reduceLeDiff, Nat.reduceAdd, Nat.reduceSub, reduceIte]
            refine callD_i (d116 x.objects[i] y.objects[i] (hx.2.2.2.1.2 _ (List.getElem_mem h1)) (hy.2.2.2.1.2 _ (List.getElem_mem g1))) rfl ?_
            simp only [EV, Nat.reduceEqDiff, Nat.reduceBEq, Nat.reduceLT, Nat.reduceLeDiff, Nat.reduceAdd, Nat.reduceSub, reduceIte]
            refine cK_cut (fun h => ?_) (fun h => ?_)
            · have hq : sameOb x.objects[i] y.objects[i] = false := by simpa using h
              have e : sameSc x y = false := by simp only [sameSc, eqL_no h1 g1 hq, Bool.true_and, Bool.false_and, Bool.and_true, Bool.and_false, Bool.and_self]
              simp only [EV, Nat.reduceEqDiff, Nat.reduceBEq, Nat.reduceLT, Nat.reduceLeDiff, Nat.reduceAdd, Nat.reduceSub, reduceIte]
              simp only [e, EV, Nat.reduceEqDiff, Nat.reduceBEq, Nat.reduceLT, Nat.reduceLeDiff, Nat.reduceAdd, Nat.reduceSub, reduceIte, retVC, cellV', evR, nfz, nfzs, nfzss, List.contains_nil, List.contains_cons, Bool.or_false, or_true]
            · have hq : sameOb x.objects[i] y.objects[i] = true := by simpa using h
              simp only [EV, Nat.reduceEqDiff, Nat.reduceBEq, Nat.reduceLT, Nat.reduceLeDiff, Nat.reduceAdd, Nat.reduceSub, reduceIte]
              rw [w64 _ (by omega)]
              exact ⟨i + 1, ⟨by omega, eqTo_succ hto hq⟩, by omega, rfl⟩
          · have h0 : ¬ (i : Int) < x.objects.length := by simpa using h
            have h1 : i = x.objects.length := by omega
            subst h1
            have eobjects := eqL_yes hlobjects hto
            clear hto hi h h0
            simp only [EV, Nat.reduceEqDiff, Nat.reduceBEq, Nat.reduceLT, Nat.reduceLeDiff, Nat.reduceAdd, Nat.reduceSub, reduceIte]
            have hluses : x.uses.length = y.uses.length := by omega
            refine awp_loop (fun i : Nat => i ≤ x.uses.length ∧ eqTo qUs x.uses y.uses i) (fun i => stl [(2, .box 83 x.z), (3, .box 83 y.z), (88, .v (.int .i64 (x.uses.length : Int))), (89, .v (.int .i64 (i : Int)))]) (fun i => x.uses.length - i) 0 ⟨Nat.zero_le _, fun j _ _ h => absurd h (by omega)⟩ ?_ ?_
            · simp only [EV, Nat.reduceEqDiff, Nat.reduceBEq, Nat.reduceLT, Nat.reduceLeDiff, Nat.reduceAdd, Nat.reduceSub, reduceIte]
              rfl
            · rintro i ⟨hi, hto⟩
              simp only [Scope.z, EV, Nat.reduceEqDiff, Nat.reduceBEq, Nat.reduceLT, Nat.reduceLeDiff, Nat.reduceAdd, Nat.reduceSub, reduceIte]
              refine cK_cut (fun h => ?_) (fun h => ?_)
              · have h1 : i < x.uses.length := by simpa using h
                have h2 : (i : Int) < (x.uses.length : Int) := by omega
                have g1 : i < y.uses.length := by omega
                have g2 : (i : Int) < (y.uses.length : Int) := by omega
                simp only [UsE, nth_map h1, nth_map g1, h2, g2, Us.z, Bool.true_xor, EV, Nat.reduceEqDiff, Nat.reduceBEq, Nat.reduceLT, Nat.reduceLeDiff, Nat.reduceAdd, Nat.reduceSub, reduceIte]
                refine cK_cut (fun h => ?_) (fun h => ?_)
                · have hq : qUs x.uses[i] y.uses[i] = false := by unfold qUs; simp only [Bool.not_eq_true'] at h; exact h
                  have e : sameSc x y = false := by simp only [sameSc, eqL_no h1 g1 hq, Bool.true_and, Bool.false_and, Bool.and_true, Bool.and_false, Bool.and_self]
                  simp only [EV, Nat.reduceEqDiff, Nat.reduceBEq, Nat.reduceLT, Nat.reduceLeDiff, Nat.reduceAdd, Nat.reduceSub, reduceIte]
                  simp only [e, EV, Nat.reduceEqDiff, Nat.reduceBEq, Nat.reduceLT, Nat.reduceLeDiff, Nat.reduceAdd, Nat.reduceSub, reduceIte, retVC, cellV', evR, nfz, nfzs, nfzss, List.contains_nil, List.contains_cons, Bool.or_false, or_true]
                · have hq : qUs x.uses[i] y.uses[i] = true := by unfold qUs; simp only [Bool.not_eq_false'] at h; exact h
                  simp only [EV, Nat.reduceEqDiff, Nat.reduceBEq, Nat.reduceLT, Nat.reduceLeDiff, Nat.reduceAdd, Nat.reduceSub, reduceIte]
                  rw [w64 _ (by omega)]
                  exact ⟨i + 1, ⟨by omega, eqTo_succ hto hq⟩, by omega, rfl⟩
              · have h0 : ¬ (i : Int) < x.uses.length := by simpa using h
                have h1 : i = x.uses.length := by omega
                subst h1
                have euses := eqL_yes hluses hto
                clear hto hi h h0
                have e : sameSc x y = true := by
                  simp only [sameSc, etypes, eobjects, euses, hname, himp, Bool.and_self]
                simp only [EV, Nat.reduceEqDiff, Nat.reduceBEq, Nat.reduceLT, Nat.reduceLeDiff, Nat.reduceAdd, Nat.reduceSub, reduceIte]
                simp only [e, EV, Nat.reduceEqDiff, Nat.reduceBEq, Nat.reduceLT, Nat.reduceLeDiff, Nat.reduceAdd, Nat.reduceSub, reduceIte, retVC, cellV', evR, nfz, nfzs, nfzss, List.contains_nil, List.contains_cons, Bool.or_false, or_true]

end Go.AM
