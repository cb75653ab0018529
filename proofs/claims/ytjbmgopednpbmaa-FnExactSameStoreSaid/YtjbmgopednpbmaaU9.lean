/- Contracts of functions of the given program, for the law FnExactSameStore: what they return and what they write, under the bounds that each theorem states. -/
import Derived.Test.YtjbmgopednpbmaaC9
import Derived.Test.YtjbmgopednpbmaaU8
namespace Go.AM
set_option linter.unusedVariables false
set_option linter.unusedSimpArgs false

noncomputable def sameTy (x y : Ty) : Bool := ((x.kind == y.kind) && ((x.long == y.long) && ((x.base == y.base) && ((eqL qFd x.fields y.fields) && ((x.owner.toList == y.owner.toList) && (x.name.toList == y.name.toList))))))
noncomputable def sameOb (x y : Ob) : Bool := ((x.name.toList == y.name.toList) && ((x.kind == y.kind) && ((x.mark == y.mark) && ((x.typ == y.typ) && ((x.value == y.value) && (eqL qPar x.params y.params))))))

/-- loop.example/g00837/impl.sameType -/
def m121 : MC :=
  (.seq
   (.reg [⟨(some 2), none, .a (.box 59 (.t 0))⟩,
     ⟨(some 3), none, .a (.box 59 (.t 1))⟩,
     ⟨(some 4), none, .a (.asg (.c (.bool false)))⟩])
   (.seq
    (.reg [⟨(some 5), none, .q (.fad 0 (.t 2))⟩,
      ⟨(some 6), none, .q (.load false 1 (.t 5))⟩,
      ⟨(some 7), none, .q (.fad 0 (.t 3))⟩,
      ⟨(some 8), none, .q (.load false 1 (.t 7))⟩,
      ⟨(some 9), none, .q (.bin false .eql (.t 6) (.t 8))⟩,
      ⟨(some 10), none, .q (.mov (.t 9))⟩,
      ⟨(some 11), (some (10, true)), .q (.fad 1 (.t 2))⟩,
      ⟨(some 12), (some (10, true)), .q (.load false 1 (.t 11))⟩,
      ⟨(some 13), (some (10, true)), .q (.fad 1 (.t 3))⟩,
      ⟨(some 14), (some (10, true)), .q (.load false 1 (.t 13))⟩,
      ⟨(some 15), (some (10, true)), .q (.bin false .eql (.t 12) (.t 14))⟩,
      ⟨(some 16), none, .q (.pick (.t 10) (.t 15) (.c (.bool false)))⟩,
      ⟨(some 17), none, .q (.mov (.t 16))⟩,
      ⟨(some 18), (some (17, true)), .q (.fad 2 (.t 2))⟩,
      ⟨(some 19), (some (17, true)), .q (.load false 1 (.t 18))⟩,
      ⟨(some 20), (some (17, true)), .q (.fad 2 (.t 3))⟩,
      ⟨(some 21), (some (17, true)), .q (.load false 1 (.t 20))⟩,
      ⟨(some 22), (some (17, true)), .q (.bin false .eql (.t 19) (.t 21))⟩,
      ⟨(some 23), none, .q (.pick (.t 17) (.t 22) (.c (.bool false)))⟩,
      ⟨(some 24), none, .q (.mov (.t 23))⟩,
      ⟨(some 25), (some (24, true)), .q (.fad 3 (.t 2))⟩,
      ⟨(some 26), (some (24, true)), .q (.load false 1 (.t 25))⟩,
      ⟨(some 27), (some (24, true)), .q (.fad 3 (.t 3))⟩,
      ⟨(some 28), (some (24, true)), .q (.load false 1 (.t 27))⟩,
      ⟨(some 29), (some (24, true)), .a (.call (.fn 159) false [.lend (.t 26), .lend (.t 28)])⟩,
      ⟨(some 30), none, .q (.pick (.t 24) (.t 29) (.c (.bool false)))⟩,
      ⟨(some 31), none, .q (.mov (.t 30))⟩,
      ⟨(some 32), (some (31, true)), .q (.fad 4 (.t 2))⟩,
      ⟨(some 33), (some (31, true)), .q (.load false 1 (.t 32))⟩,
      ⟨(some 34), (some (31, true)), .q (.fad 4 (.t 3))⟩,
      ⟨(some 35), (some (31, true)), .q (.load false 1 (.t 34))⟩,
      ⟨(some 36), (some (31, true)), .q (.bin false .eql (.t 33) (.t 35))⟩,
      ⟨(some 37), none, .q (.pick (.t 31) (.t 36) (.c (.bool false)))⟩,
      ⟨(some 38), none, .q (.mov (.t 37))⟩,
      ⟨(some 39), (some (38, true)), .q (.fad 5 (.t 2))⟩,
      ⟨(some 40), (some (38, true)), .q (.load false 1 (.t 39))⟩,
      ⟨(some 41), (some (38, true)), .q (.fad 5 (.t 3))⟩,
      ⟨(some 42), (some (38, true)), .q (.load false 1 (.t 41))⟩,
      ⟨(some 43), (some (38, true)), .q (.bin false .eql (.t 40) (.t 42))⟩,
      ⟨(some 44), none, .q (.pick (.t 38) (.t 43) (.c (.bool false)))⟩,
      ⟨(some 4), none, .a (.asg (.t 44))⟩])
    .ret))


set_option maxRecDepth 100000 in
theorem d121 (x y : Ty) (hx : x.sm) (hy : y.sm) : Does Go.Proofs.Try.prog 121 [.agg x.z, .agg y.z] false (.v (.bool (sameTy x y))) [.dead, .dead] := by
  unfold Ty.sm at hx hy
  refine does_intro (mc := m121) (N := 45) (rs := [4]) (fx := []) 2 rfl (by decide +kernel) ?_
  simp only [m121, Ty.z, EV, Nat.reduceEqDiff, Nat.reduceBEq, Nat.reduceLT, Nat.reduceLeDiff, Nat.reduceAdd, Nat.reduceSub, reduceIte]
  repeat' (first
    | (refine gK_cut (fun h => ?_) (fun h => ?_) <;> simp only [h, EV, Nat.reduceEqDiff, Nat.reduceBEq, Nat.reduceLT, Nat.reduceLeDiff, Nat.reduceAdd, Nat.reduceSub, reduceIte])
    | (refine cK_cut (fun h => ?_) (fun h => ?_) <;> simp only [h, EV, Nat.reduceEqDiff, Nat.reduceBEq, Nat.reduceLT, Nat.reduceLeDiff, Nat.reduceAdd, Nat.reduceSub, reduceIte])
    | (refine callK_i (d159 _ _ (by omega) (by omega)) ?_ <;> simp only [h, EV, Nat.reduceEqDiff, Nat.reduceBEq, Nat.reduceLT, Nat.reduceLeDiff, Nat.reduceAdd, Nat.reduceSub, reduceIte]))
  all_goals simp only [sameTy, *, Bool.true_and, Bool.false_and, Bool.and_true, Bool.and_false, Bool.and_self, EV, Nat.reduceEqDiff, Nat.reduceBEq, Nat.reduceLT, Nat.reduceLeDiff, Nat.reduceAdd, Nat.reduceSub, reduceIte, retVC, cellV', evR, nfz, nfzs, nfzss, List.contains_nil, List.contains_cons, Bool.or_false, or_true]

/-- loop.example/g00837/impl.sameObject -/
def m123 : MC :=
  (.seq
   (.reg [⟨(some 2), none, .a (.box 130 (.t 0))⟩,
     ⟨(some 3), none, .a (.box 130 (.t 1))⟩,
     ⟨(some 4), none, .a (.asg (.c (.bool false)))⟩])
   (.seq
    (.reg [⟨(some 5), none, .q (.fad 0 (.t 2))⟩,
      ⟨(some 6), none, .q (.load false 1 (.t 5))⟩,
      ⟨(some 7), none, .q (.fad 0 (.t 3))⟩,
      ⟨(some 8), none, .q (.load false 1 (.t 7))⟩,
      ⟨(some 9), none, .q (.bin false .eql (.t 6) (.t 8))⟩,
      ⟨(some 10), none, .q (.mov (.t 9))⟩,
      ⟨(some 11), (some (10, true)), .q (.fad 1 (.t 2))⟩,
      ⟨(some 12), (some (10, true)), .q (.load false 1 (.t 11))⟩,
      ⟨(some 13), (some (10, true)), .q (.fad 1 (.t 3))⟩,
      ⟨(some 14), (some (10, true)), .q (.load false 1 (.t 13))⟩,
      ⟨(some 15), (some (10, true)), .q (.bin false .eql (.t 12) (.t 14))⟩,
      ⟨(some 16), none, .q (.pick (.t 10) (.t 15) (.c (.bool false)))⟩,
      ⟨(some 17), none, .q (.mov (.t 16))⟩,
      ⟨(some 18), (some (17, true)), .q (.fad 2 (.t 2))⟩,
      ⟨(some 19), (some (17, true)), .q (.load false 1 (.t 18))⟩,
      ⟨(some 20), (some (17, true)), .q (.fad 2 (.t 3))⟩,
      ⟨(some 21), (some (17, true)), .q (.load false 1 (.t 20))⟩,
      ⟨(some 22), (some (17, true)), .q (.bin false .eql (.t 19) (.t 21))⟩,
      ⟨(some 23), none, .q (.pick (.t 17) (.t 22) (.c (.bool false)))⟩,
      ⟨(some 24), none, .q (.mov (.t 23))⟩,
      ⟨(some 25), (some (24, true)), .q (.fad 3 (.t 2))⟩,
      ⟨(some 26), (some (24, true)), .q (.load false 1 (.t 25))⟩,
      ⟨(some 27), (some (24, true)), .q (.fad 3 (.t 3))⟩,
      ⟨(some 28), (some (24, true)), .q (.load false 1 (.t 27))⟩,
      ⟨(some 29), (some (24, true)), .q (.bin false .eql (.t 26) (.t 28))⟩,
      ⟨(some 30), none, .q (.pick (.t 24) (.t 29) (.c (.bool false)))⟩,
      ⟨(some 31), none, .q (.mov (.t 30))⟩,
      ⟨(some 32), (some (31, true)), .q (.fad 4 (.t 2))⟩,
      ⟨(some 33), (some (31, true)), .q (.load false 1 (.t 32))⟩,
      ⟨(some 34), (some (31, true)), .q (.fad 4 (.t 3))⟩,
      ⟨(some 35), (some (31, true)), .q (.load false 1 (.t 34))⟩,
      ⟨(some 36), (some (31, true)), .q (.bin false .eql (.t 33) (.t 35))⟩,
      ⟨(some 37), none, .q (.pick (.t 31) (.t 36) (.c (.bool false)))⟩,
      ⟨(some 38), none, .q (.mov (.t 37))⟩,
      ⟨(some 39), (some (38, true)), .q (.fad 5 (.t 2))⟩,
      ⟨(some 40), (some (38, true)), .q (.load false 1 (.t 39))⟩,
      ⟨(some 41), (some (38, true)), .q (.fad 5 (.t 3))⟩,
      ⟨(some 42), (some (38, true)), .q (.load false 1 (.t 41))⟩,
      ⟨(some 43), (some (38, true)), .a (.call (.fn 160) false [.lend (.t 40), .lend (.t 42)])⟩,
      ⟨(some 44), none, .q (.pick (.t 38) (.t 43) (.c (.bool false)))⟩,
      ⟨(some 4), none, .a (.asg (.t 44))⟩])
    .ret))


set_option maxRecDepth 100000 in
theorem d123 (x y : Ob) (hx : x.sm) (hy : y.sm) : Does Go.Proofs.Try.prog 123 [.agg x.z, .agg y.z] false (.v (.bool (sameOb x y))) [.dead, .dead] := by
  unfold Ob.sm at hx hy
  refine does_intro (mc := m123) (N := 45) (rs := [4]) (fx := []) 2 rfl (by decide +kernel) ?_
  simp only [m123, Ob.z, EV, Nat.reduceEqDiff, Nat.reduceBEq, Nat.reduceLT, Nat.reduceLeDiff, Nat.reduceAdd, Nat.reduceSub, reduceIte]
  repeat' (first
    | (refine gK_cut (fun h => ?_) (fun h => ?_) <;> simp only [h, EV, Nat.reduceEqDiff, Nat.reduceBEq, Nat.reduceLT, Nat.reduceLeDiff, Nat.reduceAdd, Nat.reduceSub, reduceIte])
    | (refine cK_cut (fun h => ?_) (fun h => ?_) <;> simp only [h, EV, Nat.reduceEqDiff, Nat.reduceBEq, Nat.reduceLT, Nat.reduceLeDiff, Nat.reduceAdd, Nat.reduceSub, reduceIte])
    | (refine callK_i (d160 _ _ (by omega) (by omega)) ?_ <;> simp only [h, EV, Nat.reduceEqDiff, Nat.reduceBEq, Nat.reduceLT, Nat.reduceLeDiff, Nat.reduceAdd, Nat.reduceSub, reduceIte]))
  all_goals simp only [sameOb, *, Bool.true_and, Bool.false_and, Bool.and_true, Bool.and_false, Bool.and_self, EV, Nat.reduceEqDiff, Nat.reduceBEq, Nat.reduceLT, Nat.reduceLeDiff, Nat.reduceAdd, Nat.reduceSub, reduceIte, retVC, cellV', evR, nfz, nfzs, nfzss, List.contains_nil, List.contains_cons, Bool.or_false, or_true]

/-- loop.example/g00837/spec.l4SameType -/
def m115 : MC :=
  (.seq
   (.reg [⟨(some 2), none, .a (.box 59 (.t 0))⟩,
     ⟨(some 3), none, .a (.box 59 (.t 1))⟩,
     ⟨(some 4), none, .a (.asg (.c (.bool false)))⟩])
   (.seq
    (.seq
     (.reg [⟨(some 6), none, .q (.fad 0 (.t 2))⟩,
       ⟨(some 7), none, .q (.load false 1 (.t 6))⟩,
       ⟨(some 8), none, .q (.fad 0 (.t 3))⟩,
       ⟨(some 9), none, .q (.load false 1 (.t 8))⟩,
       ⟨(some 10), none, .q (.bin false .neq (.t 7) (.t 9))⟩,
       ⟨(some 11), none, .q (.mov (.t 10))⟩,
       ⟨(some 12), (some (11, false)), .q (.fad 1 (.t 2))⟩,
       ⟨(some 13), (some (11, false)), .q (.load false 1 (.t 12))⟩,
       ⟨(some 14), (some (11, false)), .q (.fad 1 (.t 3))⟩,
       ⟨(some 15), (some (11, false)), .q (.load false 1 (.t 14))⟩,
       ⟨(some 16), (some (11, false)), .q (.bin false .neq (.t 13) (.t 15))⟩,
       ⟨(some 17), none, .q (.pick (.t 11) (.c (.bool true)) (.t 16))⟩,
       ⟨(some 18), none, .q (.mov (.t 17))⟩,
       ⟨(some 19), (some (18, false)), .q (.fad 2 (.t 2))⟩,
       ⟨(some 20), (some (18, false)), .q (.load false 1 (.t 19))⟩,
       ⟨(some 21), (some (18, false)), .q (.fad 2 (.t 3))⟩,
       ⟨(some 22), (some (18, false)), .q (.load false 1 (.t 21))⟩,
       ⟨(some 23), (some (18, false)), .q (.bin false .neq (.t 20) (.t 22))⟩,
       ⟨(some 24), none, .q (.pick (.t 18) (.c (.bool true)) (.t 23))⟩,
       ⟨(some 25), none, .q (.mov (.t 24))⟩,
       ⟨(some 26), (some (25, false)), .q (.fad 4 (.t 2))⟩,
       ⟨(some 27), (some (25, false)), .q (.load false 1 (.t 26))⟩,
       ⟨(some 28), (some (25, false)), .q (.fad 4 (.t 3))⟩,
       ⟨(some 29), (some (25, false)), .q (.load false 1 (.t 28))⟩,
       ⟨(some 30), (some (25, false)), .q (.bin false .neq (.t 27) (.t 29))⟩,
       ⟨(some 31), none, .q (.pick (.t 25) (.c (.bool true)) (.t 30))⟩,
       ⟨(some 32), none, .q (.mov (.t 31))⟩,
       ⟨(some 33), (some (32, false)), .q (.fad 5 (.t 2))⟩,
       ⟨(some 34), (some (32, false)), .q (.load false 1 (.t 33))⟩,
       ⟨(some 35), (some (32, false)), .q (.fad 5 (.t 3))⟩,
       ⟨(some 36), (some (32, false)), .q (.load false 1 (.t 35))⟩,
       ⟨(some 37), (some (32, false)), .q (.bin false .neq (.t 34) (.t 36))⟩,
       ⟨(some 38), none, .q (.pick (.t 32) (.c (.bool true)) (.t 37))⟩,
       ⟨(some 39), none, .q (.mov (.t 38))⟩,
       ⟨(some 40), (some (39, false)), .q (.fad 3 (.t 2))⟩,
       ⟨(some 41), (some (39, false)), .q (.load false 1 (.t 40))⟩,
       ⟨(some 42), (some (39, false)), .q (.len false (.t 41))⟩,
       ⟨(some 43), (some (39, false)), .q (.fad 3 (.t 3))⟩,
       ⟨(some 44), (some (39, false)), .q (.load false 1 (.t 43))⟩,
       ⟨(some 45), (some (39, false)), .q (.len false (.t 44))⟩,
       ⟨(some 46), (some (39, false)), .q (.bin false .neq (.t 42) (.t 45))⟩,
       ⟨(some 47), none, .q (.pick (.t 39) (.c (.bool true)) (.t 46))⟩])
     (.cond (.t 47)
      (.seq
       (.reg [⟨(some 4), none, .a (.asg (.c (.bool false)))⟩])
       .ret)
      .skip))
    (.seq
     (.seq
      (.reg [⟨(some 48), none, .q (.fad 3 (.t 2))⟩,
        ⟨(some 49), none, .q (.load false 1 (.t 48))⟩,
        ⟨(some 50), none, .q (.len false (.t 49))⟩,
        ⟨(some 51), none, .q (.mov (.c (.int .i64 0)))⟩])
      (.block 0
       (.loop [2, 3, 50, 51]
        (.seq
         (.reg [⟨(some 52), none, .q (.bin false .lss (.t 51) (.t 50))⟩])
         (.seq
          (.cond (.t 52)
           .skip
           (.exit 0))
          (.seq
           (.block 1
            (.seq
             (.reg [⟨(some 53), none, .q (.mov (.t 51))⟩,
               ⟨(some 5), none, .a (.asg (.t 53))⟩])
             (.seq
              (.dreg [⟨(some 54), none, .q (.fad 3 (.t 2))⟩,
                ⟨(some 55), none, .q (.load false 1 (.t 54))⟩,
                ⟨(some 56), none, .q (.mov (.t 5))⟩,
                ⟨(some 57), none, .q (.iad 3 (.t 55) (.t 56))⟩,
                ⟨(some 58), none, .q (.load true 3 (.t 57))⟩,
                ⟨(some 59), none, .q (.fad 3 (.t 3))⟩,
                ⟨(some 60), none, .q (.load false 1 (.t 59))⟩,
                ⟨(some 61), none, .q (.mov (.t 5))⟩,
                ⟨(some 62), none, .q (.iad 3 (.t 60) (.t 61))⟩,
                ⟨(some 63), none, .q (.load true 3 (.t 62))⟩,
                ⟨(some 64), none, .q (.eqa true [1, 0, 0] (.t 58) (.t 63))⟩])
              (.cond (.t 64)
               (.seq
                (.reg [⟨(some 4), none, .a (.asg (.c (.bool false)))⟩])
                .ret)
               .skip))))
           (.reg [⟨(some 65), none, .q (.bin false .add (.t 51) (.c (.int .i64 1)))⟩,
             ⟨(some 51), none, .q (.mov (.t 65))⟩])))))))
     (.seq
      (.reg [⟨(some 4), none, .a (.asg (.c (.bool true)))⟩])
      .ret))))


set_option maxRecDepth 100000 in
theorem d115 (x y : Ty) (hx : x.sm) (hy : y.sm) : Does Go.Proofs.Try.prog 115 [.agg x.z, .agg y.z] false (.v (.bool (sameTy x y))) [.dead, .dead] := by
  unfold Ty.sm at hx hy
  have lx := (hx.2.2.2.1).1
  have ly := (hy.2.2.2.1).1
  refine does_intro (mc := m115) (N := 66) (rs := [4]) (fx := []) 2 rfl (by decide +kernel) ?_
  simp only [m115, Ty.z, EV, Nat.reduceEqDiff, Nat.reduceBEq, Nat.reduceLT, Nat.reduceLeDiff, Nat.reduceAdd, Nat.reduceSub, reduceIte]
  repeat' (first
    | (refine gK_cut (fun h => ?_) (fun h => ?_) <;> simp only [h, EV, Nat.reduceEqDiff, Nat.reduceBEq, Nat.reduceLT, Nat.reduceLeDiff, Nat.reduceAdd, Nat.reduceSub, reduceIte])
    | (refine cK_cut (fun h => ?_) (fun h => ?_) <;> simp only [h, EV, Nat.reduceEqDiff, Nat.reduceBEq, Nat.reduceLT, Nat.reduceLeDiff, Nat.reduceAdd, Nat.reduceSub, reduceIte]))
  all_goals simp only [bne, Bool.not_eq_true', Bool.not_eq_false', beq_eq_false_iff_ne, beq_iff_eq, ne_eq] at *
  all_goals first
    | (have hn : ¬ x.fields.length = y.fields.length := by omega
       have e : sameTy x y = false := by simp only [sameTy, eqL_ne hn, Bool.true_and, Bool.false_and, Bool.and_true, Bool.and_false, Bool.and_self]
       simp only [e, EV, Nat.reduceEqDiff, Nat.reduceBEq, Nat.reduceLT, Nat.reduceLeDiff, Nat.reduceAdd, Nat.reduceSub, reduceIte, retVC, cellV', evR, nfz, nfzs, nfzss, List.contains_nil, List.contains_cons, Bool.or_false, or_true]
       done)
    | (have e : sameTy x y = false := by simp_all [sameTy]
       simp only [e, EV, Nat.reduceEqDiff, Nat.reduceBEq, Nat.reduceLT, Nat.reduceLeDiff, Nat.reduceAdd, Nat.reduceSub, reduceIte, retVC, cellV', evR, nfz, nfzs, nfzss, List.contains_nil, List.contains_cons, Bool.or_false, or_true]
       done)
    | skip
  have hl : x.fields.length = y.fields.length := by omega
  refine awp_loop (fun i : Nat => i ≤ x.fields.length ∧ eqTo qFd x.fields y.fields i) (fun i => stl [(2, .box 59 x.z), (3, .box 59 y.z), (50, .v (.int .i64 (x.fields.length : Int))), (51, .v (.int .i64 (i : Int)))]) (fun i => x.fields.length - i) 0 ⟨Nat.zero_le _, fun j _ _ h => absurd h (by omega)⟩ ?_ ?_
  · simp only [EV, Nat.reduceEqDiff, Nat.reduceBEq, Nat.reduceLT, Nat.reduceLeDiff, Nat.reduceAdd, Nat.reduceSub, reduceIte]
    rfl
  · rintro i ⟨hi, hto⟩
    simp only [Ty.z, EV, Nat.reduceEqDiff, Nat.reduceBEq, Nat.reduceLT, Nat.reduceLeDiff, Nat.reduceAdd, Nat.reduceSub, reduceIte]
    refine cK_cut (fun h => ?_) (fun h => ?_)
    · have h1 : i < x.fields.length := by simpa using h
      have h2 : (i : Int) < (x.fields.length : Int) := by omega
      have g1 : i < y.fields.length := by omega
      have g2 : (i : Int) < (y.fields.length : Int) := by omega
      simp only [nth_map h1, nth_map g1, h2, g2, Fd.z, Bool.true_xor, EV, Nat.reduceEqDiff, Nat.reduceBEq, Nat.reduceLT, Nat.reduceLeDiff, Nat.reduceAdd, Nat.reduceSub, reduceIte]
      refine cK_cut (fun h => ?_) (fun h => ?_)
      · have hq : qFd x.fields[i] y.fields[i] = false := by unfold qFd; simp only [Bool.not_eq_true'] at h; exact h
        have e : sameTy x y = false := by simp only [sameTy, eqL_no h1 g1 hq, Bool.true_and, Bool.false_and, Bool.and_true, Bool.and_false, Bool.and_self]
        simp only [EV, Nat.reduceEqDiff, Nat.reduceBEq, Nat.reduceLT, Nat.reduceLeDiff, Nat.reduceAdd, Nat.reduceSub, reduceIte]
        simp only [e, EV, Nat.reduceEqDiff, Nat.reduceBEq, Nat.reduceLT, Nat.reduceLeDiff, Nat.reduceAdd, Nat.reduceSub, reduceIte, retVC, cellV', evR, nfz, nfzs, nfzss, List.contains_nil, List.contains_cons, Bool.or_false, or_true]
      · have hq : qFd x.fields[i] y.fields[i] = true := by unfold qFd; simp only [Bool.not_eq_false'] at h; exact h
        simp only [EV, Nat.reduceEqDiff, Nat.reduceBEq, Nat.reduceLT, Nat.reduceLeDiff, Nat.reduceAdd, Nat.reduceSub, reduceIte]
        rw [w64 _ (by omega)]
        exact ⟨i + 1, ⟨by omega, eqTo_succ hto hq⟩, by omega, rfl⟩
    · have h0 : ¬ (i : Int) < x.fields.length := by simpa using h
      have h1 : i = x.fields.length := by omega
      subst h1
      have e : sameTy x y = true := by
        have := eqL_yes hl hto
        simp_all [sameTy]
      simp only [EV, Nat.reduceEqDiff, Nat.reduceBEq, Nat.reduceLT, Nat.reduceLeDiff, Nat.reduceAdd, Nat.reduceSub, reduceIte]
      simp only [e, EV, Nat.reduceEqDiff, Nat.reduceBEq, Nat.reduceLT, Nat.reduceLeDiff, Nat.reduceAdd, Nat.reduceSub, reduceIte, retVC, cellV', evR, nfz, nfzs, nfzss, List.contains_nil, List.contains_cons, Bool.or_false, or_true]

/-- loop.example/g00837/spec.l4SameObject -/
def m116 : MC :=
  (.seq
   (.reg [⟨(some 2), none, .a (.box 130 (.t 0))⟩,
     ⟨(some 3), none, .a (.box 130 (.t 1))⟩,
     ⟨(some 4), none, .a (.asg (.c (.bool false)))⟩])
   (.seq
    (.seq
     (.reg [⟨(some 6), none, .q (.fad 0 (.t 2))⟩,
       ⟨(some 7), none, .q (.load false 1 (.t 6))⟩,
       ⟨(some 8), none, .q (.fad 0 (.t 3))⟩,
       ⟨(some 9), none, .q (.load false 1 (.t 8))⟩,
       ⟨(some 10), none, .q (.bin false .neq (.t 7) (.t 9))⟩,
       ⟨(some 11), none, .q (.mov (.t 10))⟩,
       ⟨(some 12), (some (11, false)), .q (.fad 1 (.t 2))⟩,
       ⟨(some 13), (some (11, false)), .q (.load false 1 (.t 12))⟩,
       ⟨(some 14), (some (11, false)), .q (.fad 1 (.t 3))⟩,
       ⟨(some 15), (some (11, false)), .q (.load false 1 (.t 14))⟩,
       ⟨(some 16), (some (11, false)), .q (.bin false .neq (.t 13) (.t 15))⟩,
       ⟨(some 17), none, .q (.pick (.t 11) (.c (.bool true)) (.t 16))⟩,
       ⟨(some 18), none, .q (.mov (.t 17))⟩,
       ⟨(some 19), (some (18, false)), .q (.fad 2 (.t 2))⟩,
       ⟨(some 20), (some (18, false)), .q (.load false 1 (.t 19))⟩,
       ⟨(some 21), (some (18, false)), .q (.fad 2 (.t 3))⟩,
       ⟨(some 22), (some (18, false)), .q (.load false 1 (.t 21))⟩,
       ⟨(some 23), (some (18, false)), .q (.bin false .neq (.t 20) (.t 22))⟩,
       ⟨(some 24), none, .q (.pick (.t 18) (.c (.bool true)) (.t 23))⟩,
       ⟨(some 25), none, .q (.mov (.t 24))⟩,
       ⟨(some 26), (some (25, false)), .q (.fad 3 (.t 2))⟩,
       ⟨(some 27), (some (25, false)), .q (.load false 1 (.t 26))⟩,
       ⟨(some 28), (some (25, false)), .q (.fad 3 (.t 3))⟩,
       ⟨(some 29), (some (25, false)), .q (.load false 1 (.t 28))⟩,
       ⟨(some 30), (some (25, false)), .q (.bin false .neq (.t 27) (.t 29))⟩,
       ⟨(some 31), none, .q (.pick (.t 25) (.c (.bool true)) (.t 30))⟩,
       ⟨(some 32), none, .q (.mov (.t 31))⟩,
       ⟨(some 33), (some (32, false)), .q (.fad 4 (.t 2))⟩,
       ⟨(some 34), (some (32, false)), .q (.load false 1 (.t 33))⟩,
       ⟨(some 35), (some (32, false)), .q (.fad 4 (.t 3))⟩,
       ⟨(some 36), (some (32, false)), .q (.load false 1 (.t 35))⟩,
       ⟨(some 37), (some (32, false)), .q (.bin false .neq (.t 34) (.t 36))⟩,
       ⟨(some 38), none, .q (.pick (.t 32) (.c (.bool true)) (.t 37))⟩,
       ⟨(some 39), none, .q (.mov (.t 38))⟩,
       ⟨(some 40), (some (39, false)), .q (.fad 5 (.t 2))⟩,
       ⟨(some 41), (some (39, false)), .q (.load false 1 (.t 40))⟩,
       ⟨(some 42), (some (39, false)), .q (.len false (.t 41))⟩,
       ⟨(some 43), (some (39, false)), .q (.fad 5 (.t 3))⟩,
       ⟨(some 44), (some (39, false)), .q (.load false 1 (.t 43))⟩,
       ⟨(some 45), (some (39, false)), .q (.len false (.t 44))⟩,
       ⟨(some 46), (some (39, false)), .q (.bin false .neq (.t 42) (.t 45))⟩,
       ⟨(some 47), none, .q (.pick (.t 39) (.c (.bool true)) (.t 46))⟩])
     (.cond (.t 47)
      (.seq
       (.reg [⟨(some 4), none, .a (.asg (.c (.bool false)))⟩])
       .ret)
      .skip))
    (.seq
     (.seq
      (.reg [⟨(some 48), none, .q (.fad 5 (.t 2))⟩,
        ⟨(some 49), none, .q (.load false 1 (.t 48))⟩,
        ⟨(some 50), none, .q (.len false (.t 49))⟩,
        ⟨(some 51), none, .q (.mov (.c (.int .i64 0)))⟩])
      (.block 0
       (.loop [2, 3, 50, 51]
        (.seq
         (.reg [⟨(some 52), none, .q (.bin false .lss (.t 51) (.t 50))⟩])
         (.seq
          (.cond (.t 52)
           .skip
           (.exit 0))
          (.seq
           (.block 1
            (.seq
             (.reg [⟨(some 53), none, .q (.mov (.t 51))⟩,
               ⟨(some 5), none, .a (.asg (.t 53))⟩])
             (.seq
              (.dreg [⟨(some 54), none, .q (.fad 5 (.t 2))⟩,
                ⟨(some 55), none, .q (.load false 1 (.t 54))⟩,
                ⟨(some 56), none, .q (.mov (.t 5))⟩,
                ⟨(some 57), none, .q (.iad 3 (.t 55) (.t 56))⟩,
                ⟨(some 58), none, .q (.load true 3 (.t 57))⟩,
                ⟨(some 59), none, .q (.fad 5 (.t 3))⟩,
                ⟨(some 60), none, .q (.load false 1 (.t 59))⟩,
                ⟨(some 61), none, .q (.mov (.t 5))⟩,
                ⟨(some 62), none, .q (.iad 3 (.t 60) (.t 61))⟩,
                ⟨(some 63), none, .q (.load true 3 (.t 62))⟩,
                ⟨(some 64), none, .q (.eqa true [1, 2, 0] (.t 58) (.t 63))⟩])
              (.cond (.t 64)
               (.seq
                (.reg [⟨(some 4), none, .a (.asg (.c (.bool false)))⟩])
                .ret)
               .skip))))
           (.reg [⟨(some 65), none, .q (.bin false .add (.t 51) (.c (.int .i64 1)))⟩,
             ⟨(some 51), none, .q (.mov (.t 65))⟩])))))))
     (.seq
      (.reg [⟨(some 4), none, .a (.asg (.c (.bool true)))⟩])
      .ret))))


set_option maxRecDepth 100000 in
theorem d116 (x y : Ob) (hx : x.sm) (hy : y.sm) : Does Go.Proofs.Try.prog 116 [.agg x.z, .agg y.z] false (.v (.bool (sameOb x y))) [.dead, .dead] := by
  unfold Ob.sm at hx hy
  have lx := (hx.2.2.2.2.2).1
  have ly := (hy.2.2.2.2.2).1
  refine does_intro (mc := m116) (N := 66) (rs := [4]) (fx := []) 2 rfl (by decide +kernel) ?_
  simp only [m116, Ob.z, EV, Nat.reduceEqDiff, Nat.reduceBEq, Nat.reduceLT, Nat.reduceLeDiff, Nat.reduceAdd, Nat.reduceSub, reduceIte]
  repeat' (first
    | (refine gK_cut (fun h => ?_) (fun h => ?_) <;> simp only [h, EV, Nat.reduceEqDiff, Nat.reduceBEq, Nat.reduceLT, Nat.reduceLeDiff, Nat.reduceAdd, Nat.reduceSub, reduceIte])
    | (refine cK_cut (fun h => ?_) (fun h => ?_) <;> simp only [h, EV, Nat.reduceEqDiff, Nat.reduceBEq, Nat.reduceLT, Nat.reduceLeDiff, Nat.reduceAdd, Nat.reduceSub, reduceIte]))
  all_goals simp only [bne, Bool.not_eq_true', Bool.not_eq_false', beq_eq_false_iff_ne, beq_iff_eq, ne_eq] at *
  all_goals first
    | (have hn : ¬ x.params.length = y.params.length := by omega
       have e : sameOb x y = false := by simp only [sameOb, eqL_ne hn, Bool.true_and, Bool.false_and, Bool.and_true, Bool.and_false, Bool.and_self]
       simp only [e, EV, Nat.reduceEqDiff, Nat.reduceBEq, Nat.reduceLT, Nat.reduceLeDiff, Nat.reduceAdd, Nat.reduceSub, reduceIte, retVC, cellV', evR, nfz, nfzs, nfzss, List.contains_nil, List.contains_cons, Bool.or_false, or_true]
       done)
    | (have e : sameOb x y = false := by simp_all [sameOb]
       simp only [e, EV, Nat.reduceEqDiff, Nat.reduceBEq, Nat.reduceLT, Nat.reduceLeDiff, Nat.reduceAdd, Nat.reduceSub, reduceIte, retVC, cellV', evR, nfz, nfzs, nfzss, List.contains_nil, List.contains_cons, Bool.or_false, or_true]
       done)
    | skip
  have hl : x.params.length = y.params.length := by omega
  refine awp_loop (fun i : Nat => i ≤ x.params.length ∧ eqTo qPar x.params y.params i) (fun i => stl [(2, .box 130 x.z), (3, .box 130 y.z), (50, .v (.int .i64 (x.params.length : Int))), (51, .v (.int .i64 (i : Int)))]) (fun i => x.params.length - i) 0 ⟨Nat.zero_le _, fun j _ _ h => absurd h (by omega)⟩ ?_ ?_
  · simp only [EV, Nat.reduceEqDiff, Nat.reduceBEq, Nat.reduceLT, Nat.reduceLeDiff, Nat.reduceAdd, Nat.reduceSub, reduceIte]
    rfl
  · rintro i ⟨hi, hto⟩
    simp only [Ob.z, EV, Nat.reduceEqDiff, Nat.reduceBEq, Nat.reduceLT, Nat.reduceLeDiff, Nat.reduceAdd, Nat.reduceSub, reduceIte]
    refine cK_cut (fun h => ?_) (fun h => ?_)
    · have h1 : i < x.params.length := by simpa using h
      have h2 : (i : Int) < (x.params.length : Int) := by omega
      have g1 : i < y.params.length := by omega
      have g2 : (i : Int) < (y.params.length : Int) := by omega
      simp only [nth_map h1, nth_map g1, h2, g2, Par.z, Bool.true_xor, EV, Nat.reduceEqDiff, Nat.reduceBEq, Nat.reduceLT, Nat.reduceLeDiff, Nat.reduceAdd, Nat.reduceSub, reduceIte]
      refine cK_cut (fun h => ?_) (fun h => ?_)
      · have hq : qPar x.params[i] y.params[i] = false := by unfold qPar; simp only [Bool.not_eq_true'] at h; exact h
        have e : sameOb x y = false := by simp only [sameOb, eqL_no h1 g1 hq, Bool.true_and, Bool.false_and, Bool.and_true, Bool.and_false, Bool.and_self]
        simp only [EV, Nat.reduceEqDiff, Nat.reduceBEq, Nat.reduceLT, Nat.reduceLeDiff, Nat.reduceAdd, Nat.reduceSub, reduceIte]
        simp only [e, EV, Nat.reduceEqDiff, Nat.reduceBEq, Nat.reduceLT, Nat.reduceLeDiff, Nat.reduceAdd, Nat.reduceSub, reduceIte, retVC, cellV', evR, nfz, nfzs, nfzss, List.contains_nil, List.contains_cons, Bool.or_false, or_true]
      · have hq : qPar x.params[i] y.params[i] = true := by unfold qPar; simp only [Bool.not_eq_false'] at h; exact h
        simp only [EV, Nat.reduceEqDiff, Nat.reduceBEq, Nat.reduceLT, Nat.reduceLeDiff, Nat.reduceAdd, Nat.reduceSub, reduceIte]
        rw [w64 _ (by omega)]
        exact ⟨i + 1, ⟨by omega, eqTo_succ hto hq⟩, by omega, rfl⟩
    · have h0 : ¬ (i : Int) < x.params.length := by simpa using h
      have h1 : i = x.params.length := by omega
      subst h1
      have e : sameOb x y = true := by
        have := eqL_yes hl hto
        simp_all [sameOb]
      simp only [EV, Nat.reduceEqDiff, Nat.reduceBEq, Nat.reduceLT, Nat.reduceLeDiff, Nat.reduceAdd, Nat.reduceSub, reduceIte]
      simp only [e, EV, Nat.reduceEqDiff, Nat.reduceBEq, Nat.reduceLT, Nat.reduceLeDiff, Nat.reduceAdd, Nat.reduceSub, reduceIte, retVC, cellV', evR, nfz, nfzs, nfzss, List.contains_nil, List.contains_cons, Bool.or_false, or_true]

end Go.AM
