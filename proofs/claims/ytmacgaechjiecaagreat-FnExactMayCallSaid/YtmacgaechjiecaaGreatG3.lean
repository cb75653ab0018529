/- Contracts of functions of the given program, for the law FnExactMayCall: what they return and what they write, under the bounds that each theorem states. -/
import Derived.Test.YtmacgaechjiecaaGreatG2
import Derived.Shelf.Lay
import Derived.Shelf.Sort.Plain
import Derived.Ground.Names2Prog
import Derived.Shelf.Slices.CompactI
import Derived.Shelf.Slices.In.SortNone
namespace Go.AM
set_option linter.unusedVariables false
set_option linter.unusedSimpArgs false
noncomputable def tyOk (l : List Ty) (t : Ty) : Bool :=
  named t && (!((!(t.kind == 5)) && decide (0 < (t.fields.length : Int))) &&
  (if (t.kind == 4) = true then (decide (1 ≤ t.long) && decide (t.long ≤ 1000)) && isNum l t.base
  else if (t.kind == 5) = true then ((t.long == 0) && ((t.base == -1) || isRec l t.base)) && fdsOk l t.fields
  else if (t.kind == 6) = true then (t.long == 0) && (isRec l t.base || (isNum l t.base && kd l t.base == 4))
  else false))

/-- loop.example/g00837/impl.isType -/
def m189 : MC :=
  (.seq
   (.reg [⟨(some 3), none, .a (.box 40 (.t 1))⟩,
     ⟨(some 4), none, .a (.asg (.c (.bool false)))⟩])
   (.seq
    (.seq
     (.reg [⟨(some 5), none, .q (.load true 6 (.t 3))⟩,
       ⟨(some 6), none, .a (.call (.fn 228) false [.lend (.t 5)])⟩,
       ⟨(some 7), none, .q (.un .not (.t 6))⟩,
       ⟨(some 8), none, .q (.mov (.t 7))⟩,
       ⟨(some 9), (some (8, false)), .q (.fad 0 (.t 3))⟩,
       ⟨(some 10), (some (8, false)), .q (.load false 1 (.t 9))⟩,
       ⟨(some 11), (some (8, false)), .q (.bin false .neq (.t 10) (.c (.int .i64 5)))⟩,
       ⟨(some 12), (some (8, false)), .q (.mov (.t 11))⟩,
       ⟨(some 13), (some (12, true)), .q (.fad 3 (.t 3))⟩,
       ⟨(some 14), (some (12, true)), .q (.load false 1 (.t 13))⟩,
       ⟨(some 15), (some (12, true)), .q (.len false (.t 14))⟩,
       ⟨(some 16), (some (12, true)), .q (.bin false .gtr (.t 15) (.c (.int .i64 0)))⟩,
       ⟨(some 17), (some (8, false)), .q (.pick (.t 12) (.t 16) (.c (.bool false)))⟩,
       ⟨(some 18), none, .q (.pick (.t 8) (.c (.bool true)) (.t 17))⟩])
     (.cond (.t 18)
      (.seq
       (.reg [⟨(some 4), none, .a (.asg (.c (.bool false)))⟩])
       .ret)
      .skip))
    (.seq
     (.seq
      (.reg [⟨(some 19), none, .q (.fad 0 (.t 3))⟩,
        ⟨(some 20), none, .q (.load false 1 (.t 19))⟩])
      (.block 0
       (.seq
        (.reg [⟨(some 22), none, .q (.bin false .eql (.t 20) (.c (.int .i64 4)))⟩,
          ⟨(some 21), none, .a (.asg (.t 22))⟩])
        (.cond (.t 21)
         (.seq
          (.reg [⟨(some 23), none, .q (.fad 1 (.t 3))⟩,
            ⟨(some 24), none, .q (.load false 1 (.t 23))⟩,
            ⟨(some 25), none, .a (.call (.fn 78) false [.lend (.t 24), .lend (.c (.int .i64 1)), .lend (.c (.int .i64 1000))])⟩,
            ⟨(some 26), none, .q (.mov (.t 25))⟩,
            ⟨(some 27), (some (26, true)), .q (.mov (.t 0))⟩,
            ⟨(some 28), (some (26, true)), .q (.fad 2 (.t 3))⟩,
            ⟨(some 29), (some (26, true)), .q (.load false 1 (.t 28))⟩,
            ⟨(some 30), (some (26, true)), .a (.call (.fn 61) false [.lend (.t 27), .lend (.t 29)])⟩,
            ⟨(some 31), none, .q (.pick (.t 26) (.t 30) (.c (.bool false)))⟩,
            ⟨(some 4), none, .a (.asg (.t 31))⟩])
          .ret)
         (.seq
          (.reg [⟨(some 33), none, .q (.bin false .eql (.t 20) (.c (.int .i64 5)))⟩,
            ⟨(some 32), none, .a (.asg (.t 33))⟩])
          (.cond (.t 32)
           (.seq
            (.reg [⟨(some 34), none, .q (.fad 1 (.t 3))⟩,
              ⟨(some 35), none, .q (.load false 1 (.t 34))⟩,
              ⟨(some 36), none, .q (.bin false .eql (.t 35) (.c (.int .i64 0)))⟩,
              ⟨(some 37), none, .q (.mov (.t 36))⟩,
              ⟨(some 38), (some (37, true)), .q (.fad 2 (.t 3))⟩,
              ⟨(some 39), (some (37, true)), .q (.load false 1 (.t 38))⟩,
              ⟨(some 40), (some (37, true)), .q (.bin false .eql (.t 39) (.c (.int .i64 (-1))))⟩,
              ⟨(some 41), (some (37, true)), .q (.mov (.t 40))⟩,
              ⟨(some 42), (some (41, false)), .q (.mov (.t 0))⟩,
              ⟨(some 43), (some (41, false)), .q (.fad 2 (.t 3))⟩,
              ⟨(some 44), (some (41, false)), .q (.load false 1 (.t 43))⟩,
              ⟨(some 45), (some (41, false)), .a (.call (.fn 56) false [.lend (.t 42), .lend (.t 44)])⟩,
              ⟨(some 46), (some (37, true)), .q (.pick (.t 41) (.c (.bool true)) (.t 45))⟩,
              ⟨(some 47), none, .q (.pick (.t 37) (.t 46) (.c (.bool false)))⟩,
              ⟨(some 48), none, .q (.mov (.t 47))⟩,
              ⟨(some 49), (some (48, true)), .q (.mov (.t 0))⟩,
              ⟨(some 50), (some (48, true)), .q (.fad 3 (.t 3))⟩,
              ⟨(some 51), (some (48, true)), .q (.load false 1 (.t 50))⟩,
              ⟨(some 52), (some (48, true)), .a (.call (.fn 229) false [.lend (.t 49), .lend (.t 51)])⟩,
              ⟨(some 53), none, .q (.pick (.t 48) (.t 52) (.c (.bool false)))⟩,
              ⟨(some 4), none, .a (.asg (.t 53))⟩])
            .ret)
           (.seq
            (.reg [⟨(some 55), none, .q (.bin false .eql (.t 20) (.c (.int .i64 6)))⟩,
              ⟨(some 54), none, .a (.asg (.t 55))⟩])
            (.cond (.t 54)
             (.seq
              (.reg [⟨(some 56), none, .q (.fad 1 (.t 3))⟩,
                ⟨(some 57), none, .q (.load false 1 (.t 56))⟩,
                ⟨(some 58), none, .q (.bin false .eql (.t 57) (.c (.int .i64 0)))⟩,
                ⟨(some 59), none, .q (.mov (.t 58))⟩,
                ⟨(some 60), (some (59, true)), .q (.mov (.t 0))⟩,
                ⟨(some 61), (some (59, true)), .q (.fad 2 (.t 3))⟩,
                ⟨(some 62), (some (59, true)), .q (.load false 1 (.t 61))⟩,
                ⟨(some 63), (some (59, true)), .a (.call (.fn 56) false [.lend (.t 60), .lend (.t 62)])⟩,
                ⟨(some 64), (some (59, true)), .q (.mov (.t 63))⟩,
                ⟨(some 65), (some (64, false)), .q (.mov (.t 0))⟩,
                ⟨(some 66), (some (64, false)), .q (.fad 2 (.t 3))⟩,
                ⟨(some 67), (some (64, false)), .q (.load false 1 (.t 66))⟩,
                ⟨(some 68), (some (64, false)), .a (.call (.fn 61) false [.lend (.t 65), .lend (.t 67)])⟩,
                ⟨(some 69), (some (64, false)), .q (.mov (.t 68))⟩,
                ⟨(some 70), (some (69, true)), .q (.mov (.t 0))⟩,
                ⟨(some 71), (some (69, true)), .q (.fad 2 (.t 3))⟩,
                ⟨(some 72), (some (69, true)), .q (.load false 1 (.t 71))⟩,
                ⟨(some 73), (some (69, true)), .q (.iad 6 (.t 70) (.t 72))⟩,
                ⟨(some 74), (some (69, true)), .q (.fad 0 (.t 73))⟩,
                ⟨(some 75), (some (69, true)), .q (.load false 1 (.t 74))⟩,
                ⟨(some 76), (some (69, true)), .q (.bin false .eql (.t 75) (.c (.int .i64 4)))⟩,
                ⟨(some 77), (some (64, false)), .q (.pick (.t 69) (.t 76) (.c (.bool false)))⟩,
                ⟨(some 78), (some (59, true)), .q (.pick (.t 64) (.c (.bool true)) (.t 77))⟩,
                ⟨(some 79), none, .q (.pick (.t 59) (.t 78) (.c (.bool false)))⟩,
                ⟨(some 4), none, .a (.asg (.t 79))⟩])
              .ret)
             .skip))))))))
     (.seq
      (.reg [⟨(some 4), none, .a (.asg (.c (.bool false)))⟩])
      .ret))))

set_option maxHeartbeats 1000000 in
set_option maxRecDepth 100000 in
theorem d189 (l : List Ty) (t : Ty) (hl : (l.length : Int) ≤ 1048576) (ht : t.sm) :
    Does Go.Proofs.Tryz.prog 189 [.fsl 6 (l.map Ty.z), .agg t.z] false (.v (.bool (tyOk l t))) [.dead, .dead] := by
  have ht0 := ht
  unfold Ty.sm at ht
  have d7 := d229 l t.fields hl ht.2.2.2.1.1 ht.2.2.2.1.2
  have d6 := d228 t ht0
  have hz : t.z = [.v (.int .i64 t.kind), .v (.int .i64 t.long), .v (.int .i64 t.base), .fsl 3 (t.fields.map Fd.z), .v (.string t.owner), .v (.string t.name)] := rfl
  rw [hz] at d6
  refine does_intro (mc := m189) (N := 80) (rs := [4]) (fx := []) 2 rfl (by decide +kernel) ?_
  simp only [m189, hz, EV, Nat.reduceEqDiff, Nat.reduceBEq, Nat.reduceLT, Nat.reduceLeDiff, Nat.reduceAdd, Nat.reduceSub, reduceIte]
  refine callK_i d6 ?_
  simp only [EV, Nat.reduceEqDiff, Nat.reduceBEq, Nat.reduceLT, Nat.reduceLeDiff, Nat.reduceAdd, Nat.reduceSub, reduceIte]
  repeat' (first
    | (refine gK_cut (fun h => ?_) (fun h => ?_) <;> simp only [h, bne, EV, Nat.reduceEqDiff, Nat.reduceBEq, Nat.reduceLT, Nat.reduceLeDiff, Nat.reduceAdd, Nat.reduceSub, reduceIte])
    | (refine cK_cut (fun h => ?_) (fun h => ?_) <;> simp only [h, bne, EV, Nat.reduceEqDiff, Nat.reduceBEq, Nat.reduceLT, Nat.reduceLeDiff, Nat.reduceAdd, Nat.reduceSub, reduceIte])
    | (refine callK_i d7 ?_ <;> simp only [h, bne, EV, Nat.reduceEqDiff, Nat.reduceBEq, Nat.reduceLT, Nat.reduceLeDiff, Nat.reduceAdd, Nat.reduceSub, reduceIte])
    | (refine callK_i (d78 _ _ _) ?_ <;> simp only [h, bne, EV, Nat.reduceEqDiff, Nat.reduceBEq, Nat.reduceLT, Nat.reduceLeDiff, Nat.reduceAdd, Nat.reduceSub, reduceIte])
    | (refine callK_i (d61 l _ hl) ?_ <;> simp only [h, bne, EV, Nat.reduceEqDiff, Nat.reduceBEq, Nat.reduceLT, Nat.reduceLeDiff, Nat.reduceAdd, Nat.reduceSub, reduceIte])
    | (refine callK_i (d56 l _ hl) ?_ <;> simp only [h, bne, EV, Nat.reduceEqDiff, Nat.reduceBEq, Nat.reduceLT, Nat.reduceLeDiff, Nat.reduceAdd, Nat.reduceSub, reduceIte]))
  all_goals simp only [Bool.not_eq_true', Bool.not_eq_false'] at *
  all_goals first
    | exact absurd ((‹(t.kind == 5) = false›).symm.trans ‹(t.kind == 5) = true›) Bool.false_ne_true
    | (simp only [tyOk, *, Bool.not_true, Bool.not_false, Bool.true_and, Bool.false_and, Bool.and_true, Bool.and_false, Bool.true_or, Bool.false_or, Bool.or_false, Bool.or_true, Bool.false_eq_true, if_true, if_false, EV, Nat.reduceEqDiff, Nat.reduceBEq, Nat.reduceLT, Nat.reduceLeDiff, Nat.reduceAdd, Nat.reduceSub, reduceIte, evRE, retVC, cellV', evR, nfz, nfzs, nfzss, List.contains_nil, List.contains_cons, Bool.or_false, or_true]
       done)
    | (obtain ⟨h0, h1, hn, hk⟩ := isNum_lt ‹isNum l t.base = true›
       simp only [h0, h1, nth_map hn, Ty.z, EV, Nat.reduceEqDiff, Nat.reduceBEq, Nat.reduceLT, Nat.reduceLeDiff, Nat.reduceAdd, Nat.reduceSub, reduceIte]
       simp only [tyOk, *, Bool.not_true, Bool.not_false, Bool.true_and, Bool.false_and, Bool.and_true, Bool.and_false, Bool.true_or, Bool.false_or, Bool.or_false, Bool.or_true, Bool.false_eq_true, if_true, if_false, EV, Nat.reduceEqDiff, Nat.reduceBEq, Nat.reduceLT, Nat.reduceLeDiff, Nat.reduceAdd, Nat.reduceSub, reduceIte, evRE, retVC, cellV', evR, nfz, nfzs, nfzss, List.contains_nil, List.contains_cons, Bool.or_false, or_true]
       done)

end Go.AM
namespace Go.AM
set_option linter.unusedVariables false
set_option linter.unusedSimpArgs false
theorem kindIn_same (l : List Ty) (n a : Int) : kindIn l n a a = (isNum l n && kd l n == a) := by
  unfold kindIn; rw [Bool.or_self]

theorem kindIn_two (l : List Ty) (n a b : Int) : kindIn l n a b = ((isNum l n && kd l n == a) || (isNum l n && kd l n == b)) := by
  unfold kindIn; rw [Bool.and_or_distrib_left]

noncomputable def tyRest (l : List Ty) (t : Ty) : Bool :=
  if (t.kind == 4) = true then (decide (1 ≤ t.long) && decide (t.long ≤ 1000)) && isNum l t.base
  else if (t.kind == 5) = true then ((t.long == 0) && ((t.base == -1) || kindIn l t.base 5 5)) && fdsOk l t.fields
  else if (t.kind == 6) = true then (t.long == 0) && kindIn l t.base 5 4
  else false

noncomputable def tyHead (t : Ty) : Bool := named t && !((!(t.kind == 5)) && decide (0 < (t.fields.length : Int)))

theorem tyOk_eq (l : List Ty) (t : Ty) : tyOk l t = (tyHead t && tyRest l t) := by
  unfold tyOk tyHead tyRest
  rw [kindIn_same, kindIn_two]
  exact (Bool.and_assoc _ _ _).symm

/-- loop.example/g00837/spec.l3Type -/
def m195 : MC :=
  (.seq
   (.reg [⟨(some 3), none, .a (.box 40 (.t 1))⟩,
     ⟨(some 4), none, .a (.asg (.c (.bool false)))⟩])
   (.join [0, 3, 5]
    (.reg [⟨(some 6), none, .q (.fad 5 (.t 3))⟩,
      ⟨(some 7), none, .q (.load false 1 (.t 6))⟩,
      ⟨(some 8), none, .a (.call (.fn 148) false [.lend (.t 7)])⟩,
      ⟨(some 9), none, .q (.mov (.t 8))⟩,
      ⟨(some 10), (some (9, true)), .q (.fad 4 (.t 3))⟩,
      ⟨(some 11), (some (9, true)), .q (.load false 1 (.t 10))⟩,
      ⟨(some 12), (some (9, true)), .a (.call (.fn 148) false [.lend (.t 11)])⟩,
      ⟨(some 13), none, .q (.pick (.t 9) (.t 12) (.c (.bool false)))⟩,
      ⟨(some 5), none, .a (.asg (.t 13))⟩])
    (.seq
     (.join [0, 3, 36]
      (.reg [⟨(some 14), none, .q (.mov (.t 5))⟩,
        ⟨(some 15), none, .q (.un .not (.t 14))⟩,
        ⟨(some 16), none, .q (.mov (.t 15))⟩,
        ⟨(some 17), (some (16, true)), .q (.fad 5 (.t 3))⟩,
        ⟨(some 18), (some (16, true)), .q (.load false 1 (.t 17))⟩,
        ⟨(some 19), (some (16, true)), .q (.bin false .neq (.t 18) (.c (.string ({ data := #[] }))))⟩,
        ⟨(some 20), (some (16, true)), .q (.mov (.t 19))⟩,
        ⟨(some 21), (some (20, false)), .q (.fad 4 (.t 3))⟩,
        ⟨(some 22), (some (20, false)), .q (.load false 1 (.t 21))⟩,
        ⟨(some 23), (some (20, false)), .q (.bin false .neq (.t 22) (.c (.string ({ data := #[] }))))⟩,
        ⟨(some 24), (some (16, true)), .q (.pick (.t 20) (.c (.bool true)) (.t 23))⟩,
        ⟨(some 25), none, .q (.pick (.t 16) (.t 24) (.c (.bool false)))⟩,
        ⟨(some 26), none, .q (.mov (.t 25))⟩,
        ⟨(some 27), (some (26, false)), .q (.fad 0 (.t 3))⟩,
        ⟨(some 28), (some (26, false)), .q (.load false 1 (.t 27))⟩,
        ⟨(some 29), (some (26, false)), .q (.bin false .neq (.t 28) (.c (.int .i64 5)))⟩,
        ⟨(some 30), (some (26, false)), .q (.mov (.t 29))⟩,
        ⟨(some 31), (some (30, true)), .q (.fad 3 (.t 3))⟩,
        ⟨(some 32), (some (30, true)), .q (.load false 1 (.t 31))⟩,
        ⟨(some 33), (some (30, true)), .q (.len false (.t 32))⟩,
        ⟨(some 34), (some (30, true)), .q (.bin false .gtr (.t 33) (.c (.int .i64 0)))⟩,
        ⟨(some 35), (some (26, false)), .q (.pick (.t 30) (.t 34) (.c (.bool false)))⟩,
        ⟨(some 36), none, .q (.pick (.t 26) (.c (.bool true)) (.t 35))⟩])
      (.cond (.t 36)
       (.seq
        (.reg [⟨(some 4), none, .a (.asg (.c (.bool false)))⟩])
        .ret)
       .skip))
     (.seq
      (.seq
       (.reg [⟨(some 37), none, .q (.fad 0 (.t 3))⟩,
         ⟨(some 38), none, .q (.load false 1 (.t 37))⟩])
       (.block 0
        (.seq
         (.reg [⟨(some 40), none, .q (.bin false .eql (.t 38) (.c (.int .i64 4)))⟩,
           ⟨(some 39), none, .a (.asg (.t 40))⟩])
         (.cond (.t 39)
          (.seq
           (.reg [⟨(some 41), none, .q (.fad 1 (.t 3))⟩,
             ⟨(some 42), none, .q (.load false 1 (.t 41))⟩,
             ⟨(some 43), none, .a (.call (.fn 72) false [.lend (.t 42), .lend (.c (.int .i64 1)), .lend (.c (.int .i64 1000))])⟩,
             ⟨(some 44), none, .q (.mov (.t 43))⟩,
             ⟨(some 45), (some (44, true)), .q (.fad 2 (.t 3))⟩,
             ⟨(some 46), (some (44, true)), .q (.load false 1 (.t 45))⟩,
             ⟨(some 47), (some (44, true)), .q (.mov (.t 0))⟩,
             ⟨(some 48), (some (44, true)), .q (.len false (.t 47))⟩,
             ⟨(some 49), (some (44, true)), .q (.bin false .sub (.t 48) (.c (.int .i64 1)))⟩,
             ⟨(some 50), (some (44, true)), .a (.call (.fn 72) false [.lend (.t 46), .lend (.c (.int .i64 0)), .lend (.t 49)])⟩,
             ⟨(some 51), none, .q (.pick (.t 44) (.t 50) (.c (.bool false)))⟩,
             ⟨(some 4), none, .a (.asg (.t 51))⟩])
           .ret)
          (.seq
           (.reg [⟨(some 53), none, .q (.bin false .eql (.t 38) (.c (.int .i64 5)))⟩,
             ⟨(some 52), none, .a (.asg (.t 53))⟩])
           (.cond (.t 52)
            (.seq
             (.reg [⟨(some 54), none, .q (.fad 1 (.t 3))⟩,
               ⟨(some 55), none, .q (.load false 1 (.t 54))⟩,
               ⟨(some 56), none, .q (.bin false .eql (.t 55) (.c (.int .i64 0)))⟩,
               ⟨(some 57), none, .q (.mov (.t 56))⟩,
               ⟨(some 58), (some (57, true)), .q (.fad 2 (.t 3))⟩,
               ⟨(some 59), (some (57, true)), .q (.load false 1 (.t 58))⟩,
               ⟨(some 60), (some (57, true)), .q (.bin false .eql (.t 59) (.c (.int .i64 (-1))))⟩,
               ⟨(some 61), (some (57, true)), .q (.mov (.t 60))⟩,
               ⟨(some 62), (some (61, false)), .q (.mov (.t 0))⟩,
               ⟨(some 63), (some (61, false)), .q (.fad 2 (.t 3))⟩,
               ⟨(some 64), (some (61, false)), .q (.load false 1 (.t 63))⟩,
               ⟨(some 65), (some (61, false)), .a (.call (.fn 59) false [.lend (.t 62), .lend (.t 64), .lend (.c (.int .i64 5)), .lend (.c (.int .i64 5))])⟩,
               ⟨(some 66), (some (57, true)), .q (.pick (.t 61) (.c (.bool true)) (.t 65))⟩,
               ⟨(some 67), none, .q (.pick (.t 57) (.t 66) (.c (.bool false)))⟩,
               ⟨(some 68), none, .q (.mov (.t 67))⟩,
               ⟨(some 69), (some (68, true)), .q (.mov (.t 0))⟩,
               ⟨(some 70), (some (68, true)), .q (.fad 3 (.t 3))⟩,
               ⟨(some 71), (some (68, true)), .q (.load false 1 (.t 70))⟩,
               ⟨(some 72), (some (68, true)), .a (.call (.fn 233) false [.lend (.t 69), .lend (.t 71)])⟩,
               ⟨(some 73), none, .q (.pick (.t 68) (.t 72) (.c (.bool false)))⟩,
               ⟨(some 4), none, .a (.asg (.t 73))⟩])
             .ret)
            .skip))))))
      (.seq
       (.reg [⟨(some 74), none, .q (.fad 0 (.t 3))⟩,
         ⟨(some 75), none, .q (.load false 1 (.t 74))⟩,
         ⟨(some 76), none, .q (.bin false .eql (.t 75) (.c (.int .i64 6)))⟩,
         ⟨(some 77), none, .q (.mov (.t 76))⟩,
         ⟨(some 78), (some (77, true)), .q (.fad 1 (.t 3))⟩,
         ⟨(some 79), (some (77, true)), .q (.load false 1 (.t 78))⟩,
         ⟨(some 80), (some (77, true)), .q (.bin false .eql (.t 79) (.c (.int .i64 0)))⟩,
         ⟨(some 81), none, .q (.pick (.t 77) (.t 80) (.c (.bool false)))⟩,
         ⟨(some 82), none, .q (.mov (.t 81))⟩,
         ⟨(some 83), (some (82, true)), .q (.mov (.t 0))⟩,
         ⟨(some 84), (some (82, true)), .q (.fad 2 (.t 3))⟩,
         ⟨(some 85), (some (82, true)), .q (.load false 1 (.t 84))⟩,
         ⟨(some 86), (some (82, true)), .a (.call (.fn 59) false [.lend (.t 83), .lend (.t 85), .lend (.c (.int .i64 5)), .lend (.c (.int .i64 4))])⟩,
         ⟨(some 87), none, .q (.pick (.t 82) (.t 86) (.c (.bool false)))⟩,
         ⟨(some 4), none, .a (.asg (.t 87))⟩])
       .ret)))))

set_option maxHeartbeats 1000000 in
set_option maxRecDepth 100000 in
theorem d195 (l : List Ty) (t : Ty) (hl : (l.length : Int) ≤ 1048576) (ht : t.sm) :
    Does Go.Proofs.Tryz.prog 195 [.fsl 6 (l.map Ty.z), .agg t.z] false (.v (.bool (tyOk l t))) [.dead, .dead] := by
  have ht0 := ht
  unfold Ty.sm at ht
  have d7 := d233 l t.fields hl ht.2.2.2.1.1 ht.2.2.2.1.2
  have hw : IntKind.i64.wrap ((l.length : Int) - 1) = (l.length : Int) - 1 := w64 _ (by omega)
  refine does_intro (mc := m195) (N := 88) (rs := [4]) (fx := []) 2 rfl (by decide +kernel) ?_
  simp only [m195, Ty.z, EV, Nat.reduceEqDiff, Nat.reduceBEq, Nat.reduceLT, Nat.reduceLeDiff, Nat.reduceAdd, Nat.reduceSub, reduceIte]
  refine awp_join (fun _ : Unit => True) (fun _ => stl [(0, .fsl 6 (l.map Ty.z)), (3, .box 40 t.z), (5, .v (.bool (nameOk t.name && nameOk t.owner)))]) ?_ ?_
  · simp only [EV, Nat.reduceEqDiff, Nat.reduceBEq, Nat.reduceLT, Nat.reduceLeDiff, Nat.reduceAdd, Nat.reduceSub, reduceIte]
    refine callK_i (d148 _ (by omega)) ?_
    simp only [EV, Nat.reduceEqDiff, Nat.reduceBEq, Nat.reduceLT, Nat.reduceLeDiff, Nat.reduceAdd, Nat.reduceSub, reduceIte]
    rcases e1 : nameOk t.name with _ | _
    · simp only [e1, Ty.z, EV, Nat.reduceEqDiff, Nat.reduceBEq, Nat.reduceLT, Nat.reduceLeDiff, Nat.reduceAdd, Nat.reduceSub, reduceIte]
      first | exact ⟨(), rfl⟩ | exact ⟨(), trivial⟩
    · simp only [e1, Ty.z, EV, Nat.reduceEqDiff, Nat.reduceBEq, Nat.reduceLT, Nat.reduceLeDiff, Nat.reduceAdd, Nat.reduceSub, reduceIte]
      refine callK_i (d148 _ (by omega)) ?_
      simp only [e1, Ty.z, EV, Nat.reduceEqDiff, Nat.reduceBEq, Nat.reduceLT, Nat.reduceLeDiff, Nat.reduceAdd, Nat.reduceSub, reduceIte]
      first | exact ⟨(), rfl⟩ | exact ⟨(), trivial⟩
  rintro _ _
  simp only [Ty.z, EV, Nat.reduceEqDiff, Nat.reduceBEq, Nat.reduceLT, Nat.reduceLeDiff, Nat.reduceAdd, Nat.reduceSub, reduceIte]
  refine awp_join (fun _ : Unit => True) (fun _ => stl [(0, .fsl 6 (l.map Ty.z)), (3, .box 40 t.z), (36, .v (.bool (!tyHead t)))]) ?_ ?_
  · simp only [EV, Nat.reduceEqDiff, Nat.reduceBEq, Nat.reduceLT, Nat.reduceLeDiff, Nat.reduceAdd, Nat.reduceSub, reduceIte]
    rcases q : (nameOk t.name && nameOk t.owner) with _ | _ <;> rcases e5 : (t.kind == 5) with _ | _ <;> rcases e0 : decide (0 < (t.fields.length : Int)) with _ | _ <;> rcases en : (t.name.toList == (⟨#[]⟩ : ByteArray).toList) with _ | _ <;> rcases eo : (t.owner.toList == (⟨#[]⟩ : ByteArray).toList) with _ | _
    all_goals simp only [q, e5, e0, en, eo, bne, tyHead, named, Bool.not_not, Bool.not_true, Bool.not_false, Bool.true_and, Bool.false_and, Bool.and_true, Bool.and_false, Bool.true_or, Bool.false_or, Bool.or_false, Bool.or_true, Bool.and_self, Ty.z, EV, Nat.reduceEqDiff, Nat.reduceBEq, Nat.reduceLT, Nat.reduceLeDiff, Nat.reduceAdd, Nat.reduceSub, reduceIte]
    all_goals first | exact ⟨(), rfl⟩ | exact ⟨(), trivial⟩
  rintro _ _
  simp only [Ty.z, EV, Nat.reduceEqDiff, Nat.reduceBEq, Nat.reduceLT, Nat.reduceLeDiff, Nat.reduceAdd, Nat.reduceSub, reduceIte]
  rcases q : tyHead t with _ | _
  · have e : tyOk l t = false := by rw [tyOk_eq, q, Bool.false_and]
    simp only [Bool.not_false, EV, Nat.reduceEqDiff, Nat.reduceBEq, Nat.reduceLT, Nat.reduceLeDiff, Nat.reduceAdd, Nat.reduceSub, reduceIte]
    simp only [e, EV, Nat.reduceEqDiff, Nat.reduceBEq, Nat.reduceLT, Nat.reduceLeDiff, Nat.reduceAdd, Nat.reduceSub, reduceIte, evRE, retVC, cellV', evR, nfz, nfzs, nfzss, List.contains_nil, List.contains_cons, Bool.or_false, or_true]
  have e : tyOk l t = tyRest l t := by rw [tyOk_eq, q, Bool.true_and]
  have hnum : (decide (0 ≤ t.base) && decide (t.base ≤ (l.length : Int) - 1)) = isNum l t.base := rfl
  simp only [Bool.not_true, EV, Nat.reduceEqDiff, Nat.reduceBEq, Nat.reduceLT, Nat.reduceLeDiff, Nat.reduceAdd, Nat.reduceSub, reduceIte]
  repeat' (first
    | (refine gK_cut (fun h => ?_) (fun h => ?_) <;> simp only [h, bne, hw, EV, Nat.reduceEqDiff, Nat.reduceBEq, Nat.reduceLT, Nat.reduceLeDiff, Nat.reduceAdd, Nat.reduceSub, reduceIte])
    | (refine cK_cut (fun h => ?_) (fun h => ?_) <;> simp only [h, bne, hw, EV, Nat.reduceEqDiff, Nat.reduceBEq, Nat.reduceLT, Nat.reduceLeDiff, Nat.reduceAdd, Nat.reduceSub, reduceIte])
    | (refine callK_i d7 ?_ <;> simp only [h, bne, hw, EV, Nat.reduceEqDiff, Nat.reduceBEq, Nat.reduceLT, Nat.reduceLeDiff, Nat.reduceAdd, Nat.reduceSub, reduceIte])
    | (refine callK_i (d72 _ _ _) ?_ <;> simp only [h, bne, hw, EV, Nat.reduceEqDiff, Nat.reduceBEq, Nat.reduceLT, Nat.reduceLeDiff, Nat.reduceAdd, Nat.reduceSub, reduceIte])
    | (refine callK_i (d59 l _ _ _ hl) ?_ <;> simp only [h, bne, hw, EV, Nat.reduceEqDiff, Nat.reduceBEq, Nat.reduceLT, Nat.reduceLeDiff, Nat.reduceAdd, Nat.reduceSub, reduceIte]))
  all_goals (try simp only [Bool.not_eq_true', Bool.not_eq_false'] at *)
  all_goals first
    | exact absurd ((‹(t.kind == 5) = false›).symm.trans ‹(t.kind == 5) = true›) Bool.false_ne_true
    | (simp only [e, tyRest, *, Bool.not_true, Bool.not_false, Bool.true_and, Bool.false_and, Bool.and_true, Bool.and_false, Bool.true_or, Bool.false_or, Bool.or_false, Bool.or_true, Bool.false_eq_true, if_true, if_false, EV, Nat.reduceEqDiff, Nat.reduceBEq, Nat.reduceLT, Nat.reduceLeDiff, Nat.reduceAdd, Nat.reduceSub, reduceIte, evRE, retVC, cellV', evR, nfz, nfzs, nfzss, List.contains_nil, List.contains_cons, Bool.or_false, or_true]
       done)

end Go.AM
namespace Go.AM
set_option linter.unusedVariables false
set_option linter.unusedSimpArgs false
def unlAt (l : List Str) (i : Nat) (h : i < l.length) : Prop := nameOk l[i].s = true ∧ (l.take i).any (eqSt l[i].s) = false

def unlTo (l : List Str) (n : Nat) : Prop := ∀ i (h : i < l.length), i < n → unlAt l i h

open Classical in
noncomputable def unl (l : List Str) : Bool := decide (unlTo l l.length)

theorem unlTo_succ {l : List Str} {i : Nat} (h : i < l.length) (h1 : unlTo l i) (h2 : unlAt l i h) : unlTo l (i + 1) := by
  intro j hj hji
  by_cases e : j = i
  · subst e; exact h2
  · exact h1 j hj (by omega)

theorem unl_no {l : List Str} {i : Nat} (h : i < l.length) (h2 : ¬ unlAt l i h) : unl l = false := by
  simp only [unl, decide_eq_false_iff_not]
  exact fun h1 => h2 (h1 i h h)

theorem unl_yes {l : List Str} (h : unlTo l l.length) : unl l = true := by simp [unl, h]

theorem unl_iff {l : List Str} : unl l = true ↔ unlTo l l.length := by simp [unl]

/-- loop.example/g00837/impl.areUnlike -/
def m142 : MC :=
  (.seq
   (.reg [⟨(some 2), none, .a (.asg (.c (.bool false)))⟩])
   (.seq
    (.seq
     (.reg [⟨(some 5), none, .q (.mov (.t 0))⟩,
       ⟨(some 6), none, .q (.len false (.t 5))⟩,
       ⟨(some 7), none, .q (.mov (.c (.int .i64 0)))⟩])
     (.block 0
      (.loop [0, 5, 6, 7]
       (.seq
        (.reg [⟨(some 8), none, .q (.bin false .lss (.t 7) (.t 6))⟩])
        (.seq
         (.cond (.t 8)
          .skip
          (.exit 0))
         (.seq
          (.block 1
           (.seq
            (.reg [⟨(some 9), none, .q (.mov (.t 7))⟩,
              ⟨(some 10), none, .q (.iad 1 (.t 5) (.t 7))⟩,
              ⟨(some 11), none, .q (.load false 1 (.t 10))⟩,
              ⟨(some 3), none, .a (.asg (.t 9))⟩,
              ⟨(some 4), none, .a (.asg (.t 11))⟩])
            (.seq
             (.reg [⟨(some 12), none, .q (.mov (.t 4))⟩,
               ⟨(some 13), none, .a (.call (.fn 141) false [.lend (.t 12)])⟩,
               ⟨(some 14), none, .q (.un .not (.t 13))⟩,
               ⟨(some 15), none, .q (.mov (.t 14))⟩,
               ⟨(some 16), (some (15, false)), .q (.mov (.t 0))⟩,
               ⟨(some 17), (some (15, false)), .q (.mov (.t 3))⟩,
               ⟨(some 18), (some (15, false)), .q (.slc false 1 (.t 16) none (some (.t 17)))⟩,
               ⟨(some 19), (some (15, false)), .q (.mov (.t 4))⟩,
               ⟨(some 20), (some (15, false)), .a (.call (.fn 145) false [.lend (.t 18), .lend (.t 19)])⟩,
               ⟨(some 21), none, .q (.pick (.t 15) (.c (.bool true)) (.t 20))⟩])
             (.cond (.t 21)
              (.seq
               (.reg [⟨(some 2), none, .a (.asg (.c (.bool false)))⟩])
               .ret)
              .skip))))
          (.reg [⟨(some 22), none, .q (.bin false .add (.t 7) (.c (.int .i64 1)))⟩,
            ⟨(some 7), none, .q (.mov (.t 22))⟩])))))))
    (.seq
     (.reg [⟨(some 2), none, .a (.asg (.c (.bool true)))⟩])
     .ret)))

set_option maxRecDepth 100000 in
theorem d142 (l : List Str) (hl : (l.length : Int) ≤ 1048576000) (hs : ∀ s ∈ l, (s.s.size : Int) ≤ 1048576) : Does Go.Proofs.Tryz.prog 142 [.fsl 1 (l.map Str.z)] false (.v (.bool (unl l))) [.dead] := by
  refine does_intro (mc := m142) (N := 23) (rs := [2]) (fx := []) 1 rfl (by decide +kernel) ?_
  simp only [m142, EV, Nat.reduceEqDiff, Nat.reduceBEq, Nat.reduceLT, Nat.reduceLeDiff, Nat.reduceAdd, Nat.reduceSub, reduceIte]
  refine awp_loop (fun i : Nat => i ≤ l.length ∧ unlTo l i) (fun i => stl [(0, .fsl 1 (l.map Str.z)), (5, .fsl 1 (l.map Str.z)), (6, .v (.int .i64 (l.length : Int))), (7, .v (.int .i64 (i : Int)))]) (fun i => l.length - i) 0 ⟨Nat.zero_le _, fun j hj h => absurd h (by omega)⟩ ?_ ?_
  · simp only [EV, Nat.reduceEqDiff, Nat.reduceBEq, Nat.reduceLT, Nat.reduceLeDiff, Nat.reduceAdd, Nat.reduceSub, reduceIte]
    rfl
  · rintro i ⟨hi, hok⟩
    simp only [EV, Nat.reduceEqDiff, Nat.reduceBEq, Nat.reduceLT, Nat.reduceLeDiff, Nat.reduceAdd, Nat.reduceSub, reduceIte]
    refine cK_cut (fun h => ?_) (fun h => ?_)
    · have h1 : i < l.length := by simpa using h
      have h2 : (i : Int) < (l.length : Int) := by omega
      have hsz := hs _ (List.getElem_mem h1)
      clear h
      simp only [nth_map h1, h2, Str.z, EV, Nat.reduceEqDiff, Nat.reduceBEq, Nat.reduceLT, Nat.reduceLeDiff, Nat.reduceAdd, Nat.reduceSub, reduceIte]
      refine callK_i (d141 l[i].s (by omega)) ?_
      simp only [EV, Nat.reduceEqDiff, Nat.reduceBEq, Nat.reduceLT, Nat.reduceLeDiff, Nat.reduceAdd, Nat.reduceSub, reduceIte]
      rcases e1 : nameOk l[i].s with _ | _
      · have e : unl l = false := unl_no h1 (by rintro ⟨g, _⟩; rw [e1] at g; cases g)
        simp only [Bool.not_false, EV, Nat.reduceEqDiff, Nat.reduceBEq, Nat.reduceLT, Nat.reduceLeDiff, Nat.reduceAdd, Nat.reduceSub, reduceIte]
        simp only [e, EV, Nat.reduceEqDiff, Nat.reduceBEq, Nat.reduceLT, Nat.reduceLeDiff, Nat.reduceAdd, Nat.reduceSub, reduceIte, evRE, retVC, cellV', evR, nfz, nfzs, nfzss, List.contains_nil, List.contains_cons, Bool.or_false, or_true]
      simp only [Bool.not_true, EV, Nat.reduceEqDiff, Nat.reduceBEq, Nat.reduceLT, Nat.reduceLeDiff, Nat.reduceAdd, Nat.reduceSub, reduceIte]
      refine ⟨by omega, by omega, ?_⟩
      have ht : List.take (i : Int).toNat (List.map Str.z l) = List.map Str.z (l.take i) := by rw [Int.toNat_natCast, List.map_take]
      simp only [Int.toNat_natCast] at ht
      rw [ht]
      refine callK_i (d145 (l.take i) l[i].s (by simp; omega)) ?_
      simp only [EV, Nat.reduceEqDiff, Nat.reduceBEq, Nat.reduceLT, Nat.reduceLeDiff, Nat.reduceAdd, Nat.reduceSub, reduceIte]
      rcases e2 : (l.take i).any (eqSt l[i].s) with _ | _
      · simp only [EV, Nat.reduceEqDiff, Nat.reduceBEq, Nat.reduceLT, Nat.reduceLeDiff, Nat.reduceAdd, Nat.reduceSub, reduceIte]
        rw [w64 _ (by omega)]
        exact ⟨i + 1, ⟨h1, unlTo_succ h1 hok ⟨e1, e2⟩⟩, by omega, rfl⟩
      · have e : unl l = false := unl_no h1 (by rintro ⟨_, g⟩; rw [e2] at g; cases g)
        simp only [EV, Nat.reduceEqDiff, Nat.reduceBEq, Nat.reduceLT, Nat.reduceLeDiff, Nat.reduceAdd, Nat.reduceSub, reduceIte]
        simp only [e, EV, Nat.reduceEqDiff, Nat.reduceBEq, Nat.reduceLT, Nat.reduceLeDiff, Nat.reduceAdd, Nat.reduceSub, reduceIte, evRE, retVC, cellV', evR, nfz, nfzs, nfzss, List.contains_nil, List.contains_cons, Bool.or_false, or_true]
    · have h1 : i = l.length := by have : ¬ (i : Int) < l.length := by simpa using h
                                   omega
      subst h1
      simp only [EV, Nat.reduceEqDiff, Nat.reduceBEq, Nat.reduceLT, Nat.reduceLeDiff, Nat.reduceAdd, Nat.reduceSub, reduceIte]
      simp only [unl_yes hok, EV, Nat.reduceEqDiff, Nat.reduceBEq, Nat.reduceLT, Nat.reduceLeDiff, Nat.reduceAdd, Nat.reduceSub, reduceIte, evRE, retVC, cellV', evR, nfz, nfzs, nfzss, List.contains_nil, List.contains_cons, Bool.or_false, or_true]

/-- loop.example/g00837/impl.isWhole -/
def m207 : MC :=
  (.seq
   (.reg [⟨(some 2), none, .a (.asg (.c (.bool false)))⟩])
   (.seq
    (.reg [⟨(some 3), none, .q (.mov (.t 0))⟩,
      ⟨(some 4), none, .a (.call (.fn 78) false [.lend (.t 3), .lend (.c (.int .i64 (-1000000000))), .lend (.c (.int .i64 1000000000))])⟩,
      ⟨(some 2), none, .a (.asg (.t 4))⟩])
    .ret))

theorem d207 (n : Int) : Does Go.Proofs.Tryz.prog 207 [.v (.int .i64 n)] false (.v (.bool (decide (-1000000000 ≤ n) && decide (n ≤ 1000000000)))) [.dead] := by
  refine does_intro (mc := m207) (N := 5) (rs := [2]) (fx := []) 1 rfl (by decide +kernel) ?_
  simp only [m207, EV, Nat.reduceEqDiff, Nat.reduceBEq, Nat.reduceLT, Nat.reduceLeDiff, Nat.reduceAdd, Nat.reduceSub, reduceIte]
  refine callK_i (d78 n (-1000000000) 1000000000) ?_
  simp only [EV, Nat.reduceEqDiff, Nat.reduceBEq, Nat.reduceLT, Nat.reduceLeDiff, Nat.reduceAdd, Nat.reduceSub, reduceIte]
  simp only [EV, Nat.reduceEqDiff, Nat.reduceBEq, Nat.reduceLT, Nat.reduceLeDiff, Nat.reduceAdd, Nat.reduceSub, reduceIte, evRE, retVC, cellV', evR, nfz, nfzs, nfzss, List.contains_nil, List.contains_cons, Bool.or_false, or_true]

/-- loop.example/g00837/spec.l4Has -/
def m149 : MC :=
  (.seq
   (.reg [⟨(some 4), none, .a (.asg (.c (.bool false)))⟩])
   (.seq
    (.seq
     (.reg [⟨(some 7), none, .q (.mov (.t 0))⟩,
       ⟨(some 8), none, .q (.len false (.t 7))⟩,
       ⟨(some 9), none, .q (.mov (.c (.int .i64 0)))⟩])
     (.block 0
      (.loop [0, 1, 7, 8, 9]
       (.seq
        (.reg [⟨(some 10), none, .q (.bin false .lss (.t 9) (.t 8))⟩])
        (.seq
         (.cond (.t 10)
          .skip
          (.exit 0))
         (.seq
          (.block 1
           (.seq
            (.reg [⟨(some 11), none, .q (.iad 1 (.t 7) (.t 9))⟩,
              ⟨(some 12), none, .q (.load false 1 (.t 11))⟩,
              ⟨(some 6), none, .a (.asg (.t 12))⟩])
            (.seq
             (.reg [⟨(some 13), none, .q (.mov (.t 6))⟩,
               ⟨(some 14), none, .q (.mov (.t 1))⟩,
               ⟨(some 15), none, .q (.bin false .eql (.t 13) (.t 14))⟩])
             (.cond (.t 15)
              (.seq
               (.reg [⟨(some 4), none, .a (.asg (.c (.bool true)))⟩])
               .ret)
              .skip))))
          (.reg [⟨(some 16), none, .q (.bin false .add (.t 9) (.c (.int .i64 1)))⟩,
            ⟨(some 9), none, .q (.mov (.t 16))⟩])))))))
    (.seq
     (.reg [⟨(some 4), none, .a (.asg (.c (.bool false)))⟩])
     .ret)))

theorem d149 (l : List Str) (v : ByteArray) (hl : l.length < 9223372036854775807) : Does Go.Proofs.Tryz.prog 149 [.fsl 1 (l.map Str.z), .v (.string v)] false (.v (.bool (l.any (eqSt v)))) [.dead, .dead] := by
  refine does_intro (mc := m149) (N := 17) (rs := [4]) (fx := []) 2 rfl (by decide +kernel) ?_
  simp only [m149, EV, Nat.reduceEqDiff, Nat.reduceBEq, Nat.reduceLT, Nat.reduceLeDiff, Nat.reduceAdd, Nat.reduceSub, reduceIte]
  refine awp_loop (fun i : Nat => i ≤ l.length ∧ (l.take i).any (eqSt v) = false) (fun i => stl [(0, .fsl 1 (l.map Str.z)), (1, .v (.string v)), (7, .fsl 1 (l.map Str.z)), (8, .v (.int .i64 (l.length : Int))), (9, .v (.int .i64 (i : Int)))]) (fun i => l.length - i) 0 ⟨Nat.zero_le _, by simp⟩ ?_ ?_
  · simp only [EV, Nat.reduceEqDiff, Nat.reduceBEq, Nat.reduceLT, Nat.reduceLeDiff, Nat.reduceAdd, Nat.reduceSub, reduceIte]
    rfl
  · rintro i ⟨hi, hno⟩
    simp only [EV, Nat.reduceEqDiff, Nat.reduceBEq, Nat.reduceLT, Nat.reduceLeDiff, Nat.reduceAdd, Nat.reduceSub, reduceIte]
    refine cK_cut (fun h => ?_) (fun h => ?_)
    · have h1 : i < l.length := by simpa using h
      have h2 : (i : Int) < (l.length : Int) := by omega
      clear h
      simp only [nth_map h1, h2, Str.z, EV, Nat.reduceEqDiff, Nat.reduceBEq, Nat.reduceLT, Nat.reduceLeDiff, Nat.reduceAdd, Nat.reduceSub, reduceIte]
      have ec : (l[i].s.toList == v.toList) = eqSt v l[i] := Bool.beq_comm
      rw [ec]
      rcases e : eqSt v l[i] with _ | _
      · simp only [EV, Nat.reduceEqDiff, Nat.reduceBEq, Nat.reduceLT, Nat.reduceLeDiff, Nat.reduceAdd, Nat.reduceSub, reduceIte]
        rw [w64 _ (by omega)]
        exact ⟨i + 1, ⟨h1, by rw [List.take_succ_eq_append_getElem h1, List.any_append, hno]; simp [e]⟩, by omega, rfl⟩
      · have e2 : l.any (eqSt v) = true := List.any_eq_true.2 ⟨_, List.getElem_mem h1, e⟩
        simp only [EV, Nat.reduceEqDiff, Nat.reduceBEq, Nat.reduceLT, Nat.reduceLeDiff, Nat.reduceAdd, Nat.reduceSub, reduceIte]
        simp only [e2, EV, Nat.reduceEqDiff, Nat.reduceBEq, Nat.reduceLT, Nat.reduceLeDiff, Nat.reduceAdd, Nat.reduceSub, reduceIte, evRE, retVC, cellV', evR, nfz, nfzs, nfzss, List.contains_nil, List.contains_cons, Bool.or_false, or_true]
    · have h1 : i = l.length := by have : ¬ (i : Int) < l.length := by simpa using h
                                   omega
      subst h1
      rw [List.take_length] at hno
      simp only [EV, Nat.reduceEqDiff, Nat.reduceBEq, Nat.reduceLT, Nat.reduceLeDiff, Nat.reduceAdd, Nat.reduceSub, reduceIte]
      simp only [hno, EV, Nat.reduceEqDiff, Nat.reduceBEq, Nat.reduceLT, Nat.reduceLeDiff, Nat.reduceAdd, Nat.reduceSub, reduceIte, evRE, retVC, cellV', evR, nfz, nfzs, nfzss, List.contains_nil, List.contains_cons, Bool.or_false, or_true]

end Go.AM
namespace Go.AM
set_option linter.unusedVariables false
set_option linter.unusedSimpArgs false
def parNm (p q : Par) : Bool := q.name.toList == p.name.toList

noncomputable def parAt (l : List Ty) (ps : List Par) (i : Nat) (h : i < ps.length) : Bool := nameOk ps[i].name && (isNum l ps[i].typ && !((ps.take i).any (parNm ps[i])))

def parTo (l : List Ty) (ps : List Par) (n : Nat) : Prop := ∀ i (h : i < ps.length), i < n → parAt l ps i h = true

open Classical in
noncomputable def parsOk (l : List Ty) (ps : List Par) : Bool := decide (parTo l ps ps.length)

theorem parTo_succ {l : List Ty} {ps : List Par} {i : Nat} (h : i < ps.length) (h1 : parTo l ps i) (h2 : parAt l ps i h = true) : parTo l ps (i + 1) := by
  intro j hj hji
  by_cases e : j = i
  · subst e; exact h2
  · exact h1 j hj (by omega)

theorem parsOk_no {l : List Ty} {ps : List Par} {i : Nat} (h : i < ps.length) (h2 : parAt l ps i h = false) : parsOk l ps = false := by
  simp only [parsOk, decide_eq_false_iff_not]
  intro h1
  have := h1 i h h
  rw [h2] at this; cases this

theorem parsOk_yes {l : List Ty} {ps : List Par} (h : parTo l ps ps.length) : parsOk l ps = true := by simp [parsOk, h]

theorem parsOk_nil (l : List Ty) : parsOk l [] = true := parsOk_yes (fun i h _ => by simp at h)

def obPre (o : Ob) : Bool := (decide (0 ≤ o.mark) && decide (o.mark ≤ 2)) && (!(o.mark == 2) || o.kind == 3) && decide ((o.params.length : Int) ≤ 4) && (o.kind == 4 || !(decide (0 < (o.params.length : Int))))

def wholeB (n : Int) : Bool := decide (-1000000000 ≤ n) && decide (n ≤ 1000000000)

noncomputable def obKd (l : List Ty) (o : Ob) : Bool :=
  if (o.kind == 1) = true then o.typ == 0 && wholeB o.value
  else if (o.kind == 2 || o.kind == 3) = true then isNum l o.typ && o.value == 0
  else if (o.kind == 4) = true then (o.typ == -1 || isNum l o.typ) && o.value == 0 else false

theorem evP (c : List AV) (K : AV → Prop) : nilchkV (.fptr c) K = K (.fptr c) := rfl

noncomputable def obOk (l : List Ty) (o : Ob) : Bool := obPre o && (parsOk l o.params && obKd l o)

/-- (*loop.example/g00837/impl.Scope).isObject$1 -/
def m206 : MC :=
  (.seq
   (.reg [⟨(some 2), none, .a (.box 54 (.t 0))⟩,
     ⟨(some 3), none, .a (.asg (.c (.bool false)))⟩])
   (.seq
    (.reg [⟨(some 4), none, .q (.fad 0 (.t 2))⟩,
      ⟨(some 5), none, .q (.load false 1 (.t 4))⟩,
      ⟨(some 6), none, .q (.fad 0 (.t 1))⟩,
      ⟨(some 7), none, .q (.load false 1 (.t 6))⟩,
      ⟨(some 8), none, .q (.bin false .eql (.t 5) (.t 7))⟩,
      ⟨(some 3), none, .a (.asg (.t 8))⟩])
    .ret))

theorem d206 (q p : Par) : Does Go.Proofs.Tryz.prog 206 [.agg q.z, .fptr p.z] false (.v (.bool (parNm p q))) [.dead, .dead] := by
  refine does_intro (mc := m206) (N := 9) (rs := [3]) (fx := []) 2 rfl (by decide +kernel) ?_
  simp only [m206, Par.z, EV, Nat.reduceEqDiff, Nat.reduceBEq, Nat.reduceLT, Nat.reduceLeDiff, Nat.reduceAdd, Nat.reduceSub, reduceIte]
  simp only [parNm, EV, Nat.reduceEqDiff, Nat.reduceBEq, Nat.reduceLT, Nat.reduceLeDiff, Nat.reduceAdd, Nat.reduceSub, reduceIte, evRE, retVC, cellV', evR, nfz, nfzs, nfzss, List.contains_nil, List.contains_cons, Bool.or_false, or_true]

/-- (*loop.example/g00837/impl.Scope).isObject -/
def m144 : MC :=
  (.seq
   (.reg [⟨(some 3), none, .a (.box 52 (.t 1))⟩,
     ⟨(some 4), none, .a (.asg (.c (.bool false)))⟩])
   (.join [0, 3]
    (.seq
     (.reg [⟨(some 7), none, .q (.fad 2 (.t 3))⟩,
       ⟨(some 8), none, .q (.load false 1 (.t 7))⟩,
       ⟨(some 9), none, .a (.call (.fn 78) false [.lend (.t 8), .lend (.c (.int .i64 0)), .lend (.c (.int .i64 2))])⟩,
       ⟨(some 10), none, .q (.un .not (.t 9))⟩,
       ⟨(some 11), none, .q (.mov (.t 10))⟩,
       ⟨(some 12), (some (11, false)), .q (.fad 2 (.t 3))⟩,
       ⟨(some 13), (some (11, false)), .q (.load false 1 (.t 12))⟩,
       ⟨(some 14), (some (11, false)), .q (.bin false .eql (.t 13) (.c (.int .i64 2)))⟩,
       ⟨(some 15), (some (11, false)), .q (.mov (.t 14))⟩,
       ⟨(some 16), (some (15, true)), .q (.fad 1 (.t 3))⟩,
       ⟨(some 17), (some (15, true)), .q (.load false 1 (.t 16))⟩,
       ⟨(some 18), (some (15, true)), .q (.bin false .neq (.t 17) (.c (.int .i64 3)))⟩,
       ⟨(some 19), (some (11, false)), .q (.pick (.t 15) (.t 18) (.c (.bool false)))⟩,
       ⟨(some 20), none, .q (.pick (.t 11) (.c (.bool true)) (.t 19))⟩,
       ⟨(some 21), none, .q (.mov (.t 20))⟩,
       ⟨(some 22), (some (21, false)), .q (.fad 5 (.t 3))⟩,
       ⟨(some 23), (some (21, false)), .q (.load false 1 (.t 22))⟩,
       ⟨(some 24), (some (21, false)), .q (.len false (.t 23))⟩,
       ⟨(some 25), (some (21, false)), .q (.bin false .gtr (.t 24) (.c (.int .i64 4)))⟩,
       ⟨(some 26), none, .q (.pick (.t 21) (.c (.bool true)) (.t 25))⟩,
       ⟨(some 27), none, .q (.mov (.t 26))⟩,
       ⟨(some 28), (some (27, false)), .q (.fad 1 (.t 3))⟩,
       ⟨(some 29), (some (27, false)), .q (.load false 1 (.t 28))⟩,
       ⟨(some 30), (some (27, false)), .q (.bin false .neq (.t 29) (.c (.int .i64 4)))⟩,
       ⟨(some 31), (some (27, false)), .q (.mov (.t 30))⟩,
       ⟨(some 32), (some (31, true)), .q (.fad 5 (.t 3))⟩,
       ⟨(some 33), (some (31, true)), .q (.load false 1 (.t 32))⟩,
       ⟨(some 34), (some (31, true)), .q (.len false (.t 33))⟩,
       ⟨(some 35), (some (31, true)), .q (.bin false .gtr (.t 34) (.c (.int .i64 0)))⟩,
       ⟨(some 36), (some (27, false)), .q (.pick (.t 31) (.t 35) (.c (.bool false)))⟩,
       ⟨(some 37), none, .q (.pick (.t 27) (.c (.bool true)) (.t 36))⟩])
     (.cond (.t 37)
      (.seq
       (.reg [⟨(some 4), none, .a (.asg (.c (.bool false)))⟩])
       .ret)
      .skip))
    (.seq
     (.seq
      (.reg [⟨(some 38), none, .q (.fad 5 (.t 3))⟩,
        ⟨(some 39), none, .q (.load false 1 (.t 38))⟩,
        ⟨(some 40), none, .q (.len false (.t 39))⟩,
        ⟨(some 41), none, .q (.mov (.c (.int .i64 0)))⟩])
      (.block 0
       (.loop [0, 3, 38, 39, 40, 41]
        (.seq
         (.reg [⟨(some 42), none, .q (.bin false .lss (.t 41) (.t 40))⟩])
         (.seq
          (.cond (.t 42)
           .skip
           (.exit 0))
          (.seq
           (.block 1
            (.seq
             (.reg [⟨(some 43), none, .q (.mov (.t 41))⟩,
               ⟨(some 44), none, .q (.iad 3 (.t 39) (.t 41))⟩,
               ⟨(some 45), none, .q (.load true 3 (.t 44))⟩,
               ⟨(some 6), none, .a (.alloc 54 [.v (.string ({ data := #[] })), .v (.bool false), .v (.int .i64 0)])⟩,
               ⟨(some 5), none, .a (.asg (.t 43))⟩,
               ⟨none, none, .a (.store 3 (.t 6) (.t 45))⟩])
             (.seq
              (.dreg [⟨(some 46), none, .q (.fad 0 (.t 6))⟩,
                ⟨(some 47), none, .q (.load false 1 (.t 46))⟩,
                ⟨(some 48), none, .a (.call (.fn 141) false [.lend (.t 47)])⟩,
                ⟨(some 49), none, .q (.un .not (.t 48))⟩,
                ⟨(some 50), none, .q (.mov (.t 49))⟩,
                ⟨(some 51), (some (50, false)), .q (.mov (.t 0))⟩,
                ⟨(some 52), (some (50, false)), .q (.nilchk (.t 51))⟩,
                ⟨(some 53), (some (50, false)), .q (.fad 2 (.t 52))⟩,
                ⟨(some 54), (some (50, false)), .q (.load false 1 (.t 53))⟩,
                ⟨(some 55), (some (50, false)), .q (.fad 2 (.t 6))⟩,
                ⟨(some 56), (some (50, false)), .q (.load false 1 (.t 55))⟩,
                ⟨(some 57), (some (50, false)), .a (.call (.fn 61) false [.lend (.t 54), .lend (.t 56)])⟩,
                ⟨(some 58), (some (50, false)), .q (.un .not (.t 57))⟩,
                ⟨(some 59), none, .q (.pick (.t 50) (.c (.bool true)) (.t 58))⟩,
                ⟨(some 60), none, .q (.mov (.t 59))⟩,
                ⟨(some 61), (some (60, false)), .q (.fad 5 (.t 3))⟩,
                ⟨(some 62), (some (60, false)), .q (.load false 1 (.t 61))⟩,
                ⟨(some 63), (some (60, false)), .q (.mov (.t 5))⟩,
                ⟨(some 64), (some (60, false)), .q (.slc false 3 (.t 62) none (some (.t 63)))⟩,
                ⟨(some 65), (some (60, false)), .q (.mkf 206 [.t 6])⟩,
                ⟨(some 66), (some (60, false)), .a (.call (.fn 205) false [.lend (.t 64), .lend (.t 65)])⟩,
                ⟨(some 67), none, .q (.pick (.t 60) (.c (.bool true)) (.t 66))⟩])
              (.cond (.t 67)
               (.seq
                (.reg [⟨(some 4), none, .a (.asg (.c (.bool false)))⟩])
                .ret)
               .skip))))
           (.reg [⟨(some 68), none, .q (.bin false .add (.t 41) (.c (.int .i64 1)))⟩,
             ⟨(some 41), none, .q (.mov (.t 68))⟩])))))))
     (.join []
      (.seq
       (.reg [⟨(some 69), none, .q (.fad 1 (.t 3))⟩,
         ⟨(some 70), none, .q (.load false 1 (.t 69))⟩])
       (.block 2
        (.seq
         (.reg [⟨(some 72), none, .q (.bin false .eql (.t 70) (.c (.int .i64 1)))⟩,
           ⟨(some 71), none, .a (.asg (.t 72))⟩])
         (.cond (.t 71)
          (.seq
           (.reg [⟨(some 73), none, .q (.fad 3 (.t 3))⟩,
             ⟨(some 74), none, .q (.load false 1 (.t 73))⟩,
             ⟨(some 75), none, .q (.bin false .eql (.t 74) (.c (.int .i64 0)))⟩,
             ⟨(some 76), none, .q (.mov (.t 75))⟩,
             ⟨(some 77), (some (76, true)), .q (.fad 4 (.t 3))⟩,
             ⟨(some 78), (some (76, true)), .q (.load false 1 (.t 77))⟩,
             ⟨(some 79), (some (76, true)), .a (.call (.fn 207) false [.lend (.t 78)])⟩,
             ⟨(some 80), none, .q (.pick (.t 76) (.t 79) (.c (.bool false)))⟩,
             ⟨(some 4), none, .a (.asg (.t 80))⟩])
           .ret)
          (.join [0, 3, 70, 81]
           (.seq
            (.reg [⟨(some 82), none, .q (.bin false .eql (.t 70) (.c (.int .i64 2)))⟩,
              ⟨(some 81), none, .a (.asg (.t 82))⟩])
            (.cond (.t 81)
             .skip
             (.reg [⟨(some 83), none, .q (.bin false .eql (.t 70) (.c (.int .i64 3)))⟩,
               ⟨(some 81), none, .a (.asg (.t 83))⟩])))
           (.cond (.t 81)
            (.seq
             (.dreg [⟨(some 84), none, .q (.mov (.t 0))⟩,
               ⟨(some 85), none, .q (.nilchk (.t 84))⟩,
               ⟨(some 86), none, .q (.fad 2 (.t 85))⟩,
               ⟨(some 87), none, .q (.load false 1 (.t 86))⟩,
               ⟨(some 88), none, .q (.fad 3 (.t 3))⟩,
               ⟨(some 89), none, .q (.load false 1 (.t 88))⟩,
               ⟨(some 90), none, .a (.call (.fn 61) false [.lend (.t 87), .lend (.t 89)])⟩,
               ⟨(some 91), none, .q (.mov (.t 90))⟩,
               ⟨(some 92), (some (91, true)), .q (.fad 4 (.t 3))⟩,
               ⟨(some 93), (some (91, true)), .q (.load false 1 (.t 92))⟩,
               ⟨(some 94), (some (91, true)), .q (.bin false .eql (.t 93) (.c (.int .i64 0)))⟩,
               ⟨(some 95), none, .q (.pick (.t 91) (.t 94) (.c (.bool false)))⟩,
               ⟨(some 4), none, .q (.mov (.t 95))⟩])
             .ret)
            (.seq
             (.reg [⟨(some 97), none, .q (.bin false .eql (.t 70) (.c (.int .i64 4)))⟩,
               ⟨(some 96), none, .a (.asg (.t 97))⟩])
             (.cond (.t 96)
              (.seq
               (.dreg [⟨(some 98), none, .q (.fad 3 (.t 3))⟩,
                 ⟨(some 99), none, .q (.load false 1 (.t 98))⟩,
                 ⟨(some 100), none, .q (.bin false .eql (.t 99) (.c (.int .i64 (-1))))⟩,
                 ⟨(some 101), none, .q (.mov (.t 100))⟩,
                 ⟨(some 102), (some (101, false)), .q (.mov (.t 0))⟩,
                 ⟨(some 103), (some (101, false)), .q (.nilchk (.t 102))⟩,
                 ⟨(some 104), (some (101, false)), .q (.fad 2 (.t 103))⟩,
                 ⟨(some 105), (some (101, false)), .q (.load false 1 (.t 104))⟩,
                 ⟨(some 106), (some (101, false)), .q (.fad 3 (.t 3))⟩,
                 ⟨(some 107), (some (101, false)), .q (.load false 1 (.t 106))⟩,
                 ⟨(some 108), (some (101, false)), .a (.call (.fn 61) false [.lend (.t 105), .lend (.t 107)])⟩,
                 ⟨(some 109), none, .q (.pick (.t 101) (.c (.bool true)) (.t 108))⟩,
                 ⟨(some 110), none, .q (.mov (.t 109))⟩,
                 ⟨(some 111), (some (110, true)), .q (.fad 4 (.t 3))⟩,
                 ⟨(some 112), (some (110, true)), .q (.load false 1 (.t 111))⟩,
                 ⟨(some 113), (some (110, true)), .q (.bin false .eql (.t 112) (.c (.int .i64 0)))⟩,
                 ⟨(some 114), none, .q (.pick (.t 110) (.t 113) (.c (.bool false)))⟩,
                 ⟨(some 4), none, .q (.mov (.t 114))⟩])
               .ret)
              .skip))))))))
      (.seq
       (.reg [⟨(some 4), none, .a (.asg (.c (.bool false)))⟩])
       .ret)))))

set_option maxHeartbeats 4000000 in
set_option maxRecDepth 100000 in
theorem d144 (s : Scope) (o : Ob) (hs : s.sm) (ho : o.sm) : Does Go.Proofs.Tryz.prog 144 [.fptr s.z, .agg o.z] false (.v (.bool (obOk s.types o))) [.dead, .dead] := by
  refine does_intro (mc := m144) (N := 115) (rs := [4]) (fx := []) 2 rfl (by decide +kernel) ?_
  simp only [m144, Ob.z, EV, Nat.reduceEqDiff, Nat.reduceBEq, Nat.reduceLT, Nat.reduceLeDiff, Nat.reduceAdd, Nat.reduceSub, reduceIte]
  refine awp_join (fun _ : Unit => obPre o = true) (fun _ => stl [(0, .fptr s.z), (3, .box 52 o.z)]) ?_ ?_
  · simp only [EV, Nat.reduceEqDiff, Nat.reduceBEq, Nat.reduceLT, Nat.reduceLeDiff, Nat.reduceAdd, Nat.reduceSub, reduceIte]
    refine callK_i (d78 o.mark 0 2) ?_
    simp only [EV, Nat.reduceEqDiff, Nat.reduceBEq, Nat.reduceLT, Nat.reduceLeDiff, Nat.reduceAdd, Nat.reduceSub, reduceIte]
    repeat' (first
    | (refine gK_cut (fun h => ?_) (fun h => ?_) <;> simp only [h, EV, Nat.reduceEqDiff, Nat.reduceBEq, Nat.reduceLT, Nat.reduceLeDiff, Nat.reduceAdd, Nat.reduceSub, reduceIte])
    | (refine cK_cut (fun h => ?_) (fun h => ?_) <;> simp only [h, EV, Nat.reduceEqDiff, Nat.reduceBEq, Nat.reduceLT, Nat.reduceLeDiff, Nat.reduceAdd, Nat.reduceSub, reduceIte]))
    all_goals first
      | (have e : obPre o = false := by
           simp_all [obPre] <;> omega
         simp only [obOk, e, Bool.false_and, EV, Nat.reduceEqDiff, Nat.reduceBEq, Nat.reduceLT, Nat.reduceLeDiff, Nat.reduceAdd, Nat.reduceSub, reduceIte, evRE, retVC, cellV', evR, nfz, nfzs, nfzss, List.contains_nil, List.contains_cons, Bool.or_false, or_true]
         done)
      | (have e : obPre o = true := by
           simp_all [obPre] <;> omega
         exact ⟨(), e, rfl⟩)
  · rintro _ hpre
    have hpl : o.params.length ≤ 4 := by
      simp only [obPre, Bool.and_eq_true, decide_eq_true_eq] at hpre
      omega
    simp only [Ob.z, Scope.z, EV, Nat.reduceEqDiff, Nat.reduceBEq, Nat.reduceLT, Nat.reduceLeDiff, Nat.reduceAdd, Nat.reduceSub, reduceIte]
    refine awp_loop (fun i : Nat => i ≤ o.params.length ∧ parTo s.types o.params i) (fun i => stl [(0, .fptr s.z), (3, .box 52 o.z), (38, .ref 3 [] 0 5), (39, .fsl 3 (o.params.map Par.z)), (40, .v (.int .i64 (o.params.length : Int))), (41, .v (.int .i64 (i : Int)))]) (fun i => o.params.length - i) 0 ⟨Nat.zero_le _, fun j hj h => absurd h (by omega)⟩ ?_ ?_
    · simp only [Ob.z, Scope.z, EV, Nat.reduceEqDiff, Nat.reduceBEq, Nat.reduceLT, Nat.reduceLeDiff, Nat.reduceAdd, Nat.reduceSub, reduceIte]
      rfl
    rintro i ⟨hi, hok⟩
    simp only [Ob.z, Scope.z, EV, Nat.reduceEqDiff, Nat.reduceBEq, Nat.reduceLT, Nat.reduceLeDiff, Nat.reduceAdd, Nat.reduceSub, reduceIte]
    refine cK_cut (fun h => ?_) (fun h => ?_)
    · have h1 : i < o.params.length := by simpa using h
      have h2 : (i : Int) < (o.params.length : Int) := by omega
      have hno : parAt s.types o.params i h1 = false → obOk s.types o = false := fun e => by simp only [obOk, parsOk_no h1 e, Bool.false_and, Bool.and_false]
      unfold Ob.sm at ho
      unfold Scope.sm at hs
      have hps := ho.2.2.2.2.2.2 _ (List.getElem_mem h1)
      unfold Par.sm at hps
      clear h
      simp only [ParE, nth_map h1, h2, Par.z, Ob.z, Scope.z, EV, Nat.reduceEqDiff, Nat.reduceBEq, Nat.reduceLT, Nat.reduceLeDiff, Nat.reduceAdd, Nat.reduceSub, reduceIte]
      refine callD_i (d141 o.params[i].name (by omega)) rfl ?_
      simp only [EV, Nat.reduceEqDiff, Nat.reduceBEq, Nat.reduceLT, Nat.reduceLeDiff, Nat.reduceAdd, Nat.reduceSub, reduceIte]
      rcases e1 : nameOk o.params[i].name with _ | _
      · have e : obOk s.types o = false := hno (by simp only [parAt, e1, Bool.false_and])
        simp only [Bool.not_false, EV, Nat.reduceEqDiff, Nat.reduceBEq, Nat.reduceLT, Nat.reduceLeDiff, Nat.reduceAdd, Nat.reduceSub, reduceIte]
        simp only [e, EV, Nat.reduceEqDiff, Nat.reduceBEq, Nat.reduceLT, Nat.reduceLeDiff, Nat.reduceAdd, Nat.reduceSub, reduceIte, evRE, retVC, cellV', evR, nfz, nfzs, nfzss, List.contains_nil, List.contains_cons, Bool.or_false, or_true]
      simp only [evP, Bool.not_true, Par.z, Ob.z, Scope.z, EV, Nat.reduceEqDiff, Nat.reduceBEq, Nat.reduceLT, Nat.reduceLeDiff, Nat.reduceAdd, Nat.reduceSub, reduceIte]
      refine callD_i (d61 s.types o.params[i].typ hs.2.2.1.1) rfl ?_
      simp only [EV, Nat.reduceEqDiff, Nat.reduceBEq, Nat.reduceLT, Nat.reduceLeDiff, Nat.reduceAdd, Nat.reduceSub, reduceIte]
      rcases e2 : isNum s.types o.params[i].typ with _ | _
      · have e : obOk s.types o = false := hno (by simp only [parAt, e1, e2, Bool.true_and, Bool.false_and])
        simp only [Bool.not_false, EV, Nat.reduceEqDiff, Nat.reduceBEq, Nat.reduceLT, Nat.reduceLeDiff, Nat.reduceAdd, Nat.reduceSub, reduceIte]
        simp only [e, EV, Nat.reduceEqDiff, Nat.reduceBEq, Nat.reduceLT, Nat.reduceLeDiff, Nat.reduceAdd, Nat.reduceSub, reduceIte, evRE, retVC, cellV', evR, nfz, nfzs, nfzss, List.contains_nil, List.contains_cons, Bool.or_false, or_true]
      simp only [Bool.not_true, ParE, nth_map h1, h2, Par.z, Ob.z, Scope.z, EV, Nat.reduceEqDiff, Nat.reduceBEq, Nat.reduceLT, Nat.reduceLeDiff, Nat.reduceAdd, Nat.reduceSub, reduceIte]
      refine ⟨by omega, by omega, ?_⟩
      rw [← List.map_take]
      refine callD_i (d205 (o.params.take i) (by simp; omega) 206 [.fptr o.params[i].z] (parNm o.params[i]) rfl rfl (fun _ => rfl) (fun _ => rfl) (fun q _ => d206 q o.params[i])) rfl ?_
      simp only [EV, Nat.reduceEqDiff, Nat.reduceBEq, Nat.reduceLT, Nat.reduceLeDiff, Nat.reduceAdd, Nat.reduceSub, reduceIte]
      rcases e3 : (o.params.take i).any (parNm o.params[i]) with _ | _
      · simp only [EV, Nat.reduceEqDiff, Nat.reduceBEq, Nat.reduceLT, Nat.reduceLeDiff, Nat.reduceAdd, Nat.reduceSub, reduceIte]
        rw [w64 _ (by omega)]
        exact ⟨i + 1, ⟨h1, parTo_succ h1 hok (by simp only [parAt, e1, e2, e3, Bool.not_false, Bool.and_self])⟩, by omega, rfl⟩
      · have e : obOk s.types o = false := hno (by simp only [parAt, e1, e2, e3, Bool.not_true, Bool.and_false])
        simp only [EV, Nat.reduceEqDiff, Nat.reduceBEq, Nat.reduceLT, Nat.reduceLeDiff, Nat.reduceAdd, Nat.reduceSub, reduceIte]
        simp only [e, EV, Nat.reduceEqDiff, Nat.reduceBEq, Nat.reduceLT, Nat.reduceLeDiff, Nat.reduceAdd, Nat.reduceSub, reduceIte, evRE, retVC, cellV', evR, nfz, nfzs, nfzss, List.contains_nil, List.contains_cons, Bool.or_false, or_true]
    · have h1 : i = o.params.length := by have : ¬ (i : Int) < o.params.length := by simpa using h
                                          omega
      subst h1
      have hv : obOk s.types o = obKd s.types o := by simp only [obOk, hpre, parsOk_yes hok, Bool.true_and]
      unfold Scope.sm at hs
      clear h
      rw [hv]
      simp only [Ob.z, Scope.z, EV, Nat.reduceEqDiff, Nat.reduceBEq, Nat.reduceLT, Nat.reduceLeDiff, Nat.reduceAdd, Nat.reduceSub, reduceIte]
      refine awp_join (fun _ : Unit => obKd s.types o = false) (fun _ => stl []) ?_ ?_
      · simp only [Ob.z, Scope.z, EV, Nat.reduceEqDiff, Nat.reduceBEq, Nat.reduceLT, Nat.reduceLeDiff, Nat.reduceAdd, Nat.reduceSub, reduceIte]
        rcases k1 : (o.kind == 1) with _ | _
        rotate_left
        · simp only [k1, Ob.z, Scope.z, EV, Nat.reduceEqDiff, Nat.reduceBEq, Nat.reduceLT, Nat.reduceLeDiff, Nat.reduceAdd, Nat.reduceSub, reduceIte]
          rcases t0 : (o.typ == 0) with _ | _
          · simp only [Ob.z, Scope.z, EV, Nat.reduceEqDiff, Nat.reduceBEq, Nat.reduceLT, Nat.reduceLeDiff, Nat.reduceAdd, Nat.reduceSub, reduceIte]
            simp only [obKd, k1, t0, if_true, Bool.false_and, EV, Nat.reduceEqDiff, Nat.reduceBEq, Nat.reduceLT, Nat.reduceLeDiff, Nat.reduceAdd, Nat.reduceSub, reduceIte, evRE, retVC, cellV', evR, nfz, nfzs, nfzss, List.contains_nil, List.contains_cons, Bool.or_false, or_true]
          · simp only [Ob.z, Scope.z, EV, Nat.reduceEqDiff, Nat.reduceBEq, Nat.reduceLT, Nat.reduceLeDiff, Nat.reduceAdd, Nat.reduceSub, reduceIte]
            refine callK_i (d207 o.value) ?_
            simp only [EV, Nat.reduceEqDiff, Nat.reduceBEq, Nat.reduceLT, Nat.reduceLeDiff, Nat.reduceAdd, Nat.reduceSub, reduceIte]
            simp only [obKd, wholeB, k1, t0, if_true, Bool.true_and, EV, Nat.reduceEqDiff, Nat.reduceBEq, Nat.reduceLT, Nat.reduceLeDiff, Nat.reduceAdd, Nat.reduceSub, reduceIte, evRE, retVC, cellV', evR, nfz, nfzs, nfzss, List.contains_nil, List.contains_cons, Bool.or_false, or_true]
        simp only [k1, Ob.z, Scope.z, EV, Nat.reduceEqDiff, Nat.reduceBEq, Nat.reduceLT, Nat.reduceLeDiff, Nat.reduceAdd, Nat.reduceSub, reduceIte]
        refine awp_join (fun b : Bool => b = (o.kind == 2 || o.kind == 3)) (fun b => stl [(0, .fptr s.z), (3, .box 52 o.z), (70, .v (.int .i64 o.kind)), (81, .v (.bool b))]) ?_ ?_
        · simp only [Ob.z, Scope.z, EV, Nat.reduceEqDiff, Nat.reduceBEq, Nat.reduceLT, Nat.reduceLeDiff, Nat.reduceAdd, Nat.reduceSub, reduceIte]
          rcases k2 : (o.kind == 2) with _ | _
          · simp only [k2, EV, Nat.reduceEqDiff, Nat.reduceBEq, Nat.reduceLT, Nat.reduceLeDiff, Nat.reduceAdd, Nat.reduceSub, reduceIte]
            exact ⟨_, (Bool.false_or _).symm, rfl⟩
          · simp only [k2, EV, Nat.reduceEqDiff, Nat.reduceBEq, Nat.reduceLT, Nat.reduceLeDiff, Nat.reduceAdd, Nat.reduceSub, reduceIte]
            exact ⟨true, rfl, rfl⟩
        rintro b rfl
        rcases k2 : (o.kind == 2 || o.kind == 3) with _ | _
        rotate_left
        · simp only [evP, Ob.z, Scope.z, EV, Nat.reduceEqDiff, Nat.reduceBEq, Nat.reduceLT, Nat.reduceLeDiff, Nat.reduceAdd, Nat.reduceSub, reduceIte]
          refine callD_i (d61 s.types o.typ hs.2.2.1.1) rfl ?_
          simp only [EV, Nat.reduceEqDiff, Nat.reduceBEq, Nat.reduceLT, Nat.reduceLeDiff, Nat.reduceAdd, Nat.reduceSub, reduceIte]
          rcases e4 : isNum s.types o.typ with _ | _
          · simp only [Ob.z, Scope.z, EV, Nat.reduceEqDiff, Nat.reduceBEq, Nat.reduceLT, Nat.reduceLeDiff, Nat.reduceAdd, Nat.reduceSub, reduceIte]
            simp only [obKd, k1, k2, e4, if_true, Bool.false_eq_true, if_false, Bool.false_and, EV, Nat.reduceEqDiff, Nat.reduceBEq, Nat.reduceLT, Nat.reduceLeDiff, Nat.reduceAdd, Nat.reduceSub, reduceIte, evRE, retVC, cellV', evR, nfz, nfzs, nfzss, List.contains_nil, List.contains_cons, Bool.or_false, or_true]
          · simp only [Ob.z, Scope.z, EV, Nat.reduceEqDiff, Nat.reduceBEq, Nat.reduceLT, Nat.reduceLeDiff, Nat.reduceAdd, Nat.reduceSub, reduceIte]
            simp only [obKd, k1, k2, e4, if_true, Bool.false_eq_true, if_false, Bool.true_and, EV, Nat.reduceEqDiff, Nat.reduceBEq, Nat.reduceLT, Nat.reduceLeDiff, Nat.reduceAdd, Nat.reduceSub, reduceIte, evRE, retVC, cellV', evR, nfz, nfzs, nfzss, List.contains_nil, List.contains_cons, Bool.or_false, or_true]
        simp only [Ob.z, Scope.z, EV, Nat.reduceEqDiff, Nat.reduceBEq, Nat.reduceLT, Nat.reduceLeDiff, Nat.reduceAdd, Nat.reduceSub, reduceIte]
        rcases k4 : (o.kind == 4) with _ | _
        · have e5 : obKd s.types o = false := by simp only [obKd, k1, k2, k4, Bool.false_eq_true, if_false]
          simp only [Ob.z, Scope.z, EV, Nat.reduceEqDiff, Nat.reduceBEq, Nat.reduceLT, Nat.reduceLeDiff, Nat.reduceAdd, Nat.reduceSub, reduceIte]
          first | exact ⟨(), e5⟩ | exact ⟨(), e5, rfl⟩ | exact e5
        simp only [Ob.z, Scope.z, EV, Nat.reduceEqDiff, Nat.reduceBEq, Nat.reduceLT, Nat.reduceLeDiff, Nat.reduceAdd, Nat.reduceSub, reduceIte]
        rcases t1 : (o.typ == -1) with _ | _
        · simp only [evP, Ob.z, Scope.z, EV, Nat.reduceEqDiff, Nat.reduceBEq, Nat.reduceLT, Nat.reduceLeDiff, Nat.reduceAdd, Nat.reduceSub, reduceIte]
          refine callD_i (d61 s.types o.typ hs.2.2.1.1) rfl ?_
          simp only [EV, Nat.reduceEqDiff, Nat.reduceBEq, Nat.reduceLT, Nat.reduceLeDiff, Nat.reduceAdd, Nat.reduceSub, reduceIte]
          rcases e4 : isNum s.types o.typ with _ | _
          · simp only [Ob.z, Scope.z, EV, Nat.reduceEqDiff, Nat.reduceBEq, Nat.reduceLT, Nat.reduceLeDiff, Nat.reduceAdd, Nat.reduceSub, reduceIte]
            simp only [obKd, k1, k2, k4, t1, e4, if_true, Bool.false_eq_true, if_false, Bool.false_or, Bool.false_and, EV, Nat.reduceEqDiff, Nat.reduceBEq, Nat.reduceLT, Nat.reduceLeDiff, Nat.reduceAdd, Nat.reduceSub, reduceIte, evRE, retVC, cellV', evR, nfz, nfzs, nfzss, List.contains_nil, List.contains_cons, Bool.or_false, or_true]
          · simp only [Ob.z, Scope.z, EV, Nat.reduceEqDiff, Nat.reduceBEq, Nat.reduceLT, Nat.reduceLeDiff, Nat.reduceAdd, Nat.reduceSub, reduceIte]
            simp only [obKd, k1, k2, k4, t1, e4, if_true, Bool.false_eq_true, if_false, Bool.false_or, Bool.true_and, EV, Nat.reduceEqDiff, Nat.reduceBEq, Nat.reduceLT, Nat.reduceLeDiff, Nat.reduceAdd, Nat.reduceSub, reduceIte, evRE, retVC, cellV', evR, nfz, nfzs, nfzss, List.contains_nil, List.contains_cons, Bool.or_false, or_true]
        · simp only [evP, Ob.z, Scope.z, EV, Nat.reduceEqDiff, Nat.reduceBEq, Nat.reduceLT, Nat.reduceLeDiff, Nat.reduceAdd, Nat.reduceSub, reduceIte]
          simp only [obKd, k1, k2, k4, t1, if_true, Bool.false_eq_true, if_false, Bool.true_or, Bool.true_and, EV, Nat.reduceEqDiff, Nat.reduceBEq, Nat.reduceLT, Nat.reduceLeDiff, Nat.reduceAdd, Nat.reduceSub, reduceIte, evRE, retVC, cellV', evR, nfz, nfzs, nfzss, List.contains_nil, List.contains_cons, Bool.or_false, or_true]
      · rintro _ e5
        simp only [EV, Nat.reduceEqDiff, Nat.reduceBEq, Nat.reduceLT, Nat.reduceLeDiff, Nat.reduceAdd, Nat.reduceSub, reduceIte]
        simp only [e5, EV, Nat.reduceEqDiff, Nat.reduceBEq, Nat.reduceLT, Nat.reduceLeDiff, Nat.reduceAdd, Nat.reduceSub, reduceIte, evRE, retVC, cellV', evR, nfz, nfzs, nfzss, List.contains_nil, List.contains_cons, Bool.or_false, or_true]

end Go.AM
namespace Go.AM
set_option linter.unusedVariables false
set_option linter.unusedSimpArgs false
/-- loop.example/g00837/spec.l4Params -/
def m210 : MC :=
  (.seq
   (.reg [⟨(some 4), none, .a (.asg (.c (.bool false)))⟩])
   (.seq
    (.seq
     (.reg [⟨(some 9), none, .q (.mov (.t 1))⟩,
       ⟨(some 10), none, .q (.len false (.t 9))⟩,
       ⟨(some 11), none, .q (.mov (.c (.int .i64 0)))⟩])
     (.block 0
      (.loop [0, 1, 9, 10, 11]
       (.seq
        (.reg [⟨(some 12), none, .q (.bin false .lss (.t 11) (.t 10))⟩])
        (.seq
         (.cond (.t 12)
          .skip
          (.exit 0))
         (.seq
          (.block 1
           (.seq
            (.reg [⟨(some 13), none, .q (.mov (.t 11))⟩,
              ⟨(some 14), none, .q (.iad 3 (.t 9) (.t 11))⟩,
              ⟨(some 15), none, .q (.load true 3 (.t 14))⟩,
              ⟨(some 6), none, .a (.alloc 54 [.v (.string ({ data := #[] })), .v (.bool false), .v (.int .i64 0)])⟩,
              ⟨(some 5), none, .a (.asg (.t 13))⟩,
              ⟨none, none, .a (.store 3 (.t 6) (.t 15))⟩])
            (.seq
             (.seq
              (.reg [⟨(some 16), none, .q (.fad 0 (.t 6))⟩,
                ⟨(some 17), none, .q (.load false 1 (.t 16))⟩,
                ⟨(some 18), none, .a (.call (.fn 148) false [.lend (.t 17)])⟩,
                ⟨(some 19), none, .q (.un .not (.t 18))⟩,
                ⟨(some 20), none, .q (.mov (.t 19))⟩,
                ⟨(some 21), (some (20, false)), .q (.fad 2 (.t 6))⟩,
                ⟨(some 22), (some (20, false)), .q (.load false 1 (.t 21))⟩,
                ⟨(some 23), (some (20, false)), .q (.mov (.t 0))⟩,
                ⟨(some 24), (some (20, false)), .q (.len false (.t 23))⟩,
                ⟨(some 25), (some (20, false)), .q (.bin false .sub (.t 24) (.c (.int .i64 1)))⟩,
                ⟨(some 26), (some (20, false)), .a (.call (.fn 72) false [.lend (.t 22), .lend (.c (.int .i64 0)), .lend (.t 25)])⟩,
                ⟨(some 27), (some (20, false)), .q (.un .not (.t 26))⟩,
                ⟨(some 28), none, .q (.pick (.t 20) (.c (.bool true)) (.t 27))⟩])
              (.cond (.t 28)
               (.seq
                (.reg [⟨(some 4), none, .a (.asg (.c (.bool false)))⟩])
                .ret)
               .skip))
             (.seq
              (.reg [⟨(some 29), none, .q (.mov (.t 1))⟩,
                ⟨(some 30), none, .q (.mov (.t 5))⟩,
                ⟨(some 31), none, .q (.slc false 3 (.t 29) none (some (.t 30)))⟩,
                ⟨(some 32), none, .q (.len false (.t 31))⟩,
                ⟨(some 33), none, .q (.mov (.c (.int .i64 0)))⟩])
              (.block 2
               (.loop [0, 1, 6, 9, 10, 11, 29, 30, 31, 32, 33]
                (.seq
                 (.reg [⟨(some 34), none, .q (.bin false .lss (.t 33) (.t 32))⟩])
                 (.seq
                  (.cond (.t 34)
                   .skip
                   (.exit 2))
                  (.seq
                   (.block 3
                    (.seq
                     (.reg [⟨(some 35), none, .q (.iad 3 (.t 31) (.t 33))⟩,
                       ⟨(some 36), none, .q (.load true 3 (.t 35))⟩,
                       ⟨(some 8), none, .a (.alloc 54 [.v (.string ({ data := #[] })), .v (.bool false), .v (.int .i64 0)])⟩,
                       ⟨none, none, .a (.store 3 (.t 8) (.t 36))⟩])
                     (.seq
                      (.reg [⟨(some 37), none, .q (.fad 0 (.t 6))⟩,
                        ⟨(some 38), none, .q (.load false 1 (.t 37))⟩,
                        ⟨(some 39), none, .q (.fad 0 (.t 8))⟩,
                        ⟨(some 40), none, .q (.load false 1 (.t 39))⟩,
                        ⟨(some 41), none, .q (.bin false .eql (.t 38) (.t 40))⟩])
                      (.cond (.t 41)
                       (.seq
                        (.reg [⟨(some 4), none, .a (.asg (.c (.bool false)))⟩])
                        .ret)
                       .skip))))
                   (.reg [⟨(some 42), none, .q (.bin false .add (.t 33) (.c (.int .i64 1)))⟩,
                     ⟨(some 33), none, .q (.mov (.t 42))⟩]))))))))))
          (.reg [⟨(some 43), none, .q (.bin false .add (.t 11) (.c (.int .i64 1)))⟩,
            ⟨(some 11), none, .q (.mov (.t 43))⟩])))))))
    (.seq
     (.reg [⟨(some 44), none, .q (.mov (.t 1))⟩,
       ⟨(some 45), none, .q (.len false (.t 44))⟩,
       ⟨(some 46), none, .q (.bin false .leq (.t 45) (.c (.int .i64 4)))⟩,
       ⟨(some 4), none, .a (.asg (.t 46))⟩])
     .ret)))

set_option maxHeartbeats 1000000 in
set_option maxRecDepth 100000 in
theorem d210 (l : List Ty) (ps : List Par) (hl : (l.length : Int) ≤ 1048576) (hp : (ps.length : Int) ≤ 1048576) (hs : ∀ s ∈ ps, s.sm) :
    Does Go.Proofs.Tryz.prog 210 [.fsl 6 (l.map Ty.z), .fsl 3 (ps.map Par.z)] false (.v (.bool (parsOk l ps && decide ((ps.length : Int) ≤ 4)))) [.dead, .dead] := by
  refine does_intro (mc := m210) (N := 47) (rs := [4]) (fx := []) 2 rfl (by decide +kernel) ?_
  simp only [m210, EV, Nat.reduceEqDiff, Nat.reduceBEq, Nat.reduceLT, Nat.reduceLeDiff, Nat.reduceAdd, Nat.reduceSub, reduceIte]
  refine awp_loop (fun i : Nat => i ≤ ps.length ∧ parTo l ps i) (fun i => stl [(0, .fsl 6 (l.map Ty.z)), (1, .fsl 3 (ps.map Par.z)), (9, .fsl 3 (ps.map Par.z)), (10, .v (.int .i64 (ps.length : Int))), (11, .v (.int .i64 (i : Int)))]) (fun i => ps.length - i) 0 ⟨Nat.zero_le _, fun j hj h => absurd h (by omega)⟩ ?_ ?_
  · simp only [EV, Nat.reduceEqDiff, Nat.reduceBEq, Nat.reduceLT, Nat.reduceLeDiff, Nat.reduceAdd, Nat.reduceSub, reduceIte]
    rfl
  rintro i ⟨hi, hok⟩
  simp only [EV, Nat.reduceEqDiff, Nat.reduceBEq, Nat.reduceLT, Nat.reduceLeDiff, Nat.reduceAdd, Nat.reduceSub, reduceIte]
  refine cK_cut (fun h => ?_) (fun h => ?_)
  rotate_left
  · have h1 : i = ps.length := by have : ¬ (i : Int) < ps.length := by simpa using h
                                  omega
    subst h1
    simp only [EV, Nat.reduceEqDiff, Nat.reduceBEq, Nat.reduceLT, Nat.reduceLeDiff, Nat.reduceAdd, Nat.reduceSub, reduceIte]
    simp only [parsOk_yes hok, Bool.true_and, EV, Nat.reduceEqDiff, Nat.reduceBEq, Nat.reduceLT, Nat.reduceLeDiff, Nat.reduceAdd, Nat.reduceSub, reduceIte, evRE, retVC, cellV', evR, nfz, nfzs, nfzss, List.contains_nil, List.contains_cons, Bool.or_false, or_true]
  have h1 : i < ps.length := by simpa using h
  have h2 : (i : Int) < (ps.length : Int) := by omega
  have hno : parAt l ps i h1 = false → parsOk l ps = false := parsOk_no h1
  have hps := hs _ (List.getElem_mem h1)
  unfold Par.sm at hps
  have wl := w64 ((l.length : Int) - 1) (by omega)
  clear h
  simp only [ParE, nth_map h1, h2, Par.z, EV, Nat.reduceEqDiff, Nat.reduceBEq, Nat.reduceLT, Nat.reduceLeDiff, Nat.reduceAdd, Nat.reduceSub, reduceIte]
  refine callK_i (d148 ps[i].name (by omega)) ?_
  simp only [EV, Nat.reduceEqDiff, Nat.reduceBEq, Nat.reduceLT, Nat.reduceLeDiff, Nat.reduceAdd, Nat.reduceSub, reduceIte]
  rcases e1 : nameOk ps[i].name with _ | _
  · have e : parsOk l ps = false := hno (by simp only [parAt, e1, Bool.false_and])
    simp only [Bool.not_false, EV, Nat.reduceEqDiff, Nat.reduceBEq, Nat.reduceLT, Nat.reduceLeDiff, Nat.reduceAdd, Nat.reduceSub, reduceIte]
    simp only [e, Bool.false_and, EV, Nat.reduceEqDiff, Nat.reduceBEq, Nat.reduceLT, Nat.reduceLeDiff, Nat.reduceAdd, Nat.reduceSub, reduceIte, evRE, retVC, cellV', evR, nfz, nfzs, nfzss, List.contains_nil, List.contains_cons, Bool.or_false, or_true]
  simp only [Bool.not_true, wl, EV, Nat.reduceEqDiff, Nat.reduceBEq, Nat.reduceLT, Nat.reduceLeDiff, Nat.reduceAdd, Nat.reduceSub, reduceIte]
  refine callK_i (d72 ps[i].typ 0 ((l.length : Int) - 1)) ?_
  have en : (decide (0 ≤ ps[i].typ) && decide (ps[i].typ ≤ (l.length : Int) - 1)) = isNum l ps[i].typ := rfl
  rw [en]
  simp only [EV, Nat.reduceEqDiff, Nat.reduceBEq, Nat.reduceLT, Nat.reduceLeDiff, Nat.reduceAdd, Nat.reduceSub, reduceIte]
  rcases e2 : isNum l ps[i].typ with _ | _
  · have e : parsOk l ps = false := hno (by simp only [parAt, e1, e2, Bool.false_and, Bool.true_and])
    simp only [Bool.not_false, EV, Nat.reduceEqDiff, Nat.reduceBEq, Nat.reduceLT, Nat.reduceLeDiff, Nat.reduceAdd, Nat.reduceSub, reduceIte]
    simp only [e, Bool.false_and, EV, Nat.reduceEqDiff, Nat.reduceBEq, Nat.reduceLT, Nat.reduceLeDiff, Nat.reduceAdd, Nat.reduceSub, reduceIte, evRE, retVC, cellV', evR, nfz, nfzs, nfzss, List.contains_nil, List.contains_cons, Bool.or_false, or_true]
  simp only [Bool.not_true, EV, Nat.reduceEqDiff, Nat.reduceBEq, Nat.reduceLT, Nat.reduceLeDiff, Nat.reduceAdd, Nat.reduceSub, reduceIte]
  refine ⟨by omega, by omega, ?_⟩
  rw [← List.map_take]
  have hlt : (ps.take i).length = i := by simp; omega
  simp only [hlt, EV, Nat.reduceEqDiff, Nat.reduceBEq, Nat.reduceLT, Nat.reduceLeDiff, Nat.reduceAdd, Nat.reduceSub, reduceIte]
  refine awp_loop (fun j : Nat => j ≤ i ∧ ((ps.take i).take j).any (parNm ps[i]) = false) (fun j => stl [(0, .fsl 6 (l.map Ty.z)), (1, .fsl 3 (ps.map Par.z)), (6, .box 54 ps[i].z), (9, .fsl 3 (ps.map Par.z)), (10, .v (.int .i64 (ps.length : Int))), (11, .v (.int .i64 (i : Int))), (29, .fsl 3 (ps.map Par.z)), (30, .v (.int .i64 (i : Int))), (31, .fsl 3 ((ps.take i).map Par.z)), (32, .v (.int .i64 (i : Int))), (33, .v (.int .i64 (j : Int)))]) (fun j => i - j) 0 ⟨Nat.zero_le _, by simp⟩ ?_ ?_
  · simp only [Par.z, EV, Nat.reduceEqDiff, Nat.reduceBEq, Nat.reduceLT, Nat.reduceLeDiff, Nat.reduceAdd, Nat.reduceSub, reduceIte]
    rfl
  rintro j ⟨hj, hnj⟩
  simp only [EV, Nat.reduceEqDiff, Nat.reduceBEq, Nat.reduceLT, Nat.reduceLeDiff, Nat.reduceAdd, Nat.reduceSub, reduceIte]
  refine cK_cut (fun h => ?_) (fun h => ?_)
  · have j1 : j < i := by simpa using h
    have j2 : (j : Int) < (i : Int) := by omega
    have j3 : j < (ps.take i).length := by omega
    have j4 : (j : Int) < ((ps.take i).length : Int) := by omega
    clear h
    simp only [ParE, j1, j2, j3, j4, nth_map j3, hlt, Par.z, EV, Nat.reduceEqDiff, Nat.reduceBEq, Nat.reduceLT, Nat.reduceLeDiff, Nat.reduceAdd, Nat.reduceSub, reduceIte]
    have ec : (ps[i].name.toList == (ps.take i)[j].name.toList) = parNm ps[i] (ps.take i)[j] := Bool.beq_comm
    rw [ec]
    rcases e3 : parNm ps[i] (ps.take i)[j] with _ | _
    · simp only [EV, Nat.reduceEqDiff, Nat.reduceBEq, Nat.reduceLT, Nat.reduceLeDiff, Nat.reduceAdd, Nat.reduceSub, reduceIte]
      rw [w64 _ (by omega)]
      exact ⟨j + 1, ⟨j1, by rw [List.take_succ_eq_append_getElem j3, List.any_append, hnj]; simpa using e3⟩, by omega, rfl⟩
    · have e4 : (ps.take i).any (parNm ps[i]) = true := List.any_eq_true.2 ⟨_, List.getElem_mem j3, e3⟩
      have e : parsOk l ps = false := hno (by simp only [parAt, e1, e2, e4, Bool.not_true, Bool.and_false])
      simp only [EV, Nat.reduceEqDiff, Nat.reduceBEq, Nat.reduceLT, Nat.reduceLeDiff, Nat.reduceAdd, Nat.reduceSub, reduceIte]
      simp only [e, Bool.false_and, EV, Nat.reduceEqDiff, Nat.reduceBEq, Nat.reduceLT, Nat.reduceLeDiff, Nat.reduceAdd, Nat.reduceSub, reduceIte, evRE, retVC, cellV', evR, nfz, nfzs, nfzss, List.contains_nil, List.contains_cons, Bool.or_false, or_true]
  · have j1 : j = i := by have : ¬ (j : Int) < (i : Int) := by simpa using h
                          omega
    subst j1
    have e4 : (ps.take j).any (parNm ps[j]) = false := by rw [List.take_of_length_le (by omega)] at hnj; exact hnj
    simp only [EV, Nat.reduceEqDiff, Nat.reduceBEq, Nat.reduceLT, Nat.reduceLeDiff, Nat.reduceAdd, Nat.reduceSub, reduceIte]
    rw [w64 _ (by omega)]
    exact ⟨j + 1, ⟨h1, parTo_succ h1 hok (by simp only [parAt, e1, e2, e4, Bool.not_false, Bool.and_self])⟩, by omega, rfl⟩

/-- The same, as the reference asks. -/
noncomputable def obS (l : List Ty) (o : Ob) : Bool :=
  ((decide (0 ≤ o.mark) && decide (o.mark ≤ 2)) && (!(o.mark == 2) || o.kind == 3)) && (((o.kind == 1 || o.value == 0) && (o.kind == 4 || !(decide (0 < (o.params.length : Int))))) &&
    (if (o.kind == 1) = true then o.typ == 0 && wholeB o.value else if (o.kind == 2 || o.kind == 3) = true then isNum l o.typ
     else o.kind == 4 && ((decide (-1 ≤ o.typ) && decide (o.typ ≤ (l.length : Int) - 1)) && (parsOk l o.params && decide ((o.params.length : Int) ≤ 4)))))

theorem obS_eq (l : List Ty) (o : Ob) : obS l o = obOk l o := by
  have hn : isNum l o.typ = (decide (0 ≤ o.typ) && decide (o.typ ≤ (l.length : Int) - 1)) := rfl
  have hm : (decide (-1 ≤ o.typ) && decide (o.typ ≤ (l.length : Int) - 1)) = (o.typ == -1 || isNum l o.typ) := by
    rw [hn]
    by_cases h : o.typ = -1
    · rw [h]; simp; omega
    · have : (o.typ == -1) = false := by simpa using h
      rw [this, Bool.false_or]
      congr 1
      simp; omega
  by_cases hp : o.params = []
  · have hq := parsOk_nil l
    unfold obS obOk obPre obKd
    rw [hm, hp, hq]
    simp only [List.length_nil, Int.natCast_zero, Int.lt_irrefl, decide_false, Bool.not_false, Bool.or_true, Bool.and_true, Bool.true_and]
    by_cases k1 : o.kind = 1
    · simp [k1]
    by_cases k2 : o.kind = 2
    · simp [k2]
      cases (o.value == 0) <;> cases isNum l o.typ <;> simp
    by_cases k3 : o.kind = 3
    · simp [k3]
      cases (o.value == 0) <;> cases isNum l o.typ <;> simp
    by_cases k4 : o.kind = 4
    · simp [k4]
      cases (o.value == 0) <;> simp
    · simp [k1, k2, k3, k4]
  · have h0 : decide (0 < (o.params.length : Int)) = true := by
      have : 0 < o.params.length := List.length_pos_iff.2 hp
      simp; omega
    unfold obS obOk obPre obKd
    rw [hm, h0]
    by_cases k4 : o.kind = 4
    · simp [k4]
      cases (o.value == 0) <;> cases parsOk l o.params <;> simp
      cases decide ((o.params.length : Int) ≤ 4) <;> simp
    · have : (o.kind == 4) = false := by simpa using k4
      simp [this]

/-- loop.example/g00837/spec.l4Object -/
def m150 : MC :=
  (.seq
   (.reg [⟨(some 3), none, .a (.box 52 (.t 1))⟩,
     ⟨(some 4), none, .a (.asg (.c (.bool false)))⟩])
   (.seq
    (.seq
     (.reg [⟨(some 5), none, .q (.fad 0 (.t 3))⟩,
       ⟨(some 6), none, .q (.load false 1 (.t 5))⟩,
       ⟨(some 7), none, .a (.call (.fn 148) false [.lend (.t 6)])⟩,
       ⟨(some 8), none, .q (.un .not (.t 7))⟩,
       ⟨(some 9), none, .q (.mov (.t 8))⟩,
       ⟨(some 10), (some (9, false)), .q (.fad 2 (.t 3))⟩,
       ⟨(some 11), (some (9, false)), .q (.load false 1 (.t 10))⟩,
       ⟨(some 12), (some (9, false)), .a (.call (.fn 72) false [.lend (.t 11), .lend (.c (.int .i64 0)), .lend (.c (.int .i64 2))])⟩,
       ⟨(some 13), (some (9, false)), .q (.un .not (.t 12))⟩,
       ⟨(some 14), none, .q (.pick (.t 9) (.c (.bool true)) (.t 13))⟩,
       ⟨(some 15), none, .q (.mov (.t 14))⟩,
       ⟨(some 16), (some (15, false)), .q (.fad 2 (.t 3))⟩,
       ⟨(some 17), (some (15, false)), .q (.load false 1 (.t 16))⟩,
       ⟨(some 18), (some (15, false)), .q (.bin false .eql (.t 17) (.c (.int .i64 2)))⟩,
       ⟨(some 19), (some (15, false)), .q (.mov (.t 18))⟩,
       ⟨(some 20), (some (19, true)), .q (.fad 1 (.t 3))⟩,
       ⟨(some 21), (some (19, true)), .q (.load false 1 (.t 20))⟩,
       ⟨(some 22), (some (19, true)), .q (.bin false .neq (.t 21) (.c (.int .i64 3)))⟩,
       ⟨(some 23), (some (15, false)), .q (.pick (.t 19) (.t 22) (.c (.bool false)))⟩,
       ⟨(some 24), none, .q (.pick (.t 15) (.c (.bool true)) (.t 23))⟩])
     (.cond (.t 24)
      (.seq
       (.reg [⟨(some 4), none, .a (.asg (.c (.bool false)))⟩])
       .ret)
      .skip))
    (.seq
     (.seq
      (.reg [⟨(some 25), none, .q (.fad 1 (.t 3))⟩,
        ⟨(some 26), none, .q (.load false 1 (.t 25))⟩,
        ⟨(some 27), none, .q (.bin false .neq (.t 26) (.c (.int .i64 1)))⟩,
        ⟨(some 28), none, .q (.mov (.t 27))⟩,
        ⟨(some 29), (some (28, true)), .q (.fad 4 (.t 3))⟩,
        ⟨(some 30), (some (28, true)), .q (.load false 1 (.t 29))⟩,
        ⟨(some 31), (some (28, true)), .q (.bin false .neq (.t 30) (.c (.int .i64 0)))⟩,
        ⟨(some 32), none, .q (.pick (.t 28) (.t 31) (.c (.bool false)))⟩,
        ⟨(some 33), none, .q (.mov (.t 32))⟩,
        ⟨(some 34), (some (33, false)), .q (.fad 1 (.t 3))⟩,
        ⟨(some 35), (some (33, false)), .q (.load false 1 (.t 34))⟩,
        ⟨(some 36), (some (33, false)), .q (.bin false .neq (.t 35) (.c (.int .i64 4)))⟩,
        ⟨(some 37), (some (33, false)), .q (.mov (.t 36))⟩,
        ⟨(some 38), (some (37, true)), .q (.fad 5 (.t 3))⟩,
        ⟨(some 39), (some (37, true)), .q (.load false 1 (.t 38))⟩,
        ⟨(some 40), (some (37, true)), .q (.len false (.t 39))⟩,
        ⟨(some 41), (some (37, true)), .q (.bin false .gtr (.t 40) (.c (.int .i64 0)))⟩,
        ⟨(some 42), (some (33, false)), .q (.pick (.t 37) (.t 41) (.c (.bool false)))⟩,
        ⟨(some 43), none, .q (.pick (.t 33) (.c (.bool true)) (.t 42))⟩])
      (.cond (.t 43)
       (.seq
        (.reg [⟨(some 4), none, .a (.asg (.c (.bool false)))⟩])
        .ret)
       .skip))
     (.join [0, 3]
      (.seq
       (.reg [⟨(some 44), none, .q (.fad 1 (.t 3))⟩,
         ⟨(some 45), none, .q (.load false 1 (.t 44))⟩])
       (.block 0
        (.seq
         (.reg [⟨(some 47), none, .q (.bin false .eql (.t 45) (.c (.int .i64 1)))⟩,
           ⟨(some 46), none, .a (.asg (.t 47))⟩])
         (.cond (.t 46)
          (.seq
           (.reg [⟨(some 48), none, .q (.fad 3 (.t 3))⟩,
             ⟨(some 49), none, .q (.load false 1 (.t 48))⟩,
             ⟨(some 50), none, .q (.bin false .eql (.t 49) (.c (.int .i64 0)))⟩,
             ⟨(some 51), none, .q (.mov (.t 50))⟩,
             ⟨(some 52), (some (51, true)), .q (.fad 4 (.t 3))⟩,
             ⟨(some 53), (some (51, true)), .q (.load false 1 (.t 52))⟩,
             ⟨(some 54), (some (51, true)), .a (.call (.fn 72) false [.lend (.t 53), .lend (.c (.int .i64 (-1000000000))), .lend (.c (.int .i64 1000000000))])⟩,
             ⟨(some 55), none, .q (.pick (.t 51) (.t 54) (.c (.bool false)))⟩,
             ⟨(some 4), none, .a (.asg (.t 55))⟩])
           .ret)
          (.join [0, 3, 56]
           (.seq
            (.reg [⟨(some 57), none, .q (.bin false .eql (.t 45) (.c (.int .i64 2)))⟩,
              ⟨(some 56), none, .a (.asg (.t 57))⟩])
            (.cond (.t 56)
             .skip
             (.reg [⟨(some 58), none, .q (.bin false .eql (.t 45) (.c (.int .i64 3)))⟩,
               ⟨(some 56), none, .a (.asg (.t 58))⟩])))
           (.cond (.t 56)
            (.seq
             (.reg [⟨(some 59), none, .q (.fad 3 (.t 3))⟩,
               ⟨(some 60), none, .q (.load false 1 (.t 59))⟩,
               ⟨(some 61), none, .q (.mov (.t 0))⟩,
               ⟨(some 62), none, .q (.len false (.t 61))⟩,
               ⟨(some 63), none, .q (.bin false .sub (.t 62) (.c (.int .i64 1)))⟩,
               ⟨(some 64), none, .a (.call (.fn 72) false [.lend (.t 60), .lend (.c (.int .i64 0)), .lend (.t 63)])⟩,
               ⟨(some 4), none, .a (.asg (.t 64))⟩])
             .ret)
            .skip))))))
      (.seq
       (.reg [⟨(some 65), none, .q (.fad 1 (.t 3))⟩,
         ⟨(some 66), none, .q (.load false 1 (.t 65))⟩,
         ⟨(some 67), none, .q (.bin false .eql (.t 66) (.c (.int .i64 4)))⟩,
         ⟨(some 68), none, .q (.mov (.t 67))⟩,
         ⟨(some 69), (some (68, true)), .q (.fad 3 (.t 3))⟩,
         ⟨(some 70), (some (68, true)), .q (.load false 1 (.t 69))⟩,
         ⟨(some 71), (some (68, true)), .q (.mov (.t 0))⟩,
         ⟨(some 72), (some (68, true)), .q (.len false (.t 71))⟩,
         ⟨(some 73), (some (68, true)), .q (.bin false .sub (.t 72) (.c (.int .i64 1)))⟩,
         ⟨(some 74), (some (68, true)), .a (.call (.fn 72) false [.lend (.t 70), .lend (.c (.int .i64 (-1))), .lend (.t 73)])⟩,
         ⟨(some 75), none, .q (.pick (.t 68) (.t 74) (.c (.bool false)))⟩,
         ⟨(some 76), none, .q (.mov (.t 75))⟩,
         ⟨(some 77), (some (76, true)), .q (.mov (.t 0))⟩,
         ⟨(some 78), (some (76, true)), .q (.fad 5 (.t 3))⟩,
         ⟨(some 79), (some (76, true)), .q (.load false 1 (.t 78))⟩,
         ⟨(some 80), (some (76, true)), .a (.call (.fn 210) false [.lend (.t 77), .lend (.t 79)])⟩,
         ⟨(some 81), none, .q (.pick (.t 76) (.t 80) (.c (.bool false)))⟩,
         ⟨(some 4), none, .a (.asg (.t 81))⟩])
       .ret)))))

set_option maxHeartbeats 4000000 in
set_option maxRecDepth 100000 in
theorem d150 (l : List Ty) (o : Ob) (hl : (l.length : Int) ≤ 1048576) (ho : o.sm) : Does Go.Proofs.Tryz.prog 150 [.fsl 6 (l.map Ty.z), .agg o.z] false (.v (.bool (nameOk o.name && obOk l o))) [.dead, .dead] := by
  have wl := w64 ((l.length : Int) - 1) (by omega)
  rw [← obS_eq]
  unfold Ob.sm at ho
  refine does_intro (mc := m150) (N := 82) (rs := [4]) (fx := []) 2 rfl (by decide +kernel) ?_
  simp only [m150, Ob.z, EV, Nat.reduceEqDiff, Nat.reduceBEq, Nat.reduceLT, Nat.reduceLeDiff, Nat.reduceAdd, Nat.reduceSub, reduceIte]
  refine callK_i (d148 o.name (by omega)) ?_
  simp only [EV, Nat.reduceEqDiff, Nat.reduceBEq, Nat.reduceLT, Nat.reduceLeDiff, Nat.reduceAdd, Nat.reduceSub, reduceIte]
  rcases e1 : nameOk o.name with _ | _
  · simp only [Bool.not_false, EV, Nat.reduceEqDiff, Nat.reduceBEq, Nat.reduceLT, Nat.reduceLeDiff, Nat.reduceAdd, Nat.reduceSub, reduceIte]
    simp only [Bool.false_and, EV, Nat.reduceEqDiff, Nat.reduceBEq, Nat.reduceLT, Nat.reduceLeDiff, Nat.reduceAdd, Nat.reduceSub, reduceIte, evRE, retVC, cellV', evR, nfz, nfzs, nfzss, List.contains_nil, List.contains_cons, Bool.or_false, or_true]
  simp only [Bool.not_true, EV, Nat.reduceEqDiff, Nat.reduceBEq, Nat.reduceLT, Nat.reduceLeDiff, Nat.reduceAdd, Nat.reduceSub, reduceIte]
  refine callK_i (d72 o.mark 0 2) ?_
  simp only [EV, Nat.reduceEqDiff, Nat.reduceBEq, Nat.reduceLT, Nat.reduceLeDiff, Nat.reduceAdd, Nat.reduceSub, reduceIte]
  rcases e2 : (decide (0 ≤ o.mark) && decide (o.mark ≤ 2)) with _ | _
  · simp only [Bool.not_false, EV, Nat.reduceEqDiff, Nat.reduceBEq, Nat.reduceLT, Nat.reduceLeDiff, Nat.reduceAdd, Nat.reduceSub, reduceIte]
    simp only [obS, e2, Bool.false_and, Bool.and_false, EV, Nat.reduceEqDiff, Nat.reduceBEq, Nat.reduceLT, Nat.reduceLeDiff, Nat.reduceAdd, Nat.reduceSub, reduceIte, evRE, retVC, cellV', evR, nfz, nfzs, nfzss, List.contains_nil, List.contains_cons, Bool.or_false, or_true]
  simp only [Bool.not_true, EV, Nat.reduceEqDiff, Nat.reduceBEq, Nat.reduceLT, Nat.reduceLeDiff, Nat.reduceAdd, Nat.reduceSub, reduceIte]
  have hk : o.kind = 1 ∨ o.kind = 2 ∨ o.kind = 3 ∨ o.kind = 4 ∨ (o.kind ≠ 1 ∧ o.kind ≠ 2 ∧ o.kind ≠ 3 ∧ o.kind ≠ 4) := by omega
  have kf : ∃ b1 b2 b3 b4 : Bool, (o.kind == 1) = b1 ∧ (o.kind == 2) = b2 ∧ (o.kind == 3) = b3 ∧ (o.kind == 4) = b4 ∧ (o.kind != 1) = !b1 ∧ (o.kind != 3) = !b3 ∧ (o.kind != 4) = !b4 ∧
      ((b1, b2, b3, b4) = (true, false, false, false) ∨ (b1, b2, b3, b4) = (false, true, false, false) ∨ (b1, b2, b3, b4) = (false, false, true, false) ∨ (b1, b2, b3, b4) = (false, false, false, true) ∨ (b1, b2, b3, b4) = (false, false, false, false)) := by
    refine ⟨_, _, _, _, rfl, rfl, rfl, rfl, rfl, rfl, rfl, ?_⟩
    rcases hk with h | h | h | h | ⟨h1, h2, h3, h4⟩
    · rw [h]; simp
    · rw [h]; simp
    · rw [h]; simp
    · rw [h]; simp
    · simp [h1, h2, h3, h4]
  obtain ⟨b1, b2, b3, b4, f1, f2, f3, f4, n1, n3, n4, hb⟩ := kf
  have g4 : (o.value != 0) = !(o.value == 0) := rfl
  rcases e3 : (o.mark == 2) with _ | _ <;> rcases e4 : (o.value == 0) with _ | _ <;> rcases e5 : decide (0 < (o.params.length : Int)) with _ | _ <;> rcases hb with hb | hb | hb | hb | hb <;> (simp only [Prod.mk.injEq] at hb; obtain ⟨rfl, rfl, rfl, rfl⟩ := hb) <;> simp only [f1, f2, f3, f4, n1, n3, n4, e4, g4, e5, Bool.not_true, Bool.not_false, EV, Nat.reduceEqDiff, Nat.reduceBEq, Nat.reduceLT, Nat.reduceLeDiff, Nat.reduceAdd, Nat.reduceSub, reduceIte]
  all_goals try (simp only [obS, f1, f2, f3, f4, e2, e3, e4, e5, Bool.not_true, Bool.not_false, Bool.or_true, Bool.or_false, Bool.and_true, Bool.and_false, Bool.true_and, Bool.false_and, EV, Nat.reduceEqDiff, Nat.reduceBEq, Nat.reduceLT, Nat.reduceLeDiff, Nat.reduceAdd, Nat.reduceSub, reduceIte, evRE, retVC, cellV', evR, nfz, nfzs, nfzss, List.contains_nil, List.contains_cons, Bool.or_false, or_true]; done)
  all_goals
    refine awp_join (fun _ : Unit => (o.kind == 1) = false ∧ (o.kind == 2 || o.kind == 3) = false) (fun _ => stl [(0, .fsl 6 (l.map Ty.z)), (3, .box 52 o.z)]) ?_ ?_
    · first
        | (simp only [f1, Ob.z, EV, Nat.reduceEqDiff, Nat.reduceBEq, Nat.reduceLT, Nat.reduceLeDiff, Nat.reduceAdd, Nat.reduceSub, reduceIte]
           rcases t0 : (o.typ == 0) with _ | _
           · simp only [Ob.z, EV, Nat.reduceEqDiff, Nat.reduceBEq, Nat.reduceLT, Nat.reduceLeDiff, Nat.reduceAdd, Nat.reduceSub, reduceIte]
             simp only [obS, t0, f1, f2, f3, f4, e2, e3, e4, e5, Bool.not_true, Bool.not_false, Bool.or_true, Bool.true_or, Bool.or_false, Bool.false_or, Bool.and_true, Bool.and_false, Bool.true_and, Bool.false_and, Bool.false_eq_true, if_true, if_false, EV, Nat.reduceEqDiff, Nat.reduceBEq, Nat.reduceLT, Nat.reduceLeDiff, Nat.reduceAdd, Nat.reduceSub, reduceIte, evRE, retVC, cellV', evR, nfz, nfzs, nfzss, List.contains_nil, List.contains_cons, Bool.or_false, or_true]
           · simp only [Ob.z, EV, Nat.reduceEqDiff, Nat.reduceBEq, Nat.reduceLT, Nat.reduceLeDiff, Nat.reduceAdd, Nat.reduceSub, reduceIte]
             refine callK_i (d72 o.value (-1000000000) 1000000000) ?_
             simp only [EV, Nat.reduceEqDiff, Nat.reduceBEq, Nat.reduceLT, Nat.reduceLeDiff, Nat.reduceAdd, Nat.reduceSub, reduceIte]
             simp only [obS, wholeB, t0, f1, f2, f3, f4, e2, e3, e4, e5, Bool.not_true, Bool.not_false, Bool.or_true, Bool.true_or, Bool.or_false, Bool.false_or, Bool.and_true, Bool.and_false, Bool.true_and, Bool.false_and, Bool.false_eq_true, if_true, if_false, EV, Nat.reduceEqDiff, Nat.reduceBEq, Nat.reduceLT, Nat.reduceLeDiff, Nat.reduceAdd, Nat.reduceSub, reduceIte, evRE, retVC, cellV', evR, nfz, nfzs, nfzss, List.contains_nil, List.contains_cons, Bool.or_false, or_true]
           done)
        | (simp only [f1, Ob.z, EV, Nat.reduceEqDiff, Nat.reduceBEq, Nat.reduceLT, Nat.reduceLeDiff, Nat.reduceAdd, Nat.reduceSub, reduceIte]
           refine awp_join (fun b : Bool => b = true) (fun b => stl [(0, .fsl 6 (l.map Ty.z)), (3, .box 52 o.z), (56, .v (.bool b))]) ?_ ?_
           · simp only [f2, f3, Ob.z, EV, Nat.reduceEqDiff, Nat.reduceBEq, Nat.reduceLT, Nat.reduceLeDiff, Nat.reduceAdd, Nat.reduceSub, reduceIte]
             exact ⟨true, rfl, rfl⟩
           rintro _ rfl
           simp only [wl, Ob.z, EV, Nat.reduceEqDiff, Nat.reduceBEq, Nat.reduceLT, Nat.reduceLeDiff, Nat.reduceAdd, Nat.reduceSub, reduceIte]
           refine callK_i (d72 o.typ 0 ((l.length : Int) - 1)) ?_
           have en : (decide (0 ≤ o.typ) && decide (o.typ ≤ (l.length : Int) - 1)) = isNum l o.typ := rfl
           rw [en]
           simp only [EV, Nat.reduceEqDiff, Nat.reduceBEq, Nat.reduceLT, Nat.reduceLeDiff, Nat.reduceAdd, Nat.reduceSub, reduceIte]
           simp only [obS, f1, f2, f3, f4, e2, e3, e4, e5, Bool.not_true, Bool.not_false, Bool.or_true, Bool.true_or, Bool.or_false, Bool.false_or, Bool.and_true, Bool.and_false, Bool.true_and, Bool.false_and, Bool.false_eq_true, if_true, if_false, EV, Nat.reduceEqDiff, Nat.reduceBEq, Nat.reduceLT, Nat.reduceLeDiff, Nat.reduceAdd, Nat.reduceSub, reduceIte, evRE, retVC, cellV', evR, nfz, nfzs, nfzss, List.contains_nil, List.contains_cons, Bool.or_false, or_true]
           done)
        | (simp only [f1, Ob.z, EV, Nat.reduceEqDiff, Nat.reduceBEq, Nat.reduceLT, Nat.reduceLeDiff, Nat.reduceAdd, Nat.reduceSub, reduceIte]
           refine awp_join (fun b : Bool => b = false) (fun b => stl [(0, .fsl 6 (l.map Ty.z)), (3, .box 52 o.z), (56, .v (.bool b))]) ?_ ?_
           · simp only [f2, f3, Ob.z, EV, Nat.reduceEqDiff, Nat.reduceBEq, Nat.reduceLT, Nat.reduceLeDiff, Nat.reduceAdd, Nat.reduceSub, reduceIte]
             exact ⟨false, rfl, rfl⟩
           rintro _ rfl
           simp only [f1, f2, f3, Ob.z, Bool.or_false, EV, Nat.reduceEqDiff, Nat.reduceBEq, Nat.reduceLT, Nat.reduceLeDiff, Nat.reduceAdd, Nat.reduceSub, reduceIte]
           exact ⟨(), trivial⟩)
    · rintro _ ⟨x1, x2⟩
      first
        | (exfalso; simp [f1] at x1; done)
        | (exfalso; simp [f2, f3] at x2; done)
        | (simp only [f4, Ob.z, EV, Nat.reduceEqDiff, Nat.reduceBEq, Nat.reduceLT, Nat.reduceLeDiff, Nat.reduceAdd, Nat.reduceSub, reduceIte]
           simp only [obS, f1, f2, f3, f4, e2, e3, e4, e5, Bool.not_true, Bool.not_false, Bool.or_true, Bool.true_or, Bool.or_false, Bool.false_or, Bool.and_true, Bool.and_false, Bool.true_and, Bool.false_and, Bool.false_eq_true, if_true, if_false, EV, Nat.reduceEqDiff, Nat.reduceBEq, Nat.reduceLT, Nat.reduceLeDiff, Nat.reduceAdd, Nat.reduceSub, reduceIte, evRE, retVC, cellV', evR, nfz, nfzs, nfzss, List.contains_nil, List.contains_cons, Bool.or_false, or_true]
           done)
        | (simp only [f4, wl, Ob.z, EV, Nat.reduceEqDiff, Nat.reduceBEq, Nat.reduceLT, Nat.reduceLeDiff, Nat.reduceAdd, Nat.reduceSub, reduceIte]
           refine callK_i (d72 o.typ (-1) ((l.length : Int) - 1)) ?_
           simp only [EV, Nat.reduceEqDiff, Nat.reduceBEq, Nat.reduceLT, Nat.reduceLeDiff, Nat.reduceAdd, Nat.reduceSub, reduceIte]
           rcases e6 : (decide (-1 ≤ o.typ) && decide (o.typ ≤ (l.length : Int) - 1)) with _ | _
           · simp only [EV, Nat.reduceEqDiff, Nat.reduceBEq, Nat.reduceLT, Nat.reduceLeDiff, Nat.reduceAdd, Nat.reduceSub, reduceIte]
             simp only [obS, e6, f1, f2, f3, f4, e2, e3, e4, e5, Bool.not_true, Bool.not_false, Bool.or_true, Bool.true_or, Bool.or_false, Bool.false_or, Bool.and_true, Bool.and_false, Bool.true_and, Bool.false_and, Bool.false_eq_true, if_true, if_false, EV, Nat.reduceEqDiff, Nat.reduceBEq, Nat.reduceLT, Nat.reduceLeDiff, Nat.reduceAdd, Nat.reduceSub, reduceIte, evRE, retVC, cellV', evR, nfz, nfzs, nfzss, List.contains_nil, List.contains_cons, Bool.or_false, or_true]
           · simp only [Ob.z, EV, Nat.reduceEqDiff, Nat.reduceBEq, Nat.reduceLT, Nat.reduceLeDiff, Nat.reduceAdd, Nat.reduceSub, reduceIte]
             refine callK_i (d210 l o.params hl ho.2.2.2.2.2.1 ho.2.2.2.2.2.2) ?_
             simp only [EV, Nat.reduceEqDiff, Nat.reduceBEq, Nat.reduceLT, Nat.reduceLeDiff, Nat.reduceAdd, Nat.reduceSub, reduceIte]
             simp only [obS, e6, f1, f2, f3, f4, e2, e3, e4, e5, Bool.not_true, Bool.not_false, Bool.or_true, Bool.true_or, Bool.or_false, Bool.false_or, Bool.and_true, Bool.and_false, Bool.true_and, Bool.false_and, Bool.false_eq_true, if_true, if_false, EV, Nat.reduceEqDiff, Nat.reduceBEq, Nat.reduceLT, Nat.reduceLeDiff, Nat.reduceAdd, Nat.reduceSub, reduceIte, evRE, retVC, cellV', evR, nfz, nfzs, nfzss, List.contains_nil, List.contains_cons, Bool.or_false, or_true]
           done)

end Go.AM
namespace Go.AM
set_option linter.unusedVariables false
set_option linter.unusedSimpArgs false
/-- A whole number as a row of one cell. -/
def iv (n : Int) : List AV := [.v (.int .i64 n)]

theorem iv_frz : ∀ l : List Int, frzRows (l.map iv) = l.map iv
  | [] => rfl
  | n :: l => by simp only [List.map_cons, frzRows, iv_frz l]; rfl

theorem iv_nfz : ∀ l : List Int, nfzss (l.map iv) = true
  | [] => rfl
  | n :: l => by simp only [List.map_cons, nfzss, iv_nfz l, Bool.and_true]; rfl

theorem iv_stor {l : List Int} {a b : Nat} : ∀ c ∈ ((l.map iv).drop a).take b, ∀ u ∈ c, storP u = true := by
  intro c hc u hu
  have := List.mem_of_mem_drop (List.mem_of_mem_take hc)
  obtain ⟨n, _, rfl⟩ := List.mem_map.1 this
  simp only [iv, List.mem_singleton] at hu
  subst hu
  rfl

theorem iv_stor1 {l : List Int} : ∀ c ∈ l.map iv, ∀ u ∈ c, storP u = true := by
  intro c hc
  obtain ⟨n, _, rfl⟩ := List.mem_map.1 hc
  intro u hu
  simp only [iv, List.mem_singleton] at hu
  subst hu
  rfl

theorem iv_stor0 {l : List Int} {k : Nat} : ∀ c ∈ (l.map iv).take k, ∀ u ∈ c, storP u = true := fun c hc => iv_stor1 c (List.mem_of_mem_take hc)

/-- slices.Index[[]int,int] -/
def m231 : MC :=
  (.seq
   (.reg [⟨(some 4), none, .a (.asg (.c (.int .i64 0)))⟩])
   (.seq
    (.seq
     (.reg [⟨(some 6), none, .q (.mov (.t 0))⟩,
       ⟨(some 7), none, .q (.len false (.t 6))⟩,
       ⟨(some 8), none, .q (.mov (.c (.int .i64 0)))⟩])
     (.block 0
      (.loop [0, 1, 7, 8]
       (.seq
        (.reg [⟨(some 9), none, .q (.bin false .lss (.t 8) (.t 7))⟩])
        (.seq
         (.cond (.t 9)
          .skip
          (.exit 0))
         (.seq
          (.block 1
           (.seq
            (.reg [⟨(some 10), none, .q (.mov (.t 8))⟩,
              ⟨(some 5), none, .a (.asg (.t 10))⟩])
            (.seq
             (.reg [⟨(some 11), none, .q (.mov (.t 1))⟩,
               ⟨(some 12), none, .q (.mov (.t 0))⟩,
               ⟨(some 13), none, .q (.mov (.t 5))⟩,
               ⟨(some 14), none, .q (.iad 1 (.t 12) (.t 13))⟩,
               ⟨(some 15), none, .q (.load false 1 (.t 14))⟩,
               ⟨(some 16), none, .q (.bin false .eql (.t 11) (.t 15))⟩])
             (.cond (.t 16)
              (.seq
               (.reg [⟨(some 17), none, .q (.mov (.t 5))⟩,
                 ⟨(some 4), none, .a (.asg (.t 17))⟩])
               .ret)
              .skip))))
          (.reg [⟨(some 18), none, .q (.bin false .add (.t 8) (.c (.int .i64 1)))⟩,
            ⟨(some 8), none, .q (.mov (.t 18))⟩])))))))
    (.seq
     (.reg [⟨(some 4), none, .a (.asg (.c (.int .i64 (-1))))⟩])
     .ret)))

theorem d231 (l : List Int) (n : Int) (hl : l.length < 9223372036854775807) : Does Go.Proofs.Tryz.prog 231 [.fsl 1 (l.map iv), .v (.int .i64 n)] false (.v (.int .i64 (findI (fun x => n == x) l))) [.dead, .dead] := by
  refine does_intro (mc := m231) (N := 19) (rs := [4]) (fx := []) 2 rfl (by decide +kernel) ?_
  simp only [m231, EV, Nat.reduceEqDiff, Nat.reduceBEq, Nat.reduceLT, Nat.reduceLeDiff, Nat.reduceAdd, Nat.reduceSub, reduceIte]
  refine awp_loop (fun i : Nat => i ≤ l.length ∧ ∀ j (hj : j < l.length), j < i → (n == l[j]) = false) (fun i => stl [(0, .fsl 1 (l.map iv)), (1, .v (.int .i64 n)), (7, .v (.int .i64 (l.length : Int))), (8, .v (.int .i64 (i : Int)))]) (fun i => l.length - i) 0 ⟨Nat.zero_le _, fun j hj h => absurd h (by omega)⟩ ?_ ?_
  · simp only [EV, Nat.reduceEqDiff, Nat.reduceBEq, Nat.reduceLT, Nat.reduceLeDiff, Nat.reduceAdd, Nat.reduceSub, reduceIte]
    rfl
  · rintro i ⟨hi, hno⟩
    simp only [EV, Nat.reduceEqDiff, Nat.reduceBEq, Nat.reduceLT, Nat.reduceLeDiff, Nat.reduceAdd, Nat.reduceSub, reduceIte]
    refine cK_cut (fun h => ?_) (fun h => ?_)
    · have h1 : i < l.length := by simpa using h
      have h2 : (i : Int) < (l.length : Int) := by omega
      simp only [nth_map h1, h2, iv, EV, Nat.reduceEqDiff, Nat.reduceBEq, Nat.reduceLT, Nat.reduceLeDiff, Nat.reduceAdd, Nat.reduceSub, reduceIte]
      refine cK_cut (fun h => ?_) (fun h => ?_)
      · simp only [EV, Nat.reduceEqDiff, Nat.reduceBEq, Nat.reduceLT, Nat.reduceLeDiff, Nat.reduceAdd, Nat.reduceSub, reduceIte]
        simp only [findI_at h1 h hno, EV, Nat.reduceEqDiff, Nat.reduceBEq, Nat.reduceLT, Nat.reduceLeDiff, Nat.reduceAdd, Nat.reduceSub, reduceIte, evRE, retVC, cellV', evR, nfz, nfzs, nfzss, List.contains_nil, List.contains_cons, Bool.or_false, or_true]
      · simp only [EV, Nat.reduceEqDiff, Nat.reduceBEq, Nat.reduceLT, Nat.reduceLeDiff, Nat.reduceAdd, Nat.reduceSub, reduceIte]
        rw [w64 _ (by omega)]
        refine ⟨i + 1, ⟨by omega, ?_⟩, by omega, rfl⟩
        intro j hj hji
        by_cases e : j = i
        · subst e; exact h
        · exact hno j hj (by omega)
    · have h1 : i = l.length := by have : ¬ (i : Int) < l.length := by simpa using h
                                   omega
      subst h1
      simp only [EV, Nat.reduceEqDiff, Nat.reduceBEq, Nat.reduceLT, Nat.reduceLeDiff, Nat.reduceAdd, Nat.reduceSub, reduceIte]
      simp only [findI_no (fun j hj => hno j hj hj), EV, Nat.reduceEqDiff, Nat.reduceBEq, Nat.reduceLT, Nat.reduceLeDiff, Nat.reduceAdd, Nat.reduceSub, reduceIte, evRE, retVC, cellV', evR, nfz, nfzs, nfzss, List.contains_nil, List.contains_cons, Bool.or_false, or_true]

theorem any_contains (l : List Int) (n : Int) : (l.any fun x => n == x) = l.contains n := by rw [List.contains_eq_any_beq]

/-- slices.Contains[[]int,int] -/
def m191 : MC :=
  (.seq
   (.reg [⟨(some 4), none, .a (.asg (.c (.bool false)))⟩])
   (.seq
    (.reg [⟨(some 5), none, .q (.mov (.t 0))⟩,
      ⟨(some 6), none, .q (.mov (.t 1))⟩,
      ⟨(some 7), none, .a (.call (.fn 231) false [.lend (.t 5), .lend (.t 6)])⟩,
      ⟨(some 8), none, .q (.bin false .geq (.t 7) (.c (.int .i64 0)))⟩,
      ⟨(some 4), none, .a (.asg (.t 8))⟩])
    .ret))

theorem d191 (l : List Int) (n : Int) (hl : l.length < 9223372036854775807) : Does Go.Proofs.Tryz.prog 191 [.fsl 1 (l.map iv), .v (.int .i64 n)] false (.v (.bool (l.contains n))) [.dead, .dead] := by
  refine does_intro (mc := m191) (N := 9) (rs := [4]) (fx := []) 2 rfl (by decide +kernel) ?_
  simp only [m191, EV, Nat.reduceEqDiff, Nat.reduceBEq, Nat.reduceLT, Nat.reduceLeDiff, Nat.reduceAdd, Nat.reduceSub, reduceIte]
  refine callK_i (d231 l n hl) ?_
  simp only [EV, Nat.reduceEqDiff, Nat.reduceBEq, Nat.reduceLT, Nat.reduceLeDiff, Nat.reduceAdd, Nat.reduceSub, reduceIte]
  simp only [findI_any, any_contains, EV, Nat.reduceEqDiff, Nat.reduceBEq, Nat.reduceLT, Nat.reduceLeDiff, Nat.reduceAdd, Nat.reduceSub, reduceIte, evRE, retVC, cellV', evR, nfz, nfzs, nfzss, List.contains_nil, List.contains_cons, Bool.or_false, or_true]

/-- loop.example/g00837/spec.l1Has -/
def m196 : MC :=
  (.seq
   (.reg [⟨(some 4), none, .a (.asg (.c (.bool false)))⟩])
   (.seq
    (.seq
     (.reg [⟨(some 7), none, .q (.mov (.t 0))⟩,
       ⟨(some 8), none, .q (.len false (.t 7))⟩,
       ⟨(some 9), none, .q (.mov (.c (.int .i64 0)))⟩])
     (.block 0
      (.loop [0, 1, 7, 8, 9]
       (.seq
        (.reg [⟨(some 10), none, .q (.bin false .lss (.t 9) (.t 8))⟩])
        (.seq
         (.cond (.t 10)
          .skip
          (.exit 0))
         (.seq
          (.block 1
           (.seq
            (.reg [⟨(some 11), none, .q (.iad 1 (.t 7) (.t 9))⟩,
              ⟨(some 12), none, .q (.load false 1 (.t 11))⟩,
              ⟨(some 6), none, .a (.asg (.t 12))⟩])
            (.seq
             (.reg [⟨(some 13), none, .q (.mov (.t 6))⟩,
               ⟨(some 14), none, .q (.mov (.t 1))⟩,
               ⟨(some 15), none, .q (.bin false .eql (.t 13) (.t 14))⟩])
             (.cond (.t 15)
              (.seq
               (.reg [⟨(some 4), none, .a (.asg (.c (.bool true)))⟩])
               .ret)
              .skip))))
          (.reg [⟨(some 16), none, .q (.bin false .add (.t 9) (.c (.int .i64 1)))⟩,
            ⟨(some 9), none, .q (.mov (.t 16))⟩])))))))
    (.seq
     (.reg [⟨(some 4), none, .a (.asg (.c (.bool false)))⟩])
     .ret)))

theorem d196 (l : List Int) (n : Int) (hl : l.length < 9223372036854775807) : Does Go.Proofs.Tryz.prog 196 [.fsl 1 (l.map iv), .v (.int .i64 n)] false (.v (.bool (l.contains n))) [.dead, .dead] := by
  refine does_intro (mc := m196) (N := 17) (rs := [4]) (fx := []) 2 rfl (by decide +kernel) ?_
  simp only [m196, EV, Nat.reduceEqDiff, Nat.reduceBEq, Nat.reduceLT, Nat.reduceLeDiff, Nat.reduceAdd, Nat.reduceSub, reduceIte]
  refine awp_loop (fun i : Nat => i ≤ l.length ∧ ∀ j (hj : j < l.length), j < i → (l[j] == n) = false) (fun i => stl [(0, .fsl 1 (l.map iv)), (1, .v (.int .i64 n)), (7, .fsl 1 (l.map iv)), (8, .v (.int .i64 (l.length : Int))), (9, .v (.int .i64 (i : Int)))]) (fun i => l.length - i) 0 ⟨Nat.zero_le _, fun j hj h => absurd h (by omega)⟩ ?_ ?_
  · simp only [EV, Nat.reduceEqDiff, Nat.reduceBEq, Nat.reduceLT, Nat.reduceLeDiff, Nat.reduceAdd, Nat.reduceSub, reduceIte]
    rfl
  · rintro i ⟨hi, hno⟩
    simp only [EV, Nat.reduceEqDiff, Nat.reduceBEq, Nat.reduceLT, Nat.reduceLeDiff, Nat.reduceAdd, Nat.reduceSub, reduceIte]
    refine cK_cut (fun h => ?_) (fun h => ?_)
    · have h1 : i < l.length := by simpa using h
      have h2 : (i : Int) < (l.length : Int) := by omega
      simp only [nth_map h1, h2, iv, EV, Nat.reduceEqDiff, Nat.reduceBEq, Nat.reduceLT, Nat.reduceLeDiff, Nat.reduceAdd, Nat.reduceSub, reduceIte]
      refine cK_cut (fun h => ?_) (fun h => ?_)
      · have e : l.contains n = true := by
          rw [List.contains_iff_mem]
          have : l[i] = n := by simpa using h
          rw [← this]; exact List.getElem_mem h1
        simp only [EV, Nat.reduceEqDiff, Nat.reduceBEq, Nat.reduceLT, Nat.reduceLeDiff, Nat.reduceAdd, Nat.reduceSub, reduceIte]
        simp only [e, EV, Nat.reduceEqDiff, Nat.reduceBEq, Nat.reduceLT, Nat.reduceLeDiff, Nat.reduceAdd, Nat.reduceSub, reduceIte, evRE, retVC, cellV', evR, nfz, nfzs, nfzss, List.contains_nil, List.contains_cons, Bool.or_false, or_true]
      · simp only [EV, Nat.reduceEqDiff, Nat.reduceBEq, Nat.reduceLT, Nat.reduceLeDiff, Nat.reduceAdd, Nat.reduceSub, reduceIte]
        rw [w64 _ (by omega)]
        refine ⟨i + 1, ⟨by omega, ?_⟩, by omega, rfl⟩
        intro j hj hji
        by_cases e : j = i
        · subst e; exact h
        · exact hno j hj (by omega)
    · have h1 : i = l.length := by have : ¬ (i : Int) < l.length := by simpa using h
                                   omega
      subst h1
      have e : l.contains n = false := by
        rw [Bool.eq_false_iff]
        intro hc
        rw [List.contains_iff_mem] at hc
        obtain ⟨j, hj, hjn⟩ := List.mem_iff_getElem.1 hc
        have := hno j hj hj
        simp [hjn] at this
      simp only [EV, Nat.reduceEqDiff, Nat.reduceBEq, Nat.reduceLT, Nat.reduceLeDiff, Nat.reduceAdd, Nat.reduceSub, reduceIte]
      simp only [e, EV, Nat.reduceEqDiff, Nat.reduceBEq, Nat.reduceLT, Nat.reduceLeDiff, Nat.reduceAdd, Nat.reduceSub, reduceIte, evRE, retVC, cellV', evR, nfz, nfzs, nfzss, List.contains_nil, List.contains_cons, Bool.or_false, or_true]

/-- loop.example/g00837/spec.l1Own -/
def m162 : MC :=
  (.seq
   (.reg [⟨(some 2), none, .a (.asg (.nils 3 1))⟩])
   (.seq
    (.reg [⟨(some 3), none, .a (.bsl 3 1 [])⟩,
      ⟨(some 4), none, .q (.mov (.t 0))⟩,
      ⟨(some 5), none, .a (.app false 3 1 8 (.t 3) (.t 4))⟩,
      ⟨(some 2), none, .a (.asg (.t 5))⟩])
    .ret))

theorem d162 (l : List Int) (hl : (l.length : Int) ≤ 1048576) : Does Go.Proofs.Tryz.prog 162 [.fsl 1 (l.map iv)] false (.usl 3 1 (l.map iv)) [.dead] := by
  refine does_intro (mc := m162) (N := 6) (rs := [2]) (fx := []) 1 rfl (by decide +kernel) ?_
  simp only [m162, EV, Nat.reduceEqDiff, Nat.reduceBEq, Nat.reduceLT, Nat.reduceLeDiff, Nat.reduceAdd, Nat.reduceSub, reduceIte]
  refine ⟨.inl trivial, by omega, by omega, ?_⟩
  simp only [iv_nfz, EV, Nat.reduceEqDiff, Nat.reduceBEq, Nat.reduceLT, Nat.reduceLeDiff, Nat.reduceAdd, Nat.reduceSub, reduceIte, evRE, retVC, cellV', evR, nfz, nfzs, nfzss, List.contains_nil, List.contains_cons, Bool.or_false, or_true]

/-- slices.Clone[[]int,int] -/
def m232 : MC :=
  (.seq
   (.reg [⟨(some 2), none, .a (.asg (.nils 3 1))⟩])
   (.seq
    (.seq
     (.reg [⟨(some 3), none, .q (.mov (.t 0))⟩,
       ⟨(some 4), none, .q (.isnil false (.t 3))⟩])
     (.cond (.t 4)
      (.seq
       (.reg [⟨(some 2), none, .a (.asg (.nils 3 1))⟩])
       .ret)
      .skip))
    (.seq
     (.reg [⟨(some 5), none, .a (.bsl 3 1 [])⟩,
       ⟨(some 6), none, .q (.mov (.t 0))⟩,
       ⟨(some 7), none, .a (.app false 3 1 8 (.t 5) (.t 6))⟩,
       ⟨(some 2), none, .a (.asg (.t 7))⟩])
     .ret)))

theorem d232 (l : List Int) (hl : (l.length : Int) ≤ 1048576) : Does Go.Proofs.Tryz.prog 232 [.fsl 1 (l.map iv)] false (.usl 3 1 (l.map iv)) [.dead] := by
  refine does_intro (mc := m232) (N := 8) (rs := [2]) (fx := []) 1 rfl (by decide +kernel) ?_
  simp only [m232, EV, Nat.reduceEqDiff, Nat.reduceBEq, Nat.reduceLT, Nat.reduceLeDiff, Nat.reduceAdd, Nat.reduceSub, reduceIte]
  refine ⟨fun h b => ?_, fun h => ⟨.inl trivial, by omega, by omega, ?_⟩⟩
  · have h0 : l = [] := by simpa using h
    subst h0
    cases b
    · simp only [List.map_nil, EV, Nat.reduceEqDiff, Nat.reduceBEq, Nat.reduceLT, Nat.reduceLeDiff, Nat.reduceAdd, Nat.reduceSub, reduceIte]
      refine ⟨.inl trivial, by omega, ?_⟩
      simp only [EV, Nat.reduceEqDiff, Nat.reduceBEq, Nat.reduceLT, Nat.reduceLeDiff, Nat.reduceAdd, Nat.reduceSub, reduceIte, evRE, retVC, cellV', evR, nfz, nfzs, nfzss, List.contains_nil, List.contains_cons, Bool.or_false, or_true]
    · simp only [List.map_nil, EV, Nat.reduceEqDiff, Nat.reduceBEq, Nat.reduceLT, Nat.reduceLeDiff, Nat.reduceAdd, Nat.reduceSub, reduceIte]
      simp only [EV, Nat.reduceEqDiff, Nat.reduceBEq, Nat.reduceLT, Nat.reduceLeDiff, Nat.reduceAdd, Nat.reduceSub, reduceIte, evRE, retVC, cellV', evR, nfz, nfzs, nfzss, List.contains_nil, List.contains_cons, Bool.or_false, or_true]
  · simp only [iv_nfz, EV, Nat.reduceEqDiff, Nat.reduceBEq, Nat.reduceLT, Nat.reduceLeDiff, Nat.reduceAdd, Nat.reduceSub, reduceIte, evRE, retVC, cellV', evR, nfz, nfzs, nfzss, List.contains_nil, List.contains_cons, Bool.or_false, or_true]

def cut (l : List Int) (n : Int) : Nat := (l.takeWhile fun x => decide (x < n)).length

theorem cut_at {n : Int} : ∀ {l : List Int} {k : Nat}, k ≤ l.length → (∀ j (h : j < l.length), j < k → l[j] < n) → (∀ h : k < l.length, ¬ l[k] < n) → cut l n = k
  | [], k, h0, _, _ => by simp at h0; simp [cut, h0]
  | x :: l, 0, h0, h1, h2 => by
    have : ¬ x < n := h2 (by simp)
    simp [cut, List.takeWhile_cons, this]
  | x :: l, k + 1, h0, h1, h2 => by
    have hx : x < n := h1 0 (by simp) (by omega)
    have ih := cut_at (n := n) (l := l) (k := k) (by simpa using h0) (fun j hj hjk => by have := h1 (j + 1) (by simpa using hj) (by omega); simpa using this) (fun h => by have := h2 (by simpa using h); simpa using this)
    unfold cut at ih ⊢
    rw [List.takeWhile_cons, if_pos (by simpa using hx), List.length_cons, ih]

def putUp (l : List Int) (n : Int) : List Int := if l[cut l n]? = some n then l else (l.take (cut l n) ++ [n]) ++ l.drop (cut l n)

theorem cut_spec (l : List Int) (n : Int) : cut l n ≤ l.length ∧ (∀ x ∈ l.take (cut l n), x < n) ∧ (∀ h : cut l n < l.length, ¬ l[cut l n] < n) := by
  induction l with
  | nil => simp [cut]
  | cons x l ih =>
    unfold cut at ih ⊢
    rw [List.takeWhile_cons]
    by_cases hx : x < n
    · rw [if_pos (by simpa using hx)]
      simp only [List.length_cons, List.take_succ_cons, List.mem_cons, List.getElem_cons_succ]
      refine ⟨by omega, ?_, fun h => ih.2.2 (by omega)⟩
      rintro y (rfl | hy)
      · exact hx
      · exact ih.2.1 y hy
    · rw [if_neg (by simpa using hx)]
      simp [hx]

/-- A number is put to its place, once. -/
theorem putUp_spec {l : List Int} {n : Int} (h : l.Pairwise (· < ·)) : (putUp l n).Pairwise (· < ·) ∧ (∀ x, x ∈ putUp l n ↔ x = n ∨ x ∈ l) ∧ (n ∉ l → (putUp l n).length = l.length + 1) := by
  obtain ⟨c1, c2, c3⟩ := cut_spec l n
  unfold putUp
  split
  · rename_i hc
    have hm : n ∈ l := List.mem_of_getElem? hc
    exact ⟨h, fun x => ⟨.inr, fun h => h.elim (fun e => e ▸ hm) id⟩, fun hn => absurd hm hn⟩
  · rename_i hc
    have hd : ∀ x ∈ l.drop (cut l n), n < x := by
      intro x hx
      rcases Nat.lt_or_ge (cut l n) l.length with hlt | hge
      · have h0 := c3 hlt
        have e : l[cut l n] ≠ n := by intro e; exact hc (by rw [List.getElem?_eq_getElem hlt, e])
        have hp : (l.drop (cut l n)).Pairwise (· < ·) := h.sublist (List.drop_sublist _ _)
        rw [List.drop_eq_getElem_cons hlt] at hx hp
        rcases List.mem_cons.1 hx with rfl | hx
        · omega
        · have := (List.pairwise_cons.1 hp).1 x hx; omega
      · rw [List.drop_eq_nil_of_le hge] at hx; simp at hx
    have hmem : ∀ x, x ∈ l ↔ x ∈ l.take (cut l n) ∨ x ∈ l.drop (cut l n) := by
      intro x
      rw [← List.mem_append, List.take_append_drop]
    refine ⟨?_, ?_, ?_⟩
    · rw [List.append_assoc, List.pairwise_append]
      refine ⟨h.sublist (List.take_sublist _ _), ?_, ?_⟩
      · rw [List.singleton_append, List.pairwise_cons]
        exact ⟨hd, h.sublist (List.drop_sublist _ _)⟩
      · intro a ha b hb
        have h1 := c2 a ha
        rw [List.singleton_append, List.mem_cons] at hb
        rcases hb with rfl | hb
        · exact h1
        · have := hd b hb; omega
    · intro x
      rw [hmem x]
      simp only [List.mem_append, List.mem_singleton]
      constructor
      · rintro ((h | h) | h)
        · exact .inr (.inl h)
        · exact .inl h
        · exact .inr (.inr h)
      · rintro (h | h | h)
        · exact .inl (.inr h)
        · exact .inl (.inl h)
        · exact .inr h
    · intro _
      simp only [List.length_append, List.length_take, List.length_drop, List.length_singleton]
      omega

/-- loop.example/g00837/spec.l1Put -/
def m234 : MC :=
  (.seq
   (.reg [⟨(some 4), none, .a (.asg (.nils 3 1))⟩])
   (.seq
    (.reg [⟨(some 5), none, .a (.asg (.c (.int .i64 0)))⟩])
    (.seq
     (.block 0
      (.loop [0, 1, 5]
       (.seq
        (.seq
         (.reg [⟨(some 7), none, .q (.mov (.t 5))⟩,
           ⟨(some 8), none, .q (.mov (.t 0))⟩,
           ⟨(some 9), none, .q (.len false (.t 8))⟩,
           ⟨(some 10), none, .q (.bin false .lss (.t 7) (.t 9))⟩,
           ⟨(some 11), none, .q (.mov (.t 10))⟩,
           ⟨(some 12), (some (11, true)), .q (.mov (.t 0))⟩,
           ⟨(some 13), (some (11, true)), .q (.mov (.t 5))⟩,
           ⟨(some 14), (some (11, true)), .q (.iad 1 (.t 12) (.t 13))⟩,
           ⟨(some 15), (some (11, true)), .q (.load false 1 (.t 14))⟩,
           ⟨(some 16), (some (11, true)), .q (.mov (.t 1))⟩,
           ⟨(some 17), (some (11, true)), .q (.bin false .lss (.t 15) (.t 16))⟩,
           ⟨(some 18), none, .q (.pick (.t 11) (.t 17) (.c (.bool false)))⟩])
         (.cond (.t 18)
          .skip
          (.exit 0)))
        (.block 1
         (.reg [⟨(some 19), none, .q (.mov (.t 5))⟩,
           ⟨(some 20), none, .q (.bin false .add (.t 19) (.c (.int .i64 1)))⟩,
           ⟨(some 5), none, .a (.asg (.t 20))⟩])))))
     (.seq
      (.seq
       (.reg [⟨(some 21), none, .q (.mov (.t 5))⟩,
         ⟨(some 22), none, .q (.mov (.t 0))⟩,
         ⟨(some 23), none, .q (.len false (.t 22))⟩,
         ⟨(some 24), none, .q (.bin false .lss (.t 21) (.t 23))⟩,
         ⟨(some 25), none, .q (.mov (.t 24))⟩,
         ⟨(some 26), (some (25, true)), .q (.mov (.t 0))⟩,
         ⟨(some 27), (some (25, true)), .q (.mov (.t 5))⟩,
         ⟨(some 28), (some (25, true)), .q (.iad 1 (.t 26) (.t 27))⟩,
         ⟨(some 29), (some (25, true)), .q (.load false 1 (.t 28))⟩,
         ⟨(some 30), (some (25, true)), .q (.mov (.t 1))⟩,
         ⟨(some 31), (some (25, true)), .q (.bin false .eql (.t 29) (.t 30))⟩,
         ⟨(some 32), none, .q (.pick (.t 25) (.t 31) (.c (.bool false)))⟩])
       (.cond (.t 32)
        (.seq
         (.reg [⟨(some 33), none, .q (.mov (.t 0))⟩,
           ⟨(some 4), none, .a (.asg (.t 33))⟩])
         .ret)
        .skip))
      (.seq
       (.reg [⟨(some 34), none, .a (.bsl 3 1 [])⟩,
         ⟨(some 35), none, .q (.mov (.t 0))⟩,
         ⟨(some 36), none, .q (.mov (.t 5))⟩,
         ⟨(some 37), none, .q (.slc false 1 (.t 35) none (some (.t 36)))⟩,
         ⟨(some 38), none, .a (.app false 3 1 8 (.t 34) (.t 37))⟩,
         ⟨(some 6), none, .a (.asg (.t 38))⟩])
       (.seq
        (.reg [⟨(some 39), none, .q (.mov (.t 6))⟩,
          ⟨(some 40), none, .q (.mov (.t 1))⟩,
          ⟨(some 41), none, .a (.bsl 3 1 [.t 40])⟩,
          ⟨(some 42), none, .a (.app true 3 1 8 (.t 39) (.t 41))⟩,
          ⟨(some 6), none, .a (.asg (.t 42))⟩])
        (.seq
         (.reg [⟨(some 43), none, .q (.mov (.t 6))⟩,
           ⟨(some 44), none, .q (.mov (.t 0))⟩,
           ⟨(some 45), none, .q (.mov (.t 5))⟩,
           ⟨(some 46), none, .q (.slc false 1 (.t 44) (some (.t 45)) none)⟩,
           ⟨(some 47), none, .a (.app false 3 1 8 (.t 43) (.t 46))⟩,
           ⟨(some 4), none, .a (.asg (.t 47))⟩])
         .ret)))))))

set_option maxRecDepth 100000 in
theorem d234 (l : List Int) (n : Int) (hl : (l.length : Int) ≤ 1048576) : Does Go.Proofs.Tryz.prog 234 [.usl 3 1 (l.map iv), .v (.int .i64 n)] false (.usl 3 1 ((putUp l n).map iv)) [.dead, .dead] := by
  refine does_intro (mc := m234) (N := 48) (rs := [4]) (fx := []) 2 rfl (by decide +kernel) ?_
  simp only [m234, EV, Nat.reduceEqDiff, Nat.reduceBEq, Nat.reduceLT, Nat.reduceLeDiff, Nat.reduceAdd, Nat.reduceSub, reduceIte]
  refine awp_loop (fun k : Nat => k ≤ l.length ∧ ∀ j (h : j < l.length), j < k → l[j] < n) (fun k => stl [(0, .usl 3 1 (l.map iv)), (1, .v (.int .i64 n)), (5, .v (.int .i64 (k : Int)))]) (fun k => l.length - k) 0 ⟨Nat.zero_le _, fun j hj h => absurd h (by omega)⟩ ?_ ?_
  · simp only [EV, Nat.reduceEqDiff, Nat.reduceBEq, Nat.reduceLT, Nat.reduceLeDiff, Nat.reduceAdd, Nat.reduceSub, reduceIte]
    rfl
  · rintro k ⟨hk, hlt⟩
    simp only [EV, Nat.reduceEqDiff, Nat.reduceBEq, Nat.reduceLT, Nat.reduceLeDiff, Nat.reduceAdd, Nat.reduceSub, reduceIte]
    refine gK_cut (fun h => ?_) (fun h => ?_)
    · have h1 : k < l.length := by simpa using h
      have h2 : (k : Int) < (l.length : Int) := by omega
      simp only [decide_true, nth_map h1, h1, h2, iv, EV, Nat.reduceEqDiff, Nat.reduceBEq, Nat.reduceLT, Nat.reduceLeDiff, Nat.reduceAdd, Nat.reduceSub, reduceIte]
      refine cK_cut (fun h3 => ?_) (fun h3 => ?_)
      · have h4 : l[k] < n := by simpa using h3
        simp only [EV, Nat.reduceEqDiff, Nat.reduceBEq, Nat.reduceLT, Nat.reduceLeDiff, Nat.reduceAdd, Nat.reduceSub, reduceIte]
        rw [w64 _ (by omega)]
        refine ⟨k + 1, ⟨h1, ?_⟩, by omega, rfl⟩
        intro j hj hjk
        by_cases e : j = k
        · subst e; exact h4
        · exact hlt j hj (by omega)
      · have h4 : ¬ l[k] < n := by simpa using h3
        have hc : cut l n = k := cut_at hk hlt fun _ => h4
        have h1' : decide ((k : Int) < (l.length : Int)) = true := by simpa using h2
        simp only [decide_true, nth_map h1, h1, h2, iv, EV, Nat.reduceEqDiff, Nat.reduceBEq, Nat.reduceLT, Nat.reduceLeDiff, Nat.reduceAdd, Nat.reduceSub, reduceIte]
        refine cK_cut (fun h5 => ?_) (fun h5 => ?_)
        · have e : putUp l n = l := by
            unfold putUp
            rw [hc, List.getElem?_eq_getElem h1, if_pos (by simpa using h5)]
          simp only [EV, Nat.reduceEqDiff, Nat.reduceBEq, Nat.reduceLT, Nat.reduceLeDiff, Nat.reduceAdd, Nat.reduceSub, reduceIte]
          simp only [e, iv_nfz, EV, Nat.reduceEqDiff, Nat.reduceBEq, Nat.reduceLT, Nat.reduceLeDiff, Nat.reduceAdd, Nat.reduceSub, reduceIte, evRE, retVC, cellV', evR, nfz, nfzs, nfzss, List.contains_nil, List.contains_cons, Bool.or_false, or_true]
        · have e : putUp l n = (l.take k ++ [n]) ++ l.drop k := by
            unfold putUp
            rw [hc, List.getElem?_eq_getElem h1, if_neg (by simpa using h5)]
          have el : List.map iv (putUp l n) = (l.map iv).take k ++ [[AV.v (.int .i64 n)]] ++ ((l.map iv).drop k).take (l.length - k) := by
            have ed : List.take (l.length - k) (List.drop k (l.map iv)) = List.drop k (l.map iv) := List.take_of_length_le (by simp)
            rw [e, List.map_append, List.map_append, List.map_take, List.map_drop, ed]
            rfl
          simp only [EV, Nat.reduceEqDiff, Nat.reduceBEq, Nat.reduceLT, Nat.reduceLeDiff, Nat.reduceAdd, Nat.reduceSub, reduceIte]
          refine ⟨by omega, by omega, iv_stor0, by omega, by omega, by simp; omega, by simp; omega, by omega, by omega, iv_stor, by simp; omega, by simp; omega, ?_⟩
          rw [← el]
          simp only [iv_nfz, EV, Nat.reduceEqDiff, Nat.reduceBEq, Nat.reduceLT, Nat.reduceLeDiff, Nat.reduceAdd, Nat.reduceSub, reduceIte, evRE, retVC, cellV', evR, nfz, nfzs, nfzss, List.contains_nil, List.contains_cons, Bool.or_false, or_true]
    · have h1 : k = l.length := by have : ¬ (k : Int) < l.length := by simpa using h
                                   omega
      subst h1
      have hc : cut l n = l.length := cut_at hk hlt fun h => absurd h (by omega)
      have e : putUp l n = (l.take l.length ++ [n]) ++ l.drop l.length := by
        unfold putUp
        rw [hc, List.getElem?_eq_none (by omega), if_neg (by simp)]
      have el : List.map iv (putUp l n) = l.map iv ++ [[AV.v (.int .i64 n)]] ++ ((l.map iv).drop l.length).take (l.length - l.length) := by
        rw [e, List.map_append, List.map_append, List.take_length, List.map_drop, Nat.sub_self, List.take_zero, List.drop_eq_nil_of_le (by simp)]
        rfl
      simp only [h, EV, Nat.reduceEqDiff, Nat.reduceBEq, Nat.reduceLT, Nat.reduceLeDiff, Nat.reduceAdd, Nat.reduceSub, reduceIte]
      refine ⟨by omega, by omega, iv_stor1, by omega, by omega, by omega, by omega, by omega, by omega, iv_stor, by simp; omega, by simp; omega, ?_⟩
      rw [← el]
      simp only [iv_nfz, EV, Nat.reduceEqDiff, Nat.reduceBEq, Nat.reduceLT, Nat.reduceLeDiff, Nat.reduceAdd, Nat.reduceSub, reduceIte, evRE, retVC, cellV', evR, nfz, nfzs, nfzss, List.contains_nil, List.contains_cons, Bool.or_false, or_true]

end Go.AM
namespace Go.AM
set_option linter.unusedVariables false
set_option linter.unusedSimpArgs false
noncomputable def tyAt (l m : List Ty) (i : Nat) (h : i < m.length) : Bool :=
  !(!nil' m[i].name && (m.take i).any (tyNm m[i])) && tyOk l m[i]

def tyTo (l m : List Ty) (n : Nat) : Prop := ∀ i (h : i < m.length), i < n → tyAt l m i h = true

open Classical in
noncomputable def tysOk (l : List Ty) : Bool := (decide (3 ≤ (l.length : Int)) && decide ((l.length : Int) ≤ 24)) && (eqL sameTy (l.take 3) baseTs && decide (tyTo l (l.drop 3) (l.drop 3).length))

theorem tyTo_succ {l m : List Ty} {i : Nat} (h : i < m.length) (h1 : tyTo l m i) (h2 : tyAt l m i h = true) : tyTo l m (i + 1) := by
  intro j hj hji
  by_cases e : j = i
  · subst e; exact h2
  · exact h1 j hj (by omega)

theorem tysOk_no {l : List Ty} {i : Nat} (h : i < (l.drop 3).length) (h2 : tyAt l (l.drop 3) i h = false) : tysOk l = false := by
  have : ¬ tyTo l (l.drop 3) (l.drop 3).length := by
    intro h1
    have := h1 i h h
    rw [h2] at this; cases this
  simp only [tysOk, this, decide_false, Bool.and_false]

theorem tysOk_yes {l : List Ty} (h1 : (decide (3 ≤ (l.length : Int)) && decide ((l.length : Int) ≤ 24)) = true) (h2 : eqL sameTy (l.take 3) baseTs = true) (h : tyTo l (l.drop 3) (l.drop 3).length) : tysOk l = true := by
  simp only [tysOk, h1, h2, h, decide_true, Bool.and_self]

theorem base_len : baseTs.length = 3 := rfl

theorem base_sm : ∀ b ∈ baseTs, b.sm := by
  intro b hb
  have hz : ∀ x : ByteArray, x = ⟨#[]⟩ ∨ x = ⟨#[73, 78, 84]⟩ ∨ x = ⟨#[66, 79, 79, 76]⟩ ∨ x = ⟨#[67, 72, 65, 82]⟩ → (x.size : Int) ≤ 1048576 := by
    rintro x (rfl | rfl | rfl | rfl) <;> decide
  simp only [baseTs, List.mem_cons, List.not_mem_nil, or_false] at hb
  rcases hb with rfl | rfl | rfl <;> exact ⟨trivial, trivial, trivial, ⟨by simp, by simp⟩, hz _ (by simp), hz _ (by simp)⟩

/-- loop.example/g00837/impl.areTypes -/
def m125 : MC :=
  (.seq
   (.reg [⟨(some 2), none, .a (.asg (.c (.bool false)))⟩])
   (.seq
    (.reg [⟨(some 7), none, .a (.call (.fn 184) false [])⟩,
      ⟨(some 3), none, .a (.asg (.t 7))⟩])
    (.seq
     (.seq
      (.reg [⟨(some 8), none, .q (.mov (.t 0))⟩,
        ⟨(some 9), none, .q (.len false (.t 8))⟩,
        ⟨(some 10), none, .q (.mov (.t 3))⟩,
        ⟨(some 11), none, .q (.len false (.t 10))⟩,
        ⟨(some 12), none, .a (.call (.fn 78) false [.lend (.t 9), .lend (.t 11), .lend (.c (.int .i64 24))])⟩,
        ⟨(some 13), none, .q (.un .not (.t 12))⟩,
        ⟨(some 14), none, .q (.mov (.t 13))⟩,
        ⟨(some 15), (some (14, false)), .q (.mov (.t 0))⟩,
        ⟨(some 16), (some (14, false)), .q (.mov (.t 3))⟩,
        ⟨(some 17), (some (14, false)), .q (.len false (.t 16))⟩,
        ⟨(some 18), (some (14, false)), .q (.slc false 6 (.t 15) none (some (.t 17)))⟩,
        ⟨(some 19), (some (14, false)), .q (.mov (.t 3))⟩,
        ⟨(some 20), (some (14, false)), .a (.call (.fn 185) false [.lend (.t 18), .lend (.t 19), .lend (.fn 186)])⟩,
        ⟨(some 21), (some (14, false)), .q (.un .not (.t 20))⟩,
        ⟨(some 22), none, .q (.pick (.t 14) (.c (.bool true)) (.t 21))⟩])
      (.cond (.t 22)
       (.seq
        (.reg [⟨(some 2), none, .a (.asg (.c (.bool false)))⟩])
        .ret)
       .skip))
     (.seq
      (.seq
       (.reg [⟨(some 23), none, .q (.mov (.t 0))⟩,
         ⟨(some 24), none, .q (.mov (.t 3))⟩,
         ⟨(some 25), none, .q (.len false (.t 24))⟩,
         ⟨(some 26), none, .q (.slc false 6 (.t 23) (some (.t 25)) none)⟩,
         ⟨(some 27), none, .q (.len false (.t 26))⟩,
         ⟨(some 28), none, .q (.mov (.c (.int .i64 0)))⟩])
       (.block 0
        (.loop [0, 3, 7, 23, 25, 26, 27, 28]
         (.seq
          (.reg [⟨(some 29), none, .q (.bin false .lss (.t 28) (.t 27))⟩])
          (.seq
           (.cond (.t 29)
            .skip
            (.exit 0))
           (.seq
            (.block 1
             (.seq
              (.reg [⟨(some 30), none, .q (.mov (.t 28))⟩,
                ⟨(some 31), none, .q (.iad 6 (.t 26) (.t 28))⟩,
                ⟨(some 32), none, .q (.load true 6 (.t 31))⟩,
                ⟨(some 5), none, .a (.alloc 40 [.v (.int .i64 0), .v (.int .i64 0), .v (.int .i64 0), .s 97 3, .v (.string ({ data := #[] })), .v (.string ({ data := #[] }))])⟩,
                ⟨(some 4), none, .a (.asg (.t 30))⟩,
                ⟨none, none, .a (.store 6 (.t 5) (.t 32))⟩])
              (.seq
               (.reg [⟨(some 33), none, .q (.fad 5 (.t 5))⟩,
                 ⟨(some 34), none, .q (.load false 1 (.t 33))⟩,
                 ⟨(some 35), none, .q (.bin false .neq (.t 34) (.c (.string ({ data := #[] }))))⟩,
                 ⟨(some 36), none, .q (.mov (.t 35))⟩,
                 ⟨(some 37), (some (36, true)), .q (.mov (.t 0))⟩,
                 ⟨(some 38), (some (36, true)), .q (.mov (.t 3))⟩,
                 ⟨(some 39), (some (36, true)), .q (.len false (.t 38))⟩,
                 ⟨(some 40), (some (36, true)), .q (.mov (.t 3))⟩,
                 ⟨(some 41), (some (36, true)), .q (.len false (.t 40))⟩,
                 ⟨(some 42), (some (36, true)), .q (.mov (.t 4))⟩,
                 ⟨(some 43), (some (36, true)), .q (.bin false .add (.t 41) (.t 42))⟩,
                 ⟨(some 44), (some (36, true)), .q (.slc false 6 (.t 37) (some (.t 39)) (some (.t 43)))⟩,
                 ⟨(some 45), (some (36, true)), .q (.mkf 188 [.t 5])⟩,
                 ⟨(some 46), (some (36, true)), .a (.call (.fn 187) false [.lend (.t 44), .lend (.t 45)])⟩,
                 ⟨(some 47), none, .q (.pick (.t 36) (.t 46) (.c (.bool false)))⟩,
                 ⟨(some 6), none, .a (.asg (.t 47))⟩])
               (.seq
                (.reg [⟨(some 48), none, .q (.mov (.t 6))⟩,
                  ⟨(some 49), none, .q (.mov (.t 48))⟩,
                  ⟨(some 50), (some (49, false)), .q (.mov (.t 0))⟩,
                  ⟨(some 51), (some (49, false)), .q (.load true 6 (.t 5))⟩,
                  ⟨(some 52), (some (49, false)), .a (.call (.fn 189) false [.lend (.t 50), .lend (.t 51)])⟩,
                  ⟨(some 53), (some (49, false)), .q (.un .not (.t 52))⟩,
                  ⟨(some 54), none, .q (.pick (.t 49) (.c (.bool true)) (.t 53))⟩])
                (.cond (.t 54)
                 (.seq
                  (.reg [⟨(some 2), none, .a (.asg (.c (.bool false)))⟩])
                  .ret)
                 .skip)))))
            (.reg [⟨(some 55), none, .q (.bin false .add (.t 28) (.c (.int .i64 1)))⟩,
              ⟨(some 28), none, .q (.mov (.t 55))⟩])))))))
      (.seq
       (.reg [⟨(some 2), none, .a (.asg (.c (.bool true)))⟩])
       .ret)))))

set_option maxHeartbeats 1000000 in
set_option maxRecDepth 100000 in
theorem d125 (l : List Ty) (hl : (l.length : Int) ≤ 1048576) (hs : ∀ s ∈ l, s.sm) : Does Go.Proofs.Tryz.prog 125 [.fsl 6 (l.map Ty.z)] false (.v (.bool (tysOk l))) [.dead] := by
  refine does_intro (mc := m125) (N := 56) (rs := [2]) (fx := []) 1 rfl (by decide +kernel) ?_
  simp only [m125, EV, Nat.reduceEqDiff, Nat.reduceBEq, Nat.reduceLT, Nat.reduceLeDiff, Nat.reduceAdd, Nat.reduceSub, reduceIte]
  refine callK_i d184 ?_
  have h3 : ((3 : Nat) : Int) = 3 := rfl
  simp only [base_len, h3, EV, Nat.reduceEqDiff, Nat.reduceBEq, Nat.reduceLT, Nat.reduceLeDiff, Nat.reduceAdd, Nat.reduceSub, reduceIte]
  refine callK_i (d78 _ _ _) ?_
  simp only [base_len, h3, EV, Nat.reduceEqDiff, Nat.reduceBEq, Nat.reduceLT, Nat.reduceLeDiff, Nat.reduceAdd, Nat.reduceSub, reduceIte]
  rcases e1 : (decide (3 ≤ (l.length : Int)) && decide ((l.length : Int) ≤ 24)) with _ | _
  · have e : tysOk l = false := by simp only [tysOk, e1, Bool.false_and]
    simp only [EV, Nat.reduceEqDiff, Nat.reduceBEq, Nat.reduceLT, Nat.reduceLeDiff, Nat.reduceAdd, Nat.reduceSub, reduceIte]
    simp only [e, Ty.nfz, EV, Nat.reduceEqDiff, Nat.reduceBEq, Nat.reduceLT, Nat.reduceLeDiff, Nat.reduceAdd, Nat.reduceSub, reduceIte, evRE, retVC, cellV', evR, nfz, nfzs, nfzss, List.contains_nil, List.contains_cons, Bool.or_false, or_true]
  have hl3 : 3 ≤ (l.length : Int) ∧ (l.length : Int) ≤ 24 := by simpa using e1
  have ht3 : (l.take 3).length = 3 := by simp; omega
  have hd3 : (l.drop 3).length = l.length - 3 := by simp
  simp only [base_len, h3, Ty.frz, EV, Nat.reduceEqDiff, Nat.reduceBEq, Nat.reduceLT, Nat.reduceLeDiff, Nat.reduceAdd, Nat.reduceSub, reduceIte]
  refine ⟨by omega, by omega, hl3.1, ?_⟩
  have t3 : (3 : Int).toNat = 3 := rfl
  simp only [← List.map_take, t3]
  refine callK_i (d185 (l.take 3) baseTs (by omega) (by rw [base_len]; omega) 186 sameTy (fun a ha b hb => d186 a b (hs a (List.mem_of_mem_take ha)) (base_sm b hb))) ?_
  simp only [base_len, h3, EV, Nat.reduceEqDiff, Nat.reduceBEq, Nat.reduceLT, Nat.reduceLeDiff, Nat.reduceAdd, Nat.reduceSub, reduceIte]
  rcases e2 : eqL sameTy (l.take 3) baseTs with _ | _
  · have e : tysOk l = false := by simp only [tysOk, e1, e2, Bool.false_and, Bool.and_false]
    simp only [EV, Nat.reduceEqDiff, Nat.reduceBEq, Nat.reduceLT, Nat.reduceLeDiff, Nat.reduceAdd, Nat.reduceSub, reduceIte]
    simp only [e, Ty.nfz, EV, Nat.reduceEqDiff, Nat.reduceBEq, Nat.reduceLT, Nat.reduceLeDiff, Nat.reduceAdd, Nat.reduceSub, reduceIte, evRE, retVC, cellV', evR, nfz, nfzs, nfzss, List.contains_nil, List.contains_cons, Bool.or_false, or_true]
  simp only [base_len, h3, EV, Nat.reduceEqDiff, Nat.reduceBEq, Nat.reduceLT, Nat.reduceLeDiff, Nat.reduceAdd, Nat.reduceSub, reduceIte]
  refine ⟨by omega, hl3.1, by omega, ?_⟩
  simp only [← List.map_drop, ← List.map_take, t3]
  have hm : ∃ m, m = l.drop 3 := ⟨_, rfl⟩
  obtain ⟨m, hm⟩ := hm
  have hml : (m.length : Int) = (l.length : Int) - 3 := by rw [hm]; simp; omega
  have hsub : ∀ x ∈ m, x ∈ l := by rw [hm]; exact fun x hx => List.mem_of_mem_drop hx
  have p9 : ∀ i (h : i < m.length), tyAt l m i h = false → tysOk l = false := by
    subst hm; exact fun i h e => tysOk_no h e
  refine awp_loop (fun i : Nat => i ≤ m.length ∧ tyTo l m i) (fun i => stl [(0, .fsl 6 (l.map Ty.z)), (3, .usl 40 6 (baseTs.map Ty.o)), (7, .dead), (23, .fsl 6 (l.map Ty.z)), (25, .v (.int .i64 3)), (26, .fsl 6 (m.map Ty.z)), (27, .v (.int .i64 (m.length : Int))), (28, .v (.int .i64 (i : Int)))]) (fun i => m.length - i) 0 ⟨Nat.zero_le _, fun j hj h => absurd h (by omega)⟩ ?_ ?_
  · have htk : List.take (l.length - 3) m = m := List.take_of_length_le (by omega)
    simp only [← hm, htk, EV, Nat.reduceEqDiff, Nat.reduceBEq, Nat.reduceLT, Nat.reduceLeDiff, Nat.reduceAdd, Nat.reduceSub, reduceIte]
    rfl
  · rintro i ⟨hi, hok⟩
    simp only [EV, Nat.reduceEqDiff, Nat.reduceBEq, Nat.reduceLT, Nat.reduceLeDiff, Nat.reduceAdd, Nat.reduceSub, reduceIte]
    refine cK_cut (fun h => ?_) (fun h => ?_)
    · have h1 : i < m.length := by simpa using h
      have h2 : (i : Int) < (m.length : Int) := by omega
      have hso : m[i].sm := hs m[i] (hsub _ (List.getElem_mem h1))
      clear h
      simp only [TyE, nth_map h1, h2, base_len, h3, Ty.z, EV, Nat.reduceEqDiff, Nat.reduceBEq, Nat.reduceLT, Nat.reduceLeDiff, Nat.reduceAdd, Nat.reduceSub, reduceIte]
      have hw : IntKind.i64.wrap (3 + (i : Int)) = ((3 + i : Nat) : Int) := by rw [w64 _ (by omega)]; omega
      have hdt : List.take (3 + i - 3) (List.drop 3 (l.map Ty.z)) = (m.take i).map Ty.z := by
        rw [hm, Nat.add_sub_cancel_left, ← List.map_drop, ← List.map_take]
      have en : (m[i].name.toList == (⟨#[]⟩ : ByteArray).toList) = nil' m[i].name := rfl
      have hcl : Ty.z m[i] = [.v (.int .i64 m[i].kind), .v (.int .i64 m[i].long), .v (.int .i64 m[i].base), .fsl 3 (m[i].fields.map Fd.z), .v (.string m[i].owner), .v (.string m[i].name)] := rfl
      have d7 := d189 l m[i] hl hso
      have dc := d187 (m.take i) (by simp; omega) 188 [.fptr m[i].z] (tyNm m[i]) rfl rfl (fun _ => rfl) (fun _ => rfl) (fun s _ => d188 s m[i])
      rw [hcl] at d7 dc
      rw [en]
      rcases e3 : nil' m[i].name with _ | _
      · simp only [Bool.not_false, base_len, h3, hw, t3, EV, Nat.reduceEqDiff, Nat.reduceBEq, Nat.reduceLT, Nat.reduceLeDiff, Nat.reduceAdd, Nat.reduceSub, reduceIte]
        refine ⟨by omega, by omega, by omega, ?_⟩
        rw [hdt]
        refine callK_i dc ?_
        simp only [EV, Nat.reduceEqDiff, Nat.reduceBEq, Nat.reduceLT, Nat.reduceLeDiff, Nat.reduceAdd, Nat.reduceSub, reduceIte]
        rcases e4 : (m.take i).any (tyNm m[i]) with _ | _
        · simp only [EV, Nat.reduceEqDiff, Nat.reduceBEq, Nat.reduceLT, Nat.reduceLeDiff, Nat.reduceAdd, Nat.reduceSub, reduceIte]
          refine callK_i d7 ?_
          simp only [EV, Nat.reduceEqDiff, Nat.reduceBEq, Nat.reduceLT, Nat.reduceLeDiff, Nat.reduceAdd, Nat.reduceSub, reduceIte]
          rcases e5 : tyOk l m[i] with _ | _
          · have e : tysOk l = false := p9 i h1 (by simp only [tyAt, e5, Bool.and_false])
            simp only [EV, Nat.reduceEqDiff, Nat.reduceBEq, Nat.reduceLT, Nat.reduceLeDiff, Nat.reduceAdd, Nat.reduceSub, reduceIte]
            simp only [e, Ty.nfz, EV, Nat.reduceEqDiff, Nat.reduceBEq, Nat.reduceLT, Nat.reduceLeDiff, Nat.reduceAdd, Nat.reduceSub, reduceIte, evRE, retVC, cellV', evR, nfz, nfzs, nfzss, List.contains_nil, List.contains_cons, Bool.or_false, or_true]
          · simp only [EV, Nat.reduceEqDiff, Nat.reduceBEq, Nat.reduceLT, Nat.reduceLeDiff, Nat.reduceAdd, Nat.reduceSub, reduceIte]
            rw [w64 _ (by omega)]
            exact ⟨i + 1, ⟨h1, tyTo_succ h1 hok (by simp only [tyAt, e3, e4, e5, Bool.and_false, Bool.not_false, Bool.and_self])⟩, by omega, rfl⟩
        · have e : tysOk l = false := p9 i h1 (by simp only [tyAt, e3, e4, Bool.not_false, Bool.and_self, Bool.not_true, Bool.false_and])
          simp only [EV, Nat.reduceEqDiff, Nat.reduceBEq, Nat.reduceLT, Nat.reduceLeDiff, Nat.reduceAdd, Nat.reduceSub, reduceIte]
          simp only [e, Ty.nfz, EV, Nat.reduceEqDiff, Nat.reduceBEq, Nat.reduceLT, Nat.reduceLeDiff, Nat.reduceAdd, Nat.reduceSub, reduceIte, evRE, retVC, cellV', evR, nfz, nfzs, nfzss, List.contains_nil, List.contains_cons, Bool.or_false, or_true]
      · simp only [Bool.not_true, EV, Nat.reduceEqDiff, Nat.reduceBEq, Nat.reduceLT, Nat.reduceLeDiff, Nat.reduceAdd, Nat.reduceSub, reduceIte]
        refine callK_i d7 ?_
        simp only [EV, Nat.reduceEqDiff, Nat.reduceBEq, Nat.reduceLT, Nat.reduceLeDiff, Nat.reduceAdd, Nat.reduceSub, reduceIte]
        rcases e5 : tyOk l m[i] with _ | _
        · have e : tysOk l = false := p9 i h1 (by simp only [tyAt, e5, Bool.and_false])
          simp only [EV, Nat.reduceEqDiff, Nat.reduceBEq, Nat.reduceLT, Nat.reduceLeDiff, Nat.reduceAdd, Nat.reduceSub, reduceIte]
          simp only [e, Ty.nfz, EV, Nat.reduceEqDiff, Nat.reduceBEq, Nat.reduceLT, Nat.reduceLeDiff, Nat.reduceAdd, Nat.reduceSub, reduceIte, evRE, retVC, cellV', evR, nfz, nfzs, nfzss, List.contains_nil, List.contains_cons, Bool.or_false, or_true]
        · simp only [EV, Nat.reduceEqDiff, Nat.reduceBEq, Nat.reduceLT, Nat.reduceLeDiff, Nat.reduceAdd, Nat.reduceSub, reduceIte]
          rw [w64 _ (by omega)]
          exact ⟨i + 1, ⟨h1, tyTo_succ h1 hok (by simp only [tyAt, e3, e5, Bool.not_true, Bool.false_and, Bool.not_false, Bool.and_self])⟩, by omega, rfl⟩
    · have h1 : i = m.length := by have : ¬ (i : Int) < m.length := by simpa using h
                                   omega
      subst h1
      have e : tysOk l = true := tysOk_yes e1 e2 (by rw [← hm]; exact hok)
      simp only [EV, Nat.reduceEqDiff, Nat.reduceBEq, Nat.reduceLT, Nat.reduceLeDiff, Nat.reduceAdd, Nat.reduceSub, reduceIte]
      simp only [e, Ty.nfz, EV, Nat.reduceEqDiff, Nat.reduceBEq, Nat.reduceLT, Nat.reduceLeDiff, Nat.reduceAdd, Nat.reduceSub, reduceIte, evRE, retVC, cellV', evR, nfz, nfzs, nfzss, List.contains_nil, List.contains_cons, Bool.or_false, or_true]

end Go.AM
namespace Go.AM
set_option linter.unusedVariables false
set_option linter.unusedSimpArgs false
def prt (ptr : Bool) (t : Ty) : List Int := (if (decide (0 ≤ t.base) && (ptr || !(t.kind == 6))) = true then [t.base] else []) ++ t.fields.map Fd.typ

def kids (l : List Ty) (ptr : Bool) (n : Int) : List Int := match l[n.toNat]? with
  | some t => prt ptr t
  | none => []

theorem kids_at {l : List Ty} {ptr : Bool} {n : Int} (h : n.toNat < l.length) : kids l ptr n = prt ptr l[n.toNat] := by simp [kids, h]

inductive Rch (l : List Ty) (ptr : Bool) (fr : List Int) : Int → Prop where
  | base {n : Int} : n ∈ fr → Rch l ptr fr n
  | step {m n : Int} : Rch l ptr fr m → n ∈ kids l ptr m → Rch l ptr fr n

theorem Rch.mono {l : List Ty} {ptr : Bool} {fr fr' : List Int} (h : ∀ n ∈ fr, Rch l ptr fr' n) {n : Int} (hr : Rch l ptr fr n) : Rch l ptr fr' n := by
  induction hr with
  | base hm => exact h _ hm
  | step _ hk ih => exact .step ih hk

/-- All parts are numbers of types. -/
def kidsIn (l : List Ty) : Prop := ∀ n : Int, 0 ≤ n → n < l.length → ∀ k ∈ kids l true n, 0 ≤ k ∧ k < (l.length : Int)

theorem kids_sub {l : List Ty} {ptr : Bool} {n k : Int} (h : k ∈ kids l ptr n) : k ∈ kids l true n := by
  cases ptr with
  | true => exact h
  | false =>
    unfold kids at h ⊢
    split
    · rename_i t ht
      rw [ht] at h
      simp only [prt, List.mem_append] at h ⊢
      rcases h with h | h
      · left
        split at h
        · rename_i hc
          rw [if_pos (by simp only [Bool.and_eq_true] at hc ⊢; exact ⟨hc.1, rfl⟩)]
          exact h
        · simp at h
      · exact .inr h
    · rename_i ht; rw [ht] at h; exact h

theorem Rch.inr {l : List Ty} {ptr : Bool} {fr : List Int} (hk : kidsIn l) (hf : ∀ k ∈ fr, 0 ≤ k ∧ k < (l.length : Int)) {n : Int} (h : Rch l ptr fr n) : 0 ≤ n ∧ n < (l.length : Int) := by
  induction h with
  | base hm => exact hf _ hm
  | step _ hm ih => exact hk _ ih.1 ih.2 _ (kids_sub hm)

open Classical in
noncomputable def reachL (l : List Ty) (ptr : Bool) (fr : List Int) : List Int := ((List.range l.length).map Int.ofNat).filter fun n => decide (Rch l ptr fr n)

theorem mem_reachL {l : List Ty} {ptr : Bool} {fr : List Int} {n : Int} : n ∈ reachL l ptr fr ↔ (0 ≤ n ∧ n < (l.length : Int)) ∧ Rch l ptr fr n := by
  simp only [reachL, List.mem_filter, List.mem_map, List.mem_range, decide_eq_true_eq]
  constructor
  · rintro ⟨⟨k, hk, rfl⟩, h⟩
    exact ⟨⟨Int.natCast_nonneg k, by exact Int.ofNat_lt.2 hk⟩, h⟩
  · rintro ⟨⟨h0, h1⟩, h⟩
    exact ⟨⟨n.toNat, by omega, by exact Int.toNat_of_nonneg h0⟩, h⟩

theorem range_up : ∀ n : Nat, ((List.range n).map Int.ofNat).Pairwise (· < ·) := by
  intro n
  rw [List.pairwise_map]
  exact List.Pairwise.imp (fun h => Int.ofNat_lt.2 h) List.pairwise_lt_range

theorem reachL_up (l : List Ty) (ptr : Bool) (fr : List Int) : (reachL l ptr fr).Pairwise (· < ·) := List.Pairwise.filter _ (range_up _)

/-- Lists that rise and have the same members are the same. -/
theorem up_eq : ∀ {a b : List Int}, a.Pairwise (· < ·) → b.Pairwise (· < ·) → (∀ n, n ∈ a ↔ n ∈ b) → a = b
  | [], [], _, _, _ => rfl
  | [], y :: b, _, _, h => by have := (h y).2 (by simp); simp at this
  | x :: a, [], _, _, h => by have := (h x).1 (by simp); simp at this
  | x :: a, y :: b, ha, hb, h => by
    rw [List.pairwise_cons] at ha hb
    have e : x = y := by
      have h1 := (h x).1 (by simp)
      have h2 := (h y).2 (by simp)
      rcases List.mem_cons.1 h1 with h1 | h1
      · exact h1
      · rcases List.mem_cons.1 h2 with h2 | h2
        · exact h2.symm
        · have := ha.1 y h2; have := hb.1 x h1; omega
    subst e
    rw [up_eq ha.2 hb.2 (fun n => ?_)]
    have := h n
    simp only [List.mem_cons] at this
    constructor
    · intro hn
      rcases this.1 (.inr hn) with e | h3
      · have := ha.1 n hn; omega
      · exact h3
    · intro hn
      rcases this.2 (.inr hn) with e | h3
      · have := hb.1 n hn; omega
      · exact h3

theorem up_nodup {a : List Int} (h : a.Pairwise (· < ·)) : a.Nodup := h.imp fun h => by omega

theorem reachL_congr {l : List Ty} {ptr : Bool} {fr fr' : List Int} (h : ∀ n, n ∈ fr ↔ n ∈ fr') : reachL l ptr fr = reachL l ptr fr' := by
  refine up_eq (reachL_up _ _ _) (reachL_up _ _ _) fun n => ?_
  rw [mem_reachL, mem_reachL]
  constructor
  · rintro ⟨h1, h2⟩; exact ⟨h1, h2.mono fun n hn => .base ((h n).1 hn)⟩
  · rintro ⟨h1, h2⟩; exact ⟨h1, h2.mono fun n hn => .base ((h n).2 hn)⟩

/-- What rises, holds the first ones, is closed, and holds only what is reached: that is it. -/
theorem reachL_of {l : List Ty} {ptr : Bool} {fr out : List Int} (hk : kidsIn l) (hf : ∀ k ∈ fr, 0 ≤ k ∧ k < (l.length : Int)) (hu : out.Pairwise (· < ·)) (hfr : ∀ n ∈ fr, n ∈ out) (hcl : ∀ n ∈ out, ∀ k ∈ kids l ptr n, k ∈ out) (hr : ∀ n ∈ out, Rch l ptr fr n) : out = reachL l ptr fr := by
  refine up_eq hu (reachL_up _ _ _) fun n => ?_
  rw [mem_reachL]
  constructor
  · intro h; exact ⟨(hr n h).inr hk hf, hr n h⟩
  · rintro ⟨hx, h⟩
    clear hr hu hf hk hx
    induction h with
    | base hm => exact hfr _ hm
    | step _ hm ih => exact hcl _ ih _ hm

theorem sub_len : ∀ {a b : List Int}, a.Nodup → (∀ x ∈ a, x ∈ b) → a.length ≤ b.length
  | [], b, _, _ => Nat.zero_le _
  | x :: a, b, hn, h => by
    rw [List.nodup_cons] at hn
    have hx := h x (by simp)
    have ih := sub_len (b := b.erase x) hn.2 fun y hy => by
      have hne : y ≠ x := by intro e; subst e; exact hn.1 hy
      exact (List.mem_erase_of_ne hne).2 (h y (by simp [hy]))
    have he := List.length_erase_of_mem hx
    have hp : 0 < b.length := List.length_pos_of_mem hx
    simp only [List.length_cons]
    omega

theorem nodup_le {out : List Int} {n : Nat} (hn : out.Nodup) (h : ∀ k ∈ out, 0 ≤ k ∧ k < (n : Int)) : out.length ≤ n := by
  have := sub_len (b := (List.range n).map Int.ofNat) hn fun k hk => by
    obtain ⟨h0, h1⟩ := h k hk
    rw [List.mem_map]
    exact ⟨k.toNat, by rw [List.mem_range]; omega, Int.toNat_of_nonneg h0⟩
  simpa using this

noncomputable def roundAt (l : List Ty) (n : Int) : Bool := (reachL l false (kids l false n)).contains n

noncomputable def tabOk (l : List Ty) : Bool := tysOk l && (List.range l.length).all fun n => !roundAt l (n : Int)

/-- How deep a type is. -/
noncomputable def rk (l : List Ty) (n : Int) : Nat := (reachL l false (kids l false n)).length

theorem filter_lt {p q : Int → Bool} : ∀ {L : List Int} {x : Int}, (∀ y ∈ L, p y = true → q y = true) → x ∈ L → q x = true → p x = false → (L.filter p).length < (L.filter q).length
  | [], x, _, hx, _, _ => by simp at hx
  | y :: L, x, h, hx, h1, h2 => by
    have le : ∀ {L : List Int}, (∀ y ∈ L, p y = true → q y = true) → (L.filter p).length ≤ (L.filter q).length := by
      intro L h
      induction L with
      | nil => simp
      | cons z L ih =>
        have := ih fun y hy => h y (by simp [hy])
        have hz := h z (by simp)
        rw [List.filter_cons, List.filter_cons]
        cases ep : p z <;> cases eq : q z <;> simp [ep, eq] at hz ⊢ <;> omega
    rw [List.filter_cons, List.filter_cons]
    have hy := h y (by simp)
    rcases List.mem_cons.1 hx with e | hx
    · subst e
      have := le (L := L) fun z hz => h z (by simp [hz])
      simp [h1, h2]; omega
    · have ih := filter_lt (L := L) (fun z hz => h z (by simp [hz])) hx h1 h2
      cases ep : p y <;> cases eq : q y <;> simp [ep, eq] at hy ⊢ <;> omega

theorem tabOk_tys {l : List Ty} (h : tabOk l = true) : tysOk l = true := by simp only [tabOk, Bool.and_eq_true] at h; exact h.1

theorem tabOk_round {l : List Ty} (h : tabOk l = true) {n : Int} (h0 : 0 ≤ n) (h1 : n < (l.length : Int)) : roundAt l n = false := by
  simp only [tabOk, Bool.and_eq_true, List.all_eq_true, List.mem_range] at h
  have := h.2 n.toNat (by omega)
  rw [Int.toNat_of_nonneg h0] at this
  simpa using this

theorem getElem_drop3 {l : List Ty} {n : Nat} (h3 : 3 ≤ n) (h : n < l.length) : ∃ h' : n - 3 < (l.drop 3).length, (l.drop 3)[n - 3] = l[n] := by
  refine ⟨by simp; omega, ?_⟩
  rw [List.getElem_drop]
  congr 1
  omega

theorem sameTy_base {a b : Ty} (h : sameTy a b = true) : a.kind = b.kind ∧ a.long = b.long ∧ a.base = b.base ∧ a.fields.length = b.fields.length ∧ (a.name.toList == b.name.toList) = true := by
  simp only [sameTy, Bool.and_eq_true, beq_iff_eq] at h
  obtain ⟨h1, h2, h3, h4, h5, h6⟩ := h
  refine ⟨h1, h2, h3, ?_, by rw [h6]; exact beq_self_eq_true _⟩
  simp only [eqL, decide_eq_true_eq] at h4
  exact h4.1

theorem tysOk_ty {l : List Ty} (h : tysOk l = true) {n : Nat} (h3 : 3 ≤ n) (hn : n < l.length) : tyOk l l[n] = true := by
  simp only [tysOk, Bool.and_eq_true, decide_eq_true_eq] at h
  obtain ⟨h', e⟩ := getElem_drop3 h3 hn
  have := h.2.2 (n - 3) h' h'
  simp only [tyAt, Bool.and_eq_true, e] at this
  exact this.2

theorem tysOk_len {l : List Ty} (h : tysOk l = true) : 3 ≤ l.length ∧ l.length ≤ 24 := by
  simp only [tysOk, Bool.and_eq_true, decide_eq_true_eq] at h
  omega

theorem tysOk_base {l : List Ty} (h : tysOk l = true) {n : Nat} (h3 : n < 3) (hn : n < l.length) : l[n].kind = (n : Int) + 1 ∧ l[n].long = 0 ∧ l[n].base = -1 ∧ l[n].fields = [] := by
  simp only [tysOk, Bool.and_eq_true, decide_eq_true_eq, eqL] at h
  obtain ⟨_, ⟨he, ht⟩, _⟩ := h
  have h1 : n < (l.take 3).length := by simp; omega
  have h2 : n < baseTs.length := by rw [base_len]; exact h3
  have hs := ht n h1 h2 (by omega)
  rw [List.getElem_take] at hs
  obtain ⟨q1, q2, q3, q4, _⟩ := sameTy_base hs
  have : n = 0 ∨ n = 1 ∨ n = 2 := by omega
  rcases this with rfl | rfl | rfl <;> exact ⟨q1, q2, q3, List.eq_nil_of_length_eq_zero q4⟩

theorem fdsOk_at {l : List Ty} {fs : List Fd} (h : fdsOk l fs = true) : fs.length ≤ 6 ∧ ∀ f ∈ fs, isNum l f.typ = true := by
  simp only [fdsOk, decide_eq_true_eq] at h
  refine ⟨h.2, fun f hf => ?_⟩
  obtain ⟨i, hi, rfl⟩ := List.mem_iff_getElem.1 hf
  have := h.1 i hi hi
  simp only [fdAt, Bool.and_eq_true] at this
  exact this.2.1

/-- What a good type says. -/
structure TyGood (l : List Ty) (t : Ty) : Prop where
  base : t.base = -1 ∨ isNum l t.base = true
  flds : ∀ f ∈ t.fields, isNum l f.typ = true
  few : t.fields.length ≤ 6
  none : t.kind ≠ 5 → t.fields = []
  rec5 : t.kind = 5 → t.base = -1 ∨ isRec l t.base = true
  arr : t.kind = 4 → isNum l t.base = true ∧ 1 ≤ t.long ∧ t.long ≤ 1000
  ptr : t.kind = 6 → isNum l t.base = true ∧ (kd l t.base = 5 ∨ kd l t.base = 4)
  one : 1 ≤ t.kind ∧ t.kind ≤ 6
  low : t.kind ≤ 3 → t.base = -1

theorem tyOk_good {l : List Ty} {t : Ty} (h : tyOk l t = true) : TyGood l t := by
  simp only [tyOk, Bool.and_eq_true, Bool.not_eq_true', Bool.and_eq_false_iff] at h
  obtain ⟨_, h2, h3⟩ := h
  have hrec : ∀ {n : Int}, isRec l n = true → isNum l n = true := fun h => by simp only [isRec, Bool.and_eq_true] at h; exact h.1
  have hnone : t.kind ≠ 5 → t.fields = [] := by
    intro hk
    rcases h2 with h2 | h2
    · simp at h2; exact absurd h2 hk
    · have : ¬ (0 : Int) < t.fields.length := by simpa using h2
      exact List.eq_nil_of_length_eq_zero (by omega)
  by_cases k4 : t.kind = 4
  · have : (t.kind == 4) = true := by simp [k4]
    rw [if_pos this] at h3
    simp only [Bool.and_eq_true, decide_eq_true_eq] at h3
    have hf := hnone (by omega)
    exact ⟨.inr h3.2, by rw [hf]; simp, by rw [hf]; simp, hnone, by omega, fun _ => ⟨h3.2, h3.1⟩, by omega, by omega, by omega⟩
  have e4 : ¬ (t.kind == 4) = true := by simpa using k4
  rw [if_neg e4] at h3
  by_cases k5 : t.kind = 5
  · have : (t.kind == 5) = true := by simp [k5]
    rw [if_pos this] at h3
    simp only [Bool.and_eq_true, beq_iff_eq, Bool.or_eq_true] at h3
    obtain ⟨⟨_, hb⟩, hf⟩ := h3
    obtain ⟨f1, f2⟩ := fdsOk_at hf
    exact ⟨hb.imp id hrec, f2, f1, hnone, fun _ => hb, by omega, by omega, by omega, by omega⟩
  have e5 : ¬ (t.kind == 5) = true := by simpa using k5
  rw [if_neg e5] at h3
  by_cases k6 : t.kind = 6
  · have : (t.kind == 6) = true := by simp [k6]
    rw [if_pos this] at h3
    simp only [Bool.and_eq_true, beq_iff_eq, Bool.or_eq_true] at h3
    obtain ⟨_, hb⟩ := h3
    have hf := hnone (by omega)
    have hnum : isNum l t.base = true := hb.elim hrec fun h => h.1
    exact ⟨.inr hnum, by rw [hf]; simp, by rw [hf]; simp, hnone, by omega, by omega, fun _ => ⟨hnum, hb.imp (fun h => by simp only [isRec, Bool.and_eq_true, beq_iff_eq] at h; exact h.2) fun h => h.2⟩, by omega, by omega⟩
  have e6 : ¬ (t.kind == 6) = true := by simpa using k6
  rw [if_neg e6] at h3
  cases h3

theorem tysOk_good {l : List Ty} (h : tysOk l = true) {n : Nat} (hn : n < l.length) : TyGood l l[n] := by
  by_cases h3 : 3 ≤ n
  · exact tyOk_good (tysOk_ty h h3 hn)
  · obtain ⟨q1, q2, q3, q4⟩ := tysOk_base h (by omega) hn
    exact ⟨.inl q3, by rw [q4]; simp, by rw [q4]; simp, fun _ => q4, by omega, by omega, by omega, by omega, fun _ => q3⟩

theorem isNum_in {l : List Ty} {n : Int} : isNum l n = true ↔ 0 ≤ n ∧ n < (l.length : Int) := by
  simp only [isNum, Bool.and_eq_true, decide_eq_true_eq]; omega

theorem tysOk_kids {l : List Ty} (h : tysOk l = true) : kidsIn l := by
  intro n h0 h1 k hk
  have hn : n.toNat < l.length := by omega
  have G := tysOk_good h hn
  rw [kids_at hn] at hk
  simp only [prt, List.mem_append, List.mem_map] at hk
  rcases hk with hk | ⟨f, hf, rfl⟩
  · split at hk
    · rename_i hc
      simp only [Bool.and_eq_true, decide_eq_true_eq] at hc
      simp only [List.mem_singleton] at hk
      subst hk
      rcases G.base with hb | hb
      · omega
      · exact isNum_in.1 hb
    · simp at hk
  · exact isNum_in.1 (G.flds f hf)

theorem prt_len {l : List Ty} (h : tysOk l = true) (ptr : Bool) {n : Nat} (hn : n < l.length) : (prt ptr l[n]).length ≤ 7 := by
  have G := tysOk_good h hn
  have := G.few
  simp only [prt, List.length_append, List.length_map]
  split <;> simp <;> omega

theorem kids_ok {l : List Ty} (h : tysOk l = true) {n : Int} {ptr : Bool} {k : Int} (h0 : 0 ≤ n) (h1 : n < l.length) (hk : k ∈ kids l ptr n) : 0 ≤ k ∧ k < (l.length : Int) := tysOk_kids h n h0 h1 k (kids_sub hk)

theorem rk_lt {l : List Ty} (h : tabOk l = true) {n k : Int} (h0 : 0 ≤ n) (h1 : n < l.length) (hk : k ∈ kids l false n) : rk l k < rk l n := by
  have ht := tabOk_tys h
  have hki := kids_ok ht h0 h1 hk
  have hrd := tabOk_round h hki.1 hki.2
  refine filter_lt (x := k) ?_ ?_ ?_ ?_
  · intro y _ hy
    simp only [decide_eq_true_eq] at hy ⊢
    exact hy.mono fun m hm => .step (.base hk) hm
  · rw [List.mem_map]; exact ⟨k.toNat, by rw [List.mem_range]; omega, Int.toNat_of_nonneg hki.1⟩
  · simp only [decide_eq_true_eq]; exact .base hk
  · simp only [decide_eq_false_iff_not]
    intro hr
    have : k ∈ reachL l false (kids l false k) := mem_reachL.2 ⟨hki, hr⟩
    simp [roundAt] at hrd
    exact hrd this

end Go.AM
namespace Go.AM
set_option linter.unusedVariables false
set_option linter.unusedSimpArgs false
def prtB (ptr : Bool) (t : Ty) : List Int := if (decide (0 ≤ t.base) && (ptr || !(t.kind == 6))) = true then [t.base] else []

theorem prtB_len (ptr : Bool) (t : Ty) : (prtB ptr t).length ≤ 1 := by unfold prtB; split <;> simp

/-- (loop.example/g00837/impl.Type).parts -/
def m131 : MC :=
  (.seq
   (.reg [⟨(some 2), none, .a (.box 40 (.t 0))⟩,
     ⟨(some 4), none, .a (.asg (.nils 3 1))⟩])
   (.seq
    (.reg [⟨(some 8), none, .a (.bsl 3 1 [])⟩,
      ⟨(some 5), none, .a (.asg (.t 8))⟩])
    (.join [2, 5, 8, 24, 36]
     (.seq
      (.reg [⟨(some 9), none, .q (.fad 2 (.t 2))⟩,
        ⟨(some 10), none, .q (.load false 1 (.t 9))⟩,
        ⟨(some 11), none, .q (.bin false .geq (.t 10) (.c (.int .i64 0)))⟩,
        ⟨(some 12), none, .q (.mov (.t 11))⟩,
        ⟨(some 13), (some (12, true)), .q (.mov (.t 1))⟩,
        ⟨(some 14), (some (12, true)), .q (.mov (.t 13))⟩,
        ⟨(some 15), (some (14, false)), .q (.fad 0 (.t 2))⟩,
        ⟨(some 16), (some (14, false)), .q (.load false 1 (.t 15))⟩,
        ⟨(some 17), (some (14, false)), .q (.bin false .neq (.t 16) (.c (.int .i64 6)))⟩,
        ⟨(some 18), (some (12, true)), .q (.pick (.t 14) (.c (.bool true)) (.t 17))⟩,
        ⟨(some 19), none, .q (.pick (.t 12) (.t 18) (.c (.bool false)))⟩])
      (.cond (.t 19)
       (.reg [⟨(some 20), none, .q (.mov (.t 5))⟩,
         ⟨(some 21), none, .q (.fad 2 (.t 2))⟩,
         ⟨(some 22), none, .q (.load false 1 (.t 21))⟩,
         ⟨(some 23), none, .a (.bsl 3 1 [.t 22])⟩,
         ⟨(some 24), none, .a (.app true 3 1 8 (.t 20) (.t 23))⟩,
         ⟨(some 5), none, .a (.asg (.t 24))⟩])
       .skip))
     (.seq
      (.seq
       (.reg [⟨(some 25), none, .q (.fad 3 (.t 2))⟩,
         ⟨(some 26), none, .q (.load false 1 (.t 25))⟩,
         ⟨(some 27), none, .q (.len false (.t 26))⟩,
         ⟨(some 28), none, .q (.mov (.c (.int .i64 0)))⟩])
       (.block 0
        (.loop [2, 5, 8, 24, 25, 26, 27, 28, 36]
         (.seq
          (.reg [⟨(some 29), none, .q (.bin false .lss (.t 28) (.t 27))⟩])
          (.seq
           (.cond (.t 29)
            .skip
            (.exit 0))
           (.seq
            (.block 1
             (.seq
              (.reg [⟨(some 30), none, .q (.iad 3 (.t 26) (.t 28))⟩,
                ⟨(some 31), none, .q (.load true 3 (.t 30))⟩,
                ⟨(some 7), none, .a (.alloc 97 [.v (.string ({ data := #[] })), .v (.int .i64 0), .v (.int .i64 0)])⟩,
                ⟨none, none, .a (.store 3 (.t 7) (.t 31))⟩])
              (.reg [⟨(some 32), none, .q (.mov (.t 5))⟩,
                ⟨(some 33), none, .q (.fad 2 (.t 7))⟩,
                ⟨(some 34), none, .q (.load false 1 (.t 33))⟩,
                ⟨(some 35), none, .a (.bsl 3 1 [.t 34])⟩,
                ⟨(some 36), none, .a (.app true 3 1 8 (.t 32) (.t 35))⟩,
                ⟨(some 5), none, .a (.asg (.t 36))⟩])))
            (.reg [⟨(some 37), none, .q (.bin false .add (.t 28) (.c (.int .i64 1)))⟩,
              ⟨(some 28), none, .q (.mov (.t 37))⟩])))))))
      (.seq
       (.reg [⟨(some 38), none, .q (.mov (.t 5))⟩,
         ⟨(some 4), none, .a (.asg (.t 38))⟩])
       .ret)))))

set_option maxRecDepth 100000 in
theorem d131 (t : Ty) (ptr : Bool) (ht : t.sm) : Does Go.Proofs.Tryz.prog 131 [.agg t.z, .v (.bool ptr)] false (.usl 3 1 ((prt ptr t).map iv)) [.dead, .dead] := by
  unfold Ty.sm at ht
  have hf := ht.2.2.2.1.1
  refine does_intro (mc := m131) (N := 39) (rs := [4]) (fx := []) 2 rfl (by decide +kernel) ?_
  simp only [m131, Ty.z, EV, Nat.reduceEqDiff, Nat.reduceBEq, Nat.reduceLT, Nat.reduceLeDiff, Nat.reduceAdd, Nat.reduceSub, reduceIte]
  refine awp_join (fun _ : Unit => True) (fun _ => stl [(2, .box 40 t.z), (5, .usl 3 1 ((prtB ptr t).map iv)), (8, .dead), (24, .dead), (36, .dead)]) ?_ ?_
  · have no : (decide (0 ≤ t.base) && (ptr || !(t.kind == 6))) = false → prtB ptr t = [] := fun h => by unfold prtB; rw [h]; rfl
    have yes : (decide (0 ≤ t.base) && (ptr || !(t.kind == 6))) = true → prtB ptr t = [t.base] := fun h => by unfold prtB; rw [h]; rfl
    simp only [EV, Nat.reduceEqDiff, Nat.reduceBEq, Nat.reduceLT, Nat.reduceLeDiff, Nat.reduceAdd, Nat.reduceSub, reduceIte]
    rcases e1 : decide (0 ≤ t.base) with _ | _ <;> rcases ptr with _ | _ <;> rcases e2 : (t.kind == 6) with _ | _
    all_goals simp only [e1, e2, Bool.true_and, Bool.false_and, Bool.true_or, Bool.false_or, Bool.not_true, Bool.not_false, Bool.true_eq_false, Bool.false_eq_true, false_implies, forall_const] at no yes
    all_goals simp only [bne, e1, e2, yes, no, EV, Nat.reduceEqDiff, Nat.reduceBEq, Nat.reduceLT, Nat.reduceLeDiff, Nat.reduceAdd, Nat.reduceSub, reduceIte]
    all_goals first
      | exact ⟨(), trivial⟩
      | exact ⟨(), rfl⟩
      | (refine ⟨by simp only [List.length_nil]; omega, by simp only [List.length_nil]; omega, (), ?_⟩; rfl)
      | (refine ⟨by omega, (), ?_⟩; rfl)
      | trace_state
  rintro _ _
  simp only [Ty.z, EV, Nat.reduceEqDiff, Nat.reduceBEq, Nat.reduceLT, Nat.reduceLeDiff, Nat.reduceAdd, Nat.reduceSub, reduceIte]
  have hbl := prtB_len ptr t
  refine awp_loop (fun i : Nat => i ≤ t.fields.length) (fun i => stl [(2, .box 40 t.z), (5, .usl 3 1 ((prtB ptr t ++ (t.fields.take i).map Fd.typ).map iv)), (8, .dead), (24, .dead), (25, .ref 2 [] 0 3), (26, .fsl 3 (t.fields.map Fd.z)), (27, .v (.int .i64 (t.fields.length : Int))), (28, .v (.int .i64 (i : Int))), (36, .dead)]) (fun i => t.fields.length - i) 0 (Nat.zero_le _) ?_ ?_
  · simp only [List.append_nil, EV, Nat.reduceEqDiff, Nat.reduceBEq, Nat.reduceLT, Nat.reduceLeDiff, Nat.reduceAdd, Nat.reduceSub, reduceIte]
    rfl
  · intro i hi
    simp only [Ty.z, EV, Nat.reduceEqDiff, Nat.reduceBEq, Nat.reduceLT, Nat.reduceLeDiff, Nat.reduceAdd, Nat.reduceSub, reduceIte]
    refine cK_cut (fun h => ?_) (fun h => ?_)
    · have h1 : i < t.fields.length := by simpa using h
      have h2 : (i : Int) < (t.fields.length : Int) := by omega
      clear h
      simp only [FdE, nth_map h1, h1, h2, Fd.z, EV, Nat.reduceEqDiff, Nat.reduceBEq, Nat.reduceLT, Nat.reduceLeDiff, Nat.reduceAdd, Nat.reduceSub, reduceIte]
      rw [w64 _ (by omega)]
      have e : prtB ptr t ++ List.map Fd.typ (List.take (i + 1) t.fields) = (prtB ptr t ++ List.map Fd.typ (List.take i t.fields)) ++ [t.fields[i].typ] := by
        rw [List.take_succ_eq_append_getElem h1, List.map_append, List.append_assoc]; rfl
      refine ⟨by simp; omega, by simp; omega, i + 1, h1, by omega, ?_⟩
      rw [e, List.map_append (l₂ := [t.fields[i].typ])]
      rfl
    · have h1 : i = t.fields.length := by have : ¬ (i : Int) < t.fields.length := by simpa using h
                                          omega
      subst h1
      have e : prtB ptr t ++ List.map Fd.typ (List.take t.fields.length t.fields) = prt ptr t := by rw [List.take_length]; rfl
      rw [e]
      simp only [EV, Nat.reduceEqDiff, Nat.reduceBEq, Nat.reduceLT, Nat.reduceLeDiff, Nat.reduceAdd, Nat.reduceSub, reduceIte]
      simp only [iv_nfz, EV, Nat.reduceEqDiff, Nat.reduceBEq, Nat.reduceLT, Nat.reduceLeDiff, Nat.reduceAdd, Nat.reduceSub, reduceIte, evRE, retVC, cellV', evR, nfz, nfzs, nfzss, List.contains_nil, List.contains_cons, Bool.or_false, or_true]

/-- loop.example/g00837/spec.l3Parts -/
def m198 : MC :=
  (.seq
   (.reg [⟨(some 1), none, .a (.box 40 (.t 0))⟩,
     ⟨(some 2), none, .a (.asg (.nils 3 1))⟩])
   (.seq
    (.reg [⟨(some 3), none, .a (.asg (.nils 3 1))⟩])
    (.join [1, 3, 18, 30]
     (.seq
      (.reg [⟨(some 6), none, .q (.fad 2 (.t 1))⟩,
        ⟨(some 7), none, .q (.load false 1 (.t 6))⟩,
        ⟨(some 8), none, .q (.bin false .geq (.t 7) (.c (.int .i64 0)))⟩,
        ⟨(some 9), none, .q (.mov (.t 8))⟩,
        ⟨(some 10), (some (9, true)), .q (.fad 0 (.t 1))⟩,
        ⟨(some 11), (some (9, true)), .q (.load false 1 (.t 10))⟩,
        ⟨(some 12), (some (9, true)), .q (.bin false .neq (.t 11) (.c (.int .i64 6)))⟩,
        ⟨(some 13), none, .q (.pick (.t 9) (.t 12) (.c (.bool false)))⟩])
      (.cond (.t 13)
       (.reg [⟨(some 14), none, .q (.mov (.t 3))⟩,
         ⟨(some 15), none, .q (.fad 2 (.t 1))⟩,
         ⟨(some 16), none, .q (.load false 1 (.t 15))⟩,
         ⟨(some 17), none, .a (.bsl 3 1 [.t 16])⟩,
         ⟨(some 18), none, .a (.app true 3 1 8 (.t 14) (.t 17))⟩,
         ⟨(some 3), none, .a (.asg (.t 18))⟩])
       .skip))
     (.seq
      (.seq
       (.reg [⟨(some 19), none, .q (.fad 3 (.t 1))⟩,
         ⟨(some 20), none, .q (.load false 1 (.t 19))⟩,
         ⟨(some 21), none, .q (.len false (.t 20))⟩,
         ⟨(some 22), none, .q (.mov (.c (.int .i64 0)))⟩])
       (.block 0
        (.loop [1, 3, 18, 19, 20, 21, 22, 30]
         (.seq
          (.reg [⟨(some 23), none, .q (.bin false .lss (.t 22) (.t 21))⟩])
          (.seq
           (.cond (.t 23)
            .skip
            (.exit 0))
           (.seq
            (.block 1
             (.seq
              (.reg [⟨(some 24), none, .q (.iad 3 (.t 20) (.t 22))⟩,
                ⟨(some 25), none, .q (.load true 3 (.t 24))⟩,
                ⟨(some 5), none, .a (.alloc 97 [.v (.string ({ data := #[] })), .v (.int .i64 0), .v (.int .i64 0)])⟩,
                ⟨none, none, .a (.store 3 (.t 5) (.t 25))⟩])
              (.reg [⟨(some 26), none, .q (.mov (.t 3))⟩,
                ⟨(some 27), none, .q (.fad 2 (.t 5))⟩,
                ⟨(some 28), none, .q (.load false 1 (.t 27))⟩,
                ⟨(some 29), none, .a (.bsl 3 1 [.t 28])⟩,
                ⟨(some 30), none, .a (.app true 3 1 8 (.t 26) (.t 29))⟩,
                ⟨(some 3), none, .a (.asg (.t 30))⟩])))
            (.reg [⟨(some 31), none, .q (.bin false .add (.t 22) (.c (.int .i64 1)))⟩,
              ⟨(some 22), none, .q (.mov (.t 31))⟩])))))))
      (.seq
       (.reg [⟨(some 32), none, .q (.mov (.t 3))⟩,
         ⟨(some 2), none, .a (.asg (.t 32))⟩])
       .ret)))))

set_option maxRecDepth 100000 in
theorem d198 (t : Ty) (ht : t.sm) : Does Go.Proofs.Tryz.prog 198 [.agg t.z] false (.usl 3 1 ((prt false t).map iv)) [.dead] := by
  unfold Ty.sm at ht
  have hf := ht.2.2.2.1.1
  refine does_intro (mc := m198) (N := 33) (rs := [2]) (fx := []) 1 rfl (by decide +kernel) ?_
  simp only [m198, Ty.z, EV, Nat.reduceEqDiff, Nat.reduceBEq, Nat.reduceLT, Nat.reduceLeDiff, Nat.reduceAdd, Nat.reduceSub, reduceIte]
  refine awp_join (fun _ : Unit => True) (fun _ => stl [(1, .box 40 t.z), (3, .usl 3 1 ((prtB false t).map iv)), (18, .dead), (30, .dead)]) ?_ ?_
  · have no : (decide (0 ≤ t.base) && !(t.kind == 6)) = false → prtB false t = [] := fun h => by unfold prtB; rw [Bool.false_or, h]; rfl
    have yes : (decide (0 ≤ t.base) && !(t.kind == 6)) = true → prtB false t = [t.base] := fun h => by unfold prtB; rw [Bool.false_or, h]; rfl
    simp only [EV, Nat.reduceEqDiff, Nat.reduceBEq, Nat.reduceLT, Nat.reduceLeDiff, Nat.reduceAdd, Nat.reduceSub, reduceIte]
    rcases e1 : decide (0 ≤ t.base) with _ | _ <;> rcases e2 : (t.kind == 6) with _ | _
    all_goals simp only [e1, e2, Bool.true_and, Bool.false_and, Bool.true_or, Bool.false_or, Bool.not_true, Bool.not_false, Bool.true_eq_false, Bool.false_eq_true, false_implies, forall_const] at no yes
    all_goals simp only [bne, e1, e2, yes, no, EV, Nat.reduceEqDiff, Nat.reduceBEq, Nat.reduceLT, Nat.reduceLeDiff, Nat.reduceAdd, Nat.reduceSub, reduceIte]
    all_goals first
      | exact ⟨(), trivial⟩
      | exact ⟨(), rfl⟩
      | (refine ⟨by simp only [List.length_nil]; omega, by simp only [List.length_nil]; omega, (), ?_⟩; rfl)
      | (refine ⟨by omega, (), ?_⟩; rfl)
      | trace_state
  rintro _ _
  simp only [Ty.z, EV, Nat.reduceEqDiff, Nat.reduceBEq, Nat.reduceLT, Nat.reduceLeDiff, Nat.reduceAdd, Nat.reduceSub, reduceIte]
  have hbl := prtB_len false t
  refine awp_loop (fun i : Nat => i ≤ t.fields.length) (fun i => stl [(1, .box 40 t.z), (3, .usl 3 1 ((prtB false t ++ (t.fields.take i).map Fd.typ).map iv)), (18, .dead), (19, .ref 1 [] 0 3), (20, .fsl 3 (t.fields.map Fd.z)), (21, .v (.int .i64 (t.fields.length : Int))), (22, .v (.int .i64 (i : Int))), (30, .dead)]) (fun i => t.fields.length - i) 0 (Nat.zero_le _) ?_ ?_
  · simp only [List.append_nil, EV, Nat.reduceEqDiff, Nat.reduceBEq, Nat.reduceLT, Nat.reduceLeDiff, Nat.reduceAdd, Nat.reduceSub, reduceIte]
    rfl
  · intro i hi
    simp only [Ty.z, EV, Nat.reduceEqDiff, Nat.reduceBEq, Nat.reduceLT, Nat.reduceLeDiff, Nat.reduceAdd, Nat.reduceSub, reduceIte]
    refine cK_cut (fun h => ?_) (fun h => ?_)
    · have h1 : i < t.fields.length := by simpa using h
      have h2 : (i : Int) < (t.fields.length : Int) := by omega
      clear h
      simp only [FdE, nth_map h1, h1, h2, Fd.z, EV, Nat.reduceEqDiff, Nat.reduceBEq, Nat.reduceLT, Nat.reduceLeDiff, Nat.reduceAdd, Nat.reduceSub, reduceIte]
      rw [w64 _ (by omega)]
      have e : prtB false t ++ List.map Fd.typ (List.take (i + 1) t.fields) = (prtB false t ++ List.map Fd.typ (List.take i t.fields)) ++ [t.fields[i].typ] := by
        rw [List.take_succ_eq_append_getElem h1, List.map_append, List.append_assoc]; rfl
      refine ⟨by simp; omega, by simp; omega, i + 1, h1, by omega, ?_⟩
      rw [e, List.map_append (l₂ := [t.fields[i].typ])]
      rfl
    · have h1 : i = t.fields.length := by have : ¬ (i : Int) < t.fields.length := by simpa using h
                                          omega
      subst h1
      have e : prtB false t ++ List.map Fd.typ (List.take t.fields.length t.fields) = prt false t := by rw [List.take_length]; rfl
      rw [e]
      simp only [EV, Nat.reduceEqDiff, Nat.reduceBEq, Nat.reduceLT, Nat.reduceLeDiff, Nat.reduceAdd, Nat.reduceSub, reduceIte]
      simp only [iv_nfz, EV, Nat.reduceEqDiff, Nat.reduceBEq, Nat.reduceLT, Nat.reduceLeDiff, Nat.reduceAdd, Nat.reduceSub, reduceIte, evRE, retVC, cellV', evR, nfz, nfzs, nfzss, List.contains_nil, List.contains_cons, Bool.or_false, or_true]

end Go.AM
set_option linter.unusedVariables false
set_option linter.unusedSimpArgs false
namespace Go.Proofs
open Go.Shelf
shelf_lay Lays.n189 Nm 189 at Tryz as Tryz.laysSort
shelf_lay Lays2.n20 Nm2 20 at Tryz as Tryz.laysCompact
end Go.Proofs

namespace Go.AM
open Go.Sort Go.RowKit
theorem int_cells {w : World} {Fz : Nat → Prop} : ∀ {l : List Int} {xs : List Value} {o : List Nat}, RepRows w Fz 1 (l.map iv) xs o → xs = l.map (Value.int .i64) ∧ o = []
  | [], xs, o, h => by simp only [List.map_nil, RepRows] at h; exact h
  | s :: l, xs, o, h => by
    simp only [List.map_cons, RepRows] at h
    obtain ⟨x1, x2, o1, o2, rfl, rfl, hl, h1, h2⟩ := h
    simp only [iv, RepRow, RepC] at h1
    obtain ⟨x, xs', p1, p2, rfl, rfl, ⟨rfl, _, rfl⟩, rfl, rfl⟩ := h1
    obtain ⟨rfl, rfl⟩ := int_cells h2
    exact ⟨rfl, rfl⟩

theorem cells_int {w : World} {Fz : Nat → Prop} : ∀ (l : List Int), RepRows w Fz 1 (l.map iv) (l.map (Value.int .i64)) []
  | [] => by simp [RepRows]
  | s :: l => by
    simp only [List.map_cons, RepRows]
    exact ⟨[.int .i64 s], _, [], [], rfl, rfl, rfl, by simp only [iv, RepRow, RepC]; exact ⟨_, [], [], [], rfl, rfl, ⟨rfl, rfl, rfl⟩, rfl, rfl⟩, cells_int l⟩

theorem holds_of {w : World} {g h : Nat} {cur : Array Value} {e : Nat} {l : List Int} (hg : w.heap[g]? = some (.cells cur e (0, 0))) (hat : At w g h (l.map (Value.int .i64))) : Holds (Value.int .i64) w g h l.toArray := by
  intro j hj
  have hj' : j < l.length := by simpa using hj
  refine ⟨?_, ?_⟩
  · rw [hat j (Value.int .i64 l[j]) (by simp [hj'])]
    simp [hj']
  · simp [World.frozen?, hg]

/-- What the world is after a row was put, as the framework sees it. -/
theorem put_ext {w : World} {g h n : Nat} {cur : Array Value} {e : Nat} {l m : List Int} {os : Array Obj} (hg : w.heap[g]? = some (.cells cur e (0, 0))) (hat : At w g h (l.map (Value.int .i64))) (hm : m.length = l.length) :
    let w' := grow (putRow (Value.int .i64) (Sort.ahead w n) g h m.toArray) os
    Ext w w' [g] ∧ w'.heap[g]? = some (.cells (putCells (Value.int .i64) h m.toArray cur) e (0, 0)) ∧ (putCells (Value.int .i64) h m.toArray cur).size = cur.size ∧ At w' g h (m.map (Value.int .i64)) ∧ w.heap.size ≤ w'.heap.size := by
  intro w'
  have hlt : g < w.heap.size := by
    rcases Nat.lt_or_ge g w.heap.size with h | h
    · exact h
    · rw [Array.getElem?_eq_none h] at hg; cases hg
  have hb : ∀ b, b < w.heap.size → w'.heap[b]? = (w.heap.modify g (onCells (putCells (Value.int .i64) h m.toArray)))[b]? := by
    intro b hb
    simp only [w', grow, putRow, mapBlock, Sort.ahead]
    rw [Array.getElem?_append_left (by simpa using hb)]
  have hsz : w.heap.size ≤ w'.heap.size := by simp [w', grow, putRow, mapBlock, Sort.ahead]
  have hg' : w'.heap[g]? = some (.cells (putCells (Value.int .i64) h m.toArray cur) e (0, 0)) := by
    rw [hb g hlt, Array.getElem?_modify, if_pos rfl, hg]
    rfl
  refine ⟨⟨rfl, rfl, rfl, hsz, ?_⟩, hg', by simp [putCells], ?_, hsz⟩
  · intro b hb' hn
    rw [hb b hb', Array.getElem?_modify, if_neg (by intro e; exact hn (by simp [e]))]
  · intro j u hj
    have hj' : j < m.length := by
      rcases Nat.lt_or_ge j m.length with h | h
      · exact h
      · simp [h] at hj
    have hc := hat j (Value.int .i64 (l[j]'(by omega))) (by simp [show j < l.length by omega])
    simp only [World.cell?, hg] at hc
    simp only [World.cell?, hg', putCells, Array.getElem?_mapIdx]
    have hc' : cur[h + j]? = some (Value.int .i64 (l[j]'(by omega))) := by simpa using hc
    have hu : u = Value.int .i64 m[j] := by simpa [hj'] using hj.symm
    subst hu
    simp [hc', hj']

def srt (l : List Int) : List Int := l.mergeSort fun x y => decide (x ≤ y)

theorem srt_len (l : List Int) : (srt l).length = l.length := List.length_mergeSort _

theorem srt_mem {l : List Int} {n : Int} : n ∈ srt l ↔ n ∈ l := List.mem_mergeSort

theorem srt_le (l : List Int) : (srt l).Pairwise (· ≤ ·) := by
  have := List.pairwise_mergeSort (le := fun x y : Int => decide (x ≤ y)) (fun a b c h1 h2 => by simp at *; omega) (fun a b => by simp; omega) l
  exact this.imp fun h => by simpa using h

theorem d190 (l : List Int) (hl : (l.length : Int) ≤ 1152921504606846976) : Does Go.Proofs.Tryz.prog 190 [.usl 3 1 (l.map iv)] false (.tup []) [.usl 3 1 ((srt l).map iv)] := by
  refine ⟨by decide +kernel, ?_⟩
  intro w Fz xs os hrep hos hfz hlt
  simp only [RepVs, RepV, RepC] at hrep
  obtain ⟨x, xs', o1, o2, rfl, rfl, hx, rfl, rfl⟩ := hrep
  simp only [List.append_nil] at *
  rcases hx with ⟨rfl, h0, rfl⟩ | ⟨g, h, c, cur, ys, o', rfl, rfl, hg, hc, hsz, hrows, hat⟩
  · have hl0 : l = [] := by simpa using h0
    subst hl0
    refine (Go.Proofs.Any.slices_Sort_int_none Go.Proofs.Tryz.laysSort none 0 w).mono ?_
    rintro e w' ⟨rfl, rfl⟩
    refine ⟨_, [], [], rfl, Ext.refl _ _, by simp [RepV, RepVs], ?_, by simp, by simp⟩
    simp only [RepVs, RepV, RepC]
    exact ⟨_, _, [], [], rfl, rfl, .inl ⟨rfl, by simp [srt], rfl⟩, rfl, rfl⟩
  · obtain ⟨rfl, rfl⟩ := int_cells hrows
    simp only [Nat.mul_one, List.length_map] at *
    have hH := holds_of hg hat
    have hgs : g < w.heap.size := (hfz g (by simp)).2
    refine (Go.Proofs.Any.slices_Sort_int Go.Proofs.Tryz.laysSort g h c l w hH hgs (by omega)).mono ?_
    rintro e' w' ⟨rfl, n, ob, hw⟩
    obtain ⟨hE, hg', hs', hat', hle⟩ := put_ext (n := n) (os := ob) (m := srt l) hg hat (srt_len l)
    rw [show grow (putRow (Value.int .i64) (Sort.ahead w n) g h (srt l).toArray) ob = w' from hw.symm] at hE hg' hat' hle
    refine ⟨_, [], [g], rfl, hE, by simp [RepV, RepVs], ?_, by simp, ?_⟩
    · simp only [RepVs, RepV, RepC]
      refine ⟨_, _, [g], [], rfl, rfl, .inr ⟨g, h, c, _, _, [], ?_, rfl, hg', ?_, ?_, cells_int _, ?_⟩, rfl, rfl⟩
      · simp [srt_len]
      · simpa [srt_len] using hc
      · simpa [hs'] using hsz
      · simpa using hat'
    · intro b hb
      simp only [List.nil_append, List.mem_singleton] at hb
      subst hb
      exact ⟨.inl (by simp), by omega⟩

def cmpct (l : List Int) : List Int := Lib.compact l

theorem cmpct_def (l : List Int) : Lib.compact l = cmpct l := rfl

theorem cmpct_le (l : List Int) : (cmpct l).length ≤ l.length := by
  unfold cmpct Lib.compact Lib.compactUpTo
  rw [List.length_map]
  refine Nat.le_trans (List.length_filter_le _ _) ?_
  simp

theorem d193 (l : List Int) (hl : (l.length : Int) ≤ 1152921504606846976) : Does Go.Proofs.Tryz.prog 193 [.usl 3 1 (l.map iv)] false (.usl 3 1 ((cmpct l).map iv)) [.dead] := by
  refine ⟨by decide +kernel, ?_⟩
  intro w Fz xs os hrep hos hfz hlt
  simp only [RepVs, RepV, RepC] at hrep
  obtain ⟨x, xs', o1, o2, rfl, rfl, hx, rfl, rfl⟩ := hrep
  simp only [List.append_nil] at *
  rcases hx with ⟨rfl, h0, rfl⟩ | ⟨g, h, c, cur, ys, o', rfl, rfl, hg, hc, hsz, hrows, hat⟩
  · have hl0 : l = [] := by simpa using h0
    subst hl0
    refine (Go.Proofs.Any.slices_Compact_int_empty Go.Proofs.Tryz.laysCompact none 0 w).mono ?_
    rintro e w' ⟨rfl, rfl⟩
    refine ⟨_, [], [], rfl, Ext.refl _ _, ?_, ?_, by simp, by simp⟩
    · simp [RepV, RepC, cmpct, Lib.compact, Lib.compactUpTo]
    · simp only [RepVs, RepV]
      exact ⟨_, _, [], [], rfl, rfl, rfl, rfl, rfl⟩
  · obtain ⟨rfl, rfl⟩ := int_cells hrows
    simp only [Nat.mul_one, List.length_map] at *
    have hH := holds_of hg hat
    have hcl := cmpct_le l
    have key := Go.Proofs.Any.slices_Compact_int Go.Proofs.Tryz.laysCompact g h c l w hH (by omega) hc
    simp only [cmpct_def] at key
    refine key.mono ?_
    rintro e' w' ⟨rfl, n, hw⟩
    have hmm : (cmpct l ++ List.replicate (l.length - (cmpct l).length) 0).length = l.length := by simp; omega
    obtain ⟨hE, hg', hs', hat', hle⟩ := put_ext (n := n) (os := #[]) (m := cmpct l ++ List.replicate (l.length - (cmpct l).length) 0) hg hat hmm
    rw [grow_empty, ← hw] at hE hg' hat' hle
    refine ⟨_, [g], [], rfl, hE, ?_, ?_, by simp, ?_⟩
    · simp only [RepV, RepC]
      refine .inr ⟨g, h, c, _, _, [], ?_, rfl, hg', ?_, ?_, cells_int _, ?_⟩
      · simp
      · simp; omega
      · simpa [hs'] using hsz
      · intro j u hj
        simp only [Nat.mul_one]
        refine hat' j u ?_
        rw [List.map_append, List.getElem?_append_left]
        · exact hj
        · rcases Nat.lt_or_ge j ((cmpct l).map (Value.int .i64)).length with h | h
          · exact h
          · rw [List.getElem?_eq_none h] at hj; cases hj
    · simp only [RepVs, RepV]
      exact ⟨_, _, [], [], rfl, rfl, rfl, rfl, rfl⟩
    · intro b hb
      simp only [List.append_nil, List.mem_singleton] at hb
      subst hb
      have := (hfz b (by simp)).2
      exact ⟨.inl (by simp), by omega⟩

end Go.AM
