/- Contracts of functions of the given program, for the law FnExactFoldExpr: what they return and what they write, under the bounds that each theorem states. -/
import Derived.Test.YtleomgfaplldiaaC9
import Derived.Test.YtleomgfaplldiaaT84
namespace Go.AM
set_option linter.unusedVariables false
set_option linter.unusedSimpArgs false

/-- loop.example/g00837/laws.FnExactFoldExpr -/
def m12 : MC :=
  (.seq
   (.reg [⟨(some 4), none, .a (.asg (.c (.bool false)))⟩])
   (.keep [0, 1]
   (.seq
    (.reg [⟨(some 5), none, .a (.asg (.c (.int .i64 1048576)))⟩])
    (.keep [0, 1, 5]
    (.seq
     (.reg [⟨(some 17), none, .q (.mov (.t 0))⟩,
       ⟨(some 18), none, .q (.mov (.t 5))⟩,
       ⟨(some 19), none, .a (.call (.fn 36) false [.lend (.t 17), .lend (.t 18)])⟩,
       ⟨(some 5), none, .a (.asg (.t 19))⟩])
     (.keep [0, 1, 5]
     (.seq
      (.seq
       (.reg [⟨(some 20), none, .q (.mov (.t 5))⟩,
         ⟨(some 21), none, .q (.bin false .lss (.t 20) (.c (.int .i64 0)))⟩])
       (.keep [0, 1, 5, 21]
       (.cond (.t 21)
        (.seq
         (.reg [⟨(some 4), none, .a (.asg (.c (.bool true)))⟩])
         .ret)
        .skip)))
      (.keep [0, 1, 5]
      (.seq
       (.reg [⟨(some 22), none, .q (.mov (.t 1))⟩,
         ⟨(some 23), none, .q (.mov (.t 5))⟩,
         ⟨(some 24), none, .a (.call (.fn 54) false [.lend (.t 22), .lend (.t 23)])⟩,
         ⟨(some 5), none, .a (.asg (.t 24))⟩])
       (.keep [0, 1, 5]
       (.seq
        (.seq
         (.reg [⟨(some 25), none, .q (.mov (.t 5))⟩,
           ⟨(some 26), none, .q (.bin false .lss (.t 25) (.c (.int .i64 0)))⟩])
         (.keep [0, 1, 26]
         (.cond (.t 26)
          (.seq
           (.reg [⟨(some 4), none, .a (.asg (.c (.bool true)))⟩])
           .ret)
          .skip)))
        (.keep [0, 1]
        (.seq
         (.reg [⟨(some 28), none, .q (.mov (.t 0))⟩,
           ⟨(some 29), none, .a (.call (.fn 38) false [.lend (.t 28)])⟩,
           ⟨(some 30), none, .q (.mov (.t 1))⟩,
           ⟨(some 31), none, .a (.call (.fn 56) false [.lend (.t 30)])⟩,
           ⟨(some 32), none, .a (.call (.fn 55) false [.lend (.t 29), .lend (.t 31)])⟩,
           ⟨(some 27), none, .a (.asg (.t 32))⟩,
           ⟨(some 33), none, .q (.ext 27 0)⟩,
           ⟨(some 34), none, .q (.ext 27 1)⟩,
           ⟨(some 6), none, .a (.asg (.t 33))⟩,
           ⟨(some 7), none, .a (.asg (.t 34))⟩])
         (.keep [0, 1, 6, 7, 27, 32, 33]
         (.seq
          (.reg [⟨(some 35), none, .q (.mov (.t 0))⟩,
            ⟨(some 36), none, .a (.call (.fn 38) false [.lend (.t 35)])⟩,
            ⟨(some 8), none, .a (.asg (.t 36))⟩])
          (.keep [0, 1, 6, 7, 8, 27, 32, 33, 36]
          (.seq
           (.reg [⟨(some 37), none, .q (.mov (.t 1))⟩,
             ⟨(some 38), none, .a (.call (.fn 56) false [.lend (.t 37)])⟩,
             ⟨(some 9), none, .a (.asg (.t 38))⟩])
           (.keep [0, 1, 6, 7, 8, 9, 27, 32, 33, 36, 38]
           (.seq
            (.reg [⟨(some 40), none, .q (.mov (.t 8))⟩,
              ⟨(some 41), none, .q (.mov (.t 9))⟩,
              ⟨(some 42), none, .a (.call (.fn 57) false [.lend (.t 40), .lend (.t 41)])⟩,
              ⟨(some 39), none, .a (.asg (.t 42))⟩,
              ⟨(some 43), none, .q (.ext 39 0)⟩,
              ⟨(some 44), none, .q (.ext 39 1)⟩,
              ⟨(some 10), none, .a (.asg (.t 43))⟩,
              ⟨(some 11), none, .a (.asg (.t 44))⟩])
            (.keep [0, 1, 6, 7, 8, 9, 10, 11, 27, 32, 33, 36, 38, 39, 42, 43]
            (.seq
             (.seq
              (.reg [⟨(some 45), none, .q (.mov (.t 10))⟩,
                ⟨(some 46), none, .q (.mov (.t 6))⟩,
                ⟨(some 47), none, .a (.call (.fn 41) false [.lend (.t 45), .lend (.t 46)])⟩,
                ⟨(some 48), none, .q (.un .not (.t 47))⟩,
                ⟨(some 49), none, .q (.mov (.t 48))⟩,
                ⟨(some 50), (some (49, false)), .q (.mov (.t 11))⟩,
                ⟨(some 51), (some (49, false)), .q (.mov (.t 7))⟩,
                ⟨(some 52), (some (49, false)), .q (.bin true .neq (.t 50) (.t 51))⟩,
                ⟨(some 53), none, .q (.pick (.t 49) (.c (.bool true)) (.t 52))⟩])
              (.keep [0, 1, 6, 7, 8, 9, 10, 11, 27, 32, 33, 36, 38, 39, 42, 43, 53]
              (.cond (.t 53)
               (.seq
                (.reg [⟨(some 4), none, .a (.asg (.c (.bool false)))⟩])
                .ret)
               .skip)))
             (.keep [0, 1, 6, 7, 8, 9, 10, 11, 27, 32, 33, 36, 38, 39, 42, 43]
             (.seq
              (.seq
               (.reg [⟨(some 54), none, .q (.mov (.t 8))⟩,
                 ⟨(some 55), none, .q (.mov (.t 0))⟩,
                 ⟨(some 56), none, .a (.call (.fn 38) false [.lend (.t 55)])⟩,
                 ⟨(some 57), none, .a (.call (.fn 41) false [.lend (.t 54), .lend (.t 56)])⟩,
                 ⟨(some 58), none, .q (.un .not (.t 57))⟩])
               (.keep [0, 1, 6, 7, 8, 9, 10, 11, 27, 32, 33, 36, 38, 39, 42, 43, 58]
               (.cond (.t 58)
                (.seq
                 (.reg [⟨(some 4), none, .a (.asg (.c (.bool false)))⟩])
                 .ret)
                .skip)))
              (.keep [0, 1, 6, 7, 8, 9, 10, 11, 27, 32, 33, 36, 38, 39, 42, 43]
              (.seq
               (.seq
                (.reg [⟨(some 59), none, .q (.mov (.t 9))⟩,
                  ⟨(some 60), none, .q (.mov (.t 1))⟩,
                  ⟨(some 61), none, .a (.call (.fn 56) false [.lend (.t 60)])⟩,
                  ⟨(some 62), none, .a (.call (.fn 58) false [.lend (.t 59), .lend (.t 61)])⟩,
                  ⟨(some 63), none, .q (.un .not (.t 62))⟩])
                (.keep [0, 1, 6, 7, 8, 9, 10, 11, 27, 32, 33, 36, 38, 39, 42, 43, 63]
                (.cond (.t 63)
                 (.seq
                  (.reg [⟨(some 4), none, .a (.asg (.c (.bool false)))⟩])
                  .ret)
                 .skip)))
               (.keep [0, 1, 6, 7, 8, 9, 10, 11, 27, 32, 33, 36, 38, 39, 42, 43]
               (.seq
                (.reg [⟨(some 12), none, .a (.asg (.c (.int .i64 1)))⟩])
                (.keep [0, 1, 6, 7, 8, 9, 10, 11, 12, 27, 32, 33, 36, 38, 39, 42, 43]
                (.seq
                 (.reg [⟨(some 64), none, .q (.mov (.t 8))⟩,
                   ⟨(some 65), none, .q (.mov (.t 12))⟩,
                   ⟨(some 66), none, .a (.call (.fn 42) false [.io (.t 64), .lend (.t 65)])⟩,
                   ⟨(some 12), none, .a (.asg (.t 66))⟩])
                 (.keep [0, 1, 6, 7, 9, 10, 11, 12, 27, 32, 33, 38, 39, 42, 43]
                 (.seq
                  (.reg [⟨(some 67), none, .q (.mov (.t 9))⟩,
                    ⟨(some 68), none, .q (.mov (.t 12))⟩,
                    ⟨(some 69), none, .a (.call (.fn 59) false [.io (.t 67), .lend (.t 68)])⟩,
                    ⟨(some 12), none, .a (.asg (.t 69))⟩])
                  (.keep [0, 1, 6, 7, 10, 11, 12, 27, 32, 33, 39, 42, 43]
                  (.seq
                   (.seq
                    (.reg [⟨(some 70), none, .q (.mov (.t 12))⟩,
                      ⟨(some 71), none, .q (.bin false .lss (.t 70) (.c (.int .i64 0)))⟩,
                      ⟨(some 72), none, .q (.mov (.t 71))⟩,
                      ⟨(some 73), (some (72, false)), .q (.mov (.t 10))⟩,
                      ⟨(some 74), (some (72, false)), .q (.mov (.t 6))⟩,
                      ⟨(some 75), (some (72, false)), .a (.call (.fn 41) false [.lend (.t 73), .lend (.t 74)])⟩,
                      ⟨(some 76), (some (72, false)), .q (.un .not (.t 75))⟩,
                      ⟨(some 77), none, .q (.pick (.t 72) (.c (.bool true)) (.t 76))⟩,
                      ⟨(some 78), none, .q (.mov (.t 77))⟩,
                      ⟨(some 79), (some (78, false)), .q (.mov (.t 11))⟩,
                      ⟨(some 80), (some (78, false)), .q (.mov (.t 7))⟩,
                      ⟨(some 81), (some (78, false)), .q (.bin true .neq (.t 79) (.t 80))⟩,
                      ⟨(some 82), none, .q (.pick (.t 78) (.c (.bool true)) (.t 81))⟩])
                    (.keep [0, 1, 6, 7, 10, 27, 32, 33, 39, 42, 43, 82]
                    (.cond (.t 82)
                     (.seq
                      (.reg [⟨(some 4), none, .a (.asg (.c (.bool false)))⟩])
                      .ret)
                     .skip)))
                   (.keep [0, 1, 6, 7, 10, 27, 32, 33, 39, 42, 43]
                   (.seq
                    (.reg [⟨(some 13), none, .a (.asg (.c (.int .i64 1)))⟩])
                    (.keep [0, 1, 6, 7, 10, 13, 27, 32, 33, 39, 42, 43]
                    (.seq
                     (.reg [⟨(some 83), none, .q (.mov (.t 10))⟩,
                       ⟨(some 84), none, .q (.mov (.t 13))⟩,
                       ⟨(some 85), none, .a (.call (.fn 42) false [.io (.t 83), .lend (.t 84)])⟩,
                       ⟨(some 13), none, .a (.asg (.t 85))⟩])
                     (.keep [0, 1, 6, 7, 10, 13, 27, 32, 33, 39, 42, 43]
                     (.seq
                      (.reg [⟨(some 14), none, .a (.asg (.c (.int .i64 1)))⟩])
                      (.keep [0, 1, 6, 7, 10, 13, 14, 27, 32, 33, 39, 42, 43]
                      (.seq
                       (.reg [⟨(some 86), none, .q (.mov (.t 10))⟩,
                         ⟨(some 87), none, .q (.mov (.t 14))⟩,
                         ⟨(some 88), none, .a (.call (.fn 60) false [.lend (.t 86), .lend (.t 87)])⟩,
                         ⟨(some 14), none, .a (.asg (.t 88))⟩])
                       (.keep [0, 1, 6, 7, 10, 13, 14, 27, 32, 33, 39, 42, 43]
                       (.seq
                        (.seq
                         (.reg [⟨(some 89), none, .q (.mov (.t 14))⟩,
                           ⟨(some 90), none, .q (.bin false .lss (.t 89) (.c (.int .i64 0)))⟩])
                         (.keep [0, 1, 6, 7, 10, 13, 14, 27, 32, 33, 39, 42, 43, 90]
                         (.cond (.t 90)
                          (.seq
                           (.reg [⟨(some 4), none, .a (.asg (.c (.bool false)))⟩])
                           .ret)
                          .skip)))
                        (.keep [0, 1, 6, 7, 10, 13, 14, 27, 32, 33, 39, 42, 43]
                        (.seq
                         (.seq
                          (.reg [⟨(some 91), none, .q (.mov (.t 14))⟩,
                            ⟨(some 92), none, .q (.mov (.t 13))⟩,
                            ⟨(some 93), none, .q (.bin false .neq (.t 91) (.t 92))⟩])
                          (.keep [0, 1, 6, 7, 10, 13, 27, 32, 33, 39, 42, 43, 93]
                          (.cond (.t 93)
                           (.seq
                            (.reg [⟨(some 4), none, .a (.asg (.c (.bool false)))⟩])
                            .ret)
                           .skip)))
                         (.keep [0, 1, 6, 7, 10, 13, 27, 32, 33, 39, 42, 43]
                         (.seq
                          (.reg [⟨(some 95), none, .q (.mov (.t 0))⟩,
                            ⟨(some 96), none, .a (.call (.fn 38) false [.lend (.t 95)])⟩,
                            ⟨(some 97), none, .q (.mov (.t 1))⟩,
                            ⟨(some 98), none, .a (.call (.fn 56) false [.lend (.t 97)])⟩,
                            ⟨(some 99), none, .a (.call (.fn 57) false [.lend (.t 96), .lend (.t 98)])⟩,
                            ⟨(some 94), none, .a (.asg (.t 99))⟩,
                            ⟨(some 100), none, .q (.ext 94 0)⟩,
                            ⟨(some 101), none, .q (.ext 94 1)⟩,
                            ⟨(some 15), none, .a (.asg (.t 100))⟩,
                            ⟨(some 16), none, .a (.asg (.t 101))⟩])
                          (.keep [6, 7, 10, 13, 15, 16, 27, 32, 33, 39, 42, 43, 94, 99, 100]
                          (.seq
                           (.seq
                            (.reg [⟨(some 102), none, .q (.mov (.t 15))⟩,
                              ⟨(some 103), none, .q (.mov (.t 6))⟩,
                              ⟨(some 104), none, .a (.call (.fn 41) false [.lend (.t 102), .lend (.t 103)])⟩,
                              ⟨(some 105), none, .q (.un .not (.t 104))⟩,
                              ⟨(some 106), none, .q (.mov (.t 105))⟩,
                              ⟨(some 107), (some (106, false)), .q (.mov (.t 16))⟩,
                              ⟨(some 108), (some (106, false)), .q (.mov (.t 7))⟩,
                              ⟨(some 109), (some (106, false)), .q (.bin true .neq (.t 107) (.t 108))⟩,
                              ⟨(some 110), none, .q (.pick (.t 106) (.c (.bool true)) (.t 109))⟩])
                            (.keep [10, 13, 39, 42, 43, 110]
                            (.cond (.t 110)
                             (.seq
                              (.reg [⟨(some 4), none, .a (.asg (.c (.bool false)))⟩])
                              .ret)
                             .skip)))
                           (.keep [10, 13, 39, 42, 43]
                           (.seq
                            (.reg [⟨(some 14), none, .a (.asg (.c (.int .i64 1)))⟩])
                            (.keep [10, 13, 14, 39, 42, 43]
                            (.seq
                             (.reg [⟨(some 111), none, .q (.mov (.t 10))⟩,
                               ⟨(some 112), none, .q (.mov (.t 14))⟩,
                               ⟨(some 113), none, .a (.call (.fn 60) false [.lend (.t 111), .lend (.t 112)])⟩,
                               ⟨(some 14), none, .a (.asg (.t 113))⟩])
                             (.keep [13, 14]
                             (.seq
                              (.seq
                               (.reg [⟨(some 114), none, .q (.mov (.t 14))⟩,
                                 ⟨(some 115), none, .q (.bin false .lss (.t 114) (.c (.int .i64 0)))⟩])
                               (.keep [13, 14, 115]
                               (.cond (.t 115)
                                (.seq
                                 (.reg [⟨(some 4), none, .a (.asg (.c (.bool false)))⟩])
                                 .ret)
                                .skip)))
                              (.keep [13, 14]
                              (.seq
                               (.seq
                                (.reg [⟨(some 116), none, .q (.mov (.t 14))⟩,
                                  ⟨(some 117), none, .q (.mov (.t 13))⟩,
                                  ⟨(some 118), none, .q (.bin false .neq (.t 116) (.t 117))⟩])
                                (.keep [118]
                                (.cond (.t 118)
                                 (.seq
                                  (.reg [⟨(some 4), none, .a (.asg (.c (.bool false)))⟩])
                                  .ret)
                                 .skip)))
                               (.keep []
                               (.seq
                                (.reg [⟨(some 4), none, .a (.asg (.c (.bool true)))⟩])
                                .ret)))))))))))))))))))))))))))))))))))))))))))))))))))))))))))


set_option maxRecDepth 100000 in
theorem d12 (l : List Step) (K : List Known) (hl : (l.length : Int) ≤ 9223372036854775807) (hs : ∀ s ∈ l, s.ok) (hk : (K.length : Int) ≤ 9223372036854775807) (hks : ∀ s ∈ K, s.ok) :
    Does Go.Proofs.Try.prog 12 [.fsl 4 (l.map Step.c), .fsl 3 (K.map Known.c)] false (.v (.bool true)) [.dead, .dead] := by
  refine does_intro (mc := m12) (N := 119) (rs := [4]) (fx := []) 2 rfl (by decide +kernel) ?_
  simp only [m12, EV, Nat.reduceEqDiff, Nat.reduceBEq, Nat.reduceLT, Nat.reduceLeDiff, Nat.reduceAdd, Nat.reduceSub, reduceIte]
  refine callK_i (d36 l 1048576 (by omega) (by omega) hl hs) ?_
  simp only [EV, Nat.reduceEqDiff, Nat.reduceBEq, Nat.reduceLT, Nat.reduceLeDiff, Nat.reduceAdd, Nat.reduceSub, reduceIte]
  refine cK_cut (fun h => ?_) (fun h => ?_)
  · simp only [EV, Nat.reduceEqDiff, Nat.reduceBEq, Nat.reduceLT, Nat.reduceLeDiff, Nat.reduceAdd, Nat.reduceSub, reduceIte]
    simp only [EV, Nat.reduceEqDiff, Nat.reduceBEq, Nat.reduceLT, Nat.reduceLeDiff, Nat.reduceAdd, Nat.reduceSub, reduceIte, retVC, cellV', evR, nfz, nfzs, nfzss, List.contains_nil, List.contains_cons, Bool.or_false, or_true]
  have h0 : 0 ≤ szStepS l 1048576 := by simpa using h
  have h1 := szStepS_tot l _ h0
  have h2 := totSteps_nn l
  have h3 : (l.length : Int) ≤ 1048576 := by omega
  have h4 : l.length < 9223372036854775807 := by omega
  have g0 := szStepS_le l 1048576 (by omega)
  clear h
  simp only [EV, Nat.reduceEqDiff, Nat.reduceBEq, Nat.reduceLT, Nat.reduceLeDiff, Nat.reduceAdd, Nat.reduceSub, reduceIte]
  refine callK_i (d54 K (szStepS l 1048576) h0 g0 hk hks) ?_
  simp only [EV, Nat.reduceEqDiff, Nat.reduceBEq, Nat.reduceLT, Nat.reduceLeDiff, Nat.reduceAdd, Nat.reduceSub, reduceIte]
  refine cK_cut (fun h => ?_) (fun h => ?_)
  · simp only [EV, Nat.reduceEqDiff, Nat.reduceBEq, Nat.reduceLT, Nat.reduceLeDiff, Nat.reduceAdd, Nat.reduceSub, reduceIte]
    simp only [EV, Nat.reduceEqDiff, Nat.reduceBEq, Nat.reduceLT, Nat.reduceLeDiff, Nat.reduceAdd, Nat.reduceSub, reduceIte, retVC, cellV', evR, nfz, nfzs, nfzss, List.contains_nil, List.contains_cons, Bool.or_false, or_true]
  have c0 : 0 ≤ szKnownS K (szStepS l 1048576) := by simpa using h
  have c1 := szKnownS_tot K _ c0
  have c2 := totKnowns_nn K
  have c3 : (K.length : Int) ≤ 1048576 := by omega
  have c4 : K.length < 9223372036854775807 := by omega
  clear h
  have ds := d55 l K h3 hs c4
  have di := d57 l K h3 hs c4
  have h5 : (foldL K l).length ≤ l.length + 2 := by
    unfold foldL
    split
    · simp
    · split
      · omega
      · split <;> simp
  generalize foldL K l = R at h5 ds di
  generalize foldB K l = B at ds di
  have h6 : R.length < 9223372036854775807 := by omega
  have hq1 : decide (1 + 4 * (l.length : Int) + 3 * (K.length : Int) < 0) = false := by simp; omega
  have hq2 : decide (1 + 4 * (R.length : Int) < 0) = false := by simp; omega
  simp only [EV, Nat.reduceEqDiff, Nat.reduceBEq, Nat.reduceLT, Nat.reduceLeDiff, Nat.reduceAdd, Nat.reduceSub, reduceIte]
  refine callK_i (d38 l h3) ?_
  simp only [Step.frz, Known.frz, EV, Nat.reduceEqDiff, Nat.reduceBEq, Nat.reduceLT, Nat.reduceLeDiff, Nat.reduceAdd, Nat.reduceSub, reduceIte]
  refine callK_i (d56 K c3) ?_
  simp only [Step.frz, Known.frz, EV, Nat.reduceEqDiff, Nat.reduceBEq, Nat.reduceLT, Nat.reduceLeDiff, Nat.reduceAdd, Nat.reduceSub, reduceIte]
  refine callK_i ds ?_
  simp only [Step.frz, Known.frz, EV, Nat.reduceEqDiff, Nat.reduceBEq, Nat.reduceLT, Nat.reduceLeDiff, Nat.reduceAdd, Nat.reduceSub, reduceIte]
  refine callK_i (d38 l h3) ?_
  simp only [Step.frz, Known.frz, EV, Nat.reduceEqDiff, Nat.reduceBEq, Nat.reduceLT, Nat.reduceLeDiff, Nat.reduceAdd, Nat.reduceSub, reduceIte]
  refine callK_i (d56 K c3) ?_
  simp only [Step.frz, Known.frz, EV, Nat.reduceEqDiff, Nat.reduceBEq, Nat.reduceLT, Nat.reduceLeDiff, Nat.reduceAdd, Nat.reduceSub, reduceIte]
  refine callK_i di ?_
  simp only [Step.frz, Known.frz, EV, Nat.reduceEqDiff, Nat.reduceBEq, Nat.reduceLT, Nat.reduceLeDiff, Nat.reduceAdd, Nat.reduceSub, reduceIte]
  refine callK_i (d41 R h6) ?_
  simp only [Step.frz, Known.frz, bne_self_eq_false, EV, Nat.reduceEqDiff, Nat.reduceBEq, Nat.reduceLT, Nat.reduceLeDiff, Nat.reduceAdd, Nat.reduceSub, reduceIte]
  refine callK_i (d38 l h3) ?_
  simp only [Step.frz, Known.frz, EV, Nat.reduceEqDiff, Nat.reduceBEq, Nat.reduceLT, Nat.reduceLeDiff, Nat.reduceAdd, Nat.reduceSub, reduceIte]
  refine callK_i (d41 l h4) ?_
  simp only [Step.frz, Known.frz, EV, Nat.reduceEqDiff, Nat.reduceBEq, Nat.reduceLT, Nat.reduceLeDiff, Nat.reduceAdd, Nat.reduceSub, reduceIte]
  refine callK_i (d56 K c3) ?_
  simp only [Step.frz, Known.frz, EV, Nat.reduceEqDiff, Nat.reduceBEq, Nat.reduceLT, Nat.reduceLeDiff, Nat.reduceAdd, Nat.reduceSub, reduceIte]
  refine callK_i (d58 K c4) ?_
  simp only [Step.frz, Known.frz, EV, Nat.reduceEqDiff, Nat.reduceBEq, Nat.reduceLT, Nat.reduceLeDiff, Nat.reduceAdd, Nat.reduceSub, reduceIte]
  refine callK2_i (d42 l 1 (by omega) (by omega)) rfl (by simp [shapeOf, mkStepS_len]) ?_
  simp only [Step.frz, Known.frz, EV, Nat.reduceEqDiff, Nat.reduceBEq, Nat.reduceLT, Nat.reduceLeDiff, Nat.reduceAdd, Nat.reduceSub, reduceIte]
  refine callK2_i (d59 K (1 + 4 * (l.length : Int)) (by omega) (by omega)) rfl (by simp [shapeOf, mkKnownS_len]) ?_
  simp only [Step.frz, Known.frz, hq1, EV, Nat.reduceEqDiff, Nat.reduceBEq, Nat.reduceLT, Nat.reduceLeDiff, Nat.reduceAdd, Nat.reduceSub, reduceIte]
  refine callK_i (d41 R h6) ?_
  simp only [Step.frz, Known.frz, bne_self_eq_false, EV, Nat.reduceEqDiff, Nat.reduceBEq, Nat.reduceLT, Nat.reduceLeDiff, Nat.reduceAdd, Nat.reduceSub, reduceIte]
  refine callK2_i (d42 R 1 (by omega) (by omega)) rfl (by simp [shapeOf, mkStepS_len]) ?_
  simp only [Step.frz, Known.frz, EV, Nat.reduceEqDiff, Nat.reduceBEq, Nat.reduceLT, Nat.reduceLeDiff, Nat.reduceAdd, Nat.reduceSub, reduceIte]
  refine callK_i (d60 R 1 (by omega) (by omega)) ?_
  simp only [Step.frz, Known.frz, hq2, EV, Nat.reduceEqDiff, Nat.reduceBEq, Nat.reduceLT, Nat.reduceLeDiff, Nat.reduceAdd, Nat.reduceSub, reduceIte]
  refine callK_i (d38 l h3) ?_
  simp only [Step.frz, Known.frz, EV, Nat.reduceEqDiff, Nat.reduceBEq, Nat.reduceLT, Nat.reduceLeDiff, Nat.reduceAdd, Nat.reduceSub, reduceIte]
  refine callK_i (d56 K c3) ?_
  simp only [Step.frz, Known.frz, EV, Nat.reduceEqDiff, Nat.reduceBEq, Nat.reduceLT, Nat.reduceLeDiff, Nat.reduceAdd, Nat.reduceSub, reduceIte]
  refine callK_i di ?_
  simp only [Step.frz, Known.frz, EV, Nat.reduceEqDiff, Nat.reduceBEq, Nat.reduceLT, Nat.reduceLeDiff, Nat.reduceAdd, Nat.reduceSub, reduceIte]
  refine callK_i (d41 R h6) ?_
  simp only [Step.frz, Known.frz, bne_self_eq_false, EV, Nat.reduceEqDiff, Nat.reduceBEq, Nat.reduceLT, Nat.reduceLeDiff, Nat.reduceAdd, Nat.reduceSub, reduceIte]
  refine callK_i (d60 R 1 (by omega) (by omega)) ?_
  simp only [Step.frz, Known.frz, hq2, EV, Nat.reduceEqDiff, Nat.reduceBEq, Nat.reduceLT, Nat.reduceLeDiff, Nat.reduceAdd, Nat.reduceSub, reduceIte]
  simp only [EV, Nat.reduceEqDiff, Nat.reduceBEq, Nat.reduceLT, Nat.reduceLeDiff, Nat.reduceAdd, Nat.reduceSub, reduceIte, retVC, cellV', evR, nfz, nfzs, nfzss, List.contains_nil, List.contains_cons, Bool.or_false, or_true]
end Go.AM
