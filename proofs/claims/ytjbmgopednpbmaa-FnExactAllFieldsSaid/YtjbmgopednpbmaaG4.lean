/- Contracts of functions of the given program, for the law FnExactAllFields: what they return and what they write, under the bounds that each theorem states. -/
import Derived.Test.YtjbmgopednpbmaaG3
namespace Go.AM
set_option linter.unusedVariables false
set_option linter.unusedSimpArgs false
theorem cnt_tot : ∀ l : List Ty, (∀ s ∈ l, s.sm) → cntTys l ≤ 5 * l.length + 3 * 1048576 * l.length
  | [], _ => by simp [cntTys]
  | t :: l, h => by
    have h1 := cnt_tot l fun s hs => h s (by simp [hs])
    have h2 := h t (by simp)
    unfold Ty.sm at h2
    have h3 := h2.2.2.2.1.1
    simp only [cntTys, cntTy, List.length_cons]
    omega

/-- loop.example/g00837/laws.FnExactReachedOf -/
def m7 : MC :=
  (.seq
   (.reg [⟨(some 4), none, .a (.asg (.c (.bool false)))⟩])
   (.keep [0, 1]
   (.seq
    (.seq
     (.reg [⟨(some 17), none, .q (.mov (.t 1))⟩,
       ⟨(some 18), none, .q (.len false (.t 17))⟩,
       ⟨(some 19), none, .q (.bin false .gtr (.t 18) (.c (.int .i64 1048576)))⟩])
     (.keep [0, 1, 19]
     (.cond (.t 19)
      (.seq
       (.reg [⟨(some 4), none, .a (.asg (.c (.bool true)))⟩])
       .ret)
      .skip)))
    (.keep [0, 1]
    (.seq
     (.reg [⟨(some 5), none, .a (.asg (.c (.int .i64 1048576)))⟩])
     (.keep [0, 1, 5]
     (.seq
      (.reg [⟨(some 20), none, .q (.mov (.t 0))⟩,
        ⟨(some 21), none, .q (.mov (.t 5))⟩,
        ⟨(some 22), none, .a (.call (.fn 18) false [.lend (.t 20), .lend (.t 21)])⟩,
        ⟨(some 5), none, .a (.asg (.t 22))⟩])
      (.keep [0, 1, 5]
      (.seq
       (.seq
        (.reg [⟨(some 23), none, .q (.mov (.t 5))⟩,
          ⟨(some 24), none, .q (.bin false .lss (.t 23) (.c (.int .i64 0)))⟩])
        (.keep [0, 1, 24]
        (.cond (.t 24)
         (.seq
          (.reg [⟨(some 4), none, .a (.asg (.c (.bool true)))⟩])
          .ret)
         .skip)))
       (.keep [0, 1]
       (.seq
        (.reg [⟨(some 26), none, .q (.mov (.t 0))⟩,
          ⟨(some 27), none, .a (.call (.fn 20) false [.lend (.t 26)])⟩,
          ⟨(some 28), none, .q (.mov (.t 1))⟩,
          ⟨(some 29), none, .a (.call (.fn 28) false [.lend (.t 28)])⟩,
          ⟨(some 30), none, .a (.call (.fn 27) false [.lend (.t 27), .lend (.t 29)])⟩,
          ⟨(some 25), none, .a (.asg (.t 30))⟩,
          ⟨(some 31), none, .q (.ext 25 0)⟩,
          ⟨(some 32), none, .q (.ext 25 1)⟩,
          ⟨(some 6), none, .a (.asg (.t 31))⟩,
          ⟨(some 7), none, .a (.asg (.t 32))⟩])
        (.keep [0, 1, 6, 7, 25, 30, 31]
        (.seq
         (.reg [⟨(some 33), none, .q (.mov (.t 0))⟩,
           ⟨(some 34), none, .a (.call (.fn 20) false [.lend (.t 33)])⟩,
           ⟨(some 8), none, .a (.asg (.t 34))⟩])
         (.keep [0, 1, 6, 7, 8, 25, 30, 31, 34]
         (.seq
          (.reg [⟨(some 35), none, .q (.mov (.t 1))⟩,
            ⟨(some 36), none, .a (.call (.fn 28) false [.lend (.t 35)])⟩,
            ⟨(some 9), none, .a (.asg (.t 36))⟩])
          (.keep [0, 1, 6, 7, 8, 9, 25, 30, 31, 34, 36]
          (.seq
           (.reg [⟨(some 38), none, .q (.mov (.t 8))⟩,
             ⟨(some 39), none, .q (.mov (.t 9))⟩,
             ⟨(some 40), none, .a (.call (.fn 29) false [.lend (.t 38), .lend (.t 39)])⟩,
             ⟨(some 37), none, .a (.asg (.t 40))⟩,
             ⟨(some 41), none, .q (.ext 37 0)⟩,
             ⟨(some 42), none, .q (.ext 37 1)⟩,
             ⟨(some 10), none, .a (.asg (.t 41))⟩,
             ⟨(some 11), none, .a (.asg (.t 42))⟩])
           (.keep [0, 1, 6, 7, 8, 9, 10, 11, 25, 30, 31, 34, 36, 37, 40, 41]
           (.seq
            (.seq
             (.reg [⟨(some 43), none, .q (.mov (.t 10))⟩,
               ⟨(some 44), none, .q (.mov (.t 6))⟩,
               ⟨(some 45), none, .a (.call (.fn 30) false [.lend (.t 43), .lend (.t 44)])⟩,
               ⟨(some 46), none, .q (.un .not (.t 45))⟩,
               ⟨(some 47), none, .q (.mov (.t 46))⟩,
               ⟨(some 48), (some (47, false)), .q (.mov (.t 11))⟩,
               ⟨(some 49), (some (47, false)), .q (.mov (.t 7))⟩,
               ⟨(some 50), (some (47, false)), .q (.bin true .neq (.t 48) (.t 49))⟩,
               ⟨(some 51), none, .q (.pick (.t 47) (.c (.bool true)) (.t 50))⟩])
             (.keep [0, 1, 6, 7, 8, 9, 10, 11, 25, 30, 31, 34, 36, 37, 40, 41, 51]
             (.cond (.t 51)
              (.seq
               (.reg [⟨(some 4), none, .a (.asg (.c (.bool false)))⟩])
               .ret)
              .skip)))
            (.keep [0, 1, 6, 7, 8, 9, 10, 11, 25, 30, 31, 34, 36, 37, 40, 41]
            (.seq
             (.seq
              (.reg [⟨(some 52), none, .q (.mov (.t 8))⟩,
                ⟨(some 53), none, .q (.mov (.t 0))⟩,
                ⟨(some 54), none, .a (.call (.fn 20) false [.lend (.t 53)])⟩,
                ⟨(some 55), none, .a (.call (.fn 22) false [.lend (.t 52), .lend (.t 54)])⟩,
                ⟨(some 56), none, .q (.un .not (.t 55))⟩])
              (.keep [0, 1, 6, 7, 8, 9, 10, 11, 25, 30, 31, 34, 36, 37, 40, 41, 56]
              (.cond (.t 56)
               (.seq
                (.reg [⟨(some 4), none, .a (.asg (.c (.bool false)))⟩])
                .ret)
               .skip)))
             (.keep [0, 1, 6, 7, 8, 9, 10, 11, 25, 30, 31, 34, 36, 37, 40, 41]
             (.seq
              (.seq
               (.reg [⟨(some 57), none, .q (.mov (.t 9))⟩,
                 ⟨(some 58), none, .q (.mov (.t 1))⟩,
                 ⟨(some 59), none, .a (.call (.fn 28) false [.lend (.t 58)])⟩,
                 ⟨(some 60), none, .a (.call (.fn 30) false [.lend (.t 57), .lend (.t 59)])⟩,
                 ⟨(some 61), none, .q (.un .not (.t 60))⟩])
               (.keep [0, 1, 6, 7, 8, 9, 10, 11, 25, 30, 31, 34, 36, 37, 40, 41, 61]
               (.cond (.t 61)
                (.seq
                 (.reg [⟨(some 4), none, .a (.asg (.c (.bool false)))⟩])
                 .ret)
                .skip)))
              (.keep [0, 1, 6, 7, 8, 9, 10, 11, 25, 30, 31, 34, 36, 37, 40, 41]
              (.seq
               (.reg [⟨(some 12), none, .a (.asg (.c (.int .i64 1)))⟩])
               (.keep [0, 1, 6, 7, 8, 9, 10, 11, 12, 25, 30, 31, 34, 36, 37, 40, 41]
               (.seq
                (.reg [⟨(some 62), none, .q (.mov (.t 8))⟩,
                  ⟨(some 63), none, .q (.mov (.t 12))⟩,
                  ⟨(some 64), none, .a (.call (.fn 31) false [.io (.t 62), .lend (.t 63)])⟩,
                  ⟨(some 12), none, .a (.asg (.t 64))⟩])
                (.keep [0, 1, 6, 7, 9, 10, 11, 12, 25, 30, 31, 36, 37, 40, 41]
                (.seq
                 (.reg [⟨(some 65), none, .q (.mov (.t 9))⟩,
                   ⟨(some 66), none, .q (.mov (.t 12))⟩,
                   ⟨(some 67), none, .a (.call (.fn 32) false [.io (.t 65), .lend (.t 66)])⟩,
                   ⟨(some 12), none, .a (.asg (.t 67))⟩])
                 (.keep [0, 1, 6, 7, 10, 11, 12, 25, 30, 31, 37, 40, 41]
                 (.seq
                  (.seq
                   (.reg [⟨(some 68), none, .q (.mov (.t 12))⟩,
                     ⟨(some 69), none, .q (.bin false .lss (.t 68) (.c (.int .i64 0)))⟩,
                     ⟨(some 70), none, .q (.mov (.t 69))⟩,
                     ⟨(some 71), (some (70, false)), .q (.mov (.t 10))⟩,
                     ⟨(some 72), (some (70, false)), .q (.mov (.t 6))⟩,
                     ⟨(some 73), (some (70, false)), .a (.call (.fn 30) false [.lend (.t 71), .lend (.t 72)])⟩,
                     ⟨(some 74), (some (70, false)), .q (.un .not (.t 73))⟩,
                     ⟨(some 75), none, .q (.pick (.t 70) (.c (.bool true)) (.t 74))⟩,
                     ⟨(some 76), none, .q (.mov (.t 75))⟩,
                     ⟨(some 77), (some (76, false)), .q (.mov (.t 11))⟩,
                     ⟨(some 78), (some (76, false)), .q (.mov (.t 7))⟩,
                     ⟨(some 79), (some (76, false)), .q (.bin true .neq (.t 77) (.t 78))⟩,
                     ⟨(some 80), none, .q (.pick (.t 76) (.c (.bool true)) (.t 79))⟩])
                   (.keep [0, 1, 6, 7, 10, 25, 30, 31, 37, 40, 41, 80]
                   (.cond (.t 80)
                    (.seq
                     (.reg [⟨(some 4), none, .a (.asg (.c (.bool false)))⟩])
                     .ret)
                    .skip)))
                  (.keep [0, 1, 6, 7, 10, 25, 30, 31, 37, 40, 41]
                  (.seq
                   (.reg [⟨(some 13), none, .a (.asg (.c (.int .i64 1)))⟩])
                   (.keep [0, 1, 6, 7, 10, 13, 25, 30, 31, 37, 40, 41]
                   (.seq
                    (.reg [⟨(some 81), none, .q (.mov (.t 10))⟩,
                      ⟨(some 82), none, .q (.mov (.t 13))⟩,
                      ⟨(some 83), none, .a (.call (.fn 32) false [.io (.t 81), .lend (.t 82)])⟩,
                      ⟨(some 13), none, .a (.asg (.t 83))⟩])
                    (.keep [0, 1, 6, 7, 10, 13, 25, 30, 31, 37, 40, 41]
                    (.seq
                     (.reg [⟨(some 14), none, .a (.asg (.c (.int .i64 1)))⟩])
                     (.keep [0, 1, 6, 7, 10, 13, 14, 25, 30, 31, 37, 40, 41]
                     (.seq
                      (.reg [⟨(some 84), none, .q (.mov (.t 10))⟩,
                        ⟨(some 85), none, .q (.mov (.t 14))⟩,
                        ⟨(some 86), none, .a (.call (.fn 33) false [.lend (.t 84), .lend (.t 85)])⟩,
                        ⟨(some 14), none, .a (.asg (.t 86))⟩])
                      (.keep [0, 1, 6, 7, 10, 13, 14, 25, 30, 31, 37, 40, 41]
                      (.seq
                       (.seq
                        (.reg [⟨(some 87), none, .q (.mov (.t 14))⟩,
                          ⟨(some 88), none, .q (.bin false .lss (.t 87) (.c (.int .i64 0)))⟩])
                        (.keep [0, 1, 6, 7, 10, 13, 14, 25, 30, 31, 37, 40, 41, 88]
                        (.cond (.t 88)
                         (.seq
                          (.reg [⟨(some 4), none, .a (.asg (.c (.bool false)))⟩])
                          .ret)
                         .skip)))
                       (.keep [0, 1, 6, 7, 10, 13, 14, 25, 30, 31, 37, 40, 41]
                       (.seq
                        (.seq
                         (.reg [⟨(some 89), none, .q (.mov (.t 14))⟩,
                           ⟨(some 90), none, .q (.mov (.t 13))⟩,
                           ⟨(some 91), none, .q (.bin false .neq (.t 89) (.t 90))⟩])
                         (.keep [0, 1, 6, 7, 10, 13, 25, 30, 31, 37, 40, 41, 91]
                         (.cond (.t 91)
                          (.seq
                           (.reg [⟨(some 4), none, .a (.asg (.c (.bool false)))⟩])
                           .ret)
                          .skip)))
                        (.keep [0, 1, 6, 7, 10, 13, 25, 30, 31, 37, 40, 41]
                        (.seq
                         (.reg [⟨(some 93), none, .q (.mov (.t 0))⟩,
                           ⟨(some 94), none, .a (.call (.fn 20) false [.lend (.t 93)])⟩,
                           ⟨(some 95), none, .q (.mov (.t 1))⟩,
                           ⟨(some 96), none, .a (.call (.fn 28) false [.lend (.t 95)])⟩,
                           ⟨(some 97), none, .a (.call (.fn 29) false [.lend (.t 94), .lend (.t 96)])⟩,
                           ⟨(some 92), none, .a (.asg (.t 97))⟩,
                           ⟨(some 98), none, .q (.ext 92 0)⟩,
                           ⟨(some 99), none, .q (.ext 92 1)⟩,
                           ⟨(some 15), none, .a (.asg (.t 98))⟩,
                           ⟨(some 16), none, .a (.asg (.t 99))⟩])
                         (.keep [6, 7, 10, 13, 15, 16, 25, 30, 31, 37, 40, 41, 92, 97, 98]
                         (.seq
                          (.seq
                           (.reg [⟨(some 100), none, .q (.mov (.t 15))⟩,
                             ⟨(some 101), none, .q (.mov (.t 6))⟩,
                             ⟨(some 102), none, .a (.call (.fn 30) false [.lend (.t 100), .lend (.t 101)])⟩,
                             ⟨(some 103), none, .q (.un .not (.t 102))⟩,
                             ⟨(some 104), none, .q (.mov (.t 103))⟩,
                             ⟨(some 105), (some (104, false)), .q (.mov (.t 16))⟩,
                             ⟨(some 106), (some (104, false)), .q (.mov (.t 7))⟩,
                             ⟨(some 107), (some (104, false)), .q (.bin true .neq (.t 105) (.t 106))⟩,
                             ⟨(some 108), none, .q (.pick (.t 104) (.c (.bool true)) (.t 107))⟩])
                           (.keep [10, 13, 37, 40, 41, 108]
                           (.cond (.t 108)
                            (.seq
                             (.reg [⟨(some 4), none, .a (.asg (.c (.bool false)))⟩])
                             .ret)
                            .skip)))
                          (.keep [10, 13, 37, 40, 41]
                          (.seq
                           (.reg [⟨(some 14), none, .a (.asg (.c (.int .i64 1)))⟩])
                           (.keep [10, 13, 14, 37, 40, 41]
                           (.seq
                            (.reg [⟨(some 109), none, .q (.mov (.t 10))⟩,
                              ⟨(some 110), none, .q (.mov (.t 14))⟩,
                              ⟨(some 111), none, .a (.call (.fn 33) false [.lend (.t 109), .lend (.t 110)])⟩,
                              ⟨(some 14), none, .a (.asg (.t 111))⟩])
                            (.keep [13, 14]
                            (.seq
                             (.seq
                              (.reg [⟨(some 112), none, .q (.mov (.t 14))⟩,
                                ⟨(some 113), none, .q (.bin false .lss (.t 112) (.c (.int .i64 0)))⟩])
                              (.keep [13, 14, 113]
                              (.cond (.t 113)
                               (.seq
                                (.reg [⟨(some 4), none, .a (.asg (.c (.bool false)))⟩])
                                .ret)
                               .skip)))
                             (.keep [13, 14]
                             (.seq
                              (.seq
                               (.reg [⟨(some 114), none, .q (.mov (.t 14))⟩,
                                 ⟨(some 115), none, .q (.mov (.t 13))⟩,
                                 ⟨(some 116), none, .q (.bin false .neq (.t 114) (.t 115))⟩])
                               (.keep [116]
                               (.cond (.t 116)
                                (.seq
                                 (.reg [⟨(some 4), none, .a (.asg (.c (.bool false)))⟩])
                                 .ret)
                                .skip)))
                              (.keep []
                              (.seq
                               (.reg [⟨(some 4), none, .a (.asg (.c (.bool true)))⟩])
                               .ret)))))))))))))))))))))))))))))))))))))))))))))))))))))))))

set_option maxHeartbeats 1000000 in
set_option maxRecDepth 100000 in
theorem d7 (a : List Ty) (n : List Int) (ha : (a.length : Int) ≤ 9223372036854775807) (hoa : ∀ s ∈ a, s.ok) (hn0 : (n.length : Int) ≤ 9223372036854775807) :
    Does Go.Proofs.Try.prog 7 [.fsl 6 (a.map Ty.z), .fsl 1 (n.map iv)] false (.v (.bool true)) [.dead, .dead] := by
  refine does_intro (mc := m7) (N := 117) (rs := [4]) (fx := []) 2 rfl (by decide +kernel) ?_
  simp only [m7, EV, Nat.reduceEqDiff, Nat.reduceBEq, Nat.reduceLT, Nat.reduceLeDiff, Nat.reduceAdd, Nat.reduceSub, reduceIte]
  refine cK_cut (fun h => ?_) (fun h => ?_)
  · simp only [EV, Nat.reduceEqDiff, Nat.reduceBEq, Nat.reduceLT, Nat.reduceLeDiff, Nat.reduceAdd, Nat.reduceSub, reduceIte]
    simp only [EV, Nat.reduceEqDiff, Nat.reduceBEq, Nat.reduceLT, Nat.reduceLeDiff, Nat.reduceAdd, Nat.reduceSub, reduceIte, evRE, retVC, cellV', evR, nfz, nfzs, nfzss, List.contains_nil, List.contains_cons, Bool.or_false, or_true]
  have hn : (n.length : Int) ≤ 1048576 := by have : ¬ 1048576 < (n.length : Int) := by simpa using h
                                             omega
  clear h
  simp only [EV, Nat.reduceEqDiff, Nat.reduceBEq, Nat.reduceLT, Nat.reduceLeDiff, Nat.reduceAdd, Nat.reduceSub, reduceIte]
  refine callK_i (d18 a 1048576 (by omega) (by omega) ha hoa) ?_
  simp only [EV, Nat.reduceEqDiff, Nat.reduceBEq, Nat.reduceLT, Nat.reduceLeDiff, Nat.reduceAdd, Nat.reduceSub, reduceIte]
  refine cK_cut (fun h => ?_) (fun h => ?_)
  · simp only [EV, Nat.reduceEqDiff, Nat.reduceBEq, Nat.reduceLT, Nat.reduceLeDiff, Nat.reduceAdd, Nat.reduceSub, reduceIte]
    simp only [EV, Nat.reduceEqDiff, Nat.reduceBEq, Nat.reduceLT, Nat.reduceLeDiff, Nat.reduceAdd, Nat.reduceSub, reduceIte, evRE, retVC, cellV', evR, nfz, nfzs, nfzss, List.contains_nil, List.contains_cons, Bool.or_false, or_true]
  have h0 : 0 ≤ szTyS a 1048576 := by simpa using h
  have h1 := szTyS_tot a _ h0
  have h2 := totTys_nn a
  have h3 : (a.length : Int) ≤ 1048576 := by omega
  have hx : ∀ s ∈ a, s.sm := fun s g => s.sm_of (by have := totTys_mem a s g; omega)
  clear h
  have d27' := d27 a n h3 hx hn
  have d29' := d29 a n h3 hx hn
  have hRl : (if rchOk a n = true then reachL a true n else []).length ≤ 1048576 := by
    split
    · rename_i hr
      have := nodup_le (up_nodup (reachL_up a true n)) (fun k hk => (mem_reachL.1 hk).1)
      omega
    · simp
  generalize (if rchOk a n = true then reachL a true n else []) = R at d27' d29' hRl
  have hct := cnt_tot a hx
  have hcn := cntTys_nn a
  have hk1 : decide (1 + cntTys a + (n.length : Int) < 0) = false := by simp; omega
  have hk2 : decide (1 + (R.length : Int) < 0) = false := by simp; omega
  simp only [EV, Nat.reduceEqDiff, Nat.reduceBEq, Nat.reduceLT, Nat.reduceLeDiff, Nat.reduceAdd, Nat.reduceSub, reduceIte]
  refine callK_i (d20 a h3 hx) ?_
  simp only [Ty.frz, iv_frz, EV, Nat.reduceEqDiff, Nat.reduceBEq, Nat.reduceLT, Nat.reduceLeDiff, Nat.reduceAdd, Nat.reduceSub, reduceIte]
  refine callK_i (d28 n hn) ?_
  simp only [Ty.frz, iv_frz, EV, Nat.reduceEqDiff, Nat.reduceBEq, Nat.reduceLT, Nat.reduceLeDiff, Nat.reduceAdd, Nat.reduceSub, reduceIte]
  refine callK_i d27' ?_
  simp only [Ty.frz, iv_frz, EV, Nat.reduceEqDiff, Nat.reduceBEq, Nat.reduceLT, Nat.reduceLeDiff, Nat.reduceAdd, Nat.reduceSub, reduceIte]
  refine callK_i (d20 a h3 hx) ?_
  simp only [Ty.frz, iv_frz, EV, Nat.reduceEqDiff, Nat.reduceBEq, Nat.reduceLT, Nat.reduceLeDiff, Nat.reduceAdd, Nat.reduceSub, reduceIte]
  refine callK_i (d28 n hn) ?_
  simp only [Ty.frz, iv_frz, EV, Nat.reduceEqDiff, Nat.reduceBEq, Nat.reduceLT, Nat.reduceLeDiff, Nat.reduceAdd, Nat.reduceSub, reduceIte]
  refine callK_i d29' ?_
  simp only [Ty.frz, iv_frz, EV, Nat.reduceEqDiff, Nat.reduceBEq, Nat.reduceLT, Nat.reduceLeDiff, Nat.reduceAdd, Nat.reduceSub, reduceIte]
  refine callK_i (d30 R (by omega)) ?_
  simp only [Ty.frz, iv_frz, EV, Nat.reduceEqDiff, Nat.reduceBEq, Nat.reduceLT, Nat.reduceLeDiff, Nat.reduceAdd, Nat.reduceSub, reduceIte]
  refine callK_i (d20 a h3 hx) ?_
  simp only [Ty.frz, iv_frz, EV, Nat.reduceEqDiff, Nat.reduceBEq, Nat.reduceLT, Nat.reduceLeDiff, Nat.reduceAdd, Nat.reduceSub, reduceIte]
  refine callK_i (d22 a h3 hx) ?_
  simp only [Ty.frz, iv_frz, EV, Nat.reduceEqDiff, Nat.reduceBEq, Nat.reduceLT, Nat.reduceLeDiff, Nat.reduceAdd, Nat.reduceSub, reduceIte]
  refine callK_i (d28 n hn) ?_
  simp only [Ty.frz, iv_frz, EV, Nat.reduceEqDiff, Nat.reduceBEq, Nat.reduceLT, Nat.reduceLeDiff, Nat.reduceAdd, Nat.reduceSub, reduceIte]
  refine callK_i (d30 n hn) ?_
  simp only [Ty.frz, iv_frz, EV, Nat.reduceEqDiff, Nat.reduceBEq, Nat.reduceLT, Nat.reduceLeDiff, Nat.reduceAdd, Nat.reduceSub, reduceIte]
  refine callK2_i (d31 a 1 (by omega) (by omega) h3 hx) rfl (by simp [shapeOf, mkTyS_len]) ?_
  simp only [Ty.frz, iv_frz, EV, Nat.reduceEqDiff, Nat.reduceBEq, Nat.reduceLT, Nat.reduceLeDiff, Nat.reduceAdd, Nat.reduceSub, reduceIte]
  refine callK2_i (d32 n (1 + cntTys a) (by omega) (by omega)) rfl (by simp [shapeOf, upI_len]) ?_
  simp only [Ty.frz, iv_frz, hk1, EV, Nat.reduceEqDiff, Nat.reduceBEq, Nat.reduceLT, Nat.reduceLeDiff, Nat.reduceAdd, Nat.reduceSub, reduceIte]
  refine callK_i (d30 R (by omega)) ?_
  simp only [Ty.frz, iv_frz, hk1, EV, Nat.reduceEqDiff, Nat.reduceBEq, Nat.reduceLT, Nat.reduceLeDiff, Nat.reduceAdd, Nat.reduceSub, reduceIte]
  refine callK2_i (d32 R 1 (by omega) (by omega)) rfl (by simp [shapeOf, upI_len]) ?_
  simp only [Ty.frz, iv_frz, hk2, EV, Nat.reduceEqDiff, Nat.reduceBEq, Nat.reduceLT, Nat.reduceLeDiff, Nat.reduceAdd, Nat.reduceSub, reduceIte]
  refine callK_i (d33 R.length 1 (by omega) (by omega)) ?_
  simp only [Ty.frz, iv_frz, hk2, EV, Nat.reduceEqDiff, Nat.reduceBEq, Nat.reduceLT, Nat.reduceLeDiff, Nat.reduceAdd, Nat.reduceSub, reduceIte]
  refine callK_i (d20 a h3 hx) ?_
  simp only [Ty.frz, iv_frz, hk2, EV, Nat.reduceEqDiff, Nat.reduceBEq, Nat.reduceLT, Nat.reduceLeDiff, Nat.reduceAdd, Nat.reduceSub, reduceIte]
  refine callK_i (d28 n hn) ?_
  simp only [Ty.frz, iv_frz, hk2, EV, Nat.reduceEqDiff, Nat.reduceBEq, Nat.reduceLT, Nat.reduceLeDiff, Nat.reduceAdd, Nat.reduceSub, reduceIte]
  refine callK_i d29' ?_
  simp only [Ty.frz, iv_frz, hk2, EV, Nat.reduceEqDiff, Nat.reduceBEq, Nat.reduceLT, Nat.reduceLeDiff, Nat.reduceAdd, Nat.reduceSub, reduceIte]
  refine callK_i (d30 R (by omega)) ?_
  simp only [Ty.frz, iv_frz, hk2, EV, Nat.reduceEqDiff, Nat.reduceBEq, Nat.reduceLT, Nat.reduceLeDiff, Nat.reduceAdd, Nat.reduceSub, reduceIte]
  refine callK_i (d33 R.length 1 (by omega) (by omega)) ?_
  simp only [Ty.frz, iv_frz, hk2, EV, Nat.reduceEqDiff, Nat.reduceBEq, Nat.reduceLT, Nat.reduceLeDiff, Nat.reduceAdd, Nat.reduceSub, reduceIte]
  simp only [EV, Nat.reduceEqDiff, Nat.reduceBEq, Nat.reduceLT, Nat.reduceLeDiff, Nat.reduceAdd, Nat.reduceSub, reduceIte, evRE, retVC, cellV', evR, nfz, nfzs, nfzss, List.contains_nil, List.contains_cons, Bool.or_false, or_true]

end Go.AM
namespace Go.AM
set_option linter.unusedVariables false
set_option linter.unusedSimpArgs false
/-- loop.example/g00837/laws.FnExactAllFields -/
def m8 : MC :=
  (.seq
   (.reg [⟨(some 4), none, .a (.asg (.c (.bool false)))⟩])
   (.keep [0, 1]
   (.seq
    (.reg [⟨(some 5), none, .a (.asg (.c (.int .i64 1048576)))⟩])
    (.keep [0, 1, 5]
    (.seq
     (.reg [⟨(some 16), none, .q (.mov (.t 0))⟩,
       ⟨(some 17), none, .q (.mov (.t 5))⟩,
       ⟨(some 18), none, .a (.call (.fn 18) false [.lend (.t 16), .lend (.t 17)])⟩,
       ⟨(some 5), none, .a (.asg (.t 18))⟩])
     (.keep [0, 1, 5]
     (.seq
      (.seq
       (.reg [⟨(some 19), none, .q (.mov (.t 5))⟩,
         ⟨(some 20), none, .q (.bin false .lss (.t 19) (.c (.int .i64 0)))⟩])
       (.keep [0, 1, 20]
       (.cond (.t 20)
        (.seq
         (.reg [⟨(some 4), none, .a (.asg (.c (.bool true)))⟩])
         .ret)
        .skip)))
      (.keep [0, 1]
      (.seq
       (.reg [⟨(some 22), none, .q (.mov (.t 0))⟩,
         ⟨(some 23), none, .a (.call (.fn 20) false [.lend (.t 22)])⟩,
         ⟨(some 24), none, .q (.mov (.t 1))⟩,
         ⟨(some 25), none, .a (.call (.fn 34) false [.lend (.t 23), .lend (.t 24)])⟩,
         ⟨(some 21), none, .a (.asg (.t 25))⟩,
         ⟨(some 26), none, .q (.ext 21 0)⟩,
         ⟨(some 27), none, .q (.ext 21 1)⟩,
         ⟨(some 6), none, .a (.asg (.t 26))⟩,
         ⟨(some 7), none, .a (.asg (.t 27))⟩])
       (.keep [0, 1, 6, 7, 21, 25, 26]
       (.seq
        (.reg [⟨(some 28), none, .q (.mov (.t 0))⟩,
          ⟨(some 29), none, .a (.call (.fn 20) false [.lend (.t 28)])⟩,
          ⟨(some 8), none, .a (.asg (.t 29))⟩])
        (.keep [0, 1, 6, 7, 8, 21, 25, 26, 29]
        (.seq
         (.reg [⟨(some 31), none, .q (.mov (.t 8))⟩,
           ⟨(some 32), none, .q (.mov (.t 1))⟩,
           ⟨(some 33), none, .a (.call (.fn 35) false [.lend (.t 31), .lend (.t 32)])⟩,
           ⟨(some 30), none, .a (.asg (.t 33))⟩,
           ⟨(some 34), none, .q (.ext 30 0)⟩,
           ⟨(some 35), none, .q (.ext 30 1)⟩,
           ⟨(some 9), none, .a (.asg (.t 34))⟩,
           ⟨(some 10), none, .a (.asg (.t 35))⟩])
         (.keep [0, 1, 6, 7, 8, 9, 10, 21, 25, 26, 29, 30, 33, 34]
         (.seq
          (.seq
           (.reg [⟨(some 36), none, .q (.mov (.t 9))⟩,
             ⟨(some 37), none, .q (.mov (.t 6))⟩,
             ⟨(some 38), none, .a (.call (.fn 36) false [.lend (.t 36), .lend (.t 37)])⟩,
             ⟨(some 39), none, .q (.un .not (.t 38))⟩,
             ⟨(some 40), none, .q (.mov (.t 39))⟩,
             ⟨(some 41), (some (40, false)), .q (.mov (.t 10))⟩,
             ⟨(some 42), (some (40, false)), .q (.mov (.t 7))⟩,
             ⟨(some 43), (some (40, false)), .q (.bin true .neq (.t 41) (.t 42))⟩,
             ⟨(some 44), none, .q (.pick (.t 40) (.c (.bool true)) (.t 43))⟩])
           (.keep [0, 1, 6, 7, 8, 9, 10, 21, 25, 26, 29, 30, 33, 34, 44]
           (.cond (.t 44)
            (.seq
             (.reg [⟨(some 4), none, .a (.asg (.c (.bool false)))⟩])
             .ret)
            .skip)))
          (.keep [0, 1, 6, 7, 8, 9, 10, 21, 25, 26, 29, 30, 33, 34]
          (.seq
           (.seq
            (.reg [⟨(some 45), none, .q (.mov (.t 8))⟩,
              ⟨(some 46), none, .q (.mov (.t 0))⟩,
              ⟨(some 47), none, .a (.call (.fn 20) false [.lend (.t 46)])⟩,
              ⟨(some 48), none, .a (.call (.fn 22) false [.lend (.t 45), .lend (.t 47)])⟩,
              ⟨(some 49), none, .q (.un .not (.t 48))⟩])
            (.keep [0, 1, 6, 7, 8, 9, 10, 21, 25, 26, 29, 30, 33, 34, 49]
            (.cond (.t 49)
             (.seq
              (.reg [⟨(some 4), none, .a (.asg (.c (.bool false)))⟩])
              .ret)
             .skip)))
           (.keep [0, 1, 6, 7, 8, 9, 10, 21, 25, 26, 29, 30, 33, 34]
           (.seq
            (.reg [⟨(some 11), none, .a (.asg (.c (.int .i64 1)))⟩])
            (.keep [0, 1, 6, 7, 8, 9, 10, 11, 21, 25, 26, 29, 30, 33, 34]
            (.seq
             (.reg [⟨(some 50), none, .q (.mov (.t 8))⟩,
               ⟨(some 51), none, .q (.mov (.t 11))⟩,
               ⟨(some 52), none, .a (.call (.fn 31) false [.io (.t 50), .lend (.t 51)])⟩,
               ⟨(some 11), none, .a (.asg (.t 52))⟩])
             (.keep [0, 1, 6, 7, 9, 10, 11, 21, 25, 26, 30, 33, 34]
             (.seq
              (.seq
               (.reg [⟨(some 53), none, .q (.mov (.t 11))⟩,
                 ⟨(some 54), none, .q (.bin false .lss (.t 53) (.c (.int .i64 0)))⟩,
                 ⟨(some 55), none, .q (.mov (.t 54))⟩,
                 ⟨(some 56), (some (55, false)), .q (.mov (.t 9))⟩,
                 ⟨(some 57), (some (55, false)), .q (.mov (.t 6))⟩,
                 ⟨(some 58), (some (55, false)), .a (.call (.fn 36) false [.lend (.t 56), .lend (.t 57)])⟩,
                 ⟨(some 59), (some (55, false)), .q (.un .not (.t 58))⟩,
                 ⟨(some 60), none, .q (.pick (.t 55) (.c (.bool true)) (.t 59))⟩,
                 ⟨(some 61), none, .q (.mov (.t 60))⟩,
                 ⟨(some 62), (some (61, false)), .q (.mov (.t 10))⟩,
                 ⟨(some 63), (some (61, false)), .q (.mov (.t 7))⟩,
                 ⟨(some 64), (some (61, false)), .q (.bin true .neq (.t 62) (.t 63))⟩,
                 ⟨(some 65), none, .q (.pick (.t 61) (.c (.bool true)) (.t 64))⟩])
               (.keep [0, 1, 6, 7, 9, 21, 25, 26, 30, 33, 34, 65]
               (.cond (.t 65)
                (.seq
                 (.reg [⟨(some 4), none, .a (.asg (.c (.bool false)))⟩])
                 .ret)
                .skip)))
              (.keep [0, 1, 6, 7, 9, 21, 25, 26, 30, 33, 34]
              (.seq
               (.reg [⟨(some 12), none, .a (.asg (.c (.int .i64 1)))⟩])
               (.keep [0, 1, 6, 7, 9, 12, 21, 25, 26, 30, 33, 34]
               (.seq
                (.reg [⟨(some 66), none, .q (.mov (.t 9))⟩,
                  ⟨(some 67), none, .q (.mov (.t 12))⟩,
                  ⟨(some 68), none, .a (.call (.fn 37) false [.io (.t 66), .lend (.t 67)])⟩,
                  ⟨(some 12), none, .a (.asg (.t 68))⟩])
                (.keep [0, 1, 6, 7, 9, 12, 21, 25, 26, 30, 33, 34]
                (.seq
                 (.reg [⟨(some 13), none, .a (.asg (.c (.int .i64 1)))⟩])
                 (.keep [0, 1, 6, 7, 9, 12, 13, 21, 25, 26, 30, 33, 34]
                 (.seq
                  (.reg [⟨(some 69), none, .q (.mov (.t 9))⟩,
                    ⟨(some 70), none, .q (.mov (.t 13))⟩,
                    ⟨(some 71), none, .a (.call (.fn 38) false [.lend (.t 69), .lend (.t 70)])⟩,
                    ⟨(some 13), none, .a (.asg (.t 71))⟩])
                  (.keep [0, 1, 6, 7, 9, 12, 13, 21, 25, 26, 30, 33, 34]
                  (.seq
                   (.seq
                    (.reg [⟨(some 72), none, .q (.mov (.t 13))⟩,
                      ⟨(some 73), none, .q (.bin false .lss (.t 72) (.c (.int .i64 0)))⟩])
                    (.keep [0, 1, 6, 7, 9, 12, 13, 21, 25, 26, 30, 33, 34, 73]
                    (.cond (.t 73)
                     (.seq
                      (.reg [⟨(some 4), none, .a (.asg (.c (.bool false)))⟩])
                      .ret)
                     .skip)))
                   (.keep [0, 1, 6, 7, 9, 12, 13, 21, 25, 26, 30, 33, 34]
                   (.seq
                    (.seq
                     (.reg [⟨(some 74), none, .q (.mov (.t 13))⟩,
                       ⟨(some 75), none, .q (.mov (.t 12))⟩,
                       ⟨(some 76), none, .q (.bin false .neq (.t 74) (.t 75))⟩])
                     (.keep [0, 1, 6, 7, 9, 12, 21, 25, 26, 30, 33, 34, 76]
                     (.cond (.t 76)
                      (.seq
                       (.reg [⟨(some 4), none, .a (.asg (.c (.bool false)))⟩])
                       .ret)
                      .skip)))
                    (.keep [0, 1, 6, 7, 9, 12, 21, 25, 26, 30, 33, 34]
                    (.seq
                     (.reg [⟨(some 78), none, .q (.mov (.t 0))⟩,
                       ⟨(some 79), none, .a (.call (.fn 20) false [.lend (.t 78)])⟩,
                       ⟨(some 80), none, .q (.mov (.t 1))⟩,
                       ⟨(some 81), none, .a (.call (.fn 35) false [.lend (.t 79), .lend (.t 80)])⟩,
                       ⟨(some 77), none, .a (.asg (.t 81))⟩,
                       ⟨(some 82), none, .q (.ext 77 0)⟩,
                       ⟨(some 83), none, .q (.ext 77 1)⟩,
                       ⟨(some 14), none, .a (.asg (.t 82))⟩,
                       ⟨(some 15), none, .a (.asg (.t 83))⟩])
                     (.keep [6, 7, 9, 12, 14, 15, 21, 25, 26, 30, 33, 34, 77, 81, 82]
                     (.seq
                      (.seq
                       (.reg [⟨(some 84), none, .q (.mov (.t 14))⟩,
                         ⟨(some 85), none, .q (.mov (.t 6))⟩,
                         ⟨(some 86), none, .a (.call (.fn 36) false [.lend (.t 84), .lend (.t 85)])⟩,
                         ⟨(some 87), none, .q (.un .not (.t 86))⟩,
                         ⟨(some 88), none, .q (.mov (.t 87))⟩,
                         ⟨(some 89), (some (88, false)), .q (.mov (.t 15))⟩,
                         ⟨(some 90), (some (88, false)), .q (.mov (.t 7))⟩,
                         ⟨(some 91), (some (88, false)), .q (.bin true .neq (.t 89) (.t 90))⟩,
                         ⟨(some 92), none, .q (.pick (.t 88) (.c (.bool true)) (.t 91))⟩])
                       (.keep [9, 12, 30, 33, 34, 92]
                       (.cond (.t 92)
                        (.seq
                         (.reg [⟨(some 4), none, .a (.asg (.c (.bool false)))⟩])
                         .ret)
                        .skip)))
                      (.keep [9, 12, 30, 33, 34]
                      (.seq
                       (.reg [⟨(some 13), none, .a (.asg (.c (.int .i64 1)))⟩])
                       (.keep [9, 12, 13, 30, 33, 34]
                       (.seq
                        (.reg [⟨(some 93), none, .q (.mov (.t 9))⟩,
                          ⟨(some 94), none, .q (.mov (.t 13))⟩,
                          ⟨(some 95), none, .a (.call (.fn 38) false [.lend (.t 93), .lend (.t 94)])⟩,
                          ⟨(some 13), none, .a (.asg (.t 95))⟩])
                        (.keep [12, 13]
                        (.seq
                         (.seq
                          (.reg [⟨(some 96), none, .q (.mov (.t 13))⟩,
                            ⟨(some 97), none, .q (.bin false .lss (.t 96) (.c (.int .i64 0)))⟩])
                          (.keep [12, 13, 97]
                          (.cond (.t 97)
                           (.seq
                            (.reg [⟨(some 4), none, .a (.asg (.c (.bool false)))⟩])
                            .ret)
                           .skip)))
                         (.keep [12, 13]
                         (.seq
                          (.seq
                           (.reg [⟨(some 98), none, .q (.mov (.t 13))⟩,
                             ⟨(some 99), none, .q (.mov (.t 12))⟩,
                             ⟨(some 100), none, .q (.bin false .neq (.t 98) (.t 99))⟩])
                           (.keep [100]
                           (.cond (.t 100)
                            (.seq
                             (.reg [⟨(some 4), none, .a (.asg (.c (.bool false)))⟩])
                             .ret)
                            .skip)))
                          (.keep []
                          (.seq
                           (.reg [⟨(some 4), none, .a (.asg (.c (.bool true)))⟩])
                           .ret)))))))))))))))))))))))))))))))))))))))))))))))))

set_option maxHeartbeats 1000000 in
set_option maxRecDepth 100000 in
theorem d8 (a : List Ty) (n : Int) (ha : (a.length : Int) ≤ 9223372036854775807) (hoa : ∀ s ∈ a, s.ok) :
    Does Go.Proofs.Try.prog 8 [.fsl 6 (a.map Ty.z), .v (.int .i64 n)] false (.v (.bool true)) [.dead, .dead] := by
  refine does_intro (mc := m8) (N := 101) (rs := [4]) (fx := []) 2 rfl (by decide +kernel) ?_
  simp only [m8, EV, Nat.reduceEqDiff, Nat.reduceBEq, Nat.reduceLT, Nat.reduceLeDiff, Nat.reduceAdd, Nat.reduceSub, reduceIte]
  refine callK_i (d18 a 1048576 (by omega) (by omega) ha hoa) ?_
  simp only [EV, Nat.reduceEqDiff, Nat.reduceBEq, Nat.reduceLT, Nat.reduceLeDiff, Nat.reduceAdd, Nat.reduceSub, reduceIte]
  refine cK_cut (fun h => ?_) (fun h => ?_)
  · simp only [EV, Nat.reduceEqDiff, Nat.reduceBEq, Nat.reduceLT, Nat.reduceLeDiff, Nat.reduceAdd, Nat.reduceSub, reduceIte]
    simp only [EV, Nat.reduceEqDiff, Nat.reduceBEq, Nat.reduceLT, Nat.reduceLeDiff, Nat.reduceAdd, Nat.reduceSub, reduceIte, evRE, retVC, cellV', evR, nfz, nfzs, nfzss, List.contains_nil, List.contains_cons, Bool.or_false, or_true]
  have h0 : 0 ≤ szTyS a 1048576 := by simpa using h
  have h1 := szTyS_tot a _ h0
  have h2 := totTys_nn a
  have h3 : (a.length : Int) ≤ 1048576 := by omega
  have hx : ∀ s ∈ a, s.sm := fun s g => s.sm_of (by have := totTys_mem a s g; omega)
  clear h
  have d34' := d34 a n h3 hx
  have d35' := d35 a n h3 hx
  have hRl : (if recOk a n = true then allF a n else []).length ≤ 150 := by
    split
    · rename_i hr
      simp only [recOk, Bool.and_eq_true] at hr
      exact allF_len hr.1 n
    · simp
  have hRs : ∀ f ∈ (if recOk a n = true then allF a n else []), f.sm := by
    split
    · exact allL_sm hx _
    · simp
  generalize (if recOk a n = true then allF a n else []) = R at d34' d35' hRl hRs
  have hR1 : (R.length : Int) ≤ 1048576 := by omega
  have hct := cnt_tot a hx
  have hcn := cntTys_nn a
  have hk1 : decide (1 + cntTys a < 0) = false := by simp; omega
  have hk2 : decide (1 + 3 * (R.length : Int) < 0) = false := by simp; omega
  simp only [EV, Nat.reduceEqDiff, Nat.reduceBEq, Nat.reduceLT, Nat.reduceLeDiff, Nat.reduceAdd, Nat.reduceSub, reduceIte]
  refine callK_i (d20 a h3 hx) ?_
  simp only [Ty.frz, Fd.frz, EV, Nat.reduceEqDiff, Nat.reduceBEq, Nat.reduceLT, Nat.reduceLeDiff, Nat.reduceAdd, Nat.reduceSub, reduceIte]
  refine callK_i d34' ?_
  simp only [Ty.frz, Fd.frz, EV, Nat.reduceEqDiff, Nat.reduceBEq, Nat.reduceLT, Nat.reduceLeDiff, Nat.reduceAdd, Nat.reduceSub, reduceIte]
  refine callK_i (d20 a h3 hx) ?_
  simp only [Ty.frz, Fd.frz, EV, Nat.reduceEqDiff, Nat.reduceBEq, Nat.reduceLT, Nat.reduceLeDiff, Nat.reduceAdd, Nat.reduceSub, reduceIte]
  refine callK_i d35' ?_
  simp only [Ty.frz, Fd.frz, EV, Nat.reduceEqDiff, Nat.reduceBEq, Nat.reduceLT, Nat.reduceLeDiff, Nat.reduceAdd, Nat.reduceSub, reduceIte]
  refine callK_i (d36 R hR1 hRs) ?_
  simp only [Ty.frz, Fd.frz, EV, Nat.reduceEqDiff, Nat.reduceBEq, Nat.reduceLT, Nat.reduceLeDiff, Nat.reduceAdd, Nat.reduceSub, reduceIte]
  refine callK_i (d20 a h3 hx) ?_
  simp only [Ty.frz, Fd.frz, EV, Nat.reduceEqDiff, Nat.reduceBEq, Nat.reduceLT, Nat.reduceLeDiff, Nat.reduceAdd, Nat.reduceSub, reduceIte]
  refine callK_i (d22 a h3 hx) ?_
  simp only [Ty.frz, Fd.frz, EV, Nat.reduceEqDiff, Nat.reduceBEq, Nat.reduceLT, Nat.reduceLeDiff, Nat.reduceAdd, Nat.reduceSub, reduceIte]
  refine callK2_i (d31 a 1 (by omega) (by omega) h3 hx) rfl (by simp [shapeOf, mkTyS_len]) ?_
  simp only [Ty.frz, Fd.frz, hk1, EV, Nat.reduceEqDiff, Nat.reduceBEq, Nat.reduceLT, Nat.reduceLeDiff, Nat.reduceAdd, Nat.reduceSub, reduceIte]
  refine callK_i (d36 R hR1 hRs) ?_
  simp only [Ty.frz, Fd.frz, hk1, EV, Nat.reduceEqDiff, Nat.reduceBEq, Nat.reduceLT, Nat.reduceLeDiff, Nat.reduceAdd, Nat.reduceSub, reduceIte]
  refine callK2_i (d37 R 1 (by omega) (by omega)) rfl (by simp [shapeOf, mkFdS_len]) ?_
  simp only [Ty.frz, Fd.frz, hk1, hk2, EV, Nat.reduceEqDiff, Nat.reduceBEq, Nat.reduceLT, Nat.reduceLeDiff, Nat.reduceAdd, Nat.reduceSub, reduceIte]
  refine callK_i (d38 R 1 (by omega) (by omega)) ?_
  simp only [Ty.frz, Fd.frz, hk1, hk2, EV, Nat.reduceEqDiff, Nat.reduceBEq, Nat.reduceLT, Nat.reduceLeDiff, Nat.reduceAdd, Nat.reduceSub, reduceIte]
  refine callK_i (d20 a h3 hx) ?_
  simp only [Ty.frz, Fd.frz, hk1, hk2, EV, Nat.reduceEqDiff, Nat.reduceBEq, Nat.reduceLT, Nat.reduceLeDiff, Nat.reduceAdd, Nat.reduceSub, reduceIte]
  refine callK_i d35' ?_
  simp only [Ty.frz, Fd.frz, hk1, hk2, EV, Nat.reduceEqDiff, Nat.reduceBEq, Nat.reduceLT, Nat.reduceLeDiff, Nat.reduceAdd, Nat.reduceSub, reduceIte]
  refine callK_i (d36 R hR1 hRs) ?_
  simp only [Ty.frz, Fd.frz, hk1, hk2, EV, Nat.reduceEqDiff, Nat.reduceBEq, Nat.reduceLT, Nat.reduceLeDiff, Nat.reduceAdd, Nat.reduceSub, reduceIte]
  refine callK_i (d38 R 1 (by omega) (by omega)) ?_
  simp only [Ty.frz, Fd.frz, hk1, hk2, EV, Nat.reduceEqDiff, Nat.reduceBEq, Nat.reduceLT, Nat.reduceLeDiff, Nat.reduceAdd, Nat.reduceSub, reduceIte]
  simp only [EV, Nat.reduceEqDiff, Nat.reduceBEq, Nat.reduceLT, Nat.reduceLeDiff, Nat.reduceAdd, Nat.reduceSub, reduceIte, evRE, retVC, cellV', evR, nfz, nfzs, nfzss, List.contains_nil, List.contains_cons, Bool.or_false, or_true]

end Go.AM
