/- Contracts of functions of the given program, for the law FnExactFoldExpr: what they return and what they write, under the bounds that each theorem states. -/
import Derived.Test.YtleomgfaplldiaaC9
import Derived.Test.YtleomgfaplldiaaT82
namespace Go.AM
set_option linter.unusedVariables false
set_option linter.unusedSimpArgs false

def pushO : Option Known → List Int → List Int
  | some k, r => k.value :: r
  | none, r => r
theorem pushO_n (r : List Int) : pushO none r = r := rfl
theorem pushO_s (k : Known) (r : List Int) : pushO (some k) r = k.value :: r := rfl
theorem pushO_len (fd : Option Known) (r : List Int) : (pushO fd r).length ≤ r.length + 1 := by
  cases fd <;> simp [pushO]
theorem find_take {q : Known → Bool} {K : List Known} {j : Nat} (h : j < K.length) : (K.take (j + 1)).find? q = match (K.take j).find? q with
    | some k => some k
    | none => if q K[j] = true then some K[j] else none := by
  rw [List.take_succ_eq_append_getElem h, List.find?_append]
  cases (K.take j).find? q <;> simp [List.find?_cons]
  split <;> simp_all

/-- loop.example/g00837/spec.l5Eval -/
def m130 : MC :=
  (.seq
   (.reg [⟨(some 4), none, .a (.asg (.c (.int .i64 0)))⟩,
     ⟨(some 5), none, .a (.asg (.c (.int .i64 0)))⟩])
   (.seq
    (.reg [⟨(some 6), none, .a (.asg (.nils 3 1))⟩])
    (.seq
     (.seq
      (.reg [⟨(some 16), none, .q (.mov (.t 0))⟩,
        ⟨(some 17), none, .q (.len false (.t 16))⟩,
        ⟨(some 18), none, .q (.mov (.c (.int .i64 0)))⟩])
      (.block 0
       (.loop [0, 1, 6, 16, 17, 18, 56, 65, 110]
        (.seq
         (.reg [⟨(some 19), none, .q (.bin false .lss (.t 18) (.t 17))⟩])
         (.seq
          (.cond (.t 19)
           .skip
           (.exit 0))
          (.join [0, 1, 6, 16, 17, 18, 56, 65, 110]
           (.block 1
            (.seq
             (.reg [⟨(some 20), none, .q (.iad 4 (.t 16) (.t 18))⟩,
               ⟨(some 21), none, .q (.load true 4 (.t 20))⟩,
               ⟨(some 8), none, .a (.alloc 108 [.v (.int .i64 0), .v (.int .i64 0), .v (.string ({ data := #[] })), .v (.string ({ data := #[] }))])⟩,
               ⟨none, none, .a (.store 4 (.t 8) (.t 21))⟩])
             (.seq
              (.reg [⟨(some 22), none, .q (.mov (.t 6))⟩,
                ⟨(some 23), none, .q (.len false (.t 22))⟩,
                ⟨(some 9), none, .a (.asg (.t 23))⟩])
              (.join [0, 1, 6, 16, 17, 18, 56, 65, 110]
               (.block 2
                (.seq
                 (.reg [⟨(some 58), none, .q (.fad 0 (.t 8))⟩,
                   ⟨(some 59), none, .q (.load false 1 (.t 58))⟩,
                   ⟨(some 60), none, .q (.bin false .eql (.t 59) (.c (.int .i64 1)))⟩,
                   ⟨(some 57), none, .a (.asg (.t 60))⟩])
                 (.cond (.t 57)
                  (.reg [⟨(some 61), none, .q (.mov (.t 6))⟩,
                    ⟨(some 62), none, .q (.fad 1 (.t 8))⟩,
                    ⟨(some 63), none, .q (.load false 1 (.t 62))⟩,
                    ⟨(some 64), none, .a (.bsl 3 1 [.t 63])⟩,
                    ⟨(some 65), none, .a (.app true 3 1 8 (.t 61) (.t 64))⟩,
                    ⟨(some 6), none, .a (.asg (.t 65))⟩])
                  (.seq
                   (.reg [⟨(some 67), none, .q (.fad 0 (.t 8))⟩,
                     ⟨(some 68), none, .q (.load false 1 (.t 67))⟩,
                     ⟨(some 69), none, .q (.bin false .eql (.t 68) (.c (.int .i64 8)))⟩,
                     ⟨(some 66), none, .a (.asg (.t 69))⟩])
                   (.cond (.t 66)
                    (.reg [⟨(some 70), none, .q (.mov (.t 6))⟩,
                      ⟨(some 71), none, .q (.mov (.t 9))⟩,
                      ⟨(some 72), none, .q (.bin false .sub (.t 71) (.c (.int .i64 1)))⟩,
                      ⟨(some 73), none, .q (.mov (.t 6))⟩,
                      ⟨(some 74), none, .q (.mov (.t 9))⟩,
                      ⟨(some 75), none, .q (.bin false .sub (.t 74) (.c (.int .i64 1)))⟩,
                      ⟨(some 76), none, .q (.iad 1 (.t 73) (.t 75))⟩,
                      ⟨(some 77), none, .q (.load false 1 (.t 76))⟩,
                      ⟨(some 78), none, .q (.un .neg (.t 77))⟩,
                      ⟨(some 79), none, .q (.iad 1 (.t 70) (.t 72))⟩,
                      ⟨none, none, .a (.store 1 (.t 79) (.t 78))⟩])
                    (.seq
                     (.reg [⟨(some 81), none, .q (.fad 0 (.t 8))⟩,
                       ⟨(some 82), none, .q (.load false 1 (.t 81))⟩,
                       ⟨(some 83), none, .q (.bin false .eql (.t 82) (.c (.int .i64 2)))⟩,
                       ⟨(some 80), none, .a (.asg (.t 83))⟩])
                     (.cond (.t 80)
                      (.seq
                       (.reg [⟨(some 10), none, .a (.asg (.c (.bool false)))⟩])
                       (.seq
                        (.seq
                         (.reg [⟨(some 84), none, .q (.mov (.t 1))⟩,
                           ⟨(some 85), none, .q (.len false (.t 84))⟩,
                           ⟨(some 86), none, .q (.mov (.c (.int .i64 0)))⟩])
                         (.block 3
                          (.loop [0, 1, 6, 8, 10, 16, 17, 18, 56, 65, 84, 85, 86, 110]
                           (.seq
                            (.reg [⟨(some 87), none, .q (.bin false .lss (.t 86) (.t 85))⟩])
                            (.seq
                             (.cond (.t 87)
                              .skip
                              (.exit 3))
                             (.join [0, 1, 6, 8, 10, 16, 17, 18, 56, 65, 84, 85, 86, 110]
                              (.block 4
                               (.seq
                                (.reg [⟨(some 88), none, .q (.iad 3 (.t 84) (.t 86))⟩,
                                  ⟨(some 89), none, .q (.load true 3 (.t 88))⟩,
                                  ⟨(some 12), none, .a (.alloc 132 [.v (.string ({ data := #[] })), .v (.string ({ data := #[] })), .v (.int .i64 0)])⟩,
                                  ⟨none, none, .a (.store 3 (.t 12) (.t 89))⟩])
                                (.seq
                                 (.reg [⟨(some 90), none, .q (.mov (.t 10))⟩,
                                   ⟨(some 91), none, .q (.un .not (.t 90))⟩,
                                   ⟨(some 92), none, .q (.mov (.t 91))⟩,
                                   ⟨(some 93), (some (92, true)), .q (.fad 0 (.t 12))⟩,
                                   ⟨(some 94), (some (92, true)), .q (.load false 1 (.t 93))⟩,
                                   ⟨(some 95), (some (92, true)), .q (.fad 2 (.t 8))⟩,
                                   ⟨(some 96), (some (92, true)), .q (.load false 1 (.t 95))⟩,
                                   ⟨(some 97), (some (92, true)), .q (.bin false .eql (.t 94) (.t 96))⟩,
                                   ⟨(some 98), none, .q (.pick (.t 92) (.t 97) (.c (.bool false)))⟩,
                                   ⟨(some 99), none, .q (.mov (.t 98))⟩,
                                   ⟨(some 100), (some (99, true)), .q (.fad 1 (.t 12))⟩,
                                   ⟨(some 101), (some (99, true)), .q (.load false 1 (.t 100))⟩,
                                   ⟨(some 102), (some (99, true)), .q (.fad 3 (.t 8))⟩,
                                   ⟨(some 103), (some (99, true)), .q (.load false 1 (.t 102))⟩,
                                   ⟨(some 104), (some (99, true)), .q (.bin false .eql (.t 101) (.t 103))⟩,
                                   ⟨(some 105), none, .q (.pick (.t 99) (.t 104) (.c (.bool false)))⟩])
                                 (.cond (.t 105)
                                  (.seq
                                   (.reg [⟨(some 10), none, .a (.asg (.c (.bool true)))⟩])
                                   (.reg [⟨(some 106), none, .q (.mov (.t 6))⟩,
                                     ⟨(some 107), none, .q (.fad 2 (.t 12))⟩,
                                     ⟨(some 108), none, .q (.load false 1 (.t 107))⟩,
                                     ⟨(some 109), none, .a (.bsl 3 1 [.t 108])⟩,
                                     ⟨(some 110), none, .a (.app true 3 1 8 (.t 106) (.t 109))⟩,
                                     ⟨(some 6), none, .a (.asg (.t 110))⟩]))
                                  .skip))))
                              (.reg [⟨(some 111), none, .q (.bin false .add (.t 86) (.c (.int .i64 1)))⟩,
                                ⟨(some 86), none, .q (.mov (.t 111))⟩])))))))
                        (.seq
                         (.reg [⟨(some 112), none, .q (.mov (.t 10))⟩,
                           ⟨(some 113), none, .q (.un .not (.t 112))⟩])
                         (.cond (.t 113)
                          (.seq
                           (.reg [⟨(some 4), none, .a (.asg (.c (.int .i64 0)))⟩,
                             ⟨(some 5), none, .a (.asg (.c (.int .i64 1)))⟩])
                           .ret)
                          .skip))))
                      (.seq
                       (.dreg [⟨(some 24), none, .q (.mov (.t 6))⟩,
                         ⟨(some 25), none, .q (.mov (.t 9))⟩,
                         ⟨(some 26), none, .q (.bin false .sub (.t 25) (.c (.int .i64 2)))⟩,
                         ⟨(some 27), none, .q (.iad 1 (.t 24) (.t 26))⟩,
                         ⟨(some 28), none, .q (.load false 1 (.t 27))⟩,
                         ⟨(some 29), none, .q (.mov (.t 6))⟩,
                         ⟨(some 30), none, .q (.mov (.t 9))⟩,
                         ⟨(some 31), none, .q (.bin false .sub (.t 30) (.c (.int .i64 1)))⟩,
                         ⟨(some 32), none, .q (.iad 1 (.t 29) (.t 31))⟩,
                         ⟨(some 33), none, .q (.load false 1 (.t 32))⟩,
                         ⟨(some 13), none, .q (.mov (.t 28))⟩,
                         ⟨(some 14), none, .q (.mov (.t 33))⟩])
                       (.seq
                        (.seq
                         (.reg [⟨(some 34), none, .q (.mov (.t 14))⟩,
                           ⟨(some 35), none, .q (.bin false .eql (.t 34) (.c (.int .i64 0)))⟩,
                           ⟨(some 36), none, .q (.mov (.t 35))⟩,
                           ⟨(some 37), (some (36, true)), .q (.fad 0 (.t 8))⟩,
                           ⟨(some 38), (some (36, true)), .q (.load false 1 (.t 37))⟩,
                           ⟨(some 39), (some (36, true)), .q (.bin false .eql (.t 38) (.c (.int .i64 6)))⟩,
                           ⟨(some 40), (some (36, true)), .q (.mov (.t 39))⟩,
                           ⟨(some 41), (some (40, false)), .q (.fad 0 (.t 8))⟩,
                           ⟨(some 42), (some (40, false)), .q (.load false 1 (.t 41))⟩,
                           ⟨(some 43), (some (40, false)), .q (.bin false .eql (.t 42) (.c (.int .i64 7)))⟩,
                           ⟨(some 44), (some (36, true)), .q (.pick (.t 40) (.c (.bool true)) (.t 43))⟩,
                           ⟨(some 45), none, .q (.pick (.t 36) (.t 44) (.c (.bool false)))⟩])
                         (.cond (.t 45)
                          (.seq
                           (.reg [⟨(some 4), none, .a (.asg (.c (.int .i64 0)))⟩,
                             ⟨(some 5), none, .a (.asg (.c (.int .i64 2)))⟩])
                           .ret)
                          .skip))
                        (.mix [8] [0, 1, 6, 9, 13, 14, 16, 17, 18, 56, 65, 110] [] [] [4, 5] [0, 1, 2, 3, 6, 7, 8, 9, 10, 11]
                          [⟨(some 50), none, .q (.fad 0 (.t 8))⟩,
                           ⟨(some 51), none, .q (.load false 1 (.t 50))⟩]
                          [⟨(some 46), none, .q (.mov (.t 6))⟩,
                           ⟨(some 47), none, .q (.mov (.t 9))⟩,
                           ⟨(some 48), none, .q (.bin false .sub (.t 47) (.c (.int .i64 2)))⟩,
                           ⟨(some 49), none, .q (.slc false 1 (.t 46) none (some (.t 48)))⟩,
                           ⟨(some 52), none, .q (.mov (.t 13))⟩,
                           ⟨(some 53), none, .q (.mov (.t 14))⟩,
                           ⟨(some 54), none, .a (.call (.fn 146) false [.lend (.t 51), .lend (.t 52), .lend (.t 53)])⟩,
                           ⟨(some 55), none, .a (.bsl 3 1 [.t 54])⟩,
                           ⟨(some 56), none, .a (.app true 3 1 8 (.t 49) (.t 55))⟩,
                           ⟨(some 6), none, .a (.asg (.t 56))⟩]))))))))))
               (.seq
                (.reg [⟨(some 114), none, .q (.mov (.t 6))⟩,
                  ⟨(some 115), none, .q (.mov (.t 6))⟩,
                  ⟨(some 116), none, .q (.len false (.t 115))⟩,
                  ⟨(some 117), none, .q (.bin false .sub (.t 116) (.c (.int .i64 1)))⟩,
                  ⟨(some 118), none, .q (.iad 1 (.t 114) (.t 117))⟩,
                  ⟨(some 119), none, .q (.load false 1 (.t 118))⟩,
                  ⟨(some 15), none, .a (.asg (.t 119))⟩])
                (.seq
                 (.reg [⟨(some 120), none, .q (.mov (.t 15))⟩,
                   ⟨(some 121), none, .a (.call (.fn 61) false [.lend (.t 120), .lend (.c (.int .i64 (-1000000000))), .lend (.c (.int .i64 1000000000))])⟩,
                   ⟨(some 122), none, .q (.un .not (.t 121))⟩])
                 (.cond (.t 122)
                  (.seq
                   (.reg [⟨(some 4), none, .a (.asg (.c (.int .i64 0)))⟩,
                     ⟨(some 5), none, .a (.asg (.c (.int .i64 3)))⟩])
                   .ret)
                  .skip)))))))
           (.reg [⟨(some 123), none, .q (.bin false .add (.t 18) (.c (.int .i64 1)))⟩,
             ⟨(some 18), none, .q (.mov (.t 123))⟩])))))))
     (.seq
      (.reg [⟨(some 124), none, .q (.mov (.t 6))⟩,
        ⟨(some 125), none, .q (.iad 1 (.t 124) (.c (.int .i64 0)))⟩,
        ⟨(some 126), none, .q (.load false 1 (.t 125))⟩,
        ⟨(some 4), none, .a (.asg (.t 126))⟩,
        ⟨(some 5), none, .a (.asg (.c (.int .i64 0)))⟩])
      .ret))))


set_option maxHeartbeats 1000000 in
set_option maxRecDepth 100000 in
theorem d130 (l : List Step) (K : List Known) (hl : exprOk l = true) (hK : knOk K = true) :
    Does Go.Proofs.Try.prog 130 [.fsl 4 (l.map Step.c), .fsl 3 (K.map Known.c)] false (.tup [.v (.int .i64 (evalOf K l).1), .v (.int .i64 (evalOf K l).2)]) [.dead, .dead] := by
  obtain ⟨hx, hll⟩ := exprOk_run hl
  have hKl : (K.length : Int) ≤ 40 := by simp only [knOk, Bool.and_eq_true, decide_eq_true_eq] at hK; omega
  refine does_intro (mc := m130) (N := 127) (rs := [4, 5]) (fx := []) 2 rfl (by decide +kernel) ?_
  simp only [m130, EV, Nat.reduceEqDiff, Nat.reduceBEq, Nat.reduceLT, Nat.reduceLeDiff, Nat.reduceAdd, Nat.reduceSub, reduceIte]
  refine awp_loop (fun p : Nat × List Int => p.1 ≤ l.length ∧ evRun K p.2 (l.drop p.1) = evRun K [] l ∧ exRun p.2.length (l.drop p.1) = some 1 ∧ (p.2.length ≤ p.1) ∧ ∀ n ∈ p.2, whole n = true)
    (fun p => stl [(0, .fsl 4 (l.map Step.c)), (1, .fsl 3 (K.map Known.c)), (6, .usl 3 1 (rows p.2)), (16, .fsl 4 (l.map Step.c)), (17, .v (.int .i64 (l.length : Int))), (18, .v (.int .i64 (p.1 : Int))), (56, .dead), (65, .dead), (110, .dead)]) (fun p => l.length - p.1) (0, []) ⟨Nat.zero_le _, by simp, by simpa using hx, by simp, by simp⟩ ?_ ?_
  · simp only [rows_nil, EV, Nat.reduceEqDiff, Nat.reduceBEq, Nat.reduceLT, Nat.reduceLeDiff, Nat.reduceAdd, Nat.reduceSub, reduceIte]
    rfl
  · rintro ⟨i, r⟩ ⟨p0, p1, p2, p3, p4⟩
    simp only at p0 p1 p2 p3 p4
    simp only [EV, Nat.reduceEqDiff, Nat.reduceBEq, Nat.reduceLT, Nat.reduceLeDiff, Nat.reduceAdd, Nat.reduceSub, reduceIte]
    refine cK_cut (fun h => ?_) (fun h => ?_)
    · have h1 : i < l.length := by simpa using h
      have h2 : (i : Int) < (l.length : Int) := by omega
      rw [List.drop_eq_getElem_cons h1] at p1 p2
      have p9 : ∀ {c : Int}, evTop (evPre K r l[i]) = .inl c → evalOf K l = (0, c) := by
        intro c hc
        simp only [evalOf, ← p1, evRun_no hc, outOf]
      obtain ⟨hso, hkind⟩ := exRun_go p2
      clear h p2
      refine awp_join (fun r' : List Int => evTop (evPre K r l[i]) = .inr r' ∧ exRun r'.length (l.drop (i + 1)) = some 1 ∧ r'.length ≤ i + 1 ∧ ∀ n ∈ r', whole n = true)
        (fun r' => stl [(0, .fsl 4 (l.map Step.c)), (1, .fsl 3 (K.map Known.c)), (6, .usl 3 1 (rows r')), (16, .fsl 4 (l.map Step.c)), (17, .v (.int .i64 (l.length : Int))), (18, .v (.int .i64 (i : Int))), (56, .dead), (65, .dead), (110, .dead)]) ?_ ?_
      · simp only [nth_map h1, h2, Step.c, rows_len, EV, Nat.reduceEqDiff, Nat.reduceBEq, Nat.reduceLT, Nat.reduceLeDiff, Nat.reduceAdd, Nat.reduceSub, reduceIte]
        refine awp_join (fun q : Int × List Int => evPre K r l[i] = .inr (q.1 :: q.2) ∧ exRun (q.2.length + 1) (l.drop (i + 1)) = some 1 ∧ q.2.length ≤ i ∧ ∀ n ∈ q.2, whole n = true)
          (fun q => stl [(0, .fsl 4 (l.map Step.c)), (1, .fsl 3 (K.map Known.c)), (6, .usl 3 1 (rows (q.1 :: q.2))), (16, .fsl 4 (l.map Step.c)), (17, .v (.int .i64 (l.length : Int))), (18, .v (.int .i64 (i : Int))), (56, .dead), (65, .dead), (110, .dead)]) ?_ ?_
        · rcases hkind with ⟨k | k, hx1⟩ | ⟨k, hn, hx1⟩ | ⟨k3, k7, hn, hx1⟩
          · have e1 : (l[i].kind == 1) = true := by simp [k]
            simp only [rows_len, rows_all, e1, EV, Nat.reduceEqDiff, Nat.reduceBEq, Nat.reduceLT, Nat.reduceLeDiff, Nat.reduceAdd, Nat.reduceSub, reduceIte]
            refine ⟨by omega, by omega, (l[i].value, r), ⟨?_, hx1, p3, p4⟩, by rw [rows_cons]⟩
            simp only [evPre, k, Int.reduceEq, if_true, if_false]
          · have e1 : (l[i].kind == 1) = false := by simp [k]
            have e2 : (l[i].kind == 2) = true := by simp [k]
            have e8 : (l[i].kind == 8) = false := by simp [k]
            simp only [rows_len, rows_all, e1, e2, e8, EV, Nat.reduceEqDiff, Nat.reduceBEq, Nat.reduceLT, Nat.reduceLeDiff, Nat.reduceAdd, Nat.reduceSub, reduceIte]
            refine awp_loop (fun p : Nat × Option Known => p.1 ≤ K.length ∧ p.2 = (K.take p.1).find? (isOf l[i]))
              (fun p => stl [(0, .fsl 4 (l.map Step.c)), (1, .fsl 3 (K.map Known.c)), (6, .usl 3 1 (rows (pushO p.2 r))), (8, .box 108 l[i].c), (10, .v (.bool p.2.isSome)), (16, .fsl 4 (l.map Step.c)), (17, .v (.int .i64 (l.length : Int))), (18, .v (.int .i64 (i : Int))), (56, .dead), (65, .dead), (84, .fsl 3 (K.map Known.c)), (85, .v (.int .i64 (K.length : Int))), (86, .v (.int .i64 (p.1 : Int))), (110, .dead)]) (fun p => K.length - p.1) (0, none) ⟨Nat.zero_le _, by simp⟩ ?_ ?_
            · simp only [pushO, Option.isSome_none, Step.c, EV, Nat.reduceEqDiff, Nat.reduceBEq, Nat.reduceLT, Nat.reduceLeDiff, Nat.reduceAdd, Nat.reduceSub, reduceIte]
              rfl
            · rintro ⟨j, fd⟩ ⟨j0, j1⟩
              simp only at j0 j1
              have hpl := pushO_len fd r
              simp only [Step.c, EV, Nat.reduceEqDiff, Nat.reduceBEq, Nat.reduceLT, Nat.reduceLeDiff, Nat.reduceAdd, Nat.reduceSub, reduceIte]
              refine cK_cut (fun h => ?_) (fun h => ?_)
              · have g1 : j < K.length := by simpa using h
                have g2 : (j : Int) < (K.length : Int) := by omega
                clear h
                have ft := find_take (q := isOf l[i]) g1
                rw [← j1] at ft
                refine awp_join (fun fd' : Option Known => fd' = (K.take (j + 1)).find? (isOf l[i]))
                  (fun fd' => stl [(0, .fsl 4 (l.map Step.c)), (1, .fsl 3 (K.map Known.c)), (6, .usl 3 1 (rows (pushO fd' r))), (8, .box 108 l[i].c), (10, .v (.bool fd'.isSome)), (16, .fsl 4 (l.map Step.c)), (17, .v (.int .i64 (l.length : Int))), (18, .v (.int .i64 (i : Int))), (56, .dead), (65, .dead), (84, .fsl 3 (K.map Known.c)), (85, .v (.int .i64 (K.length : Int))), (86, .v (.int .i64 (j : Int))), (110, .dead)]) ?_ ?_
                · rcases fd with _ | k0
                  · simp only at ft
                    simp only [nth_map g1, g2, Known.c, Step.c, Option.isSome_none, pushO_n, pushO_s, EV, Nat.reduceEqDiff, Nat.reduceBEq, Nat.reduceLT, Nat.reduceLeDiff, Nat.reduceAdd, Nat.reduceSub, reduceIte]
                    repeat' (first
    | (refine gK_cut (fun h => ?_) (fun h => ?_) <;> simp only [h, rows_len, rows_all, EV, Nat.reduceEqDiff, Nat.reduceBEq, Nat.reduceLT, Nat.reduceLeDiff, Nat.reduceAdd, Nat.reduceSub, reduceIte])
    | (refine cK_cut (fun h => ?_) (fun h => ?_) <;> simp only [h, rows_len, rows_all, EV, Nat.reduceEqDiff, Nat.reduceBEq, Nat.reduceLT, Nat.reduceLeDiff, Nat.reduceAdd, Nat.reduceSub, reduceIte]))
                    all_goals first
                      | (refine ⟨by omega, by omega, some K[j], ?_, ?_⟩
                         · have hq : isOf l[i] K[j] = true := by
                             unfold isOf; rw [Bool.and_eq_true]; constructor <;> assumption
                           rw [ft, if_pos hq]
                         · rw [pushO_s, rows_cons]; rfl
                         done)
                      | (refine ⟨none, ?_, rfl⟩
                         have hq : (K[j].mod.toList == l[i].mod.toList && K[j].name.toList == l[i].name.toList) = false := by
                           rw [Bool.and_eq_false_iff]
                           first | (left; assumption) | (right; assumption)
                         rw [ft, if_neg (by unfold isOf; rw [hq]; exact Bool.false_ne_true)]
                         done)
                  · simp only at ft
                    simp only [nth_map g1, g2, Known.c, Step.c, Option.isSome_some, pushO_n, pushO_s, EV, Nat.reduceEqDiff, Nat.reduceBEq, Nat.reduceLT, Nat.reduceLeDiff, Nat.reduceAdd, Nat.reduceSub, reduceIte]
                    exact ⟨some k0, ft.symm, rfl⟩
                · rintro fd' hfd'
                  simp only [Step.c, EV, Nat.reduceEqDiff, Nat.reduceBEq, Nat.reduceLT, Nat.reduceLeDiff, Nat.reduceAdd, Nat.reduceSub, reduceIte]
                  rw [w64 _ (by omega)]
                  exact ⟨(j + 1, fd'), ⟨g1, hfd'⟩, by simp only; omega, rfl⟩
              · have g1 : j = K.length := by have : ¬ (j : Int) < K.length := by simpa using h
                                             omega
                subst g1
                clear h
                rw [List.take_length] at j1
                rcases fd with _ | k0
                · have e : evTop (evPre K r l[i]) = .inl 1 := by
                    simp only [evPre, k, ← j1, evTop, Int.reduceEq, if_true, if_false]
                  simp only [Option.isSome_none, pushO_n, pushO_s, EV, Nat.reduceEqDiff, Nat.reduceBEq, Nat.reduceLT, Nat.reduceLeDiff, Nat.reduceAdd, Nat.reduceSub, reduceIte]
                  simp only [p9 e, EV, Nat.reduceEqDiff, Nat.reduceBEq, Nat.reduceLT, Nat.reduceLeDiff, Nat.reduceAdd, Nat.reduceSub, reduceIte, retVC, cellV', evR, nfz, nfzs, nfzss, List.contains_nil, List.contains_cons, Bool.or_false, or_true]
                · simp only [Option.isSome_some, pushO_n, pushO_s, EV, Nat.reduceEqDiff, Nat.reduceBEq, Nat.reduceLT, Nat.reduceLeDiff, Nat.reduceAdd, Nat.reduceSub, reduceIte]
                  refine ⟨(k0.value, r), ⟨?_, hx1, p3, p4⟩, rfl⟩
                  simp only [evPre, k, ← j1, Int.reduceEq, if_true, if_false]
          · have e1 : (l[i].kind == 1) = false := by simp [k]
            have e2 : (l[i].kind == 2) = false := by simp [k]
            have e8 : (l[i].kind == 8) = true := by simp [k]
            rcases r with _ | ⟨a, r⟩
            · simp at hn
            have hw : IntKind.i64.wrap (((r.length + 1 : Nat) : Int) - 1) = (r.length : Int) := by
              rw [w64 _ (by simp only [List.length_cons] at *; omega)]; simp
            have hr : r.length < r.length + 1 := by omega
            have hr2 : (r.length : Int) < ((r.length + 1 : Nat) : Int) := by omega
            have wa := p4 a (by simp)
            have wa2 := whole_iff.1 wa
            simp only [rows_len, hw, hr, hr2, e1, e2, e8, rows_top, rows_set, EV, Nat.reduceEqDiff, Nat.reduceBEq, Nat.reduceLT, Nat.reduceLeDiff, Nat.reduceAdd, Nat.reduceSub, reduceIte]
            rw [w64 (0 - a) (by omega), Int.zero_sub]
            refine ⟨(-a, r), ⟨?_, by simpa using hx1, ?_, ?_⟩, rfl⟩
            · simp only [evPre, k, Int.reduceEq, if_true, if_false]
            · show r.length ≤ i
              simp only [List.length_cons] at p3; omega
            · exact fun n hn => p4 n (by simp [hn])
          · have e1 : (l[i].kind == 1) = false := by simp; omega
            have e2 : (l[i].kind == 2) = false := by simp; omega
            have e8 : (l[i].kind == 8) = false := by simp; omega
            rcases r with _ | ⟨b, _ | ⟨a, r⟩⟩
            · simp at hn
            · simp at hn
            have hw : IntKind.i64.wrap (((r.length + 1 + 1 : Nat) : Int) - 1) = ((r.length + 1 : Nat) : Int) := by
              rw [w64 _ (by simp only [List.length_cons] at *; omega)]; simp
            have hw2 : IntKind.i64.wrap (((r.length + 1 + 1 : Nat) : Int) - 2) = (r.length : Int) := by
              rw [w64 _ (by simp only [List.length_cons] at *; omega)]; omega
            have hr : r.length < r.length + 1 + 1 := by omega
            have hr1 : r.length + 1 < r.length + 1 + 1 := by omega
            have hr2 : (r.length : Int) < ((r.length + 1 + 1 : Nat) : Int) := by omega
            have hr3 : ((r.length + 1 : Nat) : Int) < ((r.length + 1 + 1 : Nat) : Int) := by omega
            have wb := p4 b (by simp)
            have wa := p4 a (by simp)
            have wm := mul_b wa wb
            have wa2 := whole_iff.1 wa
            have wb2 := whole_iff.1 wb
            have n1 : ¬ l[i].kind = 1 := by omega
            have n2 : ¬ l[i].kind = 2 := by omega
            have n8 : ¬ l[i].kind = 8 := by omega
            simp only [rows_len, hw, hw2, hr, hr1, hr2, hr3, e1, e2, e8, rows_top2, rows_sub, EV, Nat.reduceEqDiff, Nat.reduceBEq, Nat.reduceLT, Nat.reduceLeDiff, Nat.reduceAdd, Nat.reduceSub, reduceIte]
            have hlr : r.length + 2 ≤ i := by simpa using p3
            have hx2 : exRun ((r.length : Int) + 1) (l.drop (i + 1)) = some 1 := by
              have : (((b :: a :: r).length : Nat) : Int) - 1 = (r.length : Int) + 1 := by simp only [List.length_cons]; omega
              rw [← this]; exact hx1
            have fin : ¬ (b = 0 ∧ (l[i].kind = 6 ∨ l[i].kind = 7)) → evPre K (b :: a :: r) l[i] = .inr (opOf l[i].kind a b :: r) := by
              intro hz
              simp only [evPre, n1, n2, n8, if_false, hz]
            repeat' (first
    | (refine gK_cut (fun h => ?_) (fun h => ?_) <;> simp only [h, hw2, rows_len, EV, Nat.reduceEqDiff, Nat.reduceBEq, Nat.reduceLT, Nat.reduceLeDiff, Nat.reduceAdd, Nat.reduceSub, reduceIte])
    | (refine cK_cut (fun h => ?_) (fun h => ?_) <;> simp only [h, hw2, rows_len, EV, Nat.reduceEqDiff, Nat.reduceBEq, Nat.reduceLT, Nat.reduceLeDiff, Nat.reduceAdd, Nat.reduceSub, reduceIte]))
            all_goals simp only [beq_iff_eq, beq_eq_false_iff_ne, ne_eq] at *
            all_goals first
              | (have hz : b = 0 ∧ (l[i].kind = 6 ∨ l[i].kind = 7) := by omega
                 have e : evTop (evPre K (b :: a :: r) l[i]) = .inl 2 := by
                   simp only [evPre, n1, n2, n8, if_false, if_pos hz, evTop]
                 simp only [p9 e, EV, Nat.reduceEqDiff, Nat.reduceBEq, Nat.reduceLT, Nat.reduceLeDiff, Nat.reduceAdd, Nat.reduceSub, reduceIte, retVC, cellV', evR, nfz, nfzs, nfzss, List.contains_nil, List.contains_cons, Bool.or_false, or_true]
                 done)
              | (have hz : ¬ (b = 0 ∧ (l[i].kind = 6 ∨ l[i].kind = 7)) := by omega
                 have e := fin hz
                 refine ⟨by omega, by omega, ?_⟩
                 refine callK_i (d146 l[i].kind a b wa wb ⟨k3, k7⟩ (by omega)) ?_
                 simp only [rows_len, rows_take, hw2, EV, Nat.reduceEqDiff, Nat.reduceBEq, Nat.reduceLT, Nat.reduceLeDiff, Nat.reduceAdd, Nat.reduceSub, reduceIte]
                 refine ⟨by omega, by omega, (opOf l[i].kind a b, r), ⟨e, hx2, by show r.length ≤ i; omega, fun n hn => p4 n (by simp [hn])⟩, by rw [rows_cons]⟩)
        · rintro ⟨n, r'⟩ ⟨q1, q2, q3, q4⟩
          simp only at q1 q2 q3 q4
          have hw : IntKind.i64.wrap (((r'.length + 1 : Nat) : Int) - 1) = (r'.length : Int) := by
            rw [w64 _ (by omega)]; simp
          have hr : r'.length < r'.length + 1 := by omega
          have hr2 : (r'.length : Int) < ((r'.length + 1 : Nat) : Int) := by omega
          simp only [rows_len, rows_top, hw, hr, hr2, EV, Nat.reduceEqDiff, Nat.reduceBEq, Nat.reduceLT, Nat.reduceLeDiff, Nat.reduceAdd, Nat.reduceSub, reduceIte]
          refine callK_i (d61 _ _ _) ?_
          simp only [EV, Nat.reduceEqDiff, Nat.reduceBEq, Nat.reduceLT, Nat.reduceLeDiff, Nat.reduceAdd, Nat.reduceSub, reduceIte]
          refine cK_cut (fun h => ?_) (fun h => ?_)
          · have w : whole n = false := by simp only [Bool.not_eq_true'] at h; exact h
            have e : evTop (evPre K r l[i]) = .inl 3 := by simp [q1, evTop, w]
            simp only [EV, Nat.reduceEqDiff, Nat.reduceBEq, Nat.reduceLT, Nat.reduceLeDiff, Nat.reduceAdd, Nat.reduceSub, reduceIte]
            simp only [p9 e, EV, Nat.reduceEqDiff, Nat.reduceBEq, Nat.reduceLT, Nat.reduceLeDiff, Nat.reduceAdd, Nat.reduceSub, reduceIte, retVC, cellV', evR, nfz, nfzs, nfzss, List.contains_nil, List.contains_cons, Bool.or_false, or_true]
          · have w : whole n = true := by simp only [Bool.not_eq_false'] at h; exact h
            simp only [EV, Nat.reduceEqDiff, Nat.reduceBEq, Nat.reduceLT, Nat.reduceLeDiff, Nat.reduceAdd, Nat.reduceSub, reduceIte]
            refine ⟨n :: r', ⟨by simp [q1, evTop, w], by simpa using q2, by simp only [List.length_cons]; omega, ?_⟩, rfl⟩
            intro m hm
            rcases List.mem_cons.1 hm with rfl | hm
            · exact w
            · exact q4 m hm
      · rintro r' ⟨q1, q2, q3, q4⟩
        simp only [EV, Nat.reduceEqDiff, Nat.reduceBEq, Nat.reduceLT, Nat.reduceLeDiff, Nat.reduceAdd, Nat.reduceSub, reduceIte]
        rw [w64 _ (by omega)]
        refine ⟨(i + 1, r'), ⟨h1, ?_, q2, q3, q4⟩, by simp only; omega, rfl⟩
        rw [← p1, evRun_go q1]
    · have h1 : i = l.length := by have : ¬ (i : Int) < l.length := by simpa using h
                                   omega
      subst h1
      rw [List.drop_length] at p1 p2
      simp only [exRun, Option.some.injEq] at p2
      have e0 : ∃ n, r = [n] := List.length_eq_one_iff.1 (by omega)
      obtain ⟨n, rfl⟩ := e0
      have e : evalOf K l = (n, 0) := by simp only [evalOf, ← p1, evRun, outOf]
      simp only [rows_cons, rows_nil, EV, Nat.reduceEqDiff, Nat.reduceBEq, Nat.reduceLT, Nat.reduceLeDiff, Nat.reduceAdd, Nat.reduceSub, reduceIte]
      refine ⟨by omega, by simp, ?_⟩
      simp only [nth_zero, EV, Nat.reduceEqDiff, Nat.reduceBEq, Nat.reduceLT, Nat.reduceLeDiff, Nat.reduceAdd, Nat.reduceSub, reduceIte]
      simp only [e, EV, Nat.reduceEqDiff, Nat.reduceBEq, Nat.reduceLT, Nat.reduceLeDiff, Nat.reduceAdd, Nat.reduceSub, reduceIte, retVC, cellV', evR, nfz, nfzs, nfzss, List.contains_nil, List.contains_cons, Bool.or_false, or_true]
end Go.AM
