/- Contracts of functions of the given program, for the law FnExactSameStore: what they return and what they write, under the bounds that each theorem states. -/
import Derived.Test.YtjbmgopednpbmaaC9
import Derived.Test.YtjbmgopednpbmaaU11
namespace Go.AM
set_option linter.unusedVariables false
set_option linter.unusedSimpArgs false

/-- loop.example/g00837/laws.FnExactSameStore -/
def m3 : MC :=
  (.seq
   (.reg [⟨(some 4), none, .a (.asg (.c (.bool false)))⟩])
   (.keep [0, 1]
   (.seq
    (.reg [⟨(some 5), none, .a (.asg (.c (.int .i64 1048576)))⟩])
    (.keep [0, 1, 5]
    (.seq
     (.reg [⟨(some 10), none, .q (.mov (.t 0))⟩,
       ⟨(some 11), none, .q (.mov (.t 5))⟩,
       ⟨(some 12), none, .a (.call (.fn 13) false [.lend (.t 10), .lend (.t 11)])⟩,
       ⟨(some 5), none, .a (.asg (.t 12))⟩])
     (.keep [0, 1, 5]
     (.seq
      (.seq
       (.reg [⟨(some 13), none, .q (.mov (.t 5))⟩,
         ⟨(some 14), none, .q (.bin false .lss (.t 13) (.c (.int .i64 0)))⟩])
       (.keep [0, 1, 5, 14]
       (.cond (.t 14)
        (.seq
         (.reg [⟨(some 4), none, .a (.asg (.c (.bool true)))⟩])
         .ret)
        .skip)))
      (.keep [0, 1, 5]
      (.seq
       (.reg [⟨(some 15), none, .q (.mov (.t 1))⟩,
         ⟨(some 16), none, .q (.mov (.t 5))⟩,
         ⟨(some 17), none, .a (.call (.fn 13) false [.lend (.t 15), .lend (.t 16)])⟩,
         ⟨(some 5), none, .a (.asg (.t 17))⟩])
       (.keep [0, 1, 5]
       (.seq
        (.seq
         (.reg [⟨(some 18), none, .q (.mov (.t 5))⟩,
           ⟨(some 19), none, .q (.bin false .lss (.t 18) (.c (.int .i64 0)))⟩])
         (.keep [0, 1, 19]
         (.cond (.t 19)
          (.seq
           (.reg [⟨(some 4), none, .a (.asg (.c (.bool true)))⟩])
           .ret)
          .skip)))
        (.keep [0, 1]
        (.seq
         (.reg [⟨(some 20), none, .q (.mov (.t 0))⟩,
           ⟨(some 21), none, .a (.call (.fn 15) false [.lend (.t 20)])⟩,
           ⟨(some 22), none, .q (.mov (.t 1))⟩,
           ⟨(some 23), none, .a (.call (.fn 15) false [.lend (.t 22)])⟩,
           ⟨(some 24), none, .a (.call (.fn 14) false [.lend (.t 21), .lend (.t 23)])⟩,
           ⟨(some 6), none, .a (.asg (.t 24))⟩])
         (.keep [0, 1, 6]
         (.seq
          (.reg [⟨(some 25), none, .q (.mov (.t 0))⟩,
            ⟨(some 26), none, .a (.call (.fn 15) false [.lend (.t 25)])⟩,
            ⟨(some 7), none, .a (.asg (.t 26))⟩])
          (.keep [0, 1, 6, 7, 26]
          (.seq
           (.reg [⟨(some 27), none, .q (.mov (.t 1))⟩,
             ⟨(some 28), none, .a (.call (.fn 15) false [.lend (.t 27)])⟩,
             ⟨(some 8), none, .a (.asg (.t 28))⟩])
           (.keep [0, 1, 6, 7, 8, 26, 28]
           (.seq
            (.reg [⟨(some 29), none, .q (.mov (.t 7))⟩,
              ⟨(some 30), none, .q (.mov (.t 8))⟩,
              ⟨(some 31), none, .a (.call (.fn 16) false [.lend (.t 29), .lend (.t 30)])⟩,
              ⟨(some 9), none, .a (.asg (.t 31))⟩])
            (.keep [0, 1, 6, 7, 8, 9, 26, 28]
            (.seq
             (.seq
              (.reg [⟨(some 32), none, .q (.mov (.t 9))⟩,
                ⟨(some 33), none, .q (.mov (.t 6))⟩,
                ⟨(some 34), none, .q (.bin true .neq (.t 32) (.t 33))⟩])
              (.keep [0, 1, 7, 8, 26, 28, 34]
              (.cond (.t 34)
               (.seq
                (.reg [⟨(some 4), none, .a (.asg (.c (.bool false)))⟩])
                .ret)
               .skip)))
             (.keep [0, 1, 7, 8, 26, 28]
             (.seq
              (.seq
               (.reg [⟨(some 35), none, .q (.mov (.t 7))⟩,
                 ⟨(some 36), none, .q (.mov (.t 0))⟩,
                 ⟨(some 37), none, .a (.call (.fn 15) false [.lend (.t 36)])⟩,
                 ⟨(some 38), none, .a (.call (.fn 17) false [.lend (.t 35), .lend (.t 37)])⟩,
                 ⟨(some 39), none, .q (.un .not (.t 38))⟩])
               (.keep [1, 8, 28, 39]
               (.cond (.t 39)
                (.seq
                 (.reg [⟨(some 4), none, .a (.asg (.c (.bool false)))⟩])
                 .ret)
                .skip)))
              (.keep [1, 8, 28]
              (.seq
               (.seq
                (.reg [⟨(some 40), none, .q (.mov (.t 8))⟩,
                  ⟨(some 41), none, .q (.mov (.t 1))⟩,
                  ⟨(some 42), none, .a (.call (.fn 15) false [.lend (.t 41)])⟩,
                  ⟨(some 43), none, .a (.call (.fn 17) false [.lend (.t 40), .lend (.t 42)])⟩,
                  ⟨(some 44), none, .q (.un .not (.t 43))⟩])
                (.keep [44]
                (.cond (.t 44)
                 (.seq
                  (.reg [⟨(some 4), none, .a (.asg (.c (.bool false)))⟩])
                  .ret)
                 .skip)))
               (.keep []
               (.seq
                (.reg [⟨(some 4), none, .a (.asg (.c (.bool true)))⟩])
                .ret)))))))))))))))))))))))))))


set_option maxRecDepth 100000 in
theorem d3 (a b : List Modu) (ha : (a.length : Int) ≤ 9223372036854775807) (hoa : ∀ s ∈ a, s.ok) (hb : (b.length : Int) ≤ 9223372036854775807) (hob : ∀ s ∈ b, s.ok) :
    Does Go.Proofs.Try.prog 3 [.fsl 6 (a.map Modu.z), .fsl 6 (b.map Modu.z)] false (.v (.bool true)) [.dead, .dead] := by
  refine does_intro (mc := m3) (N := 45) (rs := [4]) (fx := []) 2 rfl (by decide +kernel) ?_
  simp only [m3, EV, Nat.reduceEqDiff, Nat.reduceBEq, Nat.reduceLT, Nat.reduceLeDiff, Nat.reduceAdd, Nat.reduceSub, reduceIte]
  refine callK_i (d13 a 1048576 (by omega) (by omega) ha hoa) ?_
  simp only [EV, Nat.reduceEqDiff, Nat.reduceBEq, Nat.reduceLT, Nat.reduceLeDiff, Nat.reduceAdd, Nat.reduceSub, reduceIte]
  refine cK_cut (fun h => ?_) (fun h => ?_)
  · simp only [EV, Nat.reduceEqDiff, Nat.reduceBEq, Nat.reduceLT, Nat.reduceLeDiff, Nat.reduceAdd, Nat.reduceSub, reduceIte]
    simp only [EV, Nat.reduceEqDiff, Nat.reduceBEq, Nat.reduceLT, Nat.reduceLeDiff, Nat.reduceAdd, Nat.reduceSub, reduceIte, retVC, cellV', evR, nfz, nfzs, nfzss, List.contains_nil, List.contains_cons, Bool.or_false, or_true]
  have h0 : 0 ≤ szModuS a 1048576 := by simpa using h
  have h1 := szModuS_tot a _ h0
  have h2 := totModus_nn a
  have h3 : (a.length : Int) ≤ 1048576 := by omega
  have hx : ∀ s ∈ a, s.sm := fun s g => s.sm_of (by have := totModus_mem a s g; omega)
  have g0 := szModuS_le a 1048576 (by omega)
  clear h
  simp only [EV, Nat.reduceEqDiff, Nat.reduceBEq, Nat.reduceLT, Nat.reduceLeDiff, Nat.reduceAdd, Nat.reduceSub, reduceIte]
  refine callK_i (d13 b (szModuS a 1048576) h0 g0 hb hob) ?_
  simp only [EV, Nat.reduceEqDiff, Nat.reduceBEq, Nat.reduceLT, Nat.reduceLeDiff, Nat.reduceAdd, Nat.reduceSub, reduceIte]
  refine cK_cut (fun h => ?_) (fun h => ?_)
  · simp only [EV, Nat.reduceEqDiff, Nat.reduceBEq, Nat.reduceLT, Nat.reduceLeDiff, Nat.reduceAdd, Nat.reduceSub, reduceIte]
    simp only [EV, Nat.reduceEqDiff, Nat.reduceBEq, Nat.reduceLT, Nat.reduceLeDiff, Nat.reduceAdd, Nat.reduceSub, reduceIte, retVC, cellV', evR, nfz, nfzs, nfzss, List.contains_nil, List.contains_cons, Bool.or_false, or_true]
  have c0 : 0 ≤ szModuS b (szModuS a 1048576) := by simpa using h
  have c1 := szModuS_tot b _ c0
  have c2 := totModus_nn b
  have c3 : (b.length : Int) ≤ 1048576 := by omega
  have hy : ∀ s ∈ b, s.sm := fun s g => s.sm_of (by have := totModus_mem b s g; omega)
  clear h
  simp only [EV, Nat.reduceEqDiff, Nat.reduceBEq, Nat.reduceLT, Nat.reduceLeDiff, Nat.reduceAdd, Nat.reduceSub, reduceIte]
  refine callK_i (d15 a h3 hx) ?_
  simp only [Modu.frz, EV, Nat.reduceEqDiff, Nat.reduceBEq, Nat.reduceLT, Nat.reduceLeDiff, Nat.reduceAdd, Nat.reduceSub, reduceIte]
  refine callK_i (d15 b c3 hy) ?_
  simp only [Modu.frz, EV, Nat.reduceEqDiff, Nat.reduceBEq, Nat.reduceLT, Nat.reduceLeDiff, Nat.reduceAdd, Nat.reduceSub, reduceIte]
  refine callK_i (d14 a b h3 c3 hx hy) ?_
  simp only [Modu.frz, EV, Nat.reduceEqDiff, Nat.reduceBEq, Nat.reduceLT, Nat.reduceLeDiff, Nat.reduceAdd, Nat.reduceSub, reduceIte]
  refine callK_i (d15 a h3 hx) ?_
  simp only [Modu.frz, EV, Nat.reduceEqDiff, Nat.reduceBEq, Nat.reduceLT, Nat.reduceLeDiff, Nat.reduceAdd, Nat.reduceSub, reduceIte]
  refine callK_i (d15 b c3 hy) ?_
  simp only [Modu.frz, EV, Nat.reduceEqDiff, Nat.reduceBEq, Nat.reduceLT, Nat.reduceLeDiff, Nat.reduceAdd, Nat.reduceSub, reduceIte]
  refine callK_i (d16 a b h3 c3 hx hy) ?_
  simp only [Modu.frz, EV, Nat.reduceEqDiff, Nat.reduceBEq, Nat.reduceLT, Nat.reduceLeDiff, Nat.reduceAdd, Nat.reduceSub, reduceIte]
  refine callK_i (d15 a h3 hx) ?_
  simp only [Modu.frz, EV, Nat.reduceEqDiff, Nat.reduceBEq, Nat.reduceLT, Nat.reduceLeDiff, Nat.reduceAdd, Nat.reduceSub, reduceIte]
  refine callK_i (d17 a h3 hx) ?_
  simp only [Modu.frz, EV, Nat.reduceEqDiff, Nat.reduceBEq, Nat.reduceLT, Nat.reduceLeDiff, Nat.reduceAdd, Nat.reduceSub, reduceIte]
  refine callK_i (d15 b c3 hy) ?_
  simp only [Modu.frz, EV, Nat.reduceEqDiff, Nat.reduceBEq, Nat.reduceLT, Nat.reduceLeDiff, Nat.reduceAdd, Nat.reduceSub, reduceIte]
  refine callK_i (d17 b c3 hy) ?_
  simp only [Modu.frz, EV, Nat.reduceEqDiff, Nat.reduceBEq, Nat.reduceLT, Nat.reduceLeDiff, Nat.reduceAdd, Nat.reduceSub, reduceIte]
  simp only [EV, Nat.reduceEqDiff, Nat.reduceBEq, Nat.reduceLT, Nat.reduceLeDiff, Nat.reduceAdd, Nat.reduceSub, reduceIte, retVC, cellV', evR, nfz, nfzs, nfzss, List.contains_nil, List.contains_cons, Bool.or_false, or_true]
end Go.AM
