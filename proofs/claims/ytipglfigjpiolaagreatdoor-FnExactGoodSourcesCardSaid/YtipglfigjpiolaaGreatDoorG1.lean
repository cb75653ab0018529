/- Contracts of functions of the given program, for the law FnExactGoodSources: what they return and what they write, under the bounds that each theorem states. -/
import Derived.Test.YtipglfigjpiolaaGreatDoorF4
import Derived.Test.YtipglfigjpiolaaGreatDoorProg
import Derived.Shelf.LaysC
import Derived.Shelf.Strconv.Lower
import Derived.Lib.Strings
import Derived.Lib.Walk
import Derived.Lib.ConvBytes
import Derived.Lib.IfaceNeq
import Derived.Lib.ItoaWalk
import Derived.Lib.ParseIntBMem
import Derived.Lib.Hide
import Derived.Laws.Strings3
import Derived.Laws.Closers25
import Derived.Laws.Closers25b
import Derived.WalkKit
import Derived.BigCall
import Derived.BigGuard
import Derived.Shelf.Small.Strs
import Derived.Shelf.Strings.SlTrimAscii
import Derived.Shelf.Strconv.Atoi
import Derived.Ground.NamesProg
import Derived.Shelf.Lay
namespace Go.AM
set_option linter.unusedVariables false
set_option linter.unusedSimpArgs false
def m66 : MC :=
 (.seq (.reg [Xb 6 (.asg .fb)]) (.seq (.reg [Xm 7 0, Xm 8 1, Xq 9 (.bin false .geq (.t 7) (.t 8)), Xm 10 9, Xt 11 10 (.mov (.t 0)), Xt 12 10 (.mov (.t 2)), Xt 13 10 (.bin false .leq (.t 11) (.t 12)), Xq 14 (.pick (.t 10) (.t 13) .fb), Xa 6 14]) .ret))
theorem d66 (x lo hi : Int) : Does Go.Proofs.Tryz.prog 66 [.v (.int .i64 x), .v (.int .i64 lo), .v (.int .i64 hi)] false (.v (.bool (decide (lo ≤ x) && decide (x ≤ hi)))) [.dead, .dead, .dead] := by
  refine does_intro (mc := m66) (N := 15) (rs := [6]) (fx := []) 3 rfl (by decide +kernel) ?_
  simp only [m66, EV, Nat.reduceEqDiff, Nat.reduceBEq, Nat.reduceLT, Nat.reduceLeDiff, Nat.reduceAdd, Nat.reduceSub, reduceIte]
  repeat' (first
    | (refine gK_cut (fun h => ?_) (fun h => ?_) <;> simp only [h, EV, Nat.reduceEqDiff, Nat.reduceBEq, Nat.reduceLT, Nat.reduceLeDiff, Nat.reduceAdd, Nat.reduceSub, reduceIte])
    | (refine cK_cut (fun h => ?_) (fun h => ?_) <;> simp only [h, EV, Nat.reduceEqDiff, Nat.reduceBEq, Nat.reduceLT, Nat.reduceLeDiff, Nat.reduceAdd, Nat.reduceSub, reduceIte]))
  all_goals simp only [h, EV, Nat.reduceEqDiff, Nat.reduceBEq, Nat.reduceLT, Nat.reduceLeDiff, Nat.reduceAdd, Nat.reduceSub, reduceIte, evRE, retVC, cellV', evR, nfz, nfzs, nfzss, List.contains_nil, List.contains_cons, Bool.or_false, or_true]
def m68 : MC :=
 (.seq (.reg [Xb 6 (.asg .fb)]) (.seq (.reg [Xm 7 0, Xm 8 1, Xq 9 (.bin false .geq (.t 7) (.t 8)), Xm 10 9, Xt 11 10 (.mov (.t 0)), Xt 12 10 (.mov (.t 2)), Xt 13 10 (.bin false .leq (.t 11) (.t 12)), Xq 14 (.pick (.t 10) (.t 13) .fb), Xa 6 14]) .ret))
theorem d68 (x lo hi : Int) : Does Go.Proofs.Tryz.prog 68 [.v (.int .i64 x), .v (.int .i64 lo), .v (.int .i64 hi)] false (.v (.bool (decide (lo ≤ x) && decide (x ≤ hi)))) [.dead, .dead, .dead] := by
  refine does_intro (mc := m68) (N := 15) (rs := [6]) (fx := []) 3 rfl (by decide +kernel) ?_
  simp only [m68, EV, Nat.reduceEqDiff, Nat.reduceBEq, Nat.reduceLT, Nat.reduceLeDiff, Nat.reduceAdd, Nat.reduceSub, reduceIte]
  repeat' (first
    | (refine gK_cut (fun h => ?_) (fun h => ?_) <;> simp only [h, EV, Nat.reduceEqDiff, Nat.reduceBEq, Nat.reduceLT, Nat.reduceLeDiff, Nat.reduceAdd, Nat.reduceSub, reduceIte])
    | (refine cK_cut (fun h => ?_) (fun h => ?_) <;> simp only [h, EV, Nat.reduceEqDiff, Nat.reduceBEq, Nat.reduceLT, Nat.reduceLeDiff, Nat.reduceAdd, Nat.reduceSub, reduceIte]))
  all_goals simp only [h, EV, Nat.reduceEqDiff, Nat.reduceBEq, Nat.reduceLT, Nat.reduceLeDiff, Nat.reduceAdd, Nat.reduceSub, reduceIte, evRE, retVC, cellV', evR, nfz, nfzs, nfzss, List.contains_nil, List.contains_cons, Bool.or_false, or_true]
def lett (b : Int) : Bool := decide (65 ≤ b) && decide (b ≤ 90) || decide (97 ≤ b) && decide (b ≤ 122)
def digt (b : Int) : Bool := decide (48 ≤ b) && decide (b ≤ 57)
def m67 : MC :=
 (.seq (.reg [Xb 2 (.asg .fb)]) (.seq (.reg [Xm 3 0, Xq 4 (.bin false .geq (.t 3) (.c (.int .u8 65))), Xm 5 4, Xt 6 5 (.mov (.t 0)), Xt 7 5 (.bin false .leq (.t 6) (.c (.int .u8 90))), Xq 8 (.pick (.t 5) (.t 7) .fb), Xm 9 8, Xu 10 9 (.mov (.t 0)), Xu 11 9 (.bin false .geq (.t 10) (.c (.int .u8 97))), Xu 12 9 (.mov (.t 11)), Xt 13 12 (.mov (.t 0)), Xt 14 12 (.bin false .leq (.t 13) (.c (.int .u8
 122))), Xu 15 9 (.pick (.t 12) (.t 14) .fb), Xq 16 (.pick (.t 9) .tb (.t 15)), Xa 2 16]) .ret))
theorem d67 (b : Int) : Does Go.Proofs.Tryz.prog 67 [.v (.int .u8 b)] false (.v (.bool (lett b))) [.dead] := by
  refine does_intro (mc := m67) (N := 17) (rs := [2]) (fx := []) 1 rfl (by decide +kernel) ?_
  simp only [m67, EV, Nat.reduceEqDiff, Nat.reduceBEq, Nat.reduceLT, Nat.reduceLeDiff, Nat.reduceAdd, Nat.reduceSub, reduceIte]
  repeat' (first
    | (refine gK_cut (fun h => ?_) (fun h => ?_) <;> simp only [h, EV, Nat.reduceEqDiff, Nat.reduceBEq, Nat.reduceLT, Nat.reduceLeDiff, Nat.reduceAdd, Nat.reduceSub, reduceIte])
    | (refine cK_cut (fun h => ?_) (fun h => ?_) <;> simp only [h, EV, Nat.reduceEqDiff, Nat.reduceBEq, Nat.reduceLT, Nat.reduceLeDiff, Nat.reduceAdd, Nat.reduceSub, reduceIte]))
  all_goals simp only [lett, *, Bool.or_true, Bool.true_or, Bool.false_or, Bool.or_false, EV, Nat.reduceEqDiff, Nat.reduceBEq, Nat.reduceLT, Nat.reduceLeDiff, Nat.reduceAdd, Nat.reduceSub, reduceIte, evRE, retVC, cellV', evR, nfz, nfzs, nfzss, List.contains_nil, List.contains_cons, Bool.or_false, or_true]
def m59 : MC :=
 (.seq (.reg [Xb 2 (.asg .fb)]) (.seq (.reg [Xm 3 0, Xq 4 (.bin false .geq (.t 3) (.c (.int .u8 48))), Xm 5 4, Xt 6 5 (.mov (.t 0)), Xt 7 5 (.bin false .leq (.t 6) (.c (.int .u8 57))), Xq 8 (.pick (.t 5) (.t 7) .fb), Xa 2 8]) .ret))
theorem d59 (b : Int) : Does Go.Proofs.Tryz.prog 59 [.v (.int .u8 b)] false (.v (.bool (digt b))) [.dead] := by
  refine does_intro (mc := m59) (N := 9) (rs := [2]) (fx := []) 1 rfl (by decide +kernel) ?_
  simp only [m59, EV, Nat.reduceEqDiff, Nat.reduceBEq, Nat.reduceLT, Nat.reduceLeDiff, Nat.reduceAdd, Nat.reduceSub, reduceIte]
  repeat' (first
    | (refine gK_cut (fun h => ?_) (fun h => ?_) <;> simp only [h, EV, Nat.reduceEqDiff, Nat.reduceBEq, Nat.reduceLT, Nat.reduceLeDiff, Nat.reduceAdd, Nat.reduceSub, reduceIte])
    | (refine cK_cut (fun h => ?_) (fun h => ?_) <;> simp only [h, EV, Nat.reduceEqDiff, Nat.reduceBEq, Nat.reduceLT, Nat.reduceLeDiff, Nat.reduceAdd, Nat.reduceSub, reduceIte]))
  all_goals simp only [digt, *, EV, Nat.reduceEqDiff, Nat.reduceBEq, Nat.reduceLT, Nat.reduceLeDiff, Nat.reduceAdd, Nat.reduceSub, reduceIte, evRE, retVC, cellV', evR, nfz, nfzs, nfzss, List.contains_nil, List.contains_cons, Bool.or_false, or_true]
def chOk (s : ByteArray) (i : Nat) : Bool := lett (sAt s i) || (i != 0 && digt (sAt s i))
def chsOk (s : ByteArray) (i : Nat) : Prop := ∀ j, j < i → chOk s j = true
open Classical in
noncomputable def nameOk (s : ByteArray) : Bool := decide (chsOk s s.size ∧ 1 ≤ s.size ∧ s.size ≤ 10)
theorem chsOk_succ {s : ByteArray} {i : Nat} (h : chsOk s i) (h2 : chOk s i = true) : chsOk s (i + 1) := by
  intro j hj
  by_cases e : j = i
  · subst e; exact h2
  · exact h j (by omega)
theorem nameOk_no {s : ByteArray} {i : Nat} (hi : i < s.size) (h : chOk s i = false) : nameOk s = false := by
  simp only [nameOk, decide_eq_false_iff_not]
  rintro ⟨h1, _⟩
  have := h1 i hi
  rw [h] at this; cases this
theorem nameOk_yes {s : ByteArray} (h : chsOk s s.size) : nameOk s = (decide ((1 : Int) ≤ s.size) && decide ((s.size : Int) ≤ 10)) := by
  have e1 : decide ((1 : Int) ≤ s.size) = decide (1 ≤ s.size) := by congr 1; apply propext; omega
  have e2 : decide ((s.size : Int) ≤ 10) = decide (s.size ≤ 10) := by congr 1; apply propext; omega
  simp [nameOk, h, e1, e2]
def m42 : MC :=
 (.seq (.reg [Xb 2 (.asg .fb)]) (.seq (.seq (.reg [Xb 3 (.asg (.i 0))]) (.block 0 (.loop [0, 3] (.seq (.seq (.reg [Xm 6 3, Xm 7 0, Xq 8 (.len true (.t 7)), Xq 9 (.bin false .lss (.t 6) (.t 8))]) (.cond (.t 9) .skip (.exit 0))) (.seq (.block 1 (.seq (.reg [Xm 12 0, Xm 13 3, Xq 14 (.idx (.t 12) (.t 13)), Xa 4 14]) (.join [0, 3, 4, 5] (.reg [Xm 15 4, Xq 16 (.bin false .geq (.t 15) (.c (.int .u8 65))),
 Xm 17 16, Xt 18 17 (.mov (.t 4)), Xt 19 17 (.bin false .leq (.t 18) (.c (.int .u8 90))), Xq 20 (.pick (.t 17) (.t 19) .fb), Xm 21 20, Xu 22 21 (.mov (.t 4)), Xu 23 21 (.bin false .geq (.t 22) (.c (.int .u8 97))), Xu 24 21 (.mov (.t 23)), Xt 25 24 (.mov (.t 4)), Xt 26 24 (.bin false .leq (.t 25) (.c (.int .u8 122))), Xu 27 21 (.pick (.t 24) (.t 26) .fb), Xq 28 (.pick (.t 21) .tb (.t 27)), Xa 5 28])
 (.seq (.reg [Xm 29 5, Xq 30 (.un .not (.t 29)), Xm 31 30, Xt 32 31 (.mov (.t 3)), Xt 33 31 (.bin false .eql (.t 32) (.i 0)), Xt 34 31 (.mov (.t 33)), Xu 35 34 (.mov (.t 4)), Xu 36 34 (.bin false .lss (.t 35) (.c (.int .u8 48))), Xt 37 31 (.pick (.t 34) .tb (.t 36)), Xt 38 31 (.mov (.t 37)), Xu 39 38 (.mov (.t 4)), Xu 40 38 (.bin false .gtr (.t 39) (.c (.int .u8 57))), Xt 41 31 (.pick (.t 38) .tb
 (.t 40)), Xq 42 (.pick (.t 31) (.t 41) .fb)]) (.cond (.t 42) (.seq (.reg [Xb 2 (.asg .fb)]) .ret) .skip))))) (.reg [Xm 10 3, Xq 11 (.bin false .add (.t 10) (.i 1)), Xa 3 11])))))) (.seq (.reg [Xm 43 0, Xq 44 (.len true (.t 43)), Xb 45 (.call (.fn 66) false [.lend (.t 44), .lend (.i 1), .lend (.i 10)]), Xa 2 45]) .ret)))
theorem d42 (s : ByteArray) (hs : (s.size : Int) ≤ 9223372036854775807) : Does Go.Proofs.Tryz.prog 42 [.v (.string s)] false (.v (.bool (nameOk s))) [.dead] := by
  refine does_intro (mc := m42) (N := 46) (rs := [2]) (fx := []) 1 rfl (by decide +kernel) ?_
  simp only [m42, EV, Nat.reduceEqDiff, Nat.reduceBEq, Nat.reduceLT, Nat.reduceLeDiff, Nat.reduceAdd, Nat.reduceSub, reduceIte]
  refine awp_loop (fun i : Nat => i ≤ s.size ∧ chsOk s i) (fun i => stl [(0, .v (.string s)), (3, .v (.int .i64 (i : Int)))]) (fun i => s.size - i) 0 ⟨by omega, fun j hj => absurd hj (by omega)⟩ ?_ ?_
  · simp only [EV, Nat.reduceEqDiff, Nat.reduceBEq, Nat.reduceLT, Nat.reduceLeDiff, Nat.reduceAdd, Nat.reduceSub, reduceIte]
    rfl
  · rintro i ⟨h0, h1⟩
    simp only [EV, Nat.reduceEqDiff, Nat.reduceBEq, Nat.reduceLT, Nat.reduceLeDiff, Nat.reduceAdd, Nat.reduceSub, reduceIte]
    refine cK_cut (fun h => ?_) (fun h => ?_)
    · have h2 : (i : Int) < s.size := by simpa using h
      simp only [h2, EV, Nat.reduceEqDiff, Nat.reduceBEq, Nat.reduceLT, Nat.reduceLeDiff, Nat.reduceAdd, Nat.reduceSub, reduceIte]
      refine awp_join (fun _ : Unit => True) (fun _ => stl [(0, .v (.string s)), (3, .v (.int .i64 (i : Int))), (4, .v (.int .u8 (sAt s i))), (5, .v (.bool (lett (sAt s i))))]) ?_ ?_
      · simp only [EV, Nat.reduceEqDiff, Nat.reduceBEq, Nat.reduceLT, Nat.reduceLeDiff, Nat.reduceAdd, Nat.reduceSub, reduceIte]
        repeat' (first
    | (refine gK_cut (fun h => ?_) (fun h => ?_) <;> simp only [h, EV, Nat.reduceEqDiff, Nat.reduceBEq, Nat.reduceLT, Nat.reduceLeDiff, Nat.reduceAdd, Nat.reduceSub, reduceIte])
    | (refine cK_cut (fun h => ?_) (fun h => ?_) <;> simp only [h, EV, Nat.reduceEqDiff, Nat.reduceBEq, Nat.reduceLT, Nat.reduceLeDiff, Nat.reduceAdd, Nat.reduceSub, reduceIte]))
        all_goals refine ⟨(), ?_⟩
        all_goals simp only [lett, *, Bool.or_true, Bool.true_or, Bool.false_or, Bool.or_false, EV, Nat.reduceEqDiff, Nat.reduceBEq, Nat.reduceLT, Nat.reduceLeDiff, Nat.reduceAdd, Nat.reduceSub, reduceIte]
      · rintro _ _
        simp only [EV, Nat.reduceEqDiff, Nat.reduceBEq, Nat.reduceLT, Nat.reduceLeDiff, Nat.reduceAdd, Nat.reduceSub, reduceIte]
        repeat' (first
    | (refine gK_cut (fun h => ?_) (fun h => ?_) <;> simp only [h, EV, Nat.reduceEqDiff, Nat.reduceBEq, Nat.reduceLT, Nat.reduceLeDiff, Nat.reduceAdd, Nat.reduceSub, reduceIte])
    | (refine cK_cut (fun h => ?_) (fun h => ?_) <;> simp only [h, EV, Nat.reduceEqDiff, Nat.reduceBEq, Nat.reduceLT, Nat.reduceLeDiff, Nat.reduceAdd, Nat.reduceSub, reduceIte]))
        all_goals first
          | (have hc : chOk s i = false := by
               simp_all [chOk, digt] <;> omega
             simp only [nameOk_no (by omega) hc, EV, Nat.reduceEqDiff, Nat.reduceBEq, Nat.reduceLT, Nat.reduceLeDiff, Nat.reduceAdd, Nat.reduceSub, reduceIte, evRE, retVC, cellV', evR, nfz, nfzs, nfzss, List.contains_nil, List.contains_cons, Bool.or_false, or_true]
             done)
          | (have hc : chOk s i = true := by
               simp_all [chOk, digt] <;> omega
             rw [w64 _ (by omega)]
             exact ⟨i + 1, ⟨by omega, chsOk_succ h1 hc⟩, by omega, rfl⟩)
    · have h2 : i = s.size := by have : ¬ (i : Int) < s.size := by simpa using h
                                 omega
      subst h2
      simp only [EV, Nat.reduceEqDiff, Nat.reduceBEq, Nat.reduceLT, Nat.reduceLeDiff, Nat.reduceAdd, Nat.reduceSub, reduceIte]
      refine callK_i (d66 _ _ _) ?_
      simp only [EV, Nat.reduceEqDiff, Nat.reduceBEq, Nat.reduceLT, Nat.reduceLeDiff, Nat.reduceAdd, Nat.reduceSub, reduceIte]
      simp only [nameOk_yes h1, EV, Nat.reduceEqDiff, Nat.reduceBEq, Nat.reduceLT, Nat.reduceLeDiff, Nat.reduceAdd, Nat.reduceSub, reduceIte, evRE, retVC, cellV', evR, nfz, nfzs, nfzss, List.contains_nil, List.contains_cons, Bool.or_false, or_true]
end Go.AM
namespace Go.AM
set_option linter.unusedVariables false
set_option linter.unusedSimpArgs false
def m47 : MC :=
 (.seq (.reg [Xb 2 (.asg .fb)]) (.seq (.seq (.reg [Xm 4 0, Xq 5 (.len true (.t 4)), Xq 6 (.mov (.i 0))]) (.block 0 (.loop [0, 5, 6] (.seq (.reg [Xq 7 (.bin false .lss (.t 6) (.t 5))]) (.seq (.cond (.t 7) .skip (.exit 0)) (.seq (.block 1 (.seq (.reg [Xm 8 6, Xa 3 8]) (.seq (.reg [Xm 9 0, Xm 10 3, Xq 11 (.idx (.t 9) (.t 10)), Xb 12 (.call (.fn 67) false [.lend (.t 11)]), Xq 13 (.un .not (.t 12)), Xm
 14 13, Xt 15 14 (.mov (.t 3)), Xt 16 14 (.bin false .eql (.t 15) (.i 0)), Xt 17 14 (.mov (.t 16)), Xu 18 17 (.mov (.t 0)), Xu 19 17 (.mov (.t 3)), Xu 20 17 (.idx (.t 18) (.t 19)), XU 21 17 (.call (.fn 59) false [.lend (.t 20)]), Xu 22 17 (.un .not (.t 21)), Xt 23 14 (.pick (.t 17) .tb (.t 22)), Xq 24 (.pick (.t 14) (.t 23) .fb)]) (.cond (.t 24) (.seq (.reg [Xb 2 (.asg .fb)]) .ret) .skip)))) (.reg
 [Xq 25 (.bin false .add (.t 6) (.i 1)), Xm 6 25]))))))) (.seq (.reg [Xm 26 0, Xq 27 (.len true (.t 26)), Xb 28 (.call (.fn 68) false [.lend (.t 27), .lend (.i 1), .lend (.i 10)]), Xa 2 28]) .ret)))
theorem d47 (s : ByteArray) (hs : (s.size : Int) ≤ 9223372036854775807) : Does Go.Proofs.Tryz.prog 47 [.v (.string s)] false (.v (.bool (nameOk s))) [.dead] := by
  refine does_intro (mc := m47) (N := 29) (rs := [2]) (fx := []) 1 rfl (by decide +kernel) ?_
  simp only [m47, EV, Nat.reduceEqDiff, Nat.reduceBEq, Nat.reduceLT, Nat.reduceLeDiff, Nat.reduceAdd, Nat.reduceSub, reduceIte]
  refine awp_loop (fun i : Nat => i ≤ s.size ∧ chsOk s i) (fun i => stl [(0, .v (.string s)), (5, .v (.int .i64 (s.size : Int))), (6, .v (.int .i64 (i : Int)))]) (fun i => s.size - i) 0 ⟨by omega, fun j hj => absurd hj (by omega)⟩ ?_ ?_
  · simp only [EV, Nat.reduceEqDiff, Nat.reduceBEq, Nat.reduceLT, Nat.reduceLeDiff, Nat.reduceAdd, Nat.reduceSub, reduceIte]
    rfl
  · rintro i ⟨h0, h1⟩
    simp only [EV, Nat.reduceEqDiff, Nat.reduceBEq, Nat.reduceLT, Nat.reduceLeDiff, Nat.reduceAdd, Nat.reduceSub, reduceIte]
    refine cK_cut (fun h => ?_) (fun h => ?_)
    · have h2 : (i : Int) < s.size := by simpa using h
      simp only [h2, EV, Nat.reduceEqDiff, Nat.reduceBEq, Nat.reduceLT, Nat.reduceLeDiff, Nat.reduceAdd, Nat.reduceSub, reduceIte]
      refine callK_i (d67 _) ?_
      simp only [EV, Nat.reduceEqDiff, Nat.reduceBEq, Nat.reduceLT, Nat.reduceLeDiff, Nat.reduceAdd, Nat.reduceSub, reduceIte]
      repeat' (first
    | (refine gK_cut (fun h => ?_) (fun h => ?_) <;> simp only [h, h2, EV, Nat.reduceEqDiff, Nat.reduceBEq, Nat.reduceLT, Nat.reduceLeDiff, Nat.reduceAdd, Nat.reduceSub, reduceIte])
    | (refine cK_cut (fun h => ?_) (fun h => ?_) <;> simp only [h, h2, EV, Nat.reduceEqDiff, Nat.reduceBEq, Nat.reduceLT, Nat.reduceLeDiff, Nat.reduceAdd, Nat.reduceSub, reduceIte])
    | (refine callK_i (d59 _) ?_ <;> simp only [h, h2, EV, Nat.reduceEqDiff, Nat.reduceBEq, Nat.reduceLT, Nat.reduceLeDiff, Nat.reduceAdd, Nat.reduceSub, reduceIte]))
      all_goals first
          | (have hc : chOk s i = false := by
               simp_all [chOk]
             simp only [nameOk_no (by omega) hc, EV, Nat.reduceEqDiff, Nat.reduceBEq, Nat.reduceLT, Nat.reduceLeDiff, Nat.reduceAdd, Nat.reduceSub, reduceIte, evRE, retVC, cellV', evR, nfz, nfzs, nfzss, List.contains_nil, List.contains_cons, Bool.or_false, or_true]
             done)
          | (have hc : chOk s i = true := by
               simp_all [chOk] <;> omega
             rw [w64 _ (by omega)]
             exact ⟨i + 1, ⟨by omega, chsOk_succ h1 hc⟩, by omega, rfl⟩)
    · have h2 : i = s.size := by have : ¬ (i : Int) < s.size := by simpa using h
                                 omega
      subst h2
      simp only [EV, Nat.reduceEqDiff, Nat.reduceBEq, Nat.reduceLT, Nat.reduceLeDiff, Nat.reduceAdd, Nat.reduceSub, reduceIte]
      refine callK_i (d68 _ _ _) ?_
      simp only [EV, Nat.reduceEqDiff, Nat.reduceBEq, Nat.reduceLT, Nat.reduceLeDiff, Nat.reduceAdd, Nat.reduceSub, reduceIte]
      simp only [nameOk_yes h1, EV, Nat.reduceEqDiff, Nat.reduceBEq, Nat.reduceLT, Nat.reduceLeDiff, Nat.reduceAdd, Nat.reduceSub, reduceIte, evRE, retVC, cellV', evR, nfz, nfzs, nfzss, List.contains_nil, List.contains_cons, Bool.or_false, or_true]
end Go.AM
namespace Go.AM
set_option linter.unusedVariables false
set_option linter.unusedSimpArgs false
theorem ovw_all {l cs : List AV} (h : l.length = cs.length) : ovw l 0 cs = cs := by
  simp [ovw, ← h]
def less (k : Int) (n : Nat) : Int := if k - n < 0 then -1 else k - n
theorem fill_set {α : Type} {g : α → List AV} {l : List α} {z : List AV} {i : Nat} (h : i < l.length) : ((l.take i).map g ++ List.replicate (l.length - i) z).set i (g l[i]) = (l.take (i + 1)).map g ++ List.replicate (l.length - (i + 1)) z := by
  obtain ⟨n, hn⟩ : ∃ n, l.length - i = n + 1 := ⟨l.length - i - 1, by omega⟩
  have e : l.length - (i + 1) = n := by omega
  have hl : (List.map g (List.take i l)).length = i := by simp; omega
  rw [hn, e, List.replicate_succ, List.set_append, if_neg (by omega), hl, Nat.sub_self, List.set_cons_zero, List.take_succ_eq_append_getElem h, List.map_append, List.append_assoc]
  rfl
theorem fill_nth {α : Type} {g : α → List AV} {l : List α} {z : List AV} {i : Nat} (h : i < l.length) : nth ((l.take i).map g ++ List.replicate (l.length - i) z) i = z := by
  obtain ⟨n, hn⟩ : ∃ n, l.length - i = n + 1 := ⟨l.length - i - 1, by omega⟩
  have hl : (List.map g (List.take i l)).length = i := by simp; omega
  unfold nth
  rw [List.getD_eq_getElem?_getD, hn, List.replicate_succ, List.getElem?_append_right (by omega), hl]
  simp
structure Seen where
  mod : ByteArray
  name : ByteArray
  sum : Int
end Go.AM
namespace Go.AM
set_option linter.unusedVariables false
set_option linter.unusedSimpArgs false
def m23 : MC :=
 (.seq (.reg [Xb 2 (.asg (.z #[]))]) (.seq (.seq (.reg [Xm 4 0, Xq 5 (.bin false .leq (.t 4) (.i 0))]) (.cond (.t 5) (.seq (.reg [Xb 2 (.asg (.z #[109, 48]))]) .ret) .skip)) (.seq (.reg [Xb 3 (.asg (.z #[]))]) (.seq (.block 0 (.loop [0, 3] (.seq (.seq (.reg [Xm 6 0, Xq 7 (.bin false .gtr (.t 6) (.i 0))]) (.cond (.t 7) .skip (.exit 0))) (.block 1 (.seq (.reg [Xm 8 0, Xq 9 (.bin false .rem (.t 8) (.i
 10)), Xq 10 (.bin false .add (.i 48) (.t 9)), Xq 11 (.conv .u8 (.t 10)), Xb 12 (.bsl 5 1 [.t 11]), Xq 13 (.b2s (.t 12)), Xm 14 3, Xq 15 (.bin false .add (.t 13) (.t 14)), Xa 3 15]) (.reg [Xm 16 0, Xq 17 (.bin false .quo (.t 16) (.i 10)), Xa 0 17])))))) (.seq (.reg [Xm 18 3, Xq 19 (.bin false .add (.z #[109]) (.t 18)), Xa 2 19]) .ret)))))
def mtL (k : Int) (s : ByteArray) : ByteArray := if h : 0 < k then mtL (k.tdiv 10) (strA [IntKind.u8.wrap (48 + k.tmod 10)] ++ s) else s
  termination_by k.toNat
  decreasing_by
  have : k.tdiv 10 = k / 10 := Int.tdiv_eq_ediv_of_nonneg (by omega)
  rw [this]; omega
def mt (k : Int) : ByteArray := if k ≤ 0 then ⟨#[109, 48]⟩ else ⟨#[109]⟩ ++ mtL k ⟨#[]⟩
theorem d23 (k : Int) (h0 : -9223372036854775808 ≤ k) (h1 : k ≤ 4611686018427387904) : Does Go.Proofs.Tryz.prog 23 [.v (.int .i64 k)] false (.v (.string (mt k))) [.dead] := by
  refine does_intro (mc := m23) (N := 20) (rs := [2]) (fx := []) 1 rfl (by decide +kernel) ?_
  simp only [m23, EV, Nat.reduceEqDiff, Nat.reduceBEq, Nat.reduceLT, Nat.reduceLeDiff, Nat.reduceAdd, Nat.reduceSub, reduceIte]
  refine cK_cut (fun h => ?_) (fun h => ?_)
  · have h2 : k ≤ 0 := by simpa using h
    simp only [EV, Nat.reduceEqDiff, Nat.reduceBEq, Nat.reduceLT, Nat.reduceLeDiff, Nat.reduceAdd, Nat.reduceSub, reduceIte]
    simp only [mt, h2, EV, Nat.reduceEqDiff, Nat.reduceBEq, Nat.reduceLT, Nat.reduceLeDiff, Nat.reduceAdd, Nat.reduceSub, reduceIte, evRE, retVC, cellV', evR, nfz, nfzs, nfzss, List.contains_nil, List.contains_cons, Bool.or_false, or_true]
  · have h2 : ¬ k ≤ 0 := by simpa using h
    simp only [EV, Nat.reduceEqDiff, Nat.reduceBEq, Nat.reduceLT, Nat.reduceLeDiff, Nat.reduceAdd, Nat.reduceSub, reduceIte]
    refine awp_loop (fun p : Int × ByteArray => 0 ≤ p.1 ∧ p.1 ≤ k ∧ (p.2.size : Int) + p.1 ≤ k ∧ mtL p.1 p.2 = mtL k ⟨#[]⟩) (fun p => stl [(0, .v (.int .i64 p.1)), (3, .v (.string p.2))]) (fun p => p.1.toNat) (k, ⟨#[]⟩) ⟨by omega, by omega, by show (((⟨#[]⟩ : ByteArray).size : Nat) : Int) + k ≤ k; simp [ByteArray.size], rfl⟩ ?_ ?_
    · simp only [EV, Nat.reduceEqDiff, Nat.reduceBEq, Nat.reduceLT, Nat.reduceLeDiff, Nat.reduceAdd, Nat.reduceSub, reduceIte]
    · rintro ⟨n, s⟩ ⟨p0, p1, p2, p3⟩
      simp only [EV, Nat.reduceEqDiff, Nat.reduceBEq, Nat.reduceLT, Nat.reduceLeDiff, Nat.reduceAdd, Nat.reduceSub, reduceIte]
      refine cK_cut (fun h => ?_) (fun h => ?_)
      · have h3 : 0 < n := by simpa using h
        have ed : n.tdiv 10 = n / 10 := Int.tdiv_eq_ediv_of_nonneg (by omega)
        have em : n.tmod 10 = n % 10 := Int.tmod_eq_emod_of_nonneg (by omega)
        have w1 : IntKind.i64.wrap (48 + n.tmod 10) = 48 + n.tmod 10 := w64 _ (by omega)
        have w2 : IntKind.i64.wrap (n.tdiv 10) = n.tdiv 10 := w64 _ (by omega)
        simp only [w1, w2, EV, Nat.reduceEqDiff, Nat.reduceBEq, Nat.reduceLT, Nat.reduceLeDiff, Nat.reduceAdd, Nat.reduceSub, reduceIte]
        simp only at p0 p1 p2 p3
        have hs : (strA [IntKind.u8.wrap (48 + n.tmod 10)]).size = 1 := rfl
        refine ⟨by decide, ?_, by decide, (n.tdiv 10, strA [IntKind.u8.wrap (48 + n.tmod 10)] ++ s), ⟨?_, ?_, ?_, ?_⟩, ?_, rfl⟩
        · rw [hs]; omega
        · show 0 ≤ n.tdiv 10; omega
        · show n.tdiv 10 ≤ k; omega
        · show (((strA [IntKind.u8.wrap (48 + n.tmod 10)] ++ s).size : Nat) : Int) + n.tdiv 10 ≤ k
          rw [ByteArray.size_append, hs]; omega
        · show mtL (n.tdiv 10) (strA [IntKind.u8.wrap (48 + n.tmod 10)] ++ s) = _
          rw [← p3, mtL.eq_def n, dif_pos h3]
        · show (n.tdiv 10).toNat < n.toNat; omega
      · have h3 : ¬ 0 < n := by simpa using h
        simp only at p0 p1 p2 p3
        have e : mtL k ⟨#[]⟩ = s := by rw [← p3, mtL.eq_def, dif_neg h3]
        have hs : ((⟨#[109]⟩ : ByteArray).size : Nat) = 1 := rfl
        simp only [EV, Nat.reduceEqDiff, Nat.reduceBEq, Nat.reduceLT, Nat.reduceLeDiff, Nat.reduceAdd, Nat.reduceSub, reduceIte]
        refine ⟨?_, ?_⟩
        · rw [hs]; omega
        · simp only [mt, h2, e, EV, Nat.reduceEqDiff, Nat.reduceBEq, Nat.reduceLT, Nat.reduceLeDiff, Nat.reduceAdd, Nat.reduceSub, reduceIte, evRE, retVC, cellV', evR, nfz, nfzs, nfzss, List.contains_nil, List.contains_cons, Bool.or_false, or_true]
end Go.AM
namespace Go.AM
set_option linter.unusedVariables false
set_option linter.unusedSimpArgs false
def same (x o : Seen) : Bool := o.mod.toList == x.mod.toList && o.name.toList == x.name.toList
def findI {α : Type} (q : α → Bool) (l : List α) : Int := match l.findIdx? q with | some i => i | none => -1
theorem findI_at {α : Type} {q : α → Bool} {l : List α} {i : Nat} (h : i < l.length) (h1 : q l[i] = true) (h2 : ∀ j (hj : j < l.length), j < i → q l[j] = false) : findI q l = i := by
  have : l.findIdx? q = some i := by
    rw [List.findIdx?_eq_some_iff_getElem]
    exact ⟨h, h1, fun j hj => by simp [h2 j (by omega) hj]⟩
  simp [findI, this]
theorem findI_no {α : Type} {q : α → Bool} {l : List α} (h2 : ∀ j (hj : j < l.length), q l[j] = false) : findI q l = -1 := by
  have : l.findIdx? q = none := by
    rw [List.findIdx?_eq_none_iff]
    intro x hx
    obtain ⟨j, hj, rfl⟩ := List.getElem_of_mem hx
    exact h2 j hj
  simp [findI, this]
theorem findI_any {α : Type} {q : α → Bool} {l : List α} : decide (0 ≤ findI q l) = l.any q := by
  unfold findI
  cases h : l.findIdx? q with
  | none =>
    rw [List.findIdx?_eq_none_iff] at h
    have : l.any q = false := by simp only [List.any_eq_false]; intro x hx; simp [h x hx]
    simp [this]
  | some i =>
    rw [List.findIdx?_eq_some_iff_getElem] at h
    obtain ⟨hi, h1, _⟩ := h
    have : l.any q = true := by rw [List.any_eq_true]; exact ⟨l[i], List.getElem_mem hi, h1⟩
    simp only [this]
    simp
end Go.AM
namespace Go.AM
set_option linter.unusedVariables false
set_option linter.unusedSimpArgs false
theorem evN (n : Nat) (p : List (Nat × Nat)) (i k : Nat) (K : AV → Prop) : nilchkV (.ref n p i k) K = K (.ref n p i k) := rfl
end Go.AM
namespace Go.AM
set_option linter.unusedVariables false
set_option linter.unusedSimpArgs false
structure Tok where
  kind : Int
  text : ByteArray
  value : Int
  pos : Int
def Tok.z (t : Tok) : List AV := [.v (.int .i64 t.kind), .v (.string t.text), .v (.int .i64 t.value), .v (.int .i64 t.pos)]
theorem TokE : (∀ f : Tok, f.z.length = 4) ∧ (∀ f : Tok, f.z.take 4 = f.z) ∧ (∀ (st : St) (f : Tok), frzBs st f.z = f.z) ∧ (∀ f : Tok, bares f.z = true) ∧ (∀ f : Tok, plains f.z = true) ∧ (∀ f : Tok, frzRow f.z = f.z) ∧ (∀ (f : Tok) (K : Nat → List (Nat × Nat) → Bool), killVs K f.z = f.z) ∧ (∀ (f : Tok) (n : Nat) (p : List (Nat × Nat)) (i : Nat), brws n p i 0 f.z = f.z) ∧ (∀ f : Tok, f.z.all storL = true) ∧ (∀ (f : Tok) (l : List AV), l.length = 4 → ovw l 0 f.z = f.z) :=
  ⟨fun _ => rfl, fun _ => rfl, fun _ _ => rfl, fun _ => rfl, fun _ => rfl, fun _ => rfl, fun _ _ => rfl, fun _ _ _ _ => rfl, fun _ => rfl, fun f l h => ovw_all (by rw [h]; rfl)⟩
theorem Tok.nfz : ∀ l : List Tok, nfzss (l.map Tok.z) = true
  | [] => rfl
  | s :: l => by simp only [List.map_cons, nfzss, Tok.nfz l]; rfl
theorem Tok.frz : ∀ l : List Tok, frzRows (l.map Tok.z) = l.map Tok.z
  | [] => rfl
  | s :: l => by simp [frzRows, TokE, Tok.frz l]
end Go.AM
namespace Go.AM
set_option linter.unusedVariables false
set_option linter.unusedSimpArgs false
def m50 : MC :=
 (.seq (.reg [Xb 2 (.asg .fb)]) (.seq (.reg [Xm 3 0, Xq 4 (.bin false .geq (.t 3) (.c (.int .u8 65))), Xm 5 4, Xt 6 5 (.mov (.t 0)), Xt 7 5 (.bin false .leq (.t 6) (.c (.int .u8 90))), Xq 8 (.pick (.t 5) (.t 7) .fb), Xm 9 8, Xu 10 9 (.mov (.t 0)), Xu 11 9 (.bin false .geq (.t 10) (.c (.int .u8 97))), Xu 12 9 (.mov (.t 11)), Xt 13 12 (.mov (.t 0)), Xt 14 12 (.bin false .leq (.t 13) (.c (.int .u8
 122))), Xu 15 9 (.pick (.t 12) (.t 14) .fb), Xq 16 (.pick (.t 9) .tb (.t 15)), Xa 2 16]) .ret))
theorem d50 (b : Int) : Does Go.Proofs.Tryz.prog 50 [.v (.int .u8 b)] false (.v (.bool (lett b))) [.dead] := by
  refine does_intro (mc := m50) (N := 17) (rs := [2]) (fx := []) 1 rfl (by decide +kernel) ?_
  simp only [m50, EV, Nat.reduceEqDiff, Nat.reduceBEq, Nat.reduceLT, Nat.reduceLeDiff, Nat.reduceAdd, Nat.reduceSub, reduceIte]
  repeat' (first
    | (refine gK_cut (fun h => ?_) (fun h => ?_) <;> simp only [h, EV, Nat.reduceEqDiff, Nat.reduceBEq, Nat.reduceLT, Nat.reduceLeDiff, Nat.reduceAdd, Nat.reduceSub, reduceIte])
    | (refine cK_cut (fun h => ?_) (fun h => ?_) <;> simp only [h, EV, Nat.reduceEqDiff, Nat.reduceBEq, Nat.reduceLT, Nat.reduceLeDiff, Nat.reduceAdd, Nat.reduceSub, reduceIte]))
  all_goals simp only [lett, *, Bool.or_true, Bool.true_or, Bool.false_or, Bool.or_false, EV, Nat.reduceEqDiff, Nat.reduceBEq, Nat.reduceLT, Nat.reduceLeDiff, Nat.reduceAdd, Nat.reduceSub, reduceIte, evRE, retVC, cellV', evR, nfz, nfzs, nfzss, List.contains_nil, List.contains_cons, Bool.or_false, or_true]
def m51 : MC :=
 (.seq (.reg [Xb 2 (.asg .fb)]) (.seq (.reg [Xm 3 0, Xq 4 (.bin false .geq (.t 3) (.c (.int .u8 48))), Xm 5 4, Xt 6 5 (.mov (.t 0)), Xt 7 5 (.bin false .leq (.t 6) (.c (.int .u8 57))), Xq 8 (.pick (.t 5) (.t 7) .fb), Xa 2 8]) .ret))
theorem d51 (b : Int) : Does Go.Proofs.Tryz.prog 51 [.v (.int .u8 b)] false (.v (.bool (digt b))) [.dead] := by
  refine does_intro (mc := m51) (N := 9) (rs := [2]) (fx := []) 1 rfl (by decide +kernel) ?_
  simp only [m51, EV, Nat.reduceEqDiff, Nat.reduceBEq, Nat.reduceLT, Nat.reduceLeDiff, Nat.reduceAdd, Nat.reduceSub, reduceIte]
  repeat' (first
    | (refine gK_cut (fun h => ?_) (fun h => ?_) <;> simp only [h, EV, Nat.reduceEqDiff, Nat.reduceBEq, Nat.reduceLT, Nat.reduceLeDiff, Nat.reduceAdd, Nat.reduceSub, reduceIte])
    | (refine cK_cut (fun h => ?_) (fun h => ?_) <;> simp only [h, EV, Nat.reduceEqDiff, Nat.reduceBEq, Nat.reduceLT, Nat.reduceLeDiff, Nat.reduceAdd, Nat.reduceSub, reduceIte]))
  all_goals simp only [digt, *, EV, Nat.reduceEqDiff, Nat.reduceBEq, Nat.reduceLT, Nat.reduceLeDiff, Nat.reduceAdd, Nat.reduceSub, reduceIte, evRE, retVC, cellV', evR, nfz, nfzs, nfzss, List.contains_nil, List.contains_cons, Bool.or_false, or_true]
def hexN (b : Int) : Int := if digt b = true then b - 48 else if (decide (65 ≤ b) && decide (b ≤ 70)) = true then b - 65 + 10 else -1
theorem hexN_b (b : Int) : -1 ≤ hexN b ∧ hexN b ≤ 15 := by
  unfold hexN digt
  simp only [Bool.and_eq_true, decide_eq_true_eq]
  repeat' split
  all_goals omega
def m72 : MC :=
 (.seq (.reg [Xb 2 (.asg (.i 0))]) (.seq (.block 0 (.seq (.reg [Xm 4 0, Xb 5 (.call (.fn 51) false [.lend (.t 4)]), Xa 3 5]) (.cond (.t 3) (.seq (.reg [Xm 6 0, Xq 7 (.bin false .sub (.t 6) (.c (.int .u8 48))), Xq 8 (.conv .i64 (.t 7)), Xa 2 8]) .ret) (.seq (.reg [Xm 10 0, Xq 11 (.bin false .geq (.t 10) (.c (.int .u8 65))), Xm 12 11, Xt 13 12 (.mov (.t 0)), Xt 14 12 (.bin false .leq (.t 13) (.c
 (.int .u8 70))), Xq 15 (.pick (.t 12) (.t 14) .fb), Xa 9 15]) (.cond (.t 9) (.seq (.reg [Xm 16 0, Xq 17 (.bin false .sub (.t 16) (.c (.int .u8 65))), Xq 18 (.conv .i64 (.t 17)), Xq 19 (.bin false .add (.t 18) (.i 10)), Xa 2 19]) .ret) .skip))))) (.seq (.reg [Xb 2 (.asg (.i (-1)))]) .ret)))
theorem d72 (b : Int) (h0 : 0 ≤ b) (h1 : b ≤ 255) : Does Go.Proofs.Tryz.prog 72 [.v (.int .u8 b)] false (.v (.int .i64 (hexN b))) [.dead] := by
  have w8 : ∀ x : Int, 0 ≤ x → x ≤ 255 → IntKind.u8.wrap x = x := by
    intro x a b
    simp [IntKind.wrap, IntKind.bits, IntKind.signed]
    omega
  refine does_intro (mc := m72) (N := 20) (rs := [2]) (fx := []) 1 rfl (by decide +kernel) ?_
  simp only [m72, EV, Nat.reduceEqDiff, Nat.reduceBEq, Nat.reduceLT, Nat.reduceLeDiff, Nat.reduceAdd, Nat.reduceSub, reduceIte]
  refine callK_i (d51 b) ?_
  simp only [EV, Nat.reduceEqDiff, Nat.reduceBEq, Nat.reduceLT, Nat.reduceLeDiff, Nat.reduceAdd, Nat.reduceSub, reduceIte]
  rcases e : digt b with _ | _
  · simp only [e, EV, Nat.reduceEqDiff, Nat.reduceBEq, Nat.reduceLT, Nat.reduceLeDiff, Nat.reduceAdd, Nat.reduceSub, reduceIte]
    rcases c1 : decide (65 ≤ b) with _ | _
    · simp only [c1, e, EV, Nat.reduceEqDiff, Nat.reduceBEq, Nat.reduceLT, Nat.reduceLeDiff, Nat.reduceAdd, Nat.reduceSub, reduceIte]
      simp only [hexN, e, c1, Bool.false_and, if_false, Bool.false_eq_true, EV, Nat.reduceEqDiff, Nat.reduceBEq, Nat.reduceLT, Nat.reduceLeDiff, Nat.reduceAdd, Nat.reduceSub, reduceIte, evRE, retVC, cellV', evR, nfz, nfzs, nfzss, List.contains_nil, List.contains_cons, Bool.or_false, or_true]
    rcases c2 : decide (b ≤ 70) with _ | _
    · simp only [c1, c2, e, EV, Nat.reduceEqDiff, Nat.reduceBEq, Nat.reduceLT, Nat.reduceLeDiff, Nat.reduceAdd, Nat.reduceSub, reduceIte]
      simp only [hexN, e, c1, c2, Bool.and_false, if_false, Bool.false_eq_true, EV, Nat.reduceEqDiff, Nat.reduceBEq, Nat.reduceLT, Nat.reduceLeDiff, Nat.reduceAdd, Nat.reduceSub, reduceIte, evRE, retVC, cellV', evR, nfz, nfzs, nfzss, List.contains_nil, List.contains_cons, Bool.or_false, or_true]
    · have c3 : 65 ≤ b ∧ b ≤ 70 := ⟨by simpa using c1, by simpa using c2⟩
      simp only [c1, c2, e, EV, Nat.reduceEqDiff, Nat.reduceBEq, Nat.reduceLT, Nat.reduceLeDiff, Nat.reduceAdd, Nat.reduceSub, reduceIte]
      rw [w8 (b - 65) (by omega) (by omega), w64 (b - 65) (by omega), w64 (b - 65 + 10) (by omega)]
      simp only [hexN, e, c1, c2, Bool.and_self, if_true, if_false, Bool.false_eq_true, EV, Nat.reduceEqDiff, Nat.reduceBEq, Nat.reduceLT, Nat.reduceLeDiff, Nat.reduceAdd, Nat.reduceSub, reduceIte, evRE, retVC, cellV', evR, nfz, nfzs, nfzss, List.contains_nil, List.contains_cons, Bool.or_false, or_true]
  · have c2 : 48 ≤ b ∧ b ≤ 57 := by simpa [digt] using e
    simp only [e, EV, Nat.reduceEqDiff, Nat.reduceBEq, Nat.reduceLT, Nat.reduceLeDiff, Nat.reduceAdd, Nat.reduceSub, reduceIte]
    rw [w8 (b - 48) (by omega) (by omega), w64 (b - 48) (by omega)]
    simp only [hexN, e, if_true, EV, Nat.reduceEqDiff, Nat.reduceBEq, Nat.reduceLT, Nat.reduceLeDiff, Nat.reduceAdd, Nat.reduceSub, reduceIte, evRE, retVC, cellV', evR, nfz, nfzs, nfzss, List.contains_nil, List.contains_cons, Bool.or_false, or_true]
end Go.AM
namespace Go.AM
set_option linter.unusedVariables false
set_option linter.unusedSimpArgs false
def m54 : MC :=
 (.seq (.reg [Xb 2 (.asg .fb)]) (.seq (.seq (.reg [Xb 3 (.asg (.i 0))]) (.block 0 (.loop [0, 3] (.seq (.seq (.reg [Xm 4 3, Xq 5 (.bin false .lss (.t 4) (.i 10))]) (.cond (.t 5) .skip (.exit 0))) (.seq (.block 1 (.seq (.reg [Xm 8 3, Xq 9 (.idx (.z #[59, 44, 46, 58, 61, 42, 45, 43, 40, 41]) (.t 8)), Xm 10 0, Xq 11 (.bin false .eql (.t 9) (.t 10))]) (.cond (.t 11) (.seq (.reg [Xb 2 (.asg .tb)]) .ret)
 .skip))) (.reg [Xm 6 3, Xq 7 (.bin false .add (.t 6) (.i 1)), Xa 3 7])))))) (.seq (.reg [Xb 2 (.asg .fb)]) .ret)))
theorem e54 (b : Int) : DoesE Go.Proofs.Tryz.prog 54 [.v (.int .u8 b)] false fun r o => o = [.dead] ∧ ∃ v : Bool, r = .v (.bool v) := by
  have hz : ByteArray.size ⟨#[59, 44, 46, 58, 61, 42, 45, 43, 40, 41]⟩ = 10 := rfl
  refine doesE_intro (mc := m54) (N := 12) (rs := [2]) (fx := []) 1 rfl (by decide +kernel) ?_
  simp only [m54, EV, Nat.reduceEqDiff, Nat.reduceBEq, Nat.reduceLT, Nat.reduceLeDiff, Nat.reduceAdd, Nat.reduceSub, reduceIte]
  refine awp_loop (fun i : Nat => i ≤ 10) (fun i => stl [(0, .v (.int .u8 b)), (3, .v (.int .i64 (i : Int)))]) (fun i => 10 - i) 0 (Nat.zero_le _) ?_ ?_
  · simp only [EV, Nat.reduceEqDiff, Nat.reduceBEq, Nat.reduceLT, Nat.reduceLeDiff, Nat.reduceAdd, Nat.reduceSub, reduceIte]
    rfl
  intro i hi
  simp only [EV, Nat.reduceEqDiff, Nat.reduceBEq, Nat.reduceLT, Nat.reduceLeDiff, Nat.reduceAdd, Nat.reduceSub, reduceIte]
  refine cK_cut (fun h => ?_) (fun h => ?_)
  · have i2 : (i : Int) < 10 := by simpa using h
    have i3 : (i : Int) < ((10 : Nat) : Int) := by omega
    clear h
    have wi := w64 ((i : Int) + 1) (by omega)
    simp only [hz, i2, i3, EV, Nat.reduceEqDiff, Nat.reduceBEq, Nat.reduceLT, Nat.reduceLeDiff, Nat.reduceAdd, Nat.reduceSub, reduceIte]
    refine cK_cut (fun h => ?_) (fun h => ?_)
    · simp only [EV, Nat.reduceEqDiff, Nat.reduceBEq, Nat.reduceLT, Nat.reduceLeDiff, Nat.reduceAdd, Nat.reduceSub, reduceIte]
      simp only [EV, Nat.reduceEqDiff, Nat.reduceBEq, Nat.reduceLT, Nat.reduceLeDiff, Nat.reduceAdd, Nat.reduceSub, reduceIte, evRE, retVC, cellV', evR, nfz, nfzs, nfzss, List.contains_nil, List.contains_cons, Bool.or_false, or_true]
      exact ⟨_, rfl⟩
    · simp only [wi, EV, Nat.reduceEqDiff, Nat.reduceBEq, Nat.reduceLT, Nat.reduceLeDiff, Nat.reduceAdd, Nat.reduceSub, reduceIte]
      exact ⟨i + 1, by omega, by omega, rfl⟩
  · simp only [EV, Nat.reduceEqDiff, Nat.reduceBEq, Nat.reduceLT, Nat.reduceLeDiff, Nat.reduceAdd, Nat.reduceSub, reduceIte]
    simp only [EV, Nat.reduceEqDiff, Nat.reduceBEq, Nat.reduceLT, Nat.reduceLeDiff, Nat.reduceAdd, Nat.reduceSub, reduceIte, evRE, retVC, cellV', evR, nfz, nfzs, nfzss, List.contains_nil, List.contains_cons, Bool.or_false, or_true]
    exact ⟨_, rfl⟩
def wordsL : List ByteArray := [⟨#[77, 79, 68, 85, 76, 69]⟩, ⟨#[73, 77, 80, 79, 82, 84]⟩, ⟨#[67, 79, 78, 83, 84]⟩, ⟨#[84, 89, 80, 69]⟩, ⟨#[86, 65, 82]⟩, ⟨#[80, 82, 79, 67]⟩, ⟨#[85, 83, 69]⟩, ⟨#[69, 78, 68]⟩, ⟨#[65, 82, 82, 65, 89]⟩, ⟨#[79, 70]⟩, ⟨#[82, 69, 67, 79, 82, 68]⟩, ⟨#[80, 79, 73, 78, 84, 69, 82]⟩, ⟨#[84, 79]⟩, ⟨#[68, 73, 86]⟩, ⟨#[77, 79, 68]⟩]
def sv (s : ByteArray) : List AV := [.v (.string s)]
def m71 : MC :=
 (.seq (.reg [Xb 0 (.asg (.nils 9 1))]) (.seq (.reg [Xb 1 (.bsl 9 1 [.z #[77, 79, 68, 85, 76, 69], .z #[73, 77, 80, 79, 82, 84], .z #[67, 79, 78, 83, 84], .z #[84, 89, 80, 69], .z #[86, 65, 82], .z #[80, 82, 79, 67], .z #[85, 83, 69], .z #[69, 78, 68], .z #[65, 82, 82, 65, 89], .z #[79, 70], .z #[82, 69, 67, 79, 82, 68], .z #[80, 79, 73, 78, 84, 69, 82], .z #[84, 79], .z #[68, 73, 86], .z #[77, 79,
 68]]), Xa 0 1]) .ret))
theorem d71 : Does Go.Proofs.Tryz.prog 71 [] false (.usl 9 1 (wordsL.map sv)) [] := by
  refine does_intro (mc := m71) (N := 2) (rs := [0]) (fx := []) 0 rfl (by decide +kernel) ?_
  simp only [m71, EV, Nat.reduceEqDiff, Nat.reduceBEq, Nat.reduceLT, Nat.reduceLeDiff, Nat.reduceAdd, Nat.reduceSub, reduceIte]
  simp only [wordsL, sv, List.map_cons, List.map_nil, nfzss, nfzs, nfz, EV, Nat.reduceEqDiff, Nat.reduceBEq, Nat.reduceLT, Nat.reduceLeDiff, Nat.reduceAdd, Nat.reduceSub, reduceIte, evRE, retVC, cellV', evR, nfz, nfzs, nfzss, List.contains_nil, List.contains_cons, Bool.or_false, or_true]
def m52 : MC :=
 (.seq (.reg [Xb 2 (.asg .fb)]) (.seq (.seq (.reg [Xb 5 (.call (.fn 71) false []), Xn 6 5, Xq 7 (.mov (.i 0))]) (.block 0 (.loop [0, 5, 6, 7] (.seq (.reg [Xq 8 (.bin false .lss (.t 7) (.t 6))]) (.seq (.cond (.t 8) .skip (.exit 0)) (.seq (.block 1 (.seq (.reg [Xi 9 1 5 7, Xl 10 1 9, Xa 4 10]) (.seq (.reg [Xm 11 4, Xm 12 0, Xq 13 (.bin false .eql (.t 11) (.t 12))]) (.cond (.t 13) (.seq (.reg [Xb 2
 (.asg .tb)]) .ret) .skip)))) (.reg [Xq 14 (.bin false .add (.t 7) (.i 1)), Xm 7 14]))))))) (.seq (.reg [Xb 2 (.asg .fb)]) .ret)))
theorem sAt_b (s : ByteArray) (i : Int) : 0 ≤ sAt s i ∧ sAt s i ≤ 255 := by
  unfold sAt
  have := (s.data.toList.getD i.toNat 0).toNat_lt
  omega
theorem size_pos {s : ByteArray} (h : (s.toList == (⟨#[]⟩ : ByteArray).toList) = false) : 0 < s.size := by
  rcases Nat.eq_zero_or_pos s.size with h0 | h0
  · have : s = ⟨#[]⟩ := by
      cases s with
      | mk d =>
        have : d = #[] := Array.eq_empty_of_size_eq_zero h0
        rw [this]
    rw [this] at h
    simp at h
  · exact h0
def m53 : MC :=
 (.seq (.reg [Xb 2 (.asg (.i 0)), Xb 3 (.asg .fb)]) (.seq (.seq (.reg [Xm 10 0, Xq 11 (.bin false .eql (.t 10) (.z #[])), Xm 12 11, Xu 13 12 (.mov (.t 0)), Xu 14 12 (.idx (.t 13) (.i 0)), XU 15 12 (.call (.fn 51) false [.lend (.t 14)]), Xu 16 12 (.un .not (.t 15)), Xq 17 (.pick (.t 12) .tb (.t 16))]) (.cond (.t 17) (.seq (.reg [Xb 2 (.asg (.i 0)), Xb 3 (.asg .fb)]) .ret) .skip)) (.seq (.reg [Xm 18
 0, Xb 4 (.asg (.i 10)), Xb 5 (.asg (.i 9)), Xa 6 18]) (.join [4, 5, 6] (.seq (.reg [Xm 19 0, Xm 20 0, Xq 21 (.len true (.t 20)), Xq 22 (.bin false .sub (.t 21) (.i 1)), Xq 23 (.idx (.t 19) (.t 22)), Xq 24 (.bin false .eql (.t 23) (.c (.int .u8 72)))]) (.cond (.t 24) (.seq (.reg [Xb 4 (.asg (.i 16))]) (.seq (.reg [Xb 5 (.asg (.i 7))]) (.reg [Xm 25 0, Xm 26 0, Xq 27 (.len true (.t 26)), Xq 28 (.bin
 false .sub (.t 27) (.i 1)), Xq 29 (.slc true 1 (.t 25) none (some (.t 28))), Xa 6 29]))) .skip)) (.seq (.reg [Xb 7 (.asg (.i 0))]) (.seq (.seq (.reg [Xb 8 (.asg (.i 0))]) (.block 0 (.loop [4, 5, 6, 7, 8] (.seq (.seq (.reg [Xm 30 8, Xm 31 6, Xq 32 (.len true (.t 31)), Xq 33 (.bin false .lss (.t 30) (.t 32))]) (.cond (.t 33) .skip (.exit 0))) (.seq (.block 1 (.seq (.reg [Xm 36 6, Xm 37 8, Xq 38
 (.idx (.t 36) (.t 37)), Xb 39 (.call (.fn 72) false [.lend (.t 38)]), Xa 9 39]) (.seq (.seq (.reg [Xm 40 9, Xq 41 (.bin false .lss (.t 40) (.i 0)), Xm 42 41, Xu 43 42 (.mov (.t 9)), Xu 44 42 (.mov (.t 4)), Xu 45 42 (.bin false .geq (.t 43) (.t 44)), Xq 46 (.pick (.t 42) .tb (.t 45))]) (.cond (.t 46) (.seq (.reg [Xb 2 (.asg (.i 0)), Xb 3 (.asg .fb)]) .ret) .skip)) (.seq (.reg [Xm 47 7, Xm 48 4, Xq
 49 (.bin false .mul (.t 47) (.t 48)), Xm 50 9, Xq 51 (.bin false .add (.t 49) (.t 50)), Xa 7 51]) (.seq (.reg [Xm 52 8, Xm 53 5, Xq 54 (.bin false .geq (.t 52) (.t 53))]) (.cond (.t 54) (.seq (.reg [Xb 2 (.asg (.i 0)), Xb 3 (.asg .fb)]) .ret) .skip)))))) (.reg [Xm 34 8, Xq 35 (.bin false .add (.t 34) (.i 1)), Xa 8 35])))))) (.seq (.reg [Xm 55 7, Xa 2 55, Xb 3 (.asg .tb)]) .ret)))))))
end Go.AM
namespace Go.AM
set_option linter.unusedVariables false
set_option linter.unusedSimpArgs false
theorem bq_eq {a b : ByteArray} : (a.toList == b.toList) = true ↔ a = b := by
  rw [beq_iff_eq]
  constructor
  · intro h
    cases a; cases b; rename_i x y
    simpa [ByteArray.toList_eq] using h
  · rintro rfl; rfl
theorem bq_ne {a b : ByteArray} : (a.toList == b.toList) = false ↔ a ≠ b := by
  rw [← Bool.not_eq_true, bq_eq]
theorem sAt_eq {s : ByteArray} {i : Nat} (h : i < s.size) : sAt s (i : Nat) = ((s.data[i]'h).toNat : Int) := by
  have h' : i < s.data.size := h
  unfold sAt
  rw [Int.toNat_natCast, List.getD_eq_getElem?_getD, List.getElem?_eq_getElem (by simpa using h')]
  simp
theorem sAt_cut (s : ByteArray) {a b i : Nat} (h : a + i < b) (hb : b ≤ s.size) : sAt (s.extract a b) (i : Nat) = sAt s ((a + i : Nat) : Int) := by
  have hz : (s.extract a b).size = b - a := by rw [ByteArray.size_extract]; omega
  rw [sAt_eq (by omega), sAt_eq (by omega)]
  congr 2
  simp [ByteArray.data_extract]
theorem ext_bytes {a b : ByteArray} (h : a.size = b.size) (h2 : ∀ i : Nat, i < a.size → sAt a (i : Nat) = sAt b (i : Nat)) : a = b := by
  apply ByteArray.ext
  apply Array.ext
  · exact h
  · intro i h1 h3
    have h1' : i < a.size := h1
    have h3' : i < b.size := h3
    have e := h2 i h1'
    rw [sAt_eq h1', sAt_eq h3'] at e
    exact UInt8.toNat_inj.1 (by omega)
theorem two_eq (s : ByteArray) {i : Nat} (h : i + 1 < s.size) (x y : UInt8) : ((s.extract i (i + 2)).toList == (⟨#[x, y]⟩ : ByteArray).toList) = (sAt s (i : Nat) == (x.toNat : Int) && sAt s ((i + 1 : Nat) : Int) == (y.toNat : Int)) := by
  have hz : (s.extract i (i + 2)).size = 2 := by rw [ByteArray.size_extract]; omega
  have e0 : sAt (s.extract i (i + 2)) ((0 : Nat) : Int) = sAt s (i : Nat) := sAt_cut s (by omega) (by omega)
  have e1 : sAt (s.extract i (i + 2)) ((1 : Nat) : Int) = sAt s ((i + 1 : Nat) : Int) := sAt_cut s (by omega) (by omega)
  have f0 : sAt ⟨#[x, y]⟩ ((0 : Nat) : Int) = (x.toNat : Int) := rfl
  have f1 : sAt ⟨#[x, y]⟩ ((1 : Nat) : Int) = (y.toNat : Int) := rfl
  rcases c : ((s.extract i (i + 2)).toList == (⟨#[x, y]⟩ : ByteArray).toList) with _ | _
  · have hn := bq_ne.1 c
    symm
    rw [Bool.eq_false_iff]
    intro hh
    simp only [Bool.and_eq_true, beq_iff_eq] at hh
    apply hn
    refine ext_bytes (by rw [hz]; rfl) fun j hj => ?_
    rw [hz] at hj
    have : j = 0 ∨ j = 1 := by omega
    rcases this with rfl | rfl
    · rw [e0, f0]; exact hh.1
    · rw [e1, f1]; exact hh.2
  · have hn := bq_eq.1 c
    symm
    rw [← e0, ← e1, hn, f0, f1]
    simp
def aln (b : Int) : Bool := lett b || digt b
def wl (s : ByteArray) (i : Nat) : Nat := if h : i < s.size ∧ aln (sAt s (i : Nat)) = true then wl s (i + 1) else i
  termination_by s.size - i
theorem wl_step {s : ByteArray} {i : Nat} (h : i < s.size) (h2 : aln (sAt s (i : Nat)) = true) : wl s i = wl s (i + 1) := by
  rw [wl, dif_pos ⟨h, h2⟩]
theorem wl_stop {s : ByteArray} {i : Nat} (h : ¬ (i < s.size ∧ aln (sAt s (i : Nat)) = true)) : wl s i = i := by
  rw [wl, dif_neg h]
theorem wl_in (s : ByteArray) : ∀ (k i : Nat), s.size - i ≤ k → i ≤ s.size → i ≤ wl s i ∧ wl s i ≤ s.size ∧ ∀ j, i ≤ j → j < wl s i → aln (sAt s (j : Nat)) = true
  | 0, i, hk, hi => by
    rw [wl_stop (by omega)]
    exact ⟨Nat.le_refl _, hi, fun j a b => by omega⟩
  | k + 1, i, hk, hi => by
    by_cases c : i < s.size ∧ aln (sAt s (i : Nat)) = true
    · rw [wl_step c.1 c.2]
      obtain ⟨a, b, d⟩ := wl_in s k (i + 1) (by omega) (by omega)
      refine ⟨by omega, b, fun j h1 h2 => ?_⟩
      by_cases e : j = i
      · subst e; exact c.2
      · exact d j (by omega) h2
    · rw [wl_stop c]
      exact ⟨Nat.le_refl _, hi, fun j a b => by omega⟩
theorem wl_shift (s : ByteArray) (a : Nat) : ∀ (k i : Nat), s.size - (a + i) ≤ k → a + i ≤ s.size → a + wl (s.extract a s.size) i = wl s (a + i)
  | k, i, hk, hi => by
    have hz : (s.extract a s.size).size = s.size - a := by rw [ByteArray.size_extract]; omega
    by_cases c : a + i < s.size ∧ aln (sAt s ((a + i : Nat) : Int)) = true
    · cases k with
      | zero => omega
      | succ k =>
        have e := sAt_cut s (a := a) (b := s.size) (i := i) (by omega) (Nat.le_refl _)
        rw [wl_step c.1 c.2, wl_step (by omega) (by rw [e]; exact c.2), wl_shift s a k (i + 1) (by omega) (by omega)]
        rfl
    · rw [wl_stop c, wl_stop]
      rintro ⟨h1, h2⟩
      rw [sAt_cut s (by omega) (Nat.le_refl _)] at h2
      exact c ⟨by omega, h2⟩
def isOpen (s : ByteArray) (i : Nat) : Bool := sAt s (i : Nat) == 40 && sAt s ((i + 1 : Nat) : Int) == 42
def isShut (s : ByteArray) (i : Nat) : Bool := sAt s (i : Nat) == 42 && sAt s ((i + 1 : Nat) : Int) == 41
theorem open_eq (s : ByteArray) {i : Nat} (h : i + 1 < s.size) : ((s.extract i (i + 2)).toList == (⟨#[40, 42]⟩ : ByteArray).toList) = isOpen s i := two_eq s h 40 42
theorem shut_eq (s : ByteArray) {i : Nat} (h : i + 1 < s.size) : ((s.extract i (i + 2)).toList == (⟨#[42, 41]⟩ : ByteArray).toList) = isShut s i := two_eq s h 42 41
def rem (s : ByteArray) (i d : Nat) : Option Nat :=
  if i + 1 < s.size then
    if isOpen s i = true then rem s (i + 2) (d + 1)
    else if isShut s i = true then (if d = 1 then some (i + 2) else rem s (i + 2) (d - 1))
    else rem s (i + 1) d
  else none
  termination_by s.size - i
theorem rem_in (s : ByteArray) : ∀ (k i d e : Nat), s.size - i ≤ k → rem s i d = some e → i + 2 ≤ e ∧ e ≤ s.size
  | k, i, d, e, hk, h => by
    rw [rem] at h
    split at h
    · rename_i c
      cases k with
      | zero => omega
      | succ k =>
        split at h
        · have := rem_in s k _ _ _ (by omega) h; omega
        · split at h
          · split at h
            · simp at h; omega
            · have := rem_in s k _ _ _ (by omega) h; omega
          · have := rem_in s k _ _ _ (by omega) h; omega
    · simp at h
theorem rem_shift (s : ByteArray) (a : Nat) : ∀ (k i d : Nat), s.size - (a + i) ≤ k → rem s (a + i) d = (rem (s.extract a s.size) i d).map (a + ·)
  | k, i, d, hk => by
    have hz : (s.extract a s.size).size = s.size - a := by rw [ByteArray.size_extract]; omega
    conv => lhs; rw [rem]
    conv => rhs; rw [rem]
    by_cases c : a + i + 1 < s.size
    · cases k with
      | zero => omega
      | succ k =>
        have e0 := sAt_cut s (a := a) (b := s.size) (i := i) (by omega) (Nat.le_refl _)
        have e1 := sAt_cut s (a := a) (b := s.size) (i := i + 1) (by omega) (Nat.le_refl _)
        have eo : isOpen (s.extract a s.size) i = isOpen s (a + i) := by unfold isOpen; rw [e0, e1]; rfl
        have es : isShut (s.extract a s.size) i = isShut s (a + i) := by unfold isShut; rw [e0, e1]; rfl
        have c2 : i + 1 < (s.extract a s.size).size := by omega
        simp only [if_pos c, if_pos c2, eo, es]
        rcases o : isOpen s (a + i) with _ | _
        · rcases q : isShut s (a + i) with _ | _
          · simp only [Bool.false_eq_true, if_false]
            exact rem_shift s a k (i + 1) d (by omega)
          · simp only [Bool.false_eq_true, if_false, if_true]
            split
            · simp; omega
            · exact rem_shift s a k (i + 2) (d - 1) (by omega)
        · simp only [if_true]
          exact rem_shift s a k (i + 2) (d + 1) (by omega)
    · rw [if_neg c, if_neg (by omega)]
      rfl
def valN (s : ByteArray) (base most : Nat) (i n : Nat) : Option Nat :=
  if i < s.size then
    if hexN (sAt s (i : Nat)) < 0 ∨ (base : Int) ≤ hexN (sAt s (i : Nat)) then none
    else if most ≤ i then none
    else valN s base most (i + 1) (n * base + (hexN (sAt s (i : Nat))).toNat)
  else some n
  termination_by s.size - i
def lastH (s : ByteArray) : Bool := sAt s ((s.size : Int) - 1) == 72
def numN (s : ByteArray) : Option Nat :=
  if s.size = 0 ∨ digt (sAt s 0) = false then none
  else if lastH s = true then valN (s.extract 0 (s.size - 1)) 16 7 0 0 else valN s 10 9 0 0
def signs : List Int := [59, 44, 46, 58, 61, 42, 45, 43, 40, 41]
def isSign (b : Int) : Bool := signs.contains b
def isWordB (s : ByteArray) : Bool := wordsL.any fun w => w.toList == s.toList
def tokN (s : ByteArray) (a : Nat) : Tok ⊕ Int :=
  if isSign (sAt s (a : Nat)) = true then .inl ⟨4, s.extract a (a + 1), 0, a⟩
  else if aln (sAt s (a : Nat)) = false then .inr 4
  else if lett (sAt s (a : Nat)) = true then
    if isWordB (s.extract a (wl s a)) = true then .inl ⟨2, s.extract a (wl s a), 0, a⟩
    else if 10 < wl s a - a then .inr 3 else .inl ⟨1, s.extract a (wl s a), 0, a⟩
  else match numN (s.extract a (wl s a)) with
    | some n => .inl ⟨3, s.extract a (wl s a), (n : Int), a⟩
    | none => .inr 3
def rdT (s : ByteArray) (i : Nat) (out : List Tok) : List Tok ⊕ (Int × Int) :=
  if h : i < s.size then
    if sAt s (i : Nat) = 32 ∨ sAt s (i : Nat) = 10 then rdT s (i + 1) out
    else if i + 1 < s.size ∧ isOpen s i = true then
      match h2 : rem s i 0 with
      | some e => rdT s e out
      | none => .inr (2, (i : Int))
    else match h3 : tokN s i with
      | .inl t => rdT s (max (i + 1) (i + t.text.size)) (out ++ [t])
      | .inr c => .inr (c, (i : Int))
  else if 300 < out.length then .inr (5, 0) else .inl out
  termination_by s.size - i
  decreasing_by
  · omega
  · have := rem_in s _ _ _ _ (Nat.le_refl _) h2; omega
  · omega
def readN (s : ByteArray) : List Tok ⊕ (Int × Int) := if 1200 < s.size then .inr (1, 0) else rdT s 0 []
end Go.AM
namespace Go.AM
set_option linter.unusedVariables false
set_option linter.unusedSimpArgs false
theorem signs_at : ∀ i : Nat, i < 10 → sAt ⟨#[59, 44, 46, 58, 61, 42, 45, 43, 40, 41]⟩ (i : Nat) = signs.getD i 0 := by decide
theorem signs_len : signs.length = 10 := rfl
theorem d54 (b : Int) : Does Go.Proofs.Tryz.prog 54 [.v (.int .u8 b)] false (.v (.bool (isSign b))) [.dead] := by
  have hz : ByteArray.size ⟨#[59, 44, 46, 58, 61, 42, 45, 43, 40, 41]⟩ = 10 := rfl
  have hat := signs_at
  have hsl := signs_len
  unfold isSign
  generalize signs = L at hat hsl ⊢
  refine does_intro (mc := m54) (N := 12) (rs := [2]) (fx := []) 1 rfl (by decide +kernel) ?_
  simp only [m54, EV, Nat.reduceEqDiff, Nat.reduceBEq, Nat.reduceLT, Nat.reduceLeDiff, Nat.reduceAdd, Nat.reduceSub, reduceIte]
  refine awp_loop (fun i : Nat => i ≤ 10 ∧ (L.take i).contains b = false) (fun i => stl [(0, .v (.int .u8 b)), (3, .v (.int .i64 (i : Int)))]) (fun i => 10 - i) 0 ⟨Nat.zero_le _, by simp⟩ ?_ ?_
  · simp only [EV, Nat.reduceEqDiff, Nat.reduceBEq, Nat.reduceLT, Nat.reduceLeDiff, Nat.reduceAdd, Nat.reduceSub, reduceIte]
    rfl
  rintro i ⟨hi, hc⟩
  simp only [EV, Nat.reduceEqDiff, Nat.reduceBEq, Nat.reduceLT, Nat.reduceLeDiff, Nat.reduceAdd, Nat.reduceSub, reduceIte]
  refine cK_cut (fun h => ?_) (fun h => ?_)
  · have i2 : (i : Int) < 10 := by simpa using h
    have i3 : (i : Int) < ((10 : Nat) : Int) := by omega
    clear h
    have wi := w64 ((i : Int) + 1) (by omega)
    have hl : i < L.length := by omega
    have e1 := hat i (by omega)
    rw [List.getD_eq_getElem?_getD, List.getElem?_eq_getElem hl] at e1
    have e2 : (L.take (i + 1)).contains b = ((L.take i).contains b || decide (b = L[i])) := by
      rw [List.take_succ_eq_append_getElem hl, List.contains_append]; simp
    simp only [hz, i2, i3, e1, Option.getD_some, EV, Nat.reduceEqDiff, Nat.reduceBEq, Nat.reduceLT, Nat.reduceLeDiff, Nat.reduceAdd, Nat.reduceSub, reduceIte]
    rcases e3 : (L[i] == b) with _ | _
    · simp only [wi, EV, Nat.reduceEqDiff, Nat.reduceBEq, Nat.reduceLT, Nat.reduceLeDiff, Nat.reduceAdd, Nat.reduceSub, reduceIte]
      refine ⟨i + 1, ⟨by omega, ?_⟩, by omega, rfl⟩
      rw [e2, hc, Bool.false_or, decide_eq_false_iff_not]
      rw [beq_eq_false_iff_ne] at e3
      exact fun h => e3 h.symm
    · have e4 : L.contains b = true := by
        rw [List.contains_iff_mem]
        have : L[i] = b := by simpa using e3
        rw [← this]; exact List.getElem_mem hl
      simp only [EV, Nat.reduceEqDiff, Nat.reduceBEq, Nat.reduceLT, Nat.reduceLeDiff, Nat.reduceAdd, Nat.reduceSub, reduceIte]
      simp only [e4, EV, Nat.reduceEqDiff, Nat.reduceBEq, Nat.reduceLT, Nat.reduceLeDiff, Nat.reduceAdd, Nat.reduceSub, reduceIte, evRE, retVC, cellV', evR, nfz, nfzs, nfzss, List.contains_nil, List.contains_cons, Bool.or_false, or_true]
  · have i2 : i = 10 := by have : ¬ (i : Int) < 10 := by simpa using h
                           omega
    subst i2
    rw [← hsl, List.take_length] at hc
    simp only [EV, Nat.reduceEqDiff, Nat.reduceBEq, Nat.reduceLT, Nat.reduceLeDiff, Nat.reduceAdd, Nat.reduceSub, reduceIte]
    simp only [hc, EV, Nat.reduceEqDiff, Nat.reduceBEq, Nat.reduceLT, Nat.reduceLeDiff, Nat.reduceAdd, Nat.reduceSub, reduceIte, evRE, retVC, cellV', evR, nfz, nfzs, nfzss, List.contains_nil, List.contains_cons, Bool.or_false, or_true]
theorem d52 (s : ByteArray) : Does Go.Proofs.Tryz.prog 52 [.v (.string s)] false (.v (.bool (isWordB s))) [.dead] := by
  have dw := d71
  refine does_intro (mc := m52) (N := 15) (rs := [2]) (fx := []) 1 rfl (by decide +kernel) ?_
  have hz : wordsL.length = 15 := rfl
  unfold isWordB
  generalize wordsL = l at dw hz ⊢
  simp only [m52, EV, Nat.reduceEqDiff, Nat.reduceBEq, Nat.reduceLT, Nat.reduceLeDiff, Nat.reduceAdd, Nat.reduceSub, reduceIte]
  refine callK_i dw ?_
  simp only [EV, Nat.reduceEqDiff, Nat.reduceBEq, Nat.reduceLT, Nat.reduceLeDiff, Nat.reduceAdd, Nat.reduceSub, reduceIte]
  refine awp_loop (fun i : Nat => i ≤ l.length ∧ (l.take i).any (fun w => w.toList == s.toList) = false) (fun i => stl [(0, .v (.string s)), (5, .usl 9 1 (l.map sv)), (6, .v (.int .i64 (l.length : Int))), (7, .v (.int .i64 (i : Int)))]) (fun i => l.length - i) 0 ⟨Nat.zero_le _, by simp⟩ ?_ ?_
  · simp only [EV, Nat.reduceEqDiff, Nat.reduceBEq, Nat.reduceLT, Nat.reduceLeDiff, Nat.reduceAdd, Nat.reduceSub, reduceIte]
    rfl
  rintro i ⟨hi, hc⟩
  simp only [EV, Nat.reduceEqDiff, Nat.reduceBEq, Nat.reduceLT, Nat.reduceLeDiff, Nat.reduceAdd, Nat.reduceSub, reduceIte]
  refine cK_cut (fun h => ?_) (fun h => ?_)
  · have i2 : (i : Int) < (l.length : Int) := by simpa using h
    have i1 : i < l.length := by omega
    clear h
    have wi := w64 ((i : Int) + 1) (by omega)
    have e2 : (l.take (i + 1)).any (fun w => w.toList == s.toList) = ((l.take i).any (fun w => w.toList == s.toList) || (l[i].toList == s.toList)) := by
      rw [List.take_succ_eq_append_getElem i1, List.any_append]; simp
    simp only [i1, i2, nth_map i1, sv, EV, Nat.reduceEqDiff, Nat.reduceBEq, Nat.reduceLT, Nat.reduceLeDiff, Nat.reduceAdd, Nat.reduceSub, reduceIte]
    rcases e3 : (l[i].toList == s.toList) with _ | _
    · simp only [wi, EV, Nat.reduceEqDiff, Nat.reduceBEq, Nat.reduceLT, Nat.reduceLeDiff, Nat.reduceAdd, Nat.reduceSub, reduceIte]
      exact ⟨i + 1, ⟨by omega, by rw [e2, hc, e3]; rfl⟩, by omega, rfl⟩
    · have e4 : l.any (fun w => w.toList == s.toList) = true := by
        rw [List.any_eq_true]
        exact ⟨l[i], List.getElem_mem i1, e3⟩
      simp only [EV, Nat.reduceEqDiff, Nat.reduceBEq, Nat.reduceLT, Nat.reduceLeDiff, Nat.reduceAdd, Nat.reduceSub, reduceIte]
      simp only [e4, EV, Nat.reduceEqDiff, Nat.reduceBEq, Nat.reduceLT, Nat.reduceLeDiff, Nat.reduceAdd, Nat.reduceSub, reduceIte, evRE, retVC, cellV', evR, nfz, nfzs, nfzss, List.contains_nil, List.contains_cons, Bool.or_false, or_true]
  · have i2 : i = l.length := by have : ¬ (i : Int) < l.length := by simpa using h
                                 omega
    subst i2
    rw [List.take_length] at hc
    simp only [EV, Nat.reduceEqDiff, Nat.reduceBEq, Nat.reduceLT, Nat.reduceLeDiff, Nat.reduceAdd, Nat.reduceSub, reduceIte]
    simp only [hc, EV, Nat.reduceEqDiff, Nat.reduceBEq, Nat.reduceLT, Nat.reduceLeDiff, Nat.reduceAdd, Nat.reduceSub, reduceIte, evRE, retVC, cellV', evR, nfz, nfzs, nfzss, List.contains_nil, List.contains_cons, Bool.or_false, or_true]
def numR (s : ByteArray) : List AV := [.v (.int .i64 (((numN s).getD 0 : Nat) : Int)), .v (.bool (numN s).isSome)]
set_option maxHeartbeats 2000000 in
theorem d53 (s : ByteArray) (hs : (s.size : Int) ≤ 1200) : Does Go.Proofs.Tryz.prog 53 [.v (.string s)] false (.tup (numR s)) [.dead] := by
  have none_ : numN s = none → numR s = [.v (.int .i64 0), .v (.bool false)] := fun h => by simp [numR, h]
  refine does_intro (mc := m53) (N := 56) (rs := [2, 3]) (fx := []) 1 rfl (by decide +kernel) ?_
  simp only [m53, EV, Nat.reduceEqDiff, Nat.reduceBEq, Nat.reduceLT, Nat.reduceLeDiff, Nat.reduceAdd, Nat.reduceSub, reduceIte]
  rcases e0 : (s.toList == (⟨#[]⟩ : ByteArray).toList) with _ | _
  rotate_left
  · have h0 : numN s = none := by
      have := bq_eq.1 e0
      unfold numN; rw [if_pos (.inl (by rw [this]; rfl))]
    simp only [e0, EV, Nat.reduceEqDiff, Nat.reduceBEq, Nat.reduceLT, Nat.reduceLeDiff, Nat.reduceAdd, Nat.reduceSub, reduceIte]
    simp only [none_ h0, EV, Nat.reduceEqDiff, Nat.reduceBEq, Nat.reduceLT, Nat.reduceLeDiff, Nat.reduceAdd, Nat.reduceSub, reduceIte, evRE, retVC, cellV', evR, nfz, nfzs, nfzss, List.contains_nil, List.contains_cons, Bool.or_false, or_true]
  have hz := size_pos e0
  have hzI : (0 : Int) < (s.size : Int) := by omega
  simp only [e0, hzI, EV, Nat.reduceEqDiff, Nat.reduceBEq, Nat.reduceLT, Nat.reduceLeDiff, Nat.reduceAdd, Nat.reduceSub, reduceIte]
  refine ⟨by omega, callK_i (d51 _) ?_⟩
  simp only [EV, Nat.reduceEqDiff, Nat.reduceBEq, Nat.reduceLT, Nat.reduceLeDiff, Nat.reduceAdd, Nat.reduceSub, reduceIte]
  rcases e3 : digt (sAt s 0) with _ | _
  · have h0 : numN s = none := by unfold numN; rw [if_pos (.inr e3)]
    simp only [e3, Bool.not_false, EV, Nat.reduceEqDiff, Nat.reduceBEq, Nat.reduceLT, Nat.reduceLeDiff, Nat.reduceAdd, Nat.reduceSub, reduceIte]
    simp only [none_ h0, EV, Nat.reduceEqDiff, Nat.reduceBEq, Nat.reduceLT, Nat.reduceLeDiff, Nat.reduceAdd, Nat.reduceSub, reduceIte, evRE, retVC, cellV', evR, nfz, nfzs, nfzss, List.contains_nil, List.contains_cons, Bool.or_false, or_true]
  simp only [e3, Bool.not_true, EV, Nat.reduceEqDiff, Nat.reduceBEq, Nat.reduceLT, Nat.reduceLeDiff, Nat.reduceAdd, Nat.reduceSub, reduceIte]
  have hN : numN s = if lastH s = true then valN (s.extract 0 (s.size - 1)) 16 7 0 0 else valN s 10 9 0 0 := by
    unfold numN; rw [if_neg (fun h => h.elim (fun h => by omega) (fun h => by rw [e3] at h; cases h))]
  refine awp_join (fun p : Nat × Nat × ByteArray => (p.2.2.size : Int) ≤ 1200 ∧ numN s = valN p.2.2 p.1 p.2.1 0 0 ∧ ((p.1 = 16 ∧ p.2.1 = 7) ∨ (p.1 = 10 ∧ p.2.1 = 9))) (fun p => stl [(4, .v (.int .i64 (p.1 : Int))), (5, .v (.int .i64 (p.2.1 : Int))), (6, .v (.string p.2.2))]) ?_ ?_
  · have wl := w64 ((s.size : Int) - 1) (by omega)
    have l0 : (0 : Int) ≤ (s.size : Int) - 1 := by omega
    have l1 : (s.size : Int) - 1 < (s.size : Int) := by omega
    simp only [wl, l0, l1, EV, Nat.reduceEqDiff, Nat.reduceBEq, Nat.reduceLT, Nat.reduceLeDiff, Nat.reduceAdd, Nat.reduceSub, reduceIte]
    rcases e4 : (sAt s ((s.size : Int) - 1) == 72) with _ | _
    · have e5 : lastH s = false := e4
      rw [e5, if_neg (by simp)] at hN
      simp only [e4, wl, l0, l1, EV, Nat.reduceEqDiff, Nat.reduceBEq, Nat.reduceLT, Nat.reduceLeDiff, Nat.reduceAdd, Nat.reduceSub, reduceIte]
      exact ⟨(10, 9, s), ⟨hs, hN, .inr ⟨rfl, rfl⟩⟩, rfl⟩
    · have e5 : lastH s = true := e4
      rw [e5, if_pos rfl] at hN
      have e6 : ((s.size : Int) - 1).toNat = s.size - 1 := by omega
      simp only [e4, wl, l0, l1, EV, Nat.reduceEqDiff, Nat.reduceBEq, Nat.reduceLT, Nat.reduceLeDiff, Nat.reduceAdd, Nat.reduceSub, reduceIte]
      refine ⟨by omega, by omega, (16, 7, s.extract 0 (s.size - 1)), ⟨?_, hN, .inl ⟨rfl, rfl⟩⟩, by rw [e6]; rfl⟩
      simp only [ByteArray.size_extract]
      omega
  rintro ⟨base, most, body⟩ ⟨hb, hV, hbm⟩
  simp only at hb hV hbm
  have hb2 : 10 ≤ base ∧ base ≤ 16 := by omega
  have hm2 : 7 ≤ most ∧ most ≤ 9 := by omega
  have hpow : base ^ most ≤ 1000000000 := by rcases hbm with ⟨rfl, rfl⟩ | ⟨rfl, rfl⟩ <;> decide
  simp only [EV, Nat.reduceEqDiff, Nat.reduceBEq, Nat.reduceLT, Nat.reduceLeDiff, Nat.reduceAdd, Nat.reduceSub, reduceIte]
  refine awp_loop (fun p : Nat × Nat => p.1 ≤ body.size ∧ p.1 ≤ most ∧ p.2 < base ^ p.1 ∧ numN s = valN body base most p.1 p.2) (fun p => stl [(4, .v (.int .i64 (base : Int))), (5, .v (.int .i64 (most : Int))), (6, .v (.string body)), (7, .v (.int .i64 (p.2 : Int))), (8, .v (.int .i64 (p.1 : Int)))]) (fun p => body.size - p.1) (0, 0) ⟨Nat.zero_le _, Nat.zero_le _, by simp, hV⟩ ?_ ?_
  · simp only [EV, Nat.reduceEqDiff, Nat.reduceBEq, Nat.reduceLT, Nat.reduceLeDiff, Nat.reduceAdd, Nat.reduceSub, reduceIte]
    rfl
  rintro ⟨i, n⟩ ⟨g1, g2, g3, g4⟩
  simp only at g1 g2 g3 g4
  have hP : base ^ i ≤ base ^ most := Nat.pow_le_pow_right (by omega) g2
  simp only [EV, Nat.reduceEqDiff, Nat.reduceBEq, Nat.reduceLT, Nat.reduceLeDiff, Nat.reduceAdd, Nat.reduceSub, reduceIte]
  refine cK_cut (fun h => ?_) (fun h => ?_)
  · have i2 : (i : Int) < (body.size : Int) := by simpa using h
    clear h
    have i1 : i < body.size := by omega
    rw [valN, if_pos i1] at g4
    have hbb := sAt_b body (i : Int)
    have hx := hexN_b (sAt body (i : Int))
    have wi := w64 ((i : Int) + 1) (by omega)
    simp only [i2, EV, Nat.reduceEqDiff, Nat.reduceBEq, Nat.reduceLT, Nat.reduceLeDiff, Nat.reduceAdd, Nat.reduceSub, reduceIte]
    refine callK_i (d72 _ hbb.1 hbb.2) ?_
    generalize hexN (sAt body (i : Int)) = d at hx g4 ⊢
    simp only [EV, Nat.reduceEqDiff, Nat.reduceBEq, Nat.reduceLT, Nat.reduceLeDiff, Nat.reduceAdd, Nat.reduceSub, reduceIte]
    rcases e1 : decide (d < 0) with _ | _
    rotate_left
    · have h0 : numN s = none := by rw [g4, if_pos (.inl (by simpa using e1))]
      simp only [e1, EV, Nat.reduceEqDiff, Nat.reduceBEq, Nat.reduceLT, Nat.reduceLeDiff, Nat.reduceAdd, Nat.reduceSub, reduceIte]
      simp only [none_ h0, EV, Nat.reduceEqDiff, Nat.reduceBEq, Nat.reduceLT, Nat.reduceLeDiff, Nat.reduceAdd, Nat.reduceSub, reduceIte, evRE, retVC, cellV', evR, nfz, nfzs, nfzss, List.contains_nil, List.contains_cons, Bool.or_false, or_true]
    simp only [e1, EV, Nat.reduceEqDiff, Nat.reduceBEq, Nat.reduceLT, Nat.reduceLeDiff, Nat.reduceAdd, Nat.reduceSub, reduceIte]
    rcases e2 : decide ((base : Int) ≤ d) with _ | _
    rotate_left
    · have h0 : numN s = none := by rw [g4, if_pos (.inr (by simpa using e2))]
      simp only [e1, e2, EV, Nat.reduceEqDiff, Nat.reduceBEq, Nat.reduceLT, Nat.reduceLeDiff, Nat.reduceAdd, Nat.reduceSub, reduceIte]
      simp only [none_ h0, EV, Nat.reduceEqDiff, Nat.reduceBEq, Nat.reduceLT, Nat.reduceLeDiff, Nat.reduceAdd, Nat.reduceSub, reduceIte, evRE, retVC, cellV', evR, nfz, nfzs, nfzss, List.contains_nil, List.contains_cons, Bool.or_false, or_true]
    have d0 : 0 ≤ d := by simpa using e1
    have d1 : d < (base : Int) := by simpa using e2
    rw [if_neg (by omega)] at g4
    have nb : n * base ≤ 16000000000 := by
      have : n * base ≤ 1000000000 * 16 := Nat.mul_le_mul (by omega) hb2.2
      omega
    have nbc : ((n * base : Nat) : Int) = (n : Int) * (base : Int) := by simp
    have w1 := w64 ((n : Int) * (base : Int)) (by omega)
    have w2 := w64 ((n : Int) * (base : Int) + d) (by omega)
    simp only [e1, e2, w1, w2, EV, Nat.reduceEqDiff, Nat.reduceBEq, Nat.reduceLT, Nat.reduceLeDiff, Nat.reduceAdd, Nat.reduceSub, reduceIte]
    rcases e3' : decide ((most : Int) ≤ (i : Int)) with _ | _
    rotate_left
    · have h0 : numN s = none := by rw [g4, if_pos (by have : (most : Int) ≤ i := by simpa using e3'
                                                       omega)]
      simp only [e3', EV, Nat.reduceEqDiff, Nat.reduceBEq, Nat.reduceLT, Nat.reduceLeDiff, Nat.reduceAdd, Nat.reduceSub, reduceIte]
      simp only [none_ h0, EV, Nat.reduceEqDiff, Nat.reduceBEq, Nat.reduceLT, Nat.reduceLeDiff, Nat.reduceAdd, Nat.reduceSub, reduceIte, evRE, retVC, cellV', evR, nfz, nfzs, nfzss, List.contains_nil, List.contains_cons, Bool.or_false, or_true]
    · have h3 : (i : Int) < most := by simpa using e3'
      rw [if_neg (by omega)] at g4
      have hS : base ^ (i + 1) = base ^ i * base := Nat.pow_succ ..
      have en : (n : Int) * (base : Int) + d = ((n * base + d.toNat : Nat) : Int) := by omega
      simp only [e3', wi, en, EV, Nat.reduceEqDiff, Nat.reduceBEq, Nat.reduceLT, Nat.reduceLeDiff, Nat.reduceAdd, Nat.reduceSub, reduceIte]
      refine ⟨(i + 1, n * base + d.toNat), ⟨by simp only; omega, by simp only; omega, ?_, g4⟩, by simp only; omega, rfl⟩
      simp only
      rw [hS]
      calc n * base + d.toNat < n * base + base := by omega
        _ = (n + 1) * base := by rw [Nat.add_mul]; omega
        _ ≤ base ^ i * base := Nat.mul_le_mul_right _ g3
  · have i2 : i = body.size := by have : ¬ (i : Int) < body.size := by simpa using h
                                  omega
    rw [valN, if_neg (by omega)] at g4
    simp only [EV, Nat.reduceEqDiff, Nat.reduceBEq, Nat.reduceLT, Nat.reduceLeDiff, Nat.reduceAdd, Nat.reduceSub, reduceIte]
    simp only [numR, g4, Option.getD_some, Option.isSome_some, EV, Nat.reduceEqDiff, Nat.reduceBEq, Nat.reduceLT, Nat.reduceLeDiff, Nat.reduceAdd, Nat.reduceSub, reduceIte, evRE, retVC, cellV', evR, nfz, nfzs, nfzss, List.contains_nil, List.contains_cons, Bool.or_false, or_true]
def m29 : MC :=
 (.seq (.reg [Xb 4 (.asg (.i 0))]) (.seq (.reg [Xb 5 (.asg (.i 0))]) (.seq (.block 0 (.loop [0, 1, 5] (.seq (.seq (.reg [Xm 6 1, Xq 7 (.bin false .add (.t 6) (.i 1)), Xm 8 0, Xq 9 (.len true (.t 8)), Xq 10 (.bin false .lss (.t 7) (.t 9))]) (.cond (.t 10) .skip (.exit 0))) (.block 1 (.seq (.reg [Xm 11 0, Xm 12 1, Xm 13 1, Xq 14 (.bin false .add (.t 13) (.i 2)), Xq 15 (.slc true 1 (.t 11) (some (.t
 12)) (some (.t 14)))]) (.block 2 (.seq (.reg [Xq 19 (.bin false .eql (.t 15) (.z #[40, 42])), Xa 18 19]) (.cond (.t 18) (.seq (.reg [Xm 20 5, Xq 21 (.bin false .add (.t 20) (.i 1)), Xa 5 21]) (.reg [Xm 22 1, Xq 23 (.bin false .add (.t 22) (.i 2)), Xa 1 23])) (.seq (.reg [Xq 25 (.bin false .eql (.t 15) (.z #[42, 41])), Xa 24 25]) (.cond (.t 24) (.seq (.reg [Xm 26 5, Xq 27 (.bin false .sub (.t 26)
 (.i 1)), Xa 5 27]) (.seq (.reg [Xm 28 1, Xq 29 (.bin false .add (.t 28) (.i 2)), Xa 1 29]) (.seq (.reg [Xm 30 5, Xq 31 (.bin false .eql (.t 30) (.i 0))]) (.cond (.t 31) (.seq (.reg [Xm 32 1, Xa 4 32]) .ret) .skip)))) (.reg [Xm 16 1, Xq 17 (.bin false .add (.t 16) (.i 1)), Xa 1 17]))))))))))) (.seq (.reg [Xb 4 (.asg (.i (-1)))]) .ret))))
set_option maxHeartbeats 1000000 in
theorem d29 (s : ByteArray) (a : Nat) (ha : a + 1 < s.size) (hs : (s.size : Int) ≤ 1200) (ho : isOpen s a = true) : Does Go.Proofs.Tryz.prog 29 [.v (.string s), .v (.int .i64 (a : Int))] false (.v (.int .i64 (match rem s a 0 with | some e => (e : Int) | none => -1))) [.dead, .dead] := by
  generalize hR : rem s a 0 = R
  refine does_intro (mc := m29) (N := 33) (rs := [4]) (fx := []) 2 rfl (by decide +kernel) ?_
  simp only [m29, EV, Nat.reduceEqDiff, Nat.reduceBEq, Nat.reduceLT, Nat.reduceLeDiff, Nat.reduceAdd, Nat.reduceSub, reduceIte]
  refine awp_loop (fun p : Nat × Nat => p.1 ≤ s.size ∧ p.2 ≤ p.1 + 1 ∧ (p.2 = 0 → p.1 = a) ∧ R = rem s p.1 p.2) (fun p => stl [(0, .v (.string s)), (1, .v (.int .i64 (p.1 : Int))), (5, .v (.int .i64 (p.2 : Int)))]) (fun p => s.size - p.1) (a, 0) ⟨by simp only; omega, by simp only; omega, fun _ => rfl, hR.symm⟩ ?_ ?_
  · simp only [EV, Nat.reduceEqDiff, Nat.reduceBEq, Nat.reduceLT, Nat.reduceLeDiff, Nat.reduceAdd, Nat.reduceSub, reduceIte]
    rfl
  rintro ⟨i, d⟩ ⟨g1, g2, g3, g4⟩
  simp only at g1 g2 g3 g4
  have w1 := w64 ((i : Int) + 1) (by omega)
  have w2 := w64 ((i : Int) + 2) (by omega)
  have wd1 := w64 ((d : Int) + 1) (by omega)
  have wd2 := w64 ((d : Int) - 1) (by omega)
  simp only [w1, EV, Nat.reduceEqDiff, Nat.reduceBEq, Nat.reduceLT, Nat.reduceLeDiff, Nat.reduceAdd, Nat.reduceSub, reduceIte]
  refine cK_cut (fun h => ?_) (fun h => ?_)
  · have i2 : (i : Int) + 1 < (s.size : Int) := by simpa using h
    clear h
    have i3 : (i : Int) ≤ (i : Int) + 2 := by omega
    have i4 : (i : Int) + 2 ≤ (s.size : Int) := by omega
    have t0 : ((i : Nat) : Int).toNat = i := rfl
    have t2 : ((i : Nat) + 2 : Int).toNat = i + 2 := rfl
    have eo := open_eq s (i := i) (by omega)
    have es := shut_eq s (i := i) (by omega)
    rw [rem, if_pos (by omega)] at g4
    simp only [w2, i3, i4, t0, t2, eo, EV, Nat.reduceEqDiff, Nat.reduceBEq, Nat.reduceLT, Nat.reduceLeDiff, Nat.reduceAdd, Nat.reduceSub, reduceIte]
    rcases o : isOpen s i with _ | _
    · have hd0 : d ≠ 0 := by
        intro h; have := g3 h; subst this; rw [ho] at o; cases o
      rw [o, if_neg (by simp)] at g4
      simp only [o, es, EV, Nat.reduceEqDiff, Nat.reduceBEq, Nat.reduceLT, Nat.reduceLeDiff, Nat.reduceAdd, Nat.reduceSub, reduceIte]
      rcases q : isShut s i with _ | _
      · rw [q, if_neg (by simp)] at g4
        simp only [w1, w2, wd1, wd2, EV, Nat.reduceEqDiff, Nat.reduceBEq, Nat.reduceLT, Nat.reduceLeDiff, Nat.reduceAdd, Nat.reduceSub, reduceIte]
        exact ⟨(i + 1, d), ⟨by simp only; omega, by simp only; omega, fun h => absurd h hd0, g4⟩, by simp only; omega, rfl⟩
      · rw [q, if_pos rfl] at g4
        simp only [w1, w2, wd1, wd2, EV, Nat.reduceEqDiff, Nat.reduceBEq, Nat.reduceLT, Nat.reduceLeDiff, Nat.reduceAdd, Nat.reduceSub, reduceIte]
        rcases z : ((d : Int) - 1 == 0) with _ | _
        · have hd1 : d ≠ 1 := by
            intro h; subst h; simp at z
          rw [if_neg hd1] at g4
          simp only [z, EV, Nat.reduceEqDiff, Nat.reduceBEq, Nat.reduceLT, Nat.reduceLeDiff, Nat.reduceAdd, Nat.reduceSub, reduceIte]
          refine ⟨(i + 2, d - 1), ⟨by simp only; omega, by simp only; omega, fun h => by simp only at h; omega, g4⟩, by simp only; omega, ?_⟩
          have : (d : Int) - 1 = ((d - 1 : Nat) : Int) := by omega
          rw [this]
          rfl
        · have hd1 : d = 1 := by have : (d : Int) - 1 = 0 := by simpa using z
                                 omega
          rw [if_pos hd1] at g4
          simp only [z, EV, Nat.reduceEqDiff, Nat.reduceBEq, Nat.reduceLT, Nat.reduceLeDiff, Nat.reduceAdd, Nat.reduceSub, reduceIte]
          simp only [g4, EV, Nat.reduceEqDiff, Nat.reduceBEq, Nat.reduceLT, Nat.reduceLeDiff, Nat.reduceAdd, Nat.reduceSub, reduceIte, evRE, retVC, cellV', evR, nfz, nfzs, nfzss, List.contains_nil, List.contains_cons, Bool.or_false, or_true]
          rfl
    · rw [o, if_pos rfl] at g4
      simp only [o, w1, w2, wd1, wd2, EV, Nat.reduceEqDiff, Nat.reduceBEq, Nat.reduceLT, Nat.reduceLeDiff, Nat.reduceAdd, Nat.reduceSub, reduceIte]
      exact ⟨(i + 2, d + 1), ⟨by simp only; omega, by simp only; omega, fun h => by simp only at h; omega, g4⟩, by simp only; omega, rfl⟩
  · have i2 : ¬ i + 1 < s.size := by have : ¬ (i : Int) + 1 < s.size := by simpa using h
                                     omega
    rw [rem, if_neg i2] at g4
    simp only [EV, Nat.reduceEqDiff, Nat.reduceBEq, Nat.reduceLT, Nat.reduceLeDiff, Nat.reduceAdd, Nat.reduceSub, reduceIte]
    simp only [g4, EV, Nat.reduceEqDiff, Nat.reduceBEq, Nat.reduceLT, Nat.reduceLeDiff, Nat.reduceAdd, Nat.reduceSub, reduceIte, evRE, retVC, cellV', evR, nfz, nfzs, nfzss, List.contains_nil, List.contains_cons, Bool.or_false, or_true]
end Go.AM
namespace Go.AM
set_option linter.unusedVariables false
set_option linter.unusedSimpArgs false
theorem pbq (a b c d : Nat) : ((a, b) == (c, d)) = (a == c && b == d) := rfl
theorem sign_aln {b : Int} (h : isSign b = true) : aln b = false := by
  have : ∀ x ∈ signs, aln x = false := by decide
  exact this b (by unfold isSign at h; simpa using h)
theorem lett_digt {b : Int} (h : lett b = true) : digt b = false := by
  simp only [lett, Bool.or_eq_true, Bool.and_eq_true, decide_eq_true_eq] at h
  simp only [digt, Bool.and_eq_false_iff, decide_eq_false_iff_not]
  omega
theorem name_word (s : ByteArray) {a : Nat} (ha : a < s.size) (hl : lett (sAt s (a : Nat)) = true) : nameOk (s.extract a (wl s a)) = !decide (10 < wl s a - a) := by
  obtain ⟨w1, w2, w3⟩ := wl_in s (s.size - a) a (Nat.le_refl _) (by omega)
  have hz : (s.extract a (wl s a)).size = wl s a - a := by rw [ByteArray.size_extract]; omega
  have hst : wl s a = wl s (a + 1) := wl_step ha (by simp [aln, hl])
  have hpos : a < wl s a := by
    have := (wl_in s (s.size - (a + 1)) (a + 1) (Nat.le_refl _) (by omega)).1
    omega
  have hc : chsOk (s.extract a (wl s a)) (wl s a - a) := by
    intro j hj
    have e := sAt_cut s (a := a) (b := wl s a) (i := j) (by omega) w2
    unfold chOk
    rw [e]
    by_cases h0 : j = 0
    · subst h0
      rw [Nat.add_zero, hl]; rfl
    · have := w3 (a + j) (by omega) (by omega)
      have hj0 : (j != 0) = true := by simpa using h0
      rw [hj0, Bool.true_and]
      exact this
  unfold nameOk
  rw [hz]
  by_cases c : wl s a - a ≤ 10
  · have : ¬ 10 < wl s a - a := by omega
    simp [hc, c, this]; omega
  · have : 10 < wl s a - a := by omega
    simp [c, this]
theorem tokN_in {s : ByteArray} {a : Nat} {t : Tok} (ha : a < s.size) (h : tokN s a = .inl t) : 1 ≤ t.text.size ∧ a + t.text.size ≤ s.size ∧ t.pos = a := by
  obtain ⟨w1, w2, w3⟩ := wl_in s (s.size - a) a (Nat.le_refl _) (by omega)
  have hz : (s.extract a (wl s a)).size = wl s a - a := by rw [ByteArray.size_extract]; omega
  have hz1 : (s.extract a (a + 1)).size = 1 := by rw [ByteArray.size_extract]; omega
  unfold tokN at h
  split at h
  · simp at h; subst h; exact ⟨by simp only [hz1]; omega, by simp only [hz1]; omega, rfl⟩
  · split at h
    · simp at h
    · rename_i c
      have hst : wl s a = wl s (a + 1) := wl_step ha (by simpa using c)
      have hpos : a < wl s a := by
        have := (wl_in s (s.size - (a + 1)) (a + 1) (Nat.le_refl _) (by omega)).1
        omega
      split at h
      · split at h
        · simp at h; subst h; exact ⟨by simp only [hz]; omega, by simp only [hz]; omega, rfl⟩
        · split at h
          · simp at h
          · simp at h; subst h; exact ⟨by simp only [hz]; omega, by simp only [hz]; omega, rfl⟩
      · split at h
        · simp at h; subst h; exact ⟨by simp only [hz]; omega, by simp only [hz]; omega, rfl⟩
        · simp at h
theorem tokN_bad {s : ByteArray} {a : Nat} {c : Int} (h : tokN s a = .inr c) : c = 3 ∨ c = 4 := by
  unfold tokN at h
  repeat' split at h
  all_goals first | (simp at h; omega) | (simp at h)
section
variable {s : ByteArray} {i : Nat} {out : List Tok}
def blank (s : ByteArray) (i : Nat) : Bool := sAt s (i : Nat) == 32 || sAt s (i : Nat) == 10
theorem blank_iff : blank s i = true ↔ (sAt s (i : Nat) = 32 ∨ sAt s (i : Nat) = 10) := by unfold blank; simp
theorem rdT_blank (hi : i < s.size) (hb : blank s i = true) : rdT s i out = rdT s (i + 1) out := by
  rw [rdT, dif_pos hi, if_pos (blank_iff.1 hb)]
theorem rdT_some (hi : i < s.size) (hb : blank s i = false) (ho : i + 1 < s.size ∧ isOpen s i = true) {e : Nat} (h : rem s i 0 = some e) : rdT s i out = rdT s e out := by
  rw [rdT, dif_pos hi, if_neg (fun h => by rw [blank_iff.2 h] at hb; cases hb), if_pos ho]
  split
  · rename_i e' h'; rw [h] at h'; cases h'; rfl
  · rename_i h'; rw [h] at h'; cases h'
theorem rdT_none (hi : i < s.size) (hb : blank s i = false) (ho : i + 1 < s.size ∧ isOpen s i = true) (h : rem s i 0 = none) : rdT s i out = .inr (2, (i : Int)) := by
  rw [rdT, dif_pos hi, if_neg (fun h => by rw [blank_iff.2 h] at hb; cases hb), if_pos ho]
  split
  · rename_i e' h'; rw [h] at h'; cases h'
  · rfl
theorem rdT_tok (hi : i < s.size) (hb : blank s i = false) (ho : ¬ (i + 1 < s.size ∧ isOpen s i = true)) {t : Tok} (h : tokN s i = .inl t) : rdT s i out = rdT s (i + t.text.size) (out ++ [t]) := by
  rw [rdT, dif_pos hi, if_neg (fun h => by rw [blank_iff.2 h] at hb; cases hb), if_neg ho]
  have h1 := (tokN_in hi h).1
  split
  · rename_i t' h'; rw [h] at h'; cases h'
    rw [Nat.max_eq_right (by omega)]
  · rename_i h'; rw [h] at h'; cases h'
theorem rdT_bad (hi : i < s.size) (hb : blank s i = false) (ho : ¬ (i + 1 < s.size ∧ isOpen s i = true)) {c : Int} (h : tokN s i = .inr c) : rdT s i out = .inr (c, (i : Int)) := by
  rw [rdT, dif_pos hi, if_neg (fun h => by rw [blank_iff.2 h] at hb; cases hb), if_neg ho]
  split
  · rename_i h'; rw [h] at h'; cases h'
  · rename_i c' h'; rw [h] at h'; cases h'; rfl
theorem rdT_end (hi : ¬ i < s.size) : rdT s i out = if 300 < out.length then .inr (5, 0) else .inl out := by
  rw [rdT, dif_neg hi]
end
def rtL : List Tok ⊕ (Int × Int) → List Tok
  | .inl l => l
  | .inr _ => []
def rtC : List Tok ⊕ (Int × Int) → Int
  | .inl _ => 0
  | .inr p => p.1
def rtA : List Tok ⊕ (Int × Int) → Int
  | .inl _ => 0
  | .inr p => p.2
def rtB : List Tok ⊕ (Int × Int) → Bool
  | .inl _ => true
  | .inr _ => false
def tokR (s : ByteArray) (a : Nat) (t : Tok) (c : Int) : Prop := match tokN s a with
  | .inl t' => t = t' ∧ c = 0
  | .inr k => c = k
def m30 : MC :=
 (.seq (.reg [Xb 4 (.alloc 74 [.i, .z, .i, .i]), Xb 5 (.asg (.i 0))]) (.seq (.reg [Xm 10 1, Xq 11 (.bin false .add (.t 10) (.i 1)), Xa 6 11]) (.seq (.reg [Xm 12 1, Xb 13 (.build [0, 3] [0, 3] [1, 1] [.i, .z, .i, .i] [.i 4, .t 12]), Xb 7 (.alloc 74 [.i, .z, .i, .i]), Xz (.store 4 (.t 7) (.t 13))]) (.join [0, 1, 4, 6, 7] (.seq (.reg [Xm 14 0, Xm 15 1, Xq 16 (.idx (.t 14) (.t 15)), Xb 17 (.call (.fn
 50) false [.lend (.t 16)]), Xm 18 17, Xu 19 18 (.mov (.t 0)), Xu 20 18 (.mov (.t 1)), Xu 21 18 (.idx (.t 19) (.t 20)), XU 22 18 (.call (.fn 51) false [.lend (.t 21)]), Xq 23 (.pick (.t 18) .tb (.t 22))]) (.cond (.t 23) (.block 0 (.loop [0, 1, 4, 6, 7] (.seq (.seq (.reg [Xm 24 6, Xm 25 0, Xq 26 (.len true (.t 25)), Xq 27 (.bin false .lss (.t 24) (.t 26)), Xm 28 27, Xt 29 28 (.mov (.t 0)), Xt 30 28
 (.mov (.t 6)), Xt 31 28 (.idx (.t 29) (.t 30)), XT 32 28 (.call (.fn 50) false [.lend (.t 31)]), Xt 33 28 (.mov (.t 32)), Xu 34 33 (.mov (.t 0)), Xu 35 33 (.mov (.t 6)), Xu 36 33 (.idx (.t 34) (.t 35)), XU 37 33 (.call (.fn 51) false [.lend (.t 36)]), Xt 38 28 (.pick (.t 33) .tb (.t 37)), Xq 39 (.pick (.t 28) (.t 38) .fb)]) (.cond (.t 39) .skip (.exit 0))) (.block 1 (.reg [Xm 40 6, Xq 41 (.bin
 false .add (.t 40) (.i 1)), Xa 6 41]))))) .skip)) (.seq (.reg [Xm 42 0, Xm 43 1, Xm 44 6, Xq 45 (.slc true 1 (.t 42) (some (.t 43)) (some (.t 44))), Xf 46 1 7, Xz (.store 1 (.t 46) (.t 45))]) (.join [4, 7] (.block 2 (.seq (.reg [Xm 48 0, Xm 49 1, Xq 50 (.idx (.t 48) (.t 49)), Xb 51 (.call (.fn 50) false [.lend (.t 50)]), Xa 47 51]) (.cond (.t 47) (.seq (.reg [Xf 52 0 7, Xz (.store 1 (.t 52) (.i
 1))]) (.seq (.reg [Xf 53 1 7, Xl 54 1 53, Xb 55 (.call (.fn 52) false [.lend (.t 54)])]) (.cond (.t 55) (.reg [Xf 56 0 7, Xz (.store 1 (.t 56) (.i 2))]) (.seq (.reg [Xf 57 1 7, Xl 58 1 57, Xb 59 (.call (.fn 42) false [.lend (.t 58)]), Xq 60 (.un .not (.t 59))]) (.cond (.t 60) (.seq (.reg [XL 61 4 7, Xz (.store 4 (.t 4) (.t 61)), Xb 5 (.asg (.i 3))]) .ret) .skip))))) (.seq (.reg [Xm 63 0, Xm 64 1,
 Xq 65 (.idx (.t 63) (.t 64)), Xb 66 (.call (.fn 51) false [.lend (.t 65)]), Xa 62 66]) (.cond (.t 62) (.seq (.reg [Xf 68 1 7, Xl 69 1 68, Xb 70 (.call (.fn 53) false [.lend (.t 69)]), Xm 67 70, Xq 71 (.ext 67 0), Xq 72 (.ext 67 1), Xa 8 71, Xa 9 72]) (.seq (.seq (.reg [Xm 73 9, Xq 74 (.un .not (.t 73))]) (.cond (.t 74) (.seq (.reg [XL 75 4 7, Xz (.store 4 (.t 4) (.t 75)), Xb 5 (.asg (.i 3))])
 .ret) .skip)) (.seq (.reg [Xf 76 0 7, Xz (.store 1 (.t 76) (.i 3))]) (.reg [Xm 77 8, Xf 78 2 7, Xz (.store 1 (.t 78) (.t 77))])))) (.seq (.reg [Xm 80 0, Xm 81 1, Xq 82 (.idx (.t 80) (.t 81)), Xb 83 (.call (.fn 54) false [.lend (.t 82)]), Xq 84 (.un .not (.t 83)), Xa 79 84]) (.cond (.t 79) (.seq (.reg [XL 85 4 7, Xz (.store 4 (.t 4) (.t 85)), Xb 5 (.asg (.i 4))]) .ret) .skip))))))) (.seq (.reg [XL
 86 4 7, Xz (.store 4 (.t 4) (.t 86)), Xb 5 (.asg (.i 0))]) .ret)))))))
set_option maxHeartbeats 4000000 in
set_option maxRecDepth 100000 in
theorem d30 (s : ByteArray) (a : Nat) (ha : a < s.size) (hs : (s.size : Int) ≤ 1200) : DoesE Go.Proofs.Tryz.prog 30 [.v (.string s), .v (.int .i64 (a : Int))] false fun r o => o = [.dead, .dead] ∧ ∃ (t : Tok) (c : Int), r = .tup [.agg t.z, .v (.int .i64 c)] ∧ tokR s a t c := by
  have aI : (a : Int) < (s.size : Int) := by omega
  have a0 : (0 : Int) ≤ (a : Int) := by omega
  have wa := w64 ((a : Int) + 1) (by omega)
  have hT : ∀ (t : Tok) (c : Int), tokR s a t c = tokR s a t c := fun _ _ => rfl
  obtain ⟨W1, W2, W3⟩ := wl_in s (s.size - a) a (Nat.le_refl _) (by omega)
  have nmW := name_word s ha
  refine doesM_intro (mc := m30) (N := 87) (rs := [.c 4 74 true 4, .t 5]) (fx := []) 2 rfl (by decide +kernel) ?_
  simp only [m30, wa, aI, a0, EV, Nat.reduceEqDiff, Nat.reduceBEq, Nat.reduceLT, Nat.reduceLeDiff, Nat.reduceAdd, Nat.reduceSub, reduceIte]
  refine awp_join (fun e : Nat => a < e ∧ e ≤ s.size ∧ e = if aln (sAt s (a : Nat)) = true then wl s a else a + 1) (fun e => stl [(0, .v (.string s)), (1, .v (.int .i64 (a : Int))), (4, .box 74 (Tok.z ⟨0, ⟨#[]⟩, 0, 0⟩)), (6, .v (.int .i64 (e : Int))), (7, .box 74 (Tok.z ⟨4, ⟨#[]⟩, 0, a⟩))]) ?_ ?_
  · have loop : aln (sAt s (a : Nat)) = true → ∀ e : Nat, a < e → e ≤ s.size → wl s a = wl s e → ¬ (e < s.size ∧ aln (sAt s (e : Nat)) = true) → ∃ e' : Nat, (a < e' ∧ e' ≤ s.size ∧ e' = if aln (sAt s (a : Nat)) = true then wl s a else a + 1) ∧ stl [(0, AV.v (.string s)), (1, .v (.int .i64 (a : Int))), (4, .box 74 (Tok.z ⟨0, ⟨#[]⟩, 0, 0⟩)), (6, .v (.int .i64 (e : Int))), (7, .box 74 (Tok.z ⟨4, ⟨#[]⟩, 0, a⟩))] = stl [(0, .v (.string s)), (1, .v (.int .i64 (a : Int))), (4, .box 74 (Tok.z ⟨0, ⟨#[]⟩, 0, 0⟩)), (6, .v (.int .i64 (e' : Int))), (7, .box 74 (Tok.z ⟨4, ⟨#[]⟩, 0, a⟩))] := by
      intro h0 e h1 h2 h3 h4
      exact ⟨e, ⟨h1, h2, by rw [if_pos h0, h3, wl_stop h4]⟩, rfl⟩
    simp only [Tok.z] at loop
    have body : aln (sAt s (a : Nat)) = true → wl s a = wl s (a + 1) := fun h => wl_step ha h
    simp only [aI, a0, EV, Nat.reduceEqDiff, Nat.reduceBEq, Nat.reduceLT, Nat.reduceLeDiff, Nat.reduceAdd, Nat.reduceSub, reduceIte]
    refine callK_i (d50 _) ?_
    rcases e1 : lett (sAt s (a : Int)) with _ | _
    · simp only [e1, aI, a0, EV, Nat.reduceEqDiff, Nat.reduceBEq, Nat.reduceLT, Nat.reduceLeDiff, Nat.reduceAdd, Nat.reduceSub, reduceIte]
      refine callK_i (d51 _) ?_
      rcases e2 : digt (sAt s (a : Int)) with _ | _
      · simp only [e2, EV, Nat.reduceEqDiff, Nat.reduceBEq, Nat.reduceLT, Nat.reduceLeDiff, Nat.reduceAdd, Nat.reduceSub, reduceIte]
        exact ⟨a + 1, ⟨by omega, by omega, by rw [if_neg]; simp [aln, e1, e2]⟩, rfl⟩
      have hal : aln (sAt s (a : Nat)) = true := by simp [aln, e2]
      simp only [e2, EV, Nat.reduceEqDiff, Nat.reduceBEq, Nat.reduceLT, Nat.reduceLeDiff, Nat.reduceAdd, Nat.reduceSub, reduceIte]
      refine awp_loop (fun e : Nat => a < e ∧ e ≤ s.size ∧ wl s a = wl s e) (fun e => stl [(0, .v (.string s)), (1, .v (.int .i64 (a : Int))), (4, .box 74 (Tok.z ⟨0, ⟨#[]⟩, 0, 0⟩)), (6, .v (.int .i64 (e : Int))), (7, .box 74 (Tok.z ⟨4, ⟨#[]⟩, 0, a⟩))]) (fun e => s.size - e) (a + 1) ⟨by omega, by omega, body hal⟩ ?_ ?_
      · simp only [Tok.z, EV, Nat.reduceEqDiff, Nat.reduceBEq, Nat.reduceLT, Nat.reduceLeDiff, Nat.reduceAdd, Nat.reduceSub, reduceIte]
        rfl
      rintro e ⟨g1, g2, g3⟩
      have we := w64 ((e : Int) + 1) (by omega)
      have eI0 : (0 : Int) ≤ (e : Int) := by omega
      simp only [Tok.z, EV, Nat.reduceEqDiff, Nat.reduceBEq, Nat.reduceLT, Nat.reduceLeDiff, Nat.reduceAdd, Nat.reduceSub, reduceIte]
      rcases e4 : decide ((e : Int) < (s.size : Int)) with _ | _
      · simp only [e4, EV, Nat.reduceEqDiff, Nat.reduceBEq, Nat.reduceLT, Nat.reduceLeDiff, Nat.reduceAdd, Nat.reduceSub, reduceIte]
        refine loop hal e g1 g2 g3 (fun h => ?_)
        have : ¬ (e : Int) < s.size := by simpa using e4
        omega
      have eI : (e : Int) < (s.size : Int) := by simpa using e4
      simp only [e4, eI, eI0, EV, Nat.reduceEqDiff, Nat.reduceBEq, Nat.reduceLT, Nat.reduceLeDiff, Nat.reduceAdd, Nat.reduceSub, reduceIte]
      refine callK_i (d50 _) ?_
      rcases e5 : lett (sAt s (e : Int)) with _ | _
      · simp only [e5, eI, eI0, EV, Nat.reduceEqDiff, Nat.reduceBEq, Nat.reduceLT, Nat.reduceLeDiff, Nat.reduceAdd, Nat.reduceSub, reduceIte]
        refine callK_i (d51 _) ?_
        rcases e6 : digt (sAt s (e : Int)) with _ | _
        · simp only [e6, EV, Nat.reduceEqDiff, Nat.reduceBEq, Nat.reduceLT, Nat.reduceLeDiff, Nat.reduceAdd, Nat.reduceSub, reduceIte]
          exact loop hal e g1 g2 g3 (fun h => by have := h.2; simp [aln, e5, e6] at this)
        · simp only [e6, we, EV, Nat.reduceEqDiff, Nat.reduceBEq, Nat.reduceLT, Nat.reduceLeDiff, Nat.reduceAdd, Nat.reduceSub, reduceIte]
          exact ⟨e + 1, ⟨by omega, by omega, by rw [g3]; exact wl_step (by omega) (by simp [aln, e6])⟩, by omega, rfl⟩
      · simp only [e5, we, EV, Nat.reduceEqDiff, Nat.reduceBEq, Nat.reduceLT, Nat.reduceLeDiff, Nat.reduceAdd, Nat.reduceSub, reduceIte]
        exact ⟨e + 1, ⟨by omega, by omega, by rw [g3]; exact wl_step (by omega) (by simp [aln, e5])⟩, by omega, rfl⟩
    · have hal : aln (sAt s (a : Nat)) = true := by simp [aln, e1]
      simp only [e1, EV, Nat.reduceEqDiff, Nat.reduceBEq, Nat.reduceLT, Nat.reduceLeDiff, Nat.reduceAdd, Nat.reduceSub, reduceIte]
      refine awp_loop (fun e : Nat => a < e ∧ e ≤ s.size ∧ wl s a = wl s e) (fun e => stl [(0, .v (.string s)), (1, .v (.int .i64 (a : Int))), (4, .box 74 (Tok.z ⟨0, ⟨#[]⟩, 0, 0⟩)), (6, .v (.int .i64 (e : Int))), (7, .box 74 (Tok.z ⟨4, ⟨#[]⟩, 0, a⟩))]) (fun e => s.size - e) (a + 1) ⟨by omega, by omega, body hal⟩ ?_ ?_
      · simp only [Tok.z, EV, Nat.reduceEqDiff, Nat.reduceBEq, Nat.reduceLT, Nat.reduceLeDiff, Nat.reduceAdd, Nat.reduceSub, reduceIte]
        rfl
      rintro e ⟨g1, g2, g3⟩
      have we := w64 ((e : Int) + 1) (by omega)
      have eI0 : (0 : Int) ≤ (e : Int) := by omega
      simp only [Tok.z, EV, Nat.reduceEqDiff, Nat.reduceBEq, Nat.reduceLT, Nat.reduceLeDiff, Nat.reduceAdd, Nat.reduceSub, reduceIte]
      rcases e4 : decide ((e : Int) < (s.size : Int)) with _ | _
      · simp only [e4, EV, Nat.reduceEqDiff, Nat.reduceBEq, Nat.reduceLT, Nat.reduceLeDiff, Nat.reduceAdd, Nat.reduceSub, reduceIte]
        refine loop hal e g1 g2 g3 (fun h => ?_)
        have : ¬ (e : Int) < s.size := by simpa using e4
        omega
      have eI : (e : Int) < (s.size : Int) := by simpa using e4
      simp only [e4, eI, eI0, EV, Nat.reduceEqDiff, Nat.reduceBEq, Nat.reduceLT, Nat.reduceLeDiff, Nat.reduceAdd, Nat.reduceSub, reduceIte]
      refine callK_i (d50 _) ?_
      rcases e5 : lett (sAt s (e : Int)) with _ | _
      · simp only [e5, eI, eI0, EV, Nat.reduceEqDiff, Nat.reduceBEq, Nat.reduceLT, Nat.reduceLeDiff, Nat.reduceAdd, Nat.reduceSub, reduceIte]
        refine callK_i (d51 _) ?_
        rcases e6 : digt (sAt s (e : Int)) with _ | _
        · simp only [e6, EV, Nat.reduceEqDiff, Nat.reduceBEq, Nat.reduceLT, Nat.reduceLeDiff, Nat.reduceAdd, Nat.reduceSub, reduceIte]
          exact loop hal e g1 g2 g3 (fun h => by have := h.2; simp [aln, e5, e6] at this)
        · simp only [e6, we, EV, Nat.reduceEqDiff, Nat.reduceBEq, Nat.reduceLT, Nat.reduceLeDiff, Nat.reduceAdd, Nat.reduceSub, reduceIte]
          exact ⟨e + 1, ⟨by omega, by omega, by rw [g3]; exact wl_step (by omega) (by simp [aln, e6])⟩, by omega, rfl⟩
      · simp only [e5, we, EV, Nat.reduceEqDiff, Nat.reduceBEq, Nat.reduceLT, Nat.reduceLeDiff, Nat.reduceAdd, Nat.reduceSub, reduceIte]
        exact ⟨e + 1, ⟨by omega, by omega, by rw [g3]; exact wl_step (by omega) (by simp [aln, e5])⟩, by omega, rfl⟩
  rintro e ⟨g1, g2, g3⟩
  have c1 : (a : Int) ≤ (e : Int) := by omega
  have c2 : (e : Int) ≤ (s.size : Int) := by omega
  have hx : (s.extract a e).size = e - a := by
    simp only [ByteArray.size_extract]; omega
  have te : ((e : Nat) : Int).toNat = e := rfl
  have ta : ((a : Nat) : Int).toNat = a := rfl
  simp only [c1, c2, a0, Tok.z, te, ta, EV, Nat.reduceEqDiff, Nat.reduceBEq, Nat.reduceLT, Nat.reduceLeDiff, Nat.reduceAdd, Nat.reduceSub, reduceIte]
  refine awp_join (fun p : Int × Int => tokN s a = .inl ⟨p.1, s.extract a e, p.2, a⟩) (fun p => stl [(4, .box 74 (Tok.z ⟨0, ⟨#[]⟩, 0, 0⟩)), (7, .box 74 (Tok.z ⟨p.1, s.extract a e, p.2, a⟩))]) ?_ ?_
  · simp only [aI, a0, Tok.z, EV, Nat.reduceEqDiff, Nat.reduceBEq, Nat.reduceLT, Nat.reduceLeDiff, Nat.reduceAdd, Nat.reduceSub, reduceIte]
    refine callK_i (d50 _) ?_
    rcases e1 : lett (sAt s (a : Int)) with _ | _
    · simp only [e1, aI, a0, EV, Nat.reduceEqDiff, Nat.reduceBEq, Nat.reduceLT, Nat.reduceLeDiff, Nat.reduceAdd, Nat.reduceSub, reduceIte]
      refine callK_i (d51 _) ?_
      rcases e2 : digt (sAt s (a : Int)) with _ | _
      · have hal : aln (sAt s (a : Nat)) = false := by simp [aln, e1, e2]
        rw [if_neg (by rw [hal]; simp)] at g3
        subst g3
        simp only [e2, aI, a0, EV, Nat.reduceEqDiff, Nat.reduceBEq, Nat.reduceLT, Nat.reduceLeDiff, Nat.reduceAdd, Nat.reduceSub, reduceIte]
        refine callK_i (d54 _) ?_
        rcases e8 : isSign (sAt s (a : Int)) with _ | _
        · simp only [e8, Bool.not_false, Tok.z, EV, Nat.reduceEqDiff, Nat.reduceBEq, Nat.reduceLT, Nat.reduceLeDiff, Nat.reduceAdd, Nat.reduceSub, reduceIte]
          simp only [pbq, evRM, EV, Nat.reduceEqDiff, Nat.reduceBEq, Nat.reduceLT, Nat.reduceLeDiff, Nat.reduceAdd, Nat.reduceSub, reduceIte, evRE, retVC, cellV', evR, nfz, nfzs, nfzss, List.contains_nil, List.contains_cons, Bool.or_false, or_true]
          refine ⟨⟨4, s.extract a (a + 1), 0, a⟩, 4, rfl, ?_⟩
          unfold tokR tokN
          rw [if_neg (by rw [e8]; simp), if_pos hal]
        · simp only [e8, Bool.not_true, Tok.z, EV, Nat.reduceEqDiff, Nat.reduceBEq, Nat.reduceLT, Nat.reduceLeDiff, Nat.reduceAdd, Nat.reduceSub, reduceIte]
          refine ⟨(4, 0), ?_, rfl⟩
          unfold tokN
          rw [if_pos e8]
      · have hal : aln (sAt s (a : Nat)) = true := by simp [aln, e2]
        have hsg : ¬ isSign (sAt s (a : Nat)) = true := fun h => by rw [sign_aln h] at hal; cases hal
        rw [if_pos hal] at g3
        subst g3
        simp only [e2, Tok.z, EV, Nat.reduceEqDiff, Nat.reduceBEq, Nat.reduceLT, Nat.reduceLeDiff, Nat.reduceAdd, Nat.reduceSub, reduceIte]
        refine callK_i (d53 (s.extract a (wl s a)) (by omega)) ?_
        simp only [numR, EV, Nat.reduceEqDiff, Nat.reduceBEq, Nat.reduceLT, Nat.reduceLeDiff, Nat.reduceAdd, Nat.reduceSub, reduceIte]
        rcases e9 : numN (s.extract a (wl s a)) with _ | m
        · simp only [Option.getD_none, Option.isSome_none, Bool.not_false, Tok.z, EV, Nat.reduceEqDiff, Nat.reduceBEq, Nat.reduceLT, Nat.reduceLeDiff, Nat.reduceAdd, Nat.reduceSub, reduceIte]
          simp only [pbq, evRM, EV, Nat.reduceEqDiff, Nat.reduceBEq, Nat.reduceLT, Nat.reduceLeDiff, Nat.reduceAdd, Nat.reduceSub, reduceIte, evRE, retVC, cellV', evR, nfz, nfzs, nfzss, List.contains_nil, List.contains_cons, Bool.or_false, or_true]
          refine ⟨⟨4, s.extract a (wl s a), 0, a⟩, 3, rfl, ?_⟩
          unfold tokR tokN
          rw [if_neg hsg, if_neg (by rw [hal]; simp), if_neg (by rw [e1]; simp), e9]
        · simp only [Option.getD_some, Option.isSome_some, Bool.not_true, Tok.z, EV, Nat.reduceEqDiff, Nat.reduceBEq, Nat.reduceLT, Nat.reduceLeDiff, Nat.reduceAdd, Nat.reduceSub, reduceIte]
          refine ⟨(3, (m : Int)), ?_, rfl⟩
          unfold tokN
          rw [if_neg hsg, if_neg (by rw [hal]; simp), if_neg (by rw [e1]; simp), e9]
    · have hal : aln (sAt s (a : Nat)) = true := by simp [aln, e1]
      have hsg : ¬ isSign (sAt s (a : Nat)) = true := fun h => by rw [sign_aln h] at hal; cases hal
      rw [if_pos hal] at g3
      subst g3
      have nm := nmW e1
      simp only [e1, Tok.z, EV, Nat.reduceEqDiff, Nat.reduceBEq, Nat.reduceLT, Nat.reduceLeDiff, Nat.reduceAdd, Nat.reduceSub, reduceIte]
      refine callK_i (d52 (s.extract a (wl s a))) ?_
      rcases e5 : isWordB (s.extract a (wl s a)) with _ | _
      · simp only [e5, Tok.z, EV, Nat.reduceEqDiff, Nat.reduceBEq, Nat.reduceLT, Nat.reduceLeDiff, Nat.reduceAdd, Nat.reduceSub, reduceIte]
        refine callK_i (d42 (s.extract a (wl s a)) (by omega)) ?_
        rw [nm]
        simp only [EV, Nat.reduceEqDiff, Nat.reduceBEq, Nat.reduceLT, Nat.reduceLeDiff, Nat.reduceAdd, Nat.reduceSub, reduceIte]
        rcases e7 : decide (10 < wl s a - a) with _ | _
        · simp only [Bool.not_true, Bool.not_false, Tok.z, EV, Nat.reduceEqDiff, Nat.reduceBEq, Nat.reduceLT, Nat.reduceLeDiff, Nat.reduceAdd, Nat.reduceSub, reduceIte]
          refine ⟨(1, 0), ?_, rfl⟩
          unfold tokN
          rw [if_neg hsg, if_neg (by rw [hal]; simp), if_pos e1, if_neg (by rw [e5]; simp), if_neg (by simpa using e7)]
        · simp only [Bool.not_true, Bool.not_false, Tok.z, EV, Nat.reduceEqDiff, Nat.reduceBEq, Nat.reduceLT, Nat.reduceLeDiff, Nat.reduceAdd, Nat.reduceSub, reduceIte]
          simp only [pbq, evRM, EV, Nat.reduceEqDiff, Nat.reduceBEq, Nat.reduceLT, Nat.reduceLeDiff, Nat.reduceAdd, Nat.reduceSub, reduceIte, evRE, retVC, cellV', evR, nfz, nfzs, nfzss, List.contains_nil, List.contains_cons, Bool.or_false, or_true]
          refine ⟨⟨1, s.extract a (wl s a), 0, a⟩, 3, rfl, ?_⟩
          unfold tokR tokN
          rw [if_neg hsg, if_neg (by rw [hal]; simp), if_pos e1, if_neg (by rw [e5]; simp), if_pos (by simpa using e7)]
      · simp only [e5, Tok.z, EV, Nat.reduceEqDiff, Nat.reduceBEq, Nat.reduceLT, Nat.reduceLeDiff, Nat.reduceAdd, Nat.reduceSub, reduceIte]
        refine ⟨(2, 0), ?_, rfl⟩
        unfold tokN
        rw [if_neg hsg, if_neg (by rw [hal]; simp), if_pos e1, if_pos e5]
  rintro ⟨k, v⟩ q
  simp only at q
  simp only [Tok.z, EV, Nat.reduceEqDiff, Nat.reduceBEq, Nat.reduceLT, Nat.reduceLeDiff, Nat.reduceAdd, Nat.reduceSub, reduceIte]
  simp only [pbq, evRM, EV, Nat.reduceEqDiff, Nat.reduceBEq, Nat.reduceLT, Nat.reduceLeDiff, Nat.reduceAdd, Nat.reduceSub, reduceIte, evRE, retVC, cellV', evR, nfz, nfzs, nfzss, List.contains_nil, List.contains_cons, Bool.or_false, or_true]
  refine ⟨⟨k, s.extract a e, v, a⟩, 0, rfl, ?_⟩
  unfold tokR
  rw [q]
  exact ⟨rfl, rfl⟩
def rtV (R : List Tok ⊕ (Int × Int)) : List AV := [.usl 74 4 ((rtL R).map Tok.z), .v (.int .i64 (rtC R)), .v (.int .i64 (rtA R)), .v (.bool (rtB R))]
def m15 : MC :=
 (.seq (.reg [Xb 2 (.asg (.nils 74 4)), Xb 3 (.asg (.i 0)), Xb 4 (.asg (.i 0)), Xb 5 (.asg .fb)]) (.seq (.seq (.reg [Xm 11 0, Xq 12 (.len true (.t 11)), Xq 13 (.bin false .gtr (.t 12) (.i 1200))]) (.cond (.t 13) (.seq (.reg [Xb 2 (.asg (.nils 74 4)), Xb 3 (.asg (.i 1)), Xb 4 (.asg (.i 0)), Xb 5 (.asg .fb)]) .ret) .skip)) (.seq (.reg [Xb 6 (.asg (.nils 74 4))]) (.seq (.seq (.reg [Xb 7 (.asg (.i
 0))]) (.block 0 (.loop [0, 6, 7, 63] (.seq (.seq (.reg [Xm 14 7, Xm 15 0, Xq 16 (.len true (.t 15)), Xq 17 (.bin false .lss (.t 14) (.t 16))]) (.cond (.t 17) .skip (.exit 0))) (.block 1 (.seq (.seq (.reg [Xm 18 0, Xm 19 7, Xq 20 (.idx (.t 18) (.t 19)), Xq 21 (.bin false .eql (.t 20) (.c (.int .u8 32))), Xm 22 21, Xu 23 22 (.mov (.t 0)), Xu 24 22 (.mov (.t 7)), Xu 25 22 (.idx (.t 23) (.t 24)), Xu
 26 22 (.bin false .eql (.t 25) (.c (.int .u8 10))), Xq 27 (.pick (.t 22) .tb (.t 26))]) (.cond (.t 27) (.seq (.reg [Xm 28 7, Xq 29 (.bin false .add (.t 28) (.i 1)), Xa 7 29]) (.exit 1)) .skip)) (.seq (.seq (.reg [Xm 30 7, Xq 31 (.bin false .add (.t 30) (.i 1)), Xm 32 0, Xq 33 (.len true (.t 32)), Xq 34 (.bin false .lss (.t 31) (.t 33)), Xm 35 34, Xt 36 35 (.mov (.t 0)), Xt 37 35 (.mov (.t 7)), Xt
 38 35 (.mov (.t 7)), Xt 39 35 (.bin false .add (.t 38) (.i 2)), Xt 40 35 (.slc true 1 (.t 36) (some (.t 37)) (some (.t 39))), Xt 41 35 (.bin false .eql (.t 40) (.z #[40, 42])), Xq 42 (.pick (.t 35) (.t 41) .fb)]) (.cond (.t 42) (.seq (.reg [Xm 43 0, Xm 44 7, Xb 45 (.call (.fn 29) false [.lend (.t 43), .lend (.t 44)]), Xa 8 45]) (.seq (.seq (.reg [Xm 46 8, Xq 47 (.bin false .lss (.t 46) (.i 0))])
 (.cond (.t 47) (.seq (.reg [Xm 48 7, Xb 2 (.asg (.nils 74 4)), Xb 3 (.asg (.i 2)), Xa 4 48, Xb 5 (.asg .fb)]) .ret) .skip)) (.seq (.reg [Xm 49 8, Xa 7 49]) (.exit 1)))) .skip)) (.seq (.reg [Xm 51 0, Xm 52 7, Xb 53 (.call (.fn 30) false [.lend (.t 51), .lend (.t 52)]), Xm 50 53, Xq 54 (.ext 50 0), Xq 55 (.ext 50 1), Xb 9 (.alloc 74 [.i, .z, .i, .i]), Xz (.store 4 (.t 9) (.t 54)), Xa 10 55]) (.seq
 (.seq (.reg [Xm 56 10, Xq 57 (.bin false .gtr (.t 56) (.i 0))]) (.cond (.t 57) (.seq (.reg [Xm 58 10, Xm 59 7, Xb 2 (.asg (.nils 74 4)), Xa 3 58, Xa 4 59, Xb 5 (.asg .fb)]) .ret) .skip)) (.seq (.reg [Xm 60 6, XL 61 4 9, Xb 62 (.bsl 74 4 [.t 61]), Xb 63 (.app true 74 4 40 (.t 60) (.t 62)), Xa 6 63]) (.reg [Xm 64 7, Xf 65 1 9, Xl 66 1 65, Xq 67 (.len true (.t 66)), Xq 68 (.bin false .add (.t 64) (.t
 67)), Xa 7 68]))))))))))) (.seq (.seq (.reg [Xm 69 6, Xn 70 69, Xq 71 (.bin false .gtr (.t 70) (.i 300))]) (.cond (.t 71) (.seq (.reg [Xb 2 (.asg (.nils 74 4)), Xb 3 (.asg (.i 5)), Xb 4 (.asg (.i 0)), Xb 5 (.asg .fb)]) .ret) .skip)) (.seq (.reg [Xm 72 6, Xa 2 72, Xb 3 (.asg (.i 0)), Xb 4 (.asg (.i 0)), Xb 5 (.asg .tb)]) .ret))))))
set_option maxHeartbeats 2000000 in
set_option maxRecDepth 100000 in
theorem d15 (s : ByteArray) (hs : (s.size : Int) ≤ 9223372036854775807) : Does Go.Proofs.Tryz.prog 15 [.v (.string s)] false (.tup (rtV (readN s))) [.dead] := by
  refine does_intro (mc := m15) (N := 73) (rs := [2, 3, 4, 5]) (fx := []) 1 rfl (by decide +kernel) ?_
  simp only [m15, EV, Nat.reduceEqDiff, Nat.reduceBEq, Nat.reduceLT, Nat.reduceLeDiff, Nat.reduceAdd, Nat.reduceSub, reduceIte]
  rcases f0 : decide ((1200 : Int) < s.size) with _ | _
  rotate_left
  · have h0 : readN s = .inr (1, 0) := by unfold readN; rw [if_pos (by have : (1200 : Int) < s.size := by simpa using f0
                                                                       omega)]
    simp only [f0, EV, Nat.reduceEqDiff, Nat.reduceBEq, Nat.reduceLT, Nat.reduceLeDiff, Nat.reduceAdd, Nat.reduceSub, reduceIte]
    simp only [h0, rtV, rtL, rtC, rtA, rtB, List.map_nil, EV, Nat.reduceEqDiff, Nat.reduceBEq, Nat.reduceLT, Nat.reduceLeDiff, Nat.reduceAdd, Nat.reduceSub, reduceIte, evRE, retVC, cellV', evR, nfz, nfzs, nfzss, List.contains_nil, List.contains_cons, Bool.or_false, or_true]
  have hs2 : (s.size : Int) ≤ 1200 := by have : ¬ (1200 : Int) < s.size := by simpa using f0
                                         omega
  have h0 : readN s = rdT s 0 [] := by unfold readN; rw [if_neg (by omega)]
  rw [h0]
  generalize hR : rdT s 0 [] = R
  simp only [f0, EV, Nat.reduceEqDiff, Nat.reduceBEq, Nat.reduceLT, Nat.reduceLeDiff, Nat.reduceAdd, Nat.reduceSub, reduceIte]
  refine awp_loop (fun p : Nat × List Tok => p.1 ≤ s.size ∧ p.2.length ≤ p.1 ∧ R = rdT s p.1 p.2) (fun p => stl [(0, .v (.string s)), (6, .usl 74 4 (p.2.map Tok.z)), (7, .v (.int .i64 (p.1 : Int))), (63, .dead)]) (fun p => s.size - p.1) (0, []) ⟨Nat.zero_le _, by simp, hR.symm⟩ ?_ ?_
  · simp only [EV, Nat.reduceEqDiff, Nat.reduceBEq, Nat.reduceLT, Nat.reduceLeDiff, Nat.reduceAdd, Nat.reduceSub, reduceIte]
    rfl
  rintro ⟨i, out⟩ ⟨g1, g2, g3⟩
  simp only at g1 g2 g3
  have i0 : (0 : Int) ≤ (i : Int) := by omega
  have htl : List.take out.length (out.map Tok.z) = out.map Tok.z := List.take_of_length_le (by simp)
  simp only [EV, Nat.reduceEqDiff, Nat.reduceBEq, Nat.reduceLT, Nat.reduceLeDiff, Nat.reduceAdd, Nat.reduceSub, reduceIte]
  rcases f1 : decide ((i : Int) < s.size) with _ | _
  · have hi : ¬ i < s.size := by have : ¬ (i : Int) < s.size := by simpa using f1
                                 omega
    rw [rdT_end hi] at g3
    simp only [f1, htl, Tok.frz, EV, Nat.reduceEqDiff, Nat.reduceBEq, Nat.reduceLT, Nat.reduceLeDiff, Nat.reduceAdd, Nat.reduceSub, reduceIte]
    rcases f2 : decide ((300 : Int) < out.length) with _ | _
    · rw [if_neg (by have : ¬ (300 : Int) < out.length := by simpa using f2
                     omega)] at g3
      simp only [f2, EV, Nat.reduceEqDiff, Nat.reduceBEq, Nat.reduceLT, Nat.reduceLeDiff, Nat.reduceAdd, Nat.reduceSub, reduceIte]
      simp only [g3, rtV, rtL, rtC, rtA, rtB, Tok.nfz, EV, Nat.reduceEqDiff, Nat.reduceBEq, Nat.reduceLT, Nat.reduceLeDiff, Nat.reduceAdd, Nat.reduceSub, reduceIte, evRE, retVC, cellV', evR, nfz, nfzs, nfzss, List.contains_nil, List.contains_cons, Bool.or_false, or_true]
    · rw [if_pos (by have : (300 : Int) < out.length := by simpa using f2
                     omega)] at g3
      simp only [f2, EV, Nat.reduceEqDiff, Nat.reduceBEq, Nat.reduceLT, Nat.reduceLeDiff, Nat.reduceAdd, Nat.reduceSub, reduceIte]
      simp only [g3, rtV, rtL, rtC, rtA, rtB, List.map_nil, EV, Nat.reduceEqDiff, Nat.reduceBEq, Nat.reduceLT, Nat.reduceLeDiff, Nat.reduceAdd, Nat.reduceSub, reduceIte, evRE, retVC, cellV', evR, nfz, nfzs, nfzss, List.contains_nil, List.contains_cons, Bool.or_false, or_true]
  have hi : i < s.size := by have : (i : Int) < s.size := by simpa using f1
                             omega
  have hiI : (i : Int) < s.size := by omega
  have w1 := w64 ((i : Int) + 1) (by omega)
  have w2 := w64 ((i : Int) + 2) (by omega)
  have h00 : decide ((0 : Int) < 0) = false := by decide
  have hm1 : decide ((-1 : Int) < 0) = true := by decide
  simp only [f1, i0, hiI, EV, Nat.reduceEqDiff, Nat.reduceBEq, Nat.reduceLT, Nat.reduceLeDiff, Nat.reduceAdd, Nat.reduceSub, reduceIte]
  rcases b1 : (sAt s (i : Int) == 32) with _ | _
  rotate_left
  · have hbl : blank s i = true := by simp [blank, b1]
    rw [rdT_blank hi hbl] at g3
    simp only [b1, w1, EV, Nat.reduceEqDiff, Nat.reduceBEq, Nat.reduceLT, Nat.reduceLeDiff, Nat.reduceAdd, Nat.reduceSub, reduceIte]
    exact ⟨(i + 1, out), ⟨by simp only; omega, by simp only; omega, g3⟩, by simp only; omega, rfl⟩
  rcases b2 : (sAt s (i : Int) == 10) with _ | _
  rotate_left
  · have hbl : blank s i = true := by simp [blank, b2]
    rw [rdT_blank hi hbl] at g3
    simp only [b1, b2, i0, hiI, w1, EV, Nat.reduceEqDiff, Nat.reduceBEq, Nat.reduceLT, Nat.reduceLeDiff, Nat.reduceAdd, Nat.reduceSub, reduceIte]
    exact ⟨(i + 1, out), ⟨by simp only; omega, by simp only; omega, g3⟩, by simp only; omega, rfl⟩
  have hbl : blank s i = false := by simp [blank, b1, b2]
  simp only [b1, b2, i0, hiI, w1, EV, Nat.reduceEqDiff, Nat.reduceBEq, Nat.reduceLT, Nat.reduceLeDiff, Nat.reduceAdd, Nat.reduceSub, reduceIte]
  rcases o1 : decide ((i : Int) + 1 < s.size) with _ | _
  · have o1' : ¬ i + 1 < s.size := by have : ¬ (i : Int) + 1 < s.size := by simpa using o1
                                      omega
    simp only [o1, w1, EV, Nat.reduceEqDiff, Nat.reduceBEq, Nat.reduceLT, Nat.reduceLeDiff, Nat.reduceAdd, Nat.reduceSub, reduceIte]
    have hno : ¬ (i + 1 < s.size ∧ isOpen s i = true) := fun h => o1' h.1
    refine callE_i (d30 s i hi hs2) (fun r o h => ⟨h.2, h.1⟩) ?_
    rintro _ ⟨t, c, rfl, ht⟩
    unfold tokR at ht
    rcases hq : tokN s i with t' | k
    · rw [hq] at ht
      obtain ⟨rfl, rfl⟩ := ht
      obtain ⟨q1, q2, _⟩ := tokN_in hi hq
      rw [rdT_tok hi hbl hno hq] at g3
      have ws := w64 ((i : Int) + (t.text.size : Int)) (by omega)
      simp only [Tok.z, h00, htl, ws, EV, Nat.reduceEqDiff, Nat.reduceBEq, Nat.reduceLT, Nat.reduceLeDiff, Nat.reduceAdd, Nat.reduceSub, reduceIte]
      repeat (refine And.intro (by omega) ?_)
      refine ⟨(i + t.text.size, out ++ [t]), ⟨by simp only; omega, by simp only [List.length_append, List.length_cons, List.length_nil]; omega, g3⟩, by simp only; omega, ?_⟩
      simp only [List.map_append, List.map_cons, List.map_nil, Tok.z]
      first | rfl | skip
    · rw [hq] at ht
      simp only at ht
      subst ht
      rw [rdT_bad hi hbl hno hq] at g3
      have hk := tokN_bad hq
      have hk2 : decide ((0 : Int) < c) = true := by simp; omega
      simp only [Tok.z, hk2, EV, Nat.reduceEqDiff, Nat.reduceBEq, Nat.reduceLT, Nat.reduceLeDiff, Nat.reduceAdd, Nat.reduceSub, reduceIte]
      simp only [g3, rtV, rtL, rtC, rtA, rtB, List.map_nil, EV, Nat.reduceEqDiff, Nat.reduceBEq, Nat.reduceLT, Nat.reduceLeDiff, Nat.reduceAdd, Nat.reduceSub, reduceIte, evRE, retVC, cellV', evR, nfz, nfzs, nfzss, List.contains_nil, List.contains_cons, Bool.or_false, or_true]
  · have o1' : i + 1 < s.size := by have : (i : Int) + 1 < s.size := by simpa using o1
                                    omega
    have i3 : (i : Int) ≤ (i : Int) + 2 := by omega
    have i4 : (i : Int) + 2 ≤ (s.size : Int) := by omega
    have t0 : ((i : Nat) : Int).toNat = i := rfl
    have t2 : ((i : Nat) + 2 : Int).toNat = i + 2 := rfl
    have eo := open_eq s o1'
    simp only [o1, i0, w2, i3, i4, t0, t2, eo, EV, Nat.reduceEqDiff, Nat.reduceBEq, Nat.reduceLT, Nat.reduceLeDiff, Nat.reduceAdd, Nat.reduceSub, reduceIte]
    rcases o2 : isOpen s i with _ | _
    · simp only [o2, EV, Nat.reduceEqDiff, Nat.reduceBEq, Nat.reduceLT, Nat.reduceLeDiff, Nat.reduceAdd, Nat.reduceSub, reduceIte]
      have hno : ¬ (i + 1 < s.size ∧ isOpen s i = true) := fun h => by rw [o2] at h; cases h.2
      refine callE_i (d30 s i hi hs2) (fun r o h => ⟨h.2, h.1⟩) ?_
      rintro _ ⟨t, c, rfl, ht⟩
      unfold tokR at ht
      rcases hq : tokN s i with t' | k
      · rw [hq] at ht
        obtain ⟨rfl, rfl⟩ := ht
        obtain ⟨q1, q2, _⟩ := tokN_in hi hq
        rw [rdT_tok hi hbl hno hq] at g3
        have ws := w64 ((i : Int) + (t.text.size : Int)) (by omega)
        simp only [Tok.z, h00, htl, ws, EV, Nat.reduceEqDiff, Nat.reduceBEq, Nat.reduceLT, Nat.reduceLeDiff, Nat.reduceAdd, Nat.reduceSub, reduceIte]
        repeat (refine And.intro (by omega) ?_)
        refine ⟨(i + t.text.size, out ++ [t]), ⟨by simp only; omega, by simp only [List.length_append, List.length_cons, List.length_nil]; omega, g3⟩, by simp only; omega, ?_⟩
        simp only [List.map_append, List.map_cons, List.map_nil, Tok.z]
        first | rfl | skip
      · rw [hq] at ht
        simp only at ht
        subst ht
        rw [rdT_bad hi hbl hno hq] at g3
        have hk := tokN_bad hq
        have hk2 : decide ((0 : Int) < c) = true := by simp; omega
        simp only [Tok.z, hk2, EV, Nat.reduceEqDiff, Nat.reduceBEq, Nat.reduceLT, Nat.reduceLeDiff, Nat.reduceAdd, Nat.reduceSub, reduceIte]
        simp only [g3, rtV, rtL, rtC, rtA, rtB, List.map_nil, EV, Nat.reduceEqDiff, Nat.reduceBEq, Nat.reduceLT, Nat.reduceLeDiff, Nat.reduceAdd, Nat.reduceSub, reduceIte, evRE, retVC, cellV', evR, nfz, nfzs, nfzss, List.contains_nil, List.contains_cons, Bool.or_false, or_true]
    · simp only [o2, EV, Nat.reduceEqDiff, Nat.reduceBEq, Nat.reduceLT, Nat.reduceLeDiff, Nat.reduceAdd, Nat.reduceSub, reduceIte]
      refine callK_i (d29 s i o1' hs2 o2) ?_
      rcases hr : rem s i 0 with _ | e
      · rw [rdT_none hi hbl ⟨o1', o2⟩ hr] at g3
        simp only [EV, Nat.reduceEqDiff, Nat.reduceBEq, Nat.reduceLT, Nat.reduceLeDiff, Nat.reduceAdd, Nat.reduceSub, reduceIte]
        refine cK_cut (fun _ => ?_) (fun h => absurd h (by decide))
        simp only [EV, Nat.reduceEqDiff, Nat.reduceBEq, Nat.reduceLT, Nat.reduceLeDiff, Nat.reduceAdd, Nat.reduceSub, reduceIte]
        simp only [g3, rtV, rtL, rtC, rtA, rtB, List.map_nil, EV, Nat.reduceEqDiff, Nat.reduceBEq, Nat.reduceLT, Nat.reduceLeDiff, Nat.reduceAdd, Nat.reduceSub, reduceIte, evRE, retVC, cellV', evR, nfz, nfzs, nfzss, List.contains_nil, List.contains_cons, Bool.or_false, or_true]
      · rw [rdT_some hi hbl ⟨o1', o2⟩ hr] at g3
        have he := rem_in s _ _ _ _ (Nat.le_refl _) hr
        have he2 : decide ((e : Int) < 0) = false := by simp
        simp only [he2, EV, Nat.reduceEqDiff, Nat.reduceBEq, Nat.reduceLT, Nat.reduceLeDiff, Nat.reduceAdd, Nat.reduceSub, reduceIte]
        exact ⟨(e, out), ⟨he.2, by simp only; omega, g3⟩, by simp only; omega, rfl⟩
end Go.AM
namespace Go.AM
def hexD (c : Nat) : Nat := if c ≤ 57 then c - 48 else c - 55
def hexC (c : UInt8) : Prop := (48 ≤ c.toNat ∧ c.toNat ≤ 57) ∨ (65 ≤ c.toNat ∧ c.toNat ≤ 70)
def hexF : Nat → List UInt8 → Nat
  | n, [] => n
  | n, c :: l => hexF (n * 16 + hexD c.toNat) l
theorem hexD_lt {c : UInt8} (h : hexC c) : hexD c.toNat < 16 := by
  unfold hexD
  rcases h with h | h <;> split <;> omega
theorem hexF_bound : ∀ (l : List UInt8) (n k : Nat), (∀ c ∈ l, hexC c) → n < 16 ^ k → hexF n l < 16 ^ (k + l.length)
  | [], n, k, _, hn => hn
  | c :: l, n, k, h, hn => by
    have h1 := hexD_lt (h c (by simp))
    have h2 := hexF_bound l (n * 16 + hexD c.toNat) (k + 1) (fun x hx => h x (by simp [hx])) (by rw [Nat.pow_succ]; omega)
    rw [hexF, List.length_cons]
    have : k + 1 + l.length = k + (l.length + 1) := by omega
    rw [← this]; exact h2
theorem hexF_lt (l : List UInt8) (h : ∀ c ∈ l, hexC c) : hexF 0 l < 16 ^ l.length := by
  have := hexF_bound l 0 0 h (by decide)
  simpa using this
theorem or_32 : ∀ c : Nat, 65 ≤ c → c ≤ 70 → bits .or .u8 (c : Int) 32 = (c : Int) + 32 := by
  intro c h0 h1
  have : c = 65 ∨ c = 66 ∨ c = 67 ∨ c = 68 ∨ c = 69 ∨ c = 70 := by omega
  rcases this with rfl | rfl | rfl | rfl | rfl | rfl <;> decide
end Go.AM
namespace Go.Proofs
open Go.Shelf Go.RowKit Go.AM
variable {P : Program} {ρ : Ren}
set_option maxHeartbeats 32000000 in
set_option maxRecDepth 100000 in
theorem Any.parseUint_hex (L : Lays.n287 P ρ) (t : ByteArray) (hne : t.size ≠ 0) (h7 : t.size ≤ 7) (hx : ∀ c ∈ t.data.toList, hexC c) (w : World) :
    Calls P (ρ.f 287) #[.string t, .int .i64 16, .int .i64 64] w fun e w' => e = .returned (.tuple #[.int .u64 (hexF 0 t.data.toList : Nat), .nilIface]) ∧ w' = Lib.bytesWorld w (ρ.t 5) t := by
  have mixed := L.mixed
  have t9 := L.t9; have a9 := L.a9; have z9 := L.z9; have v9 := L.v9
  have t3 := L.t3; have a3 := L.a3; have z3 := L.z3; have v3 := L.v3
  have t53 := L.t53; have a53 := L.a53; have z53 := L.z53; have v53 := L.v53
  have t75 := L.t75; have a75 := L.a75; have z75 := L.z75; have v75 := L.v75
  have t4 := L.t4; have a4 := L.a4; have z4 := L.z4; have v4 := L.v4
  have t167 := L.t167; have a167 := L.a167; have z167 := L.z167; have v167 := L.v167
  have t5 := L.t5; have a5 := L.a5; have z5 := L.z5; have v5 := L.v5
  have t46 := L.t46; have a46 := L.a46; have z46 := L.z46; have v46 := L.v46
  have t37 := L.t37; have a37 := L.a37; have z37 := L.z37; have v37 := L.v37
  have t0 := L.t0; have a0 := L.a0; have z0 := L.z0; have v0 := L.v0
  have e321 : ∀ args w, (callFunc (ρ.f 321) args).run P w = .ok (.enter (ρ.f 321) args) w := enters_of L.f321 (by kernel_rfl) rfl
  have hemp : t.toList.isEmpty = false := by
    rw [← decide_eq_emptyBytes]
    exact decide_eq_false (fun h => hne (by rw [h]; rfl))
  have hcv := Lib.run_convert_string_bytes (P := P) w (ρ.t 9) (ρ.t 37) (ρ.t 5) t (u := .string) L.t9 L.t37 L.t5
  have hB : ∀ j, j < t.size → (Lib.bytesWorld w (ρ.t 5) t).cell? ⟨w.heap.size, j, none⟩ = some (.int .u8 (t.data.toList.getD j 0).toNat) := fun j hj => Lib.bytesWorld_cell w (ρ.t 5) t j hj
  obtain ⟨W1, hW1⟩ : ∃ W1, W1 = Lib.bytesWorld w (ρ.t 5) t := ⟨_, rfl⟩
  rw [← hW1] at hcv hB ⊢
  clear hW1
  obtain ⟨bs, hL⟩ : ∃ bs, bs = t.data.toList := ⟨_, rfl⟩
  have hLn : bs.length = t.size := by rw [hL, Lib.size_eq]
  rw [← hL] at hB hx ⊢
  clear hL
  have HX : Aside (∀ c ∈ bs, hexC c) := hx
  clear hx
  have hmv : IntKind.u64.wrap (IntKind.u64.wrap 18446744073709551616 - 1) = 18446744073709551615 := by
    rw [IntKind.wrap_u64, IntKind.wrap_u64]
    decide
  go_enter L.f287, Body.n287_ntmps ρ
  go_wp2
  go_loop [12, 13, 101] (fun vu vn vi => ∃ (k acc : Nat) (a : Int), vu = .bool false ∧ vn = .int .u64 a ∧ vi = .int .i64 k ∧ k ≤ t.size ∧ Hid (a = (acc : Int) ∧ acc < 16 ^ k ∧ hexF 0 bs = hexF acc (bs.drop k)))
    (fun _ _ vi => t.size - (intOf vi).toNat)
  case atStart => exact ⟨0, 0, 0, rfl, rfl, rfl, by omega, rfl, by decide, rfl⟩
  case round =>
    obtain ⟨k, acc, a, rfl, rfl, rfl, hk, hh⟩ := hrel
    obtain ⟨ha, hacc, hdec⟩ := hh.out
    clear hh
    by_cases hkn : k < t.size
    · have hc := hB k hkn
      have hdrop : bs.drop k = bs[k]'(by omega) :: bs.drop (k + 1) := List.drop_eq_getElem_cons (by omega)
      have hget : bs.getD k 0 = bs[k]'(by omega) := by simp [List.getD, List.getElem?_eq_getElem (show k < bs.length by omega)]
      have hxk := HX.out (bs[k]'(by omega)) (List.getElem_mem (by omega))
      have hp6 : 16 ^ k ≤ 16 ^ 6 := Nat.pow_le_pow_right (by decide) (by omega)
      have hp7 : 16 ^ (k + 1) = 16 ^ k * 16 := Nat.pow_succ ..
      have hp8 : (16 : Nat) ^ 6 = 16777216 := by decide
      have a0 : 0 ≤ a := by omega
      have a1 : a < 16777216 := by omega
      rw [hdrop] at hdec
      rw [hget] at hc
      generalize bs[k]'(by omega) = c at hc hdec hxk
      have hc256 : c.toNat < 256 := c.toNat_lt
      clear hB hdrop hget
      rcases hxk with ⟨hd0, hd1⟩ | ⟨hd0, hd1⟩
      · have hD : hexD c.toNat = c.toNat - 48 := by unfold hexD; rw [if_pos hd1]
        have HN : Hid (a * 16 + ((c.toNat : Int) - 48) = ((acc * 16 + hexD c.toNat : Nat) : Int) ∧ acc * 16 + hexD c.toNat < 16 ^ (k + 1) ∧ hexF 0 bs = hexF (acc * 16 + hexD c.toNat) (bs.drop (k + 1))) := Lib.hid ⟨by omega, by omega, hdec⟩
        clear hacc hdec ha hp6 hp7 hp8 hD
        go_wp2
        refine ⟨⟨k + 1, acc * 16 + hexD c.toNat, a * 16 + ((c.toNat : Int) - 48), rfl, (by first | rfl | (congr 1; omega)), (by first | rfl | (congr 1; omega)), by omega, HN⟩, by simp [intOf]; omega⟩
      · have hD : hexD c.toNat = c.toNat - 55 := by unfold hexD; rw [if_neg (by omega)]
        have HN : Hid (a * 16 + ((c.toNat : Int) - 55) = ((acc * 16 + hexD c.toNat : Nat) : Int) ∧ acc * 16 + hexD c.toNat < 16 ^ (k + 1) ∧ hexF 0 bs = hexF (acc * 16 + hexD c.toNat) (bs.drop (k + 1))) := Lib.hid ⟨by omega, by omega, hdec⟩
        have ho := or_32 c.toNat hd0 hd1
        clear hacc hdec ha hp6 hp7 hp8 hD
        go_wp2_with (go_at_fn (ρ.f 321); refine (Any.internal_strconv_lower { L with } _ _).mono ?_; rw [ho]; rintro e w' ⟨rfl, rfl⟩)
        refine ⟨⟨k + 1, acc * 16 + hexD c.toNat, a * 16 + ((c.toNat : Int) - 55), rfl, (by first | rfl | (congr 1; omega)), (by first | rfl | (congr 1; omega)), by omega, HN⟩, by simp [intOf]; omega⟩
    · have hkk : k = t.size := by omega
      subst hkk
      have hF : hexF acc (bs.drop t.size) = acc := by rw [List.drop_eq_nil_of_le (by omega)]; rfl
      rw [hF] at hdec
      subst ha
      have hb : (acc : Int) < 268435456 := by
        have hp6 : 16 ^ t.size ≤ 16 ^ 7 := Nat.pow_le_pow_right (by decide) h7
        have hp8 : (16 : Nat) ^ 7 = 268435456 := by decide
        omega
      have HD : Hid (hexF 0 bs = acc) := Lib.hid hdec
      clear hacc hF hdec
      go_wp2
      go_ret2
      exact ⟨by rw [HD.out]; rfl, rfl⟩
set_option maxHeartbeats 32000000 in
set_option maxRecDepth 100000 in
theorem Any.parseInt_hex (L : LaysC.n247 P ρ) (s : ByteArray) (hne : s.size ≠ 0) (h7 : s.size ≤ 7) (hx : ∀ c ∈ s.data.toList, hexC c) (w : World) :
    Calls P (ρ.f 247) #[.string s, .int .i64 16, .int .i64 64] w fun e w' => e = .returned (.tuple #[.int .i64 (hexF 0 s.data.toList : Nat), .nilIface]) ∧ w' = Lib.bytesWorld w (ρ.t 5) s := by
  have mixed := L.mixed
  have t9 := L.t9; have a9 := L.a9; have z9 := L.z9; have v9 := L.v9
  have t3 := L.t3; have a3 := L.a3; have z3 := L.z3; have v3 := L.v3
  have t2 := L.t2; have a2 := L.a2; have z2 := L.z2; have v2 := L.v2
  have t75 := L.t75; have a75 := L.a75; have z75 := L.z75; have v75 := L.v75
  have t4 := L.t4; have a4 := L.a4; have z4 := L.z4; have v4 := L.v4
  have t167 := L.t167; have a167 := L.a167; have z167 := L.z167; have v167 := L.v167
  have t5 := L.t5; have a5 := L.a5; have z5 := L.z5; have v5 := L.v5
  have t53 := L.t53; have a53 := L.a53; have z53 := L.z53; have v53 := L.v53
  have t175 := L.t175; have a175 := L.a175; have z175 := L.z175; have v175 := L.v175
  have t46 := L.t46; have a46 := L.a46; have z46 := L.z46; have v46 := L.v46
  have e287 : ∀ args w, (callFunc (ρ.f 287) args).run P w = .ok (.enter (ρ.f 287) args) w := enters_of L.f287 (by kernel_rfl) rfl
  have hemp : s.toList.isEmpty = false := by
    rw [← decide_eq_emptyBytes]
    exact decide_eq_false (fun h => hne (by rw [h]; rfl))
  have hpos : 0 < s.size := by omega
  obtain ⟨c0, r, hL⟩ : ∃ c0 r, s.data.toList = c0 :: r := by
    cases h : s.data.toList with
    | nil => exact absurd (by rw [Lib.size_eq, h]; rfl) hne
    | cons c0 r => exact ⟨c0, r, rfl⟩
  have hs0 : s[0]'hpos = c0 := by have := Lib.getD_at s 0 hpos; rw [hL] at this; exact this
  have hU := Any.parseUint_hex { L with } s hne h7 hx w
  have hc0 := hx c0 (by rw [hL]; simp)
  have hlt := hexF_lt s.data.toList hx
  rw [Lib.size_eq] at h7
  have hp7 : 16 ^ s.data.toList.length ≤ 16 ^ 7 := Nat.pow_le_pow_right (by decide) h7
  have hp8 : (16 : Nat) ^ 7 = 268435456 := by decide
  have iin : ((hexF 0 s.data.toList : Nat) : Int) < 268435456 := by omega
  have i0 : (0 : Int) ≤ ((hexF 0 s.data.toList : Nat) : Int) := by omega
  generalize ((hexF 0 s.data.toList : Nat) : Int) = a at hU iin i0 ⊢
  have n43 : ¬ c0 = 43 := by rintro rfl; rcases hc0 with h | h <;> simp at h
  have n45 : ¬ c0 = 45 := by rintro rfl; rcases hc0 with h | h <;> simp at h
  have e43 : (43 : UInt8).toNat = 43 := rfl
  have e45 : (45 : UInt8).toNat = 45 := rfl
  have n43z : ¬ (c0.toNat : Int) = 43 := fun h => n43 (UInt8.toNat_inj.1 (by omega))
  have n45z : ¬ (c0.toNat : Int) = 45 := fun h => n45 (UInt8.toNat_inj.1 (by omega))
  clear n43 n45 e43 e45
  clear hx hL hlt h7 hp7 hp8 hc0
  go_enter L.f247, Body.n247_ntmps ρ
  go_wp2_with (go_at_fn (ρ.f 287); refine hU.mono ?_; rintro e w1 ⟨rfl, rfl⟩)
  go_wp2
  go_ret2
  exact ⟨rfl, rfl⟩
set_option maxHeartbeats 8000000 in
set_option maxRecDepth 100000 in
theorem Any.parseInt_hex_pub (L : LaysC.n174 P ρ) (s : ByteArray) (hne : s.size ≠ 0) (h7 : s.size ≤ 7) (hx : ∀ c ∈ s.data.toList, hexC c) (w : World) :
    Calls P (ρ.f 174) #[.string s, .int .i64 16, .int .i64 64] w fun e w' => e = .returned (.tuple #[.int .i64 (hexF 0 s.data.toList : Nat), .nilIface]) ∧ w' = Lib.bytesWorld w (ρ.t 5) s := by
  have mixed := L.mixed
  have t9 := L.t9; have a9 := L.a9; have z9 := L.z9; have v9 := L.v9
  have t3 := L.t3; have a3 := L.a3; have z3 := L.z3; have v3 := L.v3
  have t2 := L.t2; have a2 := L.a2; have z2 := L.z2; have v2 := L.v2
  have t75 := L.t75; have a75 := L.a75; have z75 := L.z75; have v75 := L.v75
  have t85 := L.t85; have a85 := L.a85; have z85 := L.z85; have v85 := L.v85
  have t4 := L.t4; have a4 := L.a4; have z4 := L.z4; have v4 := L.v4
  have e247 : ∀ args w, (callFunc (ρ.f 247) args).run P w = .ok (.enter (ρ.f 247) args) w := enters_of L.f247 (by kernel_rfl) rfl
  have hI := Any.parseInt_hex { L with } s hne h7 hx w
  generalize ((hexF 0 s.data.toList : Nat) : Int) = v at hI ⊢
  clear hx
  go_enter L.f174, Body.n174_ntmps ρ
  go_wp2_with (go_at_fn (ρ.f 247); refine hI.mono ?_; rintro e w1 ⟨rfl, rfl⟩)
  go_wp2
  go_ret2
  exact ⟨rfl, rfl⟩
end Go.Proofs
namespace Go.Proofs
open Go.Shelf Go.RowKit
shelf_lay Lays.n137 Nm 137 at Tryz as Tryz.laysIndexByte
shelf_lay Lays.n160 Nm 160 at Tryz as Tryz.laysTrim
shelf_lay Lays.n172 Nm 172 at Tryz as Tryz.laysAtoi
shelf_lay LaysC.n174 Nm 174 at Tryz as Tryz.laysParseInt
theorem Tryz.trim116 : (Tryz.prog.info? (Tryz.laysTrim_ren.t 116)).map (fun i => (i.zero, i.size)) = some (some (.agg (Array.replicate 256 (.bool false))), 256) := by kernel_rfl
end Go.Proofs
namespace Go.AM
set_option linter.unusedVariables false
set_option linter.unusedSimpArgs false
open Go.RowKit
theorem below_ext {w w' : World} (bel : Below w.heap.size w w') : Ext w w' [] := ⟨bel.os, bel.tape, bel.output, bel.size, fun b hb _ => bel.block b hb⟩
theorem below_bytes (w : World) (e : TypeId) (s : ByteArray) : Ext w (Lib.bytesWorld w e s) [] :=
  ⟨rfl, rfl, rfl, by rw [Lib.bytesWorld_size]; omega, fun b hb _ => Lib.bytesWorld_at_old w e s b hb⟩
theorem d56 (s : ByteArray) (c : Int) : Does Go.Proofs.Tryz.prog 56 [.v (.string s), .v (.int .u8 c)] false (.v (.int .i64 (Lib.indexByte s.data.toList c.toNat.toUInt8))) [.dead, .dead] := by
  refine ⟨by decide +kernel, ?_⟩
  intro w Fz xs os hrep hos hfz hlt
  simp only [RepVs, RepV, RepC] at hrep
  obtain ⟨y, ys, p1, p2, rfl, rfl, ⟨rfl, _, rfl⟩, z, zs, p3, p4, rfl, rfl, ⟨rfl, _, rfl⟩, rfl, rfl⟩ := hrep
  refine (Go.Proofs.Any.strings_IndexByte Go.Proofs.Tryz.laysIndexByte s c w).mono ?_
  rintro e w' ⟨rfl, rfl⟩
  refine ⟨_, [], [], rfl, ⟨rfl, rfl, rfl, Nat.le_refl _, fun b hb _ => rfl⟩, by simp [RepV, RepC, Value.oneCell'], ?_, by simp, by simp⟩
  simp only [RepVs, RepV]
  exact ⟨_, _, [], [], rfl, rfl, rfl, _, _, [], [], rfl, rfl, rfl, rfl, rfl⟩
theorem d91 (s c : ByteArray) (hs : (s.size : Int) ≤ 9223372036854775807) (hc : c.size < 4294967281) (ha : ∀ (j : Nat) b, c.data.toList[j]? = some b → b.toNat < 128) :
    Does Go.Proofs.Tryz.prog 91 [.v (.string s), .v (.string c)] false (.v (.string ⟨(Lib.trimS s.data.toList c.data.toList).toArray⟩)) [.dead, .dead] := by
  refine ⟨by decide +kernel, ?_⟩
  intro w Fz xs os hrep hos hfz hlt
  simp only [RepVs, RepV, RepC] at hrep
  obtain ⟨y, ys, p1, p2, rfl, rfl, ⟨rfl, _, rfl⟩, z, zs, p3, p4, rfl, rfl, ⟨rfl, _, rfl⟩, rfl, rfl⟩ := hrep
  refine (Go.Proofs.Any.strings_Trim_laid Go.Proofs.Tryz.laysTrim Go.Proofs.Tryz.trim116 s c w (by omega) hc ha).mono ?_
  rintro e w' ⟨rfl, bel⟩
  refine ⟨_, [], [], rfl, below_ext bel, by simp [RepV, RepC, Value.oneCell'], ?_, by simp, by simp⟩
  simp only [RepVs, RepV]
  exact ⟨_, _, [], [], rfl, rfl, rfl, _, _, [], [], rfl, rfl, rfl, rfl, rfl⟩
theorem d76 (s : ByteArray) (n : Int) (hs : s.size ≤ 18) (h : Lib.atoi s.data.toList = some n) :
    Does Go.Proofs.Tryz.prog 76 [.v (.string s)] false (.tup [.v (.int .i64 n), .v .nilIface]) [.dead] := by
  refine ⟨by decide +kernel, ?_⟩
  intro w Fz xs os hrep hos hfz hlt
  simp only [RepVs, RepV, RepC] at hrep
  obtain ⟨y, ys, p1, p2, rfl, rfl, ⟨rfl, _, rfl⟩, rfl, rfl⟩ := hrep
  refine (Go.Proofs.Any.strconv_Atoi Go.Proofs.Tryz.laysAtoi s n hs h w).mono ?_
  rintro e w' ⟨rfl, t, rfl⟩
  refine ⟨_, [], [], rfl, below_bytes _ _ _, ?_, ?_, by simp, by simp⟩
  · simp only [RepV, RepVs, RepC]
    exact ⟨_, rfl, _, _, [], [], rfl, rfl, ⟨rfl, rfl, rfl⟩, _, _, [], [], rfl, rfl, ⟨rfl, rfl, rfl⟩, rfl, rfl⟩
  · simp only [RepVs, RepV]
    exact ⟨_, _, [], [], rfl, rfl, rfl, rfl, rfl⟩
theorem d77 (s : ByteArray) (hne : s.size ≠ 0) (h7 : s.size ≤ 7) (hx : ∀ c ∈ s.data.toList, hexC c) :
    Does Go.Proofs.Tryz.prog 77 [.v (.string s), .v (.int .i64 16), .v (.int .i64 64)] false (.tup [.v (.int .i64 ((hexF 0 s.data.toList : Nat) : Int)), .v .nilIface]) [.dead, .dead, .dead] := by
  refine ⟨by decide +kernel, ?_⟩
  intro w Fz xs os hrep hos hfz hlt
  simp only [RepVs, RepV, RepC] at hrep
  obtain ⟨y, ys, p1, p2, rfl, rfl, ⟨rfl, _, rfl⟩, z, zs, p3, p4, rfl, rfl, ⟨rfl, _, rfl⟩, z2, zs2, p5, p6, rfl, rfl, ⟨rfl, _, rfl⟩, rfl, rfl⟩ := hrep
  refine (Go.Proofs.Any.parseInt_hex_pub Go.Proofs.Tryz.laysParseInt s hne h7 hx w).mono ?_
  rintro e w' ⟨rfl, rfl⟩
  refine ⟨_, [], [], rfl, below_bytes _ _ _, ?_, ?_, by simp, by simp⟩
  · simp only [RepV, RepVs, RepC]
    exact ⟨_, rfl, _, _, [], [], rfl, rfl, ⟨rfl, rfl, rfl⟩, _, _, [], [], rfl, rfl, ⟨rfl, rfl, rfl⟩, rfl, rfl⟩
  · simp only [RepVs, RepV]
    exact ⟨_, _, [], [], rfl, rfl, rfl, _, _, [], [], rfl, rfl, rfl, _, _, [], [], rfl, rfl, rfl, rfl, rfl⟩
end Go.AM
namespace Go.AM
set_option linter.unusedVariables false
set_option linter.unusedSimpArgs false
theorem sign_index (c : Int) (h0 : 0 ≤ c) (h1 : c ≤ 255) : decide (0 ≤ Lib.indexByte (⟨#[59, 44, 46, 58, 61, 42, 45, 43, 40, 41]⟩ : ByteArray).data.toList c.toNat.toUInt8) = isSign c := by
  have h : ∀ n : Nat, n < 256 → decide (0 ≤ Lib.indexByte [59, 44, 46, 58, 61, 42, 45, 43, 40, 41] n.toUInt8) = isSign (n : Int) := by decide +kernel
  obtain ⟨n, rfl⟩ := Int.eq_ofNat_of_zero_le h0
  exact h n (by omega)
def m55 : MC :=
 (.seq (.reg [Xb 4 (.asg .fb)]) (.seq (.reg [Xm 5 0, Xq 6 (.len true (.t 5)), Xm 7 1, Xq 8 (.len true (.t 7)), Xq 9 (.bin false .geq (.t 6) (.t 8)), Xm 10 9, Xt 11 10 (.mov (.t 0)), Xt 12 10 (.mov (.t 1)), Xt 13 10 (.len true (.t 12)), Xt 14 10 (.slc true 1 (.t 11) none (some (.t 13))), Xt 15 10 (.mov (.t 1)), Xt 16 10 (.bin false .eql (.t 14) (.t 15)), Xq 17 (.pick (.t 10) (.t 16) .fb), Xa 4 17])
 .ret))
def m33 : MC :=
 (.seq (.reg [Xb 4 (.asg .fb)]) (.seq (.reg [Xm 5 0, Xm 6 1, Xb 7 (.call (.fn 55) false [.lend (.t 5), .lend (.t 6)]), Xa 4 7]) .ret))
theorem d55 (s p : ByteArray) (hs : (s.size : Int) ≤ 9223372036854775807) (hp : (p.size : Int) ≤ 9223372036854775807) : Does Go.Proofs.Tryz.prog 55 [.v (.string s), .v (.string p)] false (.v (.bool (decide ((p.size : Int) ≤ s.size) && ((s.extract 0 p.size).toList == p.toList)))) [.dead, .dead] := by
  refine does_intro (mc := m55) (N := 18) (rs := [4]) (fx := []) 2 rfl (by decide +kernel) ?_
  simp only [m55, EV, Nat.reduceEqDiff, Nat.reduceBEq, Nat.reduceLT, Nat.reduceLeDiff, Nat.reduceAdd, Nat.reduceSub, reduceIte]
  rcases e : decide ((p.size : Int) ≤ s.size) with _ | _
  · simp only [e, EV, Nat.reduceEqDiff, Nat.reduceBEq, Nat.reduceLT, Nat.reduceLeDiff, Nat.reduceAdd, Nat.reduceSub, reduceIte]
    simp only [e, EV, Nat.reduceEqDiff, Nat.reduceBEq, Nat.reduceLT, Nat.reduceLeDiff, Nat.reduceAdd, Nat.reduceSub, reduceIte, evRE, retVC, cellV', evR, nfz, nfzs, nfzss, List.contains_nil, List.contains_cons, Bool.or_false, or_true]
  · have h : (p.size : Int) ≤ s.size := by simpa using e
    have t0 : ((p.size : Nat) : Int).toNat = p.size := rfl
    simp only [e, h, t0, EV, Nat.reduceEqDiff, Nat.reduceBEq, Nat.reduceLT, Nat.reduceLeDiff, Nat.reduceAdd, Nat.reduceSub, reduceIte]
    repeat (refine And.intro (by omega) ?_)
    simp only [e, EV, Nat.reduceEqDiff, Nat.reduceBEq, Nat.reduceLT, Nat.reduceLeDiff, Nat.reduceAdd, Nat.reduceSub, reduceIte, evRE, retVC, cellV', evR, nfz, nfzs, nfzss, List.contains_nil, List.contains_cons, Bool.or_false, or_true]
theorem d33 (s p : ByteArray) (hs : (s.size : Int) ≤ 9223372036854775807) (hp : (p.size : Int) ≤ 9223372036854775807) : Does Go.Proofs.Tryz.prog 33 [.v (.string s), .v (.string p)] false (.v (.bool (decide ((p.size : Int) ≤ s.size) && ((s.extract 0 p.size).toList == p.toList)))) [.dead, .dead] := by
  refine does_intro (mc := m33) (N := 8) (rs := [4]) (fx := []) 2 rfl (by decide +kernel) ?_
  simp only [m33, EV, Nat.reduceEqDiff, Nat.reduceBEq, Nat.reduceLT, Nat.reduceLeDiff, Nat.reduceAdd, Nat.reduceSub, reduceIte]
  refine callK_i (d55 s p hs hp) ?_
  simp only [EV, Nat.reduceEqDiff, Nat.reduceBEq, Nat.reduceLT, Nat.reduceLeDiff, Nat.reduceAdd, Nat.reduceSub, reduceIte]
  simp only [EV, Nat.reduceEqDiff, Nat.reduceBEq, Nat.reduceLT, Nat.reduceLeDiff, Nat.reduceAdd, Nat.reduceSub, reduceIte, evRE, retVC, cellV', evR, nfz, nfzs, nfzss, List.contains_nil, List.contains_cons, Bool.or_false, or_true]
def m101 : MC :=
 (.seq (.reg [Xb 4 (.asg .fb)]) (.seq (.reg [Xm 5 0, Xq 6 (.len true (.t 5)), Xm 7 1, Xq 8 (.len true (.t 7)), Xq 9 (.bin false .geq (.t 6) (.t 8)), Xm 10 9, Xt 11 10 (.mov (.t 0)), Xt 12 10 (.mov (.t 0)), Xt 13 10 (.len true (.t 12)), Xt 14 10 (.mov (.t 1)), Xt 15 10 (.len true (.t 14)), Xt 16 10 (.bin false .sub (.t 13) (.t 15)), Xt 17 10 (.slc true 1 (.t 11) (some (.t 16)) none), Xt 18 10 (.mov
 (.t 1)), Xt 19 10 (.bin false .eql (.t 17) (.t 18)), Xq 20 (.pick (.t 10) (.t 19) .fb), Xa 4 20]) .ret))
def m90 : MC :=
 (.seq (.reg [Xb 4 (.asg (.z #[])), Xb 5 (.asg .fb)]) (.seq (.seq (.reg [Xm 6 0, Xm 7 1, Xb 8 (.call (.fn 101) false [.lend (.t 6), .lend (.t 7)]), Xq 9 (.un .not (.t 8))]) (.cond (.t 9) (.seq (.reg [Xm 10 0, Xa 4 10, Xb 5 (.asg .fb)]) .ret) .skip)) (.seq (.reg [Xm 11 0, Xm 12 0, Xq 13 (.len true (.t 12)), Xm 14 1, Xq 15 (.len true (.t 14)), Xq 16 (.bin false .sub (.t 13) (.t 15)), Xq 17 (.slc true
 1 (.t 11) none (some (.t 16))), Xa 4 17, Xb 5 (.asg .tb)]) .ret)))
def m74 : MC :=
 (.seq (.reg [Xb 4 (.asg (.z #[])), Xb 5 (.asg .fb)]) (.seq (.reg [Xm 6 0, Xm 7 1, Xb 8 (.call (.fn 90) false [.lend (.t 6), .lend (.t 7)]), Xq 9 (.ext 8 0), Xq 10 (.ext 8 1), Xa 4 9, Xa 5 10]) .ret))
def endsH (s : ByteArray) : Bool := decide (0 < s.size) && lastH s
theorem last_one (s : ByteArray) (h : 0 < s.size) : ((s.extract (s.size - 1) s.size).toList == (⟨#[72]⟩ : ByteArray).toList) = lastH s := by
  have hz : (s.extract (s.size - 1) s.size).size = 1 := by rw [ByteArray.size_extract]; omega
  have e0 : sAt (s.extract (s.size - 1) s.size) ((0 : Nat) : Int) = sAt s ((s.size - 1 + 0 : Nat) : Int) := sAt_cut s (by omega) (by omega)
  have e1 : ((s.size - 1 + 0 : Nat) : Int) = (s.size : Int) - 1 := by omega
  rw [e1] at e0
  have f0 : sAt ⟨#[72]⟩ ((0 : Nat) : Int) = 72 := rfl
  unfold lastH
  rw [← e0]
  rcases c : ((s.extract (s.size - 1) s.size).toList == (⟨#[72]⟩ : ByteArray).toList) with _ | _
  · have hn := bq_ne.1 c
    symm
    rw [beq_eq_false_iff_ne]
    intro hh
    apply hn
    refine ext_bytes (by rw [hz]; rfl) fun j hj => ?_
    rw [hz] at hj
    have : j = 0 := by omega
    subst this
    rw [f0]; exact hh
  · have hn := bq_eq.1 c
    rw [hn, f0]
    rfl
theorem d101 (s : ByteArray) (hs : (s.size : Int) ≤ 9223372036854775807) : Does Go.Proofs.Tryz.prog 101 [.v (.string s), .v (.string ⟨#[72]⟩)] false (.v (.bool (endsH s))) [.dead, .dead] := by
  have hz : ((⟨#[72]⟩ : ByteArray).size : Nat) = 1 := rfl
  refine does_intro (mc := m101) (N := 21) (rs := [4]) (fx := []) 2 rfl (by decide +kernel) ?_
  simp only [m101, hz, EV, Nat.reduceEqDiff, Nat.reduceBEq, Nat.reduceLT, Nat.reduceLeDiff, Nat.reduceAdd, Nat.reduceSub, reduceIte]
  rcases e : decide (((1 : Nat) : Int) ≤ s.size) with _ | _
  · have h0 : endsH s = false := by
      have : ¬ (((1 : Nat) : Int) ≤ s.size) := by simpa using e
      unfold endsH
      rw [decide_eq_false (by omega)]; rfl
    simp only [e, EV, Nat.reduceEqDiff, Nat.reduceBEq, Nat.reduceLT, Nat.reduceLeDiff, Nat.reduceAdd, Nat.reduceSub, reduceIte]
    simp only [h0, EV, Nat.reduceEqDiff, Nat.reduceBEq, Nat.reduceLT, Nat.reduceLeDiff, Nat.reduceAdd, Nat.reduceSub, reduceIte, evRE, retVC, cellV', evR, nfz, nfzs, nfzss, List.contains_nil, List.contains_cons, Bool.or_false, or_true]
  · have h : (((1 : Nat) : Int) ≤ s.size) := by simpa using e
    have hp : 0 < s.size := by omega
    have h0 : endsH s = lastH s := by unfold endsH; rw [decide_eq_true hp]; rfl
    have w1 := w64 ((s.size : Int) - ((1 : Nat) : Int)) (by omega)
    have t0 : ((s.size : Int) - ((1 : Nat) : Int)).toNat = s.size - 1 := by omega
    have hl := last_one s hp
    simp only [e, h, hz, w1, t0, hl, EV, Nat.reduceEqDiff, Nat.reduceBEq, Nat.reduceLT, Nat.reduceLeDiff, Nat.reduceAdd, Nat.reduceSub, reduceIte]
    repeat (refine And.intro (by omega) ?_)
    simp only [h0, EV, Nat.reduceEqDiff, Nat.reduceBEq, Nat.reduceLT, Nat.reduceLeDiff, Nat.reduceAdd, Nat.reduceSub, reduceIte, evRE, retVC, cellV', evR, nfz, nfzs, nfzss, List.contains_nil, List.contains_cons, Bool.or_false, or_true]
def cutH (s : ByteArray) : ByteArray := if endsH s = true then s.extract 0 (s.size - 1) else s
theorem d90 (s : ByteArray) (hs : (s.size : Int) ≤ 9223372036854775807) : Does Go.Proofs.Tryz.prog 90 [.v (.string s), .v (.string ⟨#[72]⟩)] false (.tup [.v (.string (cutH s)), .v (.bool (endsH s))]) [.dead, .dead] := by
  have hz : ((⟨#[72]⟩ : ByteArray).size : Nat) = 1 := rfl
  refine does_intro (mc := m90) (N := 18) (rs := [4, 5]) (fx := []) 2 rfl (by decide +kernel) ?_
  simp only [m90, EV, Nat.reduceEqDiff, Nat.reduceBEq, Nat.reduceLT, Nat.reduceLeDiff, Nat.reduceAdd, Nat.reduceSub, reduceIte]
  refine callK_i (d101 s hs) ?_
  simp only [EV, Nat.reduceEqDiff, Nat.reduceBEq, Nat.reduceLT, Nat.reduceLeDiff, Nat.reduceAdd, Nat.reduceSub, reduceIte]
  rcases e : endsH s with _ | _
  · have h0 : cutH s = s := by unfold cutH; rw [e]; rfl
    simp only [Bool.not_false, EV, Nat.reduceEqDiff, Nat.reduceBEq, Nat.reduceLT, Nat.reduceLeDiff, Nat.reduceAdd, Nat.reduceSub, reduceIte]
    simp only [h0, EV, Nat.reduceEqDiff, Nat.reduceBEq, Nat.reduceLT, Nat.reduceLeDiff, Nat.reduceAdd, Nat.reduceSub, reduceIte, evRE, retVC, cellV', evR, nfz, nfzs, nfzss, List.contains_nil, List.contains_cons, Bool.or_false, or_true]
  · have h0 : cutH s = s.extract 0 (s.size - 1) := by unfold cutH; rw [if_pos e]
    have hp : 0 < s.size := by unfold endsH at e; simp at e; omega
    have w1 := w64 ((s.size : Int) - ((1 : Nat) : Int)) (by omega)
    have t0 : ((s.size : Int) - ((1 : Nat) : Int)).toNat = s.size - 1 := by omega
    simp only [Bool.not_true, hz, w1, t0, EV, Nat.reduceEqDiff, Nat.reduceBEq, Nat.reduceLT, Nat.reduceLeDiff, Nat.reduceAdd, Nat.reduceSub, reduceIte]
    repeat (refine And.intro (by omega) ?_)
    simp only [h0, EV, Nat.reduceEqDiff, Nat.reduceBEq, Nat.reduceLT, Nat.reduceLeDiff, Nat.reduceAdd, Nat.reduceSub, reduceIte, evRE, retVC, cellV', evR, nfz, nfzs, nfzss, List.contains_nil, List.contains_cons, Bool.or_false, or_true]
theorem d74 (s : ByteArray) (hs : (s.size : Int) ≤ 9223372036854775807) : Does Go.Proofs.Tryz.prog 74 [.v (.string s), .v (.string ⟨#[72]⟩)] false (.tup [.v (.string (cutH s)), .v (.bool (endsH s))]) [.dead, .dead] := by
  refine does_intro (mc := m74) (N := 11) (rs := [4, 5]) (fx := []) 2 rfl (by decide +kernel) ?_
  simp only [m74, EV, Nat.reduceEqDiff, Nat.reduceBEq, Nat.reduceLT, Nat.reduceLeDiff, Nat.reduceAdd, Nat.reduceSub, reduceIte]
  refine callK_i (d90 s hs) ?_
  simp only [EV, Nat.reduceEqDiff, Nat.reduceBEq, Nat.reduceLT, Nat.reduceLeDiff, Nat.reduceAdd, Nat.reduceSub, reduceIte]
  simp only [EV, Nat.reduceEqDiff, Nat.reduceBEq, Nat.reduceLT, Nat.reduceLeDiff, Nat.reduceAdd, Nat.reduceSub, reduceIte, evRE, retVC, cellV', evR, nfz, nfzs, nfzss, List.contains_nil, List.contains_cons, Bool.or_false, or_true]
def m75 : MC :=
 (.seq (.reg [Xb 4 (.asg .fb)]) (.seq (.reg [Xm 5 0, Xm 6 1, Xb 7 (.call (.fn 91) false [.lend (.t 5), .lend (.t 6)]), Xq 8 (.bin false .eql (.t 7) (.z #[])), Xa 4 8]) .ret))
def allIn (s c : ByteArray) : Bool := s.data.toList.all (c.data.toList.contains ·)
theorem dw_nil (p : UInt8 → Bool) : ∀ m : List UInt8, m.dropWhile p = [] ↔ ∀ x ∈ m, p x = true
  | [] => by simp
  | a :: m => by
    rw [List.dropWhile_cons]
    rcases e : p a with _ | _
    · simp [e]
    · simp [e, dw_nil p m]
theorem dw_head (p : UInt8 → Bool) : ∀ (m : List UInt8) (a : UInt8) (r : List UInt8), m.dropWhile p = a :: r → p a = false
  | [], a, r, h => by simp at h
  | b :: m, a, r, h => by
    rw [List.dropWhile_cons] at h
    rcases e : p b with _ | _
    · rw [e] at h; simp at h; rw [← h.1]; exact e
    · rw [e] at h; simp at h; exact dw_head p m a r h
theorem dw_sub (p : UInt8 → Bool) : ∀ (m : List UInt8) (x : UInt8), x ∈ m.dropWhile p → x ∈ m
  | [], x, h => by simp at h
  | b :: m, x, h => by
    rw [List.dropWhile_cons] at h
    rcases e : p b with _ | _
    · rw [e] at h; simpa using h
    · rw [e] at h; simp at h; exact List.mem_cons_of_mem _ (dw_sub p m x h)
theorem trim_nil (l cs : List UInt8) : Lib.trimS l cs = [] ↔ l.all (cs.contains ·) = true := by
  have e1 : ∀ m : List UInt8, m.dropWhile (cs.contains ·) = [] ↔ ∀ x ∈ m, cs.contains x = true := fun m => dw_nil _ m
  unfold Lib.trimS Lib.trimLeftS
  rw [e1]
  rw [List.all_eq_true]
  constructor
  · intro h
    have h2 : l.reverse.dropWhile (cs.contains ·) = [] := by
      rcases c : l.reverse.dropWhile (cs.contains ·) with _ | ⟨a, m⟩
      · rfl
      · exfalso
        have h3 := h a (by unfold Lib.trimRightS; rw [c]; simp)
        have h4 := dw_head _ _ _ _ c
        rw [h3] at h4; cases h4
    have h5 := (e1 l.reverse).1 h2
    intro x hx
    exact h5 x (by simpa using hx)
  · intro h x hx
    unfold Lib.trimRightS at hx
    rw [List.mem_reverse] at hx
    exact h x (by have := dw_sub _ _ _ hx; simpa using this)
theorem d75 (s c : ByteArray) (hs : (s.size : Int) ≤ 9223372036854775807) (hc : c.size < 4294967281) (ha : ∀ (j : Nat) b, c.data.toList[j]? = some b → b.toNat < 128) :
    Does Go.Proofs.Tryz.prog 75 [.v (.string s), .v (.string c)] false (.v (.bool (allIn s c))) [.dead, .dead] := by
  refine does_intro (mc := m75) (N := 9) (rs := [4]) (fx := []) 2 rfl (by decide +kernel) ?_
  simp only [m75, EV, Nat.reduceEqDiff, Nat.reduceBEq, Nat.reduceLT, Nat.reduceLeDiff, Nat.reduceAdd, Nat.reduceSub, reduceIte]
  refine callK_i (d91 s c hs hc ha) ?_
  have e : ((⟨(Lib.trimS s.data.toList c.data.toList).toArray⟩ : ByteArray).toList == (⟨#[]⟩ : ByteArray).toList) = allIn s c := by
    unfold allIn
    rw [Bool.eq_iff_iff, bq_eq, ← trim_nil]
    constructor
    · intro h
      have := congrArg (fun b : ByteArray => b.data.toList) h
      simpa using this
    · intro h; rw [h]
  simp only [e, EV, Nat.reduceEqDiff, Nat.reduceBEq, Nat.reduceLT, Nat.reduceLeDiff, Nat.reduceAdd, Nat.reduceSub, reduceIte]
  simp only [EV, Nat.reduceEqDiff, Nat.reduceBEq, Nat.reduceLT, Nat.reduceLeDiff, Nat.reduceAdd, Nat.reduceSub, reduceIte, evRE, retVC, cellV', evR, nfz, nfzs, nfzss, List.contains_nil, List.contains_cons, Bool.or_false, or_true]
end Go.AM
namespace Go.AM
set_option linter.unusedVariables false
set_option linter.unusedSimpArgs false
def decCut : ByteArray := ⟨#[48, 49, 50, 51, 52, 53, 54, 55, 56, 57]⟩
def hexCut : ByteArray := ⟨#[48, 49, 50, 51, 52, 53, 54, 55, 56, 57, 65, 66, 67, 68, 69, 70]⟩
theorem dec_in : ∀ c : UInt8, decCut.data.toList.contains c = digt (c.toNat : Int) := by
  have h : ∀ n : Nat, n < 256 → decCut.data.toList.contains (UInt8.ofNat n) = digt (n : Int) := by decide +kernel
  intro c
  have := h c.toNat c.toNat_lt
  simpa using this
theorem hex_in : ∀ c : UInt8, hexCut.data.toList.contains c = true ↔ hexC c := by
  have h : ∀ n : Nat, n < 256 → (hexCut.data.toList.contains (UInt8.ofNat n) = true ↔ ((48 ≤ n ∧ n ≤ 57) ∨ (65 ≤ n ∧ n ≤ 70))) := by decide +kernel
  intro c
  have := h c.toNat c.toNat_lt
  unfold hexC
  simpa using this
theorem sAt_mem {s : ByteArray} {i : Nat} (h : i < s.size) : ∃ c ∈ s.data.toList, sAt s (i : Nat) = (c.toNat : Int) := ⟨s.data[i]'h, by simp, sAt_eq h⟩
theorem mem_sAt {s : ByteArray} {c : UInt8} (h : c ∈ s.data.toList) : ∃ i, i < s.size ∧ sAt s (i : Nat) = (c.toNat : Int) := by
  obtain ⟨i, hi, rfl⟩ := List.getElem_of_mem h
  have hi' : i < s.size := by simpa using hi
  exact ⟨i, hi', by rw [sAt_eq hi']; simp⟩
theorem all_dec {s : ByteArray} : allIn s decCut = true ↔ ∀ i : Nat, i < s.size → digt (sAt s (i : Nat)) = true := by
  unfold allIn
  rw [List.all_eq_true]
  constructor
  · intro h i hi
    obtain ⟨c, hc, e⟩ := sAt_mem hi
    rw [e, ← dec_in]; exact h c hc
  · intro h c hc
    obtain ⟨i, hi, e⟩ := mem_sAt hc
    rw [dec_in, ← e]; exact h i hi
theorem all_hex {s : ByteArray} : allIn s hexCut = true ↔ ∀ c ∈ s.data.toList, hexC c := by
  unfold allIn
  rw [List.all_eq_true]
  constructor
  · intro h c hc; exact (hex_in c).1 (h c hc)
  · intro h c hc; exact (hex_in c).2 (h c hc)
theorem digt_iff {b : Int} : digt b = true ↔ 48 ≤ b ∧ b ≤ 57 := by simp [digt]
theorem hexN_dig {b : Int} (h : digt b = true) : hexN b = b - 48 := by unfold hexN; rw [if_pos h]
theorem hexN_C {c : UInt8} (h : hexC c) : hexN (c.toNat : Int) = (hexD c.toNat : Int) := by
  unfold hexN hexD
  rcases h with ⟨a, b⟩ | ⟨a, b⟩
  · rw [if_pos (digt_iff.2 ⟨by omega, by omega⟩), if_pos b]; omega
  · have : ¬ digt (c.toNat : Int) = true := fun h => by have := digt_iff.1 h; omega
    rw [if_neg this, if_pos (by simp; omega), if_neg (by omega)]; omega
theorem hexN_ten {b : Int} (h0 : 0 ≤ hexN b) (h1 : hexN b < 10) : digt b = true := by
  unfold hexN at h0 h1
  split at h0
  · assumption
  · rename_i c
    rw [if_neg c] at h1
    split at h0
    · rename_i c2
      rw [if_pos c2] at h1
      simp at c2; omega
    · omega
theorem hexN_hex {c : UInt8} (h0 : 0 ≤ hexN (c.toNat : Int)) : hexC c := by
  unfold hexN at h0
  split at h0
  · rename_i h; have := digt_iff.1 h; exact .inl ⟨by omega, by omega⟩
  · split at h0
    · rename_i c2; simp at c2; exact .inr ⟨by omega, by omega⟩
    · omega
theorem drop_at' {s : ByteArray} {i : Nat} (h : i < s.size) : s.data.toList.drop i = s.data[i]'h :: s.data.toList.drop (i + 1) := by
  have h' : i < s.data.toList.length := by rw [Array.length_toList]; exact h
  rw [List.drop_eq_getElem_cons h']; simp
theorem drop_end {s : ByteArray} {i : Nat} (h : ¬ i < s.size) : s.data.toList.drop i = [] := by
  refine List.drop_eq_nil_of_le ?_
  rw [Array.length_toList]
  have : s.data.size = s.size := rfl
  omega
theorem valN_dec (s : ByteArray) (h : ∀ i : Nat, i < s.size → digt (sAt s (i : Nat)) = true) (h9 : s.size ≤ 9) : ∀ (k i n : Nat), s.size - i ≤ k → ∃ m, valN s 10 9 i n = some m ∧ Lib.decFrom n (s.data.toList.drop i) = some m
  | k, i, n, hk => by
    by_cases c : i < s.size
    · cases k with
      | zero => omega
      | succ k =>
        have hd := h i c
        have e := sAt_eq c
        have hn := hexN_dig hd
        rw [e] at hn hd
        have hr := digt_iff.1 hd
        have hv : Lib.digitVal (s.data[i]'c) = some ((s.data[i]'c).toNat - 48) := by unfold Lib.digitVal; rw [if_pos (by omega)]
        obtain ⟨m, h1, h2⟩ := valN_dec s h h9 k (i + 1) (n * 10 + ((s.data[i]'c).toNat - 48)) (by omega)
        refine ⟨m, ?_, ?_⟩
        · rw [valN, if_pos c, e, hn, if_neg (by omega), if_neg (by omega)]
          have : ((((s.data[i]'c).toNat : Int) - 48)).toNat = (s.data[i]'c).toNat - 48 := by omega
          rw [this]; exact h1
        · rw [drop_at' c]
          simp only [Lib.decFrom, hv]
          exact h2
    · exact ⟨n, by rw [valN, if_neg c], by rw [drop_end c]; rfl⟩
theorem valN_hex (s : ByteArray) (h : ∀ c ∈ s.data.toList, hexC c) (h7 : s.size ≤ 7) : ∀ (k i n : Nat), s.size - i ≤ k → valN s 16 7 i n = some (hexF n (s.data.toList.drop i))
  | k, i, n, hk => by
    by_cases c : i < s.size
    · cases k with
      | zero => omega
      | succ k =>
        have hc := h (s.data[i]'c) (by simp)
        have hlt := hexD_lt hc
        rw [valN, if_pos c, sAt_eq c, hexN_C hc, if_neg (by omega), if_neg (by omega), drop_at' c]
        exact valN_hex s h h7 k (i + 1) _ (by omega)
    · rw [valN, if_neg c, drop_end c]; rfl
theorem valN_some (s : ByteArray) (base most : Nat) : ∀ (k i n m : Nat), s.size - i ≤ k → i ≤ most → valN s base most i n = some m → s.size ≤ most ∧ ∀ j : Nat, i ≤ j → j < s.size → 0 ≤ hexN (sAt s (j : Nat)) ∧ hexN (sAt s (j : Nat)) < (base : Int)
  | k, i, n, m, hk, hi, h => by
    by_cases c : i < s.size
    · cases k with
      | zero => omega
      | succ k =>
        rw [valN, if_pos c] at h
        split at h
        · simp at h
        · rename_i c2
          split at h
          · simp at h
          · rename_i c3
            obtain ⟨a, b⟩ := valN_some s base most k (i + 1) _ m (by omega) (by omega) h
            refine ⟨a, fun j h1 h2 => ?_⟩
            by_cases e : j = i
            · subst e; omega
            · exact b j (by omega) h2
    · exact ⟨by omega, fun j h1 h2 => absurd h2 (by omega)⟩
theorem sAt_body {w : ByteArray} {i : Nat} (h : i < w.size - 1) : sAt (w.extract 0 (w.size - 1)) (i : Nat) = sAt w (i : Nat) := by
  have := sAt_cut w (a := 0) (b := w.size - 1) (i := i) (by omega) (by omega)
  simpa using this
theorem num_dec {w : ByteArray} (h0 : 0 < w.size) (h9 : w.size ≤ 9) (h : allIn w decCut = true) : ∃ m : Nat, numN w = some m ∧ Lib.atoi w.data.toList = some (m : Int) := by
  have hd := all_dec.1 h
  obtain ⟨m, h1, h2⟩ := valN_dec w hd h9 w.size 0 0 (by omega)
  have d0 := hd 0 h0
  have hl : lastH w = false := by
    have hl := hd (w.size - 1) (by omega)
    have e : ((w.size - 1 : Nat) : Int) = (w.size : Int) - 1 := by omega
    rw [e] at hl
    have := digt_iff.1 hl
    unfold lastH
    rw [beq_eq_false_iff_ne]
    omega
  refine ⟨m, ?_, ?_⟩
  · unfold numN
    rw [if_neg (fun h => h.elim (fun h => by omega) (fun h => by have := d0; simp at this; rw [this] at h; cases h)), hl, if_neg (by simp)]
    exact h1
  · rw [List.drop_zero] at h2
    have e0 := drop_at' h0
    rw [List.drop_zero] at e0
    rw [sAt_eq h0] at d0
    have hr := digt_iff.1 d0
    have n45 : (w.data[0]'h0 == 45) = false := by
      rw [beq_eq_false_iff_ne]; intro hh
      rw [hh] at hr
      have : (45 : UInt8).toNat = 45 := rfl
      omega
    have n43 : (w.data[0]'h0 == 43) = false := by
      rw [beq_eq_false_iff_ne]; intro hh
      rw [hh] at hr
      have : (43 : UInt8).toNat = 43 := rfl
      omega
    rw [e0] at h2 ⊢
    simp only [Lib.atoi, n45, n43, Bool.false_eq_true, if_false, Lib.decNat, List.isEmpty_cons, h2, Option.map_some]
theorem num_hex {w : ByteArray} (h0 : digt (sAt w 0) = true) (hH : endsH w = true) (h7 : (cutH w).size ≤ 7) (h : allIn (cutH w) hexCut = true) : numN w = some (hexF 0 (cutH w).data.toList) := by
  have hp : 0 < w.size := by unfold endsH at hH; simp at hH; omega
  have hl : lastH w = true := by unfold endsH at hH; simp at hH; exact hH.2
  have hc : cutH w = w.extract 0 (w.size - 1) := by unfold cutH; rw [if_pos hH]
  rw [hc] at h7 h ⊢
  unfold numN
  rw [if_neg (fun h => h.elim (fun h => by omega) (fun h => by rw [h0] at h; cases h)), if_pos hl]
  have := valN_hex _ (all_hex.1 h) h7 (w.extract 0 (w.size - 1)).size 0 0 (by omega)
  rw [List.drop_zero] at this
  exact this
theorem num_none {w : ByteArray} (hp : 0 < w.size) (h0 : digt (sAt w 0) = true) (hA : ¬ (w.size ≤ 9 ∧ allIn w decCut = true))
    (hB : ¬ (endsH w = true ∧ 1 ≤ (cutH w).size ∧ (cutH w).size ≤ 7 ∧ allIn (cutH w) hexCut = true ∧ digt (sAt (cutH w) 0) = true)) : numN w = none := by
  unfold numN
  rw [if_neg (fun h => h.elim (fun h => by omega) (fun h => by rw [h0] at h; cases h))]
  split
  · rename_i hl
    have hH : endsH w = true := by unfold endsH; simp [hl, hp]
    have hc : cutH w = w.extract 0 (w.size - 1) := by unfold cutH; rw [if_pos hH]
    have hz : (w.extract 0 (w.size - 1)).size = w.size - 1 := by rw [ByteArray.size_extract]; omega
    have h2 : 2 ≤ w.size := by
      rcases Nat.lt_or_ge w.size 2 with h | h
      · exfalso
        have e : (w.size : Int) - 1 = 0 := by omega
        unfold lastH at hl
        rw [e] at hl
        have e2 : sAt w 0 = 72 := by simpa using hl
        rw [e2] at h0; exact absurd h0 (by decide)
      · exact h
    rcases e : valN (w.extract 0 (w.size - 1)) 16 7 0 0 with _ | m
    · rfl
    · exfalso
      obtain ⟨a, b⟩ := valN_some _ 16 7 _ 0 0 m (Nat.le_refl _) (by omega) e
      apply hB
      rw [hc]
      refine ⟨hH, by omega, a, ?_, ?_⟩
      · rw [all_hex]
        intro c hcm
        obtain ⟨i, hi, ei⟩ := mem_sAt hcm
        refine hexN_hex ?_
        rw [← ei]; exact (b i (by omega) hi).1
      · have := sAt_body (w := w) (i := 0) (by omega)
        have e0 : ((0 : Nat) : Int) = 0 := rfl
        rw [e0] at this
        rw [this]; exact h0
  · rcases e : valN w 10 9 0 0 with _ | m
    · rfl
    · exfalso
      obtain ⟨a, b⟩ := valN_some _ 10 9 _ 0 0 m (Nat.le_refl _) (by omega) e
      apply hA
      refine ⟨a, ?_⟩
      rw [all_dec]
      intro i hi
      obtain ⟨p, q⟩ := b i (by omega) hi
      exact hexN_ten p (by omega)
def m60 : MC :=
 (.seq (.reg [Xb 2 (.asg (.i 0)), Xb 3 (.asg .fb)]) (.seq (.reg [Xb 4 (.asg (.i 0)), Xb 5 (.asg (.c (.nilIface)))]) (.join [4, 5] (.seq (.reg [Xm 11 0, Xb 12 (.call (.fn 74) false [.lend (.t 11), .lend (.z #[72])]), Xm 10 12, Xq 13 (.ext 10 0), Xq 14 (.ext 10 1), Xa 6 13, Xa 7 14]) (.block 0 (.seq (.reg [Xm 16 0, Xq 17 (.len true (.t 16)), Xb 18 (.call (.fn 68) false [.lend (.t 17), .lend (.i 1),
 .lend (.i 9)]), Xm 19 18, Xt 20 19 (.mov (.t 0)), XT 21 19 (.call (.fn 75) false [.lend (.t 20), .lend (.z #[48, 49, 50, 51, 52, 53, 54, 55, 56, 57])]), Xq 22 (.pick (.t 19) (.t 21) .fb), Xa 15 22]) (.cond (.t 15) (.reg [Xm 24 0, Xb 25 (.call (.fn 76) false [.lend (.t 24)]), Xm 23 25, Xq 26 (.ext 23 0), Xq 27 (.ext 23 1), Xa 4 26, Xa 5 27]) (.seq (.reg [Xm 29 7, Xm 30 29, Xt 31 30 (.mov (.t 6)),
 Xt 32 30 (.len true (.t 31)), XT 33 30 (.call (.fn 68) false [.lend (.t 32), .lend (.i 1), .lend (.i 7)]), Xq 34 (.pick (.t 30) (.t 33) .fb), Xm 35 34, Xt 36 35 (.mov (.t 6)), XT 37 35 (.call (.fn 75) false [.lend (.t 36), .lend (.z #[48, 49, 50, 51, 52, 53, 54, 55, 56, 57, 65, 66, 67, 68, 69, 70])]), Xq 38 (.pick (.t 35) (.t 37) .fb), Xm 39 38, Xt 40 39 (.mov (.t 6)), Xt 41 39 (.idx (.t 40) (.i
 0)), XT 42 39 (.call (.fn 59) false [.lend (.t 41)]), Xq 43 (.pick (.t 39) (.t 42) .fb), Xa 28 43]) (.cond (.t 28) (.seq (.reg [Xm 45 6, Xb 46 (.call (.fn 77) false [.lend (.t 45), .lend (.i 16), .lend (.i 64)]), Xm 44 46, Xq 47 (.ext 44 0), Xq 48 (.ext 44 1), Xa 8 47, Xa 9 48]) (.reg [Xm 49 8, Xm 50 9, Xa 4 49, Xa 5 50])) (.seq (.reg [Xb 2 (.asg (.i 0)), Xb 3 (.asg .fb)]) .ret))))))) (.seq (.dreg
 [Xm 51 4, Xm 52 5, Xq 53 (.isni false (.t 52)), Xm 2 51, Xm 3 53]) .ret))))
set_option maxHeartbeats 2000000 in
set_option maxRecDepth 100000 in
theorem d60 (w : ByteArray) (hs : (w.size : Int) ≤ 1200) (hp : 0 < w.size) (h0 : digt (sAt w 0) = true) : Does Go.Proofs.Tryz.prog 60 [.v (.string w)] false (.tup (numR w)) [.dead] := by
  refine does_intro (mc := m60) (N := 54) (rs := [2, 3]) (fx := []) 1 rfl (by decide +kernel) ?_
  simp only [m60, EV, Nat.reduceEqDiff, Nat.reduceBEq, Nat.reduceLT, Nat.reduceLeDiff, Nat.reduceAdd, Nat.reduceSub, reduceIte]
  have hcs := d74 w (by omega)
  have hcz : (cutH w).size ≤ w.size := by
    unfold cutH; split
    · rw [ByteArray.size_extract]; omega
    · omega
  have ad : ∀ (j : Nat) b, decCut.data.toList[j]? = some b → b.toNat < 128 := Go.Proofs.ascii_of_all (by decide)
  have ah : ∀ (j : Nat) b, hexCut.data.toList[j]? = some b → b.toNat < 128 := Go.Proofs.ascii_of_all (by decide)
  have n1 := d75 w decCut (by omega) (by decide) ad
  have n2 := d75 (cutH w) hexCut (by omega) (by decide) ah
  have none_ : numN w = none → numR w = [.v (.int .i64 0), .v (.bool false)] := fun h => by simp [numR, h]
  have some_ : ∀ m : Nat, numN w = some m → numR w = [.v (.int .i64 (m : Int)), .v (.bool true)] := fun m h => by simp [numR, h]
  refine awp_join (fun m : Nat => numN w = some m) (fun m => stl [(4, .v (.int .i64 (m : Int))), (5, .v .nilIface)]) ?_ ?_
  · simp only [EV, Nat.reduceEqDiff, Nat.reduceBEq, Nat.reduceLT, Nat.reduceLeDiff, Nat.reduceAdd, Nat.reduceSub, reduceIte]
    refine callK_i hcs ?_
    simp only [EV, Nat.reduceEqDiff, Nat.reduceBEq, Nat.reduceLT, Nat.reduceLeDiff, Nat.reduceAdd, Nat.reduceSub, reduceIte]
    refine callK_i (d68 _ _ _) ?_
    simp only [EV, Nat.reduceEqDiff, Nat.reduceBEq, Nat.reduceLT, Nat.reduceLeDiff, Nat.reduceAdd, Nat.reduceSub, reduceIte]
    rcases e1 : (decide ((1 : Int) ≤ w.size) && decide ((w.size : Int) ≤ 9)) with _ | _
    · have h9 : ¬ w.size ≤ 9 := by simp at e1; omega
      have hA : ¬ (w.size ≤ 9 ∧ allIn w decCut = true) := fun h => h9 h.1
      simp only [e1, EV, Nat.reduceEqDiff, Nat.reduceBEq, Nat.reduceLT, Nat.reduceLeDiff, Nat.reduceAdd, Nat.reduceSub, reduceIte]
      have hB0 : (endsH w && (decide ((1 : Int) ≤ (cutH w).size) && decide ((cutH w).size ≤ (7 : Int))) && allIn (cutH w) hexCut && digt (sAt (cutH w) 0)) = false → numN w = none := by
        intro hf
        refine num_none hp h0 hA ?_
        rintro ⟨b1, b2, b3, b4, b5⟩
        rw [b1, b4, b5, decide_eq_true (show (1 : Int) ≤ (cutH w).size by omega), decide_eq_true (show ((cutH w).size : Int) ≤ 7 by omega)] at hf
        cases hf
      rcases q1 : endsH w with _ | _
      · simp only [EV, Nat.reduceEqDiff, Nat.reduceBEq, Nat.reduceLT, Nat.reduceLeDiff, Nat.reduceAdd, Nat.reduceSub, reduceIte]
        simp only [none_ (hB0 (by rw [q1]; rfl)), EV, Nat.reduceEqDiff, Nat.reduceBEq, Nat.reduceLT, Nat.reduceLeDiff, Nat.reduceAdd, Nat.reduceSub, reduceIte, evRE, retVC, cellV', evR, nfz, nfzs, nfzss, List.contains_nil, List.contains_cons, Bool.or_false, or_true]
      simp only [EV, Nat.reduceEqDiff, Nat.reduceBEq, Nat.reduceLT, Nat.reduceLeDiff, Nat.reduceAdd, Nat.reduceSub, reduceIte]
      refine callK_i (d68 _ _ _) ?_
      simp only [EV, Nat.reduceEqDiff, Nat.reduceBEq, Nat.reduceLT, Nat.reduceLeDiff, Nat.reduceAdd, Nat.reduceSub, reduceIte]
      rcases q2 : (decide ((1 : Int) ≤ (cutH w).size) && decide (((cutH w).size : Int) ≤ 7)) with _ | _
      · simp only [EV, Nat.reduceEqDiff, Nat.reduceBEq, Nat.reduceLT, Nat.reduceLeDiff, Nat.reduceAdd, Nat.reduceSub, reduceIte]
        simp only [none_ (hB0 (by rw [q1, q2]; rfl)), EV, Nat.reduceEqDiff, Nat.reduceBEq, Nat.reduceLT, Nat.reduceLeDiff, Nat.reduceAdd, Nat.reduceSub, reduceIte, evRE, retVC, cellV', evR, nfz, nfzs, nfzss, List.contains_nil, List.contains_cons, Bool.or_false, or_true]
      have q2' : 1 ≤ (cutH w).size ∧ (cutH w).size ≤ 7 := by simp at q2; omega
      simp only [EV, Nat.reduceEqDiff, Nat.reduceBEq, Nat.reduceLT, Nat.reduceLeDiff, Nat.reduceAdd, Nat.reduceSub, reduceIte]
      refine callK_i n2 ?_
      simp only [EV, Nat.reduceEqDiff, Nat.reduceBEq, Nat.reduceLT, Nat.reduceLeDiff, Nat.reduceAdd, Nat.reduceSub, reduceIte]
      rcases q3 : allIn (cutH w) hexCut with _ | _
      · simp only [EV, Nat.reduceEqDiff, Nat.reduceBEq, Nat.reduceLT, Nat.reduceLeDiff, Nat.reduceAdd, Nat.reduceSub, reduceIte]
        simp only [none_ (hB0 (by rw [q1, q2, q3]; rfl)), EV, Nat.reduceEqDiff, Nat.reduceBEq, Nat.reduceLT, Nat.reduceLeDiff, Nat.reduceAdd, Nat.reduceSub, reduceIte, evRE, retVC, cellV', evR, nfz, nfzs, nfzss, List.contains_nil, List.contains_cons, Bool.or_false, or_true]
      have q4 : (0 : Int) < (cutH w).size := by omega
      simp only [q4, EV, Nat.reduceEqDiff, Nat.reduceBEq, Nat.reduceLT, Nat.reduceLeDiff, Nat.reduceAdd, Nat.reduceSub, reduceIte]
      repeat (refine And.intro (by omega) ?_)
      refine callK_i (d59 _) ?_
      simp only [EV, Nat.reduceEqDiff, Nat.reduceBEq, Nat.reduceLT, Nat.reduceLeDiff, Nat.reduceAdd, Nat.reduceSub, reduceIte]
      rcases q5 : digt (sAt (cutH w) 0) with _ | _
      · simp only [EV, Nat.reduceEqDiff, Nat.reduceBEq, Nat.reduceLT, Nat.reduceLeDiff, Nat.reduceAdd, Nat.reduceSub, reduceIte]
        simp only [none_ (hB0 (by rw [q1, q2, q3, q5]; rfl)), EV, Nat.reduceEqDiff, Nat.reduceBEq, Nat.reduceLT, Nat.reduceLeDiff, Nat.reduceAdd, Nat.reduceSub, reduceIte, evRE, retVC, cellV', evR, nfz, nfzs, nfzss, List.contains_nil, List.contains_cons, Bool.or_false, or_true]
      have hm := num_hex h0 q1 q2'.2 q3
      have hlt := hexF_lt _ (all_hex.1 q3)
      have hp7 : 16 ^ (cutH w).data.toList.length ≤ 16 ^ 7 := Nat.pow_le_pow_right (by decide) (by rw [Array.length_toList]; exact q2'.2)
      have hp8 : (16 : Nat) ^ 7 = 268435456 := by decide
      have wh := w64 ((hexF 0 (cutH w).data.toList : Nat) : Int) (by omega)
      simp only [EV, Nat.reduceEqDiff, Nat.reduceBEq, Nat.reduceLT, Nat.reduceLeDiff, Nat.reduceAdd, Nat.reduceSub, reduceIte]
      refine callK_i (d77 (cutH w) (by omega) q2'.2 (all_hex.1 q3)) ?_
      simp only [wh, EV, Nat.reduceEqDiff, Nat.reduceBEq, Nat.reduceLT, Nat.reduceLeDiff, Nat.reduceAdd, Nat.reduceSub, reduceIte]
      exact ⟨_, hm, rfl⟩
    · have h9 : w.size ≤ 9 := by simp at e1; omega
      simp only [e1, EV, Nat.reduceEqDiff, Nat.reduceBEq, Nat.reduceLT, Nat.reduceLeDiff, Nat.reduceAdd, Nat.reduceSub, reduceIte]
      refine callK_i n1 ?_
      simp only [EV, Nat.reduceEqDiff, Nat.reduceBEq, Nat.reduceLT, Nat.reduceLeDiff, Nat.reduceAdd, Nat.reduceSub, reduceIte]
      rcases e2 : allIn w decCut with _ | _
      · have hA : ¬ (w.size ≤ 9 ∧ allIn w decCut = true) := fun h => by rw [e2] at h; cases h.2
        simp only [e2, EV, Nat.reduceEqDiff, Nat.reduceBEq, Nat.reduceLT, Nat.reduceLeDiff, Nat.reduceAdd, Nat.reduceSub, reduceIte]
        have hB0 : (endsH w && (decide ((1 : Int) ≤ (cutH w).size) && decide ((cutH w).size ≤ (7 : Int))) && allIn (cutH w) hexCut && digt (sAt (cutH w) 0)) = false → numN w = none := by
          intro hf
          refine num_none hp h0 hA ?_
          rintro ⟨b1, b2, b3, b4, b5⟩
          rw [b1, b4, b5, decide_eq_true (show (1 : Int) ≤ (cutH w).size by omega), decide_eq_true (show ((cutH w).size : Int) ≤ 7 by omega)] at hf
          cases hf
        rcases q1 : endsH w with _ | _
        · simp only [EV, Nat.reduceEqDiff, Nat.reduceBEq, Nat.reduceLT, Nat.reduceLeDiff, Nat.reduceAdd, Nat.reduceSub, reduceIte]
          simp only [none_ (hB0 (by rw [q1]; rfl)), EV, Nat.reduceEqDiff, Nat.reduceBEq, Nat.reduceLT, Nat.reduceLeDiff, Nat.reduceAdd, Nat.reduceSub, reduceIte, evRE, retVC, cellV', evR, nfz, nfzs, nfzss, List.contains_nil, List.contains_cons, Bool.or_false, or_true]
        simp only [EV, Nat.reduceEqDiff, Nat.reduceBEq, Nat.reduceLT, Nat.reduceLeDiff, Nat.reduceAdd, Nat.reduceSub, reduceIte]
        refine callK_i (d68 _ _ _) ?_
        simp only [EV, Nat.reduceEqDiff, Nat.reduceBEq, Nat.reduceLT, Nat.reduceLeDiff, Nat.reduceAdd, Nat.reduceSub, reduceIte]
        rcases q2 : (decide ((1 : Int) ≤ (cutH w).size) && decide (((cutH w).size : Int) ≤ 7)) with _ | _
        · simp only [EV, Nat.reduceEqDiff, Nat.reduceBEq, Nat.reduceLT, Nat.reduceLeDiff, Nat.reduceAdd, Nat.reduceSub, reduceIte]
          simp only [none_ (hB0 (by rw [q1, q2]; rfl)), EV, Nat.reduceEqDiff, Nat.reduceBEq, Nat.reduceLT, Nat.reduceLeDiff, Nat.reduceAdd, Nat.reduceSub, reduceIte, evRE, retVC, cellV', evR, nfz, nfzs, nfzss, List.contains_nil, List.contains_cons, Bool.or_false, or_true]
        have q2' : 1 ≤ (cutH w).size ∧ (cutH w).size ≤ 7 := by simp at q2; omega
        simp only [EV, Nat.reduceEqDiff, Nat.reduceBEq, Nat.reduceLT, Nat.reduceLeDiff, Nat.reduceAdd, Nat.reduceSub, reduceIte]
        refine callK_i n2 ?_
        simp only [EV, Nat.reduceEqDiff, Nat.reduceBEq, Nat.reduceLT, Nat.reduceLeDiff, Nat.reduceAdd, Nat.reduceSub, reduceIte]
        rcases q3 : allIn (cutH w) hexCut with _ | _
        · simp only [EV, Nat.reduceEqDiff, Nat.reduceBEq, Nat.reduceLT, Nat.reduceLeDiff, Nat.reduceAdd, Nat.reduceSub, reduceIte]
          simp only [none_ (hB0 (by rw [q1, q2, q3]; rfl)), EV, Nat.reduceEqDiff, Nat.reduceBEq, Nat.reduceLT, Nat.reduceLeDiff, Nat.reduceAdd, Nat.reduceSub, reduceIte, evRE, retVC, cellV', evR, nfz, nfzs, nfzss, List.contains_nil, List.contains_cons, Bool.or_false, or_true]
        have q4 : (0 : Int) < (cutH w).size := by omega
        simp only [q4, EV, Nat.reduceEqDiff, Nat.reduceBEq, Nat.reduceLT, Nat.reduceLeDiff, Nat.reduceAdd, Nat.reduceSub, reduceIte]
        repeat (refine And.intro (by omega) ?_)
        refine callK_i (d59 _) ?_
        simp only [EV, Nat.reduceEqDiff, Nat.reduceBEq, Nat.reduceLT, Nat.reduceLeDiff, Nat.reduceAdd, Nat.reduceSub, reduceIte]
        rcases q5 : digt (sAt (cutH w) 0) with _ | _
        · simp only [EV, Nat.reduceEqDiff, Nat.reduceBEq, Nat.reduceLT, Nat.reduceLeDiff, Nat.reduceAdd, Nat.reduceSub, reduceIte]
          simp only [none_ (hB0 (by rw [q1, q2, q3, q5]; rfl)), EV, Nat.reduceEqDiff, Nat.reduceBEq, Nat.reduceLT, Nat.reduceLeDiff, Nat.reduceAdd, Nat.reduceSub, reduceIte, evRE, retVC, cellV', evR, nfz, nfzs, nfzss, List.contains_nil, List.contains_cons, Bool.or_false, or_true]
        have hm := num_hex h0 q1 q2'.2 q3
        have hlt := hexF_lt _ (all_hex.1 q3)
        have hp7 : 16 ^ (cutH w).data.toList.length ≤ 16 ^ 7 := Nat.pow_le_pow_right (by decide) (by rw [Array.length_toList]; exact q2'.2)
        have hp8 : (16 : Nat) ^ 7 = 268435456 := by decide
        have wh := w64 ((hexF 0 (cutH w).data.toList : Nat) : Int) (by omega)
        simp only [EV, Nat.reduceEqDiff, Nat.reduceBEq, Nat.reduceLT, Nat.reduceLeDiff, Nat.reduceAdd, Nat.reduceSub, reduceIte]
        refine callK_i (d77 (cutH w) (by omega) q2'.2 (all_hex.1 q3)) ?_
        simp only [wh, EV, Nat.reduceEqDiff, Nat.reduceBEq, Nat.reduceLT, Nat.reduceLeDiff, Nat.reduceAdd, Nat.reduceSub, reduceIte]
        exact ⟨_, hm, rfl⟩
      · obtain ⟨m, m1, m2⟩ := num_dec hp h9 e2
        simp only [e2, EV, Nat.reduceEqDiff, Nat.reduceBEq, Nat.reduceLT, Nat.reduceLeDiff, Nat.reduceAdd, Nat.reduceSub, reduceIte]
        refine callK_i (d76 w m (by omega) m2) ?_
        simp only [EV, Nat.reduceEqDiff, Nat.reduceBEq, Nat.reduceLT, Nat.reduceLeDiff, Nat.reduceAdd, Nat.reduceSub, reduceIte]
        exact ⟨m, m1, rfl⟩
  · intro m hm
    simp only [Bool.not_false, EV, Nat.reduceEqDiff, Nat.reduceBEq, Nat.reduceLT, Nat.reduceLeDiff, Nat.reduceAdd, Nat.reduceSub, reduceIte]
    simp only [some_ m hm, Bool.not_false, EV, Nat.reduceEqDiff, Nat.reduceBEq, Nat.reduceLT, Nat.reduceLeDiff, Nat.reduceAdd, Nat.reduceSub, reduceIte, evRE, retVC, cellV', evR, nfz, nfzs, nfzss, List.contains_nil, List.contains_cons, Bool.or_false, or_true]
end Go.AM
