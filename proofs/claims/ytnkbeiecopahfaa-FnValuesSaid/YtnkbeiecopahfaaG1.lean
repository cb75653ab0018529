/- Contracts of functions of the given program, for the law FnValues: what they return and what they write, under the bounds that each theorem states. -/
import Derived.Test.YtnkbeiecopahfaaF3
import Derived.Test.YtnkbeiecopahfaaProg
namespace Go.AM
set_option linter.unusedVariables false
set_option linter.unusedSimpArgs false
def m43 : MC :=
 (.seq (.reg [Xb 6 (.asg .fb)]) (.seq (.reg [Xm 7 0, Xm 8 1, Xq 9 (.bin false .geq (.t 7) (.t 8)), Xm 10 9, Xt 11 10 (.mov (.t 0)), Xt 12 10 (.mov (.t 2)), Xt 13 10 (.bin false .leq (.t 11) (.t 12)), Xq 14 (.pick (.t 10) (.t 13) .fb), Xa 6 14]) .ret))
theorem d43 (x lo hi : Int) : Does Go.Proofs.Try.prog 43 [.v (.int .i64 x), .v (.int .i64 lo), .v (.int .i64 hi)] false (.v (.bool (decide (lo ≤ x) && decide (x ≤ hi)))) [.dead, .dead, .dead] := by
  refine does_intro (mc := m43) (N := 15) (rs := [6]) (fx := []) 3 rfl (by decide +kernel) ?_
  simp only [m43, EV, Nat.reduceEqDiff, Nat.reduceBEq, Nat.reduceLT, Nat.reduceLeDiff, Nat.reduceAdd, Nat.reduceSub, reduceIte]
  repeat' (first
    | (refine gK_cut (fun h => ?_) (fun h => ?_) <;> simp only [h, EV, Nat.reduceEqDiff, Nat.reduceBEq, Nat.reduceLT, Nat.reduceLeDiff, Nat.reduceAdd, Nat.reduceSub, reduceIte])
    | (refine cK_cut (fun h => ?_) (fun h => ?_) <;> simp only [h, EV, Nat.reduceEqDiff, Nat.reduceBEq, Nat.reduceLT, Nat.reduceLeDiff, Nat.reduceAdd, Nat.reduceSub, reduceIte]))
  all_goals simp only [h, EV, Nat.reduceEqDiff, Nat.reduceBEq, Nat.reduceLT, Nat.reduceLeDiff, Nat.reduceAdd, Nat.reduceSub, reduceIte, evRE, retVC, cellV', evR, nfz, nfzs, nfzss, List.contains_nil, List.contains_cons, Bool.or_false, or_true]
def m53 : MC :=
 (.seq (.reg [Xb 6 (.asg .fb)]) (.seq (.reg [Xm 7 0, Xm 8 1, Xq 9 (.bin false .geq (.t 7) (.t 8)), Xm 10 9, Xt 11 10 (.mov (.t 0)), Xt 12 10 (.mov (.t 2)), Xt 13 10 (.bin false .leq (.t 11) (.t 12)), Xq 14 (.pick (.t 10) (.t 13) .fb), Xa 6 14]) .ret))
theorem d53 (x lo hi : Int) : Does Go.Proofs.Try.prog 53 [.v (.int .i64 x), .v (.int .i64 lo), .v (.int .i64 hi)] false (.v (.bool (decide (lo ≤ x) && decide (x ≤ hi)))) [.dead, .dead, .dead] := by
  refine does_intro (mc := m53) (N := 15) (rs := [6]) (fx := []) 3 rfl (by decide +kernel) ?_
  simp only [m53, EV, Nat.reduceEqDiff, Nat.reduceBEq, Nat.reduceLT, Nat.reduceLeDiff, Nat.reduceAdd, Nat.reduceSub, reduceIte]
  repeat' (first
    | (refine gK_cut (fun h => ?_) (fun h => ?_) <;> simp only [h, EV, Nat.reduceEqDiff, Nat.reduceBEq, Nat.reduceLT, Nat.reduceLeDiff, Nat.reduceAdd, Nat.reduceSub, reduceIte])
    | (refine cK_cut (fun h => ?_) (fun h => ?_) <;> simp only [h, EV, Nat.reduceEqDiff, Nat.reduceBEq, Nat.reduceLT, Nat.reduceLeDiff, Nat.reduceAdd, Nat.reduceSub, reduceIte]))
  all_goals simp only [h, EV, Nat.reduceEqDiff, Nat.reduceBEq, Nat.reduceLT, Nat.reduceLeDiff, Nat.reduceAdd, Nat.reduceSub, reduceIte, evRE, retVC, cellV', evR, nfz, nfzs, nfzss, List.contains_nil, List.contains_cons, Bool.or_false, or_true]
def lett (b : Int) : Bool := decide (65 ≤ b) && decide (b ≤ 90) || decide (97 ≤ b) && decide (b ≤ 122)
def digt (b : Int) : Bool := decide (48 ≤ b) && decide (b ≤ 57)
def m66 : MC :=
 (.seq (.reg [Xb 2 (.asg .fb)]) (.seq (.reg [Xm 3 0, Xq 4 (.bin false .geq (.t 3) (.c (.int .u8 65))), Xm 5 4, Xt 6 5 (.mov (.t 0)), Xt 7 5 (.bin false .leq (.t 6) (.c (.int .u8 90))), Xq 8 (.pick (.t 5) (.t 7) .fb), Xm 9 8, Xu 10 9 (.mov (.t 0)), Xu 11 9 (.bin false .geq (.t 10) (.c (.int .u8 97))), Xu 12 9 (.mov (.t 11)), Xt 13 12 (.mov (.t 0)), Xt 14 12 (.bin false .leq (.t 13) (.c (.int .u8
 122))), Xu 15 9 (.pick (.t 12) (.t 14) .fb), Xq 16 (.pick (.t 9) .tb (.t 15)), Xa 2 16]) .ret))
theorem d66 (b : Int) : Does Go.Proofs.Try.prog 66 [.v (.int .u8 b)] false (.v (.bool (lett b))) [.dead] := by
  refine does_intro (mc := m66) (N := 17) (rs := [2]) (fx := []) 1 rfl (by decide +kernel) ?_
  simp only [m66, EV, Nat.reduceEqDiff, Nat.reduceBEq, Nat.reduceLT, Nat.reduceLeDiff, Nat.reduceAdd, Nat.reduceSub, reduceIte]
  repeat' (first
    | (refine gK_cut (fun h => ?_) (fun h => ?_) <;> simp only [h, EV, Nat.reduceEqDiff, Nat.reduceBEq, Nat.reduceLT, Nat.reduceLeDiff, Nat.reduceAdd, Nat.reduceSub, reduceIte])
    | (refine cK_cut (fun h => ?_) (fun h => ?_) <;> simp only [h, EV, Nat.reduceEqDiff, Nat.reduceBEq, Nat.reduceLT, Nat.reduceLeDiff, Nat.reduceAdd, Nat.reduceSub, reduceIte]))
  all_goals simp only [lett, *, Bool.or_true, Bool.true_or, Bool.false_or, Bool.or_false, EV, Nat.reduceEqDiff, Nat.reduceBEq, Nat.reduceLT, Nat.reduceLeDiff, Nat.reduceAdd, Nat.reduceSub, reduceIte, evRE, retVC, cellV', evR, nfz, nfzs, nfzss, List.contains_nil, List.contains_cons, Bool.or_false, or_true]
def m67 : MC :=
 (.seq (.reg [Xb 2 (.asg .fb)]) (.seq (.reg [Xm 3 0, Xq 4 (.bin false .geq (.t 3) (.c (.int .u8 48))), Xm 5 4, Xt 6 5 (.mov (.t 0)), Xt 7 5 (.bin false .leq (.t 6) (.c (.int .u8 57))), Xq 8 (.pick (.t 5) (.t 7) .fb), Xa 2 8]) .ret))
theorem d67 (b : Int) : Does Go.Proofs.Try.prog 67 [.v (.int .u8 b)] false (.v (.bool (digt b))) [.dead] := by
  refine does_intro (mc := m67) (N := 9) (rs := [2]) (fx := []) 1 rfl (by decide +kernel) ?_
  simp only [m67, EV, Nat.reduceEqDiff, Nat.reduceBEq, Nat.reduceLT, Nat.reduceLeDiff, Nat.reduceAdd, Nat.reduceSub, reduceIte]
  repeat' (first
    | (refine gK_cut (fun h => ?_) (fun h => ?_) <;> simp only [h, EV, Nat.reduceEqDiff, Nat.reduceBEq, Nat.reduceLT, Nat.reduceLeDiff, Nat.reduceAdd, Nat.reduceSub, reduceIte])
    | (refine cK_cut (fun h => ?_) (fun h => ?_) <;> simp only [h, EV, Nat.reduceEqDiff, Nat.reduceBEq, Nat.reduceLT, Nat.reduceLeDiff, Nat.reduceAdd, Nat.reduceSub, reduceIte]))
  all_goals simp only [digt, *, EV, Nat.reduceEqDiff, Nat.reduceBEq, Nat.reduceLT, Nat.reduceLeDiff, Nat.reduceAdd, Nat.reduceSub, reduceIte, evRE, retVC, cellV', evR, nfz, nfzs, nfzss, List.contains_nil, List.contains_cons, Bool.or_false, or_true]
def chOk (s : ByteArray) (i : Nat) : Bool := lett (sAt s i) || (i != 0 && digt (sAt s i))
def chsOk (s : ByteArray) (i : Nat) : Prop := ∀ j, j < i → chOk s j = true
open Classical in
noncomputable def nameOk (s : ByteArray) : Bool := decide (chsOk s s.size ∧ 1 ≤ s.size ∧ s.size ≤ 10)
theorem chsOk_succ {s : ByteArray} {i : Nat} (h : chsOk s i) (h2 : chOk s i = true) : chsOk s (i + 1) := by
  intro j hj
  by_cases e : j = i
  · subst e; exact h2
  · exact h j (by omega)
theorem nameOk_no {s : ByteArray} {i : Nat} (hi : i < s.size) (h : chOk s i = false) : nameOk s = false := by
  simp only [nameOk, decide_eq_false_iff_not]
  rintro ⟨h1, _⟩
  have := h1 i hi
  rw [h] at this; cases this
theorem nameOk_yes {s : ByteArray} (h : chsOk s s.size) : nameOk s = (decide ((1 : Int) ≤ s.size) && decide ((s.size : Int) ≤ 10)) := by
  have e1 : decide ((1 : Int) ≤ s.size) = decide (1 ≤ s.size) := by congr 1; apply propext; omega
  have e2 : decide ((s.size : Int) ≤ 10) = decide (s.size ≤ 10) := by congr 1; apply propext; omega
  simp [nameOk, h, e1, e2]
def m55 : MC :=
 (.seq (.reg [Xb 2 (.asg .fb)]) (.seq (.seq (.reg [Xb 3 (.asg (.i 0))]) (.block 0 (.loop [0, 3] (.seq (.seq (.reg [Xm 6 3, Xm 7 0, Xq 8 (.len true (.t 7)), Xq 9 (.bin false .lss (.t 6) (.t 8))]) (.cond (.t 9) .skip (.exit 0))) (.seq (.block 1 (.seq (.reg [Xm 12 0, Xm 13 3, Xq 14 (.idx (.t 12) (.t 13)), Xa 4 14]) (.join [0, 3, 4, 5] (.reg [Xm 15 4, Xq 16 (.bin false .geq (.t 15) (.c (.int .u8 65))),
 Xm 17 16, Xt 18 17 (.mov (.t 4)), Xt 19 17 (.bin false .leq (.t 18) (.c (.int .u8 90))), Xq 20 (.pick (.t 17) (.t 19) .fb), Xm 21 20, Xu 22 21 (.mov (.t 4)), Xu 23 21 (.bin false .geq (.t 22) (.c (.int .u8 97))), Xu 24 21 (.mov (.t 23)), Xt 25 24 (.mov (.t 4)), Xt 26 24 (.bin false .leq (.t 25) (.c (.int .u8 122))), Xu 27 21 (.pick (.t 24) (.t 26) .fb), Xq 28 (.pick (.t 21) .tb (.t 27)), Xa 5 28])
 (.seq (.reg [Xm 29 5, Xq 30 (.un .not (.t 29)), Xm 31 30, Xt 32 31 (.mov (.t 3)), Xt 33 31 (.bin false .eql (.t 32) (.i 0)), Xt 34 31 (.mov (.t 33)), Xu 35 34 (.mov (.t 4)), Xu 36 34 (.bin false .lss (.t 35) (.c (.int .u8 48))), Xt 37 31 (.pick (.t 34) .tb (.t 36)), Xt 38 31 (.mov (.t 37)), Xu 39 38 (.mov (.t 4)), Xu 40 38 (.bin false .gtr (.t 39) (.c (.int .u8 57))), Xt 41 31 (.pick (.t 38) .tb
 (.t 40)), Xq 42 (.pick (.t 31) (.t 41) .fb)]) (.cond (.t 42) (.seq (.reg [Xb 2 (.asg .fb)]) .ret) .skip))))) (.reg [Xm 10 3, Xq 11 (.bin false .add (.t 10) (.i 1)), Xa 3 11])))))) (.seq (.reg [Xm 43 0, Xq 44 (.len true (.t 43)), Xb 45 (.call (.fn 43) false [.lend (.t 44), .lend (.i 1), .lend (.i 10)]), Xa 2 45]) .ret)))
theorem d55 (s : ByteArray) (hs : (s.size : Int) ≤ 9223372036854775807) : Does Go.Proofs.Try.prog 55 [.v (.string s)] false (.v (.bool (nameOk s))) [.dead] := by
  refine does_intro (mc := m55) (N := 46) (rs := [2]) (fx := []) 1 rfl (by decide +kernel) ?_
  simp only [m55, EV, Nat.reduceEqDiff, Nat.reduceBEq, Nat.reduceLT, Nat.reduceLeDiff, Nat.reduceAdd, Nat.reduceSub, reduceIte]
  refine awp_loop (fun i : Nat => i ≤ s.size ∧ chsOk s i) (fun i => stl [(0, .v (.string s)), (3, .v (.int .i64 (i : Int)))]) (fun i => s.size - i) 0 ⟨by omega, fun j hj => absurd hj (by omega)⟩ ?_ ?_
  · simp only [EV, Nat.reduceEqDiff, Nat.reduceBEq, Nat.reduceLT, Nat.reduceLeDiff, Nat.reduceAdd, Nat.reduceSub, reduceIte]
    rfl
  · rintro i ⟨h0, h1⟩
    simp only [EV, Nat.reduceEqDiff, Nat.reduceBEq, Nat.reduceLT, Nat.reduceLeDiff, Nat.reduceAdd, Nat.reduceSub, reduceIte]
    refine cK_cut (fun h => ?_) (fun h => ?_)
    · have h2 : (i : Int) < s.size := by simpa using h
      simp only [h2, EV, Nat.reduceEqDiff, Nat.reduceBEq, Nat.reduceLT, Nat.reduceLeDiff, Nat.reduceAdd, Nat.reduceSub, reduceIte]
      refine awp_join (fun _ : Unit => True) (fun _ => stl [(0, .v (.string s)), (3, .v (.int .i64 (i : Int))), (4, .v (.int .u8 (sAt s i))), (5, .v (.bool (lett (sAt s i))))]) ?_ ?_
      · simp only [EV, Nat.reduceEqDiff, Nat.reduceBEq, Nat.reduceLT, Nat.reduceLeDiff, Nat.reduceAdd, Nat.reduceSub, reduceIte]
        repeat' (first
    | (refine gK_cut (fun h => ?_) (fun h => ?_) <;> simp only [h, EV, Nat.reduceEqDiff, Nat.reduceBEq, Nat.reduceLT, Nat.reduceLeDiff, Nat.reduceAdd, Nat.reduceSub, reduceIte])
    | (refine cK_cut (fun h => ?_) (fun h => ?_) <;> simp only [h, EV, Nat.reduceEqDiff, Nat.reduceBEq, Nat.reduceLT, Nat.reduceLeDiff, Nat.reduceAdd, Nat.reduceSub, reduceIte]))
        all_goals refine ⟨(), ?_⟩
        all_goals simp only [lett, *, Bool.or_true, Bool.true_or, Bool.false_or, Bool.or_false, EV, Nat.reduceEqDiff, Nat.reduceBEq, Nat.reduceLT, Nat.reduceLeDiff, Nat.reduceAdd, Nat.reduceSub, reduceIte]
      · rintro _ _
        simp only [EV, Nat.reduceEqDiff, Nat.reduceBEq, Nat.reduceLT, Nat.reduceLeDiff, Nat.reduceAdd, Nat.reduceSub, reduceIte]
        repeat' (first
    | (refine gK_cut (fun h => ?_) (fun h => ?_) <;> simp only [h, EV, Nat.reduceEqDiff, Nat.reduceBEq, Nat.reduceLT, Nat.reduceLeDiff, Nat.reduceAdd, Nat.reduceSub, reduceIte])
    | (refine cK_cut (fun h => ?_) (fun h => ?_) <;> simp only [h, EV, Nat.reduceEqDiff, Nat.reduceBEq, Nat.reduceLT, Nat.reduceLeDiff, Nat.reduceAdd, Nat.reduceSub, reduceIte]))
        all_goals first
          | (have hc : chOk s i = false := by
               simp_all [chOk, digt] <;> omega
             simp only [nameOk_no (by omega) hc, EV, Nat.reduceEqDiff, Nat.reduceBEq, Nat.reduceLT, Nat.reduceLeDiff, Nat.reduceAdd, Nat.reduceSub, reduceIte, evRE, retVC, cellV', evR, nfz, nfzs, nfzss, List.contains_nil, List.contains_cons, Bool.or_false, or_true]
             done)
          | (have hc : chOk s i = true := by
               simp_all [chOk, digt] <;> omega
             rw [w64 _ (by omega)]
             exact ⟨i + 1, ⟨by omega, chsOk_succ h1 hc⟩, by omega, rfl⟩)
    · have h2 : i = s.size := by have : ¬ (i : Int) < s.size := by simpa using h
                                 omega
      subst h2
      simp only [EV, Nat.reduceEqDiff, Nat.reduceBEq, Nat.reduceLT, Nat.reduceLeDiff, Nat.reduceAdd, Nat.reduceSub, reduceIte]
      refine callK_i (d43 _ _ _) ?_
      simp only [EV, Nat.reduceEqDiff, Nat.reduceBEq, Nat.reduceLT, Nat.reduceLeDiff, Nat.reduceAdd, Nat.reduceSub, reduceIte]
      simp only [nameOk_yes h1, EV, Nat.reduceEqDiff, Nat.reduceBEq, Nat.reduceLT, Nat.reduceLeDiff, Nat.reduceAdd, Nat.reduceSub, reduceIte, evRE, retVC, cellV', evR, nfz, nfzs, nfzss, List.contains_nil, List.contains_cons, Bool.or_false, or_true]
end Go.AM
namespace Go.AM
set_option linter.unusedVariables false
set_option linter.unusedSimpArgs false
def m54 : MC :=
 (.seq (.reg [Xb 2 (.asg .fb)]) (.seq (.seq (.reg [Xm 4 0, Xq 5 (.len true (.t 4)), Xq 6 (.mov (.i 0))]) (.block 0 (.loop [0, 5, 6] (.seq (.reg [Xq 7 (.bin false .lss (.t 6) (.t 5))]) (.seq (.cond (.t 7) .skip (.exit 0)) (.seq (.block 1 (.seq (.reg [Xm 8 6, Xa 3 8]) (.seq (.reg [Xm 9 0, Xm 10 3, Xq 11 (.idx (.t 9) (.t 10)), Xb 12 (.call (.fn 66) false [.lend (.t 11)]), Xq 13 (.un .not (.t 12)), Xm
 14 13, Xt 15 14 (.mov (.t 3)), Xt 16 14 (.bin false .eql (.t 15) (.i 0)), Xt 17 14 (.mov (.t 16)), Xu 18 17 (.mov (.t 0)), Xu 19 17 (.mov (.t 3)), Xu 20 17 (.idx (.t 18) (.t 19)), XU 21 17 (.call (.fn 67) false [.lend (.t 20)]), Xu 22 17 (.un .not (.t 21)), Xt 23 14 (.pick (.t 17) .tb (.t 22)), Xq 24 (.pick (.t 14) (.t 23) .fb)]) (.cond (.t 24) (.seq (.reg [Xb 2 (.asg .fb)]) .ret) .skip)))) (.reg
 [Xq 25 (.bin false .add (.t 6) (.i 1)), Xm 6 25]))))))) (.seq (.reg [Xm 26 0, Xq 27 (.len true (.t 26)), Xb 28 (.call (.fn 53) false [.lend (.t 27), .lend (.i 1), .lend (.i 10)]), Xa 2 28]) .ret)))
theorem d54 (s : ByteArray) (hs : (s.size : Int) ≤ 9223372036854775807) : Does Go.Proofs.Try.prog 54 [.v (.string s)] false (.v (.bool (nameOk s))) [.dead] := by
  refine does_intro (mc := m54) (N := 29) (rs := [2]) (fx := []) 1 rfl (by decide +kernel) ?_
  simp only [m54, EV, Nat.reduceEqDiff, Nat.reduceBEq, Nat.reduceLT, Nat.reduceLeDiff, Nat.reduceAdd, Nat.reduceSub, reduceIte]
  refine awp_loop (fun i : Nat => i ≤ s.size ∧ chsOk s i) (fun i => stl [(0, .v (.string s)), (5, .v (.int .i64 (s.size : Int))), (6, .v (.int .i64 (i : Int)))]) (fun i => s.size - i) 0 ⟨by omega, fun j hj => absurd hj (by omega)⟩ ?_ ?_
  · simp only [EV, Nat.reduceEqDiff, Nat.reduceBEq, Nat.reduceLT, Nat.reduceLeDiff, Nat.reduceAdd, Nat.reduceSub, reduceIte]
    rfl
  · rintro i ⟨h0, h1⟩
    simp only [EV, Nat.reduceEqDiff, Nat.reduceBEq, Nat.reduceLT, Nat.reduceLeDiff, Nat.reduceAdd, Nat.reduceSub, reduceIte]
    refine cK_cut (fun h => ?_) (fun h => ?_)
    · have h2 : (i : Int) < s.size := by simpa using h
      simp only [h2, EV, Nat.reduceEqDiff, Nat.reduceBEq, Nat.reduceLT, Nat.reduceLeDiff, Nat.reduceAdd, Nat.reduceSub, reduceIte]
      refine callK_i (d66 _) ?_
      simp only [EV, Nat.reduceEqDiff, Nat.reduceBEq, Nat.reduceLT, Nat.reduceLeDiff, Nat.reduceAdd, Nat.reduceSub, reduceIte]
      repeat' (first
    | (refine gK_cut (fun h => ?_) (fun h => ?_) <;> simp only [h, h2, EV, Nat.reduceEqDiff, Nat.reduceBEq, Nat.reduceLT, Nat.reduceLeDiff, Nat.reduceAdd, Nat.reduceSub, reduceIte])
    | (refine cK_cut (fun h => ?_) (fun h => ?_) <;> simp only [h, h2, EV, Nat.reduceEqDiff, Nat.reduceBEq, Nat.reduceLT, Nat.reduceLeDiff, Nat.reduceAdd, Nat.reduceSub, reduceIte])
    | (refine callK_i (d67 _) ?_ <;> simp only [h, h2, EV, Nat.reduceEqDiff, Nat.reduceBEq, Nat.reduceLT, Nat.reduceLeDiff, Nat.reduceAdd, Nat.reduceSub, reduceIte]))
      all_goals first
          | (have hc : chOk s i = false := by
               simp_all [chOk]
             simp only [nameOk_no (by omega) hc, EV, Nat.reduceEqDiff, Nat.reduceBEq, Nat.reduceLT, Nat.reduceLeDiff, Nat.reduceAdd, Nat.reduceSub, reduceIte, evRE, retVC, cellV', evR, nfz, nfzs, nfzss, List.contains_nil, List.contains_cons, Bool.or_false, or_true]
             done)
          | (have hc : chOk s i = true := by
               simp_all [chOk] <;> omega
             rw [w64 _ (by omega)]
             exact ⟨i + 1, ⟨by omega, chsOk_succ h1 hc⟩, by omega, rfl⟩)
    · have h2 : i = s.size := by have : ¬ (i : Int) < s.size := by simpa using h
                                 omega
      subst h2
      simp only [EV, Nat.reduceEqDiff, Nat.reduceBEq, Nat.reduceLT, Nat.reduceLeDiff, Nat.reduceAdd, Nat.reduceSub, reduceIte]
      refine callK_i (d53 _ _ _) ?_
      simp only [EV, Nat.reduceEqDiff, Nat.reduceBEq, Nat.reduceLT, Nat.reduceLeDiff, Nat.reduceAdd, Nat.reduceSub, reduceIte]
      simp only [nameOk_yes h1, EV, Nat.reduceEqDiff, Nat.reduceBEq, Nat.reduceLT, Nat.reduceLeDiff, Nat.reduceAdd, Nat.reduceSub, reduceIte, evRE, retVC, cellV', evR, nfz, nfzs, nfzss, List.contains_nil, List.contains_cons, Bool.or_false, or_true]
end Go.AM
namespace Go.AM
set_option linter.unusedVariables false
set_option linter.unusedSimpArgs false
theorem ovw_all {l cs : List AV} (h : l.length = cs.length) : ovw l 0 cs = cs := by
  simp [ovw, ← h]
structure Seen where
  mod : ByteArray
  name : ByteArray
  sum : Int
end Go.AM
namespace Go.AM
set_option linter.unusedVariables false
set_option linter.unusedSimpArgs false
structure Step where
  kind : Int
  value : Int
  mod : ByteArray
  name : ByteArray
def Step.c (s : Step) : List AV := [.v (.int .i64 s.kind), .v (.int .i64 s.value), .v (.string s.mod), .v (.string s.name)]
theorem StepE : (∀ f : Step, f.c.length = 4) ∧ (∀ f : Step, f.c.take 4 = f.c) ∧ (∀ (st : St) (f : Step), frzBs st f.c = f.c) ∧ (∀ f : Step, bares f.c = true) ∧ (∀ f : Step, plains f.c = true) ∧ (∀ f : Step, frzRow f.c = f.c) ∧ (∀ (f : Step) (K : Nat → List (Nat × Nat) → Bool), killVs K f.c = f.c) ∧ (∀ (f : Step) (n : Nat) (p : List (Nat × Nat)) (i : Nat), brws n p i 0 f.c = f.c) ∧ (∀ f : Step, f.c.all storL = true) ∧ (∀ (f : Step) (l : List AV), l.length = 4 → ovw l 0 f.c = f.c) :=
  ⟨fun _ => rfl, fun _ => rfl, fun _ _ => rfl, fun _ => rfl, fun _ => rfl, fun _ => rfl, fun _ _ => rfl, fun _ _ _ _ => rfl, fun _ => rfl, fun f l h => ovw_all (by rw [h]; rfl)⟩
theorem Step.nfz : ∀ l : List Step, nfzss (l.map Step.c) = true
  | [] => rfl
  | s :: l => by simp only [List.map_cons, nfzss, Step.nfz l]; rfl
theorem Step.frz : ∀ l : List Step, frzRows (l.map Step.c) = l.map Step.c
  | [] => rfl
  | s :: l => by simp [frzRows, StepE, Step.frz l]
def Step.ok (s : Step) : Prop := -9223372036854775808 ≤ s.kind ∧ s.kind ≤ 9223372036854775807 ∧ -9223372036854775808 ≤ s.value ∧ s.value ≤ 9223372036854775807 ∧ (s.mod.size : Int) ≤ 9223372036854775807 ∧ (s.name.size : Int) ≤ 9223372036854775807
end Go.AM
namespace Go.AM
set_option linter.unusedVariables false
set_option linter.unusedSimpArgs false
def same (x o : Seen) : Bool := o.mod.toList == x.mod.toList && o.name.toList == x.name.toList
def findI {α : Type} (q : α → Bool) (l : List α) : Int := match l.findIdx? q with | some i => i | none => -1
theorem findI_at {α : Type} {q : α → Bool} {l : List α} {i : Nat} (h : i < l.length) (h1 : q l[i] = true) (h2 : ∀ j (hj : j < l.length), j < i → q l[j] = false) : findI q l = i := by
  have : l.findIdx? q = some i := by
    rw [List.findIdx?_eq_some_iff_getElem]
    exact ⟨h, h1, fun j hj => by simp [h2 j (by omega) hj]⟩
  simp [findI, this]
theorem findI_no {α : Type} {q : α → Bool} {l : List α} (h2 : ∀ j (hj : j < l.length), q l[j] = false) : findI q l = -1 := by
  have : l.findIdx? q = none := by
    rw [List.findIdx?_eq_none_iff]
    intro x hx
    obtain ⟨j, hj, rfl⟩ := List.getElem_of_mem hx
    exact h2 j hj
  simp [findI, this]
theorem findI_any {α : Type} {q : α → Bool} {l : List α} : decide (0 ≤ findI q l) = l.any q := by
  unfold findI
  cases h : l.findIdx? q with
  | none =>
    rw [List.findIdx?_eq_none_iff] at h
    have : l.any q = false := by simp only [List.any_eq_false]; intro x hx; simp [h x hx]
    simp [this]
  | some i =>
    rw [List.findIdx?_eq_some_iff_getElem] at h
    obtain ⟨hi, h1, _⟩ := h
    have : l.any q = true := by rw [List.any_eq_true]; exact ⟨l[i], List.getElem_mem hi, h1⟩
    simp only [this]
    simp
end Go.AM
namespace Go.AM
set_option linter.unusedVariables false
set_option linter.unusedSimpArgs false
def bv (n : Int) : List AV := [.v (.int .u8 n)]
structure Cur where
  code : List Int
  pos : Int
  seed : Int
def Cur.z (c : Cur) : List AV := [.fsl 1 (c.code.map bv), .v (.int .i64 c.pos), .v (.int .u64 c.seed)]
def Cur.ok (c : Cur) (n : Int) : Prop := (c.code.length : Int) ≤ 1048576 ∧ (∀ b ∈ c.code, 0 ≤ b ∧ b ≤ 255) ∧ 0 ≤ c.pos ∧ c.pos ≤ n
theorem Cur.ok.up {c : Cur} {n m : Int} (h : c.ok n) (hm : n ≤ m) : c.ok m := ⟨h.1, h.2.1, h.2.2.1, by have := h.2.2.2; omega⟩
def andK (kd : IntKind) (a b : Int) : Int := kd.wrap (BitVec.ofInt kd.bits a &&& BitVec.ofInt kd.bits b).toNat
def shrK (kd : IntKind) (a b : Int) : Int := a.fdiv (2 ^ (min b.toNat kd.bits))
theorem evB2 :
    (∀ (kd ky : IntKind) (a b : Int) (K : AV → Prop), (binV .shr (.v (.int kd a)) (.v (.int ky b)) K = (0 ≤ b ∧ K (.v (.int kd (shrK kd a b)))))) ∧
    (∀ (kd : IntKind) (a b : Int) (K : AV → Prop), (binV .and (.v (.int kd a)) (.v (.int kd b)) K = K (.v (.int kd (andK kd a b))))) := by
  refine ⟨?_, ?_⟩ <;> intros <;> simp [binV, binC, binR, andK, shrK]
theorem andK_255 (a : Int) : 0 ≤ andK .u64 a 255 ∧ andK .u64 a 255 ≤ 255 := by
  have h2 : (BitVec.ofInt IntKind.u64.bits 255).toNat = 255 := by decide
  have e : (BitVec.ofInt IntKind.u64.bits a &&& BitVec.ofInt IntKind.u64.bits 255).toNat ≤ 255 := by
    rw [BitVec.toNat_and, h2]
    exact Nat.and_le_right
  have w : ∀ n : Nat, n ≤ 255 → IntKind.u64.wrap (n : Int) = (n : Int) := by
    intro n h1
    simp [IntKind.wrap, IntKind.bits, IntKind.signed]
    omega
  unfold andK
  rw [w _ e]
  omega
theorem evN (n : Nat) (p : List (Nat × Nat)) (i k : Nat) (K : AV → Prop) : nilchkV (.ref n p i k) K = K (.ref n p i k) := rfl
def m52 : MC :=
 (.seq (.reg [Xb 2 (.asg (.i 0))]) (.seq (.reg [Xb 3 (.asg (.i 0))]) (.join [0, 3] (.seq (.dreg [Xm 4 0, Xq 5 (.nilchk (.t 4)), Xf 6 1 5, Xl 7 1 6, Xm 8 0, Xq 9 (.nilchk (.t 8)), Xf 10 0 9, Xl 11 1 10, Xn 12 11, Xq 13 (.bin false .lss (.t 7) (.t 12))]) (.cond (.t 13) (.dreg [Xm 14 0, Xq 15 (.nilchk (.t 14)), Xf 16 0 15, Xl 17 1 16, Xm 18 0, Xq 19 (.nilchk (.t 18)), Xf 20 1 19, Xl 21 1 20, Xi 22 1
 17 21, Xl 23 1 22, Xq 24 (.conv .i64 (.t 23)), Xm 3 24]) .skip)) (.seq (.reg [Xm 25 0, Xq 26 (.nilchk (.t 25)), Xf 27 1 26, Xl 28 1 27, Xq 29 (.bin false .add (.t 28) (.i 1)), Xq 30 (.nilchk (.t 25)), Xf 31 1 30, Xz (.store 1 (.t 31) (.t 29))]) (.seq (.reg [Xm 32 0, Xm 33 0, Xq 34 (.nilchk (.t 33)), Xf 35 2 34, Xl 36 1 35, Xq 37 (.bin false .mul (.t 36) (.c (.int .u64 6364136223846793005))), Xm 38
 3, Xq 39 (.conv .u64 (.t 38)), Xq 40 (.bin false .add (.t 37) (.t 39)), Xq 41 (.bin false .add (.t 40) (.c (.int .u64 1442695040888963407))), Xq 42 (.nilchk (.t 32)), Xf 43 2 42, Xz (.store 1 (.t 43) (.t 41))]) (.seq (.seq (.dreg [Xm 44 0, Xq 45 (.nilchk (.t 44)), Xf 46 1 45, Xl 47 1 46, Xm 48 0, Xq 49 (.nilchk (.t 48)), Xf 50 0 49, Xl 51 1 50, Xn 52 51, Xq 53 (.bin false .leq (.t 47) (.t 52))])
 (.cond (.t 53) (.seq (.reg [Xm 54 3, Xa 2 54]) .ret) .skip)) (.seq (.reg [Xm 55 0, Xq 56 (.nilchk (.t 55)), Xf 57 2 56, Xl 58 1 57, Xq 59 (.bin false .shr (.t 58) (.c (.int .u64 40))), Xq 60 (.bin false .and (.t 59) (.c (.int .u64 255))), Xq 61 (.conv .i64 (.t 60)), Xa 2 61]) .ret)))))))
set_option maxRecDepth 100000 in
theorem d52 (c : Cur) (n : Int) (hc : c.ok n) (hn : n ≤ 1152921504606846976) :
    DoesE Go.Proofs.Try.prog 52 [.box 45 c.z] false (fun r o => ∃ (v : Int) (c' : Cur), r = .v (.int .i64 v) ∧ o = [.box 45 c'.z] ∧ 0 ≤ v ∧ v ≤ 255 ∧ c'.ok (n + 1)) := by
  obtain ⟨h1, h2, h3, h4⟩ := hc
  refine doesE_intro (mc := m52) (N := 62) (rs := [2]) (fx := [0]) 1 rfl (by decide +kernel) ?_
  simp only [m52, EV, Nat.reduceEqDiff, Nat.reduceBEq, Nat.reduceLT, Nat.reduceLeDiff, Nat.reduceAdd, Nat.reduceSub, reduceIte]
  refine awp_join (fun v : Int => 0 ≤ v ∧ v ≤ 255) (fun v => stl [(0, .box 45 c.z), (3, .v (.int .i64 v))]) ?_ ?_
  · simp only [Cur.z, evN, EV, Nat.reduceEqDiff, Nat.reduceBEq, Nat.reduceLT, Nat.reduceLeDiff, Nat.reduceAdd, Nat.reduceSub, reduceIte]
    refine cK_cut (fun h => ?_) (fun h => ?_)
    · have g1 : c.pos.toNat < c.code.length := by have : c.pos < (c.code.length : Int) := by simpa using h
                                                  omega
      have g2 : c.pos < (c.code.length : Int) := by omega
      have gb := h2 _ (List.getElem_mem g1)
      have w := w64 c.code[c.pos.toNat] (by omega)
      simp only [h3, g2, nth_map g1, bv, w, evN, EV, Nat.reduceEqDiff, Nat.reduceBEq, Nat.reduceLT, Nat.reduceLeDiff, Nat.reduceAdd, Nat.reduceSub, reduceIte]
      exact ⟨_, gb, rfl⟩
    · simp only [evN, EV, Nat.reduceEqDiff, Nat.reduceBEq, Nat.reduceLT, Nat.reduceLeDiff, Nat.reduceAdd, Nat.reduceSub, reduceIte]
      exact ⟨0, by omega, rfl⟩
  · rintro v ⟨v0, v1⟩
    have w1 := w64 (c.pos + 1) (by omega)
    simp only [Cur.z, evN, evB2, w1, EV, Nat.reduceEqDiff, Nat.reduceBEq, Nat.reduceLT, Nat.reduceLeDiff, Nat.reduceAdd, Nat.reduceSub, reduceIte]
    refine cK_cut (fun h => ?_) (fun h => ?_)
    · simp only [evN, evB2, EV, Nat.reduceEqDiff, Nat.reduceBEq, Nat.reduceLT, Nat.reduceLeDiff, Nat.reduceAdd, Nat.reduceSub, reduceIte]
      simp only [EV, Nat.reduceEqDiff, Nat.reduceBEq, Nat.reduceLT, Nat.reduceLeDiff, Nat.reduceAdd, Nat.reduceSub, reduceIte, evRE, retVC, cellV', evR, nfz, nfzs, nfzss, List.contains_nil, List.contains_cons, Bool.or_false, or_true]
      exact ⟨v, ⟨c.code, c.pos + 1, _⟩, rfl, rfl, v0, v1, h1, h2, by simp only; omega, by simp only; omega⟩
    · simp only [evN, evB2, EV, Nat.reduceEqDiff, Nat.reduceBEq, Nat.reduceLT, Nat.reduceLeDiff, Nat.reduceAdd, Nat.reduceSub, reduceIte]
      refine ⟨by omega, ?_⟩
      have ab := andK_255 (shrK .u64 (IntKind.u64.wrap (IntKind.u64.wrap (IntKind.u64.wrap (c.seed * 6364136223846793005) + IntKind.u64.wrap v) + 1442695040888963407)) 40)
      rw [w64 _ (by omega)]
      simp only [EV, Nat.reduceEqDiff, Nat.reduceBEq, Nat.reduceLT, Nat.reduceLeDiff, Nat.reduceAdd, Nat.reduceSub, reduceIte, evRE, retVC, cellV', evR, nfz, nfzs, nfzss, List.contains_nil, List.contains_cons, Bool.or_false, or_true]
      exact ⟨_, ⟨c.code, c.pos + 1, _⟩, rfl, rfl, ab.1, ab.2, h1, h2, by simp only; omega, by simp only; omega⟩
def Draws (f : Nat) (args : List AV) (c : Cur) (n m : Int) (Q : AV → Prop) : Prop :=
  DoesE Go.Proofs.Try.prog f (.box 45 c.z :: args) false fun r o => ∃ c' : Cur, o = .box 45 c'.z :: args.map (fun _ => AV.dead) ∧ c'.ok (n + m) ∧ Q r
theorem Draws.call {f : Nat} {args : List AV} {c : Cur} {n m : Int} {Q : AV → Prop} (h : Draws f args c n m Q) {O : AV → List AV} (hO : ∀ out, O out = out :: args.map fun _ => AV.dead) {S : AV → AV → Prop}
    (k : ∀ (r : AV) (c' : Cur), c'.ok (n + m) → Q r → S (.box 45 c'.z) r) : callK2 Go.Proofs.Try.prog f (.box 45 c.z :: args) false O (.box 45 c.z) S := by
  refine callE2_i (T := fun r out => ∃ c' : Cur, out = .box 45 c'.z ∧ c'.ok (n + m) ∧ Q r) h ?_ ?_
  · rintro r o ⟨c', rfl, h1, h2⟩
    exact ⟨.box 45 c'.z, ⟨c', rfl, h1, h2⟩, (hO _).symm⟩
  · rintro r out ⟨c', rfl, h1, h2⟩
    exact ⟨rfl, rfl, k r c' h1 h2⟩
theorem p52 (c : Cur) (n : Int) (hc : c.ok n) (hn : n ≤ 1152921504606846976) : Draws 52 [] c n 1 fun r => ∃ v : Int, r = .v (.int .i64 v) ∧ 0 ≤ v ∧ v ≤ 255 := by
  have h := d52 c n hc hn
  refine ⟨h.1, fun w Fz xs os h1 h2 h3 h4 => (h.2 w Fz xs os h1 h2 h3 h4).mono ?_⟩
  rintro e w' ⟨res, outs, ⟨v, c', rfl, rfl, g1, g2, g3⟩, hh⟩
  exact ⟨_, _, ⟨c', rfl, g3, v, rfl, g1, g2⟩, hh⟩
def m32 : MC :=
 (.seq (.reg [Xb 4 (.asg (.i 0))]) (.seq (.seq (.reg [Xm 6 1, Xq 7 (.bin false .leq (.t 6) (.i 1))]) (.cond (.t 7) (.seq (.reg [Xb 4 (.asg (.i 0))]) .ret) .skip)) (.seq (.reg [Xm 8 0, Xb 9 (.call (.fn 52) false [.io (.t 8)]), Xa 5 9]) (.join [0, 1, 5] (.seq (.reg [Xm 10 1, Xq 11 (.bin false .gtr (.t 10) (.i 200))]) (.cond (.t 11) (.reg [Xm 12 5, Xq 13 (.bin false .mul (.t 12) (.i 256)), Xm 14 0, Xb
 15 (.call (.fn 52) false [.io (.t 14)]), Xq 16 (.bin false .add (.t 13) (.t 15)), Xa 5 16]) .skip)) (.seq (.reg [Xm 17 5, Xm 18 1, Xq 19 (.bin false .rem (.t 17) (.t 18)), Xa 4 19]) .ret)))))
set_option maxRecDepth 100000 in
theorem p32 (c : Cur) (n k : Int) (hc : c.ok n) (hn : n ≤ 1152921504606846) (hk : k ≤ 1048577) : Draws 32 [.v (.int .i64 k)] c n 2 fun r => ∃ v : Int, r = .v (.int .i64 v) ∧ 0 ≤ v ∧ (1 < k → v < k) ∧ (k ≤ 1 → v = 0) := by
  refine doesE_intro (mc := m32) (N := 20) (rs := [4]) (fx := [0]) 2 rfl (by decide +kernel) ?_
  simp only [m32, EV, Nat.reduceEqDiff, Nat.reduceBEq, Nat.reduceLT, Nat.reduceLeDiff, Nat.reduceAdd, Nat.reduceSub, reduceIte]
  refine cK_cut (fun h => ?_) (fun h => ?_)
  · have hk1 : k ≤ 1 := by simpa using h
    simp only [EV, Nat.reduceEqDiff, Nat.reduceBEq, Nat.reduceLT, Nat.reduceLeDiff, Nat.reduceAdd, Nat.reduceSub, reduceIte]
    simp only [EV, Nat.reduceEqDiff, Nat.reduceBEq, Nat.reduceLT, Nat.reduceLeDiff, Nat.reduceAdd, Nat.reduceSub, reduceIte, evRE, retVC, cellV', evR, nfz, nfzs, nfzss, List.contains_nil, List.contains_cons, Bool.or_false, or_true]
    exact ⟨c, rfl, hc.up (by omega), 0, rfl, Int.le_refl _, fun h => absurd h (by omega), fun _ => rfl⟩
  have hk1 : 1 < k := by have : ¬ k ≤ 1 := by simpa using h
                         omega
  clear h
  simp only [EV, Nat.reduceEqDiff, Nat.reduceBEq, Nat.reduceLT, Nat.reduceLeDiff, Nat.reduceAdd, Nat.reduceSub, reduceIte]
  refine (p52 c n hc (by omega)).call (fun _ => rfl) ?_
  rintro _ c1 hc1 ⟨v, rfl, v0, v1⟩
  simp only [EV, Nat.reduceEqDiff, Nat.reduceBEq, Nat.reduceLT, Nat.reduceLeDiff, Nat.reduceAdd, Nat.reduceSub, reduceIte]
  refine awp_join (fun p : Int × Cur => 0 ≤ p.1 ∧ p.1 ≤ 65535 ∧ p.2.ok (n + 2)) (fun p => stl [(0, .box 45 p.2.z), (1, .v (.int .i64 k)), (5, .v (.int .i64 p.1))]) ?_ ?_
  · simp only [EV, Nat.reduceEqDiff, Nat.reduceBEq, Nat.reduceLT, Nat.reduceLeDiff, Nat.reduceAdd, Nat.reduceSub, reduceIte]
    refine cK_cut (fun h => ?_) (fun h => ?_)
    · simp only [EV, Nat.reduceEqDiff, Nat.reduceBEq, Nat.reduceLT, Nat.reduceLeDiff, Nat.reduceAdd, Nat.reduceSub, reduceIte]
      refine (p52 c1 (n + 1) hc1 (by omega)).call (fun _ => rfl) ?_
      rintro _ c2 hc2 ⟨u, rfl, u0, u1⟩
      simp only [EV, Nat.reduceEqDiff, Nat.reduceBEq, Nat.reduceLT, Nat.reduceLeDiff, Nat.reduceAdd, Nat.reduceSub, reduceIte]
      rw [w64 (v * 256) (by omega), w64 _ (by omega)]
      exact ⟨(v * 256 + u, c2), ⟨by simp only; omega, by simp only; omega, hc2.up (by omega)⟩, rfl⟩
    · simp only [EV, Nat.reduceEqDiff, Nat.reduceBEq, Nat.reduceLT, Nat.reduceLeDiff, Nat.reduceAdd, Nat.reduceSub, reduceIte]
      exact ⟨(v, c1), ⟨v0, by simp only; omega, hc1.up (by omega)⟩, rfl⟩
  · rintro ⟨v, c'⟩ ⟨g0, g1, g2⟩
    simp only at g0 g1 g2
    have em : v.tmod k = v % k := Int.tmod_eq_emod_of_nonneg g0
    have e0 := Int.emod_nonneg v (show k ≠ 0 by omega)
    have e1 := Int.emod_lt_of_pos v (show 0 < k by omega)
    simp only [EV, Nat.reduceEqDiff, Nat.reduceBEq, Nat.reduceLT, Nat.reduceLeDiff, Nat.reduceAdd, Nat.reduceSub, reduceIte]
    refine ⟨by omega, ?_⟩
    simp only [EV, Nat.reduceEqDiff, Nat.reduceBEq, Nat.reduceLT, Nat.reduceLeDiff, Nat.reduceAdd, Nat.reduceSub, reduceIte, evRE, retVC, cellV', evR, nfz, nfzs, nfzss, List.contains_nil, List.contains_cons, Bool.or_false, or_true]
    exact ⟨c', rfl, g2, _, rfl, by omega, fun _ => by omega, fun h => by omega⟩
def m18 : MC :=
 (.seq (.reg [Xb 4 (.asg .fb)]) (.seq (.reg [Xm 5 0, Xm 6 1, Xb 7 (.call (.fn 32) false [.io (.t 5), .lend (.t 6)]), Xq 8 (.bin false .eql (.t 7) (.i 0)), Xa 4 8]) .ret))
theorem p18 (c : Cur) (n k : Int) (hc : c.ok n) (hn : n ≤ 1152921504606846) (hk : k ≤ 1048577) : Draws 18 [.v (.int .i64 k)] c n 2 fun r => ∃ b : Bool, r = .v (.bool b) := by
  refine doesE_intro (mc := m18) (N := 9) (rs := [4]) (fx := [0]) 2 rfl (by decide +kernel) ?_
  simp only [m18, EV, Nat.reduceEqDiff, Nat.reduceBEq, Nat.reduceLT, Nat.reduceLeDiff, Nat.reduceAdd, Nat.reduceSub, reduceIte]
  refine (p32 c n k hc hn hk).call (fun _ => rfl) ?_
  rintro _ c' hc' ⟨v, rfl, _⟩
  simp only [EV, Nat.reduceEqDiff, Nat.reduceBEq, Nat.reduceLT, Nat.reduceLeDiff, Nat.reduceAdd, Nat.reduceSub, reduceIte]
  simp only [EV, Nat.reduceEqDiff, Nat.reduceBEq, Nat.reduceLT, Nat.reduceLeDiff, Nat.reduceAdd, Nat.reduceSub, reduceIte, evRE, retVC, cellV', evR, nfz, nfzs, nfzss, List.contains_nil, List.contains_cons, Bool.or_false, or_true]
  exact ⟨c', rfl, hc', _, rfl⟩
def m48 : MC :=
 (.seq (.reg [Xb 4 (.asg (.z #[]))]) (.seq (.reg [Xm 5 1, Xm 6 0, Xm 7 1, Xn 8 7, Xb 9 (.call (.fn 32) false [.io (.t 6), .lend (.t 8)]), Xi 10 1 5 9, Xl 11 1 10, Xa 4 11]) .ret))
theorem p48 (c : Cur) (n : Int) (l : List ByteArray) (hc : c.ok n) (hn : n ≤ 1152921504606846) (h0 : 0 < l.length) (hk : (l.length : Int) ≤ 1048577) :
    Draws 48 [.fsl 1 (l.map fun s => [.v (.string s)])] c n 2 fun r => ∃ s ∈ l, r = .v (.string s) := by
  refine doesE_intro (mc := m48) (N := 12) (rs := [4]) (fx := [0]) 2 rfl (by decide +kernel) ?_
  simp only [m48, EV, Nat.reduceEqDiff, Nat.reduceBEq, Nat.reduceLT, Nat.reduceLeDiff, Nat.reduceAdd, Nat.reduceSub, reduceIte]
  refine (p32 c n l.length hc hn hk).call (fun _ => rfl) ?_
  rintro _ c' hc' ⟨v, rfl, v0, v1, v2⟩
  have hv : v < (l.length : Int) := by
    by_cases h : 1 < (l.length : Int)
    · exact v1 h
    · have := v2 (by omega); omega
  have hn' : v.toNat < l.length := by omega
  simp only [v0, hv, nth_map hn', EV, Nat.reduceEqDiff, Nat.reduceBEq, Nat.reduceLT, Nat.reduceLeDiff, Nat.reduceAdd, Nat.reduceSub, reduceIte]
  simp only [EV, Nat.reduceEqDiff, Nat.reduceBEq, Nat.reduceLT, Nat.reduceLeDiff, Nat.reduceAdd, Nat.reduceSub, reduceIte, evRE, retVC, cellV', evR, nfz, nfzs, nfzss, List.contains_nil, List.contains_cons, Bool.or_false, or_true]
  exact ⟨c', rfl, hc', _, List.getElem_mem hn', rfl⟩
end Go.AM
namespace Go.AM
set_option linter.unusedVariables false
set_option linter.unusedSimpArgs false
structure Tok where
  kind : Int
  text : ByteArray
  value : Int
  pos : Int
def Tok.z (t : Tok) : List AV := [.v (.int .i64 t.kind), .v (.string t.text), .v (.int .i64 t.value), .v (.int .i64 t.pos)]
theorem TokE : (∀ f : Tok, f.z.length = 4) ∧ (∀ f : Tok, f.z.take 4 = f.z) ∧ (∀ (st : St) (f : Tok), frzBs st f.z = f.z) ∧ (∀ f : Tok, bares f.z = true) ∧ (∀ f : Tok, plains f.z = true) ∧ (∀ f : Tok, frzRow f.z = f.z) ∧ (∀ (f : Tok) (K : Nat → List (Nat × Nat) → Bool), killVs K f.z = f.z) ∧ (∀ (f : Tok) (n : Nat) (p : List (Nat × Nat)) (i : Nat), brws n p i 0 f.z = f.z) ∧ (∀ f : Tok, f.z.all storL = true) ∧ (∀ (f : Tok) (l : List AV), l.length = 4 → ovw l 0 f.z = f.z) :=
  ⟨fun _ => rfl, fun _ => rfl, fun _ _ => rfl, fun _ => rfl, fun _ => rfl, fun _ => rfl, fun _ _ => rfl, fun _ _ _ _ => rfl, fun _ => rfl, fun f l h => ovw_all (by rw [h]; rfl)⟩
theorem Tok.nfz : ∀ l : List Tok, nfzss (l.map Tok.z) = true
  | [] => rfl
  | s :: l => by simp only [List.map_cons, nfzss, Tok.nfz l]; rfl
theorem Tok.frz : ∀ l : List Tok, frzRows (l.map Tok.z) = l.map Tok.z
  | [] => rfl
  | s :: l => by simp [frzRows, TokE, Tok.frz l]
def Tok.b (t : Tok) : Prop := (0 ≤ t.kind ∧ t.kind ≤ 4) ∧ (1 ≤ (t.text.size : Int) ∧ (t.text.size : Int) ≤ 1200) ∧ 0 ≤ t.value ∧ t.value ≤ 10000000000
structure Ps where
  l : List Tok
  pos : Nat
  bad : Nat
  out : List Step
def Ps.z (p : Ps) : List AV := [.fsl 4 (p.l.map Tok.z), .v (.int .i64 (p.pos : Int)), .v (.int .i64 (p.bad : Int)), .usl 54 4 (p.out.map Step.c)]
structure Ps.ok (p : Ps) : Prop where
  few : p.l.length ≤ 300
  here : p.pos ≤ p.l.length
  bad : p.bad ≤ 301
  out : p.out.length ≤ 1000
  steps : ∀ s ∈ p.out, s.ok
  toks : ∀ t ∈ p.l, t.b
def PDoes (f : Nat) (args : List AV) (p : Ps) (R : AV → Ps → Prop) : Prop :=
  DoesE Go.Proofs.Try.prog f (.box 84 p.z :: args) false fun r o => ∃ p' : Ps, o = .box 84 p'.z :: args.map (fun _ => AV.dead) ∧ R r p'
theorem PDoes.call {f : Nat} {args : List AV} {p : Ps} {R : AV → Ps → Prop} (h : PDoes f args p R) {O : AV → List AV} (hO : ∀ out, O out = out :: args.map fun _ => AV.dead) {S : AV → AV → Prop}
    (k : ∀ (r : AV) (p' : Ps), R r p' → S (.box 84 p'.z) r) : callK2 Go.Proofs.Try.prog f (.box 84 p.z :: args) false O (.box 84 p.z) S := by
  refine callE2_i (T := fun r out => ∃ p' : Ps, out = .box 84 p'.z ∧ R r p') h ?_ ?_
  · rintro r o ⟨p', rfl, h1⟩
    exact ⟨.box 84 p'.z, ⟨p', rfl, h1⟩, (hO _).symm⟩
  · rintro r out ⟨p', rfl, h1⟩
    exact ⟨rfl, rfl, k r p' h1⟩
structure Ps.le (p q : Ps) : Prop where
  l : q.l = p.l
  up : p.pos ≤ q.pos
  here : q.pos ≤ p.l.length
  grow : q.out.length + p.pos ≤ p.out.length + q.pos
  bad : q.bad ≤ 301
  stay : p.bad ≠ 0 → q.bad ≠ 0 ∧ q.pos = p.pos
  steps : ∀ s ∈ q.out, s.ok
end Go.AM
namespace Go.AM
set_option linter.unusedVariables false
set_option linter.unusedSimpArgs false
def m58 : MC :=
 (.seq (.reg [Xb 2 (.asg .fb)]) (.seq (.reg [Xm 3 0, Xq 4 (.bin false .geq (.t 3) (.c (.int .u8 65))), Xm 5 4, Xt 6 5 (.mov (.t 0)), Xt 7 5 (.bin false .leq (.t 6) (.c (.int .u8 90))), Xq 8 (.pick (.t 5) (.t 7) .fb), Xm 9 8, Xu 10 9 (.mov (.t 0)), Xu 11 9 (.bin false .geq (.t 10) (.c (.int .u8 97))), Xu 12 9 (.mov (.t 11)), Xt 13 12 (.mov (.t 0)), Xt 14 12 (.bin false .leq (.t 13) (.c (.int .u8
 122))), Xu 15 9 (.pick (.t 12) (.t 14) .fb), Xq 16 (.pick (.t 9) .tb (.t 15)), Xa 2 16]) .ret))
theorem d58 (b : Int) : Does Go.Proofs.Try.prog 58 [.v (.int .u8 b)] false (.v (.bool (lett b))) [.dead] := by
  refine does_intro (mc := m58) (N := 17) (rs := [2]) (fx := []) 1 rfl (by decide +kernel) ?_
  simp only [m58, EV, Nat.reduceEqDiff, Nat.reduceBEq, Nat.reduceLT, Nat.reduceLeDiff, Nat.reduceAdd, Nat.reduceSub, reduceIte]
  repeat' (first
    | (refine gK_cut (fun h => ?_) (fun h => ?_) <;> simp only [h, EV, Nat.reduceEqDiff, Nat.reduceBEq, Nat.reduceLT, Nat.reduceLeDiff, Nat.reduceAdd, Nat.reduceSub, reduceIte])
    | (refine cK_cut (fun h => ?_) (fun h => ?_) <;> simp only [h, EV, Nat.reduceEqDiff, Nat.reduceBEq, Nat.reduceLT, Nat.reduceLeDiff, Nat.reduceAdd, Nat.reduceSub, reduceIte]))
  all_goals simp only [lett, *, Bool.or_true, Bool.true_or, Bool.false_or, Bool.or_false, EV, Nat.reduceEqDiff, Nat.reduceBEq, Nat.reduceLT, Nat.reduceLeDiff, Nat.reduceAdd, Nat.reduceSub, reduceIte, evRE, retVC, cellV', evR, nfz, nfzs, nfzss, List.contains_nil, List.contains_cons, Bool.or_false, or_true]
def m59 : MC :=
 (.seq (.reg [Xb 2 (.asg .fb)]) (.seq (.reg [Xm 3 0, Xq 4 (.bin false .geq (.t 3) (.c (.int .u8 48))), Xm 5 4, Xt 6 5 (.mov (.t 0)), Xt 7 5 (.bin false .leq (.t 6) (.c (.int .u8 57))), Xq 8 (.pick (.t 5) (.t 7) .fb), Xa 2 8]) .ret))
theorem d59 (b : Int) : Does Go.Proofs.Try.prog 59 [.v (.int .u8 b)] false (.v (.bool (digt b))) [.dead] := by
  refine does_intro (mc := m59) (N := 9) (rs := [2]) (fx := []) 1 rfl (by decide +kernel) ?_
  simp only [m59, EV, Nat.reduceEqDiff, Nat.reduceBEq, Nat.reduceLT, Nat.reduceLeDiff, Nat.reduceAdd, Nat.reduceSub, reduceIte]
  repeat' (first
    | (refine gK_cut (fun h => ?_) (fun h => ?_) <;> simp only [h, EV, Nat.reduceEqDiff, Nat.reduceBEq, Nat.reduceLT, Nat.reduceLeDiff, Nat.reduceAdd, Nat.reduceSub, reduceIte])
    | (refine cK_cut (fun h => ?_) (fun h => ?_) <;> simp only [h, EV, Nat.reduceEqDiff, Nat.reduceBEq, Nat.reduceLT, Nat.reduceLeDiff, Nat.reduceAdd, Nat.reduceSub, reduceIte]))
  all_goals simp only [digt, *, EV, Nat.reduceEqDiff, Nat.reduceBEq, Nat.reduceLT, Nat.reduceLeDiff, Nat.reduceAdd, Nat.reduceSub, reduceIte, evRE, retVC, cellV', evR, nfz, nfzs, nfzss, List.contains_nil, List.contains_cons, Bool.or_false, or_true]
def hexN (b : Int) : Int := if digt b = true then b - 48 else if (decide (65 ≤ b) && decide (b ≤ 70)) = true then b - 65 + 10 else -1
theorem hexN_b (b : Int) : -1 ≤ hexN b ∧ hexN b ≤ 15 := by
  unfold hexN digt
  simp only [Bool.and_eq_true, decide_eq_true_eq]
  repeat' split
  all_goals omega
def m69 : MC :=
 (.seq (.reg [Xb 2 (.asg (.i 0))]) (.seq (.block 0 (.seq (.reg [Xm 4 0, Xb 5 (.call (.fn 59) false [.lend (.t 4)]), Xa 3 5]) (.cond (.t 3) (.seq (.reg [Xm 6 0, Xq 7 (.bin false .sub (.t 6) (.c (.int .u8 48))), Xq 8 (.conv .i64 (.t 7)), Xa 2 8]) .ret) (.seq (.reg [Xm 10 0, Xq 11 (.bin false .geq (.t 10) (.c (.int .u8 65))), Xm 12 11, Xt 13 12 (.mov (.t 0)), Xt 14 12 (.bin false .leq (.t 13) (.c
 (.int .u8 70))), Xq 15 (.pick (.t 12) (.t 14) .fb), Xa 9 15]) (.cond (.t 9) (.seq (.reg [Xm 16 0, Xq 17 (.bin false .sub (.t 16) (.c (.int .u8 65))), Xq 18 (.conv .i64 (.t 17)), Xq 19 (.bin false .add (.t 18) (.i 10)), Xa 2 19]) .ret) .skip))))) (.seq (.reg [Xb 2 (.asg (.i (-1)))]) .ret)))
theorem d69 (b : Int) (h0 : 0 ≤ b) (h1 : b ≤ 255) : Does Go.Proofs.Try.prog 69 [.v (.int .u8 b)] false (.v (.int .i64 (hexN b))) [.dead] := by
  have w8 : ∀ x : Int, 0 ≤ x → x ≤ 255 → IntKind.u8.wrap x = x := by
    intro x a b
    simp [IntKind.wrap, IntKind.bits, IntKind.signed]
    omega
  refine does_intro (mc := m69) (N := 20) (rs := [2]) (fx := []) 1 rfl (by decide +kernel) ?_
  simp only [m69, EV, Nat.reduceEqDiff, Nat.reduceBEq, Nat.reduceLT, Nat.reduceLeDiff, Nat.reduceAdd, Nat.reduceSub, reduceIte]
  refine callK_i (d59 b) ?_
  simp only [EV, Nat.reduceEqDiff, Nat.reduceBEq, Nat.reduceLT, Nat.reduceLeDiff, Nat.reduceAdd, Nat.reduceSub, reduceIte]
  rcases e : digt b with _ | _
  · simp only [e, EV, Nat.reduceEqDiff, Nat.reduceBEq, Nat.reduceLT, Nat.reduceLeDiff, Nat.reduceAdd, Nat.reduceSub, reduceIte]
    rcases c1 : decide (65 ≤ b) with _ | _
    · simp only [c1, e, EV, Nat.reduceEqDiff, Nat.reduceBEq, Nat.reduceLT, Nat.reduceLeDiff, Nat.reduceAdd, Nat.reduceSub, reduceIte]
      simp only [hexN, e, c1, Bool.false_and, if_false, Bool.false_eq_true, EV, Nat.reduceEqDiff, Nat.reduceBEq, Nat.reduceLT, Nat.reduceLeDiff, Nat.reduceAdd, Nat.reduceSub, reduceIte, evRE, retVC, cellV', evR, nfz, nfzs, nfzss, List.contains_nil, List.contains_cons, Bool.or_false, or_true]
    rcases c2 : decide (b ≤ 70) with _ | _
    · simp only [c1, c2, e, EV, Nat.reduceEqDiff, Nat.reduceBEq, Nat.reduceLT, Nat.reduceLeDiff, Nat.reduceAdd, Nat.reduceSub, reduceIte]
      simp only [hexN, e, c1, c2, Bool.and_false, if_false, Bool.false_eq_true, EV, Nat.reduceEqDiff, Nat.reduceBEq, Nat.reduceLT, Nat.reduceLeDiff, Nat.reduceAdd, Nat.reduceSub, reduceIte, evRE, retVC, cellV', evR, nfz, nfzs, nfzss, List.contains_nil, List.contains_cons, Bool.or_false, or_true]
    · have c3 : 65 ≤ b ∧ b ≤ 70 := ⟨by simpa using c1, by simpa using c2⟩
      simp only [c1, c2, e, EV, Nat.reduceEqDiff, Nat.reduceBEq, Nat.reduceLT, Nat.reduceLeDiff, Nat.reduceAdd, Nat.reduceSub, reduceIte]
      rw [w8 (b - 65) (by omega) (by omega), w64 (b - 65) (by omega), w64 (b - 65 + 10) (by omega)]
      simp only [hexN, e, c1, c2, Bool.and_self, if_true, if_false, Bool.false_eq_true, EV, Nat.reduceEqDiff, Nat.reduceBEq, Nat.reduceLT, Nat.reduceLeDiff, Nat.reduceAdd, Nat.reduceSub, reduceIte, evRE, retVC, cellV', evR, nfz, nfzs, nfzss, List.contains_nil, List.contains_cons, Bool.or_false, or_true]
  · have c2 : 48 ≤ b ∧ b ≤ 57 := by simpa [digt] using e
    simp only [e, EV, Nat.reduceEqDiff, Nat.reduceBEq, Nat.reduceLT, Nat.reduceLeDiff, Nat.reduceAdd, Nat.reduceSub, reduceIte]
    rw [w8 (b - 48) (by omega) (by omega), w64 (b - 48) (by omega)]
    simp only [hexN, e, if_true, EV, Nat.reduceEqDiff, Nat.reduceBEq, Nat.reduceLT, Nat.reduceLeDiff, Nat.reduceAdd, Nat.reduceSub, reduceIte, evRE, retVC, cellV', evR, nfz, nfzs, nfzss, List.contains_nil, List.contains_cons, Bool.or_false, or_true]
end Go.AM
namespace Go.AM
set_option linter.unusedVariables false
set_option linter.unusedSimpArgs false
def m62 : MC :=
 (.seq (.reg [Xb 2 (.asg .fb)]) (.seq (.seq (.reg [Xb 3 (.asg (.i 0))]) (.block 0 (.loop [0, 3] (.seq (.seq (.reg [Xm 4 3, Xq 5 (.bin false .lss (.t 4) (.i 10))]) (.cond (.t 5) .skip (.exit 0))) (.seq (.block 1 (.seq (.reg [Xm 8 3, Xq 9 (.idx (.z #[59, 44, 46, 58, 61, 42, 45, 43, 40, 41]) (.t 8)), Xm 10 0, Xq 11 (.bin false .eql (.t 9) (.t 10))]) (.cond (.t 11) (.seq (.reg [Xb 2 (.asg .tb)]) .ret)
 .skip))) (.reg [Xm 6 3, Xq 7 (.bin false .add (.t 6) (.i 1)), Xa 3 7])))))) (.seq (.reg [Xb 2 (.asg .fb)]) .ret)))
theorem e62 (b : Int) : DoesE Go.Proofs.Try.prog 62 [.v (.int .u8 b)] false fun r o => o = [.dead] ∧ ∃ v : Bool, r = .v (.bool v) := by
  have hz : ByteArray.size ⟨#[59, 44, 46, 58, 61, 42, 45, 43, 40, 41]⟩ = 10 := rfl
  refine doesE_intro (mc := m62) (N := 12) (rs := [2]) (fx := []) 1 rfl (by decide +kernel) ?_
  simp only [m62, EV, Nat.reduceEqDiff, Nat.reduceBEq, Nat.reduceLT, Nat.reduceLeDiff, Nat.reduceAdd, Nat.reduceSub, reduceIte]
  refine awp_loop (fun i : Nat => i ≤ 10) (fun i => stl [(0, .v (.int .u8 b)), (3, .v (.int .i64 (i : Int)))]) (fun i => 10 - i) 0 (Nat.zero_le _) ?_ ?_
  · simp only [EV, Nat.reduceEqDiff, Nat.reduceBEq, Nat.reduceLT, Nat.reduceLeDiff, Nat.reduceAdd, Nat.reduceSub, reduceIte]
    rfl
  intro i hi
  simp only [EV, Nat.reduceEqDiff, Nat.reduceBEq, Nat.reduceLT, Nat.reduceLeDiff, Nat.reduceAdd, Nat.reduceSub, reduceIte]
  refine cK_cut (fun h => ?_) (fun h => ?_)
  · have i2 : (i : Int) < 10 := by simpa using h
    have i3 : (i : Int) < ((10 : Nat) : Int) := by omega
    clear h
    have wi := w64 ((i : Int) + 1) (by omega)
    simp only [hz, i2, i3, EV, Nat.reduceEqDiff, Nat.reduceBEq, Nat.reduceLT, Nat.reduceLeDiff, Nat.reduceAdd, Nat.reduceSub, reduceIte]
    refine cK_cut (fun h => ?_) (fun h => ?_)
    · simp only [EV, Nat.reduceEqDiff, Nat.reduceBEq, Nat.reduceLT, Nat.reduceLeDiff, Nat.reduceAdd, Nat.reduceSub, reduceIte]
      simp only [EV, Nat.reduceEqDiff, Nat.reduceBEq, Nat.reduceLT, Nat.reduceLeDiff, Nat.reduceAdd, Nat.reduceSub, reduceIte, evRE, retVC, cellV', evR, nfz, nfzs, nfzss, List.contains_nil, List.contains_cons, Bool.or_false, or_true]
      exact ⟨_, rfl⟩
    · simp only [wi, EV, Nat.reduceEqDiff, Nat.reduceBEq, Nat.reduceLT, Nat.reduceLeDiff, Nat.reduceAdd, Nat.reduceSub, reduceIte]
      exact ⟨i + 1, by omega, by omega, rfl⟩
  · simp only [EV, Nat.reduceEqDiff, Nat.reduceBEq, Nat.reduceLT, Nat.reduceLeDiff, Nat.reduceAdd, Nat.reduceSub, reduceIte]
    simp only [EV, Nat.reduceEqDiff, Nat.reduceBEq, Nat.reduceLT, Nat.reduceLeDiff, Nat.reduceAdd, Nat.reduceSub, reduceIte, evRE, retVC, cellV', evR, nfz, nfzs, nfzss, List.contains_nil, List.contains_cons, Bool.or_false, or_true]
    exact ⟨_, rfl⟩
def wordsL : List ByteArray := [⟨#[77, 79, 68, 85, 76, 69]⟩, ⟨#[73, 77, 80, 79, 82, 84]⟩, ⟨#[67, 79, 78, 83, 84]⟩, ⟨#[84, 89, 80, 69]⟩, ⟨#[86, 65, 82]⟩, ⟨#[80, 82, 79, 67]⟩, ⟨#[85, 83, 69]⟩, ⟨#[69, 78, 68]⟩, ⟨#[65, 82, 82, 65, 89]⟩, ⟨#[79, 70]⟩, ⟨#[82, 69, 67, 79, 82, 68]⟩, ⟨#[80, 79, 73, 78, 84, 69, 82]⟩, ⟨#[84, 79]⟩, ⟨#[68, 73, 86]⟩, ⟨#[77, 79, 68]⟩]
def sv (s : ByteArray) : List AV := [.v (.string s)]
def m68 : MC :=
 (.seq (.reg [Xb 0 (.asg (.nils 9 1))]) (.seq (.reg [Xb 1 (.bsl 9 1 [.z #[77, 79, 68, 85, 76, 69], .z #[73, 77, 80, 79, 82, 84], .z #[67, 79, 78, 83, 84], .z #[84, 89, 80, 69], .z #[86, 65, 82], .z #[80, 82, 79, 67], .z #[85, 83, 69], .z #[69, 78, 68], .z #[65, 82, 82, 65, 89], .z #[79, 70], .z #[82, 69, 67, 79, 82, 68], .z #[80, 79, 73, 78, 84, 69, 82], .z #[84, 79], .z #[68, 73, 86], .z #[77, 79,
 68]]), Xa 0 1]) .ret))
theorem d68 : Does Go.Proofs.Try.prog 68 [] false (.usl 9 1 (wordsL.map sv)) [] := by
  refine does_intro (mc := m68) (N := 2) (rs := [0]) (fx := []) 0 rfl (by decide +kernel) ?_
  simp only [m68, EV, Nat.reduceEqDiff, Nat.reduceBEq, Nat.reduceLT, Nat.reduceLeDiff, Nat.reduceAdd, Nat.reduceSub, reduceIte]
  simp only [wordsL, sv, List.map_cons, List.map_nil, nfzss, nfzs, nfz, EV, Nat.reduceEqDiff, Nat.reduceBEq, Nat.reduceLT, Nat.reduceLeDiff, Nat.reduceAdd, Nat.reduceSub, reduceIte, evRE, retVC, cellV', evR, nfz, nfzs, nfzss, List.contains_nil, List.contains_cons, Bool.or_false, or_true]
def m60 : MC :=
 (.seq (.reg [Xb 2 (.asg .fb)]) (.seq (.seq (.reg [Xb 5 (.call (.fn 68) false []), Xn 6 5, Xq 7 (.mov (.i 0))]) (.block 0 (.loop [0, 5, 6, 7] (.seq (.reg [Xq 8 (.bin false .lss (.t 7) (.t 6))]) (.seq (.cond (.t 8) .skip (.exit 0)) (.seq (.block 1 (.seq (.reg [Xi 9 1 5 7, Xl 10 1 9, Xa 4 10]) (.seq (.reg [Xm 11 4, Xm 12 0, Xq 13 (.bin false .eql (.t 11) (.t 12))]) (.cond (.t 13) (.seq (.reg [Xb 2
 (.asg .tb)]) .ret) .skip)))) (.reg [Xq 14 (.bin false .add (.t 7) (.i 1)), Xm 7 14]))))))) (.seq (.reg [Xb 2 (.asg .fb)]) .ret)))
theorem e60 (s : ByteArray) : DoesE Go.Proofs.Try.prog 60 [.v (.string s)] false fun r o => o = [.dead] ∧ ∃ v : Bool, r = .v (.bool v) := by
  have hz : wordsL.length = 15 := rfl
  have dw := d68
  refine doesE_intro (mc := m60) (N := 15) (rs := [2]) (fx := []) 1 rfl (by decide +kernel) ?_
  generalize wordsL = l at dw hz
  simp only [m60, EV, Nat.reduceEqDiff, Nat.reduceBEq, Nat.reduceLT, Nat.reduceLeDiff, Nat.reduceAdd, Nat.reduceSub, reduceIte]
  refine callK_i dw ?_
  simp only [EV, Nat.reduceEqDiff, Nat.reduceBEq, Nat.reduceLT, Nat.reduceLeDiff, Nat.reduceAdd, Nat.reduceSub, reduceIte]
  refine awp_loop (fun i : Nat => i ≤ l.length) (fun i => stl [(0, .v (.string s)), (5, .usl 9 1 (l.map sv)), (6, .v (.int .i64 (l.length : Int))), (7, .v (.int .i64 (i : Int)))]) (fun i => l.length - i) 0 (Nat.zero_le _) ?_ ?_
  · simp only [EV, Nat.reduceEqDiff, Nat.reduceBEq, Nat.reduceLT, Nat.reduceLeDiff, Nat.reduceAdd, Nat.reduceSub, reduceIte]
    rfl
  intro i hi
  simp only [EV, Nat.reduceEqDiff, Nat.reduceBEq, Nat.reduceLT, Nat.reduceLeDiff, Nat.reduceAdd, Nat.reduceSub, reduceIte]
  refine cK_cut (fun h => ?_) (fun h => ?_)
  · have i2 : (i : Int) < (l.length : Int) := by simpa using h
    have i1 : i < l.length := by omega
    clear h
    have wi := w64 ((i : Int) + 1) (by omega)
    simp only [i1, i2, nth_map i1, sv, EV, Nat.reduceEqDiff, Nat.reduceBEq, Nat.reduceLT, Nat.reduceLeDiff, Nat.reduceAdd, Nat.reduceSub, reduceIte]
    refine cK_cut (fun h => ?_) (fun h => ?_)
    · simp only [EV, Nat.reduceEqDiff, Nat.reduceBEq, Nat.reduceLT, Nat.reduceLeDiff, Nat.reduceAdd, Nat.reduceSub, reduceIte]
      simp only [EV, Nat.reduceEqDiff, Nat.reduceBEq, Nat.reduceLT, Nat.reduceLeDiff, Nat.reduceAdd, Nat.reduceSub, reduceIte, evRE, retVC, cellV', evR, nfz, nfzs, nfzss, List.contains_nil, List.contains_cons, Bool.or_false, or_true]
      exact ⟨_, rfl⟩
    · simp only [wi, EV, Nat.reduceEqDiff, Nat.reduceBEq, Nat.reduceLT, Nat.reduceLeDiff, Nat.reduceAdd, Nat.reduceSub, reduceIte]
      exact ⟨i + 1, by omega, by omega, rfl⟩
  · simp only [EV, Nat.reduceEqDiff, Nat.reduceBEq, Nat.reduceLT, Nat.reduceLeDiff, Nat.reduceAdd, Nat.reduceSub, reduceIte]
    simp only [EV, Nat.reduceEqDiff, Nat.reduceBEq, Nat.reduceLT, Nat.reduceLeDiff, Nat.reduceAdd, Nat.reduceSub, reduceIte, evRE, retVC, cellV', evR, nfz, nfzs, nfzss, List.contains_nil, List.contains_cons, Bool.or_false, or_true]
    exact ⟨_, rfl⟩
theorem sAt_b (s : ByteArray) (i : Int) : 0 ≤ sAt s i ∧ sAt s i ≤ 255 := by
  unfold sAt
  have := (s.data.toList.getD i.toNat 0).toNat_lt
  omega
theorem size_pos {s : ByteArray} (h : (s.toList == (⟨#[]⟩ : ByteArray).toList) = false) : 0 < s.size := by
  rcases Nat.eq_zero_or_pos s.size with h0 | h0
  · have : s = ⟨#[]⟩ := by
      cases s with
      | mk d =>
        have : d = #[] := Array.eq_empty_of_size_eq_zero h0
        rw [this]
    rw [this] at h
    simp at h
  · exact h0
def m61 : MC :=
 (.seq (.reg [Xb 2 (.asg (.i 0)), Xb 3 (.asg .fb)]) (.seq (.seq (.reg [Xm 10 0, Xq 11 (.bin false .eql (.t 10) (.z #[])), Xm 12 11, Xu 13 12 (.mov (.t 0)), Xu 14 12 (.idx (.t 13) (.i 0)), XU 15 12 (.call (.fn 59) false [.lend (.t 14)]), Xu 16 12 (.un .not (.t 15)), Xq 17 (.pick (.t 12) .tb (.t 16))]) (.cond (.t 17) (.seq (.reg [Xb 2 (.asg (.i 0)), Xb 3 (.asg .fb)]) .ret) .skip)) (.seq (.reg [Xm 18
 0, Xb 4 (.asg (.i 10)), Xb 5 (.asg (.i 9)), Xa 6 18]) (.join [4, 5, 6] (.seq (.reg [Xm 19 0, Xm 20 0, Xq 21 (.len true (.t 20)), Xq 22 (.bin false .sub (.t 21) (.i 1)), Xq 23 (.idx (.t 19) (.t 22)), Xq 24 (.bin false .eql (.t 23) (.c (.int .u8 72)))]) (.cond (.t 24) (.seq (.reg [Xb 4 (.asg (.i 16))]) (.seq (.reg [Xb 5 (.asg (.i 7))]) (.reg [Xm 25 0, Xm 26 0, Xq 27 (.len true (.t 26)), Xq 28 (.bin
 false .sub (.t 27) (.i 1)), Xq 29 (.slc true 1 (.t 25) none (some (.t 28))), Xa 6 29]))) .skip)) (.seq (.reg [Xb 7 (.asg (.i 0))]) (.seq (.seq (.reg [Xb 8 (.asg (.i 0))]) (.block 0 (.loop [4, 5, 6, 7, 8] (.seq (.seq (.reg [Xm 30 8, Xm 31 6, Xq 32 (.len true (.t 31)), Xq 33 (.bin false .lss (.t 30) (.t 32))]) (.cond (.t 33) .skip (.exit 0))) (.seq (.block 1 (.seq (.reg [Xm 36 6, Xm 37 8, Xq 38
 (.idx (.t 36) (.t 37)), Xb 39 (.call (.fn 69) false [.lend (.t 38)]), Xa 9 39]) (.seq (.seq (.reg [Xm 40 9, Xq 41 (.bin false .lss (.t 40) (.i 0)), Xm 42 41, Xu 43 42 (.mov (.t 9)), Xu 44 42 (.mov (.t 4)), Xu 45 42 (.bin false .geq (.t 43) (.t 44)), Xq 46 (.pick (.t 42) .tb (.t 45))]) (.cond (.t 46) (.seq (.reg [Xb 2 (.asg (.i 0)), Xb 3 (.asg .fb)]) .ret) .skip)) (.seq (.reg [Xm 47 7, Xm 48 4, Xq
 49 (.bin false .mul (.t 47) (.t 48)), Xm 50 9, Xq 51 (.bin false .add (.t 49) (.t 50)), Xa 7 51]) (.seq (.reg [Xm 52 8, Xm 53 5, Xq 54 (.bin false .geq (.t 52) (.t 53))]) (.cond (.t 54) (.seq (.reg [Xb 2 (.asg (.i 0)), Xb 3 (.asg .fb)]) .ret) .skip)))))) (.reg [Xm 34 8, Xq 35 (.bin false .add (.t 34) (.i 1)), Xa 8 35])))))) (.seq (.reg [Xm 55 7, Xa 2 55, Xb 3 (.asg .tb)]) .ret)))))))
set_option maxHeartbeats 1000000 in
theorem e61 (s : ByteArray) (hs : (s.size : Int) ≤ 1200) : DoesE Go.Proofs.Try.prog 61 [.v (.string s)] false fun r o => o = [.dead] ∧ ∃ (n : Int) (v : Bool), r = .tup [.v (.int .i64 n), .v (.bool v)] ∧ 0 ≤ n ∧ n ≤ 10000000000 := by
  refine doesE_intro (mc := m61) (N := 56) (rs := [2, 3]) (fx := []) 1 rfl (by decide +kernel) ?_
  simp only [m61, EV, Nat.reduceEqDiff, Nat.reduceBEq, Nat.reduceLT, Nat.reduceLeDiff, Nat.reduceAdd, Nat.reduceSub, reduceIte]
  rcases e0 : (s.toList == (⟨#[]⟩ : ByteArray).toList) with _ | _
  rotate_left
  · simp only [e0, EV, Nat.reduceEqDiff, Nat.reduceBEq, Nat.reduceLT, Nat.reduceLeDiff, Nat.reduceAdd, Nat.reduceSub, reduceIte]
    simp only [EV, Nat.reduceEqDiff, Nat.reduceBEq, Nat.reduceLT, Nat.reduceLeDiff, Nat.reduceAdd, Nat.reduceSub, reduceIte, evRE, retVC, cellV', evR, nfz, nfzs, nfzss, List.contains_nil, List.contains_cons, Bool.or_false, or_true]
    exact ⟨0, false, rfl, by decide, by decide⟩
  have hz := size_pos e0
  have hzI : (0 : Int) < (s.size : Int) := by omega
  simp only [e0, hzI, EV, Nat.reduceEqDiff, Nat.reduceBEq, Nat.reduceLT, Nat.reduceLeDiff, Nat.reduceAdd, Nat.reduceSub, reduceIte]
  refine ⟨by omega, callK_i (d59 _) ?_⟩
  simp only [EV, Nat.reduceEqDiff, Nat.reduceBEq, Nat.reduceLT, Nat.reduceLeDiff, Nat.reduceAdd, Nat.reduceSub, reduceIte]
  rcases e3 : digt (sAt s 0) with _ | _
  · simp only [e3, Bool.not_false, EV, Nat.reduceEqDiff, Nat.reduceBEq, Nat.reduceLT, Nat.reduceLeDiff, Nat.reduceAdd, Nat.reduceSub, reduceIte]
    simp only [EV, Nat.reduceEqDiff, Nat.reduceBEq, Nat.reduceLT, Nat.reduceLeDiff, Nat.reduceAdd, Nat.reduceSub, reduceIte, evRE, retVC, cellV', evR, nfz, nfzs, nfzss, List.contains_nil, List.contains_cons, Bool.or_false, or_true]
    exact ⟨0, false, rfl, by decide, by decide⟩
  simp only [e3, Bool.not_true, EV, Nat.reduceEqDiff, Nat.reduceBEq, Nat.reduceLT, Nat.reduceLeDiff, Nat.reduceAdd, Nat.reduceSub, reduceIte]
  refine awp_join (fun p : Bool × ByteArray => (p.2.size : Int) ≤ 1200) (fun p => stl [(4, .v (.int .i64 (if p.1 then 16 else 10))), (5, .v (.int .i64 (if p.1 then 7 else 9))), (6, .v (.string p.2))]) ?_ ?_
  · have wl := w64 ((s.size : Int) - 1) (by omega)
    have l0 : (0 : Int) ≤ (s.size : Int) - 1 := by omega
    have l1 : (s.size : Int) - 1 < (s.size : Int) := by omega
    simp only [wl, l0, l1, EV, Nat.reduceEqDiff, Nat.reduceBEq, Nat.reduceLT, Nat.reduceLeDiff, Nat.reduceAdd, Nat.reduceSub, reduceIte]
    refine cK_cut (fun h => ?_) (fun h => ?_)
    · simp only [wl, l0, l1, EV, Nat.reduceEqDiff, Nat.reduceBEq, Nat.reduceLT, Nat.reduceLeDiff, Nat.reduceAdd, Nat.reduceSub, reduceIte]
      refine ⟨by omega, by omega, (true, s.extract 0 ((s.size : Int) - 1).toNat), ?_, rfl⟩
      simp only [ByteArray.size_extract]
      omega
    · simp only [EV, Nat.reduceEqDiff, Nat.reduceBEq, Nat.reduceLT, Nat.reduceLeDiff, Nat.reduceAdd, Nat.reduceSub, reduceIte]
      exact ⟨(false, s), hs, rfl⟩
  rintro ⟨b, body⟩ hb
  simp only at hb
  cases b
  · simp only [Bool.false_eq_true, if_false, EV, Nat.reduceEqDiff, Nat.reduceBEq, Nat.reduceLT, Nat.reduceLeDiff, Nat.reduceAdd, Nat.reduceSub, reduceIte]
    refine awp_loop (fun p : Nat × Nat => p.1 ≤ body.size ∧ p.1 ≤ 9 ∧ p.2 < 10 ^ p.1) (fun p => stl [(4, .v (.int .i64 10)), (5, .v (.int .i64 9)), (6, .v (.string body)), (7, .v (.int .i64 (p.2 : Int))), (8, .v (.int .i64 (p.1 : Int)))]) (fun p => body.size - p.1) (0, 0) ⟨Nat.zero_le _, Nat.zero_le _, by decide⟩ ?_ ?_
    · simp only [EV, Nat.reduceEqDiff, Nat.reduceBEq, Nat.reduceLT, Nat.reduceLeDiff, Nat.reduceAdd, Nat.reduceSub, reduceIte]
      rfl
    rintro ⟨i, n⟩ ⟨g1, g2, g3⟩
    simp only at g1 g2 g3
    have hP : 10 ^ i ≤ 10 ^ 9 := Nat.pow_le_pow_right (by decide) g2
    have hQ : 10 ^ 9 ≤ 1000000000 := by decide
    have hS : 10 ^ (i + 1) = 10 ^ i * 10 := Nat.pow_succ ..
    simp only [EV, Nat.reduceEqDiff, Nat.reduceBEq, Nat.reduceLT, Nat.reduceLeDiff, Nat.reduceAdd, Nat.reduceSub, reduceIte]
    refine cK_cut (fun h => ?_) (fun h => ?_)
    · have i2 : (i : Int) < (body.size : Int) := by simpa using h
      clear h
      have hbb := sAt_b body (i : Int)
      have hx := hexN_b (sAt body (i : Int))
      have wi := w64 ((i : Int) + 1) (by omega)
      simp only [i2, EV, Nat.reduceEqDiff, Nat.reduceBEq, Nat.reduceLT, Nat.reduceLeDiff, Nat.reduceAdd, Nat.reduceSub, reduceIte]
      refine callK_i (d69 _ hbb.1 hbb.2) ?_
      generalize hexN (sAt body (i : Int)) = d at hx ⊢
      simp only [EV, Nat.reduceEqDiff, Nat.reduceBEq, Nat.reduceLT, Nat.reduceLeDiff, Nat.reduceAdd, Nat.reduceSub, reduceIte]
      rcases e1 : decide (d < 0) with _ | _
      rotate_left
      · simp only [e1, EV, Nat.reduceEqDiff, Nat.reduceBEq, Nat.reduceLT, Nat.reduceLeDiff, Nat.reduceAdd, Nat.reduceSub, reduceIte]
        simp only [EV, Nat.reduceEqDiff, Nat.reduceBEq, Nat.reduceLT, Nat.reduceLeDiff, Nat.reduceAdd, Nat.reduceSub, reduceIte, evRE, retVC, cellV', evR, nfz, nfzs, nfzss, List.contains_nil, List.contains_cons, Bool.or_false, or_true]
        exact ⟨0, false, rfl, by decide, by decide⟩
      simp only [e1, EV, Nat.reduceEqDiff, Nat.reduceBEq, Nat.reduceLT, Nat.reduceLeDiff, Nat.reduceAdd, Nat.reduceSub, reduceIte]
      rcases e2 : decide (10 ≤ d) with _ | _
      rotate_left
      · simp only [e1, e2, EV, Nat.reduceEqDiff, Nat.reduceBEq, Nat.reduceLT, Nat.reduceLeDiff, Nat.reduceAdd, Nat.reduceSub, reduceIte]
        simp only [EV, Nat.reduceEqDiff, Nat.reduceBEq, Nat.reduceLT, Nat.reduceLeDiff, Nat.reduceAdd, Nat.reduceSub, reduceIte, evRE, retVC, cellV', evR, nfz, nfzs, nfzss, List.contains_nil, List.contains_cons, Bool.or_false, or_true]
        exact ⟨0, false, rfl, by decide, by decide⟩
      have d0 : 0 ≤ d := by simpa using e1
      have d1 : d < 10 := by simpa using e2
      have w1 := w64 ((n : Int) * 10) (by omega)
      have w2 := w64 ((n : Int) * 10 + d) (by omega)
      simp only [e1, e2, w1, w2, EV, Nat.reduceEqDiff, Nat.reduceBEq, Nat.reduceLT, Nat.reduceLeDiff, Nat.reduceAdd, Nat.reduceSub, reduceIte]
      refine cK_cut (fun h => ?_) (fun h => ?_)
      · simp only [EV, Nat.reduceEqDiff, Nat.reduceBEq, Nat.reduceLT, Nat.reduceLeDiff, Nat.reduceAdd, Nat.reduceSub, reduceIte]
        simp only [EV, Nat.reduceEqDiff, Nat.reduceBEq, Nat.reduceLT, Nat.reduceLeDiff, Nat.reduceAdd, Nat.reduceSub, reduceIte, evRE, retVC, cellV', evR, nfz, nfzs, nfzss, List.contains_nil, List.contains_cons, Bool.or_false, or_true]
        exact ⟨0, false, rfl, by decide, by decide⟩
      · have h3 : (i : Int) < 9 := by simpa using h
        simp only [wi, EV, Nat.reduceEqDiff, Nat.reduceBEq, Nat.reduceLT, Nat.reduceLeDiff, Nat.reduceAdd, Nat.reduceSub, reduceIte]
        refine ⟨(i + 1, n * 10 + d.toNat), ⟨by simp only; omega, by simp only; omega, by simp only; rw [hS]; omega⟩, by simp only; omega, ?_⟩
        have en : (n : Int) * 10 + d = ((n * 10 + d.toNat : Nat) : Int) := by omega
        rw [en]
        rfl
    · simp only [EV, Nat.reduceEqDiff, Nat.reduceBEq, Nat.reduceLT, Nat.reduceLeDiff, Nat.reduceAdd, Nat.reduceSub, reduceIte]
      simp only [EV, Nat.reduceEqDiff, Nat.reduceBEq, Nat.reduceLT, Nat.reduceLeDiff, Nat.reduceAdd, Nat.reduceSub, reduceIte, evRE, retVC, cellV', evR, nfz, nfzs, nfzss, List.contains_nil, List.contains_cons, Bool.or_false, or_true]
      exact ⟨_, _, rfl, by omega, by omega⟩
  · simp only [if_true, EV, Nat.reduceEqDiff, Nat.reduceBEq, Nat.reduceLT, Nat.reduceLeDiff, Nat.reduceAdd, Nat.reduceSub, reduceIte]
    refine awp_loop (fun p : Nat × Nat => p.1 ≤ body.size ∧ p.1 ≤ 7 ∧ p.2 < 16 ^ p.1) (fun p => stl [(4, .v (.int .i64 16)), (5, .v (.int .i64 7)), (6, .v (.string body)), (7, .v (.int .i64 (p.2 : Int))), (8, .v (.int .i64 (p.1 : Int)))]) (fun p => body.size - p.1) (0, 0) ⟨Nat.zero_le _, Nat.zero_le _, by decide⟩ ?_ ?_
    · simp only [EV, Nat.reduceEqDiff, Nat.reduceBEq, Nat.reduceLT, Nat.reduceLeDiff, Nat.reduceAdd, Nat.reduceSub, reduceIte]
      rfl
    rintro ⟨i, n⟩ ⟨g1, g2, g3⟩
    simp only at g1 g2 g3
    have hP : 16 ^ i ≤ 16 ^ 7 := Nat.pow_le_pow_right (by decide) g2
    have hQ : 16 ^ 7 ≤ 1000000000 := by decide
    have hS : 16 ^ (i + 1) = 16 ^ i * 16 := Nat.pow_succ ..
    simp only [EV, Nat.reduceEqDiff, Nat.reduceBEq, Nat.reduceLT, Nat.reduceLeDiff, Nat.reduceAdd, Nat.reduceSub, reduceIte]
    refine cK_cut (fun h => ?_) (fun h => ?_)
    · have i2 : (i : Int) < (body.size : Int) := by simpa using h
      clear h
      have hbb := sAt_b body (i : Int)
      have hx := hexN_b (sAt body (i : Int))
      have wi := w64 ((i : Int) + 1) (by omega)
      simp only [i2, EV, Nat.reduceEqDiff, Nat.reduceBEq, Nat.reduceLT, Nat.reduceLeDiff, Nat.reduceAdd, Nat.reduceSub, reduceIte]
      refine callK_i (d69 _ hbb.1 hbb.2) ?_
      generalize hexN (sAt body (i : Int)) = d at hx ⊢
      simp only [EV, Nat.reduceEqDiff, Nat.reduceBEq, Nat.reduceLT, Nat.reduceLeDiff, Nat.reduceAdd, Nat.reduceSub, reduceIte]
      rcases e1 : decide (d < 0) with _ | _
      rotate_left
      · simp only [e1, EV, Nat.reduceEqDiff, Nat.reduceBEq, Nat.reduceLT, Nat.reduceLeDiff, Nat.reduceAdd, Nat.reduceSub, reduceIte]
        simp only [EV, Nat.reduceEqDiff, Nat.reduceBEq, Nat.reduceLT, Nat.reduceLeDiff, Nat.reduceAdd, Nat.reduceSub, reduceIte, evRE, retVC, cellV', evR, nfz, nfzs, nfzss, List.contains_nil, List.contains_cons, Bool.or_false, or_true]
        exact ⟨0, false, rfl, by decide, by decide⟩
      simp only [e1, EV, Nat.reduceEqDiff, Nat.reduceBEq, Nat.reduceLT, Nat.reduceLeDiff, Nat.reduceAdd, Nat.reduceSub, reduceIte]
      rcases e2 : decide (16 ≤ d) with _ | _
      rotate_left
      · simp only [e1, e2, EV, Nat.reduceEqDiff, Nat.reduceBEq, Nat.reduceLT, Nat.reduceLeDiff, Nat.reduceAdd, Nat.reduceSub, reduceIte]
        simp only [EV, Nat.reduceEqDiff, Nat.reduceBEq, Nat.reduceLT, Nat.reduceLeDiff, Nat.reduceAdd, Nat.reduceSub, reduceIte, evRE, retVC, cellV', evR, nfz, nfzs, nfzss, List.contains_nil, List.contains_cons, Bool.or_false, or_true]
        exact ⟨0, false, rfl, by decide, by decide⟩
      have d0 : 0 ≤ d := by simpa using e1
      have d1 : d < 16 := by simpa using e2
      have w1 := w64 ((n : Int) * 16) (by omega)
      have w2 := w64 ((n : Int) * 16 + d) (by omega)
      simp only [e1, e2, w1, w2, EV, Nat.reduceEqDiff, Nat.reduceBEq, Nat.reduceLT, Nat.reduceLeDiff, Nat.reduceAdd, Nat.reduceSub, reduceIte]
      refine cK_cut (fun h => ?_) (fun h => ?_)
      · simp only [EV, Nat.reduceEqDiff, Nat.reduceBEq, Nat.reduceLT, Nat.reduceLeDiff, Nat.reduceAdd, Nat.reduceSub, reduceIte]
        simp only [EV, Nat.reduceEqDiff, Nat.reduceBEq, Nat.reduceLT, Nat.reduceLeDiff, Nat.reduceAdd, Nat.reduceSub, reduceIte, evRE, retVC, cellV', evR, nfz, nfzs, nfzss, List.contains_nil, List.contains_cons, Bool.or_false, or_true]
        exact ⟨0, false, rfl, by decide, by decide⟩
      · have h3 : (i : Int) < 7 := by simpa using h
        simp only [wi, EV, Nat.reduceEqDiff, Nat.reduceBEq, Nat.reduceLT, Nat.reduceLeDiff, Nat.reduceAdd, Nat.reduceSub, reduceIte]
        refine ⟨(i + 1, n * 16 + d.toNat), ⟨by simp only; omega, by simp only; omega, by simp only; rw [hS]; omega⟩, by simp only; omega, ?_⟩
        have en : (n : Int) * 16 + d = ((n * 16 + d.toNat : Nat) : Int) := by omega
        rw [en]
        rfl
    · simp only [EV, Nat.reduceEqDiff, Nat.reduceBEq, Nat.reduceLT, Nat.reduceLeDiff, Nat.reduceAdd, Nat.reduceSub, reduceIte]
      simp only [EV, Nat.reduceEqDiff, Nat.reduceBEq, Nat.reduceLT, Nat.reduceLeDiff, Nat.reduceAdd, Nat.reduceSub, reduceIte, evRE, retVC, cellV', evR, nfz, nfzs, nfzss, List.contains_nil, List.contains_cons, Bool.or_false, or_true]
      exact ⟨_, _, rfl, by omega, by omega⟩
end Go.AM
namespace Go.AM
set_option linter.unusedVariables false
set_option linter.unusedSimpArgs false
theorem pbeq (a b c d : Nat) : ((a, b) == (c, d)) = (a == c && b == d) := rfl
def m46 : MC :=
 (.seq (.reg [Xb 4 (.asg (.i 0))]) (.seq (.reg [Xb 5 (.asg (.i 0))]) (.seq (.block 0 (.loop [0, 1, 5] (.seq (.seq (.reg [Xm 6 1, Xq 7 (.bin false .add (.t 6) (.i 1)), Xm 8 0, Xq 9 (.len true (.t 8)), Xq 10 (.bin false .lss (.t 7) (.t 9))]) (.cond (.t 10) .skip (.exit 0))) (.block 1 (.seq (.reg [Xm 11 0, Xm 12 1, Xm 13 1, Xq 14 (.bin false .add (.t 13) (.i 2)), Xq 15 (.slc true 1 (.t 11) (some (.t
 12)) (some (.t 14)))]) (.block 2 (.seq (.reg [Xq 19 (.bin false .eql (.t 15) (.z #[40, 42])), Xa 18 19]) (.cond (.t 18) (.seq (.reg [Xm 20 5, Xq 21 (.bin false .add (.t 20) (.i 1)), Xa 5 21]) (.reg [Xm 22 1, Xq 23 (.bin false .add (.t 22) (.i 2)), Xa 1 23])) (.seq (.reg [Xq 25 (.bin false .eql (.t 15) (.z #[42, 41])), Xa 24 25]) (.cond (.t 24) (.seq (.reg [Xm 26 5, Xq 27 (.bin false .sub (.t 26)
 (.i 1)), Xa 5 27]) (.seq (.reg [Xm 28 1, Xq 29 (.bin false .add (.t 28) (.i 2)), Xa 1 29]) (.seq (.reg [Xm 30 5, Xq 31 (.bin false .eql (.t 30) (.i 0))]) (.cond (.t 31) (.seq (.reg [Xm 32 1, Xa 4 32]) .ret) .skip)))) (.reg [Xm 16 1, Xq 17 (.bin false .add (.t 16) (.i 1)), Xa 1 17]))))))))))) (.seq (.reg [Xb 4 (.asg (.i (-1)))]) .ret))))
set_option maxHeartbeats 1000000 in
theorem e46 (s : ByteArray) (a : Nat) (ha : a ≤ s.size) (hs : (s.size : Int) ≤ 1200) : DoesE Go.Proofs.Try.prog 46 [.v (.string s), .v (.int .i64 (a : Int))] false fun r o => o = [.dead, .dead] ∧ ∃ v : Int, r = .v (.int .i64 v) ∧ (v = -1 ∨ ((a : Int) < v ∧ v ≤ (s.size : Int))) := by
  refine doesE_intro (mc := m46) (N := 33) (rs := [4]) (fx := []) 2 rfl (by decide +kernel) ?_
  simp only [m46, EV, Nat.reduceEqDiff, Nat.reduceBEq, Nat.reduceLT, Nat.reduceLeDiff, Nat.reduceAdd, Nat.reduceSub, reduceIte]
  refine awp_loop (fun p : Nat × Int => a ≤ p.1 ∧ p.1 ≤ s.size ∧ -(p.1 : Int) ≤ p.2 ∧ p.2 ≤ (p.1 : Int)) (fun p => stl [(0, .v (.string s)), (1, .v (.int .i64 (p.1 : Int))), (5, .v (.int .i64 p.2))]) (fun p => s.size - p.1) (a, 0) ⟨Nat.le_refl _, ha, by simp only; omega, by simp only; omega⟩ ?_ ?_
  · simp only [EV, Nat.reduceEqDiff, Nat.reduceBEq, Nat.reduceLT, Nat.reduceLeDiff, Nat.reduceAdd, Nat.reduceSub, reduceIte]
  rintro ⟨i, d⟩ ⟨g1, g2, g3, g4⟩
  simp only at g1 g2 g3 g4
  have w1 := w64 ((i : Int) + 1) (by omega)
  have w2 := w64 ((i : Int) + 2) (by omega)
  have wd1 := w64 (d + 1) (by omega)
  have wd2 := w64 (d - 1) (by omega)
  simp only [w1, EV, Nat.reduceEqDiff, Nat.reduceBEq, Nat.reduceLT, Nat.reduceLeDiff, Nat.reduceAdd, Nat.reduceSub, reduceIte]
  refine cK_cut (fun h => ?_) (fun h => ?_)
  · have i2 : (i : Int) + 1 < (s.size : Int) := by simpa using h
    clear h
    have i3 : (i : Int) ≤ (i : Int) + 2 := by omega
    have i4 : (i : Int) + 2 ≤ (s.size : Int) := by omega
    simp only [w2, i3, i4, EV, Nat.reduceEqDiff, Nat.reduceBEq, Nat.reduceLT, Nat.reduceLeDiff, Nat.reduceAdd, Nat.reduceSub, reduceIte]
    generalize (s.extract (i : Int).toNat ((i : Int) + 2).toNat) = x
    refine cK_cut (fun h => ?_) (fun h => ?_)
    · simp only [w1, w2, wd1, wd2, EV, Nat.reduceEqDiff, Nat.reduceBEq, Nat.reduceLT, Nat.reduceLeDiff, Nat.reduceAdd, Nat.reduceSub, reduceIte]
      exact ⟨(i + 2, d + 1), ⟨by simp only; omega, by simp only; omega, by simp only; omega, by simp only; omega⟩, by simp only; omega, rfl⟩
    · simp only [EV, Nat.reduceEqDiff, Nat.reduceBEq, Nat.reduceLT, Nat.reduceLeDiff, Nat.reduceAdd, Nat.reduceSub, reduceIte]
      refine cK_cut (fun h => ?_) (fun h => ?_)
      · simp only [w1, w2, wd1, wd2, EV, Nat.reduceEqDiff, Nat.reduceBEq, Nat.reduceLT, Nat.reduceLeDiff, Nat.reduceAdd, Nat.reduceSub, reduceIte]
        refine cK_cut (fun h => ?_) (fun h => ?_)
        · simp only [EV, Nat.reduceEqDiff, Nat.reduceBEq, Nat.reduceLT, Nat.reduceLeDiff, Nat.reduceAdd, Nat.reduceSub, reduceIte]
          simp only [EV, Nat.reduceEqDiff, Nat.reduceBEq, Nat.reduceLT, Nat.reduceLeDiff, Nat.reduceAdd, Nat.reduceSub, reduceIte, evRE, retVC, cellV', evR, nfz, nfzs, nfzss, List.contains_nil, List.contains_cons, Bool.or_false, or_true]
          exact ⟨_, rfl, .inr ⟨by omega, by omega⟩⟩
        · simp only [EV, Nat.reduceEqDiff, Nat.reduceBEq, Nat.reduceLT, Nat.reduceLeDiff, Nat.reduceAdd, Nat.reduceSub, reduceIte]
          exact ⟨(i + 2, d - 1), ⟨by simp only; omega, by simp only; omega, by simp only; omega, by simp only; omega⟩, by simp only; omega, rfl⟩
      · simp only [w1, w2, wd1, wd2, EV, Nat.reduceEqDiff, Nat.reduceBEq, Nat.reduceLT, Nat.reduceLeDiff, Nat.reduceAdd, Nat.reduceSub, reduceIte]
        exact ⟨(i + 1, d), ⟨by simp only; omega, by simp only; omega, by simp only; omega, by simp only; omega⟩, by simp only; omega, rfl⟩
  · simp only [EV, Nat.reduceEqDiff, Nat.reduceBEq, Nat.reduceLT, Nat.reduceLeDiff, Nat.reduceAdd, Nat.reduceSub, reduceIte]
    simp only [EV, Nat.reduceEqDiff, Nat.reduceBEq, Nat.reduceLT, Nat.reduceLeDiff, Nat.reduceAdd, Nat.reduceSub, reduceIte, evRE, retVC, cellV', evR, nfz, nfzs, nfzss, List.contains_nil, List.contains_cons, Bool.or_false, or_true]
    exact ⟨_, rfl, .inl rfl⟩
def m47 : MC :=
 (.seq (.reg [Xb 4 (.alloc 76 [.i, .z, .i, .i]), Xb 5 (.asg (.i 0))]) (.seq (.reg [Xm 10 1, Xq 11 (.bin false .add (.t 10) (.i 1)), Xa 6 11]) (.seq (.reg [Xm 12 1, Xb 13 (.build [0, 3] [0, 3] [1, 1] [.i, .z, .i, .i] [.i 4, .t 12]), Xb 7 (.alloc 76 [.i, .z, .i, .i]), Xz (.store 4 (.t 7) (.t 13))]) (.join [0, 1, 4, 6, 7] (.seq (.reg [Xm 14 0, Xm 15 1, Xq 16 (.idx (.t 14) (.t 15)), Xb 17 (.call (.fn
 58) false [.lend (.t 16)]), Xm 18 17, Xu 19 18 (.mov (.t 0)), Xu 20 18 (.mov (.t 1)), Xu 21 18 (.idx (.t 19) (.t 20)), XU 22 18 (.call (.fn 59) false [.lend (.t 21)]), Xq 23 (.pick (.t 18) .tb (.t 22))]) (.cond (.t 23) (.block 0 (.loop [0, 1, 4, 6, 7] (.seq (.seq (.reg [Xm 24 6, Xm 25 0, Xq 26 (.len true (.t 25)), Xq 27 (.bin false .lss (.t 24) (.t 26)), Xm 28 27, Xt 29 28 (.mov (.t 0)), Xt 30 28
 (.mov (.t 6)), Xt 31 28 (.idx (.t 29) (.t 30)), XT 32 28 (.call (.fn 58) false [.lend (.t 31)]), Xt 33 28 (.mov (.t 32)), Xu 34 33 (.mov (.t 0)), Xu 35 33 (.mov (.t 6)), Xu 36 33 (.idx (.t 34) (.t 35)), XU 37 33 (.call (.fn 59) false [.lend (.t 36)]), Xt 38 28 (.pick (.t 33) .tb (.t 37)), Xq 39 (.pick (.t 28) (.t 38) .fb)]) (.cond (.t 39) .skip (.exit 0))) (.block 1 (.reg [Xm 40 6, Xq 41 (.bin
 false .add (.t 40) (.i 1)), Xa 6 41]))))) .skip)) (.seq (.reg [Xm 42 0, Xm 43 1, Xm 44 6, Xq 45 (.slc true 1 (.t 42) (some (.t 43)) (some (.t 44))), Xf 46 1 7, Xz (.store 1 (.t 46) (.t 45))]) (.join [4, 7] (.block 2 (.seq (.reg [Xm 48 0, Xm 49 1, Xq 50 (.idx (.t 48) (.t 49)), Xb 51 (.call (.fn 58) false [.lend (.t 50)]), Xa 47 51]) (.cond (.t 47) (.seq (.reg [Xf 52 0 7, Xz (.store 1 (.t 52) (.i
 1))]) (.seq (.reg [Xf 53 1 7, Xl 54 1 53, Xb 55 (.call (.fn 60) false [.lend (.t 54)])]) (.cond (.t 55) (.reg [Xf 56 0 7, Xz (.store 1 (.t 56) (.i 2))]) (.seq (.reg [Xf 57 1 7, Xl 58 1 57, Xb 59 (.call (.fn 55) false [.lend (.t 58)]), Xq 60 (.un .not (.t 59))]) (.cond (.t 60) (.seq (.reg [XL 61 4 7, Xz (.store 4 (.t 4) (.t 61)), Xb 5 (.asg (.i 3))]) .ret) .skip))))) (.seq (.reg [Xm 63 0, Xm 64 1,
 Xq 65 (.idx (.t 63) (.t 64)), Xb 66 (.call (.fn 59) false [.lend (.t 65)]), Xa 62 66]) (.cond (.t 62) (.seq (.reg [Xf 68 1 7, Xl 69 1 68, Xb 70 (.call (.fn 61) false [.lend (.t 69)]), Xm 67 70, Xq 71 (.ext 67 0), Xq 72 (.ext 67 1), Xa 8 71, Xa 9 72]) (.seq (.seq (.reg [Xm 73 9, Xq 74 (.un .not (.t 73))]) (.cond (.t 74) (.seq (.reg [XL 75 4 7, Xz (.store 4 (.t 4) (.t 75)), Xb 5 (.asg (.i 3))])
 .ret) .skip)) (.seq (.reg [Xf 76 0 7, Xz (.store 1 (.t 76) (.i 3))]) (.reg [Xm 77 8, Xf 78 2 7, Xz (.store 1 (.t 78) (.t 77))])))) (.seq (.reg [Xm 80 0, Xm 81 1, Xq 82 (.idx (.t 80) (.t 81)), Xb 83 (.call (.fn 62) false [.lend (.t 82)]), Xq 84 (.un .not (.t 83)), Xa 79 84]) (.cond (.t 79) (.seq (.reg [XL 85 4 7, Xz (.store 4 (.t 4) (.t 85)), Xb 5 (.asg (.i 4))]) .ret) .skip))))))) (.seq (.reg [XL
 86 4 7, Xz (.store 4 (.t 4) (.t 86)), Xb 5 (.asg (.i 0))]) .ret)))))))
set_option maxHeartbeats 4000000 in
set_option maxRecDepth 100000 in
theorem e47 (s : ByteArray) (a : Nat) (ha : a < s.size) (hs : (s.size : Int) ≤ 1200) : DoesE Go.Proofs.Try.prog 47 [.v (.string s), .v (.int .i64 (a : Int))] false fun r o => o = [.dead, .dead] ∧ ∃ (t : Tok) (c : Int), r = .tup [.agg t.z, .v (.int .i64 c)] ∧ 0 ≤ c ∧ t.b ∧ a + t.text.size ≤ s.size := by
  have aI : (a : Int) < (s.size : Int) := by omega
  have a0 : (0 : Int) ≤ (a : Int) := by omega
  have wa := w64 ((a : Int) + 1) (by omega)
  refine doesM_intro (mc := m47) (N := 87) (rs := [.c 4 76 true 4, .t 5]) (fx := []) 2 rfl (by decide +kernel) ?_
  simp only [m47, wa, aI, a0, EV, Nat.reduceEqDiff, Nat.reduceBEq, Nat.reduceLT, Nat.reduceLeDiff, Nat.reduceAdd, Nat.reduceSub, reduceIte]
  refine awp_join (fun e : Nat => a < e ∧ e ≤ s.size) (fun e => stl [(0, .v (.string s)), (1, .v (.int .i64 (a : Int))), (4, .box 76 (Tok.z ⟨0, ⟨#[]⟩, 0, 0⟩)), (6, .v (.int .i64 (e : Int))), (7, .box 76 (Tok.z ⟨4, ⟨#[]⟩, 0, a⟩))]) ?_ ?_
  · simp only [aI, a0, EV, Nat.reduceEqDiff, Nat.reduceBEq, Nat.reduceLT, Nat.reduceLeDiff, Nat.reduceAdd, Nat.reduceSub, reduceIte]
    refine callK_i (d58 _) ?_
    rcases e1 : lett (sAt s (a : Int)) with _ | _
    · simp only [e1, aI, a0, EV, Nat.reduceEqDiff, Nat.reduceBEq, Nat.reduceLT, Nat.reduceLeDiff, Nat.reduceAdd, Nat.reduceSub, reduceIte]
      refine callK_i (d59 _) ?_
      rcases e2 : digt (sAt s (a : Int)) with _ | _
      · simp only [e2, EV, Nat.reduceEqDiff, Nat.reduceBEq, Nat.reduceLT, Nat.reduceLeDiff, Nat.reduceAdd, Nat.reduceSub, reduceIte]
        exact ⟨a + 1, ⟨by omega, by omega⟩, rfl⟩
      simp only [e2, EV, Nat.reduceEqDiff, Nat.reduceBEq, Nat.reduceLT, Nat.reduceLeDiff, Nat.reduceAdd, Nat.reduceSub, reduceIte]
      refine awp_loop (fun e : Nat => a < e ∧ e ≤ s.size) (fun e => stl [(0, .v (.string s)), (1, .v (.int .i64 (a : Int))), (4, .box 76 (Tok.z ⟨0, ⟨#[]⟩, 0, 0⟩)), (6, .v (.int .i64 (e : Int))), (7, .box 76 (Tok.z ⟨4, ⟨#[]⟩, 0, a⟩))]) (fun e => s.size - e) (a + 1) ⟨by omega, by omega⟩ ?_ ?_
      · simp only [Tok.z, EV, Nat.reduceEqDiff, Nat.reduceBEq, Nat.reduceLT, Nat.reduceLeDiff, Nat.reduceAdd, Nat.reduceSub, reduceIte]
        rfl
      rintro e ⟨g1, g2⟩
      have we := w64 ((e : Int) + 1) (by omega)
      have eI0 : (0 : Int) ≤ (e : Int) := by omega
      simp only [Tok.z, EV, Nat.reduceEqDiff, Nat.reduceBEq, Nat.reduceLT, Nat.reduceLeDiff, Nat.reduceAdd, Nat.reduceSub, reduceIte]
      rcases e4 : decide ((e : Int) < (s.size : Int)) with _ | _
      · simp only [e4, EV, Nat.reduceEqDiff, Nat.reduceBEq, Nat.reduceLT, Nat.reduceLeDiff, Nat.reduceAdd, Nat.reduceSub, reduceIte]
        exact ⟨e, ⟨g1, g2⟩, rfl⟩
      have eI : (e : Int) < (s.size : Int) := by simpa using e4
      simp only [e4, eI, eI0, EV, Nat.reduceEqDiff, Nat.reduceBEq, Nat.reduceLT, Nat.reduceLeDiff, Nat.reduceAdd, Nat.reduceSub, reduceIte]
      refine callK_i (d58 _) ?_
      rcases e5 : lett (sAt s (e : Int)) with _ | _
      · simp only [e5, eI, eI0, EV, Nat.reduceEqDiff, Nat.reduceBEq, Nat.reduceLT, Nat.reduceLeDiff, Nat.reduceAdd, Nat.reduceSub, reduceIte]
        refine callK_i (d59 _) ?_
        rcases e6 : digt (sAt s (e : Int)) with _ | _
        · simp only [e6, EV, Nat.reduceEqDiff, Nat.reduceBEq, Nat.reduceLT, Nat.reduceLeDiff, Nat.reduceAdd, Nat.reduceSub, reduceIte]
          exact ⟨e, ⟨g1, g2⟩, rfl⟩
        · simp only [e6, we, EV, Nat.reduceEqDiff, Nat.reduceBEq, Nat.reduceLT, Nat.reduceLeDiff, Nat.reduceAdd, Nat.reduceSub, reduceIte]
          exact ⟨e + 1, ⟨by omega, by omega⟩, by omega, rfl⟩
      · simp only [e5, we, EV, Nat.reduceEqDiff, Nat.reduceBEq, Nat.reduceLT, Nat.reduceLeDiff, Nat.reduceAdd, Nat.reduceSub, reduceIte]
        exact ⟨e + 1, ⟨by omega, by omega⟩, by omega, rfl⟩
    · simp only [e1, EV, Nat.reduceEqDiff, Nat.reduceBEq, Nat.reduceLT, Nat.reduceLeDiff, Nat.reduceAdd, Nat.reduceSub, reduceIte]
      refine awp_loop (fun e : Nat => a < e ∧ e ≤ s.size) (fun e => stl [(0, .v (.string s)), (1, .v (.int .i64 (a : Int))), (4, .box 76 (Tok.z ⟨0, ⟨#[]⟩, 0, 0⟩)), (6, .v (.int .i64 (e : Int))), (7, .box 76 (Tok.z ⟨4, ⟨#[]⟩, 0, a⟩))]) (fun e => s.size - e) (a + 1) ⟨by omega, by omega⟩ ?_ ?_
      · simp only [Tok.z, EV, Nat.reduceEqDiff, Nat.reduceBEq, Nat.reduceLT, Nat.reduceLeDiff, Nat.reduceAdd, Nat.reduceSub, reduceIte]
        rfl
      rintro e ⟨g1, g2⟩
      have we := w64 ((e : Int) + 1) (by omega)
      have eI0 : (0 : Int) ≤ (e : Int) := by omega
      simp only [Tok.z, EV, Nat.reduceEqDiff, Nat.reduceBEq, Nat.reduceLT, Nat.reduceLeDiff, Nat.reduceAdd, Nat.reduceSub, reduceIte]
      rcases e4 : decide ((e : Int) < (s.size : Int)) with _ | _
      · simp only [e4, EV, Nat.reduceEqDiff, Nat.reduceBEq, Nat.reduceLT, Nat.reduceLeDiff, Nat.reduceAdd, Nat.reduceSub, reduceIte]
        exact ⟨e, ⟨g1, g2⟩, rfl⟩
      have eI : (e : Int) < (s.size : Int) := by simpa using e4
      simp only [e4, eI, eI0, EV, Nat.reduceEqDiff, Nat.reduceBEq, Nat.reduceLT, Nat.reduceLeDiff, Nat.reduceAdd, Nat.reduceSub, reduceIte]
      refine callK_i (d58 _) ?_
      rcases e5 : lett (sAt s (e : Int)) with _ | _
      · simp only [e5, eI, eI0, EV, Nat.reduceEqDiff, Nat.reduceBEq, Nat.reduceLT, Nat.reduceLeDiff, Nat.reduceAdd, Nat.reduceSub, reduceIte]
        refine callK_i (d59 _) ?_
        rcases e6 : digt (sAt s (e : Int)) with _ | _
        · simp only [e6, EV, Nat.reduceEqDiff, Nat.reduceBEq, Nat.reduceLT, Nat.reduceLeDiff, Nat.reduceAdd, Nat.reduceSub, reduceIte]
          exact ⟨e, ⟨g1, g2⟩, rfl⟩
        · simp only [e6, we, EV, Nat.reduceEqDiff, Nat.reduceBEq, Nat.reduceLT, Nat.reduceLeDiff, Nat.reduceAdd, Nat.reduceSub, reduceIte]
          exact ⟨e + 1, ⟨by omega, by omega⟩, by omega, rfl⟩
      · simp only [e5, we, EV, Nat.reduceEqDiff, Nat.reduceBEq, Nat.reduceLT, Nat.reduceLeDiff, Nat.reduceAdd, Nat.reduceSub, reduceIte]
        exact ⟨e + 1, ⟨by omega, by omega⟩, by omega, rfl⟩
  rintro e ⟨g1, g2⟩
  have c1 : (a : Int) ≤ (e : Int) := by omega
  have c2 : (e : Int) ≤ (s.size : Int) := by omega
  have hx : (s.extract a e).size = e - a := by
    simp only [ByteArray.size_extract]; omega
  simp only [c1, c2, a0, Tok.z, EV, Nat.reduceEqDiff, Nat.reduceBEq, Nat.reduceLT, Nat.reduceLeDiff, Nat.reduceAdd, Nat.reduceSub, reduceIte]
  generalize s.extract a e = x at hx ⊢
  have tb : ∀ k v : Int, 0 ≤ k → k ≤ 4 → 0 ≤ v → v ≤ 10000000000 → Tok.b ⟨k, x, v, a⟩ ∧ a + x.size ≤ s.size := fun k v h1 h2 h3 h4 => ⟨⟨⟨h1, h2⟩, ⟨by simp only; omega, by simp only; omega⟩, h3, h4⟩, by omega⟩
  refine awp_join (fun p : Int × Int => 0 ≤ p.1 ∧ p.1 ≤ 4 ∧ 0 ≤ p.2 ∧ p.2 ≤ 10000000000) (fun p => stl [(4, .box 76 (Tok.z ⟨0, ⟨#[]⟩, 0, 0⟩)), (7, .box 76 (Tok.z ⟨p.1, x, p.2, a⟩))]) ?_ ?_
  · simp only [aI, a0, Tok.z, EV, Nat.reduceEqDiff, Nat.reduceBEq, Nat.reduceLT, Nat.reduceLeDiff, Nat.reduceAdd, Nat.reduceSub, reduceIte]
    refine callK_i (d58 _) ?_
    rcases e1 : lett (sAt s (a : Int)) with _ | _
    · simp only [e1, aI, a0, EV, Nat.reduceEqDiff, Nat.reduceBEq, Nat.reduceLT, Nat.reduceLeDiff, Nat.reduceAdd, Nat.reduceSub, reduceIte]
      refine callK_i (d59 _) ?_
      rcases e2 : digt (sAt s (a : Int)) with _ | _
      · simp only [e2, aI, a0, EV, Nat.reduceEqDiff, Nat.reduceBEq, Nat.reduceLT, Nat.reduceLeDiff, Nat.reduceAdd, Nat.reduceSub, reduceIte]
        refine callE_i (e62 _) (fun r o h => ⟨h.2, h.1⟩) ?_
        rintro _ ⟨v, rfl⟩
        cases v
        · simp only [Bool.not_false, Tok.z, EV, Nat.reduceEqDiff, Nat.reduceBEq, Nat.reduceLT, Nat.reduceLeDiff, Nat.reduceAdd, Nat.reduceSub, reduceIte]
          simp only [pbeq, evRM, EV, Nat.reduceEqDiff, Nat.reduceBEq, Nat.reduceLT, Nat.reduceLeDiff, Nat.reduceAdd, Nat.reduceSub, reduceIte, evRE, retVC, cellV', evR, nfz, nfzs, nfzss, List.contains_nil, List.contains_cons, Bool.or_false, or_true]
          exact ⟨⟨4, x, 0, a⟩, 4, rfl, by decide, tb 4 0 (by decide) (by decide) (by decide) (by decide)⟩
        · simp only [Bool.not_true, Tok.z, EV, Nat.reduceEqDiff, Nat.reduceBEq, Nat.reduceLT, Nat.reduceLeDiff, Nat.reduceAdd, Nat.reduceSub, reduceIte]
          exact ⟨(4, 0), ⟨by decide, by decide, by decide, by decide⟩, rfl⟩
      · simp only [e2, Tok.z, EV, Nat.reduceEqDiff, Nat.reduceBEq, Nat.reduceLT, Nat.reduceLeDiff, Nat.reduceAdd, Nat.reduceSub, reduceIte]
        refine callE_i (e61 x (by omega)) (fun r o h => ⟨h.2, h.1⟩) ?_
        rintro _ ⟨m, v, rfl, m0, m1⟩
        cases v
        · simp only [Bool.not_false, Tok.z, EV, Nat.reduceEqDiff, Nat.reduceBEq, Nat.reduceLT, Nat.reduceLeDiff, Nat.reduceAdd, Nat.reduceSub, reduceIte]
          simp only [pbeq, evRM, EV, Nat.reduceEqDiff, Nat.reduceBEq, Nat.reduceLT, Nat.reduceLeDiff, Nat.reduceAdd, Nat.reduceSub, reduceIte, evRE, retVC, cellV', evR, nfz, nfzs, nfzss, List.contains_nil, List.contains_cons, Bool.or_false, or_true]
          exact ⟨⟨4, x, 0, a⟩, 3, rfl, by decide, tb 4 0 (by decide) (by decide) (by decide) (by decide)⟩
        · simp only [Bool.not_true, Tok.z, EV, Nat.reduceEqDiff, Nat.reduceBEq, Nat.reduceLT, Nat.reduceLeDiff, Nat.reduceAdd, Nat.reduceSub, reduceIte]
          exact ⟨(3, m), ⟨(by decide : (0 : Int) ≤ 3), (by decide : (3 : Int) ≤ 4), m0, m1⟩, rfl⟩
    · simp only [e1, Tok.z, EV, Nat.reduceEqDiff, Nat.reduceBEq, Nat.reduceLT, Nat.reduceLeDiff, Nat.reduceAdd, Nat.reduceSub, reduceIte]
      refine callE_i (e60 x) (fun r o h => ⟨h.2, h.1⟩) ?_
      rintro _ ⟨v, rfl⟩
      cases v
      · simp only [Tok.z, EV, Nat.reduceEqDiff, Nat.reduceBEq, Nat.reduceLT, Nat.reduceLeDiff, Nat.reduceAdd, Nat.reduceSub, reduceIte]
        refine callK_i (d55 x (by omega)) ?_
        simp only [EV, Nat.reduceEqDiff, Nat.reduceBEq, Nat.reduceLT, Nat.reduceLeDiff, Nat.reduceAdd, Nat.reduceSub, reduceIte]
        rcases e7 : nameOk x with _ | _
        · simp only [Bool.not_false, Tok.z, EV, Nat.reduceEqDiff, Nat.reduceBEq, Nat.reduceLT, Nat.reduceLeDiff, Nat.reduceAdd, Nat.reduceSub, reduceIte]
          simp only [pbeq, evRM, EV, Nat.reduceEqDiff, Nat.reduceBEq, Nat.reduceLT, Nat.reduceLeDiff, Nat.reduceAdd, Nat.reduceSub, reduceIte, evRE, retVC, cellV', evR, nfz, nfzs, nfzss, List.contains_nil, List.contains_cons, Bool.or_false, or_true]
          exact ⟨⟨1, x, 0, a⟩, 3, rfl, by decide, tb 1 0 (by decide) (by decide) (by decide) (by decide)⟩
        · simp only [Bool.not_true, Tok.z, EV, Nat.reduceEqDiff, Nat.reduceBEq, Nat.reduceLT, Nat.reduceLeDiff, Nat.reduceAdd, Nat.reduceSub, reduceIte]
          exact ⟨(1, 0), ⟨by decide, by decide, by decide, by decide⟩, rfl⟩
      · simp only [Tok.z, EV, Nat.reduceEqDiff, Nat.reduceBEq, Nat.reduceLT, Nat.reduceLeDiff, Nat.reduceAdd, Nat.reduceSub, reduceIte]
        exact ⟨(2, 0), ⟨by decide, by decide, by decide, by decide⟩, rfl⟩
  rintro ⟨k, v⟩ ⟨q1, q2, q3, q4⟩
  simp only at q1 q2 q3 q4
  simp only [Tok.z, EV, Nat.reduceEqDiff, Nat.reduceBEq, Nat.reduceLT, Nat.reduceLeDiff, Nat.reduceAdd, Nat.reduceSub, reduceIte]
  simp only [pbeq, evRM, EV, Nat.reduceEqDiff, Nat.reduceBEq, Nat.reduceLT, Nat.reduceLeDiff, Nat.reduceAdd, Nat.reduceSub, reduceIte, evRE, retVC, cellV', evR, nfz, nfzs, nfzss, List.contains_nil, List.contains_cons, Bool.or_false, or_true]
  exact ⟨⟨k, x, v, a⟩, 0, rfl, by decide, tb k v q1 q2 q3 q4⟩
end Go.AM
namespace Go.AM
set_option linter.unusedVariables false
set_option linter.unusedSimpArgs false
def failP (p : Ps) : Ps := if p.bad = 0 then { p with bad := p.pos + 1 } else p
def isP (p : Ps) (s : ByteArray) : Bool := decide (p.bad = 0) && (if h : p.pos < p.l.length then p.l[p.pos].text.toList == s.toList else false)
def kdP (p : Ps) (k : Int) : Bool := decide (p.bad = 0) && (if h : p.pos < p.l.length then p.l[p.pos].kind == k else false)
def goP (p : Ps) : Ps := { p with pos := p.pos + 1 }
def putP (p : Ps) (s : Step) : Ps := if p.bad = 0 then { p with out := p.out ++ [s] } else p
theorem isP_t {p : Ps} {s : ByteArray} (h : isP p s = true) : p.bad = 0 ∧ p.pos < p.l.length := by
  unfold isP at h
  simp only [Bool.and_eq_true, decide_eq_true_eq] at h
  obtain ⟨h1, h2⟩ := h
  split at h2
  · exact ⟨h1, by assumption⟩
  · cases h2
theorem kdP_t {p : Ps} {k : Int} (h : kdP p k = true) : p.bad = 0 ∧ p.pos < p.l.length := by
  unfold kdP at h
  simp only [Bool.and_eq_true, decide_eq_true_eq] at h
  obtain ⟨h1, h2⟩ := h
  split at h2
  · exact ⟨h1, by assumption⟩
  · cases h2
def m51 : MC :=
 (.seq (.reg [Xm 2 0, Xq 3 (.nilchk (.t 2)), Xf 4 2 3, Xl 5 1 4, Xq 6 (.bin false .eql (.t 5) (.i 0))]) (.cond (.t 6) (.reg [Xm 7 0, Xm 8 0, Xq 9 (.nilchk (.t 8)), Xf 10 1 9, Xl 11 1 10, Xq 12 (.bin false .add (.t 11) (.i 1)), Xq 13 (.nilchk (.t 7)), Xf 14 2 13, Xz (.store 1 (.t 14) (.t 12))]) .skip))
theorem q51 (p : Ps) (hp : p.ok) : PDoes 51 [] p fun r p' => r = .tup [] ∧ p' = failP p := by
  have := hp.few
  have := hp.here
  have wp := w64 ((p.pos : Int) + 1) (by omega)
  refine doesE_intro (mc := m51) (N := 15) (rs := []) (fx := [0]) 1 rfl (by decide +kernel) ?_
  simp only [m51, Ps.z, evN, EV, Nat.reduceEqDiff, Nat.reduceBEq, Nat.reduceLT, Nat.reduceLeDiff, Nat.reduceAdd, Nat.reduceSub, reduceIte]
  rcases e : ((p.bad : Int) == 0) with _ | _
  · have : ¬ p.bad = 0 := by simpa using e
    simp only [e, Ps.z, evN, EV, Nat.reduceEqDiff, Nat.reduceBEq, Nat.reduceLT, Nat.reduceLeDiff, Nat.reduceAdd, Nat.reduceSub, reduceIte]
    simp only [EV, Nat.reduceEqDiff, Nat.reduceBEq, Nat.reduceLT, Nat.reduceLeDiff, Nat.reduceAdd, Nat.reduceSub, reduceIte, evRE, retVC, cellV', evR, nfz, nfzs, nfzss, List.contains_nil, List.contains_cons, Bool.or_false, or_true]
    exact ⟨p, rfl, by simp [failP, this]⟩
  · have : p.bad = 0 := by simpa using e
    simp only [e, wp, Ps.z, evN, EV, Nat.reduceEqDiff, Nat.reduceBEq, Nat.reduceLT, Nat.reduceLeDiff, Nat.reduceAdd, Nat.reduceSub, reduceIte]
    simp only [EV, Nat.reduceEqDiff, Nat.reduceBEq, Nat.reduceLT, Nat.reduceLeDiff, Nat.reduceAdd, Nat.reduceSub, reduceIte, evRE, retVC, cellV', evR, nfz, nfzs, nfzss, List.contains_nil, List.contains_cons, Bool.or_false, or_true]
    exact ⟨{ p with bad := p.pos + 1 }, rfl, by simp [failP, this]⟩
def m71 : MC :=
 (.seq (.reg [Xb 4 (.asg .fb)]) (.seq (.dreg [Xm 5 0, Xq 6 (.nilchk (.t 5)), Xf 7 2 6, Xl 8 1 7, Xq 9 (.bin false .eql (.t 8) (.i 0)), Xm 10 9, Xt 11 10 (.mov (.t 0)), Xt 12 10 (.nilchk (.t 11)), Xt 13 10 (.fad 1 (.t 12)), Xt 14 10 (.load false 1 (.t 13)), Xt 15 10 (.mov (.t 0)), Xt 16 10 (.nilchk (.t 15)), Xt 17 10 (.fad 0 (.t 16)), Xt 18 10 (.load false 1 (.t 17)), Xt 19 10 (.len false (.t 18)),
 Xt 20 10 (.bin false .lss (.t 14) (.t 19)), Xq 21 (.pick (.t 10) (.t 20) .fb), Xm 22 21, Xt 23 22 (.mov (.t 0)), Xt 24 22 (.nilchk (.t 23)), Xt 25 22 (.fad 0 (.t 24)), Xt 26 22 (.load false 1 (.t 25)), Xt 27 22 (.mov (.t 0)), Xt 28 22 (.nilchk (.t 27)), Xt 29 22 (.fad 1 (.t 28)), Xt 30 22 (.load false 1 (.t 29)), Xt 31 22 (.iad 4 (.t 26) (.t 30)), Xt 32 22 (.fad 1 (.t 31)), Xt 33 22 (.load false 1
 (.t 32)), Xt 34 22 (.mov (.t 1)), Xt 35 22 (.bin false .eql (.t 33) (.t 34)), Xq 36 (.pick (.t 22) (.t 35) .fb), Xm 4 36]) .ret))
theorem q71 (p : Ps) (hp : p.ok) (s : ByteArray) : PDoes 71 [.v (.string s)] p fun r p' => r = .v (.bool (isP p s)) ∧ p' = p := by
  refine doesE_intro (mc := m71) (N := 37) (rs := [4]) (fx := [0]) 2 rfl (by decide +kernel) ?_
  simp only [m71, Ps.z, evN, EV, Nat.reduceEqDiff, Nat.reduceBEq, Nat.reduceLT, Nat.reduceLeDiff, Nat.reduceAdd, Nat.reduceSub, reduceIte]
  rcases e : ((p.bad : Int) == 0) with _ | _
  · have h0 : ¬ p.bad = 0 := by simpa using e
    simp only [e, Ps.z, evN, EV, Nat.reduceEqDiff, Nat.reduceBEq, Nat.reduceLT, Nat.reduceLeDiff, Nat.reduceAdd, Nat.reduceSub, reduceIte]
    simp only [EV, Nat.reduceEqDiff, Nat.reduceBEq, Nat.reduceLT, Nat.reduceLeDiff, Nat.reduceAdd, Nat.reduceSub, reduceIte, evRE, retVC, cellV', evR, nfz, nfzs, nfzss, List.contains_nil, List.contains_cons, Bool.or_false, or_true]
    exact ⟨p, rfl, by simp [isP, h0], rfl⟩
  have h0 : p.bad = 0 := by simpa using e
  simp only [e, Ps.z, evN, EV, Nat.reduceEqDiff, Nat.reduceBEq, Nat.reduceLT, Nat.reduceLeDiff, Nat.reduceAdd, Nat.reduceSub, reduceIte]
  rcases e1 : decide ((p.pos : Int) < (p.l.length : Int)) with _ | _
  · have h1 : ¬ p.pos < p.l.length := by have : ¬ (p.pos : Int) < (p.l.length : Int) := by simpa using e1
                                         omega
    simp only [e1, Ps.z, evN, EV, Nat.reduceEqDiff, Nat.reduceBEq, Nat.reduceLT, Nat.reduceLeDiff, Nat.reduceAdd, Nat.reduceSub, reduceIte]
    simp only [EV, Nat.reduceEqDiff, Nat.reduceBEq, Nat.reduceLT, Nat.reduceLeDiff, Nat.reduceAdd, Nat.reduceSub, reduceIte, evRE, retVC, cellV', evR, nfz, nfzs, nfzss, List.contains_nil, List.contains_cons, Bool.or_false, or_true]
    exact ⟨p, rfl, by simp [isP, h1], rfl⟩
  have h2 : (p.pos : Int) < (p.l.length : Int) := by simpa using e1
  have h1 : p.pos < p.l.length := by omega
  simp only [e1, h1, h2, nth_map h1, Tok.z, Ps.z, evN, EV, Nat.reduceEqDiff, Nat.reduceBEq, Nat.reduceLT, Nat.reduceLeDiff, Nat.reduceAdd, Nat.reduceSub, reduceIte]
  simp only [EV, Nat.reduceEqDiff, Nat.reduceBEq, Nat.reduceLT, Nat.reduceLeDiff, Nat.reduceAdd, Nat.reduceSub, reduceIte, evRE, retVC, cellV', evR, nfz, nfzs, nfzss, List.contains_nil, List.contains_cons, Bool.or_false, or_true]
  exact ⟨p, rfl, by simp [isP, h0, h1], rfl⟩
def m72 : MC :=
 (.seq (.reg [Xb 4 (.asg .fb)]) (.seq (.dreg [Xm 5 0, Xq 6 (.nilchk (.t 5)), Xf 7 2 6, Xl 8 1 7, Xq 9 (.bin false .eql (.t 8) (.i 0)), Xm 10 9, Xt 11 10 (.mov (.t 0)), Xt 12 10 (.nilchk (.t 11)), Xt 13 10 (.fad 1 (.t 12)), Xt 14 10 (.load false 1 (.t 13)), Xt 15 10 (.mov (.t 0)), Xt 16 10 (.nilchk (.t 15)), Xt 17 10 (.fad 0 (.t 16)), Xt 18 10 (.load false 1 (.t 17)), Xt 19 10 (.len false (.t 18)),
 Xt 20 10 (.bin false .lss (.t 14) (.t 19)), Xq 21 (.pick (.t 10) (.t 20) .fb), Xm 22 21, Xt 23 22 (.mov (.t 0)), Xt 24 22 (.nilchk (.t 23)), Xt 25 22 (.fad 0 (.t 24)), Xt 26 22 (.load false 1 (.t 25)), Xt 27 22 (.mov (.t 0)), Xt 28 22 (.nilchk (.t 27)), Xt 29 22 (.fad 1 (.t 28)), Xt 30 22 (.load false 1 (.t 29)), Xt 31 22 (.iad 4 (.t 26) (.t 30)), Xt 32 22 (.fad 0 (.t 31)), Xt 33 22 (.load false 1
 (.t 32)), Xt 34 22 (.mov (.t 1)), Xt 35 22 (.bin false .eql (.t 33) (.t 34)), Xq 36 (.pick (.t 22) (.t 35) .fb), Xm 4 36]) .ret))
theorem q72 (p : Ps) (hp : p.ok) (k : Int) : PDoes 72 [.v (.int .i64 k)] p fun r p' => r = .v (.bool (kdP p k)) ∧ p' = p := by
  refine doesE_intro (mc := m72) (N := 37) (rs := [4]) (fx := [0]) 2 rfl (by decide +kernel) ?_
  simp only [m72, Ps.z, evN, EV, Nat.reduceEqDiff, Nat.reduceBEq, Nat.reduceLT, Nat.reduceLeDiff, Nat.reduceAdd, Nat.reduceSub, reduceIte]
  rcases e : ((p.bad : Int) == 0) with _ | _
  · have h0 : ¬ p.bad = 0 := by simpa using e
    simp only [e, Ps.z, evN, EV, Nat.reduceEqDiff, Nat.reduceBEq, Nat.reduceLT, Nat.reduceLeDiff, Nat.reduceAdd, Nat.reduceSub, reduceIte]
    simp only [EV, Nat.reduceEqDiff, Nat.reduceBEq, Nat.reduceLT, Nat.reduceLeDiff, Nat.reduceAdd, Nat.reduceSub, reduceIte, evRE, retVC, cellV', evR, nfz, nfzs, nfzss, List.contains_nil, List.contains_cons, Bool.or_false, or_true]
    exact ⟨p, rfl, by simp [kdP, h0], rfl⟩
  have h0 : p.bad = 0 := by simpa using e
  simp only [e, Ps.z, evN, EV, Nat.reduceEqDiff, Nat.reduceBEq, Nat.reduceLT, Nat.reduceLeDiff, Nat.reduceAdd, Nat.reduceSub, reduceIte]
  rcases e1 : decide ((p.pos : Int) < (p.l.length : Int)) with _ | _
  · have h1 : ¬ p.pos < p.l.length := by have : ¬ (p.pos : Int) < (p.l.length : Int) := by simpa using e1
                                         omega
    simp only [e1, Ps.z, evN, EV, Nat.reduceEqDiff, Nat.reduceBEq, Nat.reduceLT, Nat.reduceLeDiff, Nat.reduceAdd, Nat.reduceSub, reduceIte]
    simp only [EV, Nat.reduceEqDiff, Nat.reduceBEq, Nat.reduceLT, Nat.reduceLeDiff, Nat.reduceAdd, Nat.reduceSub, reduceIte, evRE, retVC, cellV', evR, nfz, nfzs, nfzss, List.contains_nil, List.contains_cons, Bool.or_false, or_true]
    exact ⟨p, rfl, by simp [kdP, h1], rfl⟩
  have h2 : (p.pos : Int) < (p.l.length : Int) := by simpa using e1
  have h1 : p.pos < p.l.length := by omega
  simp only [e1, h1, h2, nth_map h1, Tok.z, Ps.z, evN, EV, Nat.reduceEqDiff, Nat.reduceBEq, Nat.reduceLT, Nat.reduceLeDiff, Nat.reduceAdd, Nat.reduceSub, reduceIte]
  simp only [EV, Nat.reduceEqDiff, Nat.reduceBEq, Nat.reduceLT, Nat.reduceLeDiff, Nat.reduceAdd, Nat.reduceSub, reduceIte, evRE, retVC, cellV', evR, nfz, nfzs, nfzss, List.contains_nil, List.contains_cons, Bool.or_false, or_true]
  exact ⟨p, rfl, by simp [kdP, h0, h1], rfl⟩
def m64 : MC :=
 (.seq (.reg [Xb 4 (.asg .fb)]) (.seq (.seq (.reg [Xm 5 0, Xm 6 1, Xb 7 (.call (.fn 71) false [.io (.t 5), .lend (.t 6)]), Xq 8 (.un .not (.t 7))]) (.cond (.t 8) (.seq (.reg [Xb 4 (.asg .fb)]) .ret) .skip)) (.seq (.reg [Xm 9 0, Xq 10 (.nilchk (.t 9)), Xf 11 1 10, Xl 12 1 11, Xq 13 (.bin false .add (.t 12) (.i 1)), Xq 14 (.nilchk (.t 9)), Xf 15 1 14, Xz (.store 1 (.t 15) (.t 13))]) (.seq (.reg [Xb 4
 (.asg .tb)]) .ret))))
theorem q64 (p : Ps) (hp : p.ok) (s : ByteArray) : PDoes 64 [.v (.string s)] p fun r p' => r = .v (.bool (isP p s)) ∧ p' = if isP p s = true then goP p else p := by
  have := hp.few
  have := hp.here
  have wp := w64 ((p.pos : Int) + 1) (by omega)
  refine doesE_intro (mc := m64) (N := 16) (rs := [4]) (fx := [0]) 2 rfl (by decide +kernel) ?_
  simp only [m64, EV, Nat.reduceEqDiff, Nat.reduceBEq, Nat.reduceLT, Nat.reduceLeDiff, Nat.reduceAdd, Nat.reduceSub, reduceIte]
  refine (q71 p hp s).call (fun _ => rfl) ?_
  rintro _ p1 ⟨rfl, e1⟩
  simp only [e1, EV, Nat.reduceEqDiff, Nat.reduceBEq, Nat.reduceLT, Nat.reduceLeDiff, Nat.reduceAdd, Nat.reduceSub, reduceIte]
  rcases e : isP p s with _ | _
  · simp only [Bool.not_false, EV, Nat.reduceEqDiff, Nat.reduceBEq, Nat.reduceLT, Nat.reduceLeDiff, Nat.reduceAdd, Nat.reduceSub, reduceIte]
    simp only [EV, Nat.reduceEqDiff, Nat.reduceBEq, Nat.reduceLT, Nat.reduceLeDiff, Nat.reduceAdd, Nat.reduceSub, reduceIte, evRE, retVC, cellV', evR, nfz, nfzs, nfzss, List.contains_nil, List.contains_cons, Bool.or_false, or_true]
    exact ⟨p, rfl, by simp⟩
  · simp only [Bool.not_true, wp, Ps.z, evN, EV, Nat.reduceEqDiff, Nat.reduceBEq, Nat.reduceLT, Nat.reduceLeDiff, Nat.reduceAdd, Nat.reduceSub, reduceIte]
    simp only [EV, Nat.reduceEqDiff, Nat.reduceBEq, Nat.reduceLT, Nat.reduceLeDiff, Nat.reduceAdd, Nat.reduceSub, reduceIte, evRE, retVC, cellV', evR, nfz, nfzs, nfzss, List.contains_nil, List.contains_cons, Bool.or_false, or_true]
    exact ⟨goP p, rfl, by simp⟩
def m73 : MC :=
 (.seq (.reg [Xb 2 (.asg (.z #[]))]) (.seq (.seq (.reg [Xm 3 0, Xb 4 (.call (.fn 72) false [.io (.t 3), .lend (.i 1)]), Xq 5 (.un .not (.t 4))]) (.cond (.t 5) (.seq (.reg [Xm 6 0, Xb 7 (.call (.fn 51) false [.io (.t 6)])]) (.seq (.reg [Xb 2 (.asg (.z #[]))]) .ret)) .skip)) (.seq (.reg [Xm 8 0, Xq 9 (.nilchk (.t 8)), Xf 10 1 9, Xl 11 1 10, Xq 12 (.bin false .add (.t 11) (.i 1)), Xq 13 (.nilchk (.t
 8)), Xf 14 1 13, Xz (.store 1 (.t 14) (.t 12))]) (.seq (.dreg [Xm 15 0, Xq 16 (.nilchk (.t 15)), Xf 17 0 16, Xl 18 1 17, Xm 19 0, Xq 20 (.nilchk (.t 19)), Xf 21 1 20, Xl 22 1 21, Xq 23 (.bin false .sub (.t 22) (.i 1)), Xi 24 4 18 23, Xf 25 1 24, Xl 26 1 25, Xm 2 26]) .ret))))
theorem q73 (p : Ps) (hp : p.ok) : PDoes 73 [] p fun r p' => ∃ x : ByteArray, r = .v (.string x) ∧ (x.size : Int) ≤ 1200 ∧ p' = if kdP p 1 = true then goP p else failP p := by
  have := hp.few
  have := hp.here
  have wp := w64 ((p.pos : Int) + 1) (by omega)
  have wm : IntKind.i64.wrap ((p.pos : Int) + 1 - 1) = (p.pos : Int) := by rw [w64 _ (by omega)]; omega
  refine doesE_intro (mc := m73) (N := 27) (rs := [2]) (fx := [0]) 1 rfl (by decide +kernel) ?_
  simp only [m73, EV, Nat.reduceEqDiff, Nat.reduceBEq, Nat.reduceLT, Nat.reduceLeDiff, Nat.reduceAdd, Nat.reduceSub, reduceIte]
  refine (q72 p hp 1).call (fun _ => rfl) ?_
  rintro _ p1 ⟨rfl, e1⟩
  simp only [e1, EV, Nat.reduceEqDiff, Nat.reduceBEq, Nat.reduceLT, Nat.reduceLeDiff, Nat.reduceAdd, Nat.reduceSub, reduceIte]
  rcases e : kdP p 1 with _ | _
  · simp only [Bool.not_false, EV, Nat.reduceEqDiff, Nat.reduceBEq, Nat.reduceLT, Nat.reduceLeDiff, Nat.reduceAdd, Nat.reduceSub, reduceIte]
    refine (q51 p hp).call (fun _ => rfl) ?_
    rintro _ _ ⟨rfl, rfl⟩
    simp only [EV, Nat.reduceEqDiff, Nat.reduceBEq, Nat.reduceLT, Nat.reduceLeDiff, Nat.reduceAdd, Nat.reduceSub, reduceIte]
    simp only [EV, Nat.reduceEqDiff, Nat.reduceBEq, Nat.reduceLT, Nat.reduceLeDiff, Nat.reduceAdd, Nat.reduceSub, reduceIte, evRE, retVC, cellV', evR, nfz, nfzs, nfzss, List.contains_nil, List.contains_cons, Bool.or_false, or_true]
    exact ⟨failP p, rfl, _, rfl, by decide, by simp⟩
  · obtain ⟨h0, h1⟩ := kdP_t e
    have h2 : (p.pos : Int) < (p.l.length : Int) := by omega
    have hb := (hp.toks _ (List.getElem_mem h1)).2.1.2
    simp only [Bool.not_true, wp, wm, h1, h2, nth_map h1, Tok.z, Ps.z, evN, EV, Nat.reduceEqDiff, Nat.reduceBEq, Nat.reduceLT, Nat.reduceLeDiff, Nat.reduceAdd, Nat.reduceSub, reduceIte]
    simp only [EV, Nat.reduceEqDiff, Nat.reduceBEq, Nat.reduceLT, Nat.reduceLeDiff, Nat.reduceAdd, Nat.reduceSub, reduceIte, evRE, retVC, cellV', evR, nfz, nfzs, nfzss, List.contains_nil, List.contains_cons, Bool.or_false, or_true]
    exact ⟨goP p, rfl, _, rfl, hb, by simp⟩
def m65 : MC :=
 (.seq (.reg [Xb 3 (.box 54 (.t 1))]) (.seq (.reg [Xm 4 0, Xq 5 (.nilchk (.t 4)), Xf 6 2 5, Xl 7 1 6, Xq 8 (.bin false .eql (.t 7) (.i 0))]) (.cond (.t 8) (.mixt [3] [0] [] [] [5] [XL 14 4 3] (.step 0 (Xm 9 0) (.step 1 (Xm 10 0) (.step 2 (Xq 11 (.nilchk (.t 10))) (.step 3 (Xf 12 3 11) (.alt (.step 4 (Xl 13 1 12) (.step 6 (Xb 15 (.bsl 54 4 [.t 14])) (.step 7 (Xb 16 (.app true 54 4 48 (.t 13) (.t
 15))) (.step 8 (Xq 17 (.nilchk (.t 9))) (.step 9 (Xf 18 3 17) (.step 10 (Xz (.store 1 (.t 18) (.t 16))) .nil)))))) (.step 6 (Xb 15 (.bsl 54 4 [.t 14])) (.step 4 (Xl 13 1 12) (.step 7 (Xb 16 (.app true 54 4 48 (.t 13) (.t 15))) (.step 8 (Xq 17 (.nilchk (.t 9))) (.step 9 (Xf 18 3 17) (.step 10 (Xz (.store 1 (.t 18) (.t 16))) .nil)))))))))))) .skip)))
theorem q65 (p : Ps) (hp : p.ok) (s : Step) : PDoes 65 [.agg s.c] p fun r p' => r = .tup [] ∧ p' = putP p s := by
  have := hp.out
  refine doesE_intro (mc := m65) (N := 19) (rs := []) (fx := [0]) 2 rfl (by decide +kernel) ?_
  simp only [m65, Ps.z, evN, Step.c, EV, Nat.reduceEqDiff, Nat.reduceBEq, Nat.reduceLT, Nat.reduceLeDiff, Nat.reduceAdd, Nat.reduceSub, reduceIte]
  rcases e : ((p.bad : Int) == 0) with _ | _
  · have h0 : ¬ p.bad = 0 := by simpa using e
    simp only [e, Ps.z, evN, Step.c, EV, Nat.reduceEqDiff, Nat.reduceBEq, Nat.reduceLT, Nat.reduceLeDiff, Nat.reduceAdd, Nat.reduceSub, reduceIte]
    simp only [EV, Nat.reduceEqDiff, Nat.reduceBEq, Nat.reduceLT, Nat.reduceLeDiff, Nat.reduceAdd, Nat.reduceSub, reduceIte, evRE, retVC, cellV', evR, nfz, nfzs, nfzss, List.contains_nil, List.contains_cons, Bool.or_false, or_true]
    exact ⟨p, rfl, by simp [putP, h0]⟩
  have h0 : p.bad = 0 := by simpa using e
  simp only [e, Ps.z, evN, Step.c, EV, Nat.reduceEqDiff, Nat.reduceBEq, Nat.reduceLT, Nat.reduceLeDiff, Nat.reduceAdd, Nat.reduceSub, reduceIte]
  have b1 : (p.out.length + 1) * 48 ≤ 140737488355328 := by omega
  have b2 : p.out.length ≤ 9223372036854775806 := by omega
  refine ⟨⟨b1, b2, ?_⟩, b1, b2, ?_⟩
  all_goals simp only [EV, Nat.reduceEqDiff, Nat.reduceBEq, Nat.reduceLT, Nat.reduceLeDiff, Nat.reduceAdd, Nat.reduceSub, reduceIte, evRE, retVC, cellV', evR, nfz, nfzs, nfzss, List.contains_nil, List.contains_cons, Bool.or_false, or_true]
  all_goals exact ⟨putP p s, by simp only [putP, h0, if_true, List.map_append, List.map_cons, List.map_nil, Step.c], rfl⟩
end Go.AM
namespace Go.AM
set_option linter.unusedVariables false
set_option linter.unusedSimpArgs false
def m29 : MC :=
 (.seq (.reg [Xb 2 (.asg (.nils 76 4)), Xb 3 (.asg (.i 0)), Xb 4 (.asg (.i 0)), Xb 5 (.asg .fb)]) (.seq (.seq (.reg [Xm 11 0, Xq 12 (.len true (.t 11)), Xq 13 (.bin false .gtr (.t 12) (.i 1200))]) (.cond (.t 13) (.seq (.reg [Xb 2 (.asg (.nils 76 4)), Xb 3 (.asg (.i 1)), Xb 4 (.asg (.i 0)), Xb 5 (.asg .fb)]) .ret) .skip)) (.seq (.reg [Xb 6 (.asg (.nils 76 4))]) (.seq (.seq (.reg [Xb 7 (.asg (.i
 0))]) (.block 0 (.loop [0, 6, 7, 63] (.seq (.seq (.reg [Xm 14 7, Xm 15 0, Xq 16 (.len true (.t 15)), Xq 17 (.bin false .lss (.t 14) (.t 16))]) (.cond (.t 17) .skip (.exit 0))) (.block 1 (.seq (.seq (.reg [Xm 18 0, Xm 19 7, Xq 20 (.idx (.t 18) (.t 19)), Xq 21 (.bin false .eql (.t 20) (.c (.int .u8 32))), Xm 22 21, Xu 23 22 (.mov (.t 0)), Xu 24 22 (.mov (.t 7)), Xu 25 22 (.idx (.t 23) (.t 24)), Xu
 26 22 (.bin false .eql (.t 25) (.c (.int .u8 10))), Xq 27 (.pick (.t 22) .tb (.t 26))]) (.cond (.t 27) (.seq (.reg [Xm 28 7, Xq 29 (.bin false .add (.t 28) (.i 1)), Xa 7 29]) (.exit 1)) .skip)) (.seq (.seq (.reg [Xm 30 7, Xq 31 (.bin false .add (.t 30) (.i 1)), Xm 32 0, Xq 33 (.len true (.t 32)), Xq 34 (.bin false .lss (.t 31) (.t 33)), Xm 35 34, Xt 36 35 (.mov (.t 0)), Xt 37 35 (.mov (.t 7)), Xt
 38 35 (.mov (.t 7)), Xt 39 35 (.bin false .add (.t 38) (.i 2)), Xt 40 35 (.slc true 1 (.t 36) (some (.t 37)) (some (.t 39))), Xt 41 35 (.bin false .eql (.t 40) (.z #[40, 42])), Xq 42 (.pick (.t 35) (.t 41) .fb)]) (.cond (.t 42) (.seq (.reg [Xm 43 0, Xm 44 7, Xb 45 (.call (.fn 46) false [.lend (.t 43), .lend (.t 44)]), Xa 8 45]) (.seq (.seq (.reg [Xm 46 8, Xq 47 (.bin false .lss (.t 46) (.i 0))])
 (.cond (.t 47) (.seq (.reg [Xm 48 7, Xb 2 (.asg (.nils 76 4)), Xb 3 (.asg (.i 2)), Xa 4 48, Xb 5 (.asg .fb)]) .ret) .skip)) (.seq (.reg [Xm 49 8, Xa 7 49]) (.exit 1)))) .skip)) (.seq (.reg [Xm 51 0, Xm 52 7, Xb 53 (.call (.fn 47) false [.lend (.t 51), .lend (.t 52)]), Xm 50 53, Xq 54 (.ext 50 0), Xq 55 (.ext 50 1), Xb 9 (.alloc 76 [.i, .z, .i, .i]), Xz (.store 4 (.t 9) (.t 54)), Xa 10 55]) (.seq
 (.seq (.reg [Xm 56 10, Xq 57 (.bin false .gtr (.t 56) (.i 0))]) (.cond (.t 57) (.seq (.reg [Xm 58 10, Xm 59 7, Xb 2 (.asg (.nils 76 4)), Xa 3 58, Xa 4 59, Xb 5 (.asg .fb)]) .ret) .skip)) (.seq (.reg [Xm 60 6, XL 61 4 9, Xb 62 (.bsl 76 4 [.t 61]), Xb 63 (.app true 76 4 40 (.t 60) (.t 62)), Xa 6 63]) (.reg [Xm 64 7, Xf 65 1 9, Xl 66 1 65, Xq 67 (.len true (.t 66)), Xq 68 (.bin false .add (.t 64) (.t
 67)), Xa 7 68]))))))))))) (.seq (.seq (.reg [Xm 69 6, Xn 70 69, Xq 71 (.bin false .gtr (.t 70) (.i 300))]) (.cond (.t 71) (.seq (.reg [Xb 2 (.asg (.nils 76 4)), Xb 3 (.asg (.i 5)), Xb 4 (.asg (.i 0)), Xb 5 (.asg .fb)]) .ret) .skip)) (.seq (.reg [Xm 72 6, Xa 2 72, Xb 3 (.asg (.i 0)), Xb 4 (.asg (.i 0)), Xb 5 (.asg .tb)]) .ret))))))
set_option maxHeartbeats 4000000 in
set_option maxRecDepth 100000 in
theorem e29 (s : ByteArray) (hs : (s.size : Int) ≤ 1200) : DoesE Go.Proofs.Try.prog 29 [.v (.string s)] false fun r o => o = [.dead] ∧ ∃ (l : List Tok) (a b : Int) (v : Bool), r = .tup [.usl 76 4 (l.map Tok.z), .v (.int .i64 a), .v (.int .i64 b), .v (.bool v)] ∧ l.length ≤ 300 ∧ ∀ t ∈ l, t.b := by
  have none : ∀ a b : Int, ∃ (l : List Tok) (a' b' : Int) (v : Bool), AV.tup [.usl 76 4 [], .v (.int .i64 a), .v (.int .i64 b), .v (.bool false)] = .tup [.usl 76 4 (l.map Tok.z), .v (.int .i64 a'), .v (.int .i64 b'), .v (.bool v)] ∧ l.length ≤ 300 ∧ ∀ t ∈ l, t.b := fun a b => ⟨[], a, b, false, rfl, by simp, by simp⟩
  have big : decide ((1200 : Int) < (s.size : Int)) = false := by simp; omega
  refine doesE_intro (mc := m29) (N := 73) (rs := [2, 3, 4, 5]) (fx := []) 1 rfl (by decide +kernel) ?_
  simp only [m29, big, EV, Nat.reduceEqDiff, Nat.reduceBEq, Nat.reduceLT, Nat.reduceLeDiff, Nat.reduceAdd, Nat.reduceSub, reduceIte]
  refine awp_loop (fun p : Nat × List Tok => p.1 ≤ s.size ∧ p.2.length ≤ p.1 ∧ ∀ t ∈ p.2, t.b) (fun p => stl [(0, .v (.string s)), (6, .usl 76 4 (p.2.map Tok.z)), (7, .v (.int .i64 (p.1 : Int))), (63, .dead)]) (fun p => s.size - p.1) (0, []) ⟨Nat.zero_le _, Nat.le_refl _, by simp⟩ ?_ ?_
  · simp only [EV, Nat.reduceEqDiff, Nat.reduceBEq, Nat.reduceLT, Nat.reduceLeDiff, Nat.reduceAdd, Nat.reduceSub, reduceIte]
    rfl
  rintro ⟨i, l⟩ ⟨g1, g2, g3⟩
  simp only at g1 g2 g3
  simp only [EV, Nat.reduceEqDiff, Nat.reduceBEq, Nat.reduceLT, Nat.reduceLeDiff, Nat.reduceAdd, Nat.reduceSub, reduceIte]
  refine cK_cut (fun h => ?_) (fun h => ?_)
  · have i2 : (i : Int) < (s.size : Int) := by simpa using h
    have i0 : (0 : Int) ≤ (i : Int) := by omega
    have i1 : i < s.size := by omega
    clear h
    have w1 := w64 ((i : Int) + 1) (by omega)
    have w2 := w64 ((i : Int) + 2) (by omega)
    simp only [i0, i2, w1, w2, EV, Nat.reduceEqDiff, Nat.reduceBEq, Nat.reduceLT, Nat.reduceLeDiff, Nat.reduceAdd, Nat.reduceSub, reduceIte]
    rcases e1 : (sAt s (i : Int) == 32) with _ | _
    rotate_left
    · simp only [e1, w1, EV, Nat.reduceEqDiff, Nat.reduceBEq, Nat.reduceLT, Nat.reduceLeDiff, Nat.reduceAdd, Nat.reduceSub, reduceIte]
      exact ⟨(i + 1, l), ⟨i1, by simp only; omega, g3⟩, by simp only; omega, rfl⟩
    simp only [e1, i0, i2, EV, Nat.reduceEqDiff, Nat.reduceBEq, Nat.reduceLT, Nat.reduceLeDiff, Nat.reduceAdd, Nat.reduceSub, reduceIte]
    rcases e2 : (sAt s (i : Int) == 10) with _ | _
    rotate_left
    · simp only [e2, w1, EV, Nat.reduceEqDiff, Nat.reduceBEq, Nat.reduceLT, Nat.reduceLeDiff, Nat.reduceAdd, Nat.reduceSub, reduceIte]
      exact ⟨(i + 1, l), ⟨i1, by simp only; omega, g3⟩, by simp only; omega, rfl⟩
    simp only [e2, w1, EV, Nat.reduceEqDiff, Nat.reduceBEq, Nat.reduceLT, Nat.reduceLeDiff, Nat.reduceAdd, Nat.reduceSub, reduceIte]
    rcases e3 : decide ((i : Int) + 1 < (s.size : Int)) with _ | _
    · simp only [e3, EV, Nat.reduceEqDiff, Nat.reduceBEq, Nat.reduceLT, Nat.reduceLeDiff, Nat.reduceAdd, Nat.reduceSub, reduceIte]
      refine callE_i (e47 s i i1 hs) (fun r o h => ⟨h.2, h.1⟩) ?_
      rintro _ ⟨t, c, rfl, c0, tb, hsz⟩
      simp only [Tok.z, EV, Nat.reduceEqDiff, Nat.reduceBEq, Nat.reduceLT, Nat.reduceLeDiff, Nat.reduceAdd, Nat.reduceSub, reduceIte]
      refine cK_cut (fun h => ?_) (fun h => ?_)
      · simp only [EV, Nat.reduceEqDiff, Nat.reduceBEq, Nat.reduceLT, Nat.reduceLeDiff, Nat.reduceAdd, Nat.reduceSub, reduceIte]
        simp only [EV, Nat.reduceEqDiff, Nat.reduceBEq, Nat.reduceLT, Nat.reduceLeDiff, Nat.reduceAdd, Nat.reduceSub, reduceIte, evRE, retVC, cellV', evR, nfz, nfzs, nfzss, List.contains_nil, List.contains_cons, Bool.or_false, or_true]
        exact none _ _
      · have tz := tb.2.1.1
        have wt := w64 ((i : Int) + (t.text.size : Int)) (by omega)
        simp only [wt, Tok.z, EV, Nat.reduceEqDiff, Nat.reduceBEq, Nat.reduceLT, Nat.reduceLeDiff, Nat.reduceAdd, Nat.reduceSub, reduceIte]
        refine ⟨by omega, by omega, (i + t.text.size, l ++ [t]), ⟨by simp only; omega, by simp only [List.length_append, List.length_singleton]; omega, fun x hx => ?_⟩, by simp only; omega, ?_⟩
        · rcases List.mem_append.1 hx with h | h
          · exact g3 x h
          · rw [List.mem_singleton] at h; rw [h]; exact tb
        · simp only [List.map_append, List.map_cons, List.map_nil, Tok.z, Int.natCast_add]
    have i3 : (i : Int) + 1 < (s.size : Int) := by simpa using e3
    have i4 : (i : Int) ≤ (i : Int) + 2 := by omega
    have i5 : (i : Int) + 2 ≤ (s.size : Int) := by omega
    simp only [e3, i0, i4, i5, w2, EV, Nat.reduceEqDiff, Nat.reduceBEq, Nat.reduceLT, Nat.reduceLeDiff, Nat.reduceAdd, Nat.reduceSub, reduceIte]
    generalize (s.extract i ((i : Int) + 2).toNat) = x
    rcases e4 : (x.toList == (⟨#[40, 42]⟩ : ByteArray).toList) with _ | _
    · simp only [e4, EV, Nat.reduceEqDiff, Nat.reduceBEq, Nat.reduceLT, Nat.reduceLeDiff, Nat.reduceAdd, Nat.reduceSub, reduceIte]
      refine callE_i (e47 s i i1 hs) (fun r o h => ⟨h.2, h.1⟩) ?_
      rintro _ ⟨t, c, rfl, c0, tb, hsz⟩
      simp only [Tok.z, EV, Nat.reduceEqDiff, Nat.reduceBEq, Nat.reduceLT, Nat.reduceLeDiff, Nat.reduceAdd, Nat.reduceSub, reduceIte]
      refine cK_cut (fun h => ?_) (fun h => ?_)
      · simp only [EV, Nat.reduceEqDiff, Nat.reduceBEq, Nat.reduceLT, Nat.reduceLeDiff, Nat.reduceAdd, Nat.reduceSub, reduceIte]
        simp only [EV, Nat.reduceEqDiff, Nat.reduceBEq, Nat.reduceLT, Nat.reduceLeDiff, Nat.reduceAdd, Nat.reduceSub, reduceIte, evRE, retVC, cellV', evR, nfz, nfzs, nfzss, List.contains_nil, List.contains_cons, Bool.or_false, or_true]
        exact none _ _
      · have tz := tb.2.1.1
        have wt := w64 ((i : Int) + (t.text.size : Int)) (by omega)
        simp only [wt, Tok.z, EV, Nat.reduceEqDiff, Nat.reduceBEq, Nat.reduceLT, Nat.reduceLeDiff, Nat.reduceAdd, Nat.reduceSub, reduceIte]
        refine ⟨by omega, by omega, (i + t.text.size, l ++ [t]), ⟨by simp only; omega, by simp only [List.length_append, List.length_singleton]; omega, fun x hx => ?_⟩, by simp only; omega, ?_⟩
        · rcases List.mem_append.1 hx with h | h
          · exact g3 x h
          · rw [List.mem_singleton] at h; rw [h]; exact tb
        · simp only [List.map_append, List.map_cons, List.map_nil, Tok.z, Int.natCast_add]
    simp only [e4, EV, Nat.reduceEqDiff, Nat.reduceBEq, Nat.reduceLT, Nat.reduceLeDiff, Nat.reduceAdd, Nat.reduceSub, reduceIte]
    refine callE_i (e46 s i g1 hs) (fun r o h => ⟨h.2, h.1⟩) ?_
    rintro _ ⟨v, rfl, hv⟩
    simp only [EV, Nat.reduceEqDiff, Nat.reduceBEq, Nat.reduceLT, Nat.reduceLeDiff, Nat.reduceAdd, Nat.reduceSub, reduceIte]
    refine cK_cut (fun h => ?_) (fun h => ?_)
    · simp only [EV, Nat.reduceEqDiff, Nat.reduceBEq, Nat.reduceLT, Nat.reduceLeDiff, Nat.reduceAdd, Nat.reduceSub, reduceIte]
      simp only [EV, Nat.reduceEqDiff, Nat.reduceBEq, Nat.reduceLT, Nat.reduceLeDiff, Nat.reduceAdd, Nat.reduceSub, reduceIte, evRE, retVC, cellV', evR, nfz, nfzs, nfzss, List.contains_nil, List.contains_cons, Bool.or_false, or_true]
      exact none _ _
    · have v0 : 0 ≤ v := by have : ¬ v < 0 := by simpa using h
                            omega
      have hv2 : (i : Int) < v ∧ v ≤ (s.size : Int) := by
        rcases hv with h | h
        · omega
        · exact h
      have ev : v = ((v.toNat : Nat) : Int) := by omega
      simp only [EV, Nat.reduceEqDiff, Nat.reduceBEq, Nat.reduceLT, Nat.reduceLeDiff, Nat.reduceAdd, Nat.reduceSub, reduceIte]
      refine ⟨(v.toNat, l), ⟨by simp only; omega, by simp only; omega, g3⟩, by simp only; omega, ?_⟩
      rw [← ev]
  · simp only [EV, Nat.reduceEqDiff, Nat.reduceBEq, Nat.reduceLT, Nat.reduceLeDiff, Nat.reduceAdd, Nat.reduceSub, reduceIte]
    refine cK_cut (fun h => ?_) (fun h => ?_)
    · simp only [EV, Nat.reduceEqDiff, Nat.reduceBEq, Nat.reduceLT, Nat.reduceLeDiff, Nat.reduceAdd, Nat.reduceSub, reduceIte]
      simp only [EV, Nat.reduceEqDiff, Nat.reduceBEq, Nat.reduceLT, Nat.reduceLeDiff, Nat.reduceAdd, Nat.reduceSub, reduceIte, evRE, retVC, cellV', evR, nfz, nfzs, nfzss, List.contains_nil, List.contains_cons, Bool.or_false, or_true]
      exact none _ _
    · have hl : l.length ≤ 300 := by have : ¬ (300 : Int) < (l.length : Int) := by simpa using h
                                     omega
      simp only [EV, Nat.reduceEqDiff, Nat.reduceBEq, Nat.reduceLT, Nat.reduceLeDiff, Nat.reduceAdd, Nat.reduceSub, reduceIte]
      simp only [Tok.nfz, EV, Nat.reduceEqDiff, Nat.reduceBEq, Nat.reduceLT, Nat.reduceLeDiff, Nat.reduceAdd, Nat.reduceSub, reduceIte, evRE, retVC, cellV', evR, nfz, nfzs, nfzss, List.contains_nil, List.contains_cons, Bool.or_false, or_true]
      exact ⟨l, _, _, _, rfl, hl, g3⟩
def m49 : MC :=
 (.seq (.reg [Xb 2 (.asg .fb)]) (.seq (.seq (.reg [Xm 7 0, Xn 8 7, Xq 9 (.mov (.i 0))]) (.block 0 (.loop [0, 7, 8, 9] (.seq (.reg [Xq 10 (.bin false .lss (.t 9) (.t 8))]) (.seq (.cond (.t 10) .skip (.exit 0)) (.seq (.block 1 (.seq (.reg [Xi 11 4 7 9, XL 12 4 11, Xb 4 (.alloc 76 [.i, .z, .i, .i]), Xz (.store 4 (.t 4) (.t 12))]) (.seq (.seq (.reg [Xf 13 1 4, Xl 14 1 13, Xq 15 (.bin false .eql (.t 14)
 (.z #[]))]) (.cond (.t 15) (.seq (.reg [Xb 2 (.asg .fb)]) .ret) .skip)) (.seq (.reg [Xf 17 1 4, Xl 18 1 17, Xb 19 (.call (.fn 47) false [.lend (.t 18), .lend (.i 0)]), Xm 16 19, Xq 20 (.ext 16 0), Xq 21 (.ext 16 1), Xb 5 (.alloc 76 [.i, .z, .i, .i]), Xz (.store 4 (.t 5) (.t 20)), Xa 6 21]) (.seq (.reg [Xm 22 6, Xq 23 (.bin false .gtr (.t 22) (.i 0)), Xm 24 23, Xu 25 24 (.fad 1 (.t 5)), Xu 26 24
 (.load false 1 (.t 25)), Xu 27 24 (.fad 1 (.t 4)), Xu 28 24 (.load false 1 (.t 27)), Xu 29 24 (.bin false .neq (.t 26) (.t 28)), Xq 30 (.pick (.t 24) .tb (.t 29)), Xm 31 30, Xu 32 31 (.fad 0 (.t 5)), Xu 33 31 (.load false 1 (.t 32)), Xu 34 31 (.fad 0 (.t 4)), Xu 35 31 (.load false 1 (.t 34)), Xu 36 31 (.bin false .neq (.t 33) (.t 35)), Xq 37 (.pick (.t 31) .tb (.t 36)), Xm 38 37, Xu 39 38 (.fad 2
 (.t 5)), Xu 40 38 (.load false 1 (.t 39)), Xu 41 38 (.fad 2 (.t 4)), Xu 42 38 (.load false 1 (.t 41)), Xu 43 38 (.bin false .neq (.t 40) (.t 42)), Xq 44 (.pick (.t 38) .tb (.t 43))]) (.cond (.t 44) (.seq (.reg [Xb 2 (.asg .fb)]) .ret) .skip)))))) (.reg [Xq 45 (.bin false .add (.t 9) (.i 1)), Xm 9 45]))))))) (.seq (.reg [Xm 46 0, Xn 47 46, Xq 48 (.bin false .leq (.t 47) (.i 300)), Xa 2 48]) .ret)))
set_option maxHeartbeats 4000000 in
set_option maxRecDepth 100000 in
theorem e49 (l : List Tok) (hl : l.length ≤ 300) (hb : ∀ t ∈ l, t.b) : DoesE Go.Proofs.Try.prog 49 [.fsl 4 (l.map Tok.z)] false fun r o => o = [.dead] ∧ ∃ v : Bool, r = .v (.bool v) := by
  refine doesE_intro (mc := m49) (N := 49) (rs := [2]) (fx := []) 1 rfl (by decide +kernel) ?_
  simp only [m49, EV, Nat.reduceEqDiff, Nat.reduceBEq, Nat.reduceLT, Nat.reduceLeDiff, Nat.reduceAdd, Nat.reduceSub, reduceIte]
  refine awp_loop (fun i : Nat => i ≤ l.length) (fun i => stl [(0, .fsl 4 (l.map Tok.z)), (7, .fsl 4 (l.map Tok.z)), (8, .v (.int .i64 (l.length : Int))), (9, .v (.int .i64 (i : Int)))]) (fun i => l.length - i) 0 (Nat.zero_le _) ?_ ?_
  · simp only [EV, Nat.reduceEqDiff, Nat.reduceBEq, Nat.reduceLT, Nat.reduceLeDiff, Nat.reduceAdd, Nat.reduceSub, reduceIte]
    rfl
  intro i hi
  simp only [EV, Nat.reduceEqDiff, Nat.reduceBEq, Nat.reduceLT, Nat.reduceLeDiff, Nat.reduceAdd, Nat.reduceSub, reduceIte]
  refine cK_cut (fun h => ?_) (fun h => ?_)
  · have i2 : (i : Int) < (l.length : Int) := by simpa using h
    have i1 : i < l.length := by omega
    clear h
    have wi := w64 ((i : Int) + 1) (by omega)
    have tb := hb _ (List.getElem_mem i1)
    simp only [i1, i2, nth_map i1, EV, Nat.reduceEqDiff, Nat.reduceBEq, Nat.reduceLT, Nat.reduceLeDiff, Nat.reduceAdd, Nat.reduceSub, reduceIte]
    generalize l[i] = t at tb ⊢
    simp only [TokE, Tok.z, EV, Nat.reduceEqDiff, Nat.reduceBEq, Nat.reduceLT, Nat.reduceLeDiff, Nat.reduceAdd, Nat.reduceSub, reduceIte]
    refine cK_cut (fun h => ?_) (fun h => ?_)
    · simp only [EV, Nat.reduceEqDiff, Nat.reduceBEq, Nat.reduceLT, Nat.reduceLeDiff, Nat.reduceAdd, Nat.reduceSub, reduceIte]
      simp only [EV, Nat.reduceEqDiff, Nat.reduceBEq, Nat.reduceLT, Nat.reduceLeDiff, Nat.reduceAdd, Nat.reduceSub, reduceIte, evRE, retVC, cellV', evR, nfz, nfzs, nfzss, List.contains_nil, List.contains_cons, Bool.or_false, or_true]
      exact ⟨_, rfl⟩
    have hz : 0 < t.text.size := by have := tb.2.1.1; omega
    have eo := e47 t.text 0 hz (by have := tb.2.1.2; omega)
    simp only [EV, Nat.reduceEqDiff, Nat.reduceBEq, Nat.reduceLT, Nat.reduceLeDiff, Nat.reduceAdd, Nat.reduceSub, reduceIte]
    refine callE_i eo (fun r o h => ⟨h.2, h.1⟩) ?_
    rintro _ ⟨u, c, rfl, c0, ub, _⟩
    simp only [TokE, Tok.z, wi, EV, Nat.reduceEqDiff, Nat.reduceBEq, Nat.reduceLT, Nat.reduceLeDiff, Nat.reduceAdd, Nat.reduceSub, reduceIte]
    have fin : ∃ j : Nat, j ≤ l.length ∧ l.length - j < l.length - i ∧ stl [(0, AV.fsl 4 (l.map Tok.z)), (7, .fsl 4 (l.map Tok.z)), (8, .v (.int .i64 (l.length : Int))), (9, .v (.int .i64 ((i : Int) + 1)))] = stl [(0, AV.fsl 4 (l.map Tok.z)), (7, .fsl 4 (l.map Tok.z)), (8, .v (.int .i64 (l.length : Int))), (9, .v (.int .i64 (j : Int)))] := ⟨i + 1, i1, by omega, rfl⟩
    rcases q0 : decide (0 < c) with _ | _
    rotate_left
    · simp only [q0, TokE, Tok.z, wi, EV, Nat.reduceEqDiff, Nat.reduceBEq, Nat.reduceLT, Nat.reduceLeDiff, Nat.reduceAdd, Nat.reduceSub, reduceIte]
      simp only [EV, Nat.reduceEqDiff, Nat.reduceBEq, Nat.reduceLT, Nat.reduceLeDiff, Nat.reduceAdd, Nat.reduceSub, reduceIte, evRE, retVC, cellV', evR, nfz, nfzs, nfzss, List.contains_nil, List.contains_cons, Bool.or_false, or_true]
      exact ⟨_, rfl⟩
    simp only [q0, TokE, Tok.z, wi, EV, Nat.reduceEqDiff, Nat.reduceBEq, Nat.reduceLT, Nat.reduceLeDiff, Nat.reduceAdd, Nat.reduceSub, reduceIte]
    rcases q1 : (u.text.toList == t.text.toList) with _ | _
    · simp only [Bool.not_true, Bool.not_false, q0, q1, TokE, Tok.z, wi, EV, Nat.reduceEqDiff, Nat.reduceBEq, Nat.reduceLT, Nat.reduceLeDiff, Nat.reduceAdd, Nat.reduceSub, reduceIte]
      simp only [EV, Nat.reduceEqDiff, Nat.reduceBEq, Nat.reduceLT, Nat.reduceLeDiff, Nat.reduceAdd, Nat.reduceSub, reduceIte, evRE, retVC, cellV', evR, nfz, nfzs, nfzss, List.contains_nil, List.contains_cons, Bool.or_false, or_true]
      exact ⟨_, rfl⟩
    simp only [Bool.not_true, Bool.not_false, q0, q1, TokE, Tok.z, wi, EV, Nat.reduceEqDiff, Nat.reduceBEq, Nat.reduceLT, Nat.reduceLeDiff, Nat.reduceAdd, Nat.reduceSub, reduceIte]
    rcases q2 : (u.kind != t.kind) with _ | _
    rotate_left
    · simp only [Bool.not_true, Bool.not_false, q0, q1, q2, TokE, Tok.z, wi, EV, Nat.reduceEqDiff, Nat.reduceBEq, Nat.reduceLT, Nat.reduceLeDiff, Nat.reduceAdd, Nat.reduceSub, reduceIte]
      simp only [EV, Nat.reduceEqDiff, Nat.reduceBEq, Nat.reduceLT, Nat.reduceLeDiff, Nat.reduceAdd, Nat.reduceSub, reduceIte, evRE, retVC, cellV', evR, nfz, nfzs, nfzss, List.contains_nil, List.contains_cons, Bool.or_false, or_true]
      exact ⟨_, rfl⟩
    simp only [Bool.not_true, Bool.not_false, q0, q1, q2, TokE, Tok.z, wi, EV, Nat.reduceEqDiff, Nat.reduceBEq, Nat.reduceLT, Nat.reduceLeDiff, Nat.reduceAdd, Nat.reduceSub, reduceIte]
    rcases q3 : (u.value != t.value) with _ | _
    rotate_left
    · simp only [Bool.not_true, Bool.not_false, q0, q1, q2, q3, TokE, Tok.z, wi, EV, Nat.reduceEqDiff, Nat.reduceBEq, Nat.reduceLT, Nat.reduceLeDiff, Nat.reduceAdd, Nat.reduceSub, reduceIte]
      simp only [EV, Nat.reduceEqDiff, Nat.reduceBEq, Nat.reduceLT, Nat.reduceLeDiff, Nat.reduceAdd, Nat.reduceSub, reduceIte, evRE, retVC, cellV', evR, nfz, nfzs, nfzss, List.contains_nil, List.contains_cons, Bool.or_false, or_true]
      exact ⟨_, rfl⟩
    simp only [Bool.not_true, Bool.not_false, q0, q1, q2, q3, TokE, Tok.z, wi, EV, Nat.reduceEqDiff, Nat.reduceBEq, Nat.reduceLT, Nat.reduceLeDiff, Nat.reduceAdd, Nat.reduceSub, reduceIte]
    exact fin
  · simp only [EV, Nat.reduceEqDiff, Nat.reduceBEq, Nat.reduceLT, Nat.reduceLeDiff, Nat.reduceAdd, Nat.reduceSub, reduceIte]
    simp only [EV, Nat.reduceEqDiff, Nat.reduceBEq, Nat.reduceLT, Nat.reduceLeDiff, Nat.reduceAdd, Nat.reduceSub, reduceIte, evRE, retVC, cellV', evR, nfz, nfzs, nfzss, List.contains_nil, List.contains_cons, Bool.or_false, or_true]
    exact ⟨_, rfl⟩
end Go.AM
namespace Go.AM
set_option linter.unusedVariables false
set_option linter.unusedSimpArgs false
theorem Ps.le.ok {p q : Ps} (h : p.le q) (hp : p.ok) (ho : p.out.length ≤ p.pos) : q.ok ∧ q.out.length ≤ q.pos := by
  have h1 := h.grow
  have h2 := h.here
  have h3 := hp.few
  refine ⟨⟨by rw [h.l]; exact h3, by rw [h.l]; exact h2, h.bad, by omega, h.steps, by rw [h.l]; exact hp.toks⟩, by omega⟩
theorem Ps.le.refl {p : Ps} (hp : p.ok) : p.le p := ⟨rfl, Nat.le_refl _, hp.here, Nat.le_refl _, hp.bad, fun h => ⟨h, rfl⟩, hp.steps⟩
theorem Ps.le.trans {p q r : Ps} (h : p.le q) (k : q.le r) : p.le r := by
  have h1 := h.grow
  have h2 := k.grow
  refine ⟨k.l.trans h.l, Nat.le_trans h.up k.up, by rw [← h.l]; exact k.here, by omega, k.bad, fun hb => ?_, k.steps⟩
  obtain ⟨a, b⟩ := h.stay hb
  obtain ⟨c, d⟩ := k.stay a
  exact ⟨c, d.trans b⟩
theorem go_le {p : Ps} (hp : p.ok) (h0 : p.bad = 0) (h1 : p.pos < p.l.length) : p.le (goP p) :=
  ⟨rfl, by simp [goP], h1, by simp only [goP]; omega, hp.bad, fun h => absurd h0 h, hp.steps⟩
theorem fail_le {p : Ps} (hp : p.ok) : p.le (failP p) ∧ (failP p).bad ≠ 0 := by
  have h3 := hp.few
  have h4 := hp.here
  unfold failP
  split
  · rename_i h
    exact ⟨⟨rfl, Nat.le_refl _, h4, Nat.le_refl _, by simp only; omega, fun hb => absurd h hb, hp.steps⟩, by simp⟩
  · rename_i h
    exact ⟨Ps.le.refl hp, h⟩
def SB (p q : Ps) : Prop := q.out.length + p.pos + 1 ≤ p.out.length + q.pos ∨ q.bad ≠ 0
theorem SB.le {p q r : Ps} (h : SB p q) (k : q.le r) : SB p r := by
  have h2 := k.grow
  rcases h with h | h
  · exact .inl (by omega)
  · exact .inr (k.stay h).1
theorem put_le {p q : Ps} (h : p.le q) (hs : SB p q) {s : Step} (so : s.ok) : p.le (putP q s) := by
  unfold putP
  split
  · rename_i h0
    rcases hs with hs | hs
    · refine ⟨h.l, h.up, h.here, by simp only [List.length_append, List.length_singleton]; omega, h.bad, h.stay, fun x hx => ?_⟩
      rcases List.mem_append.1 hx with hx | hx
      · exact h.steps x hx
      · rw [List.mem_singleton] at hx; rw [hx]; exact so
    · exact absurd h0 hs
  · exact h
theorem step_ok {k v : Int} {a b : ByteArray} (k0 : 0 ≤ k) (k1 : k ≤ 1000) (v0 : -10000000000 ≤ v) (v1 : v ≤ 10000000000) (ha : (a.size : Int) ≤ 1200) (hb : (b.size : Int) ≤ 1200) : Step.ok ⟨k, v, a, b⟩ :=
  ⟨by simp only; omega, by simp only; omega, by simp only; omega, by simp only; omega, by simp only; omega, by simp only; omega⟩
theorem emp_le : ((⟨#[]⟩ : ByteArray).size : Int) ≤ 1200 := by decide
def GoodP (f m : Nat) : Prop := ∀ p : Ps, p.ok → p.out.length ≤ p.pos → p.l.length - p.pos ≤ m → PDoes f [] p fun r q => r = .tup [] ∧ p.le q
theorem take_le {p : Ps} (hp : p.ok) {s : ByteArray} (h : isP p s = true) : p.le (goP p) ∧ SB p (goP p) ∧ p.pos < p.l.length := by
  obtain ⟨h0, h1⟩ := isP_t h
  exact ⟨go_le hp h0 h1, .inl (by simp only [goP]; omega), h1⟩
def m63 : MC :=
 (.seq (.reg [Xm 3 0, Xb 4 (.call (.fn 70) false [.io (.t 3)])]) (.block 0 (.loop [0] (.block 1 (.seq (.reg [Xb 2 (.asg (.i 0))]) (.join [0, 2] (.block 2 (.seq (.reg [Xm 6 0, Xb 7 (.call (.fn 64) false [.io (.t 6), .lend (.z #[42])]), Xa 5 7]) (.cond (.t 5) (.reg [Xb 2 (.asg (.i 5))]) (.seq (.reg [Xm 9 0, Xb 10 (.call (.fn 64) false [.io (.t 9), .lend (.z #[68, 73, 86])]), Xa 8 10]) (.cond (.t 8)
 (.reg [Xb 2 (.asg (.i 6))]) (.seq (.reg [Xm 12 0, Xb 13 (.call (.fn 64) false [.io (.t 12), .lend (.z #[77, 79, 68])]), Xa 11 13]) (.cond (.t 11) (.reg [Xb 2 (.asg (.i 7))]) .ret))))))) (.seq (.reg [Xm 14 0, Xb 15 (.call (.fn 70) false [.io (.t 14)])]) (.reg [Xm 16 0, Xm 17 2, Xb 18 (.build [0] [0] [1] [.i, .i, .z, .z] [.t 17]), Xb 19 (.call (.fn 65) false [.io (.t 16), .lend (.t 18)])]))))))))
set_option maxHeartbeats 4000000 in
set_option maxRecDepth 100000 in
theorem T_of (m : Nat) (hF : GoodP 70 m) : GoodP 63 m := by
  intro p hp ho hm
  refine doesE_intro (mc := m63) (N := 20) (rs := []) (fx := [0]) 1 rfl (by decide +kernel) ?_
  simp only [m63, EV, Nat.reduceEqDiff, Nat.reduceBEq, Nat.reduceLT, Nat.reduceLeDiff, Nat.reduceAdd, Nat.reduceSub, reduceIte]
  refine (hF p hp ho hm).call (fun _ => rfl) ?_
  rintro _ p1 ⟨rfl, le1⟩
  simp only [EV, Nat.reduceEqDiff, Nat.reduceBEq, Nat.reduceLT, Nat.reduceLeDiff, Nat.reduceAdd, Nat.reduceSub, reduceIte]
  refine awp_loop (fun q : Ps => p.le q) (fun q => stl [(0, .box 84 q.z)]) (fun q => p.l.length - q.pos) p1 le1 ?_ ?_
  · simp only [EV, Nat.reduceEqDiff, Nat.reduceBEq, Nat.reduceLT, Nat.reduceLeDiff, Nat.reduceAdd, Nat.reduceSub, reduceIte]
  intro q hq
  obtain ⟨qo, qq⟩ := hq.ok hp ho
  simp only [EV, Nat.reduceEqDiff, Nat.reduceBEq, Nat.reduceLT, Nat.reduceLeDiff, Nat.reduceAdd, Nat.reduceSub, reduceIte]
  have tk := fun s => q64 q qo s
  refine awp_join (fun k : Int => q.pos < q.l.length ∧ q.le (goP q) ∧ 0 ≤ k ∧ k ≤ 8) (fun k => stl [(0, .box 84 (goP q).z), (2, .v (.int .i64 k))]) ?_ ?_
  · simp only [EV, Nat.reduceEqDiff, Nat.reduceBEq, Nat.reduceLT, Nat.reduceLeDiff, Nat.reduceAdd, Nat.reduceSub, reduceIte]
    refine (tk _).call (fun _ => rfl) ?_
    rintro _ q1 ⟨rfl, e1⟩
    rcases c1 : isP q ⟨#[42]⟩ with _ | _
    rotate_left
    · obtain ⟨l1, _, l3⟩ := take_le qo c1
      rw [c1] at e1
      simp only [if_true] at e1
      simp only [e1, EV, Nat.reduceEqDiff, Nat.reduceBEq, Nat.reduceLT, Nat.reduceLeDiff, Nat.reduceAdd, Nat.reduceSub, reduceIte]
      exact ⟨5, ⟨l3, l1, by decide, by decide⟩, rfl⟩
    rw [c1] at e1
    simp only [Bool.false_eq_true, if_false] at e1
    simp only [e1, EV, Nat.reduceEqDiff, Nat.reduceBEq, Nat.reduceLT, Nat.reduceLeDiff, Nat.reduceAdd, Nat.reduceSub, reduceIte]
    refine (tk _).call (fun _ => rfl) ?_
    rintro _ q2 ⟨rfl, e2⟩
    rcases c2 : isP q ⟨#[68, 73, 86]⟩ with _ | _
    rotate_left
    · obtain ⟨l1, _, l3⟩ := take_le qo c2
      rw [c2] at e2
      simp only [if_true] at e2
      simp only [e2, EV, Nat.reduceEqDiff, Nat.reduceBEq, Nat.reduceLT, Nat.reduceLeDiff, Nat.reduceAdd, Nat.reduceSub, reduceIte]
      exact ⟨6, ⟨l3, l1, by decide, by decide⟩, rfl⟩
    rw [c2] at e2
    simp only [Bool.false_eq_true, if_false] at e2
    simp only [e2, EV, Nat.reduceEqDiff, Nat.reduceBEq, Nat.reduceLT, Nat.reduceLeDiff, Nat.reduceAdd, Nat.reduceSub, reduceIte]
    refine (tk _).call (fun _ => rfl) ?_
    rintro _ q3 ⟨rfl, e3⟩
    rcases c3 : isP q ⟨#[77, 79, 68]⟩ with _ | _
    rotate_left
    · obtain ⟨l1, _, l3⟩ := take_le qo c3
      rw [c3] at e3
      simp only [if_true] at e3
      simp only [e3, EV, Nat.reduceEqDiff, Nat.reduceBEq, Nat.reduceLT, Nat.reduceLeDiff, Nat.reduceAdd, Nat.reduceSub, reduceIte]
      exact ⟨7, ⟨l3, l1, by decide, by decide⟩, rfl⟩
    rw [c3] at e3
    simp only [Bool.false_eq_true, if_false] at e3
    simp only [e3, EV, Nat.reduceEqDiff, Nat.reduceBEq, Nat.reduceLT, Nat.reduceLeDiff, Nat.reduceAdd, Nat.reduceSub, reduceIte]
    simp only [EV, Nat.reduceEqDiff, Nat.reduceBEq, Nat.reduceLT, Nat.reduceLeDiff, Nat.reduceAdd, Nat.reduceSub, reduceIte, evRE, retVC, cellV', evR, nfz, nfzs, nfzss, List.contains_nil, List.contains_cons, Bool.or_false, or_true]
    exact ⟨q, rfl, hq⟩
  rintro k ⟨g1, g2, g3, g4⟩
  obtain ⟨go, gq⟩ := g2.ok qo qq
  have gm : (goP q).l.length - (goP q).pos ≤ m := by
    have := hq.up
    have e : (goP q).l.length = p.l.length := by rw [g2.l, hq.l]
    have e2 : (goP q).pos = q.pos + 1 := rfl
    omega
  simp only [EV, Nat.reduceEqDiff, Nat.reduceBEq, Nat.reduceLT, Nat.reduceLeDiff, Nat.reduceAdd, Nat.reduceSub, reduceIte]
  refine (hF _ go gq gm).call (fun _ => rfl) ?_
  rintro _ q2 ⟨rfl, le2⟩
  obtain ⟨o2, oq2⟩ := le2.ok go gq
  have so : Step.ok ⟨k, 0, ⟨#[]⟩, ⟨#[]⟩⟩ := step_ok g3 (by omega) (by decide) (by decide) emp_le emp_le
  have sb : SB q q2 := SB.le (p := q) (q := goP q) (.inl (by simp only [goP]; omega)) le2
  have lp := put_le (g2.trans le2) sb so
  have pt := q65 q2 o2 ⟨k, 0, ⟨#[]⟩, ⟨#[]⟩⟩
  simp only [Step.c] at pt
  simp only [EV, Nat.reduceEqDiff, Nat.reduceBEq, Nat.reduceLT, Nat.reduceLeDiff, Nat.reduceAdd, Nat.reduceSub, reduceIte]
  refine pt.call (fun _ => rfl) ?_
  rintro _ q3 ⟨rfl, e3⟩
  rw [← e3] at lp
  simp only [EV, Nat.reduceEqDiff, Nat.reduceBEq, Nat.reduceLT, Nat.reduceLeDiff, Nat.reduceAdd, Nat.reduceSub, reduceIte]
  refine ⟨q3, hq.trans lp, ?_, rfl⟩
  have h1 : q.pos + 1 ≤ q2.pos := le2.up
  have h2 : q3.pos = q2.pos := by rw [e3]; unfold putP; split <;> rfl
  have h3 := hq.l
  rw [h3] at g1
  omega
def m50 : MC :=
 (.seq (.reg [Xm 3 0, Xb 4 (.call (.fn 63) false [.io (.t 3)])]) (.block 0 (.loop [0] (.block 1 (.seq (.reg [Xb 2 (.asg (.i 0))]) (.join [0, 2] (.block 2 (.seq (.reg [Xm 6 0, Xb 7 (.call (.fn 64) false [.io (.t 6), .lend (.z #[43])]), Xa 5 7]) (.cond (.t 5) (.reg [Xb 2 (.asg (.i 3))]) (.seq (.reg [Xm 9 0, Xb 10 (.call (.fn 64) false [.io (.t 9), .lend (.z #[45])]), Xa 8 10]) (.cond (.t 8) (.reg [Xb
 2 (.asg (.i 4))]) .ret))))) (.seq (.reg [Xm 11 0, Xb 12 (.call (.fn 63) false [.io (.t 11)])]) (.reg [Xm 13 0, Xm 14 2, Xb 15 (.build [0] [0] [1] [.i, .i, .z, .z] [.t 14]), Xb 16 (.call (.fn 65) false [.io (.t 13), .lend (.t 15)])]))))))))
set_option maxHeartbeats 4000000 in
set_option maxRecDepth 100000 in
theorem E_of (m : Nat) (hF : GoodP 63 m) : GoodP 50 m := by
  intro p hp ho hm
  refine doesE_intro (mc := m50) (N := 17) (rs := []) (fx := [0]) 1 rfl (by decide +kernel) ?_
  simp only [m50, EV, Nat.reduceEqDiff, Nat.reduceBEq, Nat.reduceLT, Nat.reduceLeDiff, Nat.reduceAdd, Nat.reduceSub, reduceIte]
  refine (hF p hp ho hm).call (fun _ => rfl) ?_
  rintro _ p1 ⟨rfl, le1⟩
  simp only [EV, Nat.reduceEqDiff, Nat.reduceBEq, Nat.reduceLT, Nat.reduceLeDiff, Nat.reduceAdd, Nat.reduceSub, reduceIte]
  refine awp_loop (fun q : Ps => p.le q) (fun q => stl [(0, .box 84 q.z)]) (fun q => p.l.length - q.pos) p1 le1 ?_ ?_
  · simp only [EV, Nat.reduceEqDiff, Nat.reduceBEq, Nat.reduceLT, Nat.reduceLeDiff, Nat.reduceAdd, Nat.reduceSub, reduceIte]
  intro q hq
  obtain ⟨qo, qq⟩ := hq.ok hp ho
  simp only [EV, Nat.reduceEqDiff, Nat.reduceBEq, Nat.reduceLT, Nat.reduceLeDiff, Nat.reduceAdd, Nat.reduceSub, reduceIte]
  have tk := fun s => q64 q qo s
  refine awp_join (fun k : Int => q.pos < q.l.length ∧ q.le (goP q) ∧ 0 ≤ k ∧ k ≤ 8) (fun k => stl [(0, .box 84 (goP q).z), (2, .v (.int .i64 k))]) ?_ ?_
  · simp only [EV, Nat.reduceEqDiff, Nat.reduceBEq, Nat.reduceLT, Nat.reduceLeDiff, Nat.reduceAdd, Nat.reduceSub, reduceIte]
    refine (tk _).call (fun _ => rfl) ?_
    rintro _ q1 ⟨rfl, e1⟩
    rcases c1 : isP q ⟨#[43]⟩ with _ | _
    rotate_left
    · obtain ⟨l1, _, l3⟩ := take_le qo c1
      rw [c1] at e1
      simp only [if_true] at e1
      simp only [e1, EV, Nat.reduceEqDiff, Nat.reduceBEq, Nat.reduceLT, Nat.reduceLeDiff, Nat.reduceAdd, Nat.reduceSub, reduceIte]
      exact ⟨3, ⟨l3, l1, by decide, by decide⟩, rfl⟩
    rw [c1] at e1
    simp only [Bool.false_eq_true, if_false] at e1
    simp only [e1, EV, Nat.reduceEqDiff, Nat.reduceBEq, Nat.reduceLT, Nat.reduceLeDiff, Nat.reduceAdd, Nat.reduceSub, reduceIte]
    refine (tk _).call (fun _ => rfl) ?_
    rintro _ q2 ⟨rfl, e2⟩
    rcases c2 : isP q ⟨#[45]⟩ with _ | _
    rotate_left
    · obtain ⟨l1, _, l3⟩ := take_le qo c2
      rw [c2] at e2
      simp only [if_true] at e2
      simp only [e2, EV, Nat.reduceEqDiff, Nat.reduceBEq, Nat.reduceLT, Nat.reduceLeDiff, Nat.reduceAdd, Nat.reduceSub, reduceIte]
      exact ⟨4, ⟨l3, l1, by decide, by decide⟩, rfl⟩
    rw [c2] at e2
    simp only [Bool.false_eq_true, if_false] at e2
    simp only [e2, EV, Nat.reduceEqDiff, Nat.reduceBEq, Nat.reduceLT, Nat.reduceLeDiff, Nat.reduceAdd, Nat.reduceSub, reduceIte]
    simp only [EV, Nat.reduceEqDiff, Nat.reduceBEq, Nat.reduceLT, Nat.reduceLeDiff, Nat.reduceAdd, Nat.reduceSub, reduceIte, evRE, retVC, cellV', evR, nfz, nfzs, nfzss, List.contains_nil, List.contains_cons, Bool.or_false, or_true]
    exact ⟨q, rfl, hq⟩
  rintro k ⟨g1, g2, g3, g4⟩
  obtain ⟨go, gq⟩ := g2.ok qo qq
  have gm : (goP q).l.length - (goP q).pos ≤ m := by
    have := hq.up
    have e : (goP q).l.length = p.l.length := by rw [g2.l, hq.l]
    have e2 : (goP q).pos = q.pos + 1 := rfl
    omega
  simp only [EV, Nat.reduceEqDiff, Nat.reduceBEq, Nat.reduceLT, Nat.reduceLeDiff, Nat.reduceAdd, Nat.reduceSub, reduceIte]
  refine (hF _ go gq gm).call (fun _ => rfl) ?_
  rintro _ q2 ⟨rfl, le2⟩
  obtain ⟨o2, oq2⟩ := le2.ok go gq
  have so : Step.ok ⟨k, 0, ⟨#[]⟩, ⟨#[]⟩⟩ := step_ok g3 (by omega) (by decide) (by decide) emp_le emp_le
  have sb : SB q q2 := SB.le (p := q) (q := goP q) (.inl (by simp only [goP]; omega)) le2
  have lp := put_le (g2.trans le2) sb so
  have pt := q65 q2 o2 ⟨k, 0, ⟨#[]⟩, ⟨#[]⟩⟩
  simp only [Step.c] at pt
  simp only [EV, Nat.reduceEqDiff, Nat.reduceBEq, Nat.reduceLT, Nat.reduceLeDiff, Nat.reduceAdd, Nat.reduceSub, reduceIte]
  refine pt.call (fun _ => rfl) ?_
  rintro _ q3 ⟨rfl, e3⟩
  rw [← e3] at lp
  simp only [EV, Nat.reduceEqDiff, Nat.reduceBEq, Nat.reduceLT, Nat.reduceLeDiff, Nat.reduceAdd, Nat.reduceSub, reduceIte]
  refine ⟨q3, hq.trans lp, ?_, rfl⟩
  have h1 : q.pos + 1 ≤ q2.pos := le2.up
  have h2 : q3.pos = q2.pos := by rw [e3]; unfold putP; split <;> rfl
  have h3 := hq.l
  rw [h3] at g1
  omega
def m70 : MC :=
 (.block 0 (.seq (.reg [Xm 18 0, Xb 19 (.call (.fn 72) false [.io (.t 18), .lend (.i 3)]), Xa 17 19]) (.cond (.t 17) (.seq (.mixt [] [0] [] [] [] [] (.step 0 (Xm 20 0) (.step 1 (Xm 21 0) (.step 2 (Xq 22 (.nilchk (.t 21))) (.step 3 (Xf 23 0 22) (.step 5 (Xm 25 0) (.step 6 (Xq 26 (.nilchk (.t 25))) (.step 7 (Xf 27 1 26) (.alt (.step 4 (Xl 24 1 23) (.step 8 (Xl 28 1 27) (.step 9 (Xi 29 4 24 28) (.step
 10 (Xf 30 2 29) (.step 11 (Xl 31 1 30) (.step 12 (Xb 32 (.build [0, 1] [0, 1] [1, 1] [.i, .i, .z, .z] [.i 1, .t 31])) (.step 13 (Xb 33 (.call (.fn 65) false [.io (.t 20), .lend (.t 32)])) .nil))))))) (.step 8 (Xl 28 1 27) (.step 4 (Xl 24 1 23) (.step 9 (Xi 29 4 24 28) (.step 10 (Xf 30 2 29) (.step 11 (Xl 31 1 30) (.step 12 (Xb 32 (.build [0, 1] [0, 1] [1, 1] [.i, .i, .z, .z] [.i 1, .t 31])) (.step
 13 (Xb 33 (.call (.fn 65) false [.io (.t 20), .lend (.t 32)])) .nil)))))))))))))))) (.reg [Xm 34 0, Xq 35 (.nilchk (.t 34)), Xf 36 1 35, Xl 37 1 36, Xq 38 (.bin false .add (.t 37) (.i 1)), Xq 39 (.nilchk (.t 34)), Xf 40 1 39, Xz (.store 1 (.t 40) (.t 38))])) (.seq (.reg [Xm 42 0, Xb 43 (.call (.fn 64) false [.io (.t 42), .lend (.z #[45])]), Xa 41 43]) (.cond (.t 41) (.seq (.reg [Xm 44 0, Xb 45
 (.call (.fn 70) false [.io (.t 44)])]) (.reg [Xm 46 0, Xb 47 (.build [0] [0] [1] [.i, .i, .z, .z] [.i 8]), Xb 48 (.call (.fn 65) false [.io (.t 46), .lend (.t 47)])])) (.seq (.reg [Xm 50 0, Xb 51 (.call (.fn 64) false [.io (.t 50), .lend (.z #[40])]), Xa 49 51]) (.cond (.t 49) (.seq (.reg [Xm 52 0, Xb 53 (.call (.fn 50) false [.io (.t 52)])]) (.seq (.reg [Xm 54 0, Xb 55 (.call (.fn 64) false [.io
 (.t 54), .lend (.z #[41])]), Xq 56 (.un .not (.t 55))]) (.cond (.t 56) (.reg [Xm 57 0, Xb 58 (.call (.fn 51) false [.io (.t 57)])]) .skip))) (.seq (.reg [Xm 3 0, Xb 4 (.call (.fn 73) false [.io (.t 3)]), Xb 5 (.build [0, 3] [0, 3] [1, 1] [.i, .i, .z, .z] [.i 2, .t 4]), Xb 2 (.alloc 54 [.i, .i, .z, .z]), Xz (.store 4 (.t 2) (.t 5))]) (.join [0, 2] (.seq (.reg [Xm 6 0, Xb 7 (.call (.fn 64) false
 [.io (.t 6), .lend (.z #[46])])]) (.cond (.t 7) (.seq (.reg [Xf 8 3 2, Xl 9 1 8, Xf 10 2 2, Xz (.store 1 (.t 10) (.t 9))]) (.reg [Xm 11 0, Xb 12 (.call (.fn 73) false [.io (.t 11)]), Xf 13 3 2, Xz (.store 1 (.t 13) (.t 12))])) .skip)) (.reg [Xm 14 0, XL 15 4 2, Xb 16 (.call (.fn 65) false [.io (.t 14), .lend (.t 15)])]))))))))))
set_option maxHeartbeats 4000000 in
set_option maxRecDepth 100000 in
theorem F_of (m : Nat) (hF : ∀ m' < m, GoodP 70 m') (hE : ∀ m' < m, GoodP 50 m') : GoodP 70 m := by
  intro p hp ho hm
  have few := hp.few
  have here := hp.here
  refine doesE_intro (mc := m70) (N := 59) (rs := []) (fx := [0]) 1 rfl (by decide +kernel) ?_
  simp only [m70, EV, Nat.reduceEqDiff, Nat.reduceBEq, Nat.reduceLT, Nat.reduceLeDiff, Nat.reduceAdd, Nat.reduceSub, reduceIte]
  refine (q72 p hp 3).call (fun _ => rfl) ?_
  rintro _ p0 ⟨rfl, e0⟩
  simp only [e0, EV, Nat.reduceEqDiff, Nat.reduceBEq, Nat.reduceLT, Nat.reduceLeDiff, Nat.reduceAdd, Nat.reduceSub, reduceIte]
  rcases c0 : kdP p 3 with _ | _
  rotate_left
  · obtain ⟨b0, h1⟩ := kdP_t c0
    have h2 : (p.pos : Int) < (p.l.length : Int) := by omega
    have hb := hp.toks _ (List.getElem_mem h1)
    have so : Step.ok ⟨1, p.l[p.pos].value, ⟨#[]⟩, ⟨#[]⟩⟩ := step_ok (by decide) (by decide) (by have := hb.2.2.1; omega) hb.2.2.2 emp_le emp_le
    have pt := q65 p hp ⟨1, p.l[p.pos].value, ⟨#[]⟩, ⟨#[]⟩⟩
    simp only [Step.c, Ps.z] at pt
    simp only [h1, h2, nth_map h1, Tok.z, Ps.z, evN, EV, Nat.reduceEqDiff, Nat.reduceBEq, Nat.reduceLT, Nat.reduceLeDiff, Nat.reduceAdd, Nat.reduceSub, reduceIte]
    refine And.intro ?_ ?_
    all_goals change callK2 _ _ [AV.box 84 p.z, _] _ _ (AV.box 84 p.z) _
    all_goals refine pt.call (fun _ => rfl) ?_
    all_goals
      rintro _ p1 ⟨rfl, e1⟩
      have hpos : p1.pos = p.pos := by rw [e1]; unfold putP; split <;> rfl
      have wp := w64 ((p1.pos : Int) + 1) (by omega)
      have lp : p.le (goP p1) := by
        rw [e1]
        unfold putP
        rw [if_pos b0]
        refine ⟨rfl, by simp [goP], h1, by simp only [goP, List.length_append, List.length_singleton]; omega, hp.bad, fun h => absurd b0 h, fun x hx => ?_⟩
        simp only [goP] at hx
        rcases List.mem_append.1 hx with hx | hx
        · exact hp.steps x hx
        · rw [List.mem_singleton] at hx; rw [hx]; exact so
      simp only [wp, Ps.z, evN, EV, Nat.reduceEqDiff, Nat.reduceBEq, Nat.reduceLT, Nat.reduceLeDiff, Nat.reduceAdd, Nat.reduceSub, reduceIte]
      simp only [EV, Nat.reduceEqDiff, Nat.reduceBEq, Nat.reduceLT, Nat.reduceLeDiff, Nat.reduceAdd, Nat.reduceSub, reduceIte, evRE, retVC, cellV', evR, nfz, nfzs, nfzss, List.contains_nil, List.contains_cons, Bool.or_false, or_true]
      exact ⟨goP p1, rfl, lp⟩
  simp only [EV, Nat.reduceEqDiff, Nat.reduceBEq, Nat.reduceLT, Nat.reduceLeDiff, Nat.reduceAdd, Nat.reduceSub, reduceIte]
  refine (q64 p hp _).call (fun _ => rfl) ?_
  rintro _ p1 ⟨rfl, e1⟩
  rcases c1 : isP p ⟨#[45]⟩ with _ | _
  rotate_left
  · obtain ⟨l1, s1, l3⟩ := take_le hp c1
    obtain ⟨go, gq⟩ := l1.ok hp ho
    rw [c1] at e1
    simp only [if_true] at e1
    simp only [e1, EV, Nat.reduceEqDiff, Nat.reduceBEq, Nat.reduceLT, Nat.reduceLeDiff, Nat.reduceAdd, Nat.reduceSub, reduceIte]
    have hm' : (goP p).l.length - (goP p).pos ≤ m - 1 := by simp only [goP]; omega
    refine (hF (m - 1) (by omega) _ go gq hm').call (fun _ => rfl) ?_
    rintro _ p2 ⟨rfl, le2⟩
    obtain ⟨o2, oq2⟩ := le2.ok go gq
    have so : Step.ok ⟨8, 0, ⟨#[]⟩, ⟨#[]⟩⟩ := step_ok (by decide) (by decide) (by decide) (by decide) emp_le emp_le
    have lp := put_le (l1.trans le2) (s1.le le2) so
    have pt := q65 p2 o2 ⟨8, 0, ⟨#[]⟩, ⟨#[]⟩⟩
    simp only [Step.c] at pt
    simp only [EV, Nat.reduceEqDiff, Nat.reduceBEq, Nat.reduceLT, Nat.reduceLeDiff, Nat.reduceAdd, Nat.reduceSub, reduceIte]
    refine pt.call (fun _ => rfl) ?_
    rintro _ p3 ⟨rfl, e3⟩
    rw [← e3] at lp
    simp only [EV, Nat.reduceEqDiff, Nat.reduceBEq, Nat.reduceLT, Nat.reduceLeDiff, Nat.reduceAdd, Nat.reduceSub, reduceIte]
    simp only [EV, Nat.reduceEqDiff, Nat.reduceBEq, Nat.reduceLT, Nat.reduceLeDiff, Nat.reduceAdd, Nat.reduceSub, reduceIte, evRE, retVC, cellV', evR, nfz, nfzs, nfzss, List.contains_nil, List.contains_cons, Bool.or_false, or_true]
    exact ⟨p3, rfl, lp⟩
  rw [c1] at e1
  simp only [Bool.false_eq_true, if_false] at e1
  simp only [e1, EV, Nat.reduceEqDiff, Nat.reduceBEq, Nat.reduceLT, Nat.reduceLeDiff, Nat.reduceAdd, Nat.reduceSub, reduceIte]
  refine (q64 p hp _).call (fun _ => rfl) ?_
  rintro _ p2 ⟨rfl, e2⟩
  rcases c2 : isP p ⟨#[40]⟩ with _ | _
  rotate_left
  · obtain ⟨l1, s1, l3⟩ := take_le hp c2
    obtain ⟨go, gq⟩ := l1.ok hp ho
    rw [c2] at e2
    simp only [if_true] at e2
    simp only [e2, EV, Nat.reduceEqDiff, Nat.reduceBEq, Nat.reduceLT, Nat.reduceLeDiff, Nat.reduceAdd, Nat.reduceSub, reduceIte]
    have hm' : (goP p).l.length - (goP p).pos ≤ m - 1 := by simp only [goP]; omega
    refine (hE (m - 1) (by omega) _ go gq hm').call (fun _ => rfl) ?_
    rintro _ p3 ⟨rfl, le3⟩
    have le3' := l1.trans le3
    obtain ⟨o3, oq3⟩ := le3'.ok hp ho
    simp only [EV, Nat.reduceEqDiff, Nat.reduceBEq, Nat.reduceLT, Nat.reduceLeDiff, Nat.reduceAdd, Nat.reduceSub, reduceIte]
    refine (q64 p3 o3 _).call (fun _ => rfl) ?_
    rintro _ p4 ⟨rfl, e4⟩
    rcases c4 : isP p3 ⟨#[41]⟩ with _ | _
    · rw [c4] at e4
      simp only [Bool.false_eq_true, if_false] at e4
      simp only [e4, Bool.not_false, EV, Nat.reduceEqDiff, Nat.reduceBEq, Nat.reduceLT, Nat.reduceLeDiff, Nat.reduceAdd, Nat.reduceSub, reduceIte]
      refine (q51 p3 o3).call (fun _ => rfl) ?_
      rintro _ p5 ⟨rfl, e5⟩
      simp only [EV, Nat.reduceEqDiff, Nat.reduceBEq, Nat.reduceLT, Nat.reduceLeDiff, Nat.reduceAdd, Nat.reduceSub, reduceIte]
      simp only [EV, Nat.reduceEqDiff, Nat.reduceBEq, Nat.reduceLT, Nat.reduceLeDiff, Nat.reduceAdd, Nat.reduceSub, reduceIte, evRE, retVC, cellV', evR, nfz, nfzs, nfzss, List.contains_nil, List.contains_cons, Bool.or_false, or_true]
      exact ⟨p5, rfl, by rw [e5]; exact le3'.trans (fail_le o3).1⟩
    · rw [c4] at e4
      simp only [if_true] at e4
      simp only [e4, Bool.not_true, EV, Nat.reduceEqDiff, Nat.reduceBEq, Nat.reduceLT, Nat.reduceLeDiff, Nat.reduceAdd, Nat.reduceSub, reduceIte]
      simp only [EV, Nat.reduceEqDiff, Nat.reduceBEq, Nat.reduceLT, Nat.reduceLeDiff, Nat.reduceAdd, Nat.reduceSub, reduceIte, evRE, retVC, cellV', evR, nfz, nfzs, nfzss, List.contains_nil, List.contains_cons, Bool.or_false, or_true]
      exact ⟨goP p3, rfl, le3'.trans (take_le o3 c4).1⟩
  rw [c2] at e2
  simp only [Bool.false_eq_true, if_false] at e2
  simp only [e2, EV, Nat.reduceEqDiff, Nat.reduceBEq, Nat.reduceLT, Nat.reduceLeDiff, Nat.reduceAdd, Nat.reduceSub, reduceIte]
  refine (q73 p hp).call (fun _ => rfl) ?_
  rintro _ p3 ⟨x, rfl, hx, e3⟩
  have lw : p.le p3 ∧ SB p p3 := by
    rw [e3]
    rcases c3 : kdP p 1 with _ | _
    · simp only [Bool.false_eq_true, if_false]
      exact ⟨(fail_le hp).1, .inr (fail_le hp).2⟩
    · simp only [if_true]
      obtain ⟨h0, h1⟩ := kdP_t c3
      exact ⟨go_le hp h0 h1, .inl (by simp only [goP]; omega)⟩
  obtain ⟨le3, sb3⟩ := lw
  obtain ⟨o3, oq3⟩ := le3.ok hp ho
  simp only [EV, Nat.reduceEqDiff, Nat.reduceBEq, Nat.reduceLT, Nat.reduceLeDiff, Nat.reduceAdd, Nat.reduceSub, reduceIte]
  refine awp_join (fun r : Ps × ByteArray × ByteArray => p.le r.1 ∧ SB p r.1 ∧ (r.2.1.size : Int) ≤ 1200 ∧ (r.2.2.size : Int) ≤ 1200) (fun r => stl [(0, .box 84 r.1.z), (2, .box 54 (Step.c ⟨2, 0, r.2.1, r.2.2⟩))]) ?_ ?_
  · simp only [EV, Nat.reduceEqDiff, Nat.reduceBEq, Nat.reduceLT, Nat.reduceLeDiff, Nat.reduceAdd, Nat.reduceSub, reduceIte]
    refine (q64 p3 o3 _).call (fun _ => rfl) ?_
    rintro _ p4 ⟨rfl, e4⟩
    rcases c4 : isP p3 ⟨#[46]⟩ with _ | _
    · rw [c4] at e4
      simp only [Bool.false_eq_true, if_false] at e4
      simp only [e4, EV, Nat.reduceEqDiff, Nat.reduceBEq, Nat.reduceLT, Nat.reduceLeDiff, Nat.reduceAdd, Nat.reduceSub, reduceIte]
      exact ⟨(p3, ⟨#[]⟩, x), ⟨le3, sb3, emp_le, hx⟩, rfl⟩
    · obtain ⟨l4, _, _⟩ := take_le o3 c4
      obtain ⟨o4, oq4⟩ := l4.ok o3 oq3
      rw [c4] at e4
      simp only [if_true] at e4
      simp only [e4, EV, Nat.reduceEqDiff, Nat.reduceBEq, Nat.reduceLT, Nat.reduceLeDiff, Nat.reduceAdd, Nat.reduceSub, reduceIte]
      refine (q73 _ o4).call (fun _ => rfl) ?_
      rintro _ p5 ⟨y, rfl, hy, e5⟩
      have l5 : (goP p3).le p5 := by
        rw [e5]
        rcases c5 : kdP (goP p3) 1 with _ | _
        · simp only [Bool.false_eq_true, if_false]
          exact (fail_le o4).1
        · simp only [if_true]
          obtain ⟨h0, h1⟩ := kdP_t c5
          exact go_le o4 h0 h1
      simp only [EV, Nat.reduceEqDiff, Nat.reduceBEq, Nat.reduceLT, Nat.reduceLeDiff, Nat.reduceAdd, Nat.reduceSub, reduceIte]
      exact ⟨(p5, x, y), ⟨le3.trans (l4.trans l5), sb3.le (l4.trans l5), hx, hy⟩, rfl⟩
  rintro ⟨p4, x, y⟩ ⟨le4, sb4, hx, hy⟩
  simp only at le4 sb4 hx hy
  obtain ⟨o4, oq4⟩ := le4.ok hp ho
  have so : Step.ok ⟨2, 0, x, y⟩ := step_ok (by decide) (by decide) (by decide) (by decide) hx hy
  have lp := put_le le4 sb4 so
  have pt := q65 p4 o4 ⟨2, 0, x, y⟩
  simp only [Step.c] at pt
  simp only [Step.c, EV, Nat.reduceEqDiff, Nat.reduceBEq, Nat.reduceLT, Nat.reduceLeDiff, Nat.reduceAdd, Nat.reduceSub, reduceIte]
  refine pt.call (fun _ => rfl) ?_
  rintro _ p5 ⟨rfl, e5⟩
  rw [← e5] at lp
  simp only [EV, Nat.reduceEqDiff, Nat.reduceBEq, Nat.reduceLT, Nat.reduceLeDiff, Nat.reduceAdd, Nat.reduceSub, reduceIte]
  simp only [EV, Nat.reduceEqDiff, Nat.reduceBEq, Nat.reduceLT, Nat.reduceLeDiff, Nat.reduceAdd, Nat.reduceSub, reduceIte, evRE, retVC, cellV', evR, nfz, nfzs, nfzss, List.contains_nil, List.contains_cons, Bool.or_false, or_true]
  exact ⟨p5, rfl, lp⟩
theorem parse_all (m : Nat) : GoodP 70 m ∧ GoodP 50 m := by
  induction m using Nat.strongRecOn with
  | _ m ih =>
    have hF := F_of m (fun m' h => (ih m' h).1) (fun m' h => (ih m' h).2)
    exact ⟨hF, E_of m (T_of m hF)⟩
def m31 : MC :=
 (.seq (.reg [Xb 2 (.asg (.nils 54 4)), Xb 3 (.asg (.i 0)), Xb 4 (.asg .fb)]) (.seq (.seq (.reg [Xm 6 0, Xb 7 (.call (.fn 49) false [.lend (.t 6)]), Xq 8 (.un .not (.t 7))]) (.cond (.t 8) (.seq (.reg [Xb 2 (.asg (.nils 54 4)), Xb 3 (.asg (.i 0)), Xb 4 (.asg .fb)]) .ret) .skip)) (.seq (.reg [Xm 9 0, Xb 10 (.build [0] [0] [1] [.s 76 4, .i, .i, .s 54 4] [.t 9]), Xb 11 (.box 84 (.t 10)), Xa 5 11])
 (.seq (.reg [Xm 12 5, Xb 13 (.call (.fn 50) false [.io (.t 12)])]) (.join [5, 11] (.seq (.reg [Xm 14 5, Xq 15 (.nilchk (.t 14)), Xf 16 1 15, Xl 17 1 16, Xm 18 0, Xn 19 18, Xq 20 (.bin false .lss (.t 17) (.t 19))]) (.cond (.t 20) (.reg [Xm 21 5, Xb 22 (.call (.fn 51) false [.io (.t 21)])]) .skip)) (.seq (.seq (.reg [Xm 23 5, Xq 24 (.nilchk (.t 23)), Xf 25 2 24, Xl 26 1 25, Xq 27 (.bin false .gtr
 (.t 26) (.i 0)), Xm 28 27, Xu 29 28 (.mov (.t 5)), Xu 30 28 (.nilchk (.t 29)), Xu 31 28 (.fad 3 (.t 30)), Xu 32 28 (.load false 1 (.t 31)), Xu 33 28 (.len false (.t 32)), Xu 34 28 (.bin false .gtr (.t 33) (.i 40)), Xq 35 (.pick (.t 28) .tb (.t 34))]) (.cond (.t 35) (.seq (.dreg [Xm 36 5, Xq 37 (.nilchk (.t 36)), Xf 38 2 37, Xl 39 1 38, Xq 2 (.mov (.nils 54 4)), Xm 3 39, Xq 4 (.mov .fb)]) .ret)
 .skip)) (.seq (.reg [Xm 40 5, Xq 41 (.nilchk (.t 40)), Xf 42 3 41, Xl 43 1 42, Xa 2 43, Xb 3 (.asg (.i 0)), Xb 4 (.asg .tb)]) .ret)))))))
set_option maxHeartbeats 4000000 in
set_option maxRecDepth 100000 in
theorem e31 (l : List Tok) (hl : l.length ≤ 300) (hb : ∀ t ∈ l, t.b) : DoesE Go.Proofs.Try.prog 31 [.fsl 4 (l.map Tok.z)] false fun r o => o = [.dead] ∧ ∃ (e : List Step) (a : Int) (v : Bool), r = .tup [.usl 54 4 (e.map Step.c), .v (.int .i64 a), .v (.bool v)] ∧ e.length ≤ 300 ∧ ∀ s ∈ e, s.ok := by
  have hp : Ps.ok ⟨l, 0, 0, []⟩ := ⟨hl, Nat.zero_le _, by simp, by simp, by simp, hb⟩
  have pe := (parse_all 300).2 ⟨l, 0, 0, []⟩ hp (Nat.le_refl _) (by simp only; omega)
  refine doesE_intro (mc := m31) (N := 44) (rs := [2, 3, 4]) (fx := []) 1 rfl (by decide +kernel) ?_
  simp only [m31, EV, Nat.reduceEqDiff, Nat.reduceBEq, Nat.reduceLT, Nat.reduceLeDiff, Nat.reduceAdd, Nat.reduceSub, reduceIte]
  refine callE_i (e49 l hl hb) (fun r o h => ⟨h.2, h.1⟩) ?_
  rintro _ ⟨v, rfl⟩
  cases v
  · simp only [Bool.not_false, EV, Nat.reduceEqDiff, Nat.reduceBEq, Nat.reduceLT, Nat.reduceLeDiff, Nat.reduceAdd, Nat.reduceSub, reduceIte]
    simp only [EV, Nat.reduceEqDiff, Nat.reduceBEq, Nat.reduceLT, Nat.reduceLeDiff, Nat.reduceAdd, Nat.reduceSub, reduceIte, evRE, retVC, cellV', evR, nfz, nfzs, nfzss, List.contains_nil, List.contains_cons, Bool.or_false, or_true]
    exact ⟨[], 0, false, rfl, by simp, by simp⟩
  simp only [Bool.not_true, EV, Nat.reduceEqDiff, Nat.reduceBEq, Nat.reduceLT, Nat.reduceLeDiff, Nat.reduceAdd, Nat.reduceSub, reduceIte]
  change callK2 _ _ [AV.box 84 (Ps.z ⟨l, 0, 0, []⟩)] _ _ (AV.box 84 (Ps.z ⟨l, 0, 0, []⟩)) _
  refine pe.call (fun _ => rfl) ?_
  rintro _ p1 ⟨rfl, le1⟩
  obtain ⟨o1, q1⟩ := le1.ok hp (Nat.le_refl _)
  have hpl : p1.l = l := le1.l
  have hbad := o1.bad
  have hsm : p1.out.length ≤ 300 := by have := o1.here; have := o1.few; omega
  simp only [Ps.z, evN, EV, Nat.reduceEqDiff, Nat.reduceBEq, Nat.reduceLT, Nat.reduceLeDiff, Nat.reduceAdd, Nat.reduceSub, reduceIte]
  refine awp_join (fun q : Ps => q.ok ∧ q.out.length ≤ 300) (fun q => stl [(5, .box 84 q.z), (11, .dead)]) ?_ ?_
  · simp only [Ps.z, evN, EV, Nat.reduceEqDiff, Nat.reduceBEq, Nat.reduceLT, Nat.reduceLeDiff, Nat.reduceAdd, Nat.reduceSub, reduceIte]
    refine cK_cut (fun h => ?_) (fun h => ?_)
    · simp only [Ps.z, evN, EV, Nat.reduceEqDiff, Nat.reduceBEq, Nat.reduceLT, Nat.reduceLeDiff, Nat.reduceAdd, Nat.reduceSub, reduceIte]
      change callK2 _ _ [AV.box 84 p1.z] _ _ (AV.box 84 p1.z) _
      refine (q51 p1 o1).call (fun _ => rfl) ?_
      rintro _ p2 ⟨rfl, e2⟩
      have le2 := (fail_le o1).1
      rw [← e2] at le2
      obtain ⟨o2, q2⟩ := le2.ok o1 q1
      have hs2 : p2.out.length ≤ 300 := by have := o2.here; have := o2.few; omega
      simp only [Ps.z, evN, EV, Nat.reduceEqDiff, Nat.reduceBEq, Nat.reduceLT, Nat.reduceLeDiff, Nat.reduceAdd, Nat.reduceSub, reduceIte]
      exact ⟨p2, ⟨o2, hs2⟩, rfl⟩
    · simp only [Ps.z, evN, EV, Nat.reduceEqDiff, Nat.reduceBEq, Nat.reduceLT, Nat.reduceLeDiff, Nat.reduceAdd, Nat.reduceSub, reduceIte]
      exact ⟨p1, ⟨o1, hsm⟩, rfl⟩
  rintro q ⟨qo, qs⟩
  simp only [Ps.z, evN, EV, Nat.reduceEqDiff, Nat.reduceBEq, Nat.reduceLT, Nat.reduceLeDiff, Nat.reduceAdd, Nat.reduceSub, reduceIte]
  rcases e1 : decide ((0 : Int) < (q.bad : Int)) with _ | _
  rotate_left
  · simp only [e1, Ps.z, evN, EV, Nat.reduceEqDiff, Nat.reduceBEq, Nat.reduceLT, Nat.reduceLeDiff, Nat.reduceAdd, Nat.reduceSub, reduceIte]
    simp only [EV, Nat.reduceEqDiff, Nat.reduceBEq, Nat.reduceLT, Nat.reduceLeDiff, Nat.reduceAdd, Nat.reduceSub, reduceIte, evRE, retVC, cellV', evR, nfz, nfzs, nfzss, List.contains_nil, List.contains_cons, Bool.or_false, or_true]
    exact ⟨[], _, false, rfl, by simp, by simp⟩
  simp only [e1, Ps.z, evN, EV, Nat.reduceEqDiff, Nat.reduceBEq, Nat.reduceLT, Nat.reduceLeDiff, Nat.reduceAdd, Nat.reduceSub, reduceIte]
  rcases e2 : decide ((40 : Int) < (q.out.length : Int)) with _ | _
  rotate_left
  · simp only [e2, Ps.z, evN, EV, Nat.reduceEqDiff, Nat.reduceBEq, Nat.reduceLT, Nat.reduceLeDiff, Nat.reduceAdd, Nat.reduceSub, reduceIte]
    simp only [EV, Nat.reduceEqDiff, Nat.reduceBEq, Nat.reduceLT, Nat.reduceLeDiff, Nat.reduceAdd, Nat.reduceSub, reduceIte, evRE, retVC, cellV', evR, nfz, nfzs, nfzss, List.contains_nil, List.contains_cons, Bool.or_false, or_true]
    exact ⟨[], _, false, rfl, by simp, by simp⟩
  simp only [e2, Ps.z, evN, EV, Nat.reduceEqDiff, Nat.reduceBEq, Nat.reduceLT, Nat.reduceLeDiff, Nat.reduceAdd, Nat.reduceSub, reduceIte]
  simp only [Step.nfz, EV, Nat.reduceEqDiff, Nat.reduceBEq, Nat.reduceLT, Nat.reduceLeDiff, Nat.reduceAdd, Nat.reduceSub, reduceIte, evRE, retVC, cellV', evR, nfz, nfzs, nfzss, List.contains_nil, List.contains_cons, Bool.or_false, or_true]
  exact ⟨q.out, _, true, rfl, qs, qo.steps⟩
end Go.AM
