/- Contracts of functions of the given program, for the law FnCalls: what they return and what they write, under the bounds that each theorem states. -/
import Derived.Test.YtmacgaechjiecaaGreatF3
import Derived.Test.YtmacgaechjiecaaGreatProg
namespace Go.AM
set_option linter.unusedVariables false
set_option linter.unusedSimpArgs false
def m72 : MC :=
 (.seq (.reg [Xb 6 (.asg .fb)]) (.seq (.reg [Xm 7 0, Xm 8 1, Xq 9 (.bin false .geq (.t 7) (.t 8)), Xm 10 9, Xt 11 10 (.mov (.t 0)), Xt 12 10 (.mov (.t 2)), Xt 13 10 (.bin false .leq (.t 11) (.t 12)), Xq 14 (.pick (.t 10) (.t 13) .fb), Xa 6 14]) .ret))
theorem d72 (x lo hi : Int) : Does Go.Proofs.Tryz.prog 72 [.v (.int .i64 x), .v (.int .i64 lo), .v (.int .i64 hi)] false (.v (.bool (decide (lo ≤ x) && decide (x ≤ hi)))) [.dead, .dead, .dead] := by
  refine does_intro (mc := m72) (N := 15) (rs := [6]) (fx := []) 3 rfl (by decide +kernel) ?_
  simp only [m72, EV, Nat.reduceEqDiff, Nat.reduceBEq, Nat.reduceLT, Nat.reduceLeDiff, Nat.reduceAdd, Nat.reduceSub, reduceIte]
  repeat' (first
    | (refine gK_cut (fun h => ?_) (fun h => ?_) <;> simp only [h, EV, Nat.reduceEqDiff, Nat.reduceBEq, Nat.reduceLT, Nat.reduceLeDiff, Nat.reduceAdd, Nat.reduceSub, reduceIte])
    | (refine cK_cut (fun h => ?_) (fun h => ?_) <;> simp only [h, EV, Nat.reduceEqDiff, Nat.reduceBEq, Nat.reduceLT, Nat.reduceLeDiff, Nat.reduceAdd, Nat.reduceSub, reduceIte]))
  all_goals simp only [h, EV, Nat.reduceEqDiff, Nat.reduceBEq, Nat.reduceLT, Nat.reduceLeDiff, Nat.reduceAdd, Nat.reduceSub, reduceIte, evRE, retVC, cellV', evR, nfz, nfzs, nfzss, List.contains_nil, List.contains_cons, Bool.or_false, or_true]
def m78 : MC :=
 (.seq (.reg [Xb 6 (.asg .fb)]) (.seq (.reg [Xm 7 0, Xm 8 1, Xq 9 (.bin false .geq (.t 7) (.t 8)), Xm 10 9, Xt 11 10 (.mov (.t 0)), Xt 12 10 (.mov (.t 2)), Xt 13 10 (.bin false .leq (.t 11) (.t 12)), Xq 14 (.pick (.t 10) (.t 13) .fb), Xa 6 14]) .ret))
theorem d78 (x lo hi : Int) : Does Go.Proofs.Tryz.prog 78 [.v (.int .i64 x), .v (.int .i64 lo), .v (.int .i64 hi)] false (.v (.bool (decide (lo ≤ x) && decide (x ≤ hi)))) [.dead, .dead, .dead] := by
  refine does_intro (mc := m78) (N := 15) (rs := [6]) (fx := []) 3 rfl (by decide +kernel) ?_
  simp only [m78, EV, Nat.reduceEqDiff, Nat.reduceBEq, Nat.reduceLT, Nat.reduceLeDiff, Nat.reduceAdd, Nat.reduceSub, reduceIte]
  repeat' (first
    | (refine gK_cut (fun h => ?_) (fun h => ?_) <;> simp only [h, EV, Nat.reduceEqDiff, Nat.reduceBEq, Nat.reduceLT, Nat.reduceLeDiff, Nat.reduceAdd, Nat.reduceSub, reduceIte])
    | (refine cK_cut (fun h => ?_) (fun h => ?_) <;> simp only [h, EV, Nat.reduceEqDiff, Nat.reduceBEq, Nat.reduceLT, Nat.reduceLeDiff, Nat.reduceAdd, Nat.reduceSub, reduceIte]))
  all_goals simp only [h, EV, Nat.reduceEqDiff, Nat.reduceBEq, Nat.reduceLT, Nat.reduceLeDiff, Nat.reduceAdd, Nat.reduceSub, reduceIte, evRE, retVC, cellV', evR, nfz, nfzs, nfzss, List.contains_nil, List.contains_cons, Bool.or_false, or_true]
def lett (b : Int) : Bool := decide (65 ≤ b) && decide (b ≤ 90) || decide (97 ≤ b) && decide (b ≤ 122)
def digt (b : Int) : Bool := decide (48 ≤ b) && decide (b ≤ 57)
def m203 : MC :=
 (.seq (.reg [Xb 2 (.asg .fb)]) (.seq (.reg [Xm 3 0, Xq 4 (.bin false .geq (.t 3) (.c (.int .u8 65))), Xm 5 4, Xt 6 5 (.mov (.t 0)), Xt 7 5 (.bin false .leq (.t 6) (.c (.int .u8 90))), Xq 8 (.pick (.t 5) (.t 7) .fb), Xm 9 8, Xu 10 9 (.mov (.t 0)), Xu 11 9 (.bin false .geq (.t 10) (.c (.int .u8 97))), Xu 12 9 (.mov (.t 11)), Xt 13 12 (.mov (.t 0)), Xt 14 12 (.bin false .leq (.t 13) (.c (.int .u8
 122))), Xu 15 9 (.pick (.t 12) (.t 14) .fb), Xq 16 (.pick (.t 9) .tb (.t 15)), Xa 2 16]) .ret))
theorem d203 (b : Int) : Does Go.Proofs.Tryz.prog 203 [.v (.int .u8 b)] false (.v (.bool (lett b))) [.dead] := by
  refine does_intro (mc := m203) (N := 17) (rs := [2]) (fx := []) 1 rfl (by decide +kernel) ?_
  simp only [m203, EV, Nat.reduceEqDiff, Nat.reduceBEq, Nat.reduceLT, Nat.reduceLeDiff, Nat.reduceAdd, Nat.reduceSub, reduceIte]
  repeat' (first
    | (refine gK_cut (fun h => ?_) (fun h => ?_) <;> simp only [h, EV, Nat.reduceEqDiff, Nat.reduceBEq, Nat.reduceLT, Nat.reduceLeDiff, Nat.reduceAdd, Nat.reduceSub, reduceIte])
    | (refine cK_cut (fun h => ?_) (fun h => ?_) <;> simp only [h, EV, Nat.reduceEqDiff, Nat.reduceBEq, Nat.reduceLT, Nat.reduceLeDiff, Nat.reduceAdd, Nat.reduceSub, reduceIte]))
  all_goals simp only [lett, *, Bool.or_true, Bool.true_or, Bool.false_or, Bool.or_false, EV, Nat.reduceEqDiff, Nat.reduceBEq, Nat.reduceLT, Nat.reduceLeDiff, Nat.reduceAdd, Nat.reduceSub, reduceIte, evRE, retVC, cellV', evR, nfz, nfzs, nfzss, List.contains_nil, List.contains_cons, Bool.or_false, or_true]
def m204 : MC :=
 (.seq (.reg [Xb 2 (.asg .fb)]) (.seq (.reg [Xm 3 0, Xq 4 (.bin false .geq (.t 3) (.c (.int .u8 48))), Xm 5 4, Xt 6 5 (.mov (.t 0)), Xt 7 5 (.bin false .leq (.t 6) (.c (.int .u8 57))), Xq 8 (.pick (.t 5) (.t 7) .fb), Xa 2 8]) .ret))
theorem d204 (b : Int) : Does Go.Proofs.Tryz.prog 204 [.v (.int .u8 b)] false (.v (.bool (digt b))) [.dead] := by
  refine does_intro (mc := m204) (N := 9) (rs := [2]) (fx := []) 1 rfl (by decide +kernel) ?_
  simp only [m204, EV, Nat.reduceEqDiff, Nat.reduceBEq, Nat.reduceLT, Nat.reduceLeDiff, Nat.reduceAdd, Nat.reduceSub, reduceIte]
  repeat' (first
    | (refine gK_cut (fun h => ?_) (fun h => ?_) <;> simp only [h, EV, Nat.reduceEqDiff, Nat.reduceBEq, Nat.reduceLT, Nat.reduceLeDiff, Nat.reduceAdd, Nat.reduceSub, reduceIte])
    | (refine cK_cut (fun h => ?_) (fun h => ?_) <;> simp only [h, EV, Nat.reduceEqDiff, Nat.reduceBEq, Nat.reduceLT, Nat.reduceLeDiff, Nat.reduceAdd, Nat.reduceSub, reduceIte]))
  all_goals simp only [digt, *, EV, Nat.reduceEqDiff, Nat.reduceBEq, Nat.reduceLT, Nat.reduceLeDiff, Nat.reduceAdd, Nat.reduceSub, reduceIte, evRE, retVC, cellV', evR, nfz, nfzs, nfzss, List.contains_nil, List.contains_cons, Bool.or_false, or_true]
def chOk (s : ByteArray) (i : Nat) : Bool := lett (sAt s i) || (i != 0 && digt (sAt s i))
def chsOk (s : ByteArray) (i : Nat) : Prop := ∀ j, j < i → chOk s j = true
open Classical in
noncomputable def nameOk (s : ByteArray) : Bool := decide (chsOk s s.size ∧ 1 ≤ s.size ∧ s.size ≤ 10)
theorem chsOk_succ {s : ByteArray} {i : Nat} (h : chsOk s i) (h2 : chOk s i = true) : chsOk s (i + 1) := by
  intro j hj
  by_cases e : j = i
  · subst e; exact h2
  · exact h j (by omega)
theorem nameOk_no {s : ByteArray} {i : Nat} (hi : i < s.size) (h : chOk s i = false) : nameOk s = false := by
  simp only [nameOk, decide_eq_false_iff_not]
  rintro ⟨h1, _⟩
  have := h1 i hi
  rw [h] at this; cases this
theorem nameOk_yes {s : ByteArray} (h : chsOk s s.size) : nameOk s = (decide ((1 : Int) ≤ s.size) && decide ((s.size : Int) ≤ 10)) := by
  have e1 : decide ((1 : Int) ≤ s.size) = decide (1 ≤ s.size) := by congr 1; apply propext; omega
  have e2 : decide ((s.size : Int) ≤ 10) = decide (s.size ≤ 10) := by congr 1; apply propext; omega
  simp [nameOk, h, e1, e2]
def m148 : MC :=
 (.seq (.reg [Xb 2 (.asg .fb)]) (.seq (.seq (.reg [Xb 3 (.asg (.i 0))]) (.block 0 (.loop [0, 3] (.seq (.seq (.reg [Xm 6 3, Xm 7 0, Xq 8 (.len true (.t 7)), Xq 9 (.bin false .lss (.t 6) (.t 8))]) (.cond (.t 9) .skip (.exit 0))) (.seq (.block 1 (.seq (.reg [Xm 12 0, Xm 13 3, Xq 14 (.idx (.t 12) (.t 13)), Xa 4 14]) (.join [0, 3, 4, 5] (.reg [Xm 15 4, Xq 16 (.bin false .geq (.t 15) (.c (.int .u8 65))),
 Xm 17 16, Xt 18 17 (.mov (.t 4)), Xt 19 17 (.bin false .leq (.t 18) (.c (.int .u8 90))), Xq 20 (.pick (.t 17) (.t 19) .fb), Xm 21 20, Xu 22 21 (.mov (.t 4)), Xu 23 21 (.bin false .geq (.t 22) (.c (.int .u8 97))), Xu 24 21 (.mov (.t 23)), Xt 25 24 (.mov (.t 4)), Xt 26 24 (.bin false .leq (.t 25) (.c (.int .u8 122))), Xu 27 21 (.pick (.t 24) (.t 26) .fb), Xq 28 (.pick (.t 21) .tb (.t 27)), Xa 5 28])
 (.seq (.reg [Xm 29 5, Xq 30 (.un .not (.t 29)), Xm 31 30, Xt 32 31 (.mov (.t 3)), Xt 33 31 (.bin false .eql (.t 32) (.i 0)), Xt 34 31 (.mov (.t 33)), Xu 35 34 (.mov (.t 4)), Xu 36 34 (.bin false .lss (.t 35) (.c (.int .u8 48))), Xt 37 31 (.pick (.t 34) .tb (.t 36)), Xt 38 31 (.mov (.t 37)), Xu 39 38 (.mov (.t 4)), Xu 40 38 (.bin false .gtr (.t 39) (.c (.int .u8 57))), Xt 41 31 (.pick (.t 38) .tb
 (.t 40)), Xq 42 (.pick (.t 31) (.t 41) .fb)]) (.cond (.t 42) (.seq (.reg [Xb 2 (.asg .fb)]) .ret) .skip))))) (.reg [Xm 10 3, Xq 11 (.bin false .add (.t 10) (.i 1)), Xa 3 11])))))) (.seq (.reg [Xm 43 0, Xq 44 (.len true (.t 43)), Xb 45 (.call (.fn 72) false [.lend (.t 44), .lend (.i 1), .lend (.i 10)]), Xa 2 45]) .ret)))
theorem d148 (s : ByteArray) (hs : (s.size : Int) ≤ 9223372036854775807) : Does Go.Proofs.Tryz.prog 148 [.v (.string s)] false (.v (.bool (nameOk s))) [.dead] := by
  refine does_intro (mc := m148) (N := 46) (rs := [2]) (fx := []) 1 rfl (by decide +kernel) ?_
  simp only [m148, EV, Nat.reduceEqDiff, Nat.reduceBEq, Nat.reduceLT, Nat.reduceLeDiff, Nat.reduceAdd, Nat.reduceSub, reduceIte]
  refine awp_loop (fun i : Nat => i ≤ s.size ∧ chsOk s i) (fun i => stl [(0, .v (.string s)), (3, .v (.int .i64 (i : Int)))]) (fun i => s.size - i) 0 ⟨by omega, fun j hj => absurd hj (by omega)⟩ ?_ ?_
  · simp only [EV, Nat.reduceEqDiff, Nat.reduceBEq, Nat.reduceLT, Nat.reduceLeDiff, Nat.reduceAdd, Nat.reduceSub, reduceIte]
    rfl
  · rintro i ⟨h0, h1⟩
    simp only [EV, Nat.reduceEqDiff, Nat.reduceBEq, Nat.reduceLT, Nat.reduceLeDiff, Nat.reduceAdd, Nat.reduceSub, reduceIte]
    refine cK_cut (fun h => ?_) (fun h => ?_)
    · have h2 : (i : Int) < s.size := by simpa using h
      simp only [h2, EV, Nat.reduceEqDiff, Nat.reduceBEq, Nat.reduceLT, Nat.reduceLeDiff, Nat.reduceAdd, Nat.reduceSub, reduceIte]
      refine awp_join (fun _ : Unit => True) (fun _ => stl [(0, .v (.string s)), (3, .v (.int .i64 (i : Int))), (4, .v (.int .u8 (sAt s i))), (5, .v (.bool (lett (sAt s i))))]) ?_ ?_
      · simp only [EV, Nat.reduceEqDiff, Nat.reduceBEq, Nat.reduceLT, Nat.reduceLeDiff, Nat.reduceAdd, Nat.reduceSub, reduceIte]
        repeat' (first
    | (refine gK_cut (fun h => ?_) (fun h => ?_) <;> simp only [h, EV, Nat.reduceEqDiff, Nat.reduceBEq, Nat.reduceLT, Nat.reduceLeDiff, Nat.reduceAdd, Nat.reduceSub, reduceIte])
    | (refine cK_cut (fun h => ?_) (fun h => ?_) <;> simp only [h, EV, Nat.reduceEqDiff, Nat.reduceBEq, Nat.reduceLT, Nat.reduceLeDiff, Nat.reduceAdd, Nat.reduceSub, reduceIte]))
        all_goals refine ⟨(), ?_⟩
        all_goals simp only [lett, *, Bool.or_true, Bool.true_or, Bool.false_or, Bool.or_false, EV, Nat.reduceEqDiff, Nat.reduceBEq, Nat.reduceLT, Nat.reduceLeDiff, Nat.reduceAdd, Nat.reduceSub, reduceIte]
      · rintro _ _
        simp only [EV, Nat.reduceEqDiff, Nat.reduceBEq, Nat.reduceLT, Nat.reduceLeDiff, Nat.reduceAdd, Nat.reduceSub, reduceIte]
        repeat' (first
    | (refine gK_cut (fun h => ?_) (fun h => ?_) <;> simp only [h, EV, Nat.reduceEqDiff, Nat.reduceBEq, Nat.reduceLT, Nat.reduceLeDiff, Nat.reduceAdd, Nat.reduceSub, reduceIte])
    | (refine cK_cut (fun h => ?_) (fun h => ?_) <;> simp only [h, EV, Nat.reduceEqDiff, Nat.reduceBEq, Nat.reduceLT, Nat.reduceLeDiff, Nat.reduceAdd, Nat.reduceSub, reduceIte]))
        all_goals first
          | (have hc : chOk s i = false := by
               simp_all [chOk, digt] <;> omega
             simp only [nameOk_no (by omega) hc, EV, Nat.reduceEqDiff, Nat.reduceBEq, Nat.reduceLT, Nat.reduceLeDiff, Nat.reduceAdd, Nat.reduceSub, reduceIte, evRE, retVC, cellV', evR, nfz, nfzs, nfzss, List.contains_nil, List.contains_cons, Bool.or_false, or_true]
             done)
          | (have hc : chOk s i = true := by
               simp_all [chOk, digt] <;> omega
             rw [w64 _ (by omega)]
             exact ⟨i + 1, ⟨by omega, chsOk_succ h1 hc⟩, by omega, rfl⟩)
    · have h2 : i = s.size := by have : ¬ (i : Int) < s.size := by simpa using h
                                 omega
      subst h2
      simp only [EV, Nat.reduceEqDiff, Nat.reduceBEq, Nat.reduceLT, Nat.reduceLeDiff, Nat.reduceAdd, Nat.reduceSub, reduceIte]
      refine callK_i (d72 _ _ _) ?_
      simp only [EV, Nat.reduceEqDiff, Nat.reduceBEq, Nat.reduceLT, Nat.reduceLeDiff, Nat.reduceAdd, Nat.reduceSub, reduceIte]
      simp only [nameOk_yes h1, EV, Nat.reduceEqDiff, Nat.reduceBEq, Nat.reduceLT, Nat.reduceLeDiff, Nat.reduceAdd, Nat.reduceSub, reduceIte, evRE, retVC, cellV', evR, nfz, nfzs, nfzss, List.contains_nil, List.contains_cons, Bool.or_false, or_true]
def m141 : MC :=
 (.seq (.reg [Xb 2 (.asg .fb)]) (.seq (.seq (.reg [Xm 4 0, Xq 5 (.len true (.t 4)), Xq 6 (.mov (.i 0))]) (.block 0 (.loop [0, 5, 6] (.seq (.reg [Xq 7 (.bin false .lss (.t 6) (.t 5))]) (.seq (.cond (.t 7) .skip (.exit 0)) (.seq (.block 1 (.seq (.reg [Xm 8 6, Xa 3 8]) (.seq (.reg [Xm 9 0, Xm 10 3, Xq 11 (.idx (.t 9) (.t 10)), Xb 12 (.call (.fn 203) false [.lend (.t 11)]), Xq 13 (.un .not (.t 12)), Xm
 14 13, Xt 15 14 (.mov (.t 3)), Xt 16 14 (.bin false .eql (.t 15) (.i 0)), Xt 17 14 (.mov (.t 16)), Xu 18 17 (.mov (.t 0)), Xu 19 17 (.mov (.t 3)), Xu 20 17 (.idx (.t 18) (.t 19)), XU 21 17 (.call (.fn 204) false [.lend (.t 20)]), Xu 22 17 (.un .not (.t 21)), Xt 23 14 (.pick (.t 17) .tb (.t 22)), Xq 24 (.pick (.t 14) (.t 23) .fb)]) (.cond (.t 24) (.seq (.reg [Xb 2 (.asg .fb)]) .ret) .skip)))) (.reg
 [Xq 25 (.bin false .add (.t 6) (.i 1)), Xm 6 25]))))))) (.seq (.reg [Xm 26 0, Xq 27 (.len true (.t 26)), Xb 28 (.call (.fn 78) false [.lend (.t 27), .lend (.i 1), .lend (.i 10)]), Xa 2 28]) .ret)))
theorem d141 (s : ByteArray) (hs : (s.size : Int) ≤ 9223372036854775807) : Does Go.Proofs.Tryz.prog 141 [.v (.string s)] false (.v (.bool (nameOk s))) [.dead] := by
  refine does_intro (mc := m141) (N := 29) (rs := [2]) (fx := []) 1 rfl (by decide +kernel) ?_
  simp only [m141, EV, Nat.reduceEqDiff, Nat.reduceBEq, Nat.reduceLT, Nat.reduceLeDiff, Nat.reduceAdd, Nat.reduceSub, reduceIte]
  refine awp_loop (fun i : Nat => i ≤ s.size ∧ chsOk s i) (fun i => stl [(0, .v (.string s)), (5, .v (.int .i64 (s.size : Int))), (6, .v (.int .i64 (i : Int)))]) (fun i => s.size - i) 0 ⟨by omega, fun j hj => absurd hj (by omega)⟩ ?_ ?_
  · simp only [EV, Nat.reduceEqDiff, Nat.reduceBEq, Nat.reduceLT, Nat.reduceLeDiff, Nat.reduceAdd, Nat.reduceSub, reduceIte]
    rfl
  · rintro i ⟨h0, h1⟩
    simp only [EV, Nat.reduceEqDiff, Nat.reduceBEq, Nat.reduceLT, Nat.reduceLeDiff, Nat.reduceAdd, Nat.reduceSub, reduceIte]
    refine cK_cut (fun h => ?_) (fun h => ?_)
    · have h2 : (i : Int) < s.size := by simpa using h
      simp only [h2, EV, Nat.reduceEqDiff, Nat.reduceBEq, Nat.reduceLT, Nat.reduceLeDiff, Nat.reduceAdd, Nat.reduceSub, reduceIte]
      refine callK_i (d203 _) ?_
      simp only [EV, Nat.reduceEqDiff, Nat.reduceBEq, Nat.reduceLT, Nat.reduceLeDiff, Nat.reduceAdd, Nat.reduceSub, reduceIte]
      repeat' (first
    | (refine gK_cut (fun h => ?_) (fun h => ?_) <;> simp only [h, h2, EV, Nat.reduceEqDiff, Nat.reduceBEq, Nat.reduceLT, Nat.reduceLeDiff, Nat.reduceAdd, Nat.reduceSub, reduceIte])
    | (refine cK_cut (fun h => ?_) (fun h => ?_) <;> simp only [h, h2, EV, Nat.reduceEqDiff, Nat.reduceBEq, Nat.reduceLT, Nat.reduceLeDiff, Nat.reduceAdd, Nat.reduceSub, reduceIte])
    | (refine callK_i (d204 _) ?_ <;> simp only [h, h2, EV, Nat.reduceEqDiff, Nat.reduceBEq, Nat.reduceLT, Nat.reduceLeDiff, Nat.reduceAdd, Nat.reduceSub, reduceIte]))
      all_goals first
          | (have hc : chOk s i = false := by
               simp_all [chOk]
             simp only [nameOk_no (by omega) hc, EV, Nat.reduceEqDiff, Nat.reduceBEq, Nat.reduceLT, Nat.reduceLeDiff, Nat.reduceAdd, Nat.reduceSub, reduceIte, evRE, retVC, cellV', evR, nfz, nfzs, nfzss, List.contains_nil, List.contains_cons, Bool.or_false, or_true]
             done)
          | (have hc : chOk s i = true := by
               simp_all [chOk] <;> omega
             rw [w64 _ (by omega)]
             exact ⟨i + 1, ⟨by omega, chsOk_succ h1 hc⟩, by omega, rfl⟩)
    · have h2 : i = s.size := by have : ¬ (i : Int) < s.size := by simpa using h
                                 omega
      subst h2
      simp only [EV, Nat.reduceEqDiff, Nat.reduceBEq, Nat.reduceLT, Nat.reduceLeDiff, Nat.reduceAdd, Nat.reduceSub, reduceIte]
      refine callK_i (d78 _ _ _) ?_
      simp only [EV, Nat.reduceEqDiff, Nat.reduceBEq, Nat.reduceLT, Nat.reduceLeDiff, Nat.reduceAdd, Nat.reduceSub, reduceIte]
      simp only [nameOk_yes h1, EV, Nat.reduceEqDiff, Nat.reduceBEq, Nat.reduceLT, Nat.reduceLeDiff, Nat.reduceAdd, Nat.reduceSub, reduceIte, evRE, retVC, cellV', evR, nfz, nfzs, nfzss, List.contains_nil, List.contains_cons, Bool.or_false, or_true]
end Go.AM
namespace Go.AM
set_option linter.unusedVariables false
set_option linter.unusedSimpArgs false
theorem fill_set {α : Type} {g : α → List AV} {l : List α} {z : List AV} {i : Nat} (h : i < l.length) : ((l.take i).map g ++ List.replicate (l.length - i) z).set i (g l[i]) = (l.take (i + 1)).map g ++ List.replicate (l.length - (i + 1)) z := by
  obtain ⟨n, hn⟩ : ∃ n, l.length - i = n + 1 := ⟨l.length - i - 1, by omega⟩
  have e : l.length - (i + 1) = n := by omega
  have hl : (List.map g (List.take i l)).length = i := by simp; omega
  rw [hn, e, List.replicate_succ, List.set_append, if_neg (by omega), hl, Nat.sub_self, List.set_cons_zero, List.take_succ_eq_append_getElem h, List.map_append, List.append_assoc]
  rfl
theorem fill_nth {α : Type} {g : α → List AV} {l : List α} {z : List AV} {i : Nat} (h : i < l.length) : nth ((l.take i).map g ++ List.replicate (l.length - i) z) i = z := by
  obtain ⟨n, hn⟩ : ∃ n, l.length - i = n + 1 := ⟨l.length - i - 1, by omega⟩
  have hl : (List.map g (List.take i l)).length = i := by simp; omega
  unfold nth
  rw [List.getD_eq_getElem?_getD, hn, List.replicate_succ, List.getElem?_append_right (by omega), hl]
  simp
structure Fd where
  name : ByteArray
  mark : Int
  typ : Int
def Fd.z (s : Fd) : List AV := [.v (.string s.name), .v (.int .i64 s.mark), .v (.int .i64 s.typ)]
def Fd.o (s : Fd) : List AV := [.v (.string s.name), .v (.int .i64 s.mark), .v (.int .i64 s.typ)]
def Fd.zr : List AV := [.v (.string ⟨#[]⟩), .v (.int .i64 0), .v (.int .i64 0)]
theorem Fd.fr (s : Fd) : frzRow s.o = s.z := by
  simp only [Fd.o, Fd.z, frzRow, frzL, List.cons_append, List.nil_append]
theorem Fd.frz : ∀ l : List Fd, frzRows (l.map Fd.o) = l.map Fd.z
  | [] => rfl
  | s :: l => by simp only [List.map_cons, frzRows, Fd.fr, Fd.frz l]
theorem Fd.nf (s : Fd) : nfzs s.o = true := by
  simp only [Fd.o, nfzs, nfz, List.cons_append, List.nil_append, Bool.and_self]
theorem Fd.nfz : ∀ l : List Fd, nfzss (l.map Fd.o) = true
  | [] => rfl
  | s :: l => by simp only [List.map_cons, nfzss, Fd.nf, Fd.nfz l, Bool.and_self]
theorem FdE : (∀ f : Fd, f.z.length = 3) ∧ (∀ f : Fd, f.z.take 3 = f.z) ∧ (∀ (st : St) (f : Fd), frzBs st f.z = f.z) ∧ (∀ f : Fd, bares f.z = true) ∧ (∀ f : Fd, plains f.z = true) ∧
    (∀ (f : Fd) (K : Nat → List (Nat × Nat) → Bool), killVs K f.z = f.z) ∧ (∀ f : Fd, f.z.all storL = true) ∧ (∀ f : Fd, f.o.length = 3) ∧ (∀ f : Fd, f.o.take 3 = f.o) ∧ (∀ f : Fd, bares f.o = true) ∧
    (∀ f : Fd, plains f.o = true) ∧ (∀ (f : Fd) (K : Nat → List (Nat × Nat) → Bool), killVs K f.o = f.o) ∧ (∀ f : Fd, f.o.all storL = true) :=
  ⟨fun _ => rfl, fun _ => rfl, fun _ _ => rfl, fun _ => rfl, fun _ => rfl, fun _ _ => rfl, fun _ => rfl, fun _ => rfl, fun _ => rfl, fun _ => rfl, fun _ => rfl, fun _ _ => rfl, fun _ => rfl⟩
def Fd.ok (s : Fd) : Prop := (s.name.size : Int) ≤ 9223372036854775807 ∧ (-9223372036854775808 ≤ s.mark ∧ s.mark ≤ 9223372036854775807) ∧ (-9223372036854775808 ≤ s.typ ∧ s.typ ≤ 9223372036854775807)
def Fd.sm (s : Fd) : Prop := (s.name.size : Int) ≤ 1048576 ∧ True ∧ True
def szFd (s : Fd) (k : Int) : Int := if k - s.name.size < 0 then -1 else k - s.name.size
def totFd (s : Fd) : Int := (s.name.size : Int)
theorem szFd_le (s : Fd) (k : Int) (h : 0 ≤ k) : szFd s k ≤ k := by
  unfold szFd
  by_cases g0 : k - s.name.size < 0
  · rw [if_pos g0]; omega
  rw [if_neg g0]
  omega
theorem szFd_tot (s : Fd) (k : Int) (h : 0 ≤ szFd s k) : totFd s + szFd s k = k := by
  unfold szFd at h ⊢
  unfold totFd
  by_cases g0 : k - s.name.size < 0
  · rw [if_pos g0] at h; omega
  rw [if_neg g0] at h ⊢
  omega
theorem totFd_nn (s : Fd) : 0 ≤ totFd s := by
  unfold totFd
  omega
theorem Fd.sm_of (s : Fd) (h : totFd s ≤ 1048576) : s.sm := by
  unfold totFd at h
  exact ⟨by omega, trivial, trivial⟩
def m238 : MC :=
 (.seq (.reg [Xb 2 (.box 244 (.t 0)), Xb 4 (.asg (.i 0))]) (.seq (.reg [Xm 5 1, Xf 6 0 2, Xl 7 1 6, Xq 8 (.len true (.t 7)), Xq 9 (.bin false .sub (.t 5) (.t 8)), Xa 1 9]) (.seq (.seq (.reg [Xm 10 1, Xq 11 (.bin false .lss (.t 10) (.i 0))]) (.cond (.t 11) (.seq (.reg [Xb 4 (.asg (.i (-1)))]) .ret) .skip)) (.seq (.reg [Xm 12 1, Xa 4 12]) .ret))))
set_option maxRecDepth 100000 in
theorem d238 (s : Fd) (k : Int) (h0 : 0 ≤ k) (h1 : k ≤ 1048576) (hok : s.ok) : Does Go.Proofs.Tryz.prog 238 [.agg s.z, .v (.int .i64 k)] false (.v (.int .i64 (szFd s k))) [.dead, .dead] := by
  unfold Fd.ok at hok
  refine does_intro (mc := m238) (N := 13) (rs := [4]) (fx := []) 2 rfl (by decide +kernel) ?_
  simp only [m238, Fd.z, EV, Nat.reduceEqDiff, Nat.reduceBEq, Nat.reduceLT, Nat.reduceLeDiff, Nat.reduceAdd, Nat.reduceSub, reduceIte]
  have b0 := hok.1
  have w0 := w64 (k - s.name.size) (by omega)
  simp only [w0, EV, Nat.reduceEqDiff, Nat.reduceBEq, Nat.reduceLT, Nat.reduceLeDiff, Nat.reduceAdd, Nat.reduceSub, reduceIte]
  refine cK_cut (fun h => ?_) (fun h => ?_)
  · have g0 : k - s.name.size < 0 := by simpa using h
    have e : szFd s k = -1 := by unfold szFd; rw [if_pos g0]
    simp only [EV, Nat.reduceEqDiff, Nat.reduceBEq, Nat.reduceLT, Nat.reduceLeDiff, Nat.reduceAdd, Nat.reduceSub, reduceIte]
    simp only [e, EV, Nat.reduceEqDiff, Nat.reduceBEq, Nat.reduceLT, Nat.reduceLeDiff, Nat.reduceAdd, Nat.reduceSub, reduceIte, evRE, retVC, cellV', evR, nfz, nfzs, nfzss, List.contains_nil, List.contains_cons, Bool.or_false, or_true]
  · have g0 : ¬ k - s.name.size < 0 := by simpa using h
    simp only [EV, Nat.reduceEqDiff, Nat.reduceBEq, Nat.reduceLT, Nat.reduceLeDiff, Nat.reduceAdd, Nat.reduceSub, reduceIte]
    have e : szFd s k = k - s.name.size := by unfold szFd; rw [if_neg g0]
    simp only [e, EV, Nat.reduceEqDiff, Nat.reduceBEq, Nat.reduceLT, Nat.reduceLeDiff, Nat.reduceAdd, Nat.reduceSub, reduceIte, evRE, retVC, cellV', evR, nfz, nfzs, nfzss, List.contains_nil, List.contains_cons, Bool.or_false, or_true]
def szFds : List Fd → Int → Int
  | [], k => k
  | s :: r, k => if szFd s k < 0 then -1 else szFds r (szFd s k)
def szFdS (l : List Fd) (k : Int) : Int := if k - l.length < 0 then -1 else szFds l (k - l.length)
theorem szFds_le : ∀ (l : List Fd) (k : Int), 0 ≤ k → szFds l k ≤ k
  | [], k, h => by simp [szFds]
  | s :: r, k, h => by
    simp only [szFds]
    have h1 := szFd_le s k h
    split
    · omega
    · have := szFds_le r (szFd s k) (by omega)
      omega
theorem szFdS_le (l : List Fd) (k : Int) (h : 0 ≤ k) : szFdS l k ≤ k := by
  unfold szFdS
  split
  · omega
  · have := szFds_le l (k - l.length) (by omega); omega
def totFds : List Fd → Int
  | [] => 0
  | s :: r => 1 + totFd s + totFds r
theorem szFds_tot : ∀ (l : List Fd) (k : Int), 0 ≤ szFds l k → totFds l + szFds l k = k + l.length
  | [], k, h => by simp [szFds, totFds]
  | s :: r, k, h => by
    simp only [szFds] at h ⊢
    split
    · rename_i h1; rw [if_pos h1] at h; omega
    · rename_i h1
      rw [if_neg h1] at h
      have h2 := szFd_tot s k (by omega)
      have h3 := szFds_tot r _ h
      simp only [totFds, List.length_cons]
      omega
theorem szFdS_tot (l : List Fd) (k : Int) (h : 0 ≤ szFdS l k) : totFds l + szFdS l k = k := by
  unfold szFdS at h ⊢
  split
  · rename_i h1; rw [if_pos h1] at h; omega
  · rename_i h1
    rw [if_neg h1] at h
    have := szFds_tot l _ h
    omega
theorem totFds_nn : ∀ l : List Fd, (l.length : Int) ≤ totFds l
  | [] => by simp [totFds]
  | s :: r => by
    have := totFds_nn r
    have := totFd_nn s
    simp only [totFds, List.length_cons]
    omega
theorem totFds_mem : ∀ (l : List Fd) (s : Fd), s ∈ l → totFd s ≤ totFds l
  | x :: r, s, h => by
    simp only [totFds]
    have h3 := totFd_nn x
    have h2 := totFds_nn r
    rcases List.mem_cons.1 h with h | h
    · subst h; omega
    · have := totFds_mem r s h; omega
def m211 : MC :=
 (.seq (.reg [Xb 4 (.asg (.i 0))]) (.seq (.reg [Xm 6 1, Xm 7 0, Xn 8 7, Xq 9 (.bin false .sub (.t 6) (.t 8)), Xa 1 9]) (.seq (.seq (.reg [Xm 10 1, Xq 11 (.bin false .lss (.t 10) (.i 0))]) (.cond (.t 11) (.seq (.reg [Xb 4 (.asg (.i (-1)))]) .ret) .skip)) (.seq (.seq (.reg [Xb 5 (.asg (.i 0))]) (.block 0 (.loop [0, 1, 5] (.seq (.seq (.reg [Xm 12 5, Xm 13 0, Xn 14 13, Xq 15 (.bin false .lss (.t 12)
 (.t 14))]) (.cond (.t 15) .skip (.exit 0))) (.seq (.block 1 (.seq (.reg [Xm 18 0, Xm 19 5, Xi 20 3 18 19, XL 21 3 20, Xm 22 1, Xb 23 (.call (.fn 238) false [.lend (.t 21), .lend (.t 22)]), Xa 1 23]) (.seq (.reg [Xm 24 1, Xq 25 (.bin false .lss (.t 24) (.i 0))]) (.cond (.t 25) (.seq (.reg [Xb 4 (.asg (.i (-1)))]) .ret) .skip)))) (.reg [Xm 16 5, Xq 17 (.bin false .add (.t 16) (.i 1)), Xa 5 17]))))))
 (.seq (.reg [Xm 26 1, Xa 4 26]) .ret)))))
theorem d211 (l : List Fd) (k : Int) (h0 : 0 ≤ k) (h1 : k ≤ 1048576) (hl : (l.length : Int) ≤ 9223372036854775807) (hs : ∀ s ∈ l, s.ok) :
    Does Go.Proofs.Tryz.prog 211 [.fsl 3 (l.map Fd.z), .v (.int .i64 k)] false (.v (.int .i64 (szFdS l k))) [.dead, .dead] := by
  refine does_intro (mc := m211) (N := 27) (rs := [4]) (fx := []) 2 rfl (by decide +kernel) ?_
  simp only [m211, EV, Nat.reduceEqDiff, Nat.reduceBEq, Nat.reduceLT, Nat.reduceLeDiff, Nat.reduceAdd, Nat.reduceSub, reduceIte]
  have w1 := w64 (k - l.length) (by omega)
  simp only [w1]
  refine cK_cut (fun h => ?_) (fun h => ?_)
  · have h2 : k - l.length < 0 := by simpa using h
    have e : szFdS l k = -1 := by simp [szFdS, h2]
    simp only [EV, Nat.reduceEqDiff, Nat.reduceBEq, Nat.reduceLT, Nat.reduceLeDiff, Nat.reduceAdd, Nat.reduceSub, reduceIte]
    simp only [e, EV, Nat.reduceEqDiff, Nat.reduceBEq, Nat.reduceLT, Nat.reduceLeDiff, Nat.reduceAdd, Nat.reduceSub, reduceIte, evRE, retVC, cellV', evR, nfz, nfzs, nfzss, List.contains_nil, List.contains_cons, Bool.or_false, or_true]
  · have h2 : ¬ k - l.length < 0 := by simpa using h
    have e : szFdS l k = szFds l (k - l.length) := by simp [szFdS, h2]
    simp only [EV, Nat.reduceEqDiff, Nat.reduceBEq, Nat.reduceLT, Nat.reduceLeDiff, Nat.reduceAdd, Nat.reduceSub, reduceIte]
    refine awp_loop (fun p : Nat × Int => p.1 ≤ l.length ∧ 0 ≤ p.2 ∧ p.2 ≤ 1048576 ∧ szFds (l.drop p.1) p.2 = szFdS l k)
      (fun p => stl [(0, .fsl 3 (l.map Fd.z)), (1, .v (.int .i64 p.2)), (5, .v (.int .i64 (p.1 : Int)))]) (fun p => l.length - p.1) (0, k - l.length) ⟨by simp, by simp only; omega, by simp only; omega, by simp [e]⟩ ?_ ?_
    · simp only [EV, Nat.reduceEqDiff, Nat.reduceBEq, Nat.reduceLT, Nat.reduceLeDiff, Nat.reduceAdd, Nat.reduceSub, reduceIte]
      rfl
    · rintro ⟨i, n⟩ ⟨p0, p1, p2, p3⟩
      simp only at p0 p1 p2 p3
      simp only [EV, Nat.reduceEqDiff, Nat.reduceBEq, Nat.reduceLT, Nat.reduceLeDiff, Nat.reduceAdd, Nat.reduceSub, reduceIte]
      refine cK_cut (fun h => ?_) (fun h => ?_)
      · have h3 : i < l.length := by simpa using h
        have h4 : (i : Int) < (l.length : Int) := by omega
        rw [List.drop_eq_getElem_cons h3] at p3
        simp only [szFds] at p3
        have hle := szFd_le l[i] n p1
        simp only [FdE, nth_map h3, h4, EV, Nat.reduceEqDiff, Nat.reduceBEq, Nat.reduceLT, Nat.reduceLeDiff, Nat.reduceAdd, Nat.reduceSub, reduceIte]
        refine callK_i (d238 l[i] n p1 p2 (hs l[i] (List.getElem_mem h3))) ?_
        simp only [FdE, nth_map h3, h4, EV, Nat.reduceEqDiff, Nat.reduceBEq, Nat.reduceLT, Nat.reduceLeDiff, Nat.reduceAdd, Nat.reduceSub, reduceIte]
        refine cK_cut (fun h => ?_) (fun h => ?_)
        · have h5 : szFd l[i] n < 0 := by simpa using h
          rw [if_pos h5] at p3
          simp only [EV, Nat.reduceEqDiff, Nat.reduceBEq, Nat.reduceLT, Nat.reduceLeDiff, Nat.reduceAdd, Nat.reduceSub, reduceIte]
          simp only [← p3, EV, Nat.reduceEqDiff, Nat.reduceBEq, Nat.reduceLT, Nat.reduceLeDiff, Nat.reduceAdd, Nat.reduceSub, reduceIte, evRE, retVC, cellV', evR, nfz, nfzs, nfzss, List.contains_nil, List.contains_cons, Bool.or_false, or_true]
        · have h5 : ¬ szFd l[i] n < 0 := by simpa using h
          rw [if_neg h5] at p3
          have w2 := w64 ((i : Int) + 1) (by omega)
          simp only [w2, EV, Nat.reduceEqDiff, Nat.reduceBEq, Nat.reduceLT, Nat.reduceLeDiff, Nat.reduceAdd, Nat.reduceSub, reduceIte]
          exact ⟨(i + 1, szFd l[i] n), ⟨by simp only; omega, by simp only; omega, by simp only; omega, p3⟩, by simp only; omega, rfl⟩
      · have h3 : i = l.length := by have : ¬ (i : Int) < l.length := by simpa using h
                                     omega
        subst h3
        rw [List.drop_length] at p3
        simp only [szFds] at p3
        simp only [EV, Nat.reduceEqDiff, Nat.reduceBEq, Nat.reduceLT, Nat.reduceLeDiff, Nat.reduceAdd, Nat.reduceSub, reduceIte]
        simp only [← p3, EV, Nat.reduceEqDiff, Nat.reduceBEq, Nat.reduceLT, Nat.reduceLeDiff, Nat.reduceAdd, Nat.reduceSub, reduceIte, evRE, retVC, cellV', evR, nfz, nfzs, nfzss, List.contains_nil, List.contains_cons, Bool.or_false, or_true]
def m240 : MC :=
 (.seq (.reg [Xb 1 (.box 244 (.t 0)), Xb 2 (.alloc 97 [.z, .i, .i])]) (.seq (.reg [Xb 3 (.alloc 97 [.z, .i, .i])]) (.seq (.reg [Xf 4 0 1, Xl 5 1 4, Xf 6 0 3, Xz (.store 1 (.t 6) (.t 5))]) (.seq (.reg [Xf 7 1 1, Xl 8 1 7, Xf 9 1 3, Xz (.store 1 (.t 9) (.t 8))]) (.seq (.reg [Xf 10 2 1, Xl 11 1 10, Xf 12 2 3, Xz (.store 1 (.t 12) (.t 11))]) (.seq (.reg [XL 13 3 3, Xz (.store 3 (.t 2) (.t 13))])
 .ret))))))
set_option maxRecDepth 100000 in
theorem d240 (s : Fd) (hs : s.sm) : Does Go.Proofs.Tryz.prog 240 [.agg s.z] false (.agg s.o) [.dead] := by
  unfold Fd.sm at hs
  refine does_introC (mc := m240) (N := 14) (r := 2) (ty := 97) (agg := true) (sz := 3) (fx := []) 1 rfl (by decide +kernel) ?_
  simp only [m240, Fd.z, Fd.o, EV, Nat.reduceEqDiff, Nat.reduceBEq, Nat.reduceLT, Nat.reduceLeDiff, Nat.reduceAdd, Nat.reduceSub, reduceIte]
  simp only [EV, Nat.reduceEqDiff, Nat.reduceBEq, Nat.reduceLT, Nat.reduceLeDiff, Nat.reduceAdd, Nat.reduceSub, reduceIte, evRE, retVC, cellV', evR, nfz, nfzs, nfzss, List.contains_nil, List.contains_cons, Bool.or_false, or_true]
def m213 : MC :=
 (.seq (.reg [Xb 2 (.asg (.nils 97 3))]) (.seq (.reg [Xm 5 0, Xn 6 5, Xb 7 (.mks 97 3 32 [.z, .i, .i] (.t 6) (.t 6)), Xa 3 7]) (.seq (.seq (.reg [Xb 4 (.asg (.i 0))]) (.block 0 (.loop [0, 3, 4, 7] (.seq (.seq (.reg [Xm 8 4, Xm 9 0, Xn 10 9, Xq 11 (.bin false .lss (.t 8) (.t 10))]) (.cond (.t 11) .skip (.exit 0))) (.seq (.block 1 (.reg [Xm 14 3, Xm 15 4, Xm 16 0, Xm 17 4, Xi 18 3 16 17, XL 19 3 18,
 Xb 20 (.call (.fn 240) false [.lend (.t 19)]), Xi 21 3 14 15, Xz (.store 3 (.t 21) (.t 20))])) (.reg [Xm 12 4, Xq 13 (.bin false .add (.t 12) (.i 1)), Xa 4 13])))))) (.seq (.reg [Xm 22 3, Xa 2 22]) .ret))))
theorem d213 (l : List Fd) (hl : (l.length : Int) ≤ 1048576) (hs : ∀ s ∈ l, s.sm) : Does Go.Proofs.Tryz.prog 213 [.fsl 3 (l.map Fd.z)] false (.usl 97 3 (l.map Fd.o)) [.dead] := by
  refine does_intro (mc := m213) (N := 23) (rs := [2]) (fx := []) 1 rfl (by decide +kernel) ?_
  simp only [m213, EV, Nat.reduceEqDiff, Nat.reduceBEq, Nat.reduceLT, Nat.reduceLeDiff, Nat.reduceAdd, Nat.reduceSub, reduceIte]
  refine ⟨by omega, by omega, ?_⟩
  refine awp_loop (fun i : Nat => i ≤ l.length) (fun i => stl [(0, .fsl 3 (l.map Fd.z)), (3, .usl 97 3 ((l.take i).map Fd.o ++ List.replicate (l.length - i) Fd.zr)), (4, .v (.int .i64 (i : Int))), (7, .dead)]) (fun i => l.length - i) 0 (Nat.zero_le _) ?_ ?_
  · simp only [EV, Nat.reduceEqDiff, Nat.reduceBEq, Nat.reduceLT, Nat.reduceLeDiff, Nat.reduceAdd, Nat.reduceSub, reduceIte]
    rfl
  · intro i hi
    simp only [EV, Nat.reduceEqDiff, Nat.reduceBEq, Nat.reduceLT, Nat.reduceLeDiff, Nat.reduceAdd, Nat.reduceSub, reduceIte]
    refine cK_cut (fun h => ?_) (fun h => ?_)
    · have h1 : i < l.length := by simpa using h
      have h2 : (i : Int) < (l.length : Int) := by omega
      have h3 : ((l.take i).map Fd.o ++ List.replicate (l.length - i) Fd.zr).length = l.length := by simp; omega
      simp only [FdE, nth_map h1, h2, EV, Nat.reduceEqDiff, Nat.reduceBEq, Nat.reduceLT, Nat.reduceLeDiff, Nat.reduceAdd, Nat.reduceSub, reduceIte]
      refine callK_i (d240 l[i] (hs l[i] (List.getElem_mem h1))) ?_
      simp only [FdE, h2, h3, EV, Nat.reduceEqDiff, Nat.reduceBEq, Nat.reduceLT, Nat.reduceLeDiff, Nat.reduceAdd, Nat.reduceSub, reduceIte]
      refine ⟨h1, i + 1, by omega, by omega, ?_⟩
      have ez : l[i].o ++ List.drop 3 Fd.zr = l[i].o := List.append_nil _
      rw [fill_nth h1, w64 _ (by omega), ez, fill_set h1]
      rfl
    · have h1 : i = l.length := by have : ¬ (i : Int) < l.length := by simpa using h
                                   omega
      subst h1
      simp only [EV, Nat.reduceEqDiff, Nat.reduceBEq, Nat.reduceLT, Nat.reduceLeDiff, Nat.reduceAdd, Nat.reduceSub, reduceIte]
      simp only [Nat.sub_self, List.replicate_zero, Fd.nfz, EV, Nat.reduceEqDiff, Nat.reduceBEq, Nat.reduceLT, Nat.reduceLeDiff, Nat.reduceAdd, Nat.reduceSub, reduceIte, evRE, retVC, cellV', evR, nfz, nfzs, nfzss, List.contains_nil, List.contains_cons, Bool.or_false, or_true]
def m242 : MC :=
 (.seq (.reg [Xb 2 (.box 97 (.t 0)), Xb 3 (.box 97 (.t 1)), Xb 4 (.asg .fb)]) (.seq (.seq (.reg [Xf 5 0 2, Xl 6 1 5, Xf 7 0 3, Xl 8 1 7, Xq 9 (.bin false .neq (.t 6) (.t 8))]) (.cond (.t 9) (.seq (.reg [Xb 4 (.asg .fb)]) .ret) .skip)) (.seq (.seq (.reg [Xf 10 1 2, Xl 11 1 10, Xf 12 1 3, Xl 13 1 12, Xq 14 (.bin false .neq (.t 11) (.t 13))]) (.cond (.t 14) (.seq (.reg [Xb 4 (.asg .fb)]) .ret) .skip))
 (.seq (.seq (.reg [Xf 15 2 2, Xl 16 1 15, Xf 17 2 3, Xl 18 1 17, Xq 19 (.bin false .neq (.t 16) (.t 18))]) (.cond (.t 19) (.seq (.reg [Xb 4 (.asg .fb)]) .ret) .skip)) (.seq (.reg [Xb 4 (.asg .tb)]) .ret)))))
set_option maxRecDepth 100000 in
theorem d242 (s : Fd) (hs : s.sm) : Does Go.Proofs.Tryz.prog 242 [.agg s.z, .agg s.z] false (.v (.bool true)) [.dead, .dead] := by
  unfold Fd.sm at hs
  refine does_intro (mc := m242) (N := 20) (rs := [4]) (fx := []) 2 rfl (by decide +kernel) ?_
  simp only [m242, Fd.z, EV, Nat.reduceEqDiff, Nat.reduceBEq, Nat.reduceLT, Nat.reduceLeDiff, Nat.reduceAdd, Nat.reduceSub, reduceIte]
  simp only [EV, Nat.reduceEqDiff, Nat.reduceBEq, Nat.reduceLT, Nat.reduceLeDiff, Nat.reduceAdd, Nat.reduceSub, reduceIte, evRE, retVC, cellV', evR, nfz, nfzs, nfzss, List.contains_nil, List.contains_cons, Bool.or_false, or_true]
def m215 : MC :=
 (.seq (.reg [Xb 4 (.asg .fb)]) (.seq (.seq (.reg [Xm 6 0, Xn 7 6, Xm 8 1, Xn 9 8, Xq 10 (.bin false .neq (.t 7) (.t 9))]) (.cond (.t 10) (.seq (.reg [Xb 4 (.asg .fb)]) .ret) .skip)) (.seq (.seq (.reg [Xb 5 (.asg (.i 0))]) (.block 0 (.loop [0, 1, 5] (.seq (.seq (.reg [Xm 11 5, Xm 12 0, Xn 13 12, Xq 14 (.bin false .lss (.t 11) (.t 13))]) (.cond (.t 14) .skip (.exit 0))) (.seq (.block 1 (.seq (.dreg
 [Xm 17 0, Xm 18 5, Xi 19 3 17 18, XL 20 3 19, Xm 21 1, Xm 22 5, Xi 23 3 21 22, XL 24 3 23, Xb 25 (.call (.fn 242) false [.lend (.t 20), .lend (.t 24)]), Xq 26 (.un .not (.t 25))]) (.cond (.t 26) (.seq (.reg [Xb 4 (.asg .fb)]) .ret) .skip))) (.reg [Xm 15 5, Xq 16 (.bin false .add (.t 15) (.i 1)), Xa 5 16])))))) (.seq (.reg [Xb 4 (.asg .tb)]) .ret))))
theorem d215 (l : List Fd) (hl : (l.length : Int) ≤ 1048576) (hs : ∀ s ∈ l, s.sm) : Does Go.Proofs.Tryz.prog 215 [.fsl 3 (l.map Fd.z), .fsl 3 (l.map Fd.z)] false (.v (.bool true)) [.dead, .dead] := by
  refine does_intro (mc := m215) (N := 27) (rs := [4]) (fx := []) 2 rfl (by decide +kernel) ?_
  simp only [m215, EV, Nat.reduceEqDiff, Nat.reduceBEq, Nat.reduceLT, Nat.reduceLeDiff, Nat.reduceAdd, Nat.reduceSub, reduceIte]
  refine awp_loop (fun i : Nat => i ≤ l.length) (fun i => stl [(0, .fsl 3 (l.map Fd.z)), (1, .fsl 3 (l.map Fd.z)), (5, .v (.int .i64 (i : Int)))]) (fun i => l.length - i) 0 (Nat.zero_le _) ?_ ?_
  · simp only [EV, Nat.reduceEqDiff, Nat.reduceBEq, Nat.reduceLT, Nat.reduceLeDiff, Nat.reduceAdd, Nat.reduceSub, reduceIte]
    rfl
  · intro i hi
    simp only [EV, Nat.reduceEqDiff, Nat.reduceBEq, Nat.reduceLT, Nat.reduceLeDiff, Nat.reduceAdd, Nat.reduceSub, reduceIte]
    refine cK_cut (fun h => ?_) (fun h => ?_)
    · have h1 : i < l.length := by simpa using h
      have h2 : (i : Int) < (l.length : Int) := by omega
      simp only [FdE, nth_map h1, h2, EV, Nat.reduceEqDiff, Nat.reduceBEq, Nat.reduceLT, Nat.reduceLeDiff, Nat.reduceAdd, Nat.reduceSub, reduceIte]
      refine callD_i (d242 l[i] (hs l[i] (List.getElem_mem h1))) rfl ?_
      simp only [EV, Nat.reduceEqDiff, Nat.reduceBEq, Nat.reduceLT, Nat.reduceLeDiff, Nat.reduceAdd, Nat.reduceSub, reduceIte]
      refine ⟨i + 1, by omega, by omega, ?_⟩
      rw [w64 _ (by omega)]
      rfl
    · have h1 : i = l.length := by have : ¬ (i : Int) < l.length := by simpa using h
                                   omega
      simp only [EV, Nat.reduceEqDiff, Nat.reduceBEq, Nat.reduceLT, Nat.reduceLeDiff, Nat.reduceAdd, Nat.reduceSub, reduceIte]
      simp only [EV, Nat.reduceEqDiff, Nat.reduceBEq, Nat.reduceLT, Nat.reduceLeDiff, Nat.reduceAdd, Nat.reduceSub, reduceIte, evRE, retVC, cellV', evR, nfz, nfzs, nfzss, List.contains_nil, List.contains_cons, Bool.or_false, or_true]
end Go.AM
namespace Go.AM
set_option linter.unusedVariables false
set_option linter.unusedSimpArgs false
structure Ty where
  kind : Int
  long : Int
  base : Int
  fields : List Fd
  owner : ByteArray
  name : ByteArray
def Ty.z (s : Ty) : List AV := [.v (.int .i64 s.kind), .v (.int .i64 s.long), .v (.int .i64 s.base), .fsl 3 (s.fields.map Fd.z), .v (.string s.owner), .v (.string s.name)]
def Ty.o (s : Ty) : List AV := [.v (.int .i64 s.kind), .v (.int .i64 s.long), .v (.int .i64 s.base), .usl 97 3 (s.fields.map Fd.o), .v (.string s.owner), .v (.string s.name)]
def Ty.zr : List AV := [.v (.int .i64 0), .v (.int .i64 0), .v (.int .i64 0), .usl 97 3 [], .v (.string ⟨#[]⟩), .v (.string ⟨#[]⟩)]
theorem Ty.fr (s : Ty) : frzRow s.o = s.z := by
  simp only [Ty.o, Ty.z, frzRow, frzL, List.cons_append, List.nil_append, Fd.frz]
theorem Ty.frz : ∀ l : List Ty, frzRows (l.map Ty.o) = l.map Ty.z
  | [] => rfl
  | s :: l => by simp only [List.map_cons, frzRows, Ty.fr, Ty.frz l]
theorem Ty.nf (s : Ty) : nfzs s.o = true := by
  simp only [Ty.o, nfzs, nfz, List.cons_append, List.nil_append, Bool.and_self, Fd.nfz]
theorem Ty.nfz : ∀ l : List Ty, nfzss (l.map Ty.o) = true
  | [] => rfl
  | s :: l => by simp only [List.map_cons, nfzss, Ty.nf, Ty.nfz l, Bool.and_self]
theorem TyE : (∀ f : Ty, f.z.length = 6) ∧ (∀ f : Ty, f.z.take 6 = f.z) ∧ (∀ (st : St) (f : Ty), frzBs st f.z = f.z) ∧ (∀ f : Ty, bares f.z = true) ∧ (∀ f : Ty, plains f.z = true) ∧
    (∀ (f : Ty) (K : Nat → List (Nat × Nat) → Bool), killVs K f.z = f.z) ∧ (∀ f : Ty, f.z.all storL = true) ∧ (∀ f : Ty, f.o.length = 6) ∧ (∀ f : Ty, f.o.take 6 = f.o) ∧ (∀ f : Ty, bares f.o = false) ∧
    (∀ f : Ty, plains f.o = false) ∧ (∀ (f : Ty) (K : Nat → List (Nat × Nat) → Bool), killVs K f.o = f.o) ∧ (∀ f : Ty, f.o.all storL = true) :=
  ⟨fun _ => rfl, fun _ => rfl, fun _ _ => rfl, fun _ => rfl, fun _ => rfl, fun _ _ => rfl, fun _ => rfl, fun _ => rfl, fun _ => rfl, fun _ => rfl, fun _ => rfl, fun _ _ => rfl, fun _ => rfl⟩
def Ty.ok (s : Ty) : Prop := (-9223372036854775808 ≤ s.kind ∧ s.kind ≤ 9223372036854775807) ∧ (-9223372036854775808 ≤ s.long ∧ s.long ≤ 9223372036854775807) ∧ (-9223372036854775808 ≤ s.base ∧ s.base ≤ 9223372036854775807) ∧ ((s.fields.length : Int) ≤ 9223372036854775807 ∧ ∀ y ∈ s.fields, y.ok) ∧ (s.owner.size : Int) ≤ 9223372036854775807 ∧ (s.name.size : Int) ≤ 9223372036854775807
def Ty.sm (s : Ty) : Prop := True ∧ True ∧ True ∧ ((s.fields.length : Int) ≤ 1048576 ∧ ∀ y ∈ s.fields, y.sm) ∧ (s.owner.size : Int) ≤ 1048576 ∧ (s.name.size : Int) ≤ 1048576
def szTy (s : Ty) (k : Int) : Int := if szFdS s.fields (k) < 0 then -1 else if szFdS s.fields (k) - s.owner.size < 0 then -1 else if szFdS s.fields (k) - s.owner.size - s.name.size < 0 then -1 else szFdS s.fields (k) - s.owner.size - s.name.size
def totTy (s : Ty) : Int := totFds s.fields + (s.owner.size : Int) + (s.name.size : Int)
theorem szTy_le (s : Ty) (k : Int) (h : 0 ≤ k) : szTy s k ≤ k := by
  unfold szTy
  have l0 := szFdS_le s.fields (k) (by omega)
  by_cases g0 : szFdS s.fields (k) < 0
  · rw [if_pos g0]; omega
  rw [if_neg g0]
  by_cases g1 : szFdS s.fields (k) - s.owner.size < 0
  · rw [if_pos g1]; omega
  rw [if_neg g1]
  by_cases g2 : szFdS s.fields (k) - s.owner.size - s.name.size < 0
  · rw [if_pos g2]; omega
  rw [if_neg g2]
  omega
theorem szTy_tot (s : Ty) (k : Int) (h : 0 ≤ szTy s k) : totTy s + szTy s k = k := by
  unfold szTy at h ⊢
  unfold totTy
  by_cases g0 : szFdS s.fields (k) < 0
  · rw [if_pos g0] at h; omega
  rw [if_neg g0] at h ⊢
  have t0 := szFdS_tot s.fields (k) (by omega)
  by_cases g1 : szFdS s.fields (k) - s.owner.size < 0
  · rw [if_pos g1] at h; omega
  rw [if_neg g1] at h ⊢
  by_cases g2 : szFdS s.fields (k) - s.owner.size - s.name.size < 0
  · rw [if_pos g2] at h; omega
  rw [if_neg g2] at h ⊢
  omega
theorem totTy_nn (s : Ty) : 0 ≤ totTy s := by
  unfold totTy
  have n3 := totFds_nn s.fields
  omega
theorem Ty.sm_of (s : Ty) (h : totTy s ≤ 1048576) : s.sm := by
  unfold totTy at h
  have n3 := totFds_nn s.fields
  exact ⟨trivial, trivial, trivial, ⟨by omega, fun y hy => Fd.sm_of y (by have := totFds_mem s.fields y hy; omega)⟩, by omega, by omega⟩
def m152 : MC :=
 (.seq (.reg [Xb 2 (.box 167 (.t 0)), Xb 4 (.asg (.i 0))]) (.seq (.reg [Xf 5 3 2, Xl 6 1 5, Xm 7 1, Xb 8 (.call (.fn 211) false [.lend (.t 6), .lend (.t 7)]), Xa 1 8]) (.seq (.seq (.reg [Xm 9 1, Xq 10 (.bin false .lss (.t 9) (.i 0))]) (.cond (.t 10) (.seq (.reg [Xb 4 (.asg (.i (-1)))]) .ret) .skip)) (.seq (.reg [Xm 11 1, Xf 12 4 2, Xl 13 1 12, Xq 14 (.len true (.t 13)), Xq 15 (.bin false .sub (.t
 11) (.t 14)), Xa 1 15]) (.seq (.seq (.reg [Xm 16 1, Xq 17 (.bin false .lss (.t 16) (.i 0))]) (.cond (.t 17) (.seq (.reg [Xb 4 (.asg (.i (-1)))]) .ret) .skip)) (.seq (.reg [Xm 18 1, Xf 19 5 2, Xl 20 1 19, Xq 21 (.len true (.t 20)), Xq 22 (.bin false .sub (.t 18) (.t 21)), Xa 1 22]) (.seq (.seq (.reg [Xm 23 1, Xq 24 (.bin false .lss (.t 23) (.i 0))]) (.cond (.t 24) (.seq (.reg [Xb 4 (.asg (.i
 (-1)))]) .ret) .skip)) (.seq (.reg [Xm 25 1, Xa 4 25]) .ret))))))))
set_option maxRecDepth 100000 in
theorem d152 (s : Ty) (k : Int) (h0 : 0 ≤ k) (h1 : k ≤ 1048576) (hok : s.ok) : Does Go.Proofs.Tryz.prog 152 [.agg s.z, .v (.int .i64 k)] false (.v (.int .i64 (szTy s k))) [.dead, .dead] := by
  unfold Ty.ok at hok
  refine does_intro (mc := m152) (N := 26) (rs := [4]) (fx := []) 2 rfl (by decide +kernel) ?_
  simp only [m152, Ty.z, EV, Nat.reduceEqDiff, Nat.reduceBEq, Nat.reduceLT, Nat.reduceLeDiff, Nat.reduceAdd, Nat.reduceSub, reduceIte]
  have l0 := szFdS_le s.fields (k) (by omega)
  refine callK_i (d211 s.fields (k) (by omega) (by omega) (hok.2.2.2.1).1 (hok.2.2.2.1).2) ?_
  simp only [EV, Nat.reduceEqDiff, Nat.reduceBEq, Nat.reduceLT, Nat.reduceLeDiff, Nat.reduceAdd, Nat.reduceSub, reduceIte]
  refine cK_cut (fun h => ?_) (fun h => ?_)
  · have g0 : szFdS s.fields (k) < 0 := by simpa using h
    have e : szTy s k = -1 := by unfold szTy; rw [if_pos g0]
    simp only [EV, Nat.reduceEqDiff, Nat.reduceBEq, Nat.reduceLT, Nat.reduceLeDiff, Nat.reduceAdd, Nat.reduceSub, reduceIte]
    simp only [e, EV, Nat.reduceEqDiff, Nat.reduceBEq, Nat.reduceLT, Nat.reduceLeDiff, Nat.reduceAdd, Nat.reduceSub, reduceIte, evRE, retVC, cellV', evR, nfz, nfzs, nfzss, List.contains_nil, List.contains_cons, Bool.or_false, or_true]
  · have g0 : ¬ szFdS s.fields (k) < 0 := by simpa using h
    simp only [EV, Nat.reduceEqDiff, Nat.reduceBEq, Nat.reduceLT, Nat.reduceLeDiff, Nat.reduceAdd, Nat.reduceSub, reduceIte]
    have b1 := hok.2.2.2.2.1
    have w1 := w64 (szFdS s.fields (k) - s.owner.size) (by omega)
    simp only [w1, EV, Nat.reduceEqDiff, Nat.reduceBEq, Nat.reduceLT, Nat.reduceLeDiff, Nat.reduceAdd, Nat.reduceSub, reduceIte]
    refine cK_cut (fun h => ?_) (fun h => ?_)
    · have g1 : szFdS s.fields (k) - s.owner.size < 0 := by simpa using h
      have e : szTy s k = -1 := by unfold szTy; rw [if_neg g0, if_pos g1]
      simp only [EV, Nat.reduceEqDiff, Nat.reduceBEq, Nat.reduceLT, Nat.reduceLeDiff, Nat.reduceAdd, Nat.reduceSub, reduceIte]
      simp only [e, EV, Nat.reduceEqDiff, Nat.reduceBEq, Nat.reduceLT, Nat.reduceLeDiff, Nat.reduceAdd, Nat.reduceSub, reduceIte, evRE, retVC, cellV', evR, nfz, nfzs, nfzss, List.contains_nil, List.contains_cons, Bool.or_false, or_true]
    · have g1 : ¬ szFdS s.fields (k) - s.owner.size < 0 := by simpa using h
      simp only [EV, Nat.reduceEqDiff, Nat.reduceBEq, Nat.reduceLT, Nat.reduceLeDiff, Nat.reduceAdd, Nat.reduceSub, reduceIte]
      have b2 := hok.2.2.2.2.2
      have w2 := w64 (szFdS s.fields (k) - s.owner.size - s.name.size) (by omega)
      simp only [w2, EV, Nat.reduceEqDiff, Nat.reduceBEq, Nat.reduceLT, Nat.reduceLeDiff, Nat.reduceAdd, Nat.reduceSub, reduceIte]
      refine cK_cut (fun h => ?_) (fun h => ?_)
      · have g2 : szFdS s.fields (k) - s.owner.size - s.name.size < 0 := by simpa using h
        have e : szTy s k = -1 := by unfold szTy; rw [if_neg g0, if_neg g1, if_pos g2]
        simp only [EV, Nat.reduceEqDiff, Nat.reduceBEq, Nat.reduceLT, Nat.reduceLeDiff, Nat.reduceAdd, Nat.reduceSub, reduceIte]
        simp only [e, EV, Nat.reduceEqDiff, Nat.reduceBEq, Nat.reduceLT, Nat.reduceLeDiff, Nat.reduceAdd, Nat.reduceSub, reduceIte, evRE, retVC, cellV', evR, nfz, nfzs, nfzss, List.contains_nil, List.contains_cons, Bool.or_false, or_true]
      · have g2 : ¬ szFdS s.fields (k) - s.owner.size - s.name.size < 0 := by simpa using h
        simp only [EV, Nat.reduceEqDiff, Nat.reduceBEq, Nat.reduceLT, Nat.reduceLeDiff, Nat.reduceAdd, Nat.reduceSub, reduceIte]
        have e : szTy s k = szFdS s.fields (k) - s.owner.size - s.name.size := by unfold szTy; rw [if_neg g0, if_neg g1, if_neg g2]
        simp only [e, EV, Nat.reduceEqDiff, Nat.reduceBEq, Nat.reduceLT, Nat.reduceLeDiff, Nat.reduceAdd, Nat.reduceSub, reduceIte, evRE, retVC, cellV', evR, nfz, nfzs, nfzss, List.contains_nil, List.contains_cons, Bool.or_false, or_true]
def szTys : List Ty → Int → Int
  | [], k => k
  | s :: r, k => if szTy s k < 0 then -1 else szTys r (szTy s k)
def szTyS (l : List Ty) (k : Int) : Int := if k - l.length < 0 then -1 else szTys l (k - l.length)
theorem szTys_le : ∀ (l : List Ty) (k : Int), 0 ≤ k → szTys l k ≤ k
  | [], k, h => by simp [szTys]
  | s :: r, k, h => by
    simp only [szTys]
    have h1 := szTy_le s k h
    split
    · omega
    · have := szTys_le r (szTy s k) (by omega)
      omega
theorem szTyS_le (l : List Ty) (k : Int) (h : 0 ≤ k) : szTyS l k ≤ k := by
  unfold szTyS
  split
  · omega
  · have := szTys_le l (k - l.length) (by omega); omega
def totTys : List Ty → Int
  | [] => 0
  | s :: r => 1 + totTy s + totTys r
theorem szTys_tot : ∀ (l : List Ty) (k : Int), 0 ≤ szTys l k → totTys l + szTys l k = k + l.length
  | [], k, h => by simp [szTys, totTys]
  | s :: r, k, h => by
    simp only [szTys] at h ⊢
    split
    · rename_i h1; rw [if_pos h1] at h; omega
    · rename_i h1
      rw [if_neg h1] at h
      have h2 := szTy_tot s k (by omega)
      have h3 := szTys_tot r _ h
      simp only [totTys, List.length_cons]
      omega
theorem szTyS_tot (l : List Ty) (k : Int) (h : 0 ≤ szTyS l k) : totTys l + szTyS l k = k := by
  unfold szTyS at h ⊢
  split
  · rename_i h1; rw [if_pos h1] at h; omega
  · rename_i h1
    rw [if_neg h1] at h
    have := szTys_tot l _ h
    omega
theorem totTys_nn : ∀ l : List Ty, (l.length : Int) ≤ totTys l
  | [] => by simp [totTys]
  | s :: r => by
    have := totTys_nn r
    have := totTy_nn s
    simp only [totTys, List.length_cons]
    omega
theorem totTys_mem : ∀ (l : List Ty) (s : Ty), s ∈ l → totTy s ≤ totTys l
  | x :: r, s, h => by
    simp only [totTys]
    have h3 := totTy_nn x
    have h2 := totTys_nn r
    rcases List.mem_cons.1 h with h | h
    · subst h; omega
    · have := totTys_mem r s h; omega
def m86 : MC :=
 (.seq (.reg [Xb 4 (.asg (.i 0))]) (.seq (.reg [Xm 6 1, Xm 7 0, Xn 8 7, Xq 9 (.bin false .sub (.t 6) (.t 8)), Xa 1 9]) (.seq (.seq (.reg [Xm 10 1, Xq 11 (.bin false .lss (.t 10) (.i 0))]) (.cond (.t 11) (.seq (.reg [Xb 4 (.asg (.i (-1)))]) .ret) .skip)) (.seq (.seq (.reg [Xb 5 (.asg (.i 0))]) (.block 0 (.loop [0, 1, 5] (.seq (.seq (.reg [Xm 12 5, Xm 13 0, Xn 14 13, Xq 15 (.bin false .lss (.t 12)
 (.t 14))]) (.cond (.t 15) .skip (.exit 0))) (.seq (.block 1 (.seq (.reg [Xm 18 0, Xm 19 5, Xi 20 6 18 19, XL 21 6 20, Xm 22 1, Xb 23 (.call (.fn 152) false [.lend (.t 21), .lend (.t 22)]), Xa 1 23]) (.seq (.reg [Xm 24 1, Xq 25 (.bin false .lss (.t 24) (.i 0))]) (.cond (.t 25) (.seq (.reg [Xb 4 (.asg (.i (-1)))]) .ret) .skip)))) (.reg [Xm 16 5, Xq 17 (.bin false .add (.t 16) (.i 1)), Xa 5 17]))))))
 (.seq (.reg [Xm 26 1, Xa 4 26]) .ret)))))
theorem d86 (l : List Ty) (k : Int) (h0 : 0 ≤ k) (h1 : k ≤ 1048576) (hl : (l.length : Int) ≤ 9223372036854775807) (hs : ∀ s ∈ l, s.ok) :
    Does Go.Proofs.Tryz.prog 86 [.fsl 6 (l.map Ty.z), .v (.int .i64 k)] false (.v (.int .i64 (szTyS l k))) [.dead, .dead] := by
  refine does_intro (mc := m86) (N := 27) (rs := [4]) (fx := []) 2 rfl (by decide +kernel) ?_
  simp only [m86, EV, Nat.reduceEqDiff, Nat.reduceBEq, Nat.reduceLT, Nat.reduceLeDiff, Nat.reduceAdd, Nat.reduceSub, reduceIte]
  have w1 := w64 (k - l.length) (by omega)
  simp only [w1]
  refine cK_cut (fun h => ?_) (fun h => ?_)
  · have h2 : k - l.length < 0 := by simpa using h
    have e : szTyS l k = -1 := by simp [szTyS, h2]
    simp only [EV, Nat.reduceEqDiff, Nat.reduceBEq, Nat.reduceLT, Nat.reduceLeDiff, Nat.reduceAdd, Nat.reduceSub, reduceIte]
    simp only [e, EV, Nat.reduceEqDiff, Nat.reduceBEq, Nat.reduceLT, Nat.reduceLeDiff, Nat.reduceAdd, Nat.reduceSub, reduceIte, evRE, retVC, cellV', evR, nfz, nfzs, nfzss, List.contains_nil, List.contains_cons, Bool.or_false, or_true]
  · have h2 : ¬ k - l.length < 0 := by simpa using h
    have e : szTyS l k = szTys l (k - l.length) := by simp [szTyS, h2]
    simp only [EV, Nat.reduceEqDiff, Nat.reduceBEq, Nat.reduceLT, Nat.reduceLeDiff, Nat.reduceAdd, Nat.reduceSub, reduceIte]
    refine awp_loop (fun p : Nat × Int => p.1 ≤ l.length ∧ 0 ≤ p.2 ∧ p.2 ≤ 1048576 ∧ szTys (l.drop p.1) p.2 = szTyS l k)
      (fun p => stl [(0, .fsl 6 (l.map Ty.z)), (1, .v (.int .i64 p.2)), (5, .v (.int .i64 (p.1 : Int)))]) (fun p => l.length - p.1) (0, k - l.length) ⟨by simp, by simp only; omega, by simp only; omega, by simp [e]⟩ ?_ ?_
    · simp only [EV, Nat.reduceEqDiff, Nat.reduceBEq, Nat.reduceLT, Nat.reduceLeDiff, Nat.reduceAdd, Nat.reduceSub, reduceIte]
      rfl
    · rintro ⟨i, n⟩ ⟨p0, p1, p2, p3⟩
      simp only at p0 p1 p2 p3
      simp only [EV, Nat.reduceEqDiff, Nat.reduceBEq, Nat.reduceLT, Nat.reduceLeDiff, Nat.reduceAdd, Nat.reduceSub, reduceIte]
      refine cK_cut (fun h => ?_) (fun h => ?_)
      · have h3 : i < l.length := by simpa using h
        have h4 : (i : Int) < (l.length : Int) := by omega
        rw [List.drop_eq_getElem_cons h3] at p3
        simp only [szTys] at p3
        have hle := szTy_le l[i] n p1
        simp only [TyE, nth_map h3, h4, EV, Nat.reduceEqDiff, Nat.reduceBEq, Nat.reduceLT, Nat.reduceLeDiff, Nat.reduceAdd, Nat.reduceSub, reduceIte]
        refine callK_i (d152 l[i] n p1 p2 (hs l[i] (List.getElem_mem h3))) ?_
        simp only [TyE, nth_map h3, h4, EV, Nat.reduceEqDiff, Nat.reduceBEq, Nat.reduceLT, Nat.reduceLeDiff, Nat.reduceAdd, Nat.reduceSub, reduceIte]
        refine cK_cut (fun h => ?_) (fun h => ?_)
        · have h5 : szTy l[i] n < 0 := by simpa using h
          rw [if_pos h5] at p3
          simp only [EV, Nat.reduceEqDiff, Nat.reduceBEq, Nat.reduceLT, Nat.reduceLeDiff, Nat.reduceAdd, Nat.reduceSub, reduceIte]
          simp only [← p3, EV, Nat.reduceEqDiff, Nat.reduceBEq, Nat.reduceLT, Nat.reduceLeDiff, Nat.reduceAdd, Nat.reduceSub, reduceIte, evRE, retVC, cellV', evR, nfz, nfzs, nfzss, List.contains_nil, List.contains_cons, Bool.or_false, or_true]
        · have h5 : ¬ szTy l[i] n < 0 := by simpa using h
          rw [if_neg h5] at p3
          have w2 := w64 ((i : Int) + 1) (by omega)
          simp only [w2, EV, Nat.reduceEqDiff, Nat.reduceBEq, Nat.reduceLT, Nat.reduceLeDiff, Nat.reduceAdd, Nat.reduceSub, reduceIte]
          exact ⟨(i + 1, szTy l[i] n), ⟨by simp only; omega, by simp only; omega, by simp only; omega, p3⟩, by simp only; omega, rfl⟩
      · have h3 : i = l.length := by have : ¬ (i : Int) < l.length := by simpa using h
                                     omega
        subst h3
        rw [List.drop_length] at p3
        simp only [szTys] at p3
        simp only [EV, Nat.reduceEqDiff, Nat.reduceBEq, Nat.reduceLT, Nat.reduceLeDiff, Nat.reduceAdd, Nat.reduceSub, reduceIte]
        simp only [← p3, EV, Nat.reduceEqDiff, Nat.reduceBEq, Nat.reduceLT, Nat.reduceLeDiff, Nat.reduceAdd, Nat.reduceSub, reduceIte, evRE, retVC, cellV', evR, nfz, nfzs, nfzss, List.contains_nil, List.contains_cons, Bool.or_false, or_true]
def m155 : MC :=
 (.seq (.reg [Xb 1 (.box 167 (.t 0)), Xb 2 (.alloc 40 [.i, .i, .i, .s 97 3, .z, .z])]) (.seq (.reg [Xb 3 (.alloc 40 [.i, .i, .i, .s 97 3, .z, .z])]) (.seq (.reg [Xf 4 0 1, Xl 5 1 4, Xf 6 0 3, Xz (.store 1 (.t 6) (.t 5))]) (.seq (.reg [Xf 7 1 1, Xl 8 1 7, Xf 9 1 3, Xz (.store 1 (.t 9) (.t 8))]) (.seq (.reg [Xf 10 2 1, Xl 11 1 10, Xf 12 2 3, Xz (.store 1 (.t 12) (.t 11))]) (.seq (.reg [Xf 13 3 1, Xl
 14 1 13, Xb 15 (.call (.fn 213) false [.lend (.t 14)]), Xf 16 3 3, Xz (.store 1 (.t 16) (.t 15))]) (.seq (.reg [Xf 17 4 1, Xl 18 1 17, Xf 19 4 3, Xz (.store 1 (.t 19) (.t 18))]) (.seq (.reg [Xf 20 5 1, Xl 21 1 20, Xf 22 5 3, Xz (.store 1 (.t 22) (.t 21))]) (.seq (.reg [XL 23 6 3, Xz (.store 6 (.t 2) (.t 23))]) .ret)))))))))
set_option maxRecDepth 100000 in
theorem d155 (s : Ty) (hs : s.sm) : Does Go.Proofs.Tryz.prog 155 [.agg s.z] false (.agg s.o) [.dead] := by
  unfold Ty.sm at hs
  refine does_introC (mc := m155) (N := 24) (r := 2) (ty := 40) (agg := true) (sz := 6) (fx := []) 1 rfl (by decide +kernel) ?_
  simp only [m155, Ty.z, Ty.o, EV, Nat.reduceEqDiff, Nat.reduceBEq, Nat.reduceLT, Nat.reduceLeDiff, Nat.reduceAdd, Nat.reduceSub, reduceIte]
  refine callK_i (d213 s.fields (hs.2.2.2.1).1 (hs.2.2.2.1).2) ?_
  simp only [Ty.z, Ty.o, EV, Nat.reduceEqDiff, Nat.reduceBEq, Nat.reduceLT, Nat.reduceLeDiff, Nat.reduceAdd, Nat.reduceSub, reduceIte]
  simp only [Fd.nfz, EV, Nat.reduceEqDiff, Nat.reduceBEq, Nat.reduceLT, Nat.reduceLeDiff, Nat.reduceAdd, Nat.reduceSub, reduceIte, evRE, retVC, cellV', evR, nfz, nfzs, nfzss, List.contains_nil, List.contains_cons, Bool.or_false, or_true]
def m90 : MC :=
 (.seq (.reg [Xb 2 (.asg (.nils 40 6))]) (.seq (.reg [Xm 5 0, Xn 6 5, Xb 7 (.mks 40 6 80 [.i, .i, .i, .s 97 3, .z, .z] (.t 6) (.t 6)), Xa 3 7]) (.seq (.seq (.reg [Xb 4 (.asg (.i 0))]) (.block 0 (.loop [0, 3, 4, 7] (.seq (.seq (.reg [Xm 8 4, Xm 9 0, Xn 10 9, Xq 11 (.bin false .lss (.t 8) (.t 10))]) (.cond (.t 11) .skip (.exit 0))) (.seq (.block 1 (.reg [Xm 14 3, Xm 15 4, Xm 16 0, Xm 17 4, Xi 18 6 16
 17, XL 19 6 18, Xb 20 (.call (.fn 155) false [.lend (.t 19)]), Xi 21 6 14 15, Xz (.store 6 (.t 21) (.t 20))])) (.reg [Xm 12 4, Xq 13 (.bin false .add (.t 12) (.i 1)), Xa 4 13])))))) (.seq (.reg [Xm 22 3, Xa 2 22]) .ret))))
theorem d90 (l : List Ty) (hl : (l.length : Int) ≤ 1048576) (hs : ∀ s ∈ l, s.sm) : Does Go.Proofs.Tryz.prog 90 [.fsl 6 (l.map Ty.z)] false (.usl 40 6 (l.map Ty.o)) [.dead] := by
  refine does_intro (mc := m90) (N := 23) (rs := [2]) (fx := []) 1 rfl (by decide +kernel) ?_
  simp only [m90, EV, Nat.reduceEqDiff, Nat.reduceBEq, Nat.reduceLT, Nat.reduceLeDiff, Nat.reduceAdd, Nat.reduceSub, reduceIte]
  refine ⟨by omega, by omega, ?_⟩
  refine awp_loop (fun i : Nat => i ≤ l.length) (fun i => stl [(0, .fsl 6 (l.map Ty.z)), (3, .usl 40 6 ((l.take i).map Ty.o ++ List.replicate (l.length - i) Ty.zr)), (4, .v (.int .i64 (i : Int))), (7, .dead)]) (fun i => l.length - i) 0 (Nat.zero_le _) ?_ ?_
  · simp only [EV, Nat.reduceEqDiff, Nat.reduceBEq, Nat.reduceLT, Nat.reduceLeDiff, Nat.reduceAdd, Nat.reduceSub, reduceIte]
    rfl
  · intro i hi
    simp only [EV, Nat.reduceEqDiff, Nat.reduceBEq, Nat.reduceLT, Nat.reduceLeDiff, Nat.reduceAdd, Nat.reduceSub, reduceIte]
    refine cK_cut (fun h => ?_) (fun h => ?_)
    · have h1 : i < l.length := by simpa using h
      have h2 : (i : Int) < (l.length : Int) := by omega
      have h3 : ((l.take i).map Ty.o ++ List.replicate (l.length - i) Ty.zr).length = l.length := by simp; omega
      simp only [TyE, nth_map h1, h2, EV, Nat.reduceEqDiff, Nat.reduceBEq, Nat.reduceLT, Nat.reduceLeDiff, Nat.reduceAdd, Nat.reduceSub, reduceIte]
      refine callK_i (d155 l[i] (hs l[i] (List.getElem_mem h1))) ?_
      simp only [TyE, h2, h3, EV, Nat.reduceEqDiff, Nat.reduceBEq, Nat.reduceLT, Nat.reduceLeDiff, Nat.reduceAdd, Nat.reduceSub, reduceIte]
      refine ⟨h1, i + 1, by omega, by omega, ?_⟩
      have ez : l[i].o ++ List.drop 6 Ty.zr = l[i].o := List.append_nil _
      rw [fill_nth h1, w64 _ (by omega), ez, fill_set h1]
      rfl
    · have h1 : i = l.length := by have : ¬ (i : Int) < l.length := by simpa using h
                                   omega
      subst h1
      simp only [EV, Nat.reduceEqDiff, Nat.reduceBEq, Nat.reduceLT, Nat.reduceLeDiff, Nat.reduceAdd, Nat.reduceSub, reduceIte]
      simp only [Nat.sub_self, List.replicate_zero, Ty.nfz, EV, Nat.reduceEqDiff, Nat.reduceBEq, Nat.reduceLT, Nat.reduceLeDiff, Nat.reduceAdd, Nat.reduceSub, reduceIte, evRE, retVC, cellV', evR, nfz, nfzs, nfzss, List.contains_nil, List.contains_cons, Bool.or_false, or_true]
def m158 : MC :=
 (.seq (.reg [Xb 2 (.box 40 (.t 0)), Xb 3 (.box 40 (.t 1)), Xb 4 (.asg .fb)]) (.seq (.seq (.reg [Xf 5 0 2, Xl 6 1 5, Xf 7 0 3, Xl 8 1 7, Xq 9 (.bin false .neq (.t 6) (.t 8))]) (.cond (.t 9) (.seq (.reg [Xb 4 (.asg .fb)]) .ret) .skip)) (.seq (.seq (.reg [Xf 10 1 2, Xl 11 1 10, Xf 12 1 3, Xl 13 1 12, Xq 14 (.bin false .neq (.t 11) (.t 13))]) (.cond (.t 14) (.seq (.reg [Xb 4 (.asg .fb)]) .ret) .skip))
 (.seq (.seq (.reg [Xf 15 2 2, Xl 16 1 15, Xf 17 2 3, Xl 18 1 17, Xq 19 (.bin false .neq (.t 16) (.t 18))]) (.cond (.t 19) (.seq (.reg [Xb 4 (.asg .fb)]) .ret) .skip)) (.seq (.seq (.reg [Xf 20 3 2, Xl 21 1 20, Xf 22 3 3, Xl 23 1 22, Xb 24 (.call (.fn 215) false [.lend (.t 21), .lend (.t 23)]), Xq 25 (.un .not (.t 24))]) (.cond (.t 25) (.seq (.reg [Xb 4 (.asg .fb)]) .ret) .skip)) (.seq (.seq (.reg
 [Xf 26 4 2, Xl 27 1 26, Xf 28 4 3, Xl 29 1 28, Xq 30 (.bin false .neq (.t 27) (.t 29))]) (.cond (.t 30) (.seq (.reg [Xb 4 (.asg .fb)]) .ret) .skip)) (.seq (.seq (.reg [Xf 31 5 2, Xl 32 1 31, Xf 33 5 3, Xl 34 1 33, Xq 35 (.bin false .neq (.t 32) (.t 34))]) (.cond (.t 35) (.seq (.reg [Xb 4 (.asg .fb)]) .ret) .skip)) (.seq (.reg [Xb 4 (.asg .tb)]) .ret))))))))
set_option maxRecDepth 100000 in
theorem d158 (s : Ty) (hs : s.sm) : Does Go.Proofs.Tryz.prog 158 [.agg s.z, .agg s.z] false (.v (.bool true)) [.dead, .dead] := by
  unfold Ty.sm at hs
  refine does_intro (mc := m158) (N := 36) (rs := [4]) (fx := []) 2 rfl (by decide +kernel) ?_
  simp only [m158, Ty.z, EV, Nat.reduceEqDiff, Nat.reduceBEq, Nat.reduceLT, Nat.reduceLeDiff, Nat.reduceAdd, Nat.reduceSub, reduceIte]
  refine callK_i (d215 s.fields (hs.2.2.2.1).1 (hs.2.2.2.1).2) ?_
  simp only [Ty.z, EV, Nat.reduceEqDiff, Nat.reduceBEq, Nat.reduceLT, Nat.reduceLeDiff, Nat.reduceAdd, Nat.reduceSub, reduceIte]
  simp only [EV, Nat.reduceEqDiff, Nat.reduceBEq, Nat.reduceLT, Nat.reduceLeDiff, Nat.reduceAdd, Nat.reduceSub, reduceIte, evRE, retVC, cellV', evR, nfz, nfzs, nfzss, List.contains_nil, List.contains_cons, Bool.or_false, or_true]
def m94 : MC :=
 (.seq (.reg [Xb 4 (.asg .fb)]) (.seq (.seq (.reg [Xm 6 0, Xn 7 6, Xm 8 1, Xn 9 8, Xq 10 (.bin false .neq (.t 7) (.t 9))]) (.cond (.t 10) (.seq (.reg [Xb 4 (.asg .fb)]) .ret) .skip)) (.seq (.seq (.reg [Xb 5 (.asg (.i 0))]) (.block 0 (.loop [0, 1, 5] (.seq (.seq (.reg [Xm 11 5, Xm 12 0, Xn 13 12, Xq 14 (.bin false .lss (.t 11) (.t 13))]) (.cond (.t 14) .skip (.exit 0))) (.seq (.block 1 (.seq (.dreg
 [Xm 17 0, Xm 18 5, Xi 19 6 17 18, XL 20 6 19, Xm 21 1, Xm 22 5, Xi 23 6 21 22, XL 24 6 23, Xb 25 (.call (.fn 158) false [.lend (.t 20), .lend (.t 24)]), Xq 26 (.un .not (.t 25))]) (.cond (.t 26) (.seq (.reg [Xb 4 (.asg .fb)]) .ret) .skip))) (.reg [Xm 15 5, Xq 16 (.bin false .add (.t 15) (.i 1)), Xa 5 16])))))) (.seq (.reg [Xb 4 (.asg .tb)]) .ret))))
theorem d94 (l : List Ty) (hl : (l.length : Int) ≤ 1048576) (hs : ∀ s ∈ l, s.sm) : Does Go.Proofs.Tryz.prog 94 [.fsl 6 (l.map Ty.z), .fsl 6 (l.map Ty.z)] false (.v (.bool true)) [.dead, .dead] := by
  refine does_intro (mc := m94) (N := 27) (rs := [4]) (fx := []) 2 rfl (by decide +kernel) ?_
  simp only [m94, EV, Nat.reduceEqDiff, Nat.reduceBEq, Nat.reduceLT, Nat.reduceLeDiff, Nat.reduceAdd, Nat.reduceSub, reduceIte]
  refine awp_loop (fun i : Nat => i ≤ l.length) (fun i => stl [(0, .fsl 6 (l.map Ty.z)), (1, .fsl 6 (l.map Ty.z)), (5, .v (.int .i64 (i : Int)))]) (fun i => l.length - i) 0 (Nat.zero_le _) ?_ ?_
  · simp only [EV, Nat.reduceEqDiff, Nat.reduceBEq, Nat.reduceLT, Nat.reduceLeDiff, Nat.reduceAdd, Nat.reduceSub, reduceIte]
    rfl
  · intro i hi
    simp only [EV, Nat.reduceEqDiff, Nat.reduceBEq, Nat.reduceLT, Nat.reduceLeDiff, Nat.reduceAdd, Nat.reduceSub, reduceIte]
    refine cK_cut (fun h => ?_) (fun h => ?_)
    · have h1 : i < l.length := by simpa using h
      have h2 : (i : Int) < (l.length : Int) := by omega
      simp only [TyE, nth_map h1, h2, EV, Nat.reduceEqDiff, Nat.reduceBEq, Nat.reduceLT, Nat.reduceLeDiff, Nat.reduceAdd, Nat.reduceSub, reduceIte]
      refine callD_i (d158 l[i] (hs l[i] (List.getElem_mem h1))) rfl ?_
      simp only [EV, Nat.reduceEqDiff, Nat.reduceBEq, Nat.reduceLT, Nat.reduceLeDiff, Nat.reduceAdd, Nat.reduceSub, reduceIte]
      refine ⟨i + 1, by omega, by omega, ?_⟩
      rw [w64 _ (by omega)]
      rfl
    · have h1 : i = l.length := by have : ¬ (i : Int) < l.length := by simpa using h
                                   omega
      simp only [EV, Nat.reduceEqDiff, Nat.reduceBEq, Nat.reduceLT, Nat.reduceLeDiff, Nat.reduceAdd, Nat.reduceSub, reduceIte]
      simp only [EV, Nat.reduceEqDiff, Nat.reduceBEq, Nat.reduceLT, Nat.reduceLeDiff, Nat.reduceAdd, Nat.reduceSub, reduceIte, evRE, retVC, cellV', evR, nfz, nfzs, nfzss, List.contains_nil, List.contains_cons, Bool.or_false, or_true]
end Go.AM
namespace Go.AM
set_option linter.unusedVariables false
set_option linter.unusedSimpArgs false
structure Par where
  name : ByteArray
  byvar : Bool
  typ : Int
def Par.z (s : Par) : List AV := [.v (.string s.name), .v (.bool s.byvar), .v (.int .i64 s.typ)]
def Par.o (s : Par) : List AV := [.v (.string s.name), .v (.bool s.byvar), .v (.int .i64 s.typ)]
def Par.zr : List AV := [.v (.string ⟨#[]⟩), .v (.bool false), .v (.int .i64 0)]
theorem Par.fr (s : Par) : frzRow s.o = s.z := by
  simp only [Par.o, Par.z, frzRow, frzL, List.cons_append, List.nil_append]
theorem Par.frz : ∀ l : List Par, frzRows (l.map Par.o) = l.map Par.z
  | [] => rfl
  | s :: l => by simp only [List.map_cons, frzRows, Par.fr, Par.frz l]
theorem Par.nf (s : Par) : nfzs s.o = true := by
  simp only [Par.o, nfzs, nfz, List.cons_append, List.nil_append, Bool.and_self]
theorem Par.nfz : ∀ l : List Par, nfzss (l.map Par.o) = true
  | [] => rfl
  | s :: l => by simp only [List.map_cons, nfzss, Par.nf, Par.nfz l, Bool.and_self]
theorem ParE : (∀ f : Par, f.z.length = 3) ∧ (∀ f : Par, f.z.take 3 = f.z) ∧ (∀ (st : St) (f : Par), frzBs st f.z = f.z) ∧ (∀ f : Par, bares f.z = true) ∧ (∀ f : Par, plains f.z = true) ∧
    (∀ (f : Par) (K : Nat → List (Nat × Nat) → Bool), killVs K f.z = f.z) ∧ (∀ f : Par, f.z.all storL = true) ∧ (∀ f : Par, f.o.length = 3) ∧ (∀ f : Par, f.o.take 3 = f.o) ∧ (∀ f : Par, bares f.o = true) ∧
    (∀ f : Par, plains f.o = true) ∧ (∀ (f : Par) (K : Nat → List (Nat × Nat) → Bool), killVs K f.o = f.o) ∧ (∀ f : Par, f.o.all storL = true) :=
  ⟨fun _ => rfl, fun _ => rfl, fun _ _ => rfl, fun _ => rfl, fun _ => rfl, fun _ _ => rfl, fun _ => rfl, fun _ => rfl, fun _ => rfl, fun _ => rfl, fun _ => rfl, fun _ _ => rfl, fun _ => rfl⟩
def Par.ok (s : Par) : Prop := (s.name.size : Int) ≤ 9223372036854775807 ∧ True ∧ (-9223372036854775808 ≤ s.typ ∧ s.typ ≤ 9223372036854775807)
def Par.sm (s : Par) : Prop := (s.name.size : Int) ≤ 1048576 ∧ True ∧ True
def szPar (s : Par) (k : Int) : Int := if k - s.name.size < 0 then -1 else k - s.name.size
def totPar (s : Par) : Int := (s.name.size : Int)
theorem szPar_le (s : Par) (k : Int) (h : 0 ≤ k) : szPar s k ≤ k := by
  unfold szPar
  by_cases g0 : k - s.name.size < 0
  · rw [if_pos g0]; omega
  rw [if_neg g0]
  omega
theorem szPar_tot (s : Par) (k : Int) (h : 0 ≤ szPar s k) : totPar s + szPar s k = k := by
  unfold szPar at h ⊢
  unfold totPar
  by_cases g0 : k - s.name.size < 0
  · rw [if_pos g0] at h; omega
  rw [if_neg g0] at h ⊢
  omega
theorem totPar_nn (s : Par) : 0 ≤ totPar s := by
  unfold totPar
  omega
theorem Par.sm_of (s : Par) (h : totPar s ≤ 1048576) : s.sm := by
  unfold totPar at h
  exact ⟨by omega, trivial, trivial⟩
def m239 : MC :=
 (.seq (.reg [Xb 2 (.box 246 (.t 0)), Xb 4 (.asg (.i 0))]) (.seq (.reg [Xm 5 1, Xf 6 0 2, Xl 7 1 6, Xq 8 (.len true (.t 7)), Xq 9 (.bin false .sub (.t 5) (.t 8)), Xa 1 9]) (.seq (.seq (.reg [Xm 10 1, Xq 11 (.bin false .lss (.t 10) (.i 0))]) (.cond (.t 11) (.seq (.reg [Xb 4 (.asg (.i (-1)))]) .ret) .skip)) (.seq (.reg [Xm 12 1, Xa 4 12]) .ret))))
set_option maxRecDepth 100000 in
theorem d239 (s : Par) (k : Int) (h0 : 0 ≤ k) (h1 : k ≤ 1048576) (hok : s.ok) : Does Go.Proofs.Tryz.prog 239 [.agg s.z, .v (.int .i64 k)] false (.v (.int .i64 (szPar s k))) [.dead, .dead] := by
  unfold Par.ok at hok
  refine does_intro (mc := m239) (N := 13) (rs := [4]) (fx := []) 2 rfl (by decide +kernel) ?_
  simp only [m239, Par.z, EV, Nat.reduceEqDiff, Nat.reduceBEq, Nat.reduceLT, Nat.reduceLeDiff, Nat.reduceAdd, Nat.reduceSub, reduceIte]
  have b0 := hok.1
  have w0 := w64 (k - s.name.size) (by omega)
  simp only [w0, EV, Nat.reduceEqDiff, Nat.reduceBEq, Nat.reduceLT, Nat.reduceLeDiff, Nat.reduceAdd, Nat.reduceSub, reduceIte]
  refine cK_cut (fun h => ?_) (fun h => ?_)
  · have g0 : k - s.name.size < 0 := by simpa using h
    have e : szPar s k = -1 := by unfold szPar; rw [if_pos g0]
    simp only [EV, Nat.reduceEqDiff, Nat.reduceBEq, Nat.reduceLT, Nat.reduceLeDiff, Nat.reduceAdd, Nat.reduceSub, reduceIte]
    simp only [e, EV, Nat.reduceEqDiff, Nat.reduceBEq, Nat.reduceLT, Nat.reduceLeDiff, Nat.reduceAdd, Nat.reduceSub, reduceIte, evRE, retVC, cellV', evR, nfz, nfzs, nfzss, List.contains_nil, List.contains_cons, Bool.or_false, or_true]
  · have g0 : ¬ k - s.name.size < 0 := by simpa using h
    simp only [EV, Nat.reduceEqDiff, Nat.reduceBEq, Nat.reduceLT, Nat.reduceLeDiff, Nat.reduceAdd, Nat.reduceSub, reduceIte]
    have e : szPar s k = k - s.name.size := by unfold szPar; rw [if_neg g0]
    simp only [e, EV, Nat.reduceEqDiff, Nat.reduceBEq, Nat.reduceLT, Nat.reduceLeDiff, Nat.reduceAdd, Nat.reduceSub, reduceIte, evRE, retVC, cellV', evR, nfz, nfzs, nfzss, List.contains_nil, List.contains_cons, Bool.or_false, or_true]
def szPars : List Par → Int → Int
  | [], k => k
  | s :: r, k => if szPar s k < 0 then -1 else szPars r (szPar s k)
def szParS (l : List Par) (k : Int) : Int := if k - l.length < 0 then -1 else szPars l (k - l.length)
theorem szPars_le : ∀ (l : List Par) (k : Int), 0 ≤ k → szPars l k ≤ k
  | [], k, h => by simp [szPars]
  | s :: r, k, h => by
    simp only [szPars]
    have h1 := szPar_le s k h
    split
    · omega
    · have := szPars_le r (szPar s k) (by omega)
      omega
theorem szParS_le (l : List Par) (k : Int) (h : 0 ≤ k) : szParS l k ≤ k := by
  unfold szParS
  split
  · omega
  · have := szPars_le l (k - l.length) (by omega); omega
def totPars : List Par → Int
  | [] => 0
  | s :: r => 1 + totPar s + totPars r
theorem szPars_tot : ∀ (l : List Par) (k : Int), 0 ≤ szPars l k → totPars l + szPars l k = k + l.length
  | [], k, h => by simp [szPars, totPars]
  | s :: r, k, h => by
    simp only [szPars] at h ⊢
    split
    · rename_i h1; rw [if_pos h1] at h; omega
    · rename_i h1
      rw [if_neg h1] at h
      have h2 := szPar_tot s k (by omega)
      have h3 := szPars_tot r _ h
      simp only [totPars, List.length_cons]
      omega
theorem szParS_tot (l : List Par) (k : Int) (h : 0 ≤ szParS l k) : totPars l + szParS l k = k := by
  unfold szParS at h ⊢
  split
  · rename_i h1; rw [if_pos h1] at h; omega
  · rename_i h1
    rw [if_neg h1] at h
    have := szPars_tot l _ h
    omega
theorem totPars_nn : ∀ l : List Par, (l.length : Int) ≤ totPars l
  | [] => by simp [totPars]
  | s :: r => by
    have := totPars_nn r
    have := totPar_nn s
    simp only [totPars, List.length_cons]
    omega
theorem totPars_mem : ∀ (l : List Par) (s : Par), s ∈ l → totPar s ≤ totPars l
  | x :: r, s, h => by
    simp only [totPars]
    have h3 := totPar_nn x
    have h2 := totPars_nn r
    rcases List.mem_cons.1 h with h | h
    · subst h; omega
    · have := totPars_mem r s h; omega
def m212 : MC :=
 (.seq (.reg [Xb 4 (.asg (.i 0))]) (.seq (.reg [Xm 6 1, Xm 7 0, Xn 8 7, Xq 9 (.bin false .sub (.t 6) (.t 8)), Xa 1 9]) (.seq (.seq (.reg [Xm 10 1, Xq 11 (.bin false .lss (.t 10) (.i 0))]) (.cond (.t 11) (.seq (.reg [Xb 4 (.asg (.i (-1)))]) .ret) .skip)) (.seq (.seq (.reg [Xb 5 (.asg (.i 0))]) (.block 0 (.loop [0, 1, 5] (.seq (.seq (.reg [Xm 12 5, Xm 13 0, Xn 14 13, Xq 15 (.bin false .lss (.t 12)
 (.t 14))]) (.cond (.t 15) .skip (.exit 0))) (.seq (.block 1 (.seq (.reg [Xm 18 0, Xm 19 5, Xi 20 3 18 19, XL 21 3 20, Xm 22 1, Xb 23 (.call (.fn 239) false [.lend (.t 21), .lend (.t 22)]), Xa 1 23]) (.seq (.reg [Xm 24 1, Xq 25 (.bin false .lss (.t 24) (.i 0))]) (.cond (.t 25) (.seq (.reg [Xb 4 (.asg (.i (-1)))]) .ret) .skip)))) (.reg [Xm 16 5, Xq 17 (.bin false .add (.t 16) (.i 1)), Xa 5 17]))))))
 (.seq (.reg [Xm 26 1, Xa 4 26]) .ret)))))
theorem d212 (l : List Par) (k : Int) (h0 : 0 ≤ k) (h1 : k ≤ 1048576) (hl : (l.length : Int) ≤ 9223372036854775807) (hs : ∀ s ∈ l, s.ok) :
    Does Go.Proofs.Tryz.prog 212 [.fsl 3 (l.map Par.z), .v (.int .i64 k)] false (.v (.int .i64 (szParS l k))) [.dead, .dead] := by
  refine does_intro (mc := m212) (N := 27) (rs := [4]) (fx := []) 2 rfl (by decide +kernel) ?_
  simp only [m212, EV, Nat.reduceEqDiff, Nat.reduceBEq, Nat.reduceLT, Nat.reduceLeDiff, Nat.reduceAdd, Nat.reduceSub, reduceIte]
  have w1 := w64 (k - l.length) (by omega)
  simp only [w1]
  refine cK_cut (fun h => ?_) (fun h => ?_)
  · have h2 : k - l.length < 0 := by simpa using h
    have e : szParS l k = -1 := by simp [szParS, h2]
    simp only [EV, Nat.reduceEqDiff, Nat.reduceBEq, Nat.reduceLT, Nat.reduceLeDiff, Nat.reduceAdd, Nat.reduceSub, reduceIte]
    simp only [e, EV, Nat.reduceEqDiff, Nat.reduceBEq, Nat.reduceLT, Nat.reduceLeDiff, Nat.reduceAdd, Nat.reduceSub, reduceIte, evRE, retVC, cellV', evR, nfz, nfzs, nfzss, List.contains_nil, List.contains_cons, Bool.or_false, or_true]
  · have h2 : ¬ k - l.length < 0 := by simpa using h
    have e : szParS l k = szPars l (k - l.length) := by simp [szParS, h2]
    simp only [EV, Nat.reduceEqDiff, Nat.reduceBEq, Nat.reduceLT, Nat.reduceLeDiff, Nat.reduceAdd, Nat.reduceSub, reduceIte]
    refine awp_loop (fun p : Nat × Int => p.1 ≤ l.length ∧ 0 ≤ p.2 ∧ p.2 ≤ 1048576 ∧ szPars (l.drop p.1) p.2 = szParS l k)
      (fun p => stl [(0, .fsl 3 (l.map Par.z)), (1, .v (.int .i64 p.2)), (5, .v (.int .i64 (p.1 : Int)))]) (fun p => l.length - p.1) (0, k - l.length) ⟨by simp, by simp only; omega, by simp only; omega, by simp [e]⟩ ?_ ?_
    · simp only [EV, Nat.reduceEqDiff, Nat.reduceBEq, Nat.reduceLT, Nat.reduceLeDiff, Nat.reduceAdd, Nat.reduceSub, reduceIte]
      rfl
    · rintro ⟨i, n⟩ ⟨p0, p1, p2, p3⟩
      simp only at p0 p1 p2 p3
      simp only [EV, Nat.reduceEqDiff, Nat.reduceBEq, Nat.reduceLT, Nat.reduceLeDiff, Nat.reduceAdd, Nat.reduceSub, reduceIte]
      refine cK_cut (fun h => ?_) (fun h => ?_)
      · have h3 : i < l.length := by simpa using h
        have h4 : (i : Int) < (l.length : Int) := by omega
        rw [List.drop_eq_getElem_cons h3] at p3
        simp only [szPars] at p3
        have hle := szPar_le l[i] n p1
        simp only [ParE, nth_map h3, h4, EV, Nat.reduceEqDiff, Nat.reduceBEq, Nat.reduceLT, Nat.reduceLeDiff, Nat.reduceAdd, Nat.reduceSub, reduceIte]
        refine callK_i (d239 l[i] n p1 p2 (hs l[i] (List.getElem_mem h3))) ?_
        simp only [ParE, nth_map h3, h4, EV, Nat.reduceEqDiff, Nat.reduceBEq, Nat.reduceLT, Nat.reduceLeDiff, Nat.reduceAdd, Nat.reduceSub, reduceIte]
        refine cK_cut (fun h => ?_) (fun h => ?_)
        · have h5 : szPar l[i] n < 0 := by simpa using h
          rw [if_pos h5] at p3
          simp only [EV, Nat.reduceEqDiff, Nat.reduceBEq, Nat.reduceLT, Nat.reduceLeDiff, Nat.reduceAdd, Nat.reduceSub, reduceIte]
          simp only [← p3, EV, Nat.reduceEqDiff, Nat.reduceBEq, Nat.reduceLT, Nat.reduceLeDiff, Nat.reduceAdd, Nat.reduceSub, reduceIte, evRE, retVC, cellV', evR, nfz, nfzs, nfzss, List.contains_nil, List.contains_cons, Bool.or_false, or_true]
        · have h5 : ¬ szPar l[i] n < 0 := by simpa using h
          rw [if_neg h5] at p3
          have w2 := w64 ((i : Int) + 1) (by omega)
          simp only [w2, EV, Nat.reduceEqDiff, Nat.reduceBEq, Nat.reduceLT, Nat.reduceLeDiff, Nat.reduceAdd, Nat.reduceSub, reduceIte]
          exact ⟨(i + 1, szPar l[i] n), ⟨by simp only; omega, by simp only; omega, by simp only; omega, p3⟩, by simp only; omega, rfl⟩
      · have h3 : i = l.length := by have : ¬ (i : Int) < l.length := by simpa using h
                                     omega
        subst h3
        rw [List.drop_length] at p3
        simp only [szPars] at p3
        simp only [EV, Nat.reduceEqDiff, Nat.reduceBEq, Nat.reduceLT, Nat.reduceLeDiff, Nat.reduceAdd, Nat.reduceSub, reduceIte]
        simp only [← p3, EV, Nat.reduceEqDiff, Nat.reduceBEq, Nat.reduceLT, Nat.reduceLeDiff, Nat.reduceAdd, Nat.reduceSub, reduceIte, evRE, retVC, cellV', evR, nfz, nfzs, nfzss, List.contains_nil, List.contains_cons, Bool.or_false, or_true]
def m241 : MC :=
 (.seq (.reg [Xb 1 (.box 246 (.t 0)), Xb 2 (.alloc 54 [.z, .b, .i])]) (.seq (.reg [Xb 3 (.alloc 54 [.z, .b, .i])]) (.seq (.reg [Xf 4 0 1, Xl 5 1 4, Xf 6 0 3, Xz (.store 1 (.t 6) (.t 5))]) (.seq (.reg [Xf 7 1 1, Xl 8 1 7, Xf 9 1 3, Xz (.store 1 (.t 9) (.t 8))]) (.seq (.reg [Xf 10 2 1, Xl 11 1 10, Xf 12 2 3, Xz (.store 1 (.t 12) (.t 11))]) (.seq (.reg [XL 13 3 3, Xz (.store 3 (.t 2) (.t 13))])
 .ret))))))
set_option maxRecDepth 100000 in
theorem d241 (s : Par) (hs : s.sm) : Does Go.Proofs.Tryz.prog 241 [.agg s.z] false (.agg s.o) [.dead] := by
  unfold Par.sm at hs
  refine does_introC (mc := m241) (N := 14) (r := 2) (ty := 54) (agg := true) (sz := 3) (fx := []) 1 rfl (by decide +kernel) ?_
  simp only [m241, Par.z, Par.o, EV, Nat.reduceEqDiff, Nat.reduceBEq, Nat.reduceLT, Nat.reduceLeDiff, Nat.reduceAdd, Nat.reduceSub, reduceIte]
  simp only [EV, Nat.reduceEqDiff, Nat.reduceBEq, Nat.reduceLT, Nat.reduceLeDiff, Nat.reduceAdd, Nat.reduceSub, reduceIte, evRE, retVC, cellV', evR, nfz, nfzs, nfzss, List.contains_nil, List.contains_cons, Bool.or_false, or_true]
def m214 : MC :=
 (.seq (.reg [Xb 2 (.asg (.nils 54 3))]) (.seq (.reg [Xm 5 0, Xn 6 5, Xb 7 (.mks 54 3 32 [.z, .b, .i] (.t 6) (.t 6)), Xa 3 7]) (.seq (.seq (.reg [Xb 4 (.asg (.i 0))]) (.block 0 (.loop [0, 3, 4, 7] (.seq (.seq (.reg [Xm 8 4, Xm 9 0, Xn 10 9, Xq 11 (.bin false .lss (.t 8) (.t 10))]) (.cond (.t 11) .skip (.exit 0))) (.seq (.block 1 (.reg [Xm 14 3, Xm 15 4, Xm 16 0, Xm 17 4, Xi 18 3 16 17, XL 19 3 18,
 Xb 20 (.call (.fn 241) false [.lend (.t 19)]), Xi 21 3 14 15, Xz (.store 3 (.t 21) (.t 20))])) (.reg [Xm 12 4, Xq 13 (.bin false .add (.t 12) (.i 1)), Xa 4 13])))))) (.seq (.reg [Xm 22 3, Xa 2 22]) .ret))))
theorem d214 (l : List Par) (hl : (l.length : Int) ≤ 1048576) (hs : ∀ s ∈ l, s.sm) : Does Go.Proofs.Tryz.prog 214 [.fsl 3 (l.map Par.z)] false (.usl 54 3 (l.map Par.o)) [.dead] := by
  refine does_intro (mc := m214) (N := 23) (rs := [2]) (fx := []) 1 rfl (by decide +kernel) ?_
  simp only [m214, EV, Nat.reduceEqDiff, Nat.reduceBEq, Nat.reduceLT, Nat.reduceLeDiff, Nat.reduceAdd, Nat.reduceSub, reduceIte]
  refine ⟨by omega, by omega, ?_⟩
  refine awp_loop (fun i : Nat => i ≤ l.length) (fun i => stl [(0, .fsl 3 (l.map Par.z)), (3, .usl 54 3 ((l.take i).map Par.o ++ List.replicate (l.length - i) Par.zr)), (4, .v (.int .i64 (i : Int))), (7, .dead)]) (fun i => l.length - i) 0 (Nat.zero_le _) ?_ ?_
  · simp only [EV, Nat.reduceEqDiff, Nat.reduceBEq, Nat.reduceLT, Nat.reduceLeDiff, Nat.reduceAdd, Nat.reduceSub, reduceIte]
    rfl
  · intro i hi
    simp only [EV, Nat.reduceEqDiff, Nat.reduceBEq, Nat.reduceLT, Nat.reduceLeDiff, Nat.reduceAdd, Nat.reduceSub, reduceIte]
    refine cK_cut (fun h => ?_) (fun h => ?_)
    · have h1 : i < l.length := by simpa using h
      have h2 : (i : Int) < (l.length : Int) := by omega
      have h3 : ((l.take i).map Par.o ++ List.replicate (l.length - i) Par.zr).length = l.length := by simp; omega
      simp only [ParE, nth_map h1, h2, EV, Nat.reduceEqDiff, Nat.reduceBEq, Nat.reduceLT, Nat.reduceLeDiff, Nat.reduceAdd, Nat.reduceSub, reduceIte]
      refine callK_i (d241 l[i] (hs l[i] (List.getElem_mem h1))) ?_
      simp only [ParE, h2, h3, EV, Nat.reduceEqDiff, Nat.reduceBEq, Nat.reduceLT, Nat.reduceLeDiff, Nat.reduceAdd, Nat.reduceSub, reduceIte]
      refine ⟨h1, i + 1, by omega, by omega, ?_⟩
      have ez : l[i].o ++ List.drop 3 Par.zr = l[i].o := List.append_nil _
      rw [fill_nth h1, w64 _ (by omega), ez, fill_set h1]
      rfl
    · have h1 : i = l.length := by have : ¬ (i : Int) < l.length := by simpa using h
                                   omega
      subst h1
      simp only [EV, Nat.reduceEqDiff, Nat.reduceBEq, Nat.reduceLT, Nat.reduceLeDiff, Nat.reduceAdd, Nat.reduceSub, reduceIte]
      simp only [Nat.sub_self, List.replicate_zero, Par.nfz, EV, Nat.reduceEqDiff, Nat.reduceBEq, Nat.reduceLT, Nat.reduceLeDiff, Nat.reduceAdd, Nat.reduceSub, reduceIte, evRE, retVC, cellV', evR, nfz, nfzs, nfzss, List.contains_nil, List.contains_cons, Bool.or_false, or_true]
def m243 : MC :=
 (.seq (.reg [Xb 2 (.box 54 (.t 0)), Xb 3 (.box 54 (.t 1)), Xb 4 (.asg .fb)]) (.seq (.seq (.reg [Xf 5 0 2, Xl 6 1 5, Xf 7 0 3, Xl 8 1 7, Xq 9 (.bin false .neq (.t 6) (.t 8))]) (.cond (.t 9) (.seq (.reg [Xb 4 (.asg .fb)]) .ret) .skip)) (.seq (.seq (.reg [Xf 10 1 2, Xl 11 1 10, Xf 12 1 3, Xl 13 1 12, Xq 14 (.bin true .neq (.t 11) (.t 13))]) (.cond (.t 14) (.seq (.reg [Xb 4 (.asg .fb)]) .ret) .skip))
 (.seq (.seq (.reg [Xf 15 2 2, Xl 16 1 15, Xf 17 2 3, Xl 18 1 17, Xq 19 (.bin false .neq (.t 16) (.t 18))]) (.cond (.t 19) (.seq (.reg [Xb 4 (.asg .fb)]) .ret) .skip)) (.seq (.reg [Xb 4 (.asg .tb)]) .ret)))))
set_option maxRecDepth 100000 in
theorem d243 (s : Par) (hs : s.sm) : Does Go.Proofs.Tryz.prog 243 [.agg s.z, .agg s.z] false (.v (.bool true)) [.dead, .dead] := by
  unfold Par.sm at hs
  refine does_intro (mc := m243) (N := 20) (rs := [4]) (fx := []) 2 rfl (by decide +kernel) ?_
  simp only [m243, Par.z, EV, Nat.reduceEqDiff, Nat.reduceBEq, Nat.reduceLT, Nat.reduceLeDiff, Nat.reduceAdd, Nat.reduceSub, reduceIte]
  simp only [EV, Nat.reduceEqDiff, Nat.reduceBEq, Nat.reduceLT, Nat.reduceLeDiff, Nat.reduceAdd, Nat.reduceSub, reduceIte, evRE, retVC, cellV', evR, nfz, nfzs, nfzss, List.contains_nil, List.contains_cons, Bool.or_false, or_true]
def m216 : MC :=
 (.seq (.reg [Xb 4 (.asg .fb)]) (.seq (.seq (.reg [Xm 6 0, Xn 7 6, Xm 8 1, Xn 9 8, Xq 10 (.bin false .neq (.t 7) (.t 9))]) (.cond (.t 10) (.seq (.reg [Xb 4 (.asg .fb)]) .ret) .skip)) (.seq (.seq (.reg [Xb 5 (.asg (.i 0))]) (.block 0 (.loop [0, 1, 5] (.seq (.seq (.reg [Xm 11 5, Xm 12 0, Xn 13 12, Xq 14 (.bin false .lss (.t 11) (.t 13))]) (.cond (.t 14) .skip (.exit 0))) (.seq (.block 1 (.seq (.dreg
 [Xm 17 0, Xm 18 5, Xi 19 3 17 18, XL 20 3 19, Xm 21 1, Xm 22 5, Xi 23 3 21 22, XL 24 3 23, Xb 25 (.call (.fn 243) false [.lend (.t 20), .lend (.t 24)]), Xq 26 (.un .not (.t 25))]) (.cond (.t 26) (.seq (.reg [Xb 4 (.asg .fb)]) .ret) .skip))) (.reg [Xm 15 5, Xq 16 (.bin false .add (.t 15) (.i 1)), Xa 5 16])))))) (.seq (.reg [Xb 4 (.asg .tb)]) .ret))))
theorem d216 (l : List Par) (hl : (l.length : Int) ≤ 1048576) (hs : ∀ s ∈ l, s.sm) : Does Go.Proofs.Tryz.prog 216 [.fsl 3 (l.map Par.z), .fsl 3 (l.map Par.z)] false (.v (.bool true)) [.dead, .dead] := by
  refine does_intro (mc := m216) (N := 27) (rs := [4]) (fx := []) 2 rfl (by decide +kernel) ?_
  simp only [m216, EV, Nat.reduceEqDiff, Nat.reduceBEq, Nat.reduceLT, Nat.reduceLeDiff, Nat.reduceAdd, Nat.reduceSub, reduceIte]
  refine awp_loop (fun i : Nat => i ≤ l.length) (fun i => stl [(0, .fsl 3 (l.map Par.z)), (1, .fsl 3 (l.map Par.z)), (5, .v (.int .i64 (i : Int)))]) (fun i => l.length - i) 0 (Nat.zero_le _) ?_ ?_
  · simp only [EV, Nat.reduceEqDiff, Nat.reduceBEq, Nat.reduceLT, Nat.reduceLeDiff, Nat.reduceAdd, Nat.reduceSub, reduceIte]
    rfl
  · intro i hi
    simp only [EV, Nat.reduceEqDiff, Nat.reduceBEq, Nat.reduceLT, Nat.reduceLeDiff, Nat.reduceAdd, Nat.reduceSub, reduceIte]
    refine cK_cut (fun h => ?_) (fun h => ?_)
    · have h1 : i < l.length := by simpa using h
      have h2 : (i : Int) < (l.length : Int) := by omega
      simp only [ParE, nth_map h1, h2, EV, Nat.reduceEqDiff, Nat.reduceBEq, Nat.reduceLT, Nat.reduceLeDiff, Nat.reduceAdd, Nat.reduceSub, reduceIte]
      refine callD_i (d243 l[i] (hs l[i] (List.getElem_mem h1))) rfl ?_
      simp only [EV, Nat.reduceEqDiff, Nat.reduceBEq, Nat.reduceLT, Nat.reduceLeDiff, Nat.reduceAdd, Nat.reduceSub, reduceIte]
      refine ⟨i + 1, by omega, by omega, ?_⟩
      rw [w64 _ (by omega)]
      rfl
    · have h1 : i = l.length := by have : ¬ (i : Int) < l.length := by simpa using h
                                   omega
      simp only [EV, Nat.reduceEqDiff, Nat.reduceBEq, Nat.reduceLT, Nat.reduceLeDiff, Nat.reduceAdd, Nat.reduceSub, reduceIte]
      simp only [EV, Nat.reduceEqDiff, Nat.reduceBEq, Nat.reduceLT, Nat.reduceLeDiff, Nat.reduceAdd, Nat.reduceSub, reduceIte, evRE, retVC, cellV', evR, nfz, nfzs, nfzss, List.contains_nil, List.contains_cons, Bool.or_false, or_true]
end Go.AM
namespace Go.AM
set_option linter.unusedVariables false
set_option linter.unusedSimpArgs false
structure Ob where
  name : ByteArray
  kind : Int
  mark : Int
  typ : Int
  value : Int
  params : List Par
def Ob.z (s : Ob) : List AV := [.v (.string s.name), .v (.int .i64 s.kind), .v (.int .i64 s.mark), .v (.int .i64 s.typ), .v (.int .i64 s.value), .fsl 3 (s.params.map Par.z)]
def Ob.o (s : Ob) : List AV := [.v (.string s.name), .v (.int .i64 s.kind), .v (.int .i64 s.mark), .v (.int .i64 s.typ), .v (.int .i64 s.value), .usl 54 3 (s.params.map Par.o)]
def Ob.zr : List AV := [.v (.string ⟨#[]⟩), .v (.int .i64 0), .v (.int .i64 0), .v (.int .i64 0), .v (.int .i64 0), .usl 54 3 []]
theorem Ob.fr (s : Ob) : frzRow s.o = s.z := by
  simp only [Ob.o, Ob.z, frzRow, frzL, List.cons_append, List.nil_append, Par.frz]
theorem Ob.frz : ∀ l : List Ob, frzRows (l.map Ob.o) = l.map Ob.z
  | [] => rfl
  | s :: l => by simp only [List.map_cons, frzRows, Ob.fr, Ob.frz l]
theorem Ob.nf (s : Ob) : nfzs s.o = true := by
  simp only [Ob.o, nfzs, nfz, List.cons_append, List.nil_append, Bool.and_self, Par.nfz]
theorem Ob.nfz : ∀ l : List Ob, nfzss (l.map Ob.o) = true
  | [] => rfl
  | s :: l => by simp only [List.map_cons, nfzss, Ob.nf, Ob.nfz l, Bool.and_self]
theorem ObE : (∀ f : Ob, f.z.length = 6) ∧ (∀ f : Ob, f.z.take 6 = f.z) ∧ (∀ (st : St) (f : Ob), frzBs st f.z = f.z) ∧ (∀ f : Ob, bares f.z = true) ∧ (∀ f : Ob, plains f.z = true) ∧
    (∀ (f : Ob) (K : Nat → List (Nat × Nat) → Bool), killVs K f.z = f.z) ∧ (∀ f : Ob, f.z.all storL = true) ∧ (∀ f : Ob, f.o.length = 6) ∧ (∀ f : Ob, f.o.take 6 = f.o) ∧ (∀ f : Ob, bares f.o = false) ∧
    (∀ f : Ob, plains f.o = false) ∧ (∀ (f : Ob) (K : Nat → List (Nat × Nat) → Bool), killVs K f.o = f.o) ∧ (∀ f : Ob, f.o.all storL = true) :=
  ⟨fun _ => rfl, fun _ => rfl, fun _ _ => rfl, fun _ => rfl, fun _ => rfl, fun _ _ => rfl, fun _ => rfl, fun _ => rfl, fun _ => rfl, fun _ => rfl, fun _ => rfl, fun _ _ => rfl, fun _ => rfl⟩
def Ob.ok (s : Ob) : Prop := (s.name.size : Int) ≤ 9223372036854775807 ∧ (-9223372036854775808 ≤ s.kind ∧ s.kind ≤ 9223372036854775807) ∧ (-9223372036854775808 ≤ s.mark ∧ s.mark ≤ 9223372036854775807) ∧ (-9223372036854775808 ≤ s.typ ∧ s.typ ≤ 9223372036854775807) ∧ (-9223372036854775808 ≤ s.value ∧ s.value ≤ 9223372036854775807) ∧ ((s.params.length : Int) ≤ 9223372036854775807 ∧ ∀ y ∈ s.params, y.ok)
def Ob.sm (s : Ob) : Prop := (s.name.size : Int) ≤ 1048576 ∧ True ∧ True ∧ True ∧ True ∧ ((s.params.length : Int) ≤ 1048576 ∧ ∀ y ∈ s.params, y.sm)
def szOb (s : Ob) (k : Int) : Int := if k - s.name.size < 0 then -1 else if szParS s.params (k - s.name.size) < 0 then -1 else szParS s.params (k - s.name.size)
def totOb (s : Ob) : Int := (s.name.size : Int) + totPars s.params
theorem szOb_le (s : Ob) (k : Int) (h : 0 ≤ k) : szOb s k ≤ k := by
  unfold szOb
  by_cases g0 : k - s.name.size < 0
  · rw [if_pos g0]; omega
  rw [if_neg g0]
  have l1 := szParS_le s.params (k - s.name.size) (by omega)
  by_cases g1 : szParS s.params (k - s.name.size) < 0
  · rw [if_pos g1]; omega
  rw [if_neg g1]
  omega
theorem szOb_tot (s : Ob) (k : Int) (h : 0 ≤ szOb s k) : totOb s + szOb s k = k := by
  unfold szOb at h ⊢
  unfold totOb
  by_cases g0 : k - s.name.size < 0
  · rw [if_pos g0] at h; omega
  rw [if_neg g0] at h ⊢
  by_cases g1 : szParS s.params (k - s.name.size) < 0
  · rw [if_pos g1] at h; omega
  rw [if_neg g1] at h ⊢
  have t1 := szParS_tot s.params (k - s.name.size) (by omega)
  omega
theorem totOb_nn (s : Ob) : 0 ≤ totOb s := by
  unfold totOb
  have n5 := totPars_nn s.params
  omega
theorem Ob.sm_of (s : Ob) (h : totOb s ≤ 1048576) : s.sm := by
  unfold totOb at h
  have n5 := totPars_nn s.params
  exact ⟨by omega, trivial, trivial, trivial, trivial, ⟨by omega, fun y hy => Par.sm_of y (by have := totPars_mem s.params y hy; omega)⟩⟩
def m153 : MC :=
 (.seq (.reg [Xb 2 (.box 171 (.t 0)), Xb 4 (.asg (.i 0))]) (.seq (.reg [Xm 5 1, Xf 6 0 2, Xl 7 1 6, Xq 8 (.len true (.t 7)), Xq 9 (.bin false .sub (.t 5) (.t 8)), Xa 1 9]) (.seq (.seq (.reg [Xm 10 1, Xq 11 (.bin false .lss (.t 10) (.i 0))]) (.cond (.t 11) (.seq (.reg [Xb 4 (.asg (.i (-1)))]) .ret) .skip)) (.seq (.reg [Xf 12 5 2, Xl 13 1 12, Xm 14 1, Xb 15 (.call (.fn 212) false [.lend (.t 13),
 .lend (.t 14)]), Xa 1 15]) (.seq (.seq (.reg [Xm 16 1, Xq 17 (.bin false .lss (.t 16) (.i 0))]) (.cond (.t 17) (.seq (.reg [Xb 4 (.asg (.i (-1)))]) .ret) .skip)) (.seq (.reg [Xm 18 1, Xa 4 18]) .ret))))))
set_option maxRecDepth 100000 in
theorem d153 (s : Ob) (k : Int) (h0 : 0 ≤ k) (h1 : k ≤ 1048576) (hok : s.ok) : Does Go.Proofs.Tryz.prog 153 [.agg s.z, .v (.int .i64 k)] false (.v (.int .i64 (szOb s k))) [.dead, .dead] := by
  unfold Ob.ok at hok
  refine does_intro (mc := m153) (N := 19) (rs := [4]) (fx := []) 2 rfl (by decide +kernel) ?_
  simp only [m153, Ob.z, EV, Nat.reduceEqDiff, Nat.reduceBEq, Nat.reduceLT, Nat.reduceLeDiff, Nat.reduceAdd, Nat.reduceSub, reduceIte]
  have b0 := hok.1
  have w0 := w64 (k - s.name.size) (by omega)
  simp only [w0, EV, Nat.reduceEqDiff, Nat.reduceBEq, Nat.reduceLT, Nat.reduceLeDiff, Nat.reduceAdd, Nat.reduceSub, reduceIte]
  refine cK_cut (fun h => ?_) (fun h => ?_)
  · have g0 : k - s.name.size < 0 := by simpa using h
    have e : szOb s k = -1 := by unfold szOb; rw [if_pos g0]
    simp only [EV, Nat.reduceEqDiff, Nat.reduceBEq, Nat.reduceLT, Nat.reduceLeDiff, Nat.reduceAdd, Nat.reduceSub, reduceIte]
    simp only [e, EV, Nat.reduceEqDiff, Nat.reduceBEq, Nat.reduceLT, Nat.reduceLeDiff, Nat.reduceAdd, Nat.reduceSub, reduceIte, evRE, retVC, cellV', evR, nfz, nfzs, nfzss, List.contains_nil, List.contains_cons, Bool.or_false, or_true]
  · have g0 : ¬ k - s.name.size < 0 := by simpa using h
    simp only [EV, Nat.reduceEqDiff, Nat.reduceBEq, Nat.reduceLT, Nat.reduceLeDiff, Nat.reduceAdd, Nat.reduceSub, reduceIte]
    have l1 := szParS_le s.params (k - s.name.size) (by omega)
    refine callK_i (d212 s.params (k - s.name.size) (by omega) (by omega) (hok.2.2.2.2.2).1 (hok.2.2.2.2.2).2) ?_
    simp only [EV, Nat.reduceEqDiff, Nat.reduceBEq, Nat.reduceLT, Nat.reduceLeDiff, Nat.reduceAdd, Nat.reduceSub, reduceIte]
    refine cK_cut (fun h => ?_) (fun h => ?_)
    · have g1 : szParS s.params (k - s.name.size) < 0 := by simpa using h
      have e : szOb s k = -1 := by unfold szOb; rw [if_neg g0, if_pos g1]
      simp only [EV, Nat.reduceEqDiff, Nat.reduceBEq, Nat.reduceLT, Nat.reduceLeDiff, Nat.reduceAdd, Nat.reduceSub, reduceIte]
      simp only [e, EV, Nat.reduceEqDiff, Nat.reduceBEq, Nat.reduceLT, Nat.reduceLeDiff, Nat.reduceAdd, Nat.reduceSub, reduceIte, evRE, retVC, cellV', evR, nfz, nfzs, nfzss, List.contains_nil, List.contains_cons, Bool.or_false, or_true]
    · have g1 : ¬ szParS s.params (k - s.name.size) < 0 := by simpa using h
      simp only [EV, Nat.reduceEqDiff, Nat.reduceBEq, Nat.reduceLT, Nat.reduceLeDiff, Nat.reduceAdd, Nat.reduceSub, reduceIte]
      have e : szOb s k = szParS s.params (k - s.name.size) := by unfold szOb; rw [if_neg g0, if_neg g1]
      simp only [e, EV, Nat.reduceEqDiff, Nat.reduceBEq, Nat.reduceLT, Nat.reduceLeDiff, Nat.reduceAdd, Nat.reduceSub, reduceIte, evRE, retVC, cellV', evR, nfz, nfzs, nfzss, List.contains_nil, List.contains_cons, Bool.or_false, or_true]
def szObs : List Ob → Int → Int
  | [], k => k
  | s :: r, k => if szOb s k < 0 then -1 else szObs r (szOb s k)
def szObS (l : List Ob) (k : Int) : Int := if k - l.length < 0 then -1 else szObs l (k - l.length)
theorem szObs_le : ∀ (l : List Ob) (k : Int), 0 ≤ k → szObs l k ≤ k
  | [], k, h => by simp [szObs]
  | s :: r, k, h => by
    simp only [szObs]
    have h1 := szOb_le s k h
    split
    · omega
    · have := szObs_le r (szOb s k) (by omega)
      omega
theorem szObS_le (l : List Ob) (k : Int) (h : 0 ≤ k) : szObS l k ≤ k := by
  unfold szObS
  split
  · omega
  · have := szObs_le l (k - l.length) (by omega); omega
def totObs : List Ob → Int
  | [] => 0
  | s :: r => 1 + totOb s + totObs r
theorem szObs_tot : ∀ (l : List Ob) (k : Int), 0 ≤ szObs l k → totObs l + szObs l k = k + l.length
  | [], k, h => by simp [szObs, totObs]
  | s :: r, k, h => by
    simp only [szObs] at h ⊢
    split
    · rename_i h1; rw [if_pos h1] at h; omega
    · rename_i h1
      rw [if_neg h1] at h
      have h2 := szOb_tot s k (by omega)
      have h3 := szObs_tot r _ h
      simp only [totObs, List.length_cons]
      omega
theorem szObS_tot (l : List Ob) (k : Int) (h : 0 ≤ szObS l k) : totObs l + szObS l k = k := by
  unfold szObS at h ⊢
  split
  · rename_i h1; rw [if_pos h1] at h; omega
  · rename_i h1
    rw [if_neg h1] at h
    have := szObs_tot l _ h
    omega
theorem totObs_nn : ∀ l : List Ob, (l.length : Int) ≤ totObs l
  | [] => by simp [totObs]
  | s :: r => by
    have := totObs_nn r
    have := totOb_nn s
    simp only [totObs, List.length_cons]
    omega
theorem totObs_mem : ∀ (l : List Ob) (s : Ob), s ∈ l → totOb s ≤ totObs l
  | x :: r, s, h => by
    simp only [totObs]
    have h3 := totOb_nn x
    have h2 := totObs_nn r
    rcases List.mem_cons.1 h with h | h
    · subst h; omega
    · have := totObs_mem r s h; omega
def m87 : MC :=
 (.seq (.reg [Xb 4 (.asg (.i 0))]) (.seq (.reg [Xm 6 1, Xm 7 0, Xn 8 7, Xq 9 (.bin false .sub (.t 6) (.t 8)), Xa 1 9]) (.seq (.seq (.reg [Xm 10 1, Xq 11 (.bin false .lss (.t 10) (.i 0))]) (.cond (.t 11) (.seq (.reg [Xb 4 (.asg (.i (-1)))]) .ret) .skip)) (.seq (.seq (.reg [Xb 5 (.asg (.i 0))]) (.block 0 (.loop [0, 1, 5] (.seq (.seq (.reg [Xm 12 5, Xm 13 0, Xn 14 13, Xq 15 (.bin false .lss (.t 12)
 (.t 14))]) (.cond (.t 15) .skip (.exit 0))) (.seq (.block 1 (.seq (.reg [Xm 18 0, Xm 19 5, Xi 20 6 18 19, XL 21 6 20, Xm 22 1, Xb 23 (.call (.fn 153) false [.lend (.t 21), .lend (.t 22)]), Xa 1 23]) (.seq (.reg [Xm 24 1, Xq 25 (.bin false .lss (.t 24) (.i 0))]) (.cond (.t 25) (.seq (.reg [Xb 4 (.asg (.i (-1)))]) .ret) .skip)))) (.reg [Xm 16 5, Xq 17 (.bin false .add (.t 16) (.i 1)), Xa 5 17]))))))
 (.seq (.reg [Xm 26 1, Xa 4 26]) .ret)))))
theorem d87 (l : List Ob) (k : Int) (h0 : 0 ≤ k) (h1 : k ≤ 1048576) (hl : (l.length : Int) ≤ 9223372036854775807) (hs : ∀ s ∈ l, s.ok) :
    Does Go.Proofs.Tryz.prog 87 [.fsl 6 (l.map Ob.z), .v (.int .i64 k)] false (.v (.int .i64 (szObS l k))) [.dead, .dead] := by
  refine does_intro (mc := m87) (N := 27) (rs := [4]) (fx := []) 2 rfl (by decide +kernel) ?_
  simp only [m87, EV, Nat.reduceEqDiff, Nat.reduceBEq, Nat.reduceLT, Nat.reduceLeDiff, Nat.reduceAdd, Nat.reduceSub, reduceIte]
  have w1 := w64 (k - l.length) (by omega)
  simp only [w1]
  refine cK_cut (fun h => ?_) (fun h => ?_)
  · have h2 : k - l.length < 0 := by simpa using h
    have e : szObS l k = -1 := by simp [szObS, h2]
    simp only [EV, Nat.reduceEqDiff, Nat.reduceBEq, Nat.reduceLT, Nat.reduceLeDiff, Nat.reduceAdd, Nat.reduceSub, reduceIte]
    simp only [e, EV, Nat.reduceEqDiff, Nat.reduceBEq, Nat.reduceLT, Nat.reduceLeDiff, Nat.reduceAdd, Nat.reduceSub, reduceIte, evRE, retVC, cellV', evR, nfz, nfzs, nfzss, List.contains_nil, List.contains_cons, Bool.or_false, or_true]
  · have h2 : ¬ k - l.length < 0 := by simpa using h
    have e : szObS l k = szObs l (k - l.length) := by simp [szObS, h2]
    simp only [EV, Nat.reduceEqDiff, Nat.reduceBEq, Nat.reduceLT, Nat.reduceLeDiff, Nat.reduceAdd, Nat.reduceSub, reduceIte]
    refine awp_loop (fun p : Nat × Int => p.1 ≤ l.length ∧ 0 ≤ p.2 ∧ p.2 ≤ 1048576 ∧ szObs (l.drop p.1) p.2 = szObS l k)
      (fun p => stl [(0, .fsl 6 (l.map Ob.z)), (1, .v (.int .i64 p.2)), (5, .v (.int .i64 (p.1 : Int)))]) (fun p => l.length - p.1) (0, k - l.length) ⟨by simp, by simp only; omega, by simp only; omega, by simp [e]⟩ ?_ ?_
    · simp only [EV, Nat.reduceEqDiff, Nat.reduceBEq, Nat.reduceLT, Nat.reduceLeDiff, Nat.reduceAdd, Nat.reduceSub, reduceIte]
      rfl
    · rintro ⟨i, n⟩ ⟨p0, p1, p2, p3⟩
      simp only at p0 p1 p2 p3
      simp only [EV, Nat.reduceEqDiff, Nat.reduceBEq, Nat.reduceLT, Nat.reduceLeDiff, Nat.reduceAdd, Nat.reduceSub, reduceIte]
      refine cK_cut (fun h => ?_) (fun h => ?_)
      · have h3 : i < l.length := by simpa using h
        have h4 : (i : Int) < (l.length : Int) := by omega
        rw [List.drop_eq_getElem_cons h3] at p3
        simp only [szObs] at p3
        have hle := szOb_le l[i] n p1
        simp only [ObE, nth_map h3, h4, EV, Nat.reduceEqDiff, Nat.reduceBEq, Nat.reduceLT, Nat.reduceLeDiff, Nat.reduceAdd, Nat.reduceSub, reduceIte]
        refine callK_i (d153 l[i] n p1 p2 (hs l[i] (List.getElem_mem h3))) ?_
        simp only [ObE, nth_map h3, h4, EV, Nat.reduceEqDiff, Nat.reduceBEq, Nat.reduceLT, Nat.reduceLeDiff, Nat.reduceAdd, Nat.reduceSub, reduceIte]
        refine cK_cut (fun h => ?_) (fun h => ?_)
        · have h5 : szOb l[i] n < 0 := by simpa using h
          rw [if_pos h5] at p3
          simp only [EV, Nat.reduceEqDiff, Nat.reduceBEq, Nat.reduceLT, Nat.reduceLeDiff, Nat.reduceAdd, Nat.reduceSub, reduceIte]
          simp only [← p3, EV, Nat.reduceEqDiff, Nat.reduceBEq, Nat.reduceLT, Nat.reduceLeDiff, Nat.reduceAdd, Nat.reduceSub, reduceIte, evRE, retVC, cellV', evR, nfz, nfzs, nfzss, List.contains_nil, List.contains_cons, Bool.or_false, or_true]
        · have h5 : ¬ szOb l[i] n < 0 := by simpa using h
          rw [if_neg h5] at p3
          have w2 := w64 ((i : Int) + 1) (by omega)
          simp only [w2, EV, Nat.reduceEqDiff, Nat.reduceBEq, Nat.reduceLT, Nat.reduceLeDiff, Nat.reduceAdd, Nat.reduceSub, reduceIte]
          exact ⟨(i + 1, szOb l[i] n), ⟨by simp only; omega, by simp only; omega, by simp only; omega, p3⟩, by simp only; omega, rfl⟩
      · have h3 : i = l.length := by have : ¬ (i : Int) < l.length := by simpa using h
                                     omega
        subst h3
        rw [List.drop_length] at p3
        simp only [szObs] at p3
        simp only [EV, Nat.reduceEqDiff, Nat.reduceBEq, Nat.reduceLT, Nat.reduceLeDiff, Nat.reduceAdd, Nat.reduceSub, reduceIte]
        simp only [← p3, EV, Nat.reduceEqDiff, Nat.reduceBEq, Nat.reduceLT, Nat.reduceLeDiff, Nat.reduceAdd, Nat.reduceSub, reduceIte, evRE, retVC, cellV', evR, nfz, nfzs, nfzss, List.contains_nil, List.contains_cons, Bool.or_false, or_true]
def m156 : MC :=
 (.seq (.reg [Xb 1 (.box 171 (.t 0)), Xb 2 (.alloc 52 [.z, .i, .i, .i, .i, .s 54 3])]) (.seq (.reg [Xb 3 (.alloc 52 [.z, .i, .i, .i, .i, .s 54 3])]) (.seq (.reg [Xf 4 0 1, Xl 5 1 4, Xf 6 0 3, Xz (.store 1 (.t 6) (.t 5))]) (.seq (.reg [Xf 7 1 1, Xl 8 1 7, Xf 9 1 3, Xz (.store 1 (.t 9) (.t 8))]) (.seq (.reg [Xf 10 2 1, Xl 11 1 10, Xf 12 2 3, Xz (.store 1 (.t 12) (.t 11))]) (.seq (.reg [Xf 13 3 1, Xl
 14 1 13, Xf 15 3 3, Xz (.store 1 (.t 15) (.t 14))]) (.seq (.reg [Xf 16 4 1, Xl 17 1 16, Xf 18 4 3, Xz (.store 1 (.t 18) (.t 17))]) (.seq (.reg [Xf 19 5 1, Xl 20 1 19, Xb 21 (.call (.fn 214) false [.lend (.t 20)]), Xf 22 5 3, Xz (.store 1 (.t 22) (.t 21))]) (.seq (.reg [XL 23 6 3, Xz (.store 6 (.t 2) (.t 23))]) .ret)))))))))
set_option maxRecDepth 100000 in
theorem d156 (s : Ob) (hs : s.sm) : Does Go.Proofs.Tryz.prog 156 [.agg s.z] false (.agg s.o) [.dead] := by
  unfold Ob.sm at hs
  refine does_introC (mc := m156) (N := 24) (r := 2) (ty := 52) (agg := true) (sz := 6) (fx := []) 1 rfl (by decide +kernel) ?_
  simp only [m156, Ob.z, Ob.o, EV, Nat.reduceEqDiff, Nat.reduceBEq, Nat.reduceLT, Nat.reduceLeDiff, Nat.reduceAdd, Nat.reduceSub, reduceIte]
  refine callK_i (d214 s.params (hs.2.2.2.2.2).1 (hs.2.2.2.2.2).2) ?_
  simp only [Ob.z, Ob.o, EV, Nat.reduceEqDiff, Nat.reduceBEq, Nat.reduceLT, Nat.reduceLeDiff, Nat.reduceAdd, Nat.reduceSub, reduceIte]
  simp only [Par.nfz, EV, Nat.reduceEqDiff, Nat.reduceBEq, Nat.reduceLT, Nat.reduceLeDiff, Nat.reduceAdd, Nat.reduceSub, reduceIte, evRE, retVC, cellV', evR, nfz, nfzs, nfzss, List.contains_nil, List.contains_cons, Bool.or_false, or_true]
def m91 : MC :=
 (.seq (.reg [Xb 2 (.asg (.nils 52 6))]) (.seq (.reg [Xm 5 0, Xn 6 5, Xb 7 (.mks 52 6 72 [.z, .i, .i, .i, .i, .s 54 3] (.t 6) (.t 6)), Xa 3 7]) (.seq (.seq (.reg [Xb 4 (.asg (.i 0))]) (.block 0 (.loop [0, 3, 4, 7] (.seq (.seq (.reg [Xm 8 4, Xm 9 0, Xn 10 9, Xq 11 (.bin false .lss (.t 8) (.t 10))]) (.cond (.t 11) .skip (.exit 0))) (.seq (.block 1 (.reg [Xm 14 3, Xm 15 4, Xm 16 0, Xm 17 4, Xi 18 6 16
 17, XL 19 6 18, Xb 20 (.call (.fn 156) false [.lend (.t 19)]), Xi 21 6 14 15, Xz (.store 6 (.t 21) (.t 20))])) (.reg [Xm 12 4, Xq 13 (.bin false .add (.t 12) (.i 1)), Xa 4 13])))))) (.seq (.reg [Xm 22 3, Xa 2 22]) .ret))))
theorem d91 (l : List Ob) (hl : (l.length : Int) ≤ 1048576) (hs : ∀ s ∈ l, s.sm) : Does Go.Proofs.Tryz.prog 91 [.fsl 6 (l.map Ob.z)] false (.usl 52 6 (l.map Ob.o)) [.dead] := by
  refine does_intro (mc := m91) (N := 23) (rs := [2]) (fx := []) 1 rfl (by decide +kernel) ?_
  simp only [m91, EV, Nat.reduceEqDiff, Nat.reduceBEq, Nat.reduceLT, Nat.reduceLeDiff, Nat.reduceAdd, Nat.reduceSub, reduceIte]
  refine ⟨by omega, by omega, ?_⟩
  refine awp_loop (fun i : Nat => i ≤ l.length) (fun i => stl [(0, .fsl 6 (l.map Ob.z)), (3, .usl 52 6 ((l.take i).map Ob.o ++ List.replicate (l.length - i) Ob.zr)), (4, .v (.int .i64 (i : Int))), (7, .dead)]) (fun i => l.length - i) 0 (Nat.zero_le _) ?_ ?_
  · simp only [EV, Nat.reduceEqDiff, Nat.reduceBEq, Nat.reduceLT, Nat.reduceLeDiff, Nat.reduceAdd, Nat.reduceSub, reduceIte]
    rfl
  · intro i hi
    simp only [EV, Nat.reduceEqDiff, Nat.reduceBEq, Nat.reduceLT, Nat.reduceLeDiff, Nat.reduceAdd, Nat.reduceSub, reduceIte]
    refine cK_cut (fun h => ?_) (fun h => ?_)
    · have h1 : i < l.length := by simpa using h
      have h2 : (i : Int) < (l.length : Int) := by omega
      have h3 : ((l.take i).map Ob.o ++ List.replicate (l.length - i) Ob.zr).length = l.length := by simp; omega
      simp only [ObE, nth_map h1, h2, EV, Nat.reduceEqDiff, Nat.reduceBEq, Nat.reduceLT, Nat.reduceLeDiff, Nat.reduceAdd, Nat.reduceSub, reduceIte]
      refine callK_i (d156 l[i] (hs l[i] (List.getElem_mem h1))) ?_
      simp only [ObE, h2, h3, EV, Nat.reduceEqDiff, Nat.reduceBEq, Nat.reduceLT, Nat.reduceLeDiff, Nat.reduceAdd, Nat.reduceSub, reduceIte]
      refine ⟨h1, i + 1, by omega, by omega, ?_⟩
      have ez : l[i].o ++ List.drop 6 Ob.zr = l[i].o := List.append_nil _
      rw [fill_nth h1, w64 _ (by omega), ez, fill_set h1]
      rfl
    · have h1 : i = l.length := by have : ¬ (i : Int) < l.length := by simpa using h
                                   omega
      subst h1
      simp only [EV, Nat.reduceEqDiff, Nat.reduceBEq, Nat.reduceLT, Nat.reduceLeDiff, Nat.reduceAdd, Nat.reduceSub, reduceIte]
      simp only [Nat.sub_self, List.replicate_zero, Ob.nfz, EV, Nat.reduceEqDiff, Nat.reduceBEq, Nat.reduceLT, Nat.reduceLeDiff, Nat.reduceAdd, Nat.reduceSub, reduceIte, evRE, retVC, cellV', evR, nfz, nfzs, nfzss, List.contains_nil, List.contains_cons, Bool.or_false, or_true]
def m159 : MC :=
 (.seq (.reg [Xb 2 (.box 52 (.t 0)), Xb 3 (.box 52 (.t 1)), Xb 4 (.asg .fb)]) (.seq (.seq (.reg [Xf 5 0 2, Xl 6 1 5, Xf 7 0 3, Xl 8 1 7, Xq 9 (.bin false .neq (.t 6) (.t 8))]) (.cond (.t 9) (.seq (.reg [Xb 4 (.asg .fb)]) .ret) .skip)) (.seq (.seq (.reg [Xf 10 1 2, Xl 11 1 10, Xf 12 1 3, Xl 13 1 12, Xq 14 (.bin false .neq (.t 11) (.t 13))]) (.cond (.t 14) (.seq (.reg [Xb 4 (.asg .fb)]) .ret) .skip))
 (.seq (.seq (.reg [Xf 15 2 2, Xl 16 1 15, Xf 17 2 3, Xl 18 1 17, Xq 19 (.bin false .neq (.t 16) (.t 18))]) (.cond (.t 19) (.seq (.reg [Xb 4 (.asg .fb)]) .ret) .skip)) (.seq (.seq (.reg [Xf 20 3 2, Xl 21 1 20, Xf 22 3 3, Xl 23 1 22, Xq 24 (.bin false .neq (.t 21) (.t 23))]) (.cond (.t 24) (.seq (.reg [Xb 4 (.asg .fb)]) .ret) .skip)) (.seq (.seq (.reg [Xf 25 4 2, Xl 26 1 25, Xf 27 4 3, Xl 28 1 27,
 Xq 29 (.bin false .neq (.t 26) (.t 28))]) (.cond (.t 29) (.seq (.reg [Xb 4 (.asg .fb)]) .ret) .skip)) (.seq (.seq (.reg [Xf 30 5 2, Xl 31 1 30, Xf 32 5 3, Xl 33 1 32, Xb 34 (.call (.fn 216) false [.lend (.t 31), .lend (.t 33)]), Xq 35 (.un .not (.t 34))]) (.cond (.t 35) (.seq (.reg [Xb 4 (.asg .fb)]) .ret) .skip)) (.seq (.reg [Xb 4 (.asg .tb)]) .ret))))))))
set_option maxRecDepth 100000 in
theorem d159 (s : Ob) (hs : s.sm) : Does Go.Proofs.Tryz.prog 159 [.agg s.z, .agg s.z] false (.v (.bool true)) [.dead, .dead] := by
  unfold Ob.sm at hs
  refine does_intro (mc := m159) (N := 36) (rs := [4]) (fx := []) 2 rfl (by decide +kernel) ?_
  simp only [m159, Ob.z, EV, Nat.reduceEqDiff, Nat.reduceBEq, Nat.reduceLT, Nat.reduceLeDiff, Nat.reduceAdd, Nat.reduceSub, reduceIte]
  refine callK_i (d216 s.params (hs.2.2.2.2.2).1 (hs.2.2.2.2.2).2) ?_
  simp only [Ob.z, EV, Nat.reduceEqDiff, Nat.reduceBEq, Nat.reduceLT, Nat.reduceLeDiff, Nat.reduceAdd, Nat.reduceSub, reduceIte]
  simp only [EV, Nat.reduceEqDiff, Nat.reduceBEq, Nat.reduceLT, Nat.reduceLeDiff, Nat.reduceAdd, Nat.reduceSub, reduceIte, evRE, retVC, cellV', evR, nfz, nfzs, nfzss, List.contains_nil, List.contains_cons, Bool.or_false, or_true]
def m95 : MC :=
 (.seq (.reg [Xb 4 (.asg .fb)]) (.seq (.seq (.reg [Xm 6 0, Xn 7 6, Xm 8 1, Xn 9 8, Xq 10 (.bin false .neq (.t 7) (.t 9))]) (.cond (.t 10) (.seq (.reg [Xb 4 (.asg .fb)]) .ret) .skip)) (.seq (.seq (.reg [Xb 5 (.asg (.i 0))]) (.block 0 (.loop [0, 1, 5] (.seq (.seq (.reg [Xm 11 5, Xm 12 0, Xn 13 12, Xq 14 (.bin false .lss (.t 11) (.t 13))]) (.cond (.t 14) .skip (.exit 0))) (.seq (.block 1 (.seq (.dreg
 [Xm 17 0, Xm 18 5, Xi 19 6 17 18, XL 20 6 19, Xm 21 1, Xm 22 5, Xi 23 6 21 22, XL 24 6 23, Xb 25 (.call (.fn 159) false [.lend (.t 20), .lend (.t 24)]), Xq 26 (.un .not (.t 25))]) (.cond (.t 26) (.seq (.reg [Xb 4 (.asg .fb)]) .ret) .skip))) (.reg [Xm 15 5, Xq 16 (.bin false .add (.t 15) (.i 1)), Xa 5 16])))))) (.seq (.reg [Xb 4 (.asg .tb)]) .ret))))
theorem d95 (l : List Ob) (hl : (l.length : Int) ≤ 1048576) (hs : ∀ s ∈ l, s.sm) : Does Go.Proofs.Tryz.prog 95 [.fsl 6 (l.map Ob.z), .fsl 6 (l.map Ob.z)] false (.v (.bool true)) [.dead, .dead] := by
  refine does_intro (mc := m95) (N := 27) (rs := [4]) (fx := []) 2 rfl (by decide +kernel) ?_
  simp only [m95, EV, Nat.reduceEqDiff, Nat.reduceBEq, Nat.reduceLT, Nat.reduceLeDiff, Nat.reduceAdd, Nat.reduceSub, reduceIte]
  refine awp_loop (fun i : Nat => i ≤ l.length) (fun i => stl [(0, .fsl 6 (l.map Ob.z)), (1, .fsl 6 (l.map Ob.z)), (5, .v (.int .i64 (i : Int)))]) (fun i => l.length - i) 0 (Nat.zero_le _) ?_ ?_
  · simp only [EV, Nat.reduceEqDiff, Nat.reduceBEq, Nat.reduceLT, Nat.reduceLeDiff, Nat.reduceAdd, Nat.reduceSub, reduceIte]
    rfl
  · intro i hi
    simp only [EV, Nat.reduceEqDiff, Nat.reduceBEq, Nat.reduceLT, Nat.reduceLeDiff, Nat.reduceAdd, Nat.reduceSub, reduceIte]
    refine cK_cut (fun h => ?_) (fun h => ?_)
    · have h1 : i < l.length := by simpa using h
      have h2 : (i : Int) < (l.length : Int) := by omega
      simp only [ObE, nth_map h1, h2, EV, Nat.reduceEqDiff, Nat.reduceBEq, Nat.reduceLT, Nat.reduceLeDiff, Nat.reduceAdd, Nat.reduceSub, reduceIte]
      refine callD_i (d159 l[i] (hs l[i] (List.getElem_mem h1))) rfl ?_
      simp only [EV, Nat.reduceEqDiff, Nat.reduceBEq, Nat.reduceLT, Nat.reduceLeDiff, Nat.reduceAdd, Nat.reduceSub, reduceIte]
      refine ⟨i + 1, by omega, by omega, ?_⟩
      rw [w64 _ (by omega)]
      rfl
    · have h1 : i = l.length := by have : ¬ (i : Int) < l.length := by simpa using h
                                   omega
      simp only [EV, Nat.reduceEqDiff, Nat.reduceBEq, Nat.reduceLT, Nat.reduceLeDiff, Nat.reduceAdd, Nat.reduceSub, reduceIte]
      simp only [EV, Nat.reduceEqDiff, Nat.reduceBEq, Nat.reduceLT, Nat.reduceLeDiff, Nat.reduceAdd, Nat.reduceSub, reduceIte, evRE, retVC, cellV', evR, nfz, nfzs, nfzss, List.contains_nil, List.contains_cons, Bool.or_false, or_true]
end Go.AM
namespace Go.AM
set_option linter.unusedVariables false
set_option linter.unusedSimpArgs false
structure Us where
  mod : ByteArray
  name : ByteArray
def Us.z (s : Us) : List AV := [.v (.string s.mod), .v (.string s.name)]
def Us.o (s : Us) : List AV := [.v (.string s.mod), .v (.string s.name)]
def Us.zr : List AV := [.v (.string ⟨#[]⟩), .v (.string ⟨#[]⟩)]
theorem Us.fr (s : Us) : frzRow s.o = s.z := by
  simp only [Us.o, Us.z, frzRow, frzL, List.cons_append, List.nil_append]
theorem Us.frz : ∀ l : List Us, frzRows (l.map Us.o) = l.map Us.z
  | [] => rfl
  | s :: l => by simp only [List.map_cons, frzRows, Us.fr, Us.frz l]
theorem Us.nf (s : Us) : nfzs s.o = true := by
  simp only [Us.o, nfzs, nfz, List.cons_append, List.nil_append, Bool.and_self]
theorem Us.nfz : ∀ l : List Us, nfzss (l.map Us.o) = true
  | [] => rfl
  | s :: l => by simp only [List.map_cons, nfzss, Us.nf, Us.nfz l, Bool.and_self]
theorem UsE : (∀ f : Us, f.z.length = 2) ∧ (∀ f : Us, f.z.take 2 = f.z) ∧ (∀ (st : St) (f : Us), frzBs st f.z = f.z) ∧ (∀ f : Us, bares f.z = true) ∧ (∀ f : Us, plains f.z = true) ∧
    (∀ (f : Us) (K : Nat → List (Nat × Nat) → Bool), killVs K f.z = f.z) ∧ (∀ f : Us, f.z.all storL = true) ∧ (∀ f : Us, f.o.length = 2) ∧ (∀ f : Us, f.o.take 2 = f.o) ∧ (∀ f : Us, bares f.o = true) ∧
    (∀ f : Us, plains f.o = true) ∧ (∀ (f : Us) (K : Nat → List (Nat × Nat) → Bool), killVs K f.o = f.o) ∧ (∀ f : Us, f.o.all storL = true) :=
  ⟨fun _ => rfl, fun _ => rfl, fun _ _ => rfl, fun _ => rfl, fun _ => rfl, fun _ _ => rfl, fun _ => rfl, fun _ => rfl, fun _ => rfl, fun _ => rfl, fun _ => rfl, fun _ _ => rfl, fun _ => rfl⟩
def Us.ok (s : Us) : Prop := (s.mod.size : Int) ≤ 9223372036854775807 ∧ (s.name.size : Int) ≤ 9223372036854775807
def Us.sm (s : Us) : Prop := (s.mod.size : Int) ≤ 1048576 ∧ (s.name.size : Int) ≤ 1048576
def szUs (s : Us) (k : Int) : Int := if k - s.mod.size < 0 then -1 else if k - s.mod.size - s.name.size < 0 then -1 else k - s.mod.size - s.name.size
def totUs (s : Us) : Int := (s.mod.size : Int) + (s.name.size : Int)
theorem szUs_le (s : Us) (k : Int) (h : 0 ≤ k) : szUs s k ≤ k := by
  unfold szUs
  by_cases g0 : k - s.mod.size < 0
  · rw [if_pos g0]; omega
  rw [if_neg g0]
  by_cases g1 : k - s.mod.size - s.name.size < 0
  · rw [if_pos g1]; omega
  rw [if_neg g1]
  omega
theorem szUs_tot (s : Us) (k : Int) (h : 0 ≤ szUs s k) : totUs s + szUs s k = k := by
  unfold szUs at h ⊢
  unfold totUs
  by_cases g0 : k - s.mod.size < 0
  · rw [if_pos g0] at h; omega
  rw [if_neg g0] at h ⊢
  by_cases g1 : k - s.mod.size - s.name.size < 0
  · rw [if_pos g1] at h; omega
  rw [if_neg g1] at h ⊢
  omega
theorem totUs_nn (s : Us) : 0 ≤ totUs s := by
  unfold totUs
  omega
theorem Us.sm_of (s : Us) (h : totUs s ≤ 1048576) : s.sm := by
  unfold totUs at h
  exact ⟨by omega, by omega⟩
def m154 : MC :=
 (.seq (.reg [Xb 2 (.box 173 (.t 0)), Xb 4 (.asg (.i 0))]) (.seq (.reg [Xm 5 1, Xf 6 0 2, Xl 7 1 6, Xq 8 (.len true (.t 7)), Xq 9 (.bin false .sub (.t 5) (.t 8)), Xa 1 9]) (.seq (.seq (.reg [Xm 10 1, Xq 11 (.bin false .lss (.t 10) (.i 0))]) (.cond (.t 11) (.seq (.reg [Xb 4 (.asg (.i (-1)))]) .ret) .skip)) (.seq (.reg [Xm 12 1, Xf 13 1 2, Xl 14 1 13, Xq 15 (.len true (.t 14)), Xq 16 (.bin false .sub
 (.t 12) (.t 15)), Xa 1 16]) (.seq (.seq (.reg [Xm 17 1, Xq 18 (.bin false .lss (.t 17) (.i 0))]) (.cond (.t 18) (.seq (.reg [Xb 4 (.asg (.i (-1)))]) .ret) .skip)) (.seq (.reg [Xm 19 1, Xa 4 19]) .ret))))))
set_option maxRecDepth 100000 in
theorem d154 (s : Us) (k : Int) (h0 : 0 ≤ k) (h1 : k ≤ 1048576) (hok : s.ok) : Does Go.Proofs.Tryz.prog 154 [.agg s.z, .v (.int .i64 k)] false (.v (.int .i64 (szUs s k))) [.dead, .dead] := by
  unfold Us.ok at hok
  refine does_intro (mc := m154) (N := 20) (rs := [4]) (fx := []) 2 rfl (by decide +kernel) ?_
  simp only [m154, Us.z, EV, Nat.reduceEqDiff, Nat.reduceBEq, Nat.reduceLT, Nat.reduceLeDiff, Nat.reduceAdd, Nat.reduceSub, reduceIte]
  have b0 := hok.1
  have w0 := w64 (k - s.mod.size) (by omega)
  simp only [w0, EV, Nat.reduceEqDiff, Nat.reduceBEq, Nat.reduceLT, Nat.reduceLeDiff, Nat.reduceAdd, Nat.reduceSub, reduceIte]
  refine cK_cut (fun h => ?_) (fun h => ?_)
  · have g0 : k - s.mod.size < 0 := by simpa using h
    have e : szUs s k = -1 := by unfold szUs; rw [if_pos g0]
    simp only [EV, Nat.reduceEqDiff, Nat.reduceBEq, Nat.reduceLT, Nat.reduceLeDiff, Nat.reduceAdd, Nat.reduceSub, reduceIte]
    simp only [e, EV, Nat.reduceEqDiff, Nat.reduceBEq, Nat.reduceLT, Nat.reduceLeDiff, Nat.reduceAdd, Nat.reduceSub, reduceIte, evRE, retVC, cellV', evR, nfz, nfzs, nfzss, List.contains_nil, List.contains_cons, Bool.or_false, or_true]
  · have g0 : ¬ k - s.mod.size < 0 := by simpa using h
    simp only [EV, Nat.reduceEqDiff, Nat.reduceBEq, Nat.reduceLT, Nat.reduceLeDiff, Nat.reduceAdd, Nat.reduceSub, reduceIte]
    have b1 := hok.2
    have w1 := w64 (k - s.mod.size - s.name.size) (by omega)
    simp only [w1, EV, Nat.reduceEqDiff, Nat.reduceBEq, Nat.reduceLT, Nat.reduceLeDiff, Nat.reduceAdd, Nat.reduceSub, reduceIte]
    refine cK_cut (fun h => ?_) (fun h => ?_)
    · have g1 : k - s.mod.size - s.name.size < 0 := by simpa using h
      have e : szUs s k = -1 := by unfold szUs; rw [if_neg g0, if_pos g1]
      simp only [EV, Nat.reduceEqDiff, Nat.reduceBEq, Nat.reduceLT, Nat.reduceLeDiff, Nat.reduceAdd, Nat.reduceSub, reduceIte]
      simp only [e, EV, Nat.reduceEqDiff, Nat.reduceBEq, Nat.reduceLT, Nat.reduceLeDiff, Nat.reduceAdd, Nat.reduceSub, reduceIte, evRE, retVC, cellV', evR, nfz, nfzs, nfzss, List.contains_nil, List.contains_cons, Bool.or_false, or_true]
    · have g1 : ¬ k - s.mod.size - s.name.size < 0 := by simpa using h
      simp only [EV, Nat.reduceEqDiff, Nat.reduceBEq, Nat.reduceLT, Nat.reduceLeDiff, Nat.reduceAdd, Nat.reduceSub, reduceIte]
      have e : szUs s k = k - s.mod.size - s.name.size := by unfold szUs; rw [if_neg g0, if_neg g1]
      simp only [e, EV, Nat.reduceEqDiff, Nat.reduceBEq, Nat.reduceLT, Nat.reduceLeDiff, Nat.reduceAdd, Nat.reduceSub, reduceIte, evRE, retVC, cellV', evR, nfz, nfzs, nfzss, List.contains_nil, List.contains_cons, Bool.or_false, or_true]
def szUss : List Us → Int → Int
  | [], k => k
  | s :: r, k => if szUs s k < 0 then -1 else szUss r (szUs s k)
def szUsS (l : List Us) (k : Int) : Int := if k - l.length < 0 then -1 else szUss l (k - l.length)
theorem szUss_le : ∀ (l : List Us) (k : Int), 0 ≤ k → szUss l k ≤ k
  | [], k, h => by simp [szUss]
  | s :: r, k, h => by
    simp only [szUss]
    have h1 := szUs_le s k h
    split
    · omega
    · have := szUss_le r (szUs s k) (by omega)
      omega
theorem szUsS_le (l : List Us) (k : Int) (h : 0 ≤ k) : szUsS l k ≤ k := by
  unfold szUsS
  split
  · omega
  · have := szUss_le l (k - l.length) (by omega); omega
def totUss : List Us → Int
  | [] => 0
  | s :: r => 1 + totUs s + totUss r
theorem szUss_tot : ∀ (l : List Us) (k : Int), 0 ≤ szUss l k → totUss l + szUss l k = k + l.length
  | [], k, h => by simp [szUss, totUss]
  | s :: r, k, h => by
    simp only [szUss] at h ⊢
    split
    · rename_i h1; rw [if_pos h1] at h; omega
    · rename_i h1
      rw [if_neg h1] at h
      have h2 := szUs_tot s k (by omega)
      have h3 := szUss_tot r _ h
      simp only [totUss, List.length_cons]
      omega
theorem szUsS_tot (l : List Us) (k : Int) (h : 0 ≤ szUsS l k) : totUss l + szUsS l k = k := by
  unfold szUsS at h ⊢
  split
  · rename_i h1; rw [if_pos h1] at h; omega
  · rename_i h1
    rw [if_neg h1] at h
    have := szUss_tot l _ h
    omega
theorem totUss_nn : ∀ l : List Us, (l.length : Int) ≤ totUss l
  | [] => by simp [totUss]
  | s :: r => by
    have := totUss_nn r
    have := totUs_nn s
    simp only [totUss, List.length_cons]
    omega
theorem totUss_mem : ∀ (l : List Us) (s : Us), s ∈ l → totUs s ≤ totUss l
  | x :: r, s, h => by
    simp only [totUss]
    have h3 := totUs_nn x
    have h2 := totUss_nn r
    rcases List.mem_cons.1 h with h | h
    · subst h; omega
    · have := totUss_mem r s h; omega
def m88 : MC :=
 (.seq (.reg [Xb 4 (.asg (.i 0))]) (.seq (.reg [Xm 6 1, Xm 7 0, Xn 8 7, Xq 9 (.bin false .sub (.t 6) (.t 8)), Xa 1 9]) (.seq (.seq (.reg [Xm 10 1, Xq 11 (.bin false .lss (.t 10) (.i 0))]) (.cond (.t 11) (.seq (.reg [Xb 4 (.asg (.i (-1)))]) .ret) .skip)) (.seq (.seq (.reg [Xb 5 (.asg (.i 0))]) (.block 0 (.loop [0, 1, 5] (.seq (.seq (.reg [Xm 12 5, Xm 13 0, Xn 14 13, Xq 15 (.bin false .lss (.t 12)
 (.t 14))]) (.cond (.t 15) .skip (.exit 0))) (.seq (.block 1 (.seq (.reg [Xm 18 0, Xm 19 5, Xi 20 2 18 19, XL 21 2 20, Xm 22 1, Xb 23 (.call (.fn 154) false [.lend (.t 21), .lend (.t 22)]), Xa 1 23]) (.seq (.reg [Xm 24 1, Xq 25 (.bin false .lss (.t 24) (.i 0))]) (.cond (.t 25) (.seq (.reg [Xb 4 (.asg (.i (-1)))]) .ret) .skip)))) (.reg [Xm 16 5, Xq 17 (.bin false .add (.t 16) (.i 1)), Xa 5 17]))))))
 (.seq (.reg [Xm 26 1, Xa 4 26]) .ret)))))
theorem d88 (l : List Us) (k : Int) (h0 : 0 ≤ k) (h1 : k ≤ 1048576) (hl : (l.length : Int) ≤ 9223372036854775807) (hs : ∀ s ∈ l, s.ok) :
    Does Go.Proofs.Tryz.prog 88 [.fsl 2 (l.map Us.z), .v (.int .i64 k)] false (.v (.int .i64 (szUsS l k))) [.dead, .dead] := by
  refine does_intro (mc := m88) (N := 27) (rs := [4]) (fx := []) 2 rfl (by decide +kernel) ?_
  simp only [m88, EV, Nat.reduceEqDiff, Nat.reduceBEq, Nat.reduceLT, Nat.reduceLeDiff, Nat.reduceAdd, Nat.reduceSub, reduceIte]
  have w1 := w64 (k - l.length) (by omega)
  simp only [w1]
  refine cK_cut (fun h => ?_) (fun h => ?_)
  · have h2 : k - l.length < 0 := by simpa using h
    have e : szUsS l k = -1 := by simp [szUsS, h2]
    simp only [EV, Nat.reduceEqDiff, Nat.reduceBEq, Nat.reduceLT, Nat.reduceLeDiff, Nat.reduceAdd, Nat.reduceSub, reduceIte]
    simp only [e, EV, Nat.reduceEqDiff, Nat.reduceBEq, Nat.reduceLT, Nat.reduceLeDiff, Nat.reduceAdd, Nat.reduceSub, reduceIte, evRE, retVC, cellV', evR, nfz, nfzs, nfzss, List.contains_nil, List.contains_cons, Bool.or_false, or_true]
  · have h2 : ¬ k - l.length < 0 := by simpa using h
    have e : szUsS l k = szUss l (k - l.length) := by simp [szUsS, h2]
    simp only [EV, Nat.reduceEqDiff, Nat.reduceBEq, Nat.reduceLT, Nat.reduceLeDiff, Nat.reduceAdd, Nat.reduceSub, reduceIte]
    refine awp_loop (fun p : Nat × Int => p.1 ≤ l.length ∧ 0 ≤ p.2 ∧ p.2 ≤ 1048576 ∧ szUss (l.drop p.1) p.2 = szUsS l k)
      (fun p => stl [(0, .fsl 2 (l.map Us.z)), (1, .v (.int .i64 p.2)), (5, .v (.int .i64 (p.1 : Int)))]) (fun p => l.length - p.1) (0, k - l.length) ⟨by simp, by simp only; omega, by simp only; omega, by simp [e]⟩ ?_ ?_
    · simp only [EV, Nat.reduceEqDiff, Nat.reduceBEq, Nat.reduceLT, Nat.reduceLeDiff, Nat.reduceAdd, Nat.reduceSub, reduceIte]
      rfl
    · rintro ⟨i, n⟩ ⟨p0, p1, p2, p3⟩
      simp only at p0 p1 p2 p3
      simp only [EV, Nat.reduceEqDiff, Nat.reduceBEq, Nat.reduceLT, Nat.reduceLeDiff, Nat.reduceAdd, Nat.reduceSub, reduceIte]
      refine cK_cut (fun h => ?_) (fun h => ?_)
      · have h3 : i < l.length := by simpa using h
        have h4 : (i : Int) < (l.length : Int) := by omega
        rw [List.drop_eq_getElem_cons h3] at p3
        simp only [szUss] at p3
        have hle := szUs_le l[i] n p1
        simp only [UsE, nth_map h3, h4, EV, Nat.reduceEqDiff, Nat.reduceBEq, Nat.reduceLT, Nat.reduceLeDiff, Nat.reduceAdd, Nat.reduceSub, reduceIte]
        refine callK_i (d154 l[i] n p1 p2 (hs l[i] (List.getElem_mem h3))) ?_
        simp only [UsE, nth_map h3, h4, EV, Nat.reduceEqDiff, Nat.reduceBEq, Nat.reduceLT, Nat.reduceLeDiff, Nat.reduceAdd, Nat.reduceSub, reduceIte]
        refine cK_cut (fun h => ?_) (fun h => ?_)
        · have h5 : szUs l[i] n < 0 := by simpa using h
          rw [if_pos h5] at p3
          simp only [EV, Nat.reduceEqDiff, Nat.reduceBEq, Nat.reduceLT, Nat.reduceLeDiff, Nat.reduceAdd, Nat.reduceSub, reduceIte]
          simp only [← p3, EV, Nat.reduceEqDiff, Nat.reduceBEq, Nat.reduceLT, Nat.reduceLeDiff, Nat.reduceAdd, Nat.reduceSub, reduceIte, evRE, retVC, cellV', evR, nfz, nfzs, nfzss, List.contains_nil, List.contains_cons, Bool.or_false, or_true]
        · have h5 : ¬ szUs l[i] n < 0 := by simpa using h
          rw [if_neg h5] at p3
          have w2 := w64 ((i : Int) + 1) (by omega)
          simp only [w2, EV, Nat.reduceEqDiff, Nat.reduceBEq, Nat.reduceLT, Nat.reduceLeDiff, Nat.reduceAdd, Nat.reduceSub, reduceIte]
          exact ⟨(i + 1, szUs l[i] n), ⟨by simp only; omega, by simp only; omega, by simp only; omega, p3⟩, by simp only; omega, rfl⟩
      · have h3 : i = l.length := by have : ¬ (i : Int) < l.length := by simpa using h
                                     omega
        subst h3
        rw [List.drop_length] at p3
        simp only [szUss] at p3
        simp only [EV, Nat.reduceEqDiff, Nat.reduceBEq, Nat.reduceLT, Nat.reduceLeDiff, Nat.reduceAdd, Nat.reduceSub, reduceIte]
        simp only [← p3, EV, Nat.reduceEqDiff, Nat.reduceBEq, Nat.reduceLT, Nat.reduceLeDiff, Nat.reduceAdd, Nat.reduceSub, reduceIte, evRE, retVC, cellV', evR, nfz, nfzs, nfzss, List.contains_nil, List.contains_cons, Bool.or_false, or_true]
def m157 : MC :=
 (.seq (.reg [Xb 1 (.box 173 (.t 0)), Xb 2 (.alloc 155 [.z, .z])]) (.seq (.reg [Xb 3 (.alloc 155 [.z, .z])]) (.seq (.reg [Xf 4 0 1, Xl 5 1 4, Xf 6 0 3, Xz (.store 1 (.t 6) (.t 5))]) (.seq (.reg [Xf 7 1 1, Xl 8 1 7, Xf 9 1 3, Xz (.store 1 (.t 9) (.t 8))]) (.seq (.reg [XL 10 2 3, Xz (.store 2 (.t 2) (.t 10))]) .ret)))))
set_option maxRecDepth 100000 in
theorem d157 (s : Us) (hs : s.sm) : Does Go.Proofs.Tryz.prog 157 [.agg s.z] false (.agg s.o) [.dead] := by
  unfold Us.sm at hs
  refine does_introC (mc := m157) (N := 11) (r := 2) (ty := 155) (agg := true) (sz := 2) (fx := []) 1 rfl (by decide +kernel) ?_
  simp only [m157, Us.z, Us.o, EV, Nat.reduceEqDiff, Nat.reduceBEq, Nat.reduceLT, Nat.reduceLeDiff, Nat.reduceAdd, Nat.reduceSub, reduceIte]
  simp only [EV, Nat.reduceEqDiff, Nat.reduceBEq, Nat.reduceLT, Nat.reduceLeDiff, Nat.reduceAdd, Nat.reduceSub, reduceIte, evRE, retVC, cellV', evR, nfz, nfzs, nfzss, List.contains_nil, List.contains_cons, Bool.or_false, or_true]
def m92 : MC :=
 (.seq (.reg [Xb 2 (.asg (.nils 155 2))]) (.seq (.reg [Xm 5 0, Xn 6 5, Xb 7 (.mks 155 2 32 [.z, .z] (.t 6) (.t 6)), Xa 3 7]) (.seq (.seq (.reg [Xb 4 (.asg (.i 0))]) (.block 0 (.loop [0, 3, 4, 7] (.seq (.seq (.reg [Xm 8 4, Xm 9 0, Xn 10 9, Xq 11 (.bin false .lss (.t 8) (.t 10))]) (.cond (.t 11) .skip (.exit 0))) (.seq (.block 1 (.reg [Xm 14 3, Xm 15 4, Xm 16 0, Xm 17 4, Xi 18 2 16 17, XL 19 2 18, Xb
 20 (.call (.fn 157) false [.lend (.t 19)]), Xi 21 2 14 15, Xz (.store 2 (.t 21) (.t 20))])) (.reg [Xm 12 4, Xq 13 (.bin false .add (.t 12) (.i 1)), Xa 4 13])))))) (.seq (.reg [Xm 22 3, Xa 2 22]) .ret))))
theorem d92 (l : List Us) (hl : (l.length : Int) ≤ 1048576) (hs : ∀ s ∈ l, s.sm) : Does Go.Proofs.Tryz.prog 92 [.fsl 2 (l.map Us.z)] false (.usl 155 2 (l.map Us.o)) [.dead] := by
  refine does_intro (mc := m92) (N := 23) (rs := [2]) (fx := []) 1 rfl (by decide +kernel) ?_
  simp only [m92, EV, Nat.reduceEqDiff, Nat.reduceBEq, Nat.reduceLT, Nat.reduceLeDiff, Nat.reduceAdd, Nat.reduceSub, reduceIte]
  refine ⟨by omega, by omega, ?_⟩
  refine awp_loop (fun i : Nat => i ≤ l.length) (fun i => stl [(0, .fsl 2 (l.map Us.z)), (3, .usl 155 2 ((l.take i).map Us.o ++ List.replicate (l.length - i) Us.zr)), (4, .v (.int .i64 (i : Int))), (7, .dead)]) (fun i => l.length - i) 0 (Nat.zero_le _) ?_ ?_
  · simp only [EV, Nat.reduceEqDiff, Nat.reduceBEq, Nat.reduceLT, Nat.reduceLeDiff, Nat.reduceAdd, Nat.reduceSub, reduceIte]
    rfl
  · intro i hi
    simp only [EV, Nat.reduceEqDiff, Nat.reduceBEq, Nat.reduceLT, Nat.reduceLeDiff, Nat.reduceAdd, Nat.reduceSub, reduceIte]
    refine cK_cut (fun h => ?_) (fun h => ?_)
    · have h1 : i < l.length := by simpa using h
      have h2 : (i : Int) < (l.length : Int) := by omega
      have h3 : ((l.take i).map Us.o ++ List.replicate (l.length - i) Us.zr).length = l.length := by simp; omega
      simp only [UsE, nth_map h1, h2, EV, Nat.reduceEqDiff, Nat.reduceBEq, Nat.reduceLT, Nat.reduceLeDiff, Nat.reduceAdd, Nat.reduceSub, reduceIte]
      refine callK_i (d157 l[i] (hs l[i] (List.getElem_mem h1))) ?_
      simp only [UsE, h2, h3, EV, Nat.reduceEqDiff, Nat.reduceBEq, Nat.reduceLT, Nat.reduceLeDiff, Nat.reduceAdd, Nat.reduceSub, reduceIte]
      refine ⟨h1, i + 1, by omega, by omega, ?_⟩
      have ez : l[i].o ++ List.drop 2 Us.zr = l[i].o := List.append_nil _
      rw [fill_nth h1, w64 _ (by omega), ez, fill_set h1]
      rfl
    · have h1 : i = l.length := by have : ¬ (i : Int) < l.length := by simpa using h
                                   omega
      subst h1
      simp only [EV, Nat.reduceEqDiff, Nat.reduceBEq, Nat.reduceLT, Nat.reduceLeDiff, Nat.reduceAdd, Nat.reduceSub, reduceIte]
      simp only [Nat.sub_self, List.replicate_zero, Us.nfz, EV, Nat.reduceEqDiff, Nat.reduceBEq, Nat.reduceLT, Nat.reduceLeDiff, Nat.reduceAdd, Nat.reduceSub, reduceIte, evRE, retVC, cellV', evR, nfz, nfzs, nfzss, List.contains_nil, List.contains_cons, Bool.or_false, or_true]
def m160 : MC :=
 (.seq (.reg [Xb 2 (.box 155 (.t 0)), Xb 3 (.box 155 (.t 1)), Xb 4 (.asg .fb)]) (.seq (.seq (.reg [Xf 5 0 2, Xl 6 1 5, Xf 7 0 3, Xl 8 1 7, Xq 9 (.bin false .neq (.t 6) (.t 8))]) (.cond (.t 9) (.seq (.reg [Xb 4 (.asg .fb)]) .ret) .skip)) (.seq (.seq (.reg [Xf 10 1 2, Xl 11 1 10, Xf 12 1 3, Xl 13 1 12, Xq 14 (.bin false .neq (.t 11) (.t 13))]) (.cond (.t 14) (.seq (.reg [Xb 4 (.asg .fb)]) .ret)
 .skip)) (.seq (.reg [Xb 4 (.asg .tb)]) .ret))))
set_option maxRecDepth 100000 in
theorem d160 (s : Us) (hs : s.sm) : Does Go.Proofs.Tryz.prog 160 [.agg s.z, .agg s.z] false (.v (.bool true)) [.dead, .dead] := by
  unfold Us.sm at hs
  refine does_intro (mc := m160) (N := 15) (rs := [4]) (fx := []) 2 rfl (by decide +kernel) ?_
  simp only [m160, Us.z, EV, Nat.reduceEqDiff, Nat.reduceBEq, Nat.reduceLT, Nat.reduceLeDiff, Nat.reduceAdd, Nat.reduceSub, reduceIte]
  simp only [EV, Nat.reduceEqDiff, Nat.reduceBEq, Nat.reduceLT, Nat.reduceLeDiff, Nat.reduceAdd, Nat.reduceSub, reduceIte, evRE, retVC, cellV', evR, nfz, nfzs, nfzss, List.contains_nil, List.contains_cons, Bool.or_false, or_true]
def m96 : MC :=
 (.seq (.reg [Xb 4 (.asg .fb)]) (.seq (.seq (.reg [Xm 6 0, Xn 7 6, Xm 8 1, Xn 9 8, Xq 10 (.bin false .neq (.t 7) (.t 9))]) (.cond (.t 10) (.seq (.reg [Xb 4 (.asg .fb)]) .ret) .skip)) (.seq (.seq (.reg [Xb 5 (.asg (.i 0))]) (.block 0 (.loop [0, 1, 5] (.seq (.seq (.reg [Xm 11 5, Xm 12 0, Xn 13 12, Xq 14 (.bin false .lss (.t 11) (.t 13))]) (.cond (.t 14) .skip (.exit 0))) (.seq (.block 1 (.seq (.dreg
 [Xm 17 0, Xm 18 5, Xi 19 2 17 18, XL 20 2 19, Xm 21 1, Xm 22 5, Xi 23 2 21 22, XL 24 2 23, Xb 25 (.call (.fn 160) false [.lend (.t 20), .lend (.t 24)]), Xq 26 (.un .not (.t 25))]) (.cond (.t 26) (.seq (.reg [Xb 4 (.asg .fb)]) .ret) .skip))) (.reg [Xm 15 5, Xq 16 (.bin false .add (.t 15) (.i 1)), Xa 5 16])))))) (.seq (.reg [Xb 4 (.asg .tb)]) .ret))))
theorem d96 (l : List Us) (hl : (l.length : Int) ≤ 1048576) (hs : ∀ s ∈ l, s.sm) : Does Go.Proofs.Tryz.prog 96 [.fsl 2 (l.map Us.z), .fsl 2 (l.map Us.z)] false (.v (.bool true)) [.dead, .dead] := by
  refine does_intro (mc := m96) (N := 27) (rs := [4]) (fx := []) 2 rfl (by decide +kernel) ?_
  simp only [m96, EV, Nat.reduceEqDiff, Nat.reduceBEq, Nat.reduceLT, Nat.reduceLeDiff, Nat.reduceAdd, Nat.reduceSub, reduceIte]
  refine awp_loop (fun i : Nat => i ≤ l.length) (fun i => stl [(0, .fsl 2 (l.map Us.z)), (1, .fsl 2 (l.map Us.z)), (5, .v (.int .i64 (i : Int)))]) (fun i => l.length - i) 0 (Nat.zero_le _) ?_ ?_
  · simp only [EV, Nat.reduceEqDiff, Nat.reduceBEq, Nat.reduceLT, Nat.reduceLeDiff, Nat.reduceAdd, Nat.reduceSub, reduceIte]
    rfl
  · intro i hi
    simp only [EV, Nat.reduceEqDiff, Nat.reduceBEq, Nat.reduceLT, Nat.reduceLeDiff, Nat.reduceAdd, Nat.reduceSub, reduceIte]
    refine cK_cut (fun h => ?_) (fun h => ?_)
    · have h1 : i < l.length := by simpa using h
      have h2 : (i : Int) < (l.length : Int) := by omega
      simp only [UsE, nth_map h1, h2, EV, Nat.reduceEqDiff, Nat.reduceBEq, Nat.reduceLT, Nat.reduceLeDiff, Nat.reduceAdd, Nat.reduceSub, reduceIte]
      refine callD_i (d160 l[i] (hs l[i] (List.getElem_mem h1))) rfl ?_
      simp only [EV, Nat.reduceEqDiff, Nat.reduceBEq, Nat.reduceLT, Nat.reduceLeDiff, Nat.reduceAdd, Nat.reduceSub, reduceIte]
      refine ⟨i + 1, by omega, by omega, ?_⟩
      rw [w64 _ (by omega)]
      rfl
    · have h1 : i = l.length := by have : ¬ (i : Int) < l.length := by simpa using h
                                   omega
      simp only [EV, Nat.reduceEqDiff, Nat.reduceBEq, Nat.reduceLT, Nat.reduceLeDiff, Nat.reduceAdd, Nat.reduceSub, reduceIte]
      simp only [EV, Nat.reduceEqDiff, Nat.reduceBEq, Nat.reduceLT, Nat.reduceLeDiff, Nat.reduceAdd, Nat.reduceSub, reduceIte, evRE, retVC, cellV', evR, nfz, nfzs, nfzss, List.contains_nil, List.contains_cons, Bool.or_false, or_true]
structure Str where
  s : ByteArray
def Str.z (s : Str) : List AV := [.v (.string s.s)]
def Str.o (s : Str) : List AV := [.v (.string s.s)]
def Str.zr : List AV := [.v (.string ⟨#[]⟩)]
theorem Str.fr (s : Str) : frzRow s.o = s.z := by
  simp only [Str.o, Str.z, frzRow, frzL, List.cons_append, List.nil_append]
theorem Str.frz : ∀ l : List Str, frzRows (l.map Str.o) = l.map Str.z
  | [] => rfl
  | s :: l => by simp only [List.map_cons, frzRows, Str.fr, Str.frz l]
theorem Str.nf (s : Str) : nfzs s.o = true := by
  simp only [Str.o, nfzs, nfz, List.cons_append, List.nil_append, Bool.and_self]
theorem Str.nfz : ∀ l : List Str, nfzss (l.map Str.o) = true
  | [] => rfl
  | s :: l => by simp only [List.map_cons, nfzss, Str.nf, Str.nfz l, Bool.and_self]
theorem StrE : (∀ f : Str, f.z.length = 1) ∧ (∀ f : Str, f.z.take 1 = f.z) ∧ (∀ (st : St) (f : Str), frzBs st f.z = f.z) ∧ (∀ f : Str, bares f.z = true) ∧ (∀ f : Str, plains f.z = true) ∧
    (∀ (f : Str) (K : Nat → List (Nat × Nat) → Bool), killVs K f.z = f.z) ∧ (∀ f : Str, f.z.all storL = true) ∧ (∀ f : Str, f.o.length = 1) ∧ (∀ f : Str, f.o.take 1 = f.o) ∧ (∀ f : Str, bares f.o = true) ∧
    (∀ f : Str, plains f.o = true) ∧ (∀ (f : Str) (K : Nat → List (Nat × Nat) → Bool), killVs K f.o = f.o) ∧ (∀ f : Str, f.o.all storL = true) :=
  ⟨fun _ => rfl, fun _ => rfl, fun _ _ => rfl, fun _ => rfl, fun _ => rfl, fun _ _ => rfl, fun _ => rfl, fun _ => rfl, fun _ => rfl, fun _ => rfl, fun _ => rfl, fun _ _ => rfl, fun _ => rfl⟩
def Str.ok (s : Str) : Prop := (s.s.size : Int) ≤ 9223372036854775807
def Str.sm (s : Str) : Prop := (s.s.size : Int) ≤ 1048576
def szStr (s : Str) (k : Int) : Int := if k - s.s.size < 0 then -1 else k - s.s.size
def totStr (s : Str) : Int := (s.s.size : Int)
theorem szStr_le (s : Str) (k : Int) (h : 0 ≤ k) : szStr s k ≤ k := by
  unfold szStr
  by_cases g0 : k - s.s.size < 0
  · rw [if_pos g0]; omega
  rw [if_neg g0]
  omega
theorem szStr_tot (s : Str) (k : Int) (h : 0 ≤ szStr s k) : totStr s + szStr s k = k := by
  unfold szStr at h ⊢
  unfold totStr
  by_cases g0 : k - s.s.size < 0
  · rw [if_pos g0] at h; omega
  rw [if_neg g0] at h ⊢
  omega
theorem totStr_nn (s : Str) : 0 ≤ totStr s := by
  unfold totStr
  omega
theorem Str.sm_of (s : Str) (h : totStr s ≤ 1048576) : s.sm := by
  unfold totStr at h
  unfold Str.sm
  omega
def szStrs : List Str → Int → Int
  | [], k => k
  | s :: r, k => if szStr s k < 0 then -1 else szStrs r (szStr s k)
def szStrS (l : List Str) (k : Int) : Int := if k - l.length < 0 then -1 else szStrs l (k - l.length)
theorem szStrs_le : ∀ (l : List Str) (k : Int), 0 ≤ k → szStrs l k ≤ k
  | [], k, h => by simp [szStrs]
  | s :: r, k, h => by
    simp only [szStrs]
    have h1 := szStr_le s k h
    split
    · omega
    · have := szStrs_le r (szStr s k) (by omega)
      omega
theorem szStrS_le (l : List Str) (k : Int) (h : 0 ≤ k) : szStrS l k ≤ k := by
  unfold szStrS
  split
  · omega
  · have := szStrs_le l (k - l.length) (by omega); omega
def totStrs : List Str → Int
  | [] => 0
  | s :: r => 1 + totStr s + totStrs r
theorem szStrs_tot : ∀ (l : List Str) (k : Int), 0 ≤ szStrs l k → totStrs l + szStrs l k = k + l.length
  | [], k, h => by simp [szStrs, totStrs]
  | s :: r, k, h => by
    simp only [szStrs] at h ⊢
    split
    · rename_i h1; rw [if_pos h1] at h; omega
    · rename_i h1
      rw [if_neg h1] at h
      have h2 := szStr_tot s k (by omega)
      have h3 := szStrs_tot r _ h
      simp only [totStrs, List.length_cons]
      omega
theorem szStrS_tot (l : List Str) (k : Int) (h : 0 ≤ szStrS l k) : totStrs l + szStrS l k = k := by
  unfold szStrS at h ⊢
  split
  · rename_i h1; rw [if_pos h1] at h; omega
  · rename_i h1
    rw [if_neg h1] at h
    have := szStrs_tot l _ h
    omega
theorem totStrs_nn : ∀ l : List Str, (l.length : Int) ≤ totStrs l
  | [] => by simp [totStrs]
  | s :: r => by
    have := totStrs_nn r
    have := totStr_nn s
    simp only [totStrs, List.length_cons]
    omega
theorem totStrs_mem : ∀ (l : List Str) (s : Str), s ∈ l → totStr s ≤ totStrs l
  | x :: r, s, h => by
    simp only [totStrs]
    have h3 := totStr_nn x
    have h2 := totStrs_nn r
    rcases List.mem_cons.1 h with h | h
    · subst h; omega
    · have := totStrs_mem r s h; omega
theorem szStr_neg {s : Str} {k : Int} (h : k - s.s.size < 0) : szStr s k < 0 := by
  unfold szStr
  rw [if_pos h]
  omega
theorem szStr_pos {s : Str} {k : Int} (h : ¬ k - s.s.size < 0) : ¬ szStr s k < 0 := by
  unfold szStr
  rw [if_neg h]
  exact h
theorem szStr_val {s : Str} {k : Int} (h : ¬ k - s.s.size < 0) : k - s.s.size = szStr s k := by
  unfold szStr
  rw [if_neg h]
def m85 : MC :=
 (.seq (.reg [Xb 4 (.asg (.i 0))]) (.seq (.reg [Xm 6 1, Xm 7 0, Xn 8 7, Xq 9 (.bin false .sub (.t 6) (.t 8)), Xa 1 9]) (.seq (.seq (.reg [Xm 10 1, Xq 11 (.bin false .lss (.t 10) (.i 0))]) (.cond (.t 11) (.seq (.reg [Xb 4 (.asg (.i (-1)))]) .ret) .skip)) (.seq (.seq (.reg [Xb 5 (.asg (.i 0))]) (.block 0 (.loop [0, 1, 5] (.seq (.seq (.reg [Xm 12 5, Xm 13 0, Xn 14 13, Xq 15 (.bin false .lss (.t 12)
 (.t 14))]) (.cond (.t 15) .skip (.exit 0))) (.seq (.block 1 (.seq (.reg [Xm 18 1, Xm 19 0, Xm 20 5, Xi 21 1 19 20, Xl 22 1 21, Xq 23 (.len true (.t 22)), Xq 24 (.bin false .sub (.t 18) (.t 23)), Xa 1 24]) (.seq (.reg [Xm 25 1, Xq 26 (.bin false .lss (.t 25) (.i 0))]) (.cond (.t 26) (.seq (.reg [Xb 4 (.asg (.i (-1)))]) .ret) .skip)))) (.reg [Xm 16 5, Xq 17 (.bin false .add (.t 16) (.i 1)), Xa 5
 17])))))) (.seq (.reg [Xm 27 1, Xa 4 27]) .ret)))))
theorem d85 (l : List Str) (k : Int) (h0 : 0 ≤ k) (h1 : k ≤ 1048576) (hl : (l.length : Int) ≤ 9223372036854775807) (hs : ∀ s ∈ l, s.ok) :
    Does Go.Proofs.Tryz.prog 85 [.fsl 1 (l.map Str.z), .v (.int .i64 k)] false (.v (.int .i64 (szStrS l k))) [.dead, .dead] := by
  refine does_intro (mc := m85) (N := 28) (rs := [4]) (fx := []) 2 rfl (by decide +kernel) ?_
  simp only [m85, EV, Nat.reduceEqDiff, Nat.reduceBEq, Nat.reduceLT, Nat.reduceLeDiff, Nat.reduceAdd, Nat.reduceSub, reduceIte]
  have w1 := w64 (k - l.length) (by omega)
  simp only [w1]
  refine cK_cut (fun h => ?_) (fun h => ?_)
  · have h2 : k - l.length < 0 := by simpa using h
    have e : szStrS l k = -1 := by simp [szStrS, h2]
    simp only [EV, Nat.reduceEqDiff, Nat.reduceBEq, Nat.reduceLT, Nat.reduceLeDiff, Nat.reduceAdd, Nat.reduceSub, reduceIte]
    simp only [e, EV, Nat.reduceEqDiff, Nat.reduceBEq, Nat.reduceLT, Nat.reduceLeDiff, Nat.reduceAdd, Nat.reduceSub, reduceIte, evRE, retVC, cellV', evR, nfz, nfzs, nfzss, List.contains_nil, List.contains_cons, Bool.or_false, or_true]
  · have h2 : ¬ k - l.length < 0 := by simpa using h
    have e : szStrS l k = szStrs l (k - l.length) := by simp [szStrS, h2]
    simp only [EV, Nat.reduceEqDiff, Nat.reduceBEq, Nat.reduceLT, Nat.reduceLeDiff, Nat.reduceAdd, Nat.reduceSub, reduceIte]
    refine awp_loop (fun p : Nat × Int => p.1 ≤ l.length ∧ 0 ≤ p.2 ∧ p.2 ≤ 1048576 ∧ szStrs (l.drop p.1) p.2 = szStrS l k)
      (fun p => stl [(0, .fsl 1 (l.map Str.z)), (1, .v (.int .i64 p.2)), (5, .v (.int .i64 (p.1 : Int)))]) (fun p => l.length - p.1) (0, k - l.length) ⟨by simp, by simp only; omega, by simp only; omega, by simp [e]⟩ ?_ ?_
    · simp only [EV, Nat.reduceEqDiff, Nat.reduceBEq, Nat.reduceLT, Nat.reduceLeDiff, Nat.reduceAdd, Nat.reduceSub, reduceIte]
      rfl
    · rintro ⟨i, n⟩ ⟨p0, p1, p2, p3⟩
      simp only at p0 p1 p2 p3
      simp only [EV, Nat.reduceEqDiff, Nat.reduceBEq, Nat.reduceLT, Nat.reduceLeDiff, Nat.reduceAdd, Nat.reduceSub, reduceIte]
      refine cK_cut (fun h => ?_) (fun h => ?_)
      · have h3 : i < l.length := by simpa using h
        have h4 : (i : Int) < (l.length : Int) := by omega
        rw [List.drop_eq_getElem_cons h3] at p3
        simp only [szStrs] at p3
        have hle := szStr_le l[i] n p1
        simp only [StrE, nth_map h3, h4, Str.z, EV, Nat.reduceEqDiff, Nat.reduceBEq, Nat.reduceLT, Nat.reduceLeDiff, Nat.reduceAdd, Nat.reduceSub, reduceIte]
        have hok := hs l[i] (List.getElem_mem h3)
        unfold Str.ok at hok
        have w9 := w64 (n - l[i].s.size) (by omega)
        simp only [w9]
        refine cK_cut (fun h => ?_) (fun h => ?_)
        · have h5 : szStr l[i] n < 0 := szStr_neg (by simpa using h)
          rw [if_pos h5] at p3
          simp only [EV, Nat.reduceEqDiff, Nat.reduceBEq, Nat.reduceLT, Nat.reduceLeDiff, Nat.reduceAdd, Nat.reduceSub, reduceIte]
          simp only [← p3, EV, Nat.reduceEqDiff, Nat.reduceBEq, Nat.reduceLT, Nat.reduceLeDiff, Nat.reduceAdd, Nat.reduceSub, reduceIte, evRE, retVC, cellV', evR, nfz, nfzs, nfzss, List.contains_nil, List.contains_cons, Bool.or_false, or_true]
        · have h5 : ¬ szStr l[i] n < 0 := szStr_pos (by simpa using h)
          rw [if_neg h5] at p3
          have w2 := w64 ((i : Int) + 1) (by omega)
          rw [szStr_val (by simpa using h)]
          simp only [w2, EV, Nat.reduceEqDiff, Nat.reduceBEq, Nat.reduceLT, Nat.reduceLeDiff, Nat.reduceAdd, Nat.reduceSub, reduceIte]
          exact ⟨(i + 1, szStr l[i] n), ⟨by simp only; omega, by simp only; omega, by simp only; omega, p3⟩, by simp only; omega, rfl⟩
      · have h3 : i = l.length := by have : ¬ (i : Int) < l.length := by simpa using h
                                     omega
        subst h3
        rw [List.drop_length] at p3
        simp only [szStrs] at p3
        simp only [EV, Nat.reduceEqDiff, Nat.reduceBEq, Nat.reduceLT, Nat.reduceLeDiff, Nat.reduceAdd, Nat.reduceSub, reduceIte]
        simp only [← p3, EV, Nat.reduceEqDiff, Nat.reduceBEq, Nat.reduceLT, Nat.reduceLeDiff, Nat.reduceAdd, Nat.reduceSub, reduceIte, evRE, retVC, cellV', evR, nfz, nfzs, nfzss, List.contains_nil, List.contains_cons, Bool.or_false, or_true]
def m89 : MC :=
 (.seq (.reg [Xb 2 (.asg (.nils 9 1))]) (.seq (.reg [Xm 5 0, Xn 6 5, Xb 7 (.mks 9 1 16 [.z] (.t 6) (.t 6)), Xa 3 7]) (.seq (.seq (.reg [Xb 4 (.asg (.i 0))]) (.block 0 (.loop [0, 3, 4, 7] (.seq (.seq (.reg [Xm 8 4, Xm 9 0, Xn 10 9, Xq 11 (.bin false .lss (.t 8) (.t 10))]) (.cond (.t 11) .skip (.exit 0))) (.seq (.block 1 (.reg [Xm 14 3, Xm 15 4, Xm 16 0, Xm 17 4, Xi 18 1 16 17, Xl 19 1 18, Xi 20 1 14
 15, Xz (.store 1 (.t 20) (.t 19))])) (.reg [Xm 12 4, Xq 13 (.bin false .add (.t 12) (.i 1)), Xa 4 13])))))) (.seq (.reg [Xm 21 3, Xa 2 21]) .ret))))
theorem d89 (l : List Str) (hl : (l.length : Int) ≤ 1048576) (hs : ∀ s ∈ l, s.sm) : Does Go.Proofs.Tryz.prog 89 [.fsl 1 (l.map Str.z)] false (.usl 9 1 (l.map Str.o)) [.dead] := by
  refine does_intro (mc := m89) (N := 22) (rs := [2]) (fx := []) 1 rfl (by decide +kernel) ?_
  simp only [m89, EV, Nat.reduceEqDiff, Nat.reduceBEq, Nat.reduceLT, Nat.reduceLeDiff, Nat.reduceAdd, Nat.reduceSub, reduceIte]
  refine ⟨by omega, by omega, ?_⟩
  refine awp_loop (fun i : Nat => i ≤ l.length) (fun i => stl [(0, .fsl 1 (l.map Str.z)), (3, .usl 9 1 ((l.take i).map Str.o ++ List.replicate (l.length - i) Str.zr)), (4, .v (.int .i64 (i : Int))), (7, .dead)]) (fun i => l.length - i) 0 (Nat.zero_le _) ?_ ?_
  · simp only [EV, Nat.reduceEqDiff, Nat.reduceBEq, Nat.reduceLT, Nat.reduceLeDiff, Nat.reduceAdd, Nat.reduceSub, reduceIte]
    rfl
  · intro i hi
    simp only [EV, Nat.reduceEqDiff, Nat.reduceBEq, Nat.reduceLT, Nat.reduceLeDiff, Nat.reduceAdd, Nat.reduceSub, reduceIte]
    refine cK_cut (fun h => ?_) (fun h => ?_)
    · have h1 : i < l.length := by simpa using h
      have h2 : (i : Int) < (l.length : Int) := by omega
      have h3 : ((l.take i).map Str.o ++ List.replicate (l.length - i) Str.zr).length = l.length := by simp; omega
      simp only [StrE, Str.z, nth_map h1, h2, h3, EV, Nat.reduceEqDiff, Nat.reduceBEq, Nat.reduceLT, Nat.reduceLeDiff, Nat.reduceAdd, Nat.reduceSub, reduceIte]
      refine ⟨h1, i + 1, by omega, by omega, ?_⟩
      have ez : l[i].o ++ List.drop 1 Str.zr = l[i].o := List.append_nil _
      have eo : [AV.v (Value.string l[i].s)] = l[i].o := rfl
      have ez2 : AV.v (Value.string l[i].s) :: List.drop 1 Str.zr = l[i].o := rfl
      rw [fill_nth h1, w64 _ (by omega), ez2, fill_set h1]
      rfl
    · have h1 : i = l.length := by have : ¬ (i : Int) < l.length := by simpa using h
                                   omega
      subst h1
      simp only [EV, Nat.reduceEqDiff, Nat.reduceBEq, Nat.reduceLT, Nat.reduceLeDiff, Nat.reduceAdd, Nat.reduceSub, reduceIte]
      simp only [Nat.sub_self, List.replicate_zero, Str.nfz, EV, Nat.reduceEqDiff, Nat.reduceBEq, Nat.reduceLT, Nat.reduceLeDiff, Nat.reduceAdd, Nat.reduceSub, reduceIte, evRE, retVC, cellV', evR, nfz, nfzs, nfzss, List.contains_nil, List.contains_cons, Bool.or_false, or_true]
def m93 : MC :=
 (.seq (.reg [Xb 4 (.asg .fb)]) (.seq (.seq (.reg [Xm 6 0, Xn 7 6, Xm 8 1, Xn 9 8, Xq 10 (.bin false .neq (.t 7) (.t 9))]) (.cond (.t 10) (.seq (.reg [Xb 4 (.asg .fb)]) .ret) .skip)) (.seq (.seq (.reg [Xb 5 (.asg (.i 0))]) (.block 0 (.loop [0, 1, 5] (.seq (.seq (.reg [Xm 11 5, Xm 12 0, Xn 13 12, Xq 14 (.bin false .lss (.t 11) (.t 13))]) (.cond (.t 14) .skip (.exit 0))) (.seq (.block 1 (.seq (.dreg
 [Xm 17 0, Xm 18 5, Xi 19 1 17 18, Xl 20 1 19, Xm 21 1, Xm 22 5, Xi 23 1 21 22, Xl 24 1 23, Xq 25 (.bin false .neq (.t 20) (.t 24))]) (.cond (.t 25) (.seq (.reg [Xb 4 (.asg .fb)]) .ret) .skip))) (.reg [Xm 15 5, Xq 16 (.bin false .add (.t 15) (.i 1)), Xa 5 16])))))) (.seq (.reg [Xb 4 (.asg .tb)]) .ret))))
theorem d93 (l : List Str) (hl : (l.length : Int) ≤ 1048576) (hs : ∀ s ∈ l, s.sm) : Does Go.Proofs.Tryz.prog 93 [.fsl 1 (l.map Str.z), .fsl 1 (l.map Str.z)] false (.v (.bool true)) [.dead, .dead] := by
  refine does_intro (mc := m93) (N := 26) (rs := [4]) (fx := []) 2 rfl (by decide +kernel) ?_
  simp only [m93, EV, Nat.reduceEqDiff, Nat.reduceBEq, Nat.reduceLT, Nat.reduceLeDiff, Nat.reduceAdd, Nat.reduceSub, reduceIte]
  refine awp_loop (fun i : Nat => i ≤ l.length) (fun i => stl [(0, .fsl 1 (l.map Str.z)), (1, .fsl 1 (l.map Str.z)), (5, .v (.int .i64 (i : Int)))]) (fun i => l.length - i) 0 (Nat.zero_le _) ?_ ?_
  · simp only [EV, Nat.reduceEqDiff, Nat.reduceBEq, Nat.reduceLT, Nat.reduceLeDiff, Nat.reduceAdd, Nat.reduceSub, reduceIte]
    rfl
  · intro i hi
    simp only [EV, Nat.reduceEqDiff, Nat.reduceBEq, Nat.reduceLT, Nat.reduceLeDiff, Nat.reduceAdd, Nat.reduceSub, reduceIte]
    refine cK_cut (fun h => ?_) (fun h => ?_)
    · have h1 : i < l.length := by simpa using h
      have h2 : (i : Int) < (l.length : Int) := by omega
      simp only [StrE, Str.z, nth_map h1, h2, EV, Nat.reduceEqDiff, Nat.reduceBEq, Nat.reduceLT, Nat.reduceLeDiff, Nat.reduceAdd, Nat.reduceSub, reduceIte]
      refine ⟨i + 1, by omega, by omega, ?_⟩
      rw [w64 _ (by omega)]
      rfl
    · have h1 : i = l.length := by have : ¬ (i : Int) < l.length := by simpa using h
                                   omega
      simp only [EV, Nat.reduceEqDiff, Nat.reduceBEq, Nat.reduceLT, Nat.reduceLeDiff, Nat.reduceAdd, Nat.reduceSub, reduceIte]
      simp only [EV, Nat.reduceEqDiff, Nat.reduceBEq, Nat.reduceLT, Nat.reduceLeDiff, Nat.reduceAdd, Nat.reduceSub, reduceIte, evRE, retVC, cellV', evR, nfz, nfzs, nfzss, List.contains_nil, List.contains_cons, Bool.or_false, or_true]
end Go.AM
namespace Go.AM
set_option linter.unusedVariables false
set_option linter.unusedSimpArgs false
theorem pbeq (a b c d : Nat) : ((a, b) == (c, d)) = (a == c && b == d) := rfl
structure Scope where
  name : ByteArray
  imports : List Str
  types : List Ty
  objects : List Ob
  uses : List Us
def Scope.z (s : Scope) : List AV := [.v (.string s.name), .fsl 1 (s.imports.map Str.z), .fsl 6 (s.types.map Ty.z), .fsl 6 (s.objects.map Ob.z), .fsl 2 (s.uses.map Us.z)]
def Scope.o (s : Scope) : List AV := [.v (.string s.name), .usl 9 1 (s.imports.map Str.o), .usl 40 6 (s.types.map Ty.o), .usl 52 6 (s.objects.map Ob.o), .usl 155 2 (s.uses.map Us.o)]
def Scope.zr : List AV := [.v (.string ⟨#[]⟩), .usl 9 1 [], .usl 40 6 [], .usl 52 6 [], .usl 155 2 []]
def Scope.ok (s : Scope) : Prop := (s.name.size : Int) ≤ 9223372036854775807 ∧ ((s.imports.length : Int) ≤ 9223372036854775807 ∧ ∀ y ∈ s.imports, y.ok) ∧ ((s.types.length : Int) ≤ 9223372036854775807 ∧ ∀ y ∈ s.types, y.ok) ∧ ((s.objects.length : Int) ≤ 9223372036854775807 ∧ ∀ y ∈ s.objects, y.ok) ∧ ((s.uses.length : Int) ≤ 9223372036854775807 ∧ ∀ y ∈ s.uses, y.ok)
def Scope.sm (s : Scope) : Prop := (s.name.size : Int) ≤ 1048576 ∧ ((s.imports.length : Int) ≤ 1048576 ∧ ∀ y ∈ s.imports, y.sm) ∧ ((s.types.length : Int) ≤ 1048576 ∧ ∀ y ∈ s.types, y.sm) ∧ ((s.objects.length : Int) ≤ 1048576 ∧ ∀ y ∈ s.objects, y.sm) ∧ ((s.uses.length : Int) ≤ 1048576 ∧ ∀ y ∈ s.uses, y.sm)
def szScope (s : Scope) (k : Int) : Int := if k - s.name.size < 0 then -1 else if szStrS s.imports (k - s.name.size) < 0 then -1 else if szTyS s.types (szStrS s.imports (k - s.name.size)) < 0 then -1 else if szObS s.objects (szTyS s.types (szStrS s.imports (k - s.name.size))) < 0 then -1 else if szUsS s.uses (szObS s.objects (szTyS s.types (szStrS s.imports (k - s.name.size)))) < 0 then -1 else szUsS s.uses (szObS s.objects (szTyS s.types (szStrS s.imports (k - s.name.size))))
def totScope (s : Scope) : Int := (s.name.size : Int) + totStrs s.imports + totTys s.types + totObs s.objects + totUss s.uses
theorem szScope_le (s : Scope) (k : Int) (h : 0 ≤ k) : szScope s k ≤ k := by
  unfold szScope
  by_cases g0 : k - s.name.size < 0
  · rw [if_pos g0]; omega
  rw [if_neg g0]
  have l1 := szStrS_le s.imports (k - s.name.size) (by omega)
  by_cases g1 : szStrS s.imports (k - s.name.size) < 0
  · rw [if_pos g1]; omega
  rw [if_neg g1]
  have l2 := szTyS_le s.types (szStrS s.imports (k - s.name.size)) (by omega)
  by_cases g2 : szTyS s.types (szStrS s.imports (k - s.name.size)) < 0
  · rw [if_pos g2]; omega
  rw [if_neg g2]
  have l3 := szObS_le s.objects (szTyS s.types (szStrS s.imports (k - s.name.size))) (by omega)
  by_cases g3 : szObS s.objects (szTyS s.types (szStrS s.imports (k - s.name.size))) < 0
  · rw [if_pos g3]; omega
  rw [if_neg g3]
  have l4 := szUsS_le s.uses (szObS s.objects (szTyS s.types (szStrS s.imports (k - s.name.size)))) (by omega)
  by_cases g4 : szUsS s.uses (szObS s.objects (szTyS s.types (szStrS s.imports (k - s.name.size)))) < 0
  · rw [if_pos g4]; omega
  rw [if_neg g4]
  omega
theorem szScope_tot (s : Scope) (k : Int) (h : 0 ≤ szScope s k) : totScope s + szScope s k = k := by
  unfold szScope at h ⊢
  unfold totScope
  by_cases g0 : k - s.name.size < 0
  · rw [if_pos g0] at h; omega
  rw [if_neg g0] at h ⊢
  by_cases g1 : szStrS s.imports (k - s.name.size) < 0
  · rw [if_pos g1] at h; omega
  rw [if_neg g1] at h ⊢
  have t1 := szStrS_tot s.imports (k - s.name.size) (by omega)
  by_cases g2 : szTyS s.types (szStrS s.imports (k - s.name.size)) < 0
  · rw [if_pos g2] at h; omega
  rw [if_neg g2] at h ⊢
  have t2 := szTyS_tot s.types (szStrS s.imports (k - s.name.size)) (by omega)
  by_cases g3 : szObS s.objects (szTyS s.types (szStrS s.imports (k - s.name.size))) < 0
  · rw [if_pos g3] at h; omega
  rw [if_neg g3] at h ⊢
  have t3 := szObS_tot s.objects (szTyS s.types (szStrS s.imports (k - s.name.size))) (by omega)
  by_cases g4 : szUsS s.uses (szObS s.objects (szTyS s.types (szStrS s.imports (k - s.name.size)))) < 0
  · rw [if_pos g4] at h; omega
  rw [if_neg g4] at h ⊢
  have t4 := szUsS_tot s.uses (szObS s.objects (szTyS s.types (szStrS s.imports (k - s.name.size)))) (by omega)
  omega
theorem Scope.sm_of (s : Scope) (h : totScope s ≤ 1048576) : s.sm := by
  unfold totScope at h
  have n1 := totStrs_nn s.imports
  have n2 := totTys_nn s.types
  have n3 := totObs_nn s.objects
  have n4 := totUss_nn s.uses
  exact ⟨by omega, ⟨by omega, fun y hy => Str.sm_of y (by have := totStrs_mem s.imports y hy; omega)⟩, ⟨by omega, fun y hy => Ty.sm_of y (by have := totTys_mem s.types y hy; omega)⟩, ⟨by omega, fun y hy => Ob.sm_of y (by have := totObs_mem s.objects y hy; omega)⟩, ⟨by omega, fun y hy => Us.sm_of y (by have := totUss_mem s.uses y hy; omega)⟩⟩
def m27 : MC :=
 (.seq (.reg [Xb 2 (.box 59 (.t 0)), Xb 4 (.asg (.i 0))]) (.seq (.reg [Xm 5 1, Xf 6 0 2, Xl 7 1 6, Xq 8 (.len true (.t 7)), Xq 9 (.bin false .sub (.t 5) (.t 8)), Xa 1 9]) (.seq (.seq (.reg [Xm 10 1, Xq 11 (.bin false .lss (.t 10) (.i 0))]) (.cond (.t 11) (.seq (.reg [Xb 4 (.asg (.i (-1)))]) .ret) .skip)) (.seq (.reg [Xf 12 1 2, Xl 13 1 12, Xm 14 1, Xb 15 (.call (.fn 85) false [.lend (.t 13), .lend
 (.t 14)]), Xa 1 15]) (.seq (.seq (.reg [Xm 16 1, Xq 17 (.bin false .lss (.t 16) (.i 0))]) (.cond (.t 17) (.seq (.reg [Xb 4 (.asg (.i (-1)))]) .ret) .skip)) (.seq (.reg [Xf 18 2 2, Xl 19 1 18, Xm 20 1, Xb 21 (.call (.fn 86) false [.lend (.t 19), .lend (.t 20)]), Xa 1 21]) (.seq (.seq (.reg [Xm 22 1, Xq 23 (.bin false .lss (.t 22) (.i 0))]) (.cond (.t 23) (.seq (.reg [Xb 4 (.asg (.i (-1)))]) .ret)
 .skip)) (.seq (.reg [Xf 24 3 2, Xl 25 1 24, Xm 26 1, Xb 27 (.call (.fn 87) false [.lend (.t 25), .lend (.t 26)]), Xa 1 27]) (.seq (.seq (.reg [Xm 28 1, Xq 29 (.bin false .lss (.t 28) (.i 0))]) (.cond (.t 29) (.seq (.reg [Xb 4 (.asg (.i (-1)))]) .ret) .skip)) (.seq (.reg [Xf 30 4 2, Xl 31 1 30, Xm 32 1, Xb 33 (.call (.fn 88) false [.lend (.t 31), .lend (.t 32)]), Xa 1 33]) (.seq (.seq (.reg [Xm 34
 1, Xq 35 (.bin false .lss (.t 34) (.i 0))]) (.cond (.t 35) (.seq (.reg [Xb 4 (.asg (.i (-1)))]) .ret) .skip)) (.seq (.reg [Xm 36 1, Xa 4 36]) .ret))))))))))))
set_option maxRecDepth 100000 in
theorem d27 (s : Scope) (k : Int) (h0 : 0 ≤ k) (h1 : k ≤ 1048576) (hok : s.ok) : Does Go.Proofs.Tryz.prog 27 [.agg s.z, .v (.int .i64 k)] false (.v (.int .i64 (szScope s k))) [.dead, .dead] := by
  unfold Scope.ok at hok
  refine does_intro (mc := m27) (N := 37) (rs := [4]) (fx := []) 2 rfl (by decide +kernel) ?_
  simp only [m27, Scope.z, EV, Nat.reduceEqDiff, Nat.reduceBEq, Nat.reduceLT, Nat.reduceLeDiff, Nat.reduceAdd, Nat.reduceSub, reduceIte]
  have b0 := hok.1
  have w0 := w64 (k - s.name.size) (by omega)
  simp only [w0, EV, Nat.reduceEqDiff, Nat.reduceBEq, Nat.reduceLT, Nat.reduceLeDiff, Nat.reduceAdd, Nat.reduceSub, reduceIte]
  refine cK_cut (fun h => ?_) (fun h => ?_)
  · have g0 : k - s.name.size < 0 := by simpa using h
    have e : szScope s k = -1 := by unfold szScope; rw [if_pos g0]
    simp only [EV, Nat.reduceEqDiff, Nat.reduceBEq, Nat.reduceLT, Nat.reduceLeDiff, Nat.reduceAdd, Nat.reduceSub, reduceIte]
    simp only [e, EV, Nat.reduceEqDiff, Nat.reduceBEq, Nat.reduceLT, Nat.reduceLeDiff, Nat.reduceAdd, Nat.reduceSub, reduceIte, evRE, retVC, cellV', evR, nfz, nfzs, nfzss, List.contains_nil, List.contains_cons, Bool.or_false, or_true]
  · have g0 : ¬ k - s.name.size < 0 := by simpa using h
    simp only [EV, Nat.reduceEqDiff, Nat.reduceBEq, Nat.reduceLT, Nat.reduceLeDiff, Nat.reduceAdd, Nat.reduceSub, reduceIte]
    have l1 := szStrS_le s.imports (k - s.name.size) (by omega)
    refine callK_i (d85 s.imports (k - s.name.size) (by omega) (by omega) (hok.2.1).1 (hok.2.1).2) ?_
    simp only [EV, Nat.reduceEqDiff, Nat.reduceBEq, Nat.reduceLT, Nat.reduceLeDiff, Nat.reduceAdd, Nat.reduceSub, reduceIte]
    refine cK_cut (fun h => ?_) (fun h => ?_)
    · have g1 : szStrS s.imports (k - s.name.size) < 0 := by simpa using h
      have e : szScope s k = -1 := by unfold szScope; rw [if_neg g0, if_pos g1]
      simp only [EV, Nat.reduceEqDiff, Nat.reduceBEq, Nat.reduceLT, Nat.reduceLeDiff, Nat.reduceAdd, Nat.reduceSub, reduceIte]
      simp only [e, EV, Nat.reduceEqDiff, Nat.reduceBEq, Nat.reduceLT, Nat.reduceLeDiff, Nat.reduceAdd, Nat.reduceSub, reduceIte, evRE, retVC, cellV', evR, nfz, nfzs, nfzss, List.contains_nil, List.contains_cons, Bool.or_false, or_true]
    · have g1 : ¬ szStrS s.imports (k - s.name.size) < 0 := by simpa using h
      simp only [EV, Nat.reduceEqDiff, Nat.reduceBEq, Nat.reduceLT, Nat.reduceLeDiff, Nat.reduceAdd, Nat.reduceSub, reduceIte]
      have l2 := szTyS_le s.types (szStrS s.imports (k - s.name.size)) (by omega)
      refine callK_i (d86 s.types (szStrS s.imports (k - s.name.size)) (by omega) (by omega) (hok.2.2.1).1 (hok.2.2.1).2) ?_
      simp only [EV, Nat.reduceEqDiff, Nat.reduceBEq, Nat.reduceLT, Nat.reduceLeDiff, Nat.reduceAdd, Nat.reduceSub, reduceIte]
      refine cK_cut (fun h => ?_) (fun h => ?_)
      · have g2 : szTyS s.types (szStrS s.imports (k - s.name.size)) < 0 := by simpa using h
        have e : szScope s k = -1 := by unfold szScope; rw [if_neg g0, if_neg g1, if_pos g2]
        simp only [EV, Nat.reduceEqDiff, Nat.reduceBEq, Nat.reduceLT, Nat.reduceLeDiff, Nat.reduceAdd, Nat.reduceSub, reduceIte]
        simp only [e, EV, Nat.reduceEqDiff, Nat.reduceBEq, Nat.reduceLT, Nat.reduceLeDiff, Nat.reduceAdd, Nat.reduceSub, reduceIte, evRE, retVC, cellV', evR, nfz, nfzs, nfzss, List.contains_nil, List.contains_cons, Bool.or_false, or_true]
      · have g2 : ¬ szTyS s.types (szStrS s.imports (k - s.name.size)) < 0 := by simpa using h
        simp only [EV, Nat.reduceEqDiff, Nat.reduceBEq, Nat.reduceLT, Nat.reduceLeDiff, Nat.reduceAdd, Nat.reduceSub, reduceIte]
        have l3 := szObS_le s.objects (szTyS s.types (szStrS s.imports (k - s.name.size))) (by omega)
        refine callK_i (d87 s.objects (szTyS s.types (szStrS s.imports (k - s.name.size))) (by omega) (by omega) (hok.2.2.2.1).1 (hok.2.2.2.1).2) ?_
        simp only [EV, Nat.reduceEqDiff, Nat.reduceBEq, Nat.reduceLT, Nat.reduceLeDiff, Nat.reduceAdd, Nat.reduceSub, reduceIte]
        refine cK_cut (fun h => ?_) (fun h => ?_)
        · have g3 : szObS s.objects (szTyS s.types (szStrS s.imports (k - s.name.size))) < 0 := by simpa using h
          have e : szScope s k = -1 := by unfold szScope; rw [if_neg g0, if_neg g1, if_neg g2, if_pos g3]
          simp only [EV, Nat.reduceEqDiff, Nat.reduceBEq, Nat.reduceLT, Nat.reduceLeDiff, Nat.reduceAdd, Nat.reduceSub, reduceIte]
          simp only [e, EV, Nat.reduceEqDiff, Nat.reduceBEq, Nat.reduceLT, Nat.reduceLeDiff, Nat.reduceAdd, Nat.reduceSub, reduceIte, evRE, retVC, cellV', evR, nfz, nfzs, nfzss, List.contains_nil, List.contains_cons, Bool.or_false, or_true]
        · have g3 : ¬ szObS s.objects (szTyS s.types (szStrS s.imports (k - s.name.size))) < 0 := by simpa using h
          simp only [EV, Nat.reduceEqDiff, Nat.reduceBEq, Nat.reduceLT, Nat.reduceLeDiff, Nat.reduceAdd, Nat.reduceSub, reduceIte]
          have l4 := szUsS_le s.uses (szObS s.objects (szTyS s.types (szStrS s.imports (k - s.name.size)))) (by omega)
          refine callK_i (d88 s.uses (szObS s.objects (szTyS s.types (szStrS s.imports (k - s.name.size)))) (by omega) (by omega) (hok.2.2.2.2).1 (hok.2.2.2.2).2) ?_
          simp only [EV, Nat.reduceEqDiff, Nat.reduceBEq, Nat.reduceLT, Nat.reduceLeDiff, Nat.reduceAdd, Nat.reduceSub, reduceIte]
          refine cK_cut (fun h => ?_) (fun h => ?_)
          · have g4 : szUsS s.uses (szObS s.objects (szTyS s.types (szStrS s.imports (k - s.name.size)))) < 0 := by simpa using h
            have e : szScope s k = -1 := by unfold szScope; rw [if_neg g0, if_neg g1, if_neg g2, if_neg g3, if_pos g4]
            simp only [EV, Nat.reduceEqDiff, Nat.reduceBEq, Nat.reduceLT, Nat.reduceLeDiff, Nat.reduceAdd, Nat.reduceSub, reduceIte]
            simp only [e, EV, Nat.reduceEqDiff, Nat.reduceBEq, Nat.reduceLT, Nat.reduceLeDiff, Nat.reduceAdd, Nat.reduceSub, reduceIte, evRE, retVC, cellV', evR, nfz, nfzs, nfzss, List.contains_nil, List.contains_cons, Bool.or_false, or_true]
          · have g4 : ¬ szUsS s.uses (szObS s.objects (szTyS s.types (szStrS s.imports (k - s.name.size)))) < 0 := by simpa using h
            simp only [EV, Nat.reduceEqDiff, Nat.reduceBEq, Nat.reduceLT, Nat.reduceLeDiff, Nat.reduceAdd, Nat.reduceSub, reduceIte]
            have e : szScope s k = szUsS s.uses (szObS s.objects (szTyS s.types (szStrS s.imports (k - s.name.size)))) := by unfold szScope; rw [if_neg g0, if_neg g1, if_neg g2, if_neg g3, if_neg g4]
            simp only [e, EV, Nat.reduceEqDiff, Nat.reduceBEq, Nat.reduceLT, Nat.reduceLeDiff, Nat.reduceAdd, Nat.reduceSub, reduceIte, evRE, retVC, cellV', evR, nfz, nfzs, nfzss, List.contains_nil, List.contains_cons, Bool.or_false, or_true]
def m28 : MC :=
 (.seq (.reg [Xb 1 (.box 59 (.t 0)), Xb 2 (.alloc 45 [.z, .s 9 1, .s 40 6, .s 52 6, .s 155 2])]) (.seq (.reg [Xb 3 (.alloc 45 [.z, .s 9 1, .s 40 6, .s 52 6, .s 155 2])]) (.seq (.reg [Xf 4 0 1, Xl 5 1 4, Xf 6 0 3, Xz (.store 1 (.t 6) (.t 5))]) (.seq (.reg [Xf 7 1 1, Xl 8 1 7, Xb 9 (.call (.fn 89) false [.lend (.t 8)]), Xf 10 1 3, Xz (.store 1 (.t 10) (.t 9))]) (.seq (.reg [Xf 11 2 1, Xl 12 1 11, Xb
 13 (.call (.fn 90) false [.lend (.t 12)]), Xf 14 2 3, Xz (.store 1 (.t 14) (.t 13))]) (.seq (.reg [Xf 15 3 1, Xl 16 1 15, Xb 17 (.call (.fn 91) false [.lend (.t 16)]), Xf 18 3 3, Xz (.store 1 (.t 18) (.t 17))]) (.seq (.reg [Xf 19 4 1, Xl 20 1 19, Xb 21 (.call (.fn 92) false [.lend (.t 20)]), Xf 22 4 3, Xz (.store 1 (.t 22) (.t 21))]) (.seq (.reg [XL 23 5 3, Xz (.store 5 (.t 2) (.t 23))])
 .ret))))))))
set_option maxRecDepth 100000 in
theorem d28 (s : Scope) (hs : s.sm) : Does Go.Proofs.Tryz.prog 28 [.agg s.z] false (.agg s.o) [.dead] := by
  unfold Scope.sm at hs
  refine does_introC (mc := m28) (N := 24) (r := 2) (ty := 45) (agg := true) (sz := 5) (fx := []) 1 rfl (by decide +kernel) ?_
  simp only [m28, Scope.z, Scope.o, EV, Nat.reduceEqDiff, Nat.reduceBEq, Nat.reduceLT, Nat.reduceLeDiff, Nat.reduceAdd, Nat.reduceSub, reduceIte]
  refine callK_i (d89 s.imports (hs.2.1).1 (hs.2.1).2) ?_
  simp only [pbeq, Scope.z, Scope.o, EV, Nat.reduceEqDiff, Nat.reduceBEq, Nat.reduceLT, Nat.reduceLeDiff, Nat.reduceAdd, Nat.reduceSub, reduceIte]
  refine callK_i (d90 s.types (hs.2.2.1).1 (hs.2.2.1).2) ?_
  simp only [pbeq, Scope.z, Scope.o, EV, Nat.reduceEqDiff, Nat.reduceBEq, Nat.reduceLT, Nat.reduceLeDiff, Nat.reduceAdd, Nat.reduceSub, reduceIte]
  refine callK_i (d91 s.objects (hs.2.2.2.1).1 (hs.2.2.2.1).2) ?_
  simp only [pbeq, Scope.z, Scope.o, EV, Nat.reduceEqDiff, Nat.reduceBEq, Nat.reduceLT, Nat.reduceLeDiff, Nat.reduceAdd, Nat.reduceSub, reduceIte]
  refine callK_i (d92 s.uses (hs.2.2.2.2).1 (hs.2.2.2.2).2) ?_
  simp only [pbeq, Scope.z, Scope.o, EV, Nat.reduceEqDiff, Nat.reduceBEq, Nat.reduceLT, Nat.reduceLeDiff, Nat.reduceAdd, Nat.reduceSub, reduceIte]
  simp only [Str.nfz, Ty.nfz, Fd.nfz, Ob.nfz, Par.nfz, Us.nfz, EV, Nat.reduceEqDiff, Nat.reduceBEq, Nat.reduceLT, Nat.reduceLeDiff, Nat.reduceAdd, Nat.reduceSub, reduceIte, evRE, retVC, cellV', evR, nfz, nfzs, nfzss, List.contains_nil, List.contains_cons, Bool.or_false, or_true]
def m30 : MC :=
 (.seq (.reg [Xb 2 (.box 45 (.t 0)), Xb 3 (.box 45 (.t 1)), Xb 4 (.asg .fb)]) (.seq (.seq (.reg [Xf 5 0 2, Xl 6 1 5, Xf 7 0 3, Xl 8 1 7, Xq 9 (.bin false .neq (.t 6) (.t 8))]) (.cond (.t 9) (.seq (.reg [Xb 4 (.asg .fb)]) .ret) .skip)) (.seq (.seq (.reg [Xf 10 1 2, Xl 11 1 10, Xf 12 1 3, Xl 13 1 12, Xb 14 (.call (.fn 93) false [.lend (.t 11), .lend (.t 13)]), Xq 15 (.un .not (.t 14))]) (.cond (.t
 15) (.seq (.reg [Xb 4 (.asg .fb)]) .ret) .skip)) (.seq (.seq (.reg [Xf 16 2 2, Xl 17 1 16, Xf 18 2 3, Xl 19 1 18, Xb 20 (.call (.fn 94) false [.lend (.t 17), .lend (.t 19)]), Xq 21 (.un .not (.t 20))]) (.cond (.t 21) (.seq (.reg [Xb 4 (.asg .fb)]) .ret) .skip)) (.seq (.seq (.reg [Xf 22 3 2, Xl 23 1 22, Xf 24 3 3, Xl 25 1 24, Xb 26 (.call (.fn 95) false [.lend (.t 23), .lend (.t 25)]), Xq 27 (.un
 .not (.t 26))]) (.cond (.t 27) (.seq (.reg [Xb 4 (.asg .fb)]) .ret) .skip)) (.seq (.seq (.reg [Xf 28 4 2, Xl 29 1 28, Xf 30 4 3, Xl 31 1 30, Xb 32 (.call (.fn 96) false [.lend (.t 29), .lend (.t 31)]), Xq 33 (.un .not (.t 32))]) (.cond (.t 33) (.seq (.reg [Xb 4 (.asg .fb)]) .ret) .skip)) (.seq (.reg [Xb 4 (.asg .tb)]) .ret)))))))
set_option maxRecDepth 100000 in
theorem d30 (s : Scope) (hs : s.sm) : Does Go.Proofs.Tryz.prog 30 [.agg s.z, .agg s.z] false (.v (.bool true)) [.dead, .dead] := by
  unfold Scope.sm at hs
  refine does_intro (mc := m30) (N := 34) (rs := [4]) (fx := []) 2 rfl (by decide +kernel) ?_
  simp only [m30, Scope.z, EV, Nat.reduceEqDiff, Nat.reduceBEq, Nat.reduceLT, Nat.reduceLeDiff, Nat.reduceAdd, Nat.reduceSub, reduceIte]
  refine callK_i (d93 s.imports (hs.2.1).1 (hs.2.1).2) ?_
  simp only [Scope.z, EV, Nat.reduceEqDiff, Nat.reduceBEq, Nat.reduceLT, Nat.reduceLeDiff, Nat.reduceAdd, Nat.reduceSub, reduceIte]
  refine callK_i (d94 s.types (hs.2.2.1).1 (hs.2.2.1).2) ?_
  simp only [Scope.z, EV, Nat.reduceEqDiff, Nat.reduceBEq, Nat.reduceLT, Nat.reduceLeDiff, Nat.reduceAdd, Nat.reduceSub, reduceIte]
  refine callK_i (d95 s.objects (hs.2.2.2.1).1 (hs.2.2.2.1).2) ?_
  simp only [Scope.z, EV, Nat.reduceEqDiff, Nat.reduceBEq, Nat.reduceLT, Nat.reduceLeDiff, Nat.reduceAdd, Nat.reduceSub, reduceIte]
  refine callK_i (d96 s.uses (hs.2.2.2.2).1 (hs.2.2.2.2).2) ?_
  simp only [Scope.z, EV, Nat.reduceEqDiff, Nat.reduceBEq, Nat.reduceLT, Nat.reduceLeDiff, Nat.reduceAdd, Nat.reduceSub, reduceIte]
  simp only [EV, Nat.reduceEqDiff, Nat.reduceBEq, Nat.reduceLT, Nat.reduceLeDiff, Nat.reduceAdd, Nat.reduceSub, reduceIte, evRE, retVC, cellV', evR, nfz, nfzs, nfzss, List.contains_nil, List.contains_cons, Bool.or_false, or_true]
end Go.AM
