/- Contracts of functions of the given program, for the law FnExactReadSeen: what they return and what they write, under the bounds that each theorem states. -/
import Derived.Test.YtgapafciadflbaaF3
import Derived.Test.YtgapafciadflbaaProg
import Derived.Lib.EndianBits
namespace Go.AM
set_option linter.unusedVariables false
set_option linter.unusedSimpArgs false
def m33 : MC :=
 (.seq (.reg [Xb 6 (.asg .fb)]) (.seq (.reg [Xm 7 0, Xm 8 1, Xq 9 (.bin false .geq (.t 7) (.t 8)), Xm 10 9, Xt 11 10 (.mov (.t 0)), Xt 12 10 (.mov (.t 2)), Xt 13 10 (.bin false .leq (.t 11) (.t 12)), Xq 14 (.pick (.t 10) (.t 13) .fb), Xa 6 14]) .ret))
theorem d33 (x lo hi : Int) : Does Go.Proofs.Try.prog 33 [.v (.int .i64 x), .v (.int .i64 lo), .v (.int .i64 hi)] false (.v (.bool (decide (lo ≤ x) && decide (x ≤ hi)))) [.dead, .dead, .dead] := by
  refine does_intro (mc := m33) (N := 15) (rs := [6]) (fx := []) 3 rfl (by decide +kernel) ?_
  simp only [m33, EV, Nat.reduceEqDiff, Nat.reduceBEq, Nat.reduceLT, Nat.reduceLeDiff, Nat.reduceAdd, Nat.reduceSub, reduceIte]
  repeat' (first
    | (refine gK_cut (fun h => ?_) (fun h => ?_) <;> simp only [h, EV, Nat.reduceEqDiff, Nat.reduceBEq, Nat.reduceLT, Nat.reduceLeDiff, Nat.reduceAdd, Nat.reduceSub, reduceIte])
    | (refine cK_cut (fun h => ?_) (fun h => ?_) <;> simp only [h, EV, Nat.reduceEqDiff, Nat.reduceBEq, Nat.reduceLT, Nat.reduceLeDiff, Nat.reduceAdd, Nat.reduceSub, reduceIte]))
  all_goals simp only [h, EV, Nat.reduceEqDiff, Nat.reduceBEq, Nat.reduceLT, Nat.reduceLeDiff, Nat.reduceAdd, Nat.reduceSub, reduceIte, evRE, retVC, cellV', evR, nfz, nfzs, nfzss, List.contains_nil, List.contains_cons, Bool.or_false, or_true]
def m26 : MC :=
 (.seq (.reg [Xb 6 (.asg .fb)]) (.seq (.reg [Xm 7 0, Xm 8 1, Xq 9 (.bin false .geq (.t 7) (.t 8)), Xm 10 9, Xt 11 10 (.mov (.t 0)), Xt 12 10 (.mov (.t 2)), Xt 13 10 (.bin false .leq (.t 11) (.t 12)), Xq 14 (.pick (.t 10) (.t 13) .fb), Xa 6 14]) .ret))
theorem d26 (x lo hi : Int) : Does Go.Proofs.Try.prog 26 [.v (.int .i64 x), .v (.int .i64 lo), .v (.int .i64 hi)] false (.v (.bool (decide (lo ≤ x) && decide (x ≤ hi)))) [.dead, .dead, .dead] := by
  refine does_intro (mc := m26) (N := 15) (rs := [6]) (fx := []) 3 rfl (by decide +kernel) ?_
  simp only [m26, EV, Nat.reduceEqDiff, Nat.reduceBEq, Nat.reduceLT, Nat.reduceLeDiff, Nat.reduceAdd, Nat.reduceSub, reduceIte]
  repeat' (first
    | (refine gK_cut (fun h => ?_) (fun h => ?_) <;> simp only [h, EV, Nat.reduceEqDiff, Nat.reduceBEq, Nat.reduceLT, Nat.reduceLeDiff, Nat.reduceAdd, Nat.reduceSub, reduceIte])
    | (refine cK_cut (fun h => ?_) (fun h => ?_) <;> simp only [h, EV, Nat.reduceEqDiff, Nat.reduceBEq, Nat.reduceLT, Nat.reduceLeDiff, Nat.reduceAdd, Nat.reduceSub, reduceIte]))
  all_goals simp only [h, EV, Nat.reduceEqDiff, Nat.reduceBEq, Nat.reduceLT, Nat.reduceLeDiff, Nat.reduceAdd, Nat.reduceSub, reduceIte, evRE, retVC, cellV', evR, nfz, nfzs, nfzss, List.contains_nil, List.contains_cons, Bool.or_false, or_true]
def lett (b : Int) : Bool := decide (65 ≤ b) && decide (b ≤ 90) || decide (97 ≤ b) && decide (b ≤ 122)
def digt (b : Int) : Bool := decide (48 ≤ b) && decide (b ≤ 57)
def m35 : MC :=
 (.seq (.reg [Xb 2 (.asg .fb)]) (.seq (.reg [Xm 3 0, Xq 4 (.bin false .geq (.t 3) (.c (.int .u8 65))), Xm 5 4, Xt 6 5 (.mov (.t 0)), Xt 7 5 (.bin false .leq (.t 6) (.c (.int .u8 90))), Xq 8 (.pick (.t 5) (.t 7) .fb), Xm 9 8, Xu 10 9 (.mov (.t 0)), Xu 11 9 (.bin false .geq (.t 10) (.c (.int .u8 97))), Xu 12 9 (.mov (.t 11)), Xt 13 12 (.mov (.t 0)), Xt 14 12 (.bin false .leq (.t 13) (.c (.int .u8
 122))), Xu 15 9 (.pick (.t 12) (.t 14) .fb), Xq 16 (.pick (.t 9) .tb (.t 15)), Xa 2 16]) .ret))
theorem d35 (b : Int) : Does Go.Proofs.Try.prog 35 [.v (.int .u8 b)] false (.v (.bool (lett b))) [.dead] := by
  refine does_intro (mc := m35) (N := 17) (rs := [2]) (fx := []) 1 rfl (by decide +kernel) ?_
  simp only [m35, EV, Nat.reduceEqDiff, Nat.reduceBEq, Nat.reduceLT, Nat.reduceLeDiff, Nat.reduceAdd, Nat.reduceSub, reduceIte]
  repeat' (first
    | (refine gK_cut (fun h => ?_) (fun h => ?_) <;> simp only [h, EV, Nat.reduceEqDiff, Nat.reduceBEq, Nat.reduceLT, Nat.reduceLeDiff, Nat.reduceAdd, Nat.reduceSub, reduceIte])
    | (refine cK_cut (fun h => ?_) (fun h => ?_) <;> simp only [h, EV, Nat.reduceEqDiff, Nat.reduceBEq, Nat.reduceLT, Nat.reduceLeDiff, Nat.reduceAdd, Nat.reduceSub, reduceIte]))
  all_goals simp only [lett, *, Bool.or_true, Bool.true_or, Bool.false_or, Bool.or_false, EV, Nat.reduceEqDiff, Nat.reduceBEq, Nat.reduceLT, Nat.reduceLeDiff, Nat.reduceAdd, Nat.reduceSub, reduceIte, evRE, retVC, cellV', evR, nfz, nfzs, nfzss, List.contains_nil, List.contains_cons, Bool.or_false, or_true]
def m36 : MC :=
 (.seq (.reg [Xb 2 (.asg .fb)]) (.seq (.reg [Xm 3 0, Xq 4 (.bin false .geq (.t 3) (.c (.int .u8 48))), Xm 5 4, Xt 6 5 (.mov (.t 0)), Xt 7 5 (.bin false .leq (.t 6) (.c (.int .u8 57))), Xq 8 (.pick (.t 5) (.t 7) .fb), Xa 2 8]) .ret))
theorem d36 (b : Int) : Does Go.Proofs.Try.prog 36 [.v (.int .u8 b)] false (.v (.bool (digt b))) [.dead] := by
  refine does_intro (mc := m36) (N := 9) (rs := [2]) (fx := []) 1 rfl (by decide +kernel) ?_
  simp only [m36, EV, Nat.reduceEqDiff, Nat.reduceBEq, Nat.reduceLT, Nat.reduceLeDiff, Nat.reduceAdd, Nat.reduceSub, reduceIte]
  repeat' (first
    | (refine gK_cut (fun h => ?_) (fun h => ?_) <;> simp only [h, EV, Nat.reduceEqDiff, Nat.reduceBEq, Nat.reduceLT, Nat.reduceLeDiff, Nat.reduceAdd, Nat.reduceSub, reduceIte])
    | (refine cK_cut (fun h => ?_) (fun h => ?_) <;> simp only [h, EV, Nat.reduceEqDiff, Nat.reduceBEq, Nat.reduceLT, Nat.reduceLeDiff, Nat.reduceAdd, Nat.reduceSub, reduceIte]))
  all_goals simp only [digt, *, EV, Nat.reduceEqDiff, Nat.reduceBEq, Nat.reduceLT, Nat.reduceLeDiff, Nat.reduceAdd, Nat.reduceSub, reduceIte, evRE, retVC, cellV', evR, nfz, nfzs, nfzss, List.contains_nil, List.contains_cons, Bool.or_false, or_true]
def chOk (s : ByteArray) (i : Nat) : Bool := lett (sAt s i) || (i != 0 && digt (sAt s i))
def chsOk (s : ByteArray) (i : Nat) : Prop := ∀ j, j < i → chOk s j = true
open Classical in
noncomputable def nameOk (s : ByteArray) : Bool := decide (chsOk s s.size ∧ 1 ≤ s.size ∧ s.size ≤ 10)
theorem chsOk_succ {s : ByteArray} {i : Nat} (h : chsOk s i) (h2 : chOk s i = true) : chsOk s (i + 1) := by
  intro j hj
  by_cases e : j = i
  · subst e; exact h2
  · exact h j (by omega)
theorem nameOk_no {s : ByteArray} {i : Nat} (hi : i < s.size) (h : chOk s i = false) : nameOk s = false := by
  simp only [nameOk, decide_eq_false_iff_not]
  rintro ⟨h1, _⟩
  have := h1 i hi
  rw [h] at this; cases this
theorem nameOk_yes {s : ByteArray} (h : chsOk s s.size) : nameOk s = (decide ((1 : Int) ≤ s.size) && decide ((s.size : Int) ≤ 10)) := by
  have e1 : decide ((1 : Int) ≤ s.size) = decide (1 ≤ s.size) := by congr 1; apply propext; omega
  have e2 : decide ((s.size : Int) ≤ 10) = decide (s.size ≤ 10) := by congr 1; apply propext; omega
  simp [nameOk, h, e1, e2]
def m22 : MC :=
 (.seq (.reg [Xb 2 (.asg .fb)]) (.seq (.seq (.reg [Xb 3 (.asg (.i 0))]) (.block 0 (.loop [0, 3] (.seq (.seq (.reg [Xm 6 3, Xm 7 0, Xq 8 (.len true (.t 7)), Xq 9 (.bin false .lss (.t 6) (.t 8))]) (.cond (.t 9) .skip (.exit 0))) (.seq (.block 1 (.seq (.reg [Xm 12 0, Xm 13 3, Xq 14 (.idx (.t 12) (.t 13)), Xa 4 14]) (.join [0, 3, 4, 5] (.reg [Xm 15 4, Xq 16 (.bin false .geq (.t 15) (.c (.int .u8 65))),
 Xm 17 16, Xt 18 17 (.mov (.t 4)), Xt 19 17 (.bin false .leq (.t 18) (.c (.int .u8 90))), Xq 20 (.pick (.t 17) (.t 19) .fb), Xm 21 20, Xu 22 21 (.mov (.t 4)), Xu 23 21 (.bin false .geq (.t 22) (.c (.int .u8 97))), Xu 24 21 (.mov (.t 23)), Xt 25 24 (.mov (.t 4)), Xt 26 24 (.bin false .leq (.t 25) (.c (.int .u8 122))), Xu 27 21 (.pick (.t 24) (.t 26) .fb), Xq 28 (.pick (.t 21) .tb (.t 27)), Xa 5 28])
 (.seq (.reg [Xm 29 5, Xq 30 (.un .not (.t 29)), Xm 31 30, Xt 32 31 (.mov (.t 3)), Xt 33 31 (.bin false .eql (.t 32) (.i 0)), Xt 34 31 (.mov (.t 33)), Xu 35 34 (.mov (.t 4)), Xu 36 34 (.bin false .lss (.t 35) (.c (.int .u8 48))), Xt 37 31 (.pick (.t 34) .tb (.t 36)), Xt 38 31 (.mov (.t 37)), Xu 39 38 (.mov (.t 4)), Xu 40 38 (.bin false .gtr (.t 39) (.c (.int .u8 57))), Xt 41 31 (.pick (.t 38) .tb
 (.t 40)), Xq 42 (.pick (.t 31) (.t 41) .fb)]) (.cond (.t 42) (.seq (.reg [Xb 2 (.asg .fb)]) .ret) .skip))))) (.reg [Xm 10 3, Xq 11 (.bin false .add (.t 10) (.i 1)), Xa 3 11])))))) (.seq (.reg [Xm 43 0, Xq 44 (.len true (.t 43)), Xb 45 (.call (.fn 33) false [.lend (.t 44), .lend (.i 1), .lend (.i 10)]), Xa 2 45]) .ret)))
theorem d22 (s : ByteArray) (hs : (s.size : Int) ≤ 9223372036854775807) : Does Go.Proofs.Try.prog 22 [.v (.string s)] false (.v (.bool (nameOk s))) [.dead] := by
  refine does_intro (mc := m22) (N := 46) (rs := [2]) (fx := []) 1 rfl (by decide +kernel) ?_
  simp only [m22, EV, Nat.reduceEqDiff, Nat.reduceBEq, Nat.reduceLT, Nat.reduceLeDiff, Nat.reduceAdd, Nat.reduceSub, reduceIte]
  refine awp_loop (fun i : Nat => i ≤ s.size ∧ chsOk s i) (fun i => stl [(0, .v (.string s)), (3, .v (.int .i64 (i : Int)))]) (fun i => s.size - i) 0 ⟨by omega, fun j hj => absurd hj (by omega)⟩ ?_ ?_
  · simp only [EV, Nat.reduceEqDiff, Nat.reduceBEq, Nat.reduceLT, Nat.reduceLeDiff, Nat.reduceAdd, Nat.reduceSub, reduceIte]
    rfl
  · rintro i ⟨h0, h1⟩
    simp only [EV, Nat.reduceEqDiff, Nat.reduceBEq, Nat.reduceLT, Nat.reduceLeDiff, Nat.reduceAdd, Nat.reduceSub, reduceIte]
    refine cK_cut (fun h => ?_) (fun h => ?_)
    · have h2 : (i : Int) < s.size := by simpa using h
      simp only [h2, EV, Nat.reduceEqDiff, Nat.reduceBEq, Nat.reduceLT, Nat.reduceLeDiff, Nat.reduceAdd, Nat.reduceSub, reduceIte]
      refine awp_join (fun _ : Unit => True) (fun _ => stl [(0, .v (.string s)), (3, .v (.int .i64 (i : Int))), (4, .v (.int .u8 (sAt s i))), (5, .v (.bool (lett (sAt s i))))]) ?_ ?_
      · simp only [EV, Nat.reduceEqDiff, Nat.reduceBEq, Nat.reduceLT, Nat.reduceLeDiff, Nat.reduceAdd, Nat.reduceSub, reduceIte]
        repeat' (first
    | (refine gK_cut (fun h => ?_) (fun h => ?_) <;> simp only [h, EV, Nat.reduceEqDiff, Nat.reduceBEq, Nat.reduceLT, Nat.reduceLeDiff, Nat.reduceAdd, Nat.reduceSub, reduceIte])
    | (refine cK_cut (fun h => ?_) (fun h => ?_) <;> simp only [h, EV, Nat.reduceEqDiff, Nat.reduceBEq, Nat.reduceLT, Nat.reduceLeDiff, Nat.reduceAdd, Nat.reduceSub, reduceIte]))
        all_goals refine ⟨(), ?_⟩
        all_goals simp only [lett, *, Bool.or_true, Bool.true_or, Bool.false_or, Bool.or_false, EV, Nat.reduceEqDiff, Nat.reduceBEq, Nat.reduceLT, Nat.reduceLeDiff, Nat.reduceAdd, Nat.reduceSub, reduceIte]
      · rintro _ _
        simp only [EV, Nat.reduceEqDiff, Nat.reduceBEq, Nat.reduceLT, Nat.reduceLeDiff, Nat.reduceAdd, Nat.reduceSub, reduceIte]
        repeat' (first
    | (refine gK_cut (fun h => ?_) (fun h => ?_) <;> simp only [h, EV, Nat.reduceEqDiff, Nat.reduceBEq, Nat.reduceLT, Nat.reduceLeDiff, Nat.reduceAdd, Nat.reduceSub, reduceIte])
    | (refine cK_cut (fun h => ?_) (fun h => ?_) <;> simp only [h, EV, Nat.reduceEqDiff, Nat.reduceBEq, Nat.reduceLT, Nat.reduceLeDiff, Nat.reduceAdd, Nat.reduceSub, reduceIte]))
        all_goals first
          | (have hc : chOk s i = false := by
               simp_all [chOk, digt] <;> omega
             simp only [nameOk_no (by omega) hc, EV, Nat.reduceEqDiff, Nat.reduceBEq, Nat.reduceLT, Nat.reduceLeDiff, Nat.reduceAdd, Nat.reduceSub, reduceIte, evRE, retVC, cellV', evR, nfz, nfzs, nfzss, List.contains_nil, List.contains_cons, Bool.or_false, or_true]
             done)
          | (have hc : chOk s i = true := by
               simp_all [chOk, digt] <;> omega
             rw [w64 _ (by omega)]
             exact ⟨i + 1, ⟨by omega, chsOk_succ h1 hc⟩, by omega, rfl⟩)
    · have h2 : i = s.size := by have : ¬ (i : Int) < s.size := by simpa using h
                                 omega
      subst h2
      simp only [EV, Nat.reduceEqDiff, Nat.reduceBEq, Nat.reduceLT, Nat.reduceLeDiff, Nat.reduceAdd, Nat.reduceSub, reduceIte]
      refine callK_i (d33 _ _ _) ?_
      simp only [EV, Nat.reduceEqDiff, Nat.reduceBEq, Nat.reduceLT, Nat.reduceLeDiff, Nat.reduceAdd, Nat.reduceSub, reduceIte]
      simp only [nameOk_yes h1, EV, Nat.reduceEqDiff, Nat.reduceBEq, Nat.reduceLT, Nat.reduceLeDiff, Nat.reduceAdd, Nat.reduceSub, reduceIte, evRE, retVC, cellV', evR, nfz, nfzs, nfzss, List.contains_nil, List.contains_cons, Bool.or_false, or_true]
end Go.AM
namespace Go.AM
set_option linter.unusedVariables false
set_option linter.unusedSimpArgs false
def m29 : MC :=
 (.seq (.reg [Xb 2 (.asg .fb)]) (.seq (.seq (.reg [Xm 4 0, Xq 5 (.len true (.t 4)), Xq 6 (.mov (.i 0))]) (.block 0 (.loop [0, 5, 6] (.seq (.reg [Xq 7 (.bin false .lss (.t 6) (.t 5))]) (.seq (.cond (.t 7) .skip (.exit 0)) (.seq (.block 1 (.seq (.reg [Xm 8 6, Xa 3 8]) (.seq (.reg [Xm 9 0, Xm 10 3, Xq 11 (.idx (.t 9) (.t 10)), Xb 12 (.call (.fn 35) false [.lend (.t 11)]), Xq 13 (.un .not (.t 12)), Xm
 14 13, Xt 15 14 (.mov (.t 3)), Xt 16 14 (.bin false .eql (.t 15) (.i 0)), Xt 17 14 (.mov (.t 16)), Xu 18 17 (.mov (.t 0)), Xu 19 17 (.mov (.t 3)), Xu 20 17 (.idx (.t 18) (.t 19)), XU 21 17 (.call (.fn 36) false [.lend (.t 20)]), Xu 22 17 (.un .not (.t 21)), Xt 23 14 (.pick (.t 17) .tb (.t 22)), Xq 24 (.pick (.t 14) (.t 23) .fb)]) (.cond (.t 24) (.seq (.reg [Xb 2 (.asg .fb)]) .ret) .skip)))) (.reg
 [Xq 25 (.bin false .add (.t 6) (.i 1)), Xm 6 25]))))))) (.seq (.reg [Xm 26 0, Xq 27 (.len true (.t 26)), Xb 28 (.call (.fn 26) false [.lend (.t 27), .lend (.i 1), .lend (.i 10)]), Xa 2 28]) .ret)))
theorem d29 (s : ByteArray) (hs : (s.size : Int) ≤ 9223372036854775807) : Does Go.Proofs.Try.prog 29 [.v (.string s)] false (.v (.bool (nameOk s))) [.dead] := by
  refine does_intro (mc := m29) (N := 29) (rs := [2]) (fx := []) 1 rfl (by decide +kernel) ?_
  simp only [m29, EV, Nat.reduceEqDiff, Nat.reduceBEq, Nat.reduceLT, Nat.reduceLeDiff, Nat.reduceAdd, Nat.reduceSub, reduceIte]
  refine awp_loop (fun i : Nat => i ≤ s.size ∧ chsOk s i) (fun i => stl [(0, .v (.string s)), (5, .v (.int .i64 (s.size : Int))), (6, .v (.int .i64 (i : Int)))]) (fun i => s.size - i) 0 ⟨by omega, fun j hj => absurd hj (by omega)⟩ ?_ ?_
  · simp only [EV, Nat.reduceEqDiff, Nat.reduceBEq, Nat.reduceLT, Nat.reduceLeDiff, Nat.reduceAdd, Nat.reduceSub, reduceIte]
    rfl
  · rintro i ⟨h0, h1⟩
    simp only [EV, Nat.reduceEqDiff, Nat.reduceBEq, Nat.reduceLT, Nat.reduceLeDiff, Nat.reduceAdd, Nat.reduceSub, reduceIte]
    refine cK_cut (fun h => ?_) (fun h => ?_)
    · have h2 : (i : Int) < s.size := by simpa using h
      simp only [h2, EV, Nat.reduceEqDiff, Nat.reduceBEq, Nat.reduceLT, Nat.reduceLeDiff, Nat.reduceAdd, Nat.reduceSub, reduceIte]
      refine callK_i (d35 _) ?_
      simp only [EV, Nat.reduceEqDiff, Nat.reduceBEq, Nat.reduceLT, Nat.reduceLeDiff, Nat.reduceAdd, Nat.reduceSub, reduceIte]
      repeat' (first
    | (refine gK_cut (fun h => ?_) (fun h => ?_) <;> simp only [h, h2, EV, Nat.reduceEqDiff, Nat.reduceBEq, Nat.reduceLT, Nat.reduceLeDiff, Nat.reduceAdd, Nat.reduceSub, reduceIte])
    | (refine cK_cut (fun h => ?_) (fun h => ?_) <;> simp only [h, h2, EV, Nat.reduceEqDiff, Nat.reduceBEq, Nat.reduceLT, Nat.reduceLeDiff, Nat.reduceAdd, Nat.reduceSub, reduceIte])
    | (refine callK_i (d36 _) ?_ <;> simp only [h, h2, EV, Nat.reduceEqDiff, Nat.reduceBEq, Nat.reduceLT, Nat.reduceLeDiff, Nat.reduceAdd, Nat.reduceSub, reduceIte]))
      all_goals first
          | (have hc : chOk s i = false := by
               simp_all [chOk]
             simp only [nameOk_no (by omega) hc, EV, Nat.reduceEqDiff, Nat.reduceBEq, Nat.reduceLT, Nat.reduceLeDiff, Nat.reduceAdd, Nat.reduceSub, reduceIte, evRE, retVC, cellV', evR, nfz, nfzs, nfzss, List.contains_nil, List.contains_cons, Bool.or_false, or_true]
             done)
          | (have hc : chOk s i = true := by
               simp_all [chOk] <;> omega
             rw [w64 _ (by omega)]
             exact ⟨i + 1, ⟨by omega, chsOk_succ h1 hc⟩, by omega, rfl⟩)
    · have h2 : i = s.size := by have : ¬ (i : Int) < s.size := by simpa using h
                                 omega
      subst h2
      simp only [EV, Nat.reduceEqDiff, Nat.reduceBEq, Nat.reduceLT, Nat.reduceLeDiff, Nat.reduceAdd, Nat.reduceSub, reduceIte]
      refine callK_i (d26 _ _ _) ?_
      simp only [EV, Nat.reduceEqDiff, Nat.reduceBEq, Nat.reduceLT, Nat.reduceLeDiff, Nat.reduceAdd, Nat.reduceSub, reduceIte]
      simp only [nameOk_yes h1, EV, Nat.reduceEqDiff, Nat.reduceBEq, Nat.reduceLT, Nat.reduceLeDiff, Nat.reduceAdd, Nat.reduceSub, reduceIte, evRE, retVC, cellV', evR, nfz, nfzs, nfzss, List.contains_nil, List.contains_cons, Bool.or_false, or_true]
end Go.AM
namespace Go.AM
set_option linter.unusedVariables false
set_option linter.unusedSimpArgs false
theorem ovw_all {l cs : List AV} (h : l.length = cs.length) : ovw l 0 cs = cs := by
  simp [ovw, ← h]
structure Seen where
  mod : ByteArray
  name : ByteArray
  sum : Int
def Seen.c (s : Seen) : List AV := [.v (.string s.mod), .v (.string s.name), .v (.int .i64 s.sum)]
theorem SeenE : (∀ f : Seen, f.c.length = 3) ∧ (∀ f : Seen, f.c.take 3 = f.c) ∧ (∀ (st : St) (f : Seen), frzBs st f.c = f.c) ∧ (∀ f : Seen, bares f.c = true) ∧ (∀ f : Seen, plains f.c = true) ∧ (∀ f : Seen, frzRow f.c = f.c) ∧ (∀ (f : Seen) (K : Nat → List (Nat × Nat) → Bool), killVs K f.c = f.c) ∧ (∀ (f : Seen) (n : Nat) (p : List (Nat × Nat)) (i : Nat), brws n p i 0 f.c = f.c) ∧ (∀ f : Seen, f.c.all storL = true) ∧ (∀ (f : Seen) (l : List AV), l.length = 3 → ovw l 0 f.c = f.c) :=
  ⟨fun _ => rfl, fun _ => rfl, fun _ _ => rfl, fun _ => rfl, fun _ => rfl, fun _ => rfl, fun _ _ => rfl, fun _ _ _ _ => rfl, fun _ => rfl, fun f l h => ovw_all (by rw [h]; rfl)⟩
theorem Seen.nfz : ∀ l : List Seen, nfzss (l.map Seen.c) = true
  | [] => rfl
  | s :: l => by simp only [List.map_cons, nfzss, Seen.nfz l]; rfl
theorem Seen.frz : ∀ l : List Seen, frzRows (l.map Seen.c) = l.map Seen.c
  | [] => rfl
  | s :: l => by simp [frzRows, SeenE, Seen.frz l]
def Seen.ok (s : Seen) : Prop := (s.mod.size : Int) ≤ 9223372036854775807 ∧ (s.name.size : Int) ≤ 9223372036854775807 ∧ -9223372036854775808 ≤ s.sum ∧ s.sum ≤ 9223372036854775807
def m18 : MC :=
 (.seq (.reg [Xb 2 (.box 34 (.t 0)), Xb 3 (.box 34 (.t 1)), Xb 4 (.asg .fb)]) (.seq (.seq (.reg [Xf 5 0 2, Xl 6 1 5, Xf 7 0 3, Xl 8 1 7, Xq 9 (.bin false .neq (.t 6) (.t 8))]) (.cond (.t 9) (.seq (.reg [Xb 4 (.asg .fb)]) .ret) .skip)) (.seq (.seq (.reg [Xf 10 1 2, Xl 11 1 10, Xf 12 1 3, Xl 13 1 12, Xq 14 (.bin false .neq (.t 11) (.t 13))]) (.cond (.t 14) (.seq (.reg [Xb 4 (.asg .fb)]) .ret) .skip))
 (.seq (.seq (.reg [Xf 15 2 2, Xl 16 1 15, Xf 17 2 3, Xl 18 1 17, Xq 19 (.bin false .neq (.t 16) (.t 18))]) (.cond (.t 19) (.seq (.reg [Xb 4 (.asg .fb)]) .ret) .skip)) (.seq (.reg [Xb 4 (.asg .tb)]) .ret)))))
theorem d18 (f : Seen) : Does Go.Proofs.Try.prog 18 [.agg f.c, .agg f.c] false (.v (.bool true)) [.dead, .dead] := by
  refine does_intro (mc := m18) (N := 20) (rs := [4]) (fx := []) 2 rfl (by decide +kernel) ?_
  simp only [m18, Seen.c, EV, Nat.reduceEqDiff, Nat.reduceBEq, Nat.reduceLT, Nat.reduceLeDiff, Nat.reduceAdd, Nat.reduceSub, reduceIte]
  simp only [EV, Nat.reduceEqDiff, Nat.reduceBEq, Nat.reduceLT, Nat.reduceLeDiff, Nat.reduceAdd, Nat.reduceSub, reduceIte, evRE, retVC, cellV', evR, nfz, nfzs, nfzss, List.contains_nil, List.contains_cons, Bool.or_false, or_true]
def m6 : MC :=
 (.seq (.reg [Xb 4 (.asg .fb)]) (.seq (.seq (.reg [Xm 6 0, Xn 7 6, Xm 8 1, Xn 9 8, Xq 10 (.bin false .neq (.t 7) (.t 9))]) (.cond (.t 10) (.seq (.reg [Xb 4 (.asg .fb)]) .ret) .skip)) (.seq (.seq (.reg [Xb 5 (.asg (.i 0))]) (.block 0 (.loop [0, 1, 5] (.seq (.seq (.reg [Xm 11 5, Xm 12 0, Xn 13 12, Xq 14 (.bin false .lss (.t 11) (.t 13))]) (.cond (.t 14) .skip (.exit 0))) (.seq (.block 1 (.seq (.dreg
 [Xm 17 0, Xm 18 5, Xi 19 3 17 18, XL 20 3 19, Xm 21 1, Xm 22 5, Xi 23 3 21 22, XL 24 3 23, Xb 25 (.call (.fn 18) false [.lend (.t 20), .lend (.t 24)]), Xq 26 (.un .not (.t 25))]) (.cond (.t 26) (.seq (.reg [Xb 4 (.asg .fb)]) .ret) .skip))) (.reg [Xm 15 5, Xq 16 (.bin false .add (.t 15) (.i 1)), Xa 5 16])))))) (.seq (.reg [Xb 4 (.asg .tb)]) .ret))))
theorem d6 (l : List Seen) (hl : l.length < 9223372036854775807) : Does Go.Proofs.Try.prog 6 [.fsl 3 (l.map Seen.c), .fsl 3 (l.map Seen.c)] false (.v (.bool true)) [.dead, .dead] := by
  refine does_intro (mc := m6) (N := 27) (rs := [4]) (fx := []) 2 rfl (by decide +kernel) ?_
  simp only [m6, EV, Nat.reduceEqDiff, Nat.reduceBEq, Nat.reduceLT, Nat.reduceLeDiff, Nat.reduceAdd, Nat.reduceSub, reduceIte]
  refine awp_loop (fun i : Nat => i ≤ l.length) (fun i => stl [(0, .fsl 3 (l.map Seen.c)), (1, .fsl 3 (l.map Seen.c)), (5, .v (.int .i64 (i : Int)))]) (fun i => l.length - i) 0 (Nat.zero_le _) ?_ ?_
  · simp only [EV, Nat.reduceEqDiff, Nat.reduceBEq, Nat.reduceLT, Nat.reduceLeDiff, Nat.reduceAdd, Nat.reduceSub, reduceIte]
    rfl
  · intro i hi
    simp only [EV, Nat.reduceEqDiff, Nat.reduceBEq, Nat.reduceLT, Nat.reduceLeDiff, Nat.reduceAdd, Nat.reduceSub, reduceIte]
    refine cK_cut (fun h => ?_) (fun h => ?_)
    · have h1 : i < l.length := by simpa using h
      have h2 : (i : Int) < (l.length : Int) := by omega
      simp only [SeenE, nth_map h1, h2, EV, Nat.reduceEqDiff, Nat.reduceBEq, Nat.reduceLT, Nat.reduceLeDiff, Nat.reduceAdd, Nat.reduceSub, reduceIte]
      refine callD_i (d18 l[i]) rfl ?_
      simp only [EV, Nat.reduceEqDiff, Nat.reduceBEq, Nat.reduceLT, Nat.reduceLeDiff, Nat.reduceAdd, Nat.reduceSub, reduceIte]
      refine ⟨i + 1, by omega, by omega, ?_⟩
      rw [w64 _ (by omega)]
      rfl
    · have h1 : i = l.length := by have : ¬ (i : Int) < l.length := by simpa using h
                                   omega
      simp only [EV, Nat.reduceEqDiff, Nat.reduceBEq, Nat.reduceLT, Nat.reduceLeDiff, Nat.reduceAdd, Nat.reduceSub, reduceIte]
      simp only [EV, Nat.reduceEqDiff, Nat.reduceBEq, Nat.reduceLT, Nat.reduceLeDiff, Nat.reduceAdd, Nat.reduceSub, reduceIte, evRE, retVC, cellV', evR, nfz, nfzs, nfzss, List.contains_nil, List.contains_cons, Bool.or_false, or_true]
end Go.AM
namespace Go.AM
set_option linter.unusedVariables false
set_option linter.unusedSimpArgs false
def m19 : MC :=
 (.seq (.reg [Xb 2 (.asg (.z #[]))]) (.seq (.seq (.reg [Xm 4 0, Xq 5 (.bin false .leq (.t 4) (.i 0))]) (.cond (.t 5) (.seq (.reg [Xb 2 (.asg (.z #[109, 48]))]) .ret) .skip)) (.seq (.reg [Xb 3 (.asg (.z #[]))]) (.seq (.block 0 (.loop [0, 3] (.seq (.seq (.reg [Xm 6 0, Xq 7 (.bin false .gtr (.t 6) (.i 0))]) (.cond (.t 7) .skip (.exit 0))) (.block 1 (.seq (.reg [Xm 8 0, Xq 9 (.bin false .rem (.t 8) (.i
 10)), Xq 10 (.bin false .add (.i 48) (.t 9)), Xq 11 (.conv .u8 (.t 10)), Xb 12 (.bsl 5 1 [.t 11]), Xq 13 (.b2s (.t 12)), Xm 14 3, Xq 15 (.bin false .add (.t 13) (.t 14)), Xa 3 15]) (.reg [Xm 16 0, Xq 17 (.bin false .quo (.t 16) (.i 10)), Xa 0 17])))))) (.seq (.reg [Xm 18 3, Xq 19 (.bin false .add (.z #[109]) (.t 18)), Xa 2 19]) .ret)))))
def mtL (k : Int) (s : ByteArray) : ByteArray := if h : 0 < k then mtL (k.tdiv 10) (strA [IntKind.u8.wrap (48 + k.tmod 10)] ++ s) else s
  termination_by k.toNat
  decreasing_by
  have : k.tdiv 10 = k / 10 := Int.tdiv_eq_ediv_of_nonneg (by omega)
  rw [this]; omega
def mt (k : Int) : ByteArray := if k ≤ 0 then ⟨#[109, 48]⟩ else ⟨#[109]⟩ ++ mtL k ⟨#[]⟩
theorem d19 (k : Int) (h0 : -9223372036854775808 ≤ k) (h1 : k ≤ 4611686018427387904) : Does Go.Proofs.Try.prog 19 [.v (.int .i64 k)] false (.v (.string (mt k))) [.dead] := by
  refine does_intro (mc := m19) (N := 20) (rs := [2]) (fx := []) 1 rfl (by decide +kernel) ?_
  simp only [m19, EV, Nat.reduceEqDiff, Nat.reduceBEq, Nat.reduceLT, Nat.reduceLeDiff, Nat.reduceAdd, Nat.reduceSub, reduceIte]
  refine cK_cut (fun h => ?_) (fun h => ?_)
  · have h2 : k ≤ 0 := by simpa using h
    simp only [EV, Nat.reduceEqDiff, Nat.reduceBEq, Nat.reduceLT, Nat.reduceLeDiff, Nat.reduceAdd, Nat.reduceSub, reduceIte]
    simp only [mt, h2, EV, Nat.reduceEqDiff, Nat.reduceBEq, Nat.reduceLT, Nat.reduceLeDiff, Nat.reduceAdd, Nat.reduceSub, reduceIte, evRE, retVC, cellV', evR, nfz, nfzs, nfzss, List.contains_nil, List.contains_cons, Bool.or_false, or_true]
  · have h2 : ¬ k ≤ 0 := by simpa using h
    simp only [EV, Nat.reduceEqDiff, Nat.reduceBEq, Nat.reduceLT, Nat.reduceLeDiff, Nat.reduceAdd, Nat.reduceSub, reduceIte]
    refine awp_loop (fun p : Int × ByteArray => 0 ≤ p.1 ∧ p.1 ≤ k ∧ (p.2.size : Int) + p.1 ≤ k ∧ mtL p.1 p.2 = mtL k ⟨#[]⟩) (fun p => stl [(0, .v (.int .i64 p.1)), (3, .v (.string p.2))]) (fun p => p.1.toNat) (k, ⟨#[]⟩) ⟨by omega, by omega, by show (((⟨#[]⟩ : ByteArray).size : Nat) : Int) + k ≤ k; simp [ByteArray.size], rfl⟩ ?_ ?_
    · simp only [EV, Nat.reduceEqDiff, Nat.reduceBEq, Nat.reduceLT, Nat.reduceLeDiff, Nat.reduceAdd, Nat.reduceSub, reduceIte]
    · rintro ⟨n, s⟩ ⟨p0, p1, p2, p3⟩
      simp only [EV, Nat.reduceEqDiff, Nat.reduceBEq, Nat.reduceLT, Nat.reduceLeDiff, Nat.reduceAdd, Nat.reduceSub, reduceIte]
      refine cK_cut (fun h => ?_) (fun h => ?_)
      · have h3 : 0 < n := by simpa using h
        have ed : n.tdiv 10 = n / 10 := Int.tdiv_eq_ediv_of_nonneg (by omega)
        have em : n.tmod 10 = n % 10 := Int.tmod_eq_emod_of_nonneg (by omega)
        have w1 : IntKind.i64.wrap (48 + n.tmod 10) = 48 + n.tmod 10 := w64 _ (by omega)
        have w2 : IntKind.i64.wrap (n.tdiv 10) = n.tdiv 10 := w64 _ (by omega)
        simp only [w1, w2, EV, Nat.reduceEqDiff, Nat.reduceBEq, Nat.reduceLT, Nat.reduceLeDiff, Nat.reduceAdd, Nat.reduceSub, reduceIte]
        simp only at p0 p1 p2 p3
        have hs : (strA [IntKind.u8.wrap (48 + n.tmod 10)]).size = 1 := rfl
        refine ⟨by decide, ?_, by decide, (n.tdiv 10, strA [IntKind.u8.wrap (48 + n.tmod 10)] ++ s), ⟨?_, ?_, ?_, ?_⟩, ?_, rfl⟩
        · rw [hs]; omega
        · show 0 ≤ n.tdiv 10; omega
        · show n.tdiv 10 ≤ k; omega
        · show (((strA [IntKind.u8.wrap (48 + n.tmod 10)] ++ s).size : Nat) : Int) + n.tdiv 10 ≤ k
          rw [ByteArray.size_append, hs]; omega
        · show mtL (n.tdiv 10) (strA [IntKind.u8.wrap (48 + n.tmod 10)] ++ s) = _
          rw [← p3, mtL.eq_def n, dif_pos h3]
        · show (n.tdiv 10).toNat < n.toNat; omega
      · have h3 : ¬ 0 < n := by simpa using h
        simp only at p0 p1 p2 p3
        have e : mtL k ⟨#[]⟩ = s := by rw [← p3, mtL.eq_def, dif_neg h3]
        have hs : ((⟨#[109]⟩ : ByteArray).size : Nat) = 1 := rfl
        simp only [EV, Nat.reduceEqDiff, Nat.reduceBEq, Nat.reduceLT, Nat.reduceLeDiff, Nat.reduceAdd, Nat.reduceSub, reduceIte]
        refine ⟨?_, ?_⟩
        · rw [hs]; omega
        · simp only [mt, h2, e, EV, Nat.reduceEqDiff, Nat.reduceBEq, Nat.reduceLT, Nat.reduceLeDiff, Nat.reduceAdd, Nat.reduceSub, reduceIte, evRE, retVC, cellV', evR, nfz, nfzs, nfzss, List.contains_nil, List.contains_cons, Bool.or_false, or_true]
end Go.AM
namespace Go.AM
set_option linter.unusedVariables false
set_option linter.unusedSimpArgs false
def mkSeen (k : Int) : Seen := ⟨mt (k), mt (k + 1), k + 2⟩
def mkSeenS : List Seen → Int → List Seen
  | [], _ => []
  | f :: fs, k => mkSeen k :: mkSeenS fs (k + 3)
theorem mkSeenS_len : ∀ (l : List Seen) (k : Int), (mkSeenS l k).length = l.length
  | [], _ => rfl
  | f :: fs, k => by simp [mkSeenS, mkSeenS_len fs]
def m7 : MC :=
 (.seq (.reg [Xb 4 (.asg (.i 0))]) (.seq (.seq (.reg [Xb 5 (.asg (.i 0))]) (.block 0 (.loop [0, 1, 5] (.seq (.seq (.reg [Xm 6 5, Xm 7 0, Xn 8 7, Xq 9 (.bin false .lss (.t 6) (.t 8))]) (.cond (.t 9) .skip (.exit 0))) (.seq (.block 1 (.seq (.reg [Xm 12 0, Xm 13 5, Xm 14 1, Xb 15 (.call (.fn 19) false [.lend (.t 14)]), Xi 16 3 12 13, Xf 17 0 16, Xz (.store 1 (.t 17) (.t 15))]) (.seq (.reg [Xm 18 1, Xq
 19 (.bin false .add (.t 18) (.i 1)), Xa 1 19]) (.seq (.reg [Xm 20 0, Xm 21 5, Xm 22 1, Xb 23 (.call (.fn 19) false [.lend (.t 22)]), Xi 24 3 20 21, Xf 25 1 24, Xz (.store 1 (.t 25) (.t 23))]) (.seq (.reg [Xm 26 1, Xq 27 (.bin false .add (.t 26) (.i 1)), Xa 1 27]) (.seq (.reg [Xm 28 0, Xm 29 5, Xm 30 1, Xi 31 3 28 29, Xf 32 2 31, Xz (.store 1 (.t 32) (.t 30))]) (.reg [Xm 33 1, Xq 34 (.bin false
 .add (.t 33) (.i 1)), Xa 1 34]))))))) (.reg [Xm 10 5, Xq 11 (.bin false .add (.t 10) (.i 1)), Xa 5 11])))))) (.seq (.reg [Xm 35 1, Xa 4 35]) .ret)))
theorem d7 (l : List Seen) (k : Int) (h0 : 0 ≤ k) (h1 : k + 3 * l.length ≤ 4611686018427387904) :
    Does Go.Proofs.Try.prog 7 [.usl 34 3 (l.map Seen.c), .v (.int .i64 k)] false (.v (.int .i64 (k + 3 * l.length))) [.usl 34 3 ((mkSeenS l k).map Seen.c), .dead] := by
  refine does_intro (mc := m7) (N := 36) (rs := [4]) (fx := [0]) 2 rfl (by decide +kernel) ?_
  simp only [m7, EV, Nat.reduceEqDiff, Nat.reduceBEq, Nat.reduceLT, Nat.reduceLeDiff, Nat.reduceAdd, Nat.reduceSub, reduceIte]
  refine awp_loop (fun p : List Seen × List Seen × Int => p.1 ++ mkSeenS p.2.1 p.2.2 = mkSeenS l k ∧ p.2.2 + 3 * p.2.1.length = k + 3 * l.length ∧ 0 ≤ p.2.2 ∧ p.1.length + p.2.1.length = l.length)
    (fun p => stl [(0, .usl 34 3 ((p.1 ++ p.2.1).map Seen.c)), (1, .v (.int .i64 p.2.2)), (5, .v (.int .i64 (p.1.length : Int)))]) (fun p => p.2.1.length) ([], l, k) ⟨rfl, rfl, h0, by simp⟩ ?_ ?_
  · simp only [EV, Nat.reduceEqDiff, Nat.reduceBEq, Nat.reduceLT, Nat.reduceLeDiff, Nat.reduceAdd, Nat.reduceSub, reduceIte]
    rfl
  · rintro ⟨pre, post, n⟩ ⟨p0, p1, p2, p3⟩
    cases post with
    | nil =>
      simp only [EV, Nat.reduceEqDiff, Nat.reduceBEq, Nat.reduceLT, Nat.reduceLeDiff, Nat.reduceAdd, Nat.reduceSub, reduceIte]
      refine cK_cut (fun h => ?_) (fun h => ?_)
      · simp at h
      · simp only [EV, Nat.reduceEqDiff, Nat.reduceBEq, Nat.reduceLT, Nat.reduceLeDiff, Nat.reduceAdd, Nat.reduceSub, reduceIte]
        simp only [List.append_nil, mkSeenS, List.length_nil] at p0 p1
        have e : n = k + 3 * l.length := by simp at p1; omega
        simp only [p0, ← e, EV, Nat.reduceEqDiff, Nat.reduceBEq, Nat.reduceLT, Nat.reduceLeDiff, Nat.reduceAdd, Nat.reduceSub, reduceIte, evRE, retVC, cellV', evR, nfz, nfzs, nfzss, List.contains_nil, List.contains_cons, Bool.or_false, or_true]
    | cons f post =>
      simp only [EV, Nat.reduceEqDiff, Nat.reduceBEq, Nat.reduceLT, Nat.reduceLeDiff, Nat.reduceAdd, Nat.reduceSub, reduceIte]
      refine cK_cut (fun h => ?_) (fun h => ?_)
      rotate_left
      · simp at h; omega
      simp only at p0 p1 p2 p3
      simp only [List.length_cons] at p1 p3
      have h3 : (pre.length : Int) < ((pre ++ f :: post).length : Int) := by simp; omega
      have h4 : pre.length < ((pre ++ f :: post).map Seen.c).length := by simp
      have e1 : nth ((pre ++ f :: post).map Seen.c) pre.length = f.c := nth_mid
      generalize hR : (pre ++ f :: post).map Seen.c = R at h4 e1 ⊢
      have hRl : R.length = l.length := by rw [← hR]; simp; omega
      have h5 : (pre.length : Int) < (R.length : Int) := by omega
      have w0 := w64 ((pre.length : Int) + 1) (by omega)
      have w1 := w64 (n + 1) (by omega)
      have w2 := w64 (n + 1 + 1) (by omega)
      have w3 := w64 (n + 1 + 1 + 1) (by omega)
      simp only [h4, h5, e1, nth_set h4, List.getElem?_set_self h4, modify_set, Seen.c, w1, w2, w3, w0, EV, Nat.reduceEqDiff, Nat.reduceBEq, Nat.reduceLT, Nat.reduceLeDiff, Nat.reduceAdd, Nat.reduceSub, reduceIte]
      refine callK_i (d19 (n) (by omega) (by omega)) ?_
      simp only [h4, h5, e1, nth_set h4, List.getElem?_set_self h4, modify_set, Seen.c, w1, w2, w3, w0, EV, Nat.reduceEqDiff, Nat.reduceBEq, Nat.reduceLT, Nat.reduceLeDiff, Nat.reduceAdd, Nat.reduceSub, reduceIte]
      refine callK_i (d19 (n + 1) (by omega) (by omega)) ?_
      simp only [h4, h5, e1, nth_set h4, List.getElem?_set_self h4, modify_set, Seen.c, w1, w2, w3, w0, EV, Nat.reduceEqDiff, Nat.reduceBEq, Nat.reduceLT, Nat.reduceLeDiff, Nat.reduceAdd, Nat.reduceSub, reduceIte]
      refine ⟨(pre ++ [mkSeen n], post, n + 3), ⟨?_, ?_, ?_, ?_⟩, ?_, ?_⟩
      · rw [← p0]; simp [mkSeenS]
      · simp only; omega
      · simp only; omega
      · simp only [List.length_append, List.length_cons, List.length_nil]; omega
      · simp only; omega
      · have e2 := set_mid (g := Seen.c) (pre := pre) (post := post) (t := f) (mkSeen n)
        rw [hR] at e2
        simp only [Seen.c, mkSeen] at e2
        simp only [← e2, mkSeen, List.length_append, List.length_cons, List.length_nil, Int.add_assoc]
        rfl
end Go.AM
namespace Go.AM
set_option linter.unusedVariables false
set_option linter.unusedSimpArgs false
def same (x o : Seen) : Bool := o.mod.toList == x.mod.toList && o.name.toList == x.name.toList
def m31 : MC :=
 (.seq (.reg [Xb 2 (.box 34 (.t 0)), Xb 3 (.asg .fb)]) (.seq (.reg [Xf 4 0 2, Xl 5 1 4, Xf 6 0 1, Xl 7 1 6, Xq 8 (.bin false .eql (.t 5) (.t 7)), Xm 9 8, Xt 10 9 (.fad 1 (.t 2)), Xt 11 9 (.load false 1 (.t 10)), Xt 12 9 (.fad 1 (.t 1)), Xt 13 9 (.load false 1 (.t 12)), Xt 14 9 (.bin false .eql (.t 11) (.t 13)), Xq 15 (.pick (.t 9) (.t 14) .fb), Xa 3 15]) .ret))
theorem d31 (o x : Seen) : Does Go.Proofs.Try.prog 31 [.agg o.c, .fptr x.c] false (.v (.bool (same x o))) [.dead, .dead] := by
  refine does_intro (mc := m31) (N := 16) (rs := [3]) (fx := []) 2 rfl (by decide +kernel) ?_
  simp only [m31, Seen.c, EV, Nat.reduceEqDiff, Nat.reduceBEq, Nat.reduceLT, Nat.reduceLeDiff, Nat.reduceAdd, Nat.reduceSub, reduceIte]
  repeat' (first
    | (refine gK_cut (fun h => ?_) (fun h => ?_) <;> simp only [h, EV, Nat.reduceEqDiff, Nat.reduceBEq, Nat.reduceLT, Nat.reduceLeDiff, Nat.reduceAdd, Nat.reduceSub, reduceIte])
    | (refine cK_cut (fun h => ?_) (fun h => ?_) <;> simp only [h, EV, Nat.reduceEqDiff, Nat.reduceBEq, Nat.reduceLT, Nat.reduceLeDiff, Nat.reduceAdd, Nat.reduceSub, reduceIte]))
  all_goals simp only [same, h, EV, Nat.reduceEqDiff, Nat.reduceBEq, Nat.reduceLT, Nat.reduceLeDiff, Nat.reduceAdd, Nat.reduceSub, reduceIte, evRE, retVC, cellV', evR, nfz, nfzs, nfzss, List.contains_nil, List.contains_cons, Bool.or_false, or_true]
def findI {α : Type} (q : α → Bool) (l : List α) : Int := match l.findIdx? q with | some i => i | none => -1
theorem findI_at {α : Type} {q : α → Bool} {l : List α} {i : Nat} (h : i < l.length) (h1 : q l[i] = true) (h2 : ∀ j (hj : j < l.length), j < i → q l[j] = false) : findI q l = i := by
  have : l.findIdx? q = some i := by
    rw [List.findIdx?_eq_some_iff_getElem]
    exact ⟨h, h1, fun j hj => by simp [h2 j (by omega) hj]⟩
  simp [findI, this]
theorem findI_no {α : Type} {q : α → Bool} {l : List α} (h2 : ∀ j (hj : j < l.length), q l[j] = false) : findI q l = -1 := by
  have : l.findIdx? q = none := by
    rw [List.findIdx?_eq_none_iff]
    intro x hx
    obtain ⟨j, hj, rfl⟩ := List.getElem_of_mem hx
    exact h2 j hj
  simp [findI, this]
theorem findI_any {α : Type} {q : α → Bool} {l : List α} : decide (0 ≤ findI q l) = l.any q := by
  unfold findI
  cases h : l.findIdx? q with
  | none =>
    rw [List.findIdx?_eq_none_iff] at h
    have : l.any q = false := by simp only [List.any_eq_false]; intro x hx; simp [h x hx]
    simp [this]
  | some i =>
    rw [List.findIdx?_eq_some_iff_getElem] at h
    obtain ⟨hi, h1, _⟩ := h
    have : l.any q = true := by rw [List.any_eq_true]; exact ⟨l[i], List.getElem_mem hi, h1⟩
    simp only [this]
    simp
def m37 : MC :=
 (.seq (.reg [Xb 4 (.asg (.i 0))]) (.seq (.seq (.reg [Xm 6 0, Xn 7 6, Xq 8 (.mov (.i 0))]) (.block 0 (.loop [0, 1, 7, 8] (.seq (.reg [Xq 9 (.bin false .lss (.t 8) (.t 7))]) (.seq (.cond (.t 9) .skip (.exit 0)) (.seq (.block 1 (.seq (.reg [Xm 10 8, Xa 5 10]) (.seq (.reg [Xm 11 1, Xm 12 0, Xm 13 5, Xi 14 3 12 13, XL 15 3 14, Xb 16 (.call (.t 11) false [.lend (.t 15)])]) (.cond (.t 16) (.seq (.reg [Xm
 17 5, Xa 4 17]) .ret) .skip)))) (.reg [Xq 18 (.bin false .add (.t 8) (.i 1)), Xm 8 18]))))))) (.seq (.reg [Xb 4 (.asg (.i (-1)))]) .ret)))
theorem d37 (l : List Seen) (hl : l.length < 9223372036854775807) (f : Nat) (caps : List AV) (q : Seen → Bool) (hp : plains caps = true) (hb : bares caps = true) (hk : ∀ K, killVs K caps = caps) (hf : ∀ (st : St), frzBs st caps = caps)
    (hq : ∀ s ∈ l, Does Go.Proofs.Try.prog f (.agg s.c :: caps) false (.v (.bool (q s))) (.dead :: caps.map fun _ => .dead)) :
    Does Go.Proofs.Try.prog 37 [.fsl 3 (l.map Seen.c), .clo f caps] false (.v (.int .i64 (findI q l))) [.dead, .dead] := by
  refine does_intro (mc := m37) (N := 19) (rs := [4]) (fx := []) 2 rfl (by decide +kernel) ?_
  simp only [m37, EV, Nat.reduceEqDiff, Nat.reduceBEq, Nat.reduceLT, Nat.reduceLeDiff, Nat.reduceAdd, Nat.reduceSub, reduceIte]
  refine awp_loop (fun i : Nat => i ≤ l.length ∧ ∀ j (hj : j < l.length), j < i → q l[j] = false) (fun i => stl [(0, .fsl 3 (l.map Seen.c)), (1, .clo f caps), (7, .v (.int .i64 (l.length : Int))), (8, .v (.int .i64 (i : Int)))]) (fun i => l.length - i) 0 ⟨Nat.zero_le _, fun j hj h => absurd h (by omega)⟩ ?_ ?_
  · simp only [hp, hb, hk, EV, Nat.reduceEqDiff, Nat.reduceBEq, Nat.reduceLT, Nat.reduceLeDiff, Nat.reduceAdd, Nat.reduceSub, reduceIte]
    rfl
  · rintro i ⟨hi, hno⟩
    simp only [EV, Nat.reduceEqDiff, Nat.reduceBEq, Nat.reduceLT, Nat.reduceLeDiff, Nat.reduceAdd, Nat.reduceSub, reduceIte]
    refine cK_cut (fun h => ?_) (fun h => ?_)
    · have h1 : i < l.length := by simpa using h
      have h2 : (i : Int) < (l.length : Int) := by omega
      simp only [SeenE, nth_map h1, h2, hp, hb, EV, Nat.reduceEqDiff, Nat.reduceBEq, Nat.reduceLT, Nat.reduceLeDiff, Nat.reduceAdd, Nat.reduceSub, reduceIte]
      refine callK_i (hq l[i] (List.getElem_mem h1)) ?_
      simp only [EV, Nat.reduceEqDiff, Nat.reduceBEq, Nat.reduceLT, Nat.reduceLeDiff, Nat.reduceAdd, Nat.reduceSub, reduceIte]
      refine cK_cut (fun h => ?_) (fun h => ?_)
      · simp only [EV, Nat.reduceEqDiff, Nat.reduceBEq, Nat.reduceLT, Nat.reduceLeDiff, Nat.reduceAdd, Nat.reduceSub, reduceIte]
        simp only [findI_at h1 h hno, EV, Nat.reduceEqDiff, Nat.reduceBEq, Nat.reduceLT, Nat.reduceLeDiff, Nat.reduceAdd, Nat.reduceSub, reduceIte, evRE, retVC, cellV', evR, nfz, nfzs, nfzss, List.contains_nil, List.contains_cons, Bool.or_false, or_true]
      · simp only [hp, hb, hk, EV, Nat.reduceEqDiff, Nat.reduceBEq, Nat.reduceLT, Nat.reduceLeDiff, Nat.reduceAdd, Nat.reduceSub, reduceIte]
        rw [w64 _ (by omega)]
        refine ⟨i + 1, ⟨by omega, ?_⟩, by omega, rfl⟩
        intro j hj hji
        by_cases e : j = i
        · subst e; exact h
        · exact hno j hj (by omega)
    · have h1 : i = l.length := by have : ¬ (i : Int) < l.length := by simpa using h
                                   omega
      subst h1
      simp only [EV, Nat.reduceEqDiff, Nat.reduceBEq, Nat.reduceLT, Nat.reduceLeDiff, Nat.reduceAdd, Nat.reduceSub, reduceIte]
      simp only [findI_no (fun j hj => hno j hj hj), EV, Nat.reduceEqDiff, Nat.reduceBEq, Nat.reduceLT, Nat.reduceLeDiff, Nat.reduceAdd, Nat.reduceSub, reduceIte, evRE, retVC, cellV', evR, nfz, nfzs, nfzss, List.contains_nil, List.contains_cons, Bool.or_false, or_true]
def m30 : MC :=
 (.seq (.reg [Xb 4 (.asg .fb)]) (.seq (.reg [Xm 5 0, Xm 6 1, Xb 7 (.call (.fn 37) false [.lend (.t 5), .lend (.t 6)]), Xq 8 (.bin false .geq (.t 7) (.i 0)), Xa 4 8]) .ret))
theorem d30 (l : List Seen) (hl : l.length < 9223372036854775807) (f : Nat) (caps : List AV) (q : Seen → Bool) (hp : plains caps = true) (hb : bares caps = true) (hk : ∀ K, killVs K caps = caps) (hf : ∀ (st : St), frzBs st caps = caps)
    (hq : ∀ s ∈ l, Does Go.Proofs.Try.prog f (.agg s.c :: caps) false (.v (.bool (q s))) (.dead :: caps.map fun _ => .dead)) :
    Does Go.Proofs.Try.prog 30 [.fsl 3 (l.map Seen.c), .clo f caps] false (.v (.bool (l.any q))) [.dead, .dead] := by
  refine does_intro (mc := m30) (N := 9) (rs := [4]) (fx := []) 2 rfl (by decide +kernel) ?_
  simp only [m30, hp, hb, hk, hf, EV, Nat.reduceEqDiff, Nat.reduceBEq, Nat.reduceLT, Nat.reduceLeDiff, Nat.reduceAdd, Nat.reduceSub, reduceIte]
  refine callK_i (d37 l hl f caps q hp hb hk hf hq) ?_
  simp only [EV, Nat.reduceEqDiff, Nat.reduceBEq, Nat.reduceLT, Nat.reduceLeDiff, Nat.reduceAdd, Nat.reduceSub, reduceIte]
  simp only [findI_any, EV, Nat.reduceEqDiff, Nat.reduceBEq, Nat.reduceLT, Nat.reduceLeDiff, Nat.reduceAdd, Nat.reduceSub, reduceIte, evRE, retVC, cellV', evR, nfz, nfzs, nfzss, List.contains_nil, List.contains_cons, Bool.or_false, or_true]
noncomputable def okAt (l : List Seen) (i : Nat) (h : i < l.length) : Bool := nameOk l[i].mod && nameOk l[i].name && !decide (l[i].sum < 0) && !((l.take i).any (same l[i]))
def okTo (l : List Seen) (n : Nat) : Prop := ∀ i (h : i < l.length), i < n → okAt l i h = true
open Classical in
noncomputable def seenOk (l : List Seen) : Bool := decide (okTo l l.length ∧ l.length ≤ 40)
theorem okTo_succ {l : List Seen} {i : Nat} (h : i < l.length) (h1 : okTo l i) (h2 : okAt l i h = true) : okTo l (i + 1) := by
  intro j hj hji
  by_cases e : j = i
  · subst e; exact h2
  · exact h1 j hj (by omega)
theorem seenOk_no {l : List Seen} {i : Nat} (h : i < l.length) (h2 : okAt l i h = false) : seenOk l = false := by
  simp only [seenOk, decide_eq_false_iff_not]
  rintro ⟨h1, _⟩
  have := h1 i h h
  rw [h2] at this; cases this
theorem seenOk_yes {l : List Seen} (h : okTo l l.length) : seenOk l = decide ((l.length : Int) ≤ 40) := by
  have e2 : decide ((l.length : Int) ≤ 40) = decide (l.length ≤ 40) := by congr 1; apply propext; omega
  simp [seenOk, h, e2]
def m17 : MC :=
 (.seq (.reg [Xb 2 (.asg .fb)]) (.seq (.seq (.reg [Xm 5 0, Xn 6 5, Xq 7 (.mov (.i 0))]) (.block 0 (.loop [0, 5, 6, 7] (.seq (.reg [Xq 8 (.bin false .lss (.t 7) (.t 6))]) (.seq (.cond (.t 8) .skip (.exit 0)) (.seq (.block 1 (.seq (.reg [Xm 9 7, Xi 10 3 5 7, XL 11 3 10, Xb 4 (.alloc 34 [.z, .z, .i]), Xa 3 9, Xz (.store 3 (.t 4) (.t 11))]) (.seq (.reg [Xf 12 0 4, Xl 13 1 12, Xb 14 (.call (.fn 29)
 false [.lend (.t 13)]), Xq 15 (.un .not (.t 14)), Xm 16 15, Xu 17 16 (.fad 1 (.t 4)), Xu 18 16 (.load false 1 (.t 17)), XU 19 16 (.call (.fn 29) false [.lend (.t 18)]), Xu 20 16 (.un .not (.t 19)), Xq 21 (.pick (.t 16) .tb (.t 20)), Xm 22 21, Xu 23 22 (.fad 2 (.t 4)), Xu 24 22 (.load false 1 (.t 23)), Xu 25 22 (.bin false .lss (.t 24) (.i 0)), Xq 26 (.pick (.t 22) .tb (.t 25)), Xm 27 26, Xu 28 27
 (.mov (.t 0)), Xu 29 27 (.mov (.t 3)), Xu 30 27 (.slc false 3 (.t 28) none (some (.t 29))), Xu 31 27 (.mkf 31 [.t 4]), XU 32 27 (.call (.fn 30) false [.lend (.t 30), .lend (.t 31)]), Xq 33 (.pick (.t 27) .tb (.t 32))]) (.cond (.t 33) (.seq (.reg [Xb 2 (.asg .fb)]) .ret) .skip)))) (.reg [Xq 34 (.bin false .add (.t 7) (.i 1)), Xm 7 34]))))))) (.seq (.reg [Xm 35 0, Xn 36 35, Xq 37 (.bin false .leq
 (.t 36) (.i 40)), Xa 2 37]) .ret)))
theorem d17 (l : List Seen) (hl : l.length < 9223372036854775807) (hs : ∀ s ∈ l, s.ok) : Does Go.Proofs.Try.prog 17 [.fsl 3 (l.map Seen.c)] false (.v (.bool (seenOk l))) [.dead] := by
  refine does_intro (mc := m17) (N := 38) (rs := [2]) (fx := []) 1 rfl (by decide +kernel) ?_
  simp only [m17, EV, Nat.reduceEqDiff, Nat.reduceBEq, Nat.reduceLT, Nat.reduceLeDiff, Nat.reduceAdd, Nat.reduceSub, reduceIte]
  refine awp_loop (fun i : Nat => i ≤ l.length ∧ okTo l i) (fun i => stl [(0, .fsl 3 (l.map Seen.c)), (5, .fsl 3 (l.map Seen.c)), (6, .v (.int .i64 (l.length : Int))), (7, .v (.int .i64 (i : Int)))]) (fun i => l.length - i) 0 ⟨Nat.zero_le _, fun j hj h => absurd h (by omega)⟩ ?_ ?_
  · simp only [EV, Nat.reduceEqDiff, Nat.reduceBEq, Nat.reduceLT, Nat.reduceLeDiff, Nat.reduceAdd, Nat.reduceSub, reduceIte]
    rfl
  · rintro i ⟨hi, hok⟩
    simp only [EV, Nat.reduceEqDiff, Nat.reduceBEq, Nat.reduceLT, Nat.reduceLeDiff, Nat.reduceAdd, Nat.reduceSub, reduceIte]
    refine cK_cut (fun h => ?_) (fun h => ?_)
    · have h1 : i < l.length := by simpa using h
      have h2 : (i : Int) < (l.length : Int) := by omega
      have hso := hs l[i] (List.getElem_mem h1)
      simp only [Seen.ok] at hso
      simp only [SeenE, nth_map h1, h2, Seen.c, EV, Nat.reduceEqDiff, Nat.reduceBEq, Nat.reduceLT, Nat.reduceLeDiff, Nat.reduceAdd, Nat.reduceSub, reduceIte]
      repeat' (first
    | (refine gK_cut (fun h => ?_) (fun h => ?_) <;> simp only [h, h2, EV, Nat.reduceEqDiff, Nat.reduceBEq, Nat.reduceLT, Nat.reduceLeDiff, Nat.reduceAdd, Nat.reduceSub, reduceIte])
    | (refine cK_cut (fun h => ?_) (fun h => ?_) <;> simp only [h, h2, EV, Nat.reduceEqDiff, Nat.reduceBEq, Nat.reduceLT, Nat.reduceLeDiff, Nat.reduceAdd, Nat.reduceSub, reduceIte])
    | (refine callK_i (d29 _ hso.1) ?_ <;> simp only [h, h2, EV, Nat.reduceEqDiff, Nat.reduceBEq, Nat.reduceLT, Nat.reduceLeDiff, Nat.reduceAdd, Nat.reduceSub, reduceIte])
    | (refine callK_i (d29 _ hso.2.1) ?_ <;> simp only [h, h2, EV, Nat.reduceEqDiff, Nat.reduceBEq, Nat.reduceLT, Nat.reduceLeDiff, Nat.reduceAdd, Nat.reduceSub, reduceIte]))
      · simp only [seenOk_no h1 (by simp_all [okAt]), EV, Nat.reduceEqDiff, Nat.reduceBEq, Nat.reduceLT, Nat.reduceLeDiff, Nat.reduceAdd, Nat.reduceSub, reduceIte, evRE, retVC, cellV', evR, nfz, nfzs, nfzss, List.contains_nil, List.contains_cons, Bool.or_false, or_true]
      · simp only [seenOk_no h1 (by simp_all [okAt]), EV, Nat.reduceEqDiff, Nat.reduceBEq, Nat.reduceLT, Nat.reduceLeDiff, Nat.reduceAdd, Nat.reduceSub, reduceIte, evRE, retVC, cellV', evR, nfz, nfzs, nfzss, List.contains_nil, List.contains_cons, Bool.or_false, or_true]
      · simp only [seenOk_no h1 (by simp_all [okAt]), EV, Nat.reduceEqDiff, Nat.reduceBEq, Nat.reduceLT, Nat.reduceLeDiff, Nat.reduceAdd, Nat.reduceSub, reduceIte, evRE, retVC, cellV', evR, nfz, nfzs, nfzss, List.contains_nil, List.contains_cons, Bool.or_false, or_true]
      · refine ⟨by omega, by omega, ?_⟩
        rw [← List.map_take]
        refine callK_i (d30 (l.take i) (by simp; omega) 31 [.fptr l[i].c] (same l[i]) rfl rfl (fun _ => rfl) (fun _ => rfl) (fun s _ => d31 s l[i])) ?_
        simp only [EV, Nat.reduceEqDiff, Nat.reduceBEq, Nat.reduceLT, Nat.reduceLeDiff, Nat.reduceAdd, Nat.reduceSub, reduceIte]
        refine cK_cut (fun h => ?_) (fun h => ?_)
        · simp only [EV, Nat.reduceEqDiff, Nat.reduceBEq, Nat.reduceLT, Nat.reduceLeDiff, Nat.reduceAdd, Nat.reduceSub, reduceIte]
          simp only [seenOk_no h1 (by simp_all [okAt]), EV, Nat.reduceEqDiff, Nat.reduceBEq, Nat.reduceLT, Nat.reduceLeDiff, Nat.reduceAdd, Nat.reduceSub, reduceIte, evRE, retVC, cellV', evR, nfz, nfzs, nfzss, List.contains_nil, List.contains_cons, Bool.or_false, or_true]
        · simp only [EV, Nat.reduceEqDiff, Nat.reduceBEq, Nat.reduceLT, Nat.reduceLeDiff, Nat.reduceAdd, Nat.reduceSub, reduceIte]
          rw [w64 _ (by omega)]
          exact ⟨i + 1, ⟨by omega, okTo_succ h1 hok (by simp_all [okAt])⟩, by omega, rfl⟩
    · have h1 : i = l.length := by have : ¬ (i : Int) < l.length := by simpa using h
                                   omega
      subst h1
      simp only [EV, Nat.reduceEqDiff, Nat.reduceBEq, Nat.reduceLT, Nat.reduceLeDiff, Nat.reduceAdd, Nat.reduceSub, reduceIte]
      simp only [seenOk_yes hok, EV, Nat.reduceEqDiff, Nat.reduceBEq, Nat.reduceLT, Nat.reduceLeDiff, Nat.reduceAdd, Nat.reduceSub, reduceIte, evRE, retVC, cellV', evR, nfz, nfzs, nfzss, List.contains_nil, List.contains_cons, Bool.or_false, or_true]
theorem same_comm (x o : Seen) : same x o = (x.mod.toList == o.mod.toList && x.name.toList == o.name.toList) := by
  unfold same
  rw [Bool.beq_comm (a := x.mod.toList), Bool.beq_comm (a := x.name.toList)]
theorem okAt_any {l : List Seen} {i k : Nat} (h : i < l.length) (k1 : k < (l.take i).length) (hc : same l[i] (l.take i)[k] = true) : okAt l i h = false := by
  have : (l.take i).any (same l[i]) = true := by rw [List.any_eq_true]; exact ⟨_, List.getElem_mem k1, hc⟩
  simp [okAt, this]
theorem any_take {α : Type} {q : α → Bool} {l : List α} {k : Nat} (h : k < l.length) (h1 : (l.take k).any q = false) (h2 : q l[k] = false) : (l.take (k + 1)).any q = false := by
  rw [List.take_succ_eq_append_getElem h, List.any_append, h1]
  simp [h2]
def m12 : MC :=
 (.seq (.reg [Xb 2 (.asg .fb)]) (.seq (.seq (.reg [Xm 7 0, Xn 8 7, Xq 9 (.mov (.i 0))]) (.block 0 (.loop [0, 7, 8, 9] (.seq (.reg [Xq 10 (.bin false .lss (.t 9) (.t 8))]) (.seq (.cond (.t 10) .skip (.exit 0)) (.seq (.block 1 (.seq (.reg [Xm 11 9, Xi 12 3 7 9, XL 13 3 12, Xb 4 (.alloc 34 [.z, .z, .i]), Xa 3 11, Xz (.store 3 (.t 4) (.t 13))]) (.seq (.seq (.reg [Xf 14 0 4, Xl 15 1 14, Xb 16 (.call
 (.fn 22) false [.lend (.t 15)]), Xq 17 (.un .not (.t 16)), Xm 18 17, Xu 19 18 (.fad 1 (.t 4)), Xu 20 18 (.load false 1 (.t 19)), XU 21 18 (.call (.fn 22) false [.lend (.t 20)]), Xu 22 18 (.un .not (.t 21)), Xq 23 (.pick (.t 18) .tb (.t 22)), Xm 24 23, Xu 25 24 (.fad 2 (.t 4)), Xu 26 24 (.load false 1 (.t 25)), Xu 27 24 (.bin false .lss (.t 26) (.i 0)), Xq 28 (.pick (.t 24) .tb (.t 27))]) (.cond
 (.t 28) (.seq (.reg [Xb 2 (.asg .fb)]) .ret) .skip)) (.seq (.reg [Xm 29 0, Xm 30 3, Xq 31 (.slc false 3 (.t 29) none (some (.t 30))), Xn 32 31, Xq 33 (.mov (.i 0))]) (.block 2 (.loop [0, 4, 7, 8, 9, 29, 30, 31, 32, 33] (.seq (.reg [Xq 34 (.bin false .lss (.t 33) (.t 32))]) (.seq (.cond (.t 34) .skip (.exit 2)) (.seq (.block 3 (.seq (.reg [Xi 35 3 31 33, XL 36 3 35, Xb 6 (.alloc 34 [.z, .z, .i]),
 Xz (.store 3 (.t 6) (.t 36))]) (.seq (.reg [Xf 37 0 4, Xl 38 1 37, Xf 39 0 6, Xl 40 1 39, Xq 41 (.bin false .eql (.t 38) (.t 40)), Xm 42 41, Xt 43 42 (.fad 1 (.t 4)), Xt 44 42 (.load false 1 (.t 43)), Xt 45 42 (.fad 1 (.t 6)), Xt 46 42 (.load false 1 (.t 45)), Xt 47 42 (.bin false .eql (.t 44) (.t 46)), Xq 48 (.pick (.t 42) (.t 47) .fb)]) (.cond (.t 48) (.seq (.reg [Xb 2 (.asg .fb)]) .ret)
 .skip)))) (.reg [Xq 49 (.bin false .add (.t 33) (.i 1)), Xm 33 49])))))))))) (.reg [Xq 50 (.bin false .add (.t 9) (.i 1)), Xm 9 50]))))))) (.seq (.reg [Xm 51 0, Xn 52 51, Xq 53 (.bin false .leq (.t 52) (.i 40)), Xa 2 53]) .ret)))
theorem d12 (l : List Seen) (hl : l.length < 9223372036854775807) (hs : ∀ s ∈ l, s.ok) : Does Go.Proofs.Try.prog 12 [.fsl 3 (l.map Seen.c)] false (.v (.bool (seenOk l))) [.dead] := by
  refine does_intro (mc := m12) (N := 54) (rs := [2]) (fx := []) 1 rfl (by decide +kernel) ?_
  simp only [m12, EV, Nat.reduceEqDiff, Nat.reduceBEq, Nat.reduceLT, Nat.reduceLeDiff, Nat.reduceAdd, Nat.reduceSub, reduceIte]
  refine awp_loop (fun i : Nat => i ≤ l.length ∧ okTo l i) (fun i => stl [(0, .fsl 3 (l.map Seen.c)), (7, .fsl 3 (l.map Seen.c)), (8, .v (.int .i64 (l.length : Int))), (9, .v (.int .i64 (i : Int)))]) (fun i => l.length - i) 0 ⟨Nat.zero_le _, fun j hj h => absurd h (by omega)⟩ ?_ ?_
  · simp only [EV, Nat.reduceEqDiff, Nat.reduceBEq, Nat.reduceLT, Nat.reduceLeDiff, Nat.reduceAdd, Nat.reduceSub, reduceIte]
    rfl
  · rintro i ⟨hi, hok⟩
    simp only [EV, Nat.reduceEqDiff, Nat.reduceBEq, Nat.reduceLT, Nat.reduceLeDiff, Nat.reduceAdd, Nat.reduceSub, reduceIte]
    refine cK_cut (fun h => ?_) (fun h => ?_)
    · have h1 : i < l.length := by simpa using h
      have h2 : (i : Int) < (l.length : Int) := by omega
      have hso := hs l[i] (List.getElem_mem h1)
      simp only [Seen.ok] at hso
      simp only [SeenE, nth_map h1, h2, Seen.c, EV, Nat.reduceEqDiff, Nat.reduceBEq, Nat.reduceLT, Nat.reduceLeDiff, Nat.reduceAdd, Nat.reduceSub, reduceIte]
      repeat' (first
    | (refine gK_cut (fun h => ?_) (fun h => ?_) <;> simp only [h, h2, EV, Nat.reduceEqDiff, Nat.reduceBEq, Nat.reduceLT, Nat.reduceLeDiff, Nat.reduceAdd, Nat.reduceSub, reduceIte])
    | (refine cK_cut (fun h => ?_) (fun h => ?_) <;> simp only [h, h2, EV, Nat.reduceEqDiff, Nat.reduceBEq, Nat.reduceLT, Nat.reduceLeDiff, Nat.reduceAdd, Nat.reduceSub, reduceIte])
    | (refine callK_i (d22 _ hso.1) ?_ <;> simp only [h, h2, EV, Nat.reduceEqDiff, Nat.reduceBEq, Nat.reduceLT, Nat.reduceLeDiff, Nat.reduceAdd, Nat.reduceSub, reduceIte])
    | (refine callK_i (d22 _ hso.2.1) ?_ <;> simp only [h, h2, EV, Nat.reduceEqDiff, Nat.reduceBEq, Nat.reduceLT, Nat.reduceLeDiff, Nat.reduceAdd, Nat.reduceSub, reduceIte]))
      · simp only [seenOk_no h1 (by simp_all [okAt]), EV, Nat.reduceEqDiff, Nat.reduceBEq, Nat.reduceLT, Nat.reduceLeDiff, Nat.reduceAdd, Nat.reduceSub, reduceIte, evRE, retVC, cellV', evR, nfz, nfzs, nfzss, List.contains_nil, List.contains_cons, Bool.or_false, or_true]
      · simp only [seenOk_no h1 (by simp_all [okAt]), EV, Nat.reduceEqDiff, Nat.reduceBEq, Nat.reduceLT, Nat.reduceLeDiff, Nat.reduceAdd, Nat.reduceSub, reduceIte, evRE, retVC, cellV', evR, nfz, nfzs, nfzss, List.contains_nil, List.contains_cons, Bool.or_false, or_true]
      · simp only [seenOk_no h1 (by simp_all [okAt]), EV, Nat.reduceEqDiff, Nat.reduceBEq, Nat.reduceLT, Nat.reduceLeDiff, Nat.reduceAdd, Nat.reduceSub, reduceIte, evRE, retVC, cellV', evR, nfz, nfzs, nfzss, List.contains_nil, List.contains_cons, Bool.or_false, or_true]
      · refine ⟨by omega, by omega, ?_⟩
        simp only [← List.map_take]
        have ht : (l.take i).length = i := by simp; omega
        refine awp_loop (fun k : Nat => k ≤ i ∧ ((l.take i).take k).any (same l[i]) = false) (fun k => stl [(0, .fsl 3 (l.map Seen.c)), (4, .box 34 l[i].c), (7, .fsl 3 (l.map Seen.c)), (8, .v (.int .i64 (l.length : Int))), (9, .v (.int .i64 (i : Int))), (29, .fsl 3 (l.map Seen.c)), (30, .v (.int .i64 (i : Int))), (31, .fsl 3 ((l.take i).map Seen.c)), (32, .v (.int .i64 (i : Int))), (33, .v (.int .i64 (k : Int)))]) (fun k => i - k) 0 ⟨Nat.zero_le _, by simp⟩ ?_ ?_
        · simp only [EV, Nat.reduceEqDiff, Nat.reduceBEq, Nat.reduceLT, Nat.reduceLeDiff, Nat.reduceAdd, Nat.reduceSub, reduceIte]
          rw [ht]
          rfl
        · rintro k ⟨hk, hno⟩
          simp only [EV, Nat.reduceEqDiff, Nat.reduceBEq, Nat.reduceLT, Nat.reduceLeDiff, Nat.reduceAdd, Nat.reduceSub, reduceIte]
          refine cK_cut (fun h => ?_) (fun h => ?_)
          · have k1 : k < (l.take i).length := by rw [ht]; simpa using h
            have k2 : (k : Int) < i := by omega
            have k3 : k < i := by omega
            simp only [SeenE, nth_map k1, k2, k3, ht, Seen.c, EV, Nat.reduceEqDiff, Nat.reduceBEq, Nat.reduceLT, Nat.reduceLeDiff, Nat.reduceAdd, Nat.reduceSub, reduceIte]
            repeat' (first
    | (refine gK_cut (fun h => ?_) (fun h => ?_) <;> simp only [h, EV, Nat.reduceEqDiff, Nat.reduceBEq, Nat.reduceLT, Nat.reduceLeDiff, Nat.reduceAdd, Nat.reduceSub, reduceIte])
    | (refine cK_cut (fun h => ?_) (fun h => ?_) <;> simp only [h, EV, Nat.reduceEqDiff, Nat.reduceBEq, Nat.reduceLT, Nat.reduceLeDiff, Nat.reduceAdd, Nat.reduceSub, reduceIte]))
            all_goals first
              | (have hc : same l[i] (l.take i)[k] = true := by
                   rw [same_comm]; simp_all
                 simp only [seenOk_no h1 (okAt_any h1 k1 hc), EV, Nat.reduceEqDiff, Nat.reduceBEq, Nat.reduceLT, Nat.reduceLeDiff, Nat.reduceAdd, Nat.reduceSub, reduceIte, evRE, retVC, cellV', evR, nfz, nfzs, nfzss, List.contains_nil, List.contains_cons, Bool.or_false, or_true]
                 done)
              | (have hc : same l[i] (l.take i)[k] = false := by
                   rw [same_comm]; simp_all
                 rw [w64 _ (by omega)]
                 exact ⟨k + 1, ⟨by omega, any_take k1 hno hc⟩, by omega, rfl⟩)
          · have k1 : k = i := by have : ¬ (k : Int) < i := by simpa using h
                                  omega
            subst k1
            simp only [EV, Nat.reduceEqDiff, Nat.reduceBEq, Nat.reduceLT, Nat.reduceLeDiff, Nat.reduceAdd, Nat.reduceSub, reduceIte]
            rw [w64 _ (by omega)]
            refine ⟨k + 1, ⟨by omega, okTo_succ h1 hok ?_⟩, by omega, rfl⟩
            rw [List.take_take, Nat.min_self] at hno
            simp_all [okAt]
    · have h1 : i = l.length := by have : ¬ (i : Int) < l.length := by simpa using h
                                   omega
      subst h1
      simp only [EV, Nat.reduceEqDiff, Nat.reduceBEq, Nat.reduceLT, Nat.reduceLeDiff, Nat.reduceAdd, Nat.reduceSub, reduceIte]
      simp only [seenOk_yes hok, EV, Nat.reduceEqDiff, Nat.reduceBEq, Nat.reduceLT, Nat.reduceLeDiff, Nat.reduceAdd, Nat.reduceSub, reduceIte, evRE, retVC, cellV', evR, nfz, nfzs, nfzss, List.contains_nil, List.contains_cons, Bool.or_false, or_true]
end Go.AM
namespace Go.AM
set_option linter.unusedVariables false
set_option linter.unusedSimpArgs false
theorem evW :
    (∀ (kd : IntKind) (a b : Int) (K : AV → Prop), binV .and (.v (.int kd a)) (.v (.int kd b)) K = K (.v (.int kd (bits .and kd a b)))) ∧
    (∀ (kd : IntKind) (a b : Int) (K : AV → Prop), binV .or (.v (.int kd a)) (.v (.int kd b)) K = K (.v (.int kd (bits .or kd a b)))) ∧
    (∀ (kd kd' : IntKind) (a b : Int) (K : AV → Prop), binV .shr (.v (.int kd a)) (.v (.int kd' b)) K = (0 ≤ b ∧ K (.v (.int kd (a.fdiv (2 ^ (min b.toNat kd.bits))))))) ∧
    (∀ (kd kd' : IntKind) (a b : Int) (K : AV → Prop), binV .shl (.v (.int kd a)) (.v (.int kd' b)) K = (0 ≤ b ∧ K (.v (.int kd (kd.wrap (a * 2 ^ (min b.toNat kd.bits))))))) := by
  refine ⟨?_, ?_, ?_, ?_⟩ <;> intros <;> simp [binV, binC, binR, bits]
theorem wraps_i64 (n : Int) (h₀ : 0 ≤ n) (h₁ : n < 2 ^ 63) : IntKind.i64.wrap n = n := by rw [IntKind.wrap_i64]; omega
def bR (n : Int) : List AV := [.v (.int .u8 n)]
theorem bytesA_map : ∀ ns : List Int, bytesA (ns.map bR) = some ns
  | [] => rfl
  | n :: r => by simp [bR, bytesA, bytesA_map r]
theorem bR_frz : ∀ ns : List Int, frzRows (ns.map bR) = ns.map bR
  | [] => rfl
  | n :: r => by simp [frzRows, bR_frz r, bR, frzRow, frzL]
theorem map_snoc (ns : List Int) (n : Int) : List.map bR ns ++ [[AV.v (.int .u8 n)]] = (ns ++ [n]).map bR := by simp [bR]
theorem strA_app (a b : List Int) : strA (a ++ b) = strA a ++ strA b := by
  have key : ∀ (l : List Int) (s t : ByteArray), l.foldl (fun r n => r.push (UInt8.ofNat n.toNat)) (s ++ t) = s ++ l.foldl (fun r n => r.push (UInt8.ofNat n.toNat)) t := by
    intro l
    induction l with
    | nil => intro s t; rfl
    | cons n r ih =>
      intro s t
      simp only [List.foldl_cons]
      rw [← ih]
      congr 1
      apply ByteArray.ext
      simp [ByteArray.push, ByteArray.data_append]
  unfold strA
  rw [List.foldl_append]
  have := key b (a.foldl (fun r n => r.push (UInt8.ofNat n.toNat)) ByteArray.empty) ByteArray.empty
  rw [← this]
  congr 1
  apply ByteArray.ext
  simp [ByteArray.data_append]
theorem strA_size (a : List Int) : (strA a).size = a.length := by
  have key : ∀ (l : List Int) (s : ByteArray), (l.foldl (fun r n => r.push (UInt8.ofNat n.toNat)) s).size = s.size + l.length := by
    intro l
    induction l with
    | nil => intro s; rfl
    | cons n r ih => intro s; simp only [List.foldl_cons, ih, ByteArray.size_push, List.length_cons]; omega
  unfold strA
  rw [key]
  simp
def m32 : MC :=
 (.seq (.reg [Xb 2 (.asg (.i 0))]) (.seq (.seq (.reg [Xm 3 0, Xq 4 (.bin false .lss (.t 3) (.i 0))]) (.cond (.t 4) (.seq (.reg [Xm 5 0, Xq 6 (.bin false .mul (.i (-2)) (.t 5)), Xq 7 (.bin false .sub (.t 6) (.i 1)), Xa 2 7]) .ret) .skip)) (.seq (.reg [Xm 8 0, Xq 9 (.bin false .mul (.i 2) (.t 8)), Xa 2 9]) .ret)))
theorem d32 (n : Int) (h0 : 0 ≤ n) (h1 : n ≤ 1048576) : Does Go.Proofs.Try.prog 32 [.v (.int .i64 n)] false (.v (.int .i64 (2 * n))) [.dead] := by
  refine does_intro (mc := m32) (N := 10) (rs := [2]) (fx := []) 1 rfl (by decide +kernel) ?_
  simp only [m32, EV, Nat.reduceEqDiff, Nat.reduceBEq, Nat.reduceLT, Nat.reduceLeDiff, Nat.reduceAdd, Nat.reduceSub, reduceIte]
  refine cK_cut (fun h => ?_) (fun h => ?_)
  · have : n < 0 := by simpa using h
    omega
  · simp only [EV, Nat.reduceEqDiff, Nat.reduceBEq, Nat.reduceLT, Nat.reduceLeDiff, Nat.reduceAdd, Nat.reduceSub, reduceIte]
    rw [w64 _ (by omega)]
    simp only [EV, Nat.reduceEqDiff, Nat.reduceBEq, Nat.reduceLT, Nat.reduceLeDiff, Nat.reduceAdd, Nat.reduceSub, reduceIte, evRE, retVC, cellV', evR, nfz, nfzs, nfzss, List.contains_nil, List.contains_cons, Bool.or_false, or_true]
def nbL (k : Int) : List Int := if h : 128 ≤ k then (k % 128 + 128) :: nbL (k / 128) else [k]
  termination_by k.toNat
  decreasing_by omega
def numB (n : Int) : ByteArray := strA (nbL (2 * n))
theorem nbL_len (k : Int) (h : 0 ≤ k) : ((nbL k).length : Int) ≤ k + 1 := by
  rw [nbL]
  split
  · have := nbL_len (k / 128) (by omega)
    simp only [List.length_cons]; omega
  · simp; omega
  termination_by k.toNat
  decreasing_by omega
def m20 : MC :=
 (.seq (.reg [Xb 2 (.asg (.z #[]))]) (.seq (.reg [Xb 3 (.asg (.nils 5 1))]) (.seq (.seq (.reg [Xm 4 0, Xb 5 (.call (.fn 32) false [.lend (.t 4)]), Xa 0 5]) (.block 0 (.loop [0, 3, 16] (.seq (.seq (.reg [Xm 6 0, Xq 7 (.bin false .geq (.t 6) (.i 128))]) (.cond (.t 7) .skip (.exit 0))) (.seq (.block 1 (.reg [Xm 10 3, Xm 11 0, Xq 12 (.bin false .rem (.t 11) (.i 128)), Xq 13 (.bin false .add (.t 12) (.i
 128)), Xq 14 (.conv .u8 (.t 13)), Xb 15 (.bsl 5 1 [.t 14]), Xb 16 (.app true 5 1 1 (.t 10) (.t 15)), Xa 3 16])) (.reg [Xm 8 0, Xq 9 (.bin false .quo (.t 8) (.i 128)), Xa 0 9])))))) (.seq (.reg [Xm 17 3, Xm 18 0, Xq 19 (.conv .u8 (.t 18)), Xb 20 (.bsl 5 1 [.t 19]), Xb 21 (.app true 5 1 1 (.t 17) (.t 20)), Xq 22 (.b2s (.t 21)), Xa 2 22]) .ret))))
theorem d20 (n0 : Int) (h0 : 0 ≤ n0) (h1 : n0 ≤ 1048576) : Does Go.Proofs.Try.prog 20 [.v (.int .i64 n0)] false (.v (.string (numB n0))) [.dead] := by
  refine does_intro (mc := m20) (N := 23) (rs := [2]) (fx := []) 1 rfl (by decide +kernel) ?_
  simp only [m20, EV, Nat.reduceEqDiff, Nat.reduceBEq, Nat.reduceLT, Nat.reduceLeDiff, Nat.reduceAdd, Nat.reduceSub, reduceIte]
  refine callK_i (d32 n0 h0 h1) ?_
  simp only [EV, Nat.reduceEqDiff, Nat.reduceBEq, Nat.reduceLT, Nat.reduceLeDiff, Nat.reduceAdd, Nat.reduceSub, reduceIte]
  refine awp_loop (fun p : List Int × Int => p.1 ++ nbL p.2 = nbL (2 * n0) ∧ 0 ≤ p.2 ∧ p.2 ≤ 2 * n0 ∧ (p.1.length : Int) + p.2 ≤ 2 * n0) (fun p => stl [(0, .v (.int .i64 p.2)), (3, .usl 5 1 (p.1.map bR)), (16, .dead)]) (fun p => p.2.toNat) ([], 2 * n0) ⟨rfl, by simp only; omega, by simp only; omega, by simp⟩ ?_ ?_
  · simp only [EV, Nat.reduceEqDiff, Nat.reduceBEq, Nat.reduceLT, Nat.reduceLeDiff, Nat.reduceAdd, Nat.reduceSub, reduceIte]
  · rintro ⟨ns, n⟩ ⟨p0, p1, p2, p3⟩
    simp only at p0 p1 p2 p3
    simp only [EV, Nat.reduceEqDiff, Nat.reduceBEq, Nat.reduceLT, Nat.reduceLeDiff, Nat.reduceAdd, Nat.reduceSub, reduceIte]
    refine cK_cut (fun h => ?_) (fun h => ?_)
    · have h2 : 128 ≤ n := by simpa using h
      simp only [EV, Nat.reduceEqDiff, Nat.reduceBEq, Nat.reduceLT, Nat.reduceLeDiff, Nat.reduceAdd, Nat.reduceSub, reduceIte]
      have et : n.tdiv 128 = n / 128 := Int.tdiv_eq_ediv_of_nonneg p1
      have em : n.tmod 128 = n % 128 := Int.tmod_eq_emod_of_nonneg p1
      have w1 := w64 (n / 128) (by omega)
      have w2 := w64 (n % 128 + 128) (by omega)
      have eu : IntKind.u8.wrap (n % 128 + 128) = n % 128 + 128 := by rw [IntKind.wrap_u8]; omega
      have e : nbL n = (n % 128 + 128) :: nbL (n / 128) := by rw [nbL, dif_pos h2]
      rw [et, em, w1, w2, eu, map_snoc]
      refine ⟨by decide, by omega, by omega, by decide, (ns ++ [n % 128 + 128], n / 128), ⟨?_, by simp only; omega, by simp only; omega, ?_⟩, by simp only; omega, rfl⟩
      · rw [← p0, e]; simp
      · simp only [List.length_append, List.length_cons, List.length_nil]; omega
    · have h2 : ¬ 128 ≤ n := by simpa using h
      simp only [EV, Nat.reduceEqDiff, Nat.reduceBEq, Nat.reduceLT, Nat.reduceLeDiff, Nat.reduceAdd, Nat.reduceSub, reduceIte]
      have eu : IntKind.u8.wrap n = n := by rw [IntKind.wrap_u8]; omega
      have e : nbL n = [n] := by rw [nbL, dif_neg h2]
      rw [e] at p0
      refine ⟨by omega, by omega, ?_⟩
      rw [eu, map_snoc, bR_frz, bytesA_map, p0]
      simp only [numB, EV, Nat.reduceEqDiff, Nat.reduceBEq, Nat.reduceLT, Nat.reduceLeDiff, Nat.reduceAdd, Nat.reduceSub, reduceIte, evRE, retVC, cellV', evR, nfz, nfzs, nfzss, List.contains_nil, List.contains_cons, Bool.or_false, or_true]
def nameB (s : ByteArray) : ByteArray := strA [IntKind.u8.wrap s.size] ++ s
theorem nameB_size (s : ByteArray) : (nameB s).size = 1 + s.size := by
  rw [nameB, ByteArray.size_append, strA_size]; rfl
def m23 : MC :=
 (.seq (.reg [Xb 2 (.asg (.z #[]))]) (.seq (.reg [Xm 3 0, Xq 4 (.len true (.t 3)), Xq 5 (.conv .u8 (.t 4)), Xb 6 (.bsl 5 1 [.t 5]), Xq 7 (.b2s (.t 6)), Xm 8 0, Xq 9 (.bin false .add (.t 7) (.t 8)), Xa 2 9]) .ret))
theorem d23 (s : ByteArray) (hs : (s.size : Int) ≤ 1048576) : Does Go.Proofs.Try.prog 23 [.v (.string s)] false (.v (.string (nameB s))) [.dead] := by
  have hz : (strA [IntKind.u8.wrap s.size]).size = 1 := strA_size _
  refine does_intro (mc := m23) (N := 10) (rs := [2]) (fx := []) 1 rfl (by decide +kernel) ?_
  simp only [m23, EV, Nat.reduceEqDiff, Nat.reduceBEq, Nat.reduceLT, Nat.reduceLeDiff, Nat.reduceAdd, Nat.reduceSub, reduceIte]
  refine ⟨by rw [hz]; omega, ?_⟩
  simp only [nameB, EV, Nat.reduceEqDiff, Nat.reduceBEq, Nat.reduceLT, Nat.reduceLeDiff, Nat.reduceAdd, Nat.reduceSub, reduceIte, evRE, retVC, cellV', evR, nfz, nfzs, nfzss, List.contains_nil, List.contains_cons, Bool.or_false, or_true]
def e8 (n : Int) (j : Nat) : Int := IntKind.u8.wrap (n.fdiv (2 ^ (8 * (7 - j))))
def eight (n : Int) (j : Nat) : List Int := (List.range j).map (e8 n)
theorem eight_succ (n : Int) (j : Nat) : eight n (j + 1) = eight n j ++ [e8 n j] := by simp [eight, List.range_succ]
theorem sh8 {j : Nat} (h : j < 8) : IntKind.i64.wrap (8 * (7 - (j : Int))) = ((8 * (7 - j) : Nat) : Int) := by rw [w64 _ (by omega)]; omega
theorem sh8u {j : Nat} (h : j < 8) : IntKind.u64.wrap ((8 * (7 - j) : Nat) : Int) = ((8 * (7 - j) : Nat) : Int) := by
  have e : ∀ n : Int, IntKind.u64.wrap n = n % 18446744073709551616 := by intro n; simp [IntKind.wrap, IntKind.bits, IntKind.signed]
  rw [e]; omega
theorem sh8m {j : Nat} : min (8 * (7 - j)) IntKind.i64.bits = 8 * (7 - j) := by
  have : IntKind.i64.bits = 64 := rfl
  omega
def m24 : MC :=
 (.seq (.reg [Xb 2 (.asg (.z #[]))]) (.seq (.reg [Xb 3 (.asg (.nils 5 1))]) (.seq (.seq (.reg [Xb 4 (.asg (.i 7))]) (.block 0 (.loop [0, 3, 4, 17] (.seq (.seq (.reg [Xm 5 4, Xq 6 (.bin false .geq (.t 5) (.i 0))]) (.cond (.t 6) .skip (.exit 0))) (.seq (.block 1 (.reg [Xm 9 3, Xm 10 0, Xm 11 4, Xq 12 (.bin false .mul (.i 8) (.t 11)), Xq 13 (.conv .u64 (.t 12)), Xq 14 (.bin false .shr (.t 10) (.t
 13)), Xq 15 (.conv .u8 (.t 14)), Xb 16 (.bsl 5 1 [.t 15]), Xb 17 (.app true 5 1 1 (.t 9) (.t 16)), Xa 3 17])) (.reg [Xm 7 4, Xq 8 (.bin false .sub (.t 7) (.i 1)), Xa 4 8])))))) (.seq (.reg [Xm 18 3, Xq 19 (.b2s (.t 18)), Xa 2 19]) .ret))))
theorem d24 (n : Int) : Does Go.Proofs.Try.prog 24 [.v (.int .i64 n)] false (.v (.string (strA (eight n 8)))) [.dead] := by
  refine does_intro (mc := m24) (N := 20) (rs := [2]) (fx := []) 1 rfl (by decide +kernel) ?_
  simp only [m24, EV, Nat.reduceEqDiff, Nat.reduceBEq, Nat.reduceLT, Nat.reduceLeDiff, Nat.reduceAdd, Nat.reduceSub, reduceIte]
  refine awp_loop (fun j : Nat => j ≤ 8) (fun j => stl [(0, .v (.int .i64 n)), (3, .usl 5 1 ((eight n j).map bR)), (4, .v (.int .i64 (7 - (j : Int)))), (17, .dead)]) (fun j => 8 - j) 0 (by omega) ?_ ?_
  · simp only [EV, Nat.reduceEqDiff, Nat.reduceBEq, Nat.reduceLT, Nat.reduceLeDiff, Nat.reduceAdd, Nat.reduceSub, reduceIte]
    rfl
  · intro j hj
    simp only [EV, Nat.reduceEqDiff, Nat.reduceBEq, Nat.reduceLT, Nat.reduceLeDiff, Nat.reduceAdd, Nat.reduceSub, reduceIte]
    refine cK_cut (fun h => ?_) (fun h => ?_)
    · have h2 : j < 8 := by have : 0 ≤ 7 - (j : Int) := by simpa using h
                            omega
      simp only [evW, sh8 h2, sh8u h2, sh8m, EV, Nat.reduceEqDiff, Nat.reduceBEq, Nat.reduceLT, Nat.reduceLeDiff, Nat.reduceAdd, Nat.reduceSub, reduceIte]
      have hl8 : (eight n j).length = j := by simp [eight]
      have ee : IntKind.u8.wrap (n.fdiv (2 ^ (8 * (7 - j)))) = e8 n j := rfl
      rw [ee, map_snoc, ← eight_succ, w64 _ (by omega), hl8]
      refine ⟨by omega, by omega, j + 1, by omega, by omega, ?_⟩
      have e2 : (7 : Int) - j - 1 = 7 - ((j + 1 : Nat) : Int) := by omega
      rw [e2]
    · have h2 : j = 8 := by have : ¬ 0 ≤ 7 - (j : Int) := by simpa using h
                            omega
      subst h2
      simp only [EV, Nat.reduceEqDiff, Nat.reduceBEq, Nat.reduceLT, Nat.reduceLeDiff, Nat.reduceAdd, Nat.reduceSub, reduceIte]
      rw [bR_frz, bytesA_map]
      simp only [EV, Nat.reduceEqDiff, Nat.reduceBEq, Nat.reduceLT, Nat.reduceLeDiff, Nat.reduceAdd, Nat.reduceSub, reduceIte, evRE, retVC, cellV', evR, nfz, nfzs, nfzss, List.contains_nil, List.contains_cons, Bool.or_false, or_true]
end Go.AM
namespace Go.AM
set_option linter.unusedVariables false
set_option linter.unusedSimpArgs false
def seenStep (acc : ByteArray) (s : Seen) : ByteArray := acc ++ ((nameB s.mod ++ nameB s.name) ++ strA (eight s.sum 8))
def seenB (l : List Seen) : ByteArray := l.foldl seenStep (numB l.length)
theorem eight_len (n : Int) (j : Nat) : (eight n j).length = j := by simp [eight]
theorem numB_size (n : Int) (h : 0 ≤ n) : ((numB n).size : Int) ≤ 2 * n + 1 := by
  rw [numB, strA_size]; exact nbL_len _ (by omega)
def Seen.small (s : Seen) : Prop := s.ok ∧ (s.mod.size : Int) ≤ 1048576 ∧ (s.name.size : Int) ≤ 1048576
theorem step_size {acc : ByteArray} {s : Seen} {k : Int} (h : (acc.size : Int) ≤ 2097154 + k * 2097162) (hs : s.small) : ((seenStep acc s).size : Int) ≤ 2097154 + (k + 1) * 2097162 := by
  obtain ⟨_, h1, h2⟩ := hs
  simp only [seenStep, ByteArray.size_append, nameB_size, strA_size, eight_len]
  omega
def m13 : MC :=
 (.seq (.reg [Xb 2 (.asg (.z #[]))]) (.seq (.reg [Xm 6 0, Xn 7 6, Xb 8 (.call (.fn 20) false [.lend (.t 7)]), Xa 3 8]) (.seq (.seq (.reg [Xm 9 0, Xn 10 9, Xq 11 (.mov (.i 0))]) (.block 0 (.loop [0, 3, 9, 10, 11] (.seq (.reg [Xq 12 (.bin false .lss (.t 11) (.t 10))]) (.seq (.cond (.t 12) .skip (.exit 0)) (.seq (.block 1 (.seq (.reg [Xi 13 3 9 11, XL 14 3 13, Xb 5 (.alloc 34 [.z, .z, .i]), Xz (.store
 3 (.t 5) (.t 14))]) (.dreg [Xm 15 3, Xf 16 0 5, Xl 17 1 16, Xb 18 (.call (.fn 23) false [.lend (.t 17)]), Xf 19 1 5, Xl 20 1 19, Xb 21 (.call (.fn 23) false [.lend (.t 20)]), Xq 22 (.bin false .add (.t 18) (.t 21)), Xf 23 2 5, Xl 24 1 23, Xb 25 (.call (.fn 24) false [.lend (.t 24)]), Xq 26 (.bin false .add (.t 22) (.t 25)), Xq 27 (.bin false .add (.t 15) (.t 26)), Xm 3 27]))) (.reg [Xq 28 (.bin
 false .add (.t 11) (.i 1)), Xm 11 28]))))))) (.seq (.reg [Xm 29 3, Xa 2 29]) .ret))))
set_option maxRecDepth 100000 in
theorem d13 (l : List Seen) (hl : (l.length : Int) ≤ 1048576) (hs : ∀ s ∈ l, s.small) : Does Go.Proofs.Try.prog 13 [.fsl 3 (l.map Seen.c)] false (.v (.string (seenB l))) [.dead] := by
  refine does_intro (mc := m13) (N := 30) (rs := [2]) (fx := []) 1 rfl (by decide +kernel) ?_
  simp only [m13, EV, Nat.reduceEqDiff, Nat.reduceBEq, Nat.reduceLT, Nat.reduceLeDiff, Nat.reduceAdd, Nat.reduceSub, reduceIte]
  refine callK_i (d20 _ (by omega) hl) ?_
  simp only [EV, Nat.reduceEqDiff, Nat.reduceBEq, Nat.reduceLT, Nat.reduceLeDiff, Nat.reduceAdd, Nat.reduceSub, reduceIte]
  have hz := numB_size l.length (by omega)
  refine awp_loop (fun p : Nat × ByteArray => p.1 ≤ l.length ∧ p.2 = (l.take p.1).foldl seenStep (numB l.length) ∧ (p.2.size : Int) ≤ 2097154 + p.1 * 2097162) (fun p => stl [(0, .fsl 3 (l.map Seen.c)), (3, .v (.string p.2)), (9, .fsl 3 (l.map Seen.c)), (10, .v (.int .i64 (l.length : Int))), (11, .v (.int .i64 (p.1 : Int)))]) (fun p => l.length - p.1) (0, numB l.length) ⟨by simp, rfl, by simp only; omega⟩ ?_ ?_
  · simp only [EV, Nat.reduceEqDiff, Nat.reduceBEq, Nat.reduceLT, Nat.reduceLeDiff, Nat.reduceAdd, Nat.reduceSub, reduceIte]
    rfl
  · rintro ⟨i, acc⟩ ⟨p0, p1, p2⟩
    simp only at p0 p1 p2
    simp only [EV, Nat.reduceEqDiff, Nat.reduceBEq, Nat.reduceLT, Nat.reduceLeDiff, Nat.reduceAdd, Nat.reduceSub, reduceIte]
    refine cK_cut (fun h => ?_) (fun h => ?_)
    · have h1 : i < l.length := by simpa using h
      have h2 : (i : Int) < (l.length : Int) := by omega
      have hso := hs l[i] (List.getElem_mem h1)
      have hz2 := step_size p2 hso
      have hn1 := nameB_size l[i].mod
      have hn2 := nameB_size l[i].name
      obtain ⟨_, g1, g2⟩ := id hso
      simp only [SeenE, nth_map h1, h2, Seen.c, EV, Nat.reduceEqDiff, Nat.reduceBEq, Nat.reduceLT, Nat.reduceLeDiff, Nat.reduceAdd, Nat.reduceSub, reduceIte]
      refine callD_i (d23 _ g1) rfl ?_
      simp only [EV, Nat.reduceEqDiff, Nat.reduceBEq, Nat.reduceLT, Nat.reduceLeDiff, Nat.reduceAdd, Nat.reduceSub, reduceIte]
      refine callD_i (d23 _ g2) rfl ?_
      simp only [EV, Nat.reduceEqDiff, Nat.reduceBEq, Nat.reduceLT, Nat.reduceLeDiff, Nat.reduceAdd, Nat.reduceSub, reduceIte]
      refine ⟨by omega, ?_⟩
      refine callD_i (d24 _) rfl ?_
      simp only [EV, Nat.reduceEqDiff, Nat.reduceBEq, Nat.reduceLT, Nat.reduceLeDiff, Nat.reduceAdd, Nat.reduceSub, reduceIte]
      rw [w64 _ (by omega)]
      refine ⟨?_, ?_, (i + 1, seenStep acc l[i]), ⟨by simp only; omega, ?_, ?_⟩, by simp only; omega, ?_⟩
      · rw [ByteArray.size_append, strA_size, eight_len]; omega
      · simp only [ByteArray.size_append, strA_size, eight_len]; omega
      · simp only
        rw [List.take_succ_eq_append_getElem h1, List.foldl_append, ← p1]; rfl
      · simp only; have e : ((i + 1 : Nat) : Int) = (i : Int) + 1 := by omega
        rw [e]; exact hz2
      · rfl
    · have h1 : i = l.length := by have : ¬ (i : Int) < l.length := by simpa using h
                                   omega
      subst h1
      rw [List.take_length] at p1
      have e : seenB l = acc := p1.symm
      simp only [EV, Nat.reduceEqDiff, Nat.reduceBEq, Nat.reduceLT, Nat.reduceLeDiff, Nat.reduceAdd, Nat.reduceSub, reduceIte]
      simp only [e, EV, Nat.reduceEqDiff, Nat.reduceBEq, Nat.reduceLT, Nat.reduceLeDiff, Nat.reduceAdd, Nat.reduceSub, reduceIte, evRE, retVC, cellV', evR, nfz, nfzs, nfzss, List.contains_nil, List.contains_cons, Bool.or_false, or_true]
theorem seenOk_sum {l : List Seen} (h : seenOk l = true) : ∀ s ∈ l, 0 ≤ s.sum := by
  simp only [seenOk, decide_eq_true_eq] at h
  intro s hs
  obtain ⟨i, hi, rfl⟩ := List.getElem_of_mem hs
  have := h.1 i hi hi
  simp only [okAt, Bool.and_eq_true, Bool.not_eq_true', decide_eq_false_iff_not] at this
  omega
end Go.AM
namespace Go.AM
set_option linter.unusedVariables false
set_option linter.unusedSimpArgs false
theorem sAt_in (s : ByteArray) (n : Int) : 0 ≤ sAt s n ∧ sAt s n ≤ 255 := by
  unfold sAt
  have := (s.data.toList.getD n.toNat 0).toNat_lt
  omega
theorem strA_one (s : ByteArray) {i : Nat} (h : i < s.size) : strA [sAt s i] = s.extract i (i + 1) := by
  have h' : i < s.data.size := h
  have e : UInt8.ofNat (sAt s i).toNat = s.data[i] := by
    unfold sAt
    simp [h', Array.getElem?_eq_getElem h']
  apply ByteArray.ext
  unfold strA
  simp only [List.foldl_cons, List.foldl_nil, e]
  apply Array.ext
  · simp [ByteArray.data_extract]; omega
  · intro j h1 h2
    simp at h1
    subst h1
    simp [ByteArray.data_extract]
theorem ex_app (s : ByteArray) {i j k : Nat} (h1 : i ≤ j) (h2 : j ≤ k) : s.extract i j ++ s.extract j k = s.extract i k := by
  apply ByteArray.ext
  simp only [ByteArray.data_append, ByteArray.data_extract, Array.extract_append_extract]
  rw [Nat.min_eq_left h1, Nat.max_eq_right h2]
theorem ex_full (s : ByteArray) : s.extract 0 s.size = s := by
  apply ByteArray.ext
  simp [ByteArray.data_extract]
theorem ex_size (s : ByteArray) {i j : Nat} (h : j ≤ s.size) : (s.extract i j).size = j - i := by
  simp; omega
def oct (b : ByteArray) (a : Nat) : Nat → Int
  | 0 => 0
  | j + 1 => oct b a j * 256 + sAt b (a + j : Nat)
theorem oct_nn (b : ByteArray) (a : Nat) : ∀ j, 0 ≤ oct b a j
  | 0 => Int.le_refl _
  | j + 1 => by have := oct_nn b a j; have := sAt_in b (a + j : Nat); unfold oct; omega
theorem oct_lt (b : ByteArray) (a : Nat) : ∀ j, oct b a j < 256 ^ j
  | 0 => by simp [oct]
  | j + 1 => by
    have h1 := oct_lt b a j
    have h2 := (sAt_in b (a + j : Nat)).2
    unfold oct
    rw [Int.pow_succ]
    omega
theorem wrap64_pos {x : Int} (h : 0 ≤ IntKind.i64.wrap x) (h0 : 0 ≤ x) (h1 : x < 18446744073709551616) : IntKind.i64.wrap x = x ∧ x < 9223372036854775808 := by
  rw [IntKind.wrap_i64] at h ⊢
  omega
theorem or_byte {x c : Int} (h0 : 0 ≤ x) (h1 : x < 256 ^ 7) (c0 : 0 ≤ c) (c1 : c ≤ 255) : bits .or .i64 (IntKind.i64.wrap (x * 2 ^ 8)) c = IntKind.i64.wrap (x * 256 + c) := by
  obtain ⟨n, rfl⟩ := Int.eq_ofNat_of_zero_le h0
  obtain ⟨m, rfl⟩ := Int.eq_ofNat_of_zero_le c0
  have hn : n < 72057594037927936 := by omega
  have hm : m < 2 ^ 8 := by omega
  have e1 : (BitVec.ofInt IntKind.i64.bits (IntKind.i64.wrap ((n : Int) * 2 ^ 8))).toNat = 2 ^ 8 * n := by
    show (BitVec.ofInt 64 _).toNat = _
    rw [BitVec.toNat_ofInt, IntKind.wrap_i64]
    omega
  have e2 : (BitVec.ofInt IntKind.i64.bits (m : Int)).toNat = m := by
    show (BitVec.ofInt 64 _).toNat = _
    rw [BitVec.toNat_ofInt]
    omega
  simp only [bits, BitVec.toNat_or, e1, e2]
  rw [← Nat.two_pow_add_eq_or_of_lt hm n]
  congr 1
  omega
theorem eight_oct {b : ByteArray} {a : Nat} (h : a + 8 ≤ b.size) (hp : 0 ≤ IntKind.i64.wrap (oct b a 8)) : strA (eight (IntKind.i64.wrap (oct b a 8)) 8) = b.extract a (a + 8) := by
  have hl := oct_lt b a 8
  obtain ⟨hw, hb⟩ := wrap64_pos hp (oct_nn b a 8) (by simpa using hl)
  rw [hw]
  have ee : eight (oct b a 8) 8 = [sAt b (a + 0 : Nat)] ++ [sAt b (a + 1 : Nat)] ++ [sAt b (a + 2 : Nat)] ++ [sAt b (a + 3 : Nat)] ++ [sAt b (a + 4 : Nat)] ++ [sAt b (a + 5 : Nat)] ++ [sAt b (a + 6 : Nat)] ++ [sAt b (a + 7 : Nat)] := by
    have s0 := sAt_in b (a + 0 : Nat)
    have s1 := sAt_in b (a + 1 : Nat)
    have s2 := sAt_in b (a + 2 : Nat)
    have s3 := sAt_in b (a + 3 : Nat)
    have s4 := sAt_in b (a + 4 : Nat)
    have s5 := sAt_in b (a + 5 : Nat)
    have s6 := sAt_in b (a + 6 : Nat)
    have s7 := sAt_in b (a + 7 : Nat)
    simp only [oct] at hb ⊢
    generalize sAt b (a + 0 : Nat) = c0 at *
    generalize sAt b (a + 1 : Nat) = c1 at *
    generalize sAt b (a + 2 : Nat) = c2 at *
    generalize sAt b (a + 3 : Nat) = c3 at *
    generalize sAt b (a + 4 : Nat) = c4 at *
    generalize sAt b (a + 5 : Nat) = c5 at *
    generalize sAt b (a + 6 : Nat) = c6 at *
    generalize sAt b (a + 7 : Nat) = c7 at *
    have hr : List.range 8 = [0, 1, 2, 3, 4, 5, 6, 7] := rfl
    have wu : ∀ x : Int, IntKind.u8.wrap x = x % 256 := fun x => IntKind.wrap_u8 x
    simp only [eight, hr, List.map_cons, List.map_nil, e8, wu, List.cons_append, List.nil_append, List.cons.injEq, and_true]
    refine ⟨?_, ?_, ?_, ?_, ?_, ?_, ?_, ?_⟩ <;> (rw [Int.fdiv_eq_ediv_of_nonneg _ (by decide)]; simp only [Nat.reduceSub, Nat.reduceMul, Int.reducePow]; omega)
  rw [ee]
  simp only [strA_app]
  rw [strA_one b (by omega), strA_one b (by omega), strA_one b (by omega), strA_one b (by omega), strA_one b (by omega), strA_one b (by omega), strA_one b (by omega), strA_one b (by omega)]
  rw [ex_app b (by omega) (by omega), ex_app b (by omega) (by omega), ex_app b (by omega) (by omega), ex_app b (by omega) (by omega), ex_app b (by omega) (by omega), ex_app b (by omega) (by omega), ex_app b (by omega) (by omega)]
  rfl
end Go.AM
namespace Go.AM
set_option linter.unusedVariables false
set_option linter.unusedSimpArgs false
theorem evNr (n : Nat) (p : List (Nat × Nat)) (i k : Nat) (K : AV → Prop) : nilchkV (.ref n p i k) K = K (.ref n p i k) := rfl
def zB (b : ByteArray) (a : Nat) (bad : Bool) : List AV := [.v (.string b), .v (.int .i64 (a : Int)), .v (.bool bad)]
def zO (b : ByteArray) (a : Nat) (bad : Int) : List AV := [.v (.string b), .v (.int .i64 (a : Int)), .v (.int .i64 bad)]
noncomputable def pName (b : ByteArray) (a : Nat) : Option (ByteArray × Nat) :=
  if a < b.size ∧ a + 1 + (sAt b a).toNat ≤ b.size ∧ nameOk (b.extract (a + 1) (a + 1 + (sAt b a).toNat)) = true then some (b.extract (a + 1) (a + 1 + (sAt b a).toNat), a + 1 + (sAt b a).toNat) else none
theorem nameOk_size {s : ByteArray} (h : nameOk s = true) : 1 ≤ s.size ∧ s.size ≤ 10 := by
  simp only [nameOk, decide_eq_true_eq] at h
  exact h.2
theorem pName_some {b : ByteArray} {a : Nat} {nm : ByteArray} {to : Nat} (h : pName b a = some (nm, to)) : a < to ∧ to ≤ b.size ∧ nameOk nm = true ∧ nm.size ≤ 10 ∧ nameB nm = b.extract a to := by
  unfold pName at h
  split at h
  · rename_i hc
    simp only [Option.some.injEq, Prod.mk.injEq] at h
    obtain ⟨rfl, rfl⟩ := h
    have s1 := nameOk_size hc.2.2
    have hi := sAt_in b a
    refine ⟨by omega, hc.2.1, hc.2.2, s1.2, ?_⟩
    have sz : (b.extract (a + 1) (a + 1 + (sAt b a).toNat)).size = (sAt b a).toNat := by rw [ex_size b hc.2.1]; omega
    have e1 : IntKind.u8.wrap ((b.extract (a + 1) (a + 1 + (sAt b a).toNat)).size : Int) = sAt b a := by rw [sz, IntKind.wrap_u8]; omega
    unfold nameB
    rw [e1, strA_one b hc.1, ex_app b (by omega) (by omega)]
  · cases h
def m11 : MC :=
 (.seq (.reg [Xb 2 (.asg (.i 0))]) (.seq (.seq (.dreg [Xm 3 0, Xq 4 (.nilchk (.t 3)), Xf 5 2 4, Xl 6 1 5, Xm 7 6, Xu 8 7 (.mov (.t 0)), Xu 9 7 (.nilchk (.t 8)), Xu 10 7 (.fad 1 (.t 9)), Xu 11 7 (.load false 1 (.t 10)), Xu 12 7 (.mov (.t 0)), Xu 13 7 (.nilchk (.t 12)), Xu 14 7 (.fad 0 (.t 13)), Xu 15 7 (.load false 1 (.t 14)), Xu 16 7 (.len true (.t 15)), Xu 17 7 (.bin false .geq (.t 11) (.t 16)),
 Xq 18 (.pick (.t 7) .tb (.t 17))]) (.cond (.t 18) (.seq (.reg [Xm 19 0, Xq 20 (.nilchk (.t 19)), Xf 21 2 20, Xz (.store 1 (.t 21) .tb)]) (.seq (.reg [Xb 2 (.asg (.i 0))]) .ret)) .skip)) (.seq (.reg [Xm 22 0, Xq 23 (.nilchk (.t 22)), Xf 24 1 23, Xl 25 1 24, Xq 26 (.bin false .add (.t 25) (.i 1)), Xq 27 (.nilchk (.t 22)), Xf 28 1 27, Xz (.store 1 (.t 28) (.t 26))]) (.seq (.dreg [Xm 29 0, Xq 30
 (.nilchk (.t 29)), Xf 31 0 30, Xl 32 1 31, Xm 33 0, Xq 34 (.nilchk (.t 33)), Xf 35 1 34, Xl 36 1 35, Xq 37 (.bin false .sub (.t 36) (.i 1)), Xq 38 (.idx (.t 32) (.t 37)), Xq 39 (.conv .i64 (.t 38)), Xm 2 39]) .ret))))
set_option maxRecDepth 100000 in
theorem g11 (b : ByteArray) (a : Nat) (hz : b.size ≤ 3000) (ha : a < b.size) : Does Go.Proofs.Try.prog 11 [.box 30 (zB b a false)] false (.v (.int .i64 (sAt b a))) [.box 30 (zB b (a + 1) false)] := by
  have d1 : decide ((b.size : Int) ≤ (a : Int)) = false := by simp; omega
  have w1 := w64 ((a : Int) + 1) (by omega)
  have w2 := w64 (a : Int) (by omega)
  have e1 : (a : Int) + 1 - 1 = (a : Int) := by omega
  have h2 : (a : Int) < (b.size : Int) := by omega
  have hi := sAt_in b a
  have w3 := w64 (sAt b a) (by omega)
  refine does_intro (mc := m11) (N := 40) (rs := [2]) (fx := [0]) 1 rfl (by decide +kernel) ?_
  simp only [m11, zB, d1, evNr, EV, Nat.reduceEqDiff, Nat.reduceBEq, Nat.reduceLT, Nat.reduceLeDiff, Nat.reduceAdd, Nat.reduceSub, reduceIte]
  simp only [w1, w2, e1, h2, w3, evNr, EV, Nat.reduceEqDiff, Nat.reduceBEq, Nat.reduceLT, Nat.reduceLeDiff, Nat.reduceAdd, Nat.reduceSub, reduceIte]
  simp only [EV, Nat.reduceEqDiff, Nat.reduceBEq, Nat.reduceLT, Nat.reduceLeDiff, Nat.reduceAdd, Nat.reduceSub, reduceIte, evRE, retVC, cellV', evR, nfz, nfzs, nfzss, List.contains_nil, List.contains_cons, Bool.or_false, or_true]
  rfl
set_option maxRecDepth 100000 in
theorem b11 (b : ByteArray) (a : Nat) (bad : Bool) (hb : (bad || decide ((b.size : Int) ≤ (a : Int))) = true) : Does Go.Proofs.Try.prog 11 [.box 30 (zB b a bad)] false (.v (.int .i64 0)) [.box 30 (zB b a true)] := by
  refine does_intro (mc := m11) (N := 40) (rs := [2]) (fx := [0]) 1 rfl (by decide +kernel) ?_
  simp only [m11, zB, evNr, EV, Nat.reduceEqDiff, Nat.reduceBEq, Nat.reduceLT, Nat.reduceLeDiff, Nat.reduceAdd, Nat.reduceSub, reduceIte]
  rcases bad with _ | _
  · simp only [Bool.false_or] at hb
    simp only [hb, evNr, EV, Nat.reduceEqDiff, Nat.reduceBEq, Nat.reduceLT, Nat.reduceLeDiff, Nat.reduceAdd, Nat.reduceSub, reduceIte]
    simp only [EV, Nat.reduceEqDiff, Nat.reduceBEq, Nat.reduceLT, Nat.reduceLeDiff, Nat.reduceAdd, Nat.reduceSub, reduceIte, evRE, retVC, cellV', evR, nfz, nfzs, nfzss, List.contains_nil, List.contains_cons, Bool.or_false, or_true]
  · simp only [evNr, EV, Nat.reduceEqDiff, Nat.reduceBEq, Nat.reduceLT, Nat.reduceLeDiff, Nat.reduceAdd, Nat.reduceSub, reduceIte]
    simp only [EV, Nat.reduceEqDiff, Nat.reduceBEq, Nat.reduceLT, Nat.reduceLeDiff, Nat.reduceAdd, Nat.reduceSub, reduceIte, evRE, retVC, cellV', evR, nfz, nfzs, nfzss, List.contains_nil, List.contains_cons, Bool.or_false, or_true]
def m10 : MC :=
 (.seq (.reg [Xb 2 (.asg (.z #[]))]) (.seq (.reg [Xm 4 0, Xb 5 (.call (.fn 11) false [.io (.t 4)]), Xa 3 5]) (.seq (.seq (.dreg [Xm 6 0, Xq 7 (.nilchk (.t 6)), Xf 8 2 7, Xl 9 1 8, Xm 10 9, Xu 11 10 (.mov (.t 0)), Xu 12 10 (.nilchk (.t 11)), Xu 13 10 (.fad 1 (.t 12)), Xu 14 10 (.load false 1 (.t 13)), Xu 15 10 (.mov (.t 3)), Xu 16 10 (.bin false .add (.t 14) (.t 15)), Xu 17 10 (.mov (.t 0)), Xu 18
 10 (.nilchk (.t 17)), Xu 19 10 (.fad 0 (.t 18)), Xu 20 10 (.load false 1 (.t 19)), Xu 21 10 (.len true (.t 20)), Xu 22 10 (.bin false .gtr (.t 16) (.t 21)), Xq 23 (.pick (.t 10) .tb (.t 22)), Xm 24 23, Xu 25 24 (.mov (.t 0)), Xu 26 24 (.nilchk (.t 25)), Xu 27 24 (.fad 0 (.t 26)), Xu 28 24 (.load false 1 (.t 27)), Xu 29 24 (.mov (.t 0)), Xu 30 24 (.nilchk (.t 29)), Xu 31 24 (.fad 1 (.t 30)), Xu 32
 24 (.load false 1 (.t 31)), Xu 33 24 (.mov (.t 0)), Xu 34 24 (.nilchk (.t 33)), Xu 35 24 (.fad 1 (.t 34)), Xu 36 24 (.load false 1 (.t 35)), Xu 37 24 (.mov (.t 3)), Xu 38 24 (.bin false .add (.t 36) (.t 37)), Xu 39 24 (.slc true 1 (.t 28) (some (.t 32)) (some (.t 38))), XU 40 24 (.call (.fn 22) false [.lend (.t 39)]), Xu 41 24 (.un .not (.t 40)), Xq 42 (.pick (.t 24) .tb (.t 41))]) (.cond (.t 42)
 (.seq (.reg [Xm 43 0, Xq 44 (.nilchk (.t 43)), Xf 45 2 44, Xz (.store 1 (.t 45) .tb)]) (.seq (.reg [Xb 2 (.asg (.z #[]))]) .ret)) .skip)) (.seq (.reg [Xm 46 0, Xq 47 (.nilchk (.t 46)), Xf 48 1 47, Xl 49 1 48, Xm 50 3, Xq 51 (.bin false .add (.t 49) (.t 50)), Xq 52 (.nilchk (.t 46)), Xf 53 1 52, Xz (.store 1 (.t 53) (.t 51))]) (.seq (.dreg [Xm 54 0, Xq 55 (.nilchk (.t 54)), Xf 56 0 55, Xl 57 1 56,
 Xm 58 0, Xq 59 (.nilchk (.t 58)), Xf 60 1 59, Xl 61 1 60, Xm 62 3, Xq 63 (.bin false .sub (.t 61) (.t 62)), Xm 64 0, Xq 65 (.nilchk (.t 64)), Xf 66 1 65, Xl 67 1 66, Xq 68 (.slc true 1 (.t 57) (some (.t 63)) (some (.t 67))), Xm 2 68]) .ret)))))
set_option maxRecDepth 100000 in
set_option maxHeartbeats 1000000 in
theorem g10 (b : ByteArray) (a : Nat) (hz : b.size ≤ 3000) {nm : ByteArray} {to : Nat} (hp : pName b a = some (nm, to)) : Does Go.Proofs.Try.prog 10 [.box 30 (zB b a false)] false (.v (.string nm)) [.box 30 (zB b to false)] := by
  have hi := sAt_in b a
  unfold pName at hp
  split at hp
  · rename_i hc
    simp only [Option.some.injEq, Prod.mk.injEq] at hp
    obtain ⟨rfl, rfl⟩ := hp
    obtain ⟨n, hn⟩ : ∃ n : Nat, sAt b a = (n : Int) := ⟨(sAt b a).toNat, by omega⟩
    rw [hn, Int.toNat_natCast] at hc ⊢
    have d1 : decide ((b.size : Int) < ((a + 1 : Nat) : Int) + (n : Int)) = false := by simp; omega
    have w1 := w64 (((a + 1 : Nat) : Int) + (n : Int)) (by omega)
    have w2 := w64 ((a + 1 : Nat) : Int) (by omega)
    have e2 : ((a + 1 : Nat) : Int) + (n : Int) - (n : Int) = ((a + 1 : Nat) : Int) := by omega
    have t1 : (((a + 1 : Nat) : Int)).toNat = a + 1 := by omega
    have t2 : (((a + 1 : Nat) : Int) + (n : Int)).toNat = a + 1 + n := by omega
    have l0 : (0 : Int) ≤ ((a + 1 : Nat) : Int) := by omega
    have l1 : ((a + 1 : Nat) : Int) ≤ ((a + 1 : Nat) : Int) + (n : Int) := by omega
    have l2 : ((a + 1 : Nat) : Int) + (n : Int) ≤ (b.size : Int) := by omega
    have hnm := hc.2.2
    have hsz : ((b.extract (a + 1) (a + 1 + n)).size : Int) ≤ 9223372036854775807 := by have := nameOk_size hnm; omega
    have dn := d22 _ hsz
    rw [hnm] at dn
    have gb := g11 b a hz hc.1
    rw [hn] at gb
    refine does_intro (mc := m10) (N := 69) (rs := [2]) (fx := [0]) 1 rfl (by decide +kernel) ?_
    simp only [m10, evNr, EV, Nat.reduceEqDiff, Nat.reduceBEq, Nat.reduceLT, Nat.reduceLeDiff, Nat.reduceAdd, Nat.reduceSub, reduceIte]
    refine callK2_i gb rfl rfl ?_
    simp only [zB, evNr, EV, Nat.reduceEqDiff, Nat.reduceBEq, Nat.reduceLT, Nat.reduceLeDiff, Nat.reduceAdd, Nat.reduceSub, reduceIte]
    simp only [w1, w2, e2, t1, t2, d1, l0, l1, l2, evNr, EV, Nat.reduceEqDiff, Nat.reduceBEq, Nat.reduceLT, Nat.reduceLeDiff, Nat.reduceAdd, Nat.reduceSub, reduceIte]
    refine callD_i dn rfl ?_
    simp only [w1, w2, e2, t1, t2, d1, l0, l1, l2, evNr, EV, Nat.reduceEqDiff, Nat.reduceBEq, Nat.reduceLT, Nat.reduceLeDiff, Nat.reduceAdd, Nat.reduceSub, reduceIte]
    simp only [EV, Nat.reduceEqDiff, Nat.reduceBEq, Nat.reduceLT, Nat.reduceLeDiff, Nat.reduceAdd, Nat.reduceSub, reduceIte, evRE, retVC, cellV', evR, nfz, nfzs, nfzss, List.contains_nil, List.contains_cons, Bool.or_false, or_true]
    rfl
  · cases hp
set_option maxRecDepth 100000 in
set_option maxHeartbeats 1000000 in
theorem b10 (b : ByteArray) (a : Nat) (bad : Bool) (hz : b.size ≤ 3000) (hb : (bad || decide ((b.size : Int) ≤ (a : Int))) = true) : Does Go.Proofs.Try.prog 10 [.box 30 (zB b a bad)] false (.v (.string ⟨#[]⟩)) [.box 30 (zB b a true)] := by
  refine does_intro (mc := m10) (N := 69) (rs := [2]) (fx := [0]) 1 rfl (by decide +kernel) ?_
  simp only [m10, evNr, EV, Nat.reduceEqDiff, Nat.reduceBEq, Nat.reduceLT, Nat.reduceLeDiff, Nat.reduceAdd, Nat.reduceSub, reduceIte]
  refine callK2_i (b11 b a bad hb) rfl rfl ?_
  simp only [zB, evNr, EV, Nat.reduceEqDiff, Nat.reduceBEq, Nat.reduceLT, Nat.reduceLeDiff, Nat.reduceAdd, Nat.reduceSub, reduceIte]
  simp only [EV, Nat.reduceEqDiff, Nat.reduceBEq, Nat.reduceLT, Nat.reduceLeDiff, Nat.reduceAdd, Nat.reduceSub, reduceIte, evRE, retVC, cellV', evR, nfz, nfzs, nfzss, List.contains_nil, List.contains_cons, Bool.or_false, or_true]
set_option maxRecDepth 100000 in
set_option maxHeartbeats 1000000 in
theorem n10 (b : ByteArray) (a : Nat) (hz : b.size ≤ 3000) (hp : pName b a = none) : ∃ a', a' ≤ a + 1 ∧ Does Go.Proofs.Try.prog 10 [.box 30 (zB b a false)] false (.v (.string ⟨#[]⟩)) [.box 30 (zB b a' true)] := by
  by_cases ha : a < b.size
  rotate_left
  · exact ⟨a, by omega, b10 b a false hz (by simp; omega)⟩
  refine ⟨a + 1, Nat.le_refl _, ?_⟩
  have hi := sAt_in b a
  unfold pName at hp
  obtain ⟨n, hn⟩ : ∃ n : Nat, sAt b a = (n : Int) := ⟨(sAt b a).toNat, by omega⟩
  have gb := g11 b a hz ha
  rw [hn] at gb
  rw [hn, Int.toNat_natCast] at hp
  have w1 := w64 (((a + 1 : Nat) : Int) + (n : Int)) (by omega)
  have w2 := w64 ((a + 1 : Nat) : Int) (by omega)
  have t1 : (((a + 1 : Nat) : Int)).toNat = a + 1 := by omega
  have t2 : (((a + 1 : Nat) : Int) + (n : Int)).toNat = a + 1 + n := by omega
  refine does_intro (mc := m10) (N := 69) (rs := [2]) (fx := [0]) 1 rfl (by decide +kernel) ?_
  simp only [m10, evNr, EV, Nat.reduceEqDiff, Nat.reduceBEq, Nat.reduceLT, Nat.reduceLeDiff, Nat.reduceAdd, Nat.reduceSub, reduceIte]
  refine callK2_i gb rfl rfl ?_
  simp only [zB, evNr, EV, Nat.reduceEqDiff, Nat.reduceBEq, Nat.reduceLT, Nat.reduceLeDiff, Nat.reduceAdd, Nat.reduceSub, reduceIte]
  rcases d1 : decide ((b.size : Int) < ((a + 1 : Nat) : Int) + (n : Int)) with _ | _
  rotate_left
  · simp only [w1, w2, d1, evNr, EV, Nat.reduceEqDiff, Nat.reduceBEq, Nat.reduceLT, Nat.reduceLeDiff, Nat.reduceAdd, Nat.reduceSub, reduceIte]
    simp only [EV, Nat.reduceEqDiff, Nat.reduceBEq, Nat.reduceLT, Nat.reduceLeDiff, Nat.reduceAdd, Nat.reduceSub, reduceIte, evRE, retVC, cellV', evR, nfz, nfzs, nfzss, List.contains_nil, List.contains_cons, Bool.or_false, or_true]
  have hle : a + 1 + n ≤ b.size := by have : ¬ (b.size : Int) < ((a + 1 : Nat) : Int) + (n : Int) := by simpa using d1
                                      omega
  have hnm : nameOk (b.extract (a + 1) (a + 1 + n)) = false := by
    rcases e : nameOk (b.extract (a + 1) (a + 1 + n)) with _ | _
    · rfl
    · rw [if_pos ⟨ha, hle, e⟩] at hp; cases hp
  have l0 : (0 : Int) ≤ ((a + 1 : Nat) : Int) := by omega
  have l1 : ((a + 1 : Nat) : Int) ≤ ((a + 1 : Nat) : Int) + (n : Int) := by omega
  have l2 : ((a + 1 : Nat) : Int) + (n : Int) ≤ (b.size : Int) := by omega
  have hsz : ((b.extract (a + 1) (a + 1 + n)).size : Int) ≤ 9223372036854775807 := by rw [ex_size b hle]; omega
  have dn := d22 _ hsz
  rw [hnm] at dn
  simp only [w1, w2, t1, t2, d1, l0, l1, l2, evNr, EV, Nat.reduceEqDiff, Nat.reduceBEq, Nat.reduceLT, Nat.reduceLeDiff, Nat.reduceAdd, Nat.reduceSub, reduceIte]
  refine callD_i dn rfl ?_
  simp only [w1, w2, t1, t2, d1, l0, l1, l2, evNr, EV, Nat.reduceEqDiff, Nat.reduceBEq, Nat.reduceLT, Nat.reduceLeDiff, Nat.reduceAdd, Nat.reduceSub, reduceIte]
  simp only [EV, Nat.reduceEqDiff, Nat.reduceBEq, Nat.reduceLT, Nat.reduceLeDiff, Nat.reduceAdd, Nat.reduceSub, reduceIte, evRE, retVC, cellV', evR, nfz, nfzs, nfzss, List.contains_nil, List.contains_cons, Bool.or_false, or_true]
def m27 : MC :=
 (.seq (.reg [Xm 4 0, Xq 5 (.nilchk (.t 4)), Xf 6 2 5, Xl 7 1 6, Xq 8 (.bin false .lss (.t 7) (.i 0))]) (.cond (.t 8) (.reg [Xm 9 0, Xm 10 1, Xq 11 (.nilchk (.t 9)), Xf 12 2 11, Xz (.store 1 (.t 12) (.t 10))]) .skip))
theorem d27 (b : ByteArray) (a : Nat) (bad x : Int) : Does Go.Proofs.Try.prog 27 [.box 40 (zO b a bad), .v (.int .i64 x)] false (.tup []) [.box 40 (zO b a (if bad < 0 then x else bad)), .dead] := by
  refine does_intro (mc := m27) (N := 13) (rs := []) (fx := [0]) 2 rfl (by decide +kernel) ?_
  simp only [m27, zO, evNr, EV, Nat.reduceEqDiff, Nat.reduceBEq, Nat.reduceLT, Nat.reduceLeDiff, Nat.reduceAdd, Nat.reduceSub, reduceIte]
  rcases e : decide (bad < 0) with _ | _
  · have : ¬ bad < 0 := by simpa using e
    rw [if_neg this]
    simp only [e, evNr, EV, Nat.reduceEqDiff, Nat.reduceBEq, Nat.reduceLT, Nat.reduceLeDiff, Nat.reduceAdd, Nat.reduceSub, reduceIte]
    simp only [EV, Nat.reduceEqDiff, Nat.reduceBEq, Nat.reduceLT, Nat.reduceLeDiff, Nat.reduceAdd, Nat.reduceSub, reduceIte, evRE, retVC, cellV', evR, nfz, nfzs, nfzss, List.contains_nil, List.contains_cons, Bool.or_false, or_true]
  · have : bad < 0 := by simpa using e
    rw [if_pos this]
    simp only [e, evNr, EV, Nat.reduceEqDiff, Nat.reduceBEq, Nat.reduceLT, Nat.reduceLeDiff, Nat.reduceAdd, Nat.reduceSub, reduceIte]
    simp only [EV, Nat.reduceEqDiff, Nat.reduceBEq, Nat.reduceLT, Nat.reduceLeDiff, Nat.reduceAdd, Nat.reduceSub, reduceIte, evRE, retVC, cellV', evR, nfz, nfzs, nfzss, List.contains_nil, List.contains_cons, Bool.or_false, or_true]
def m16 : MC :=
 (.seq (.reg [Xb 6 (.asg (.i 0))]) (.seq (.seq (.dreg [Xm 7 0, Xq 8 (.nilchk (.t 7)), Xf 9 2 8, Xl 10 1 9, Xq 11 (.bin false .geq (.t 10) (.i 0)), Xm 12 11, Xu 13 12 (.mov (.t 0)), Xu 14 12 (.nilchk (.t 13)), Xu 15 12 (.fad 1 (.t 14)), Xu 16 12 (.load false 1 (.t 15)), Xu 17 12 (.mov (.t 0)), Xu 18 12 (.nilchk (.t 17)), Xu 19 12 (.fad 0 (.t 18)), Xu 20 12 (.load false 1 (.t 19)), Xu 21 12 (.len
 true (.t 20)), Xu 22 12 (.bin false .geq (.t 16) (.t 21)), Xq 23 (.pick (.t 12) .tb (.t 22)), Xm 24 23, Xu 25 24 (.mov (.t 0)), Xu 26 24 (.nilchk (.t 25)), Xu 27 24 (.fad 0 (.t 26)), Xu 28 24 (.load false 1 (.t 27)), Xu 29 24 (.mov (.t 0)), Xu 30 24 (.nilchk (.t 29)), Xu 31 24 (.fad 1 (.t 30)), Xu 32 24 (.load false 1 (.t 31)), Xu 33 24 (.idx (.t 28) (.t 32)), Xu 34 24 (.conv .i64 (.t 33)), Xu 35
 24 (.mov (.t 1)), Xu 36 24 (.mov (.t 2)), XU 37 24 (.call (.fn 26) false [.lend (.t 34), .lend (.t 35), .lend (.t 36)]), Xu 38 24 (.un .not (.t 37)), Xq 39 (.pick (.t 24) .tb (.t 38))]) (.cond (.t 39) (.seq (.reg [Xm 40 0, Xm 41 0, Xq 42 (.nilchk (.t 41)), Xf 43 1 42, Xl 44 1 43, Xb 45 (.call (.fn 27) false [.io (.t 40), .lend (.t 44)])]) (.seq (.reg [Xb 6 (.asg (.i 0))]) .ret)) .skip)) (.seq
 (.reg [Xm 46 0, Xq 47 (.nilchk (.t 46)), Xf 48 1 47, Xl 49 1 48, Xq 50 (.bin false .add (.t 49) (.i 1)), Xq 51 (.nilchk (.t 46)), Xf 52 1 51, Xz (.store 1 (.t 52) (.t 50))]) (.seq (.dreg [Xm 53 0, Xq 54 (.nilchk (.t 53)), Xf 55 0 54, Xl 56 1 55, Xm 57 0, Xq 58 (.nilchk (.t 57)), Xf 59 1 58, Xl 60 1 59, Xq 61 (.bin false .sub (.t 60) (.i 1)), Xq 62 (.idx (.t 56) (.t 61)), Xq 63 (.conv .i64 (.t
 62)), Xm 6 63]) .ret))))
set_option maxRecDepth 100000 in
set_option maxHeartbeats 1000000 in
theorem g16 (b : ByteArray) (a : Nat) (hz : b.size ≤ 3000) (ha : a < b.size) : Does Go.Proofs.Try.prog 16 [.box 40 (zO b a (-1)), .v (.int .i64 0), .v (.int .i64 255)] false (.v (.int .i64 (sAt b a))) [.box 40 (zO b (a + 1) (-1)), .dead, .dead] := by
  have d0 : decide ((0 : Int) ≤ -1) = false := rfl
  have d1 : decide ((b.size : Int) ≤ (a : Int)) = false := by simp; omega
  have w1 := w64 ((a : Int) + 1) (by omega)
  have w2 := w64 (a : Int) (by omega)
  have e1 : (a : Int) + 1 - 1 = (a : Int) := by omega
  have h2 : (a : Int) < (b.size : Int) := by omega
  have hi := sAt_in b a
  have w3 := w64 (sAt b a) (by omega)
  have di := d26 (sAt b a) 0 255
  have hd : (decide (0 ≤ sAt b a) && decide (sAt b a ≤ 255)) = true := by simp; omega
  rw [hd] at di
  refine does_intro (mc := m16) (N := 64) (rs := [6]) (fx := [0]) 3 rfl (by decide +kernel) ?_
  simp only [m16, zO, d0, d1, h2, w3, evNr, EV, Nat.reduceEqDiff, Nat.reduceBEq, Nat.reduceLT, Nat.reduceLeDiff, Nat.reduceAdd, Nat.reduceSub, reduceIte]
  refine callD_i di rfl ?_
  simp only [w1, w2, e1, h2, w3, evNr, EV, Nat.reduceEqDiff, Nat.reduceBEq, Nat.reduceLT, Nat.reduceLeDiff, Nat.reduceAdd, Nat.reduceSub, reduceIte]
  simp only [EV, Nat.reduceEqDiff, Nat.reduceBEq, Nat.reduceLT, Nat.reduceLeDiff, Nat.reduceAdd, Nat.reduceSub, reduceIte, evRE, retVC, cellV', evR, nfz, nfzs, nfzss, List.contains_nil, List.contains_cons, Bool.or_false, or_true]
  rfl
set_option maxRecDepth 100000 in
set_option maxHeartbeats 1000000 in
theorem b16 (b : ByteArray) (a : Nat) (bad : Int) (hb : (decide (0 ≤ bad) || decide ((b.size : Int) ≤ (a : Int))) = true) : Does Go.Proofs.Try.prog 16 [.box 40 (zO b a bad), .v (.int .i64 0), .v (.int .i64 255)] false (.v (.int .i64 0)) [.box 40 (zO b a (if bad < 0 then (a : Int) else bad)), .dead, .dead] := by
  have df := d27 b a bad a
  refine does_intro (mc := m16) (N := 64) (rs := [6]) (fx := [0]) 3 rfl (by decide +kernel) ?_
  simp only [m16, zO, evNr, EV, Nat.reduceEqDiff, Nat.reduceBEq, Nat.reduceLT, Nat.reduceLeDiff, Nat.reduceAdd, Nat.reduceSub, reduceIte]
  rcases e : decide (0 ≤ bad) with _ | _
  · rw [e, Bool.false_or] at hb
    simp only [hb, evNr, EV, Nat.reduceEqDiff, Nat.reduceBEq, Nat.reduceLT, Nat.reduceLeDiff, Nat.reduceAdd, Nat.reduceSub, reduceIte]
    refine callK2_i df rfl rfl ?_
    simp only [zO, evNr, EV, Nat.reduceEqDiff, Nat.reduceBEq, Nat.reduceLT, Nat.reduceLeDiff, Nat.reduceAdd, Nat.reduceSub, reduceIte]
    simp only [EV, Nat.reduceEqDiff, Nat.reduceBEq, Nat.reduceLT, Nat.reduceLeDiff, Nat.reduceAdd, Nat.reduceSub, reduceIte, evRE, retVC, cellV', evR, nfz, nfzs, nfzss, List.contains_nil, List.contains_cons, Bool.or_false, or_true]
  · simp only [evNr, EV, Nat.reduceEqDiff, Nat.reduceBEq, Nat.reduceLT, Nat.reduceLeDiff, Nat.reduceAdd, Nat.reduceSub, reduceIte]
    refine callK2_i df rfl rfl ?_
    simp only [zO, evNr, EV, Nat.reduceEqDiff, Nat.reduceBEq, Nat.reduceLT, Nat.reduceLeDiff, Nat.reduceAdd, Nat.reduceSub, reduceIte]
    simp only [EV, Nat.reduceEqDiff, Nat.reduceBEq, Nat.reduceLT, Nat.reduceLeDiff, Nat.reduceAdd, Nat.reduceSub, reduceIte, evRE, retVC, cellV', evR, nfz, nfzs, nfzss, List.contains_nil, List.contains_cons, Bool.or_false, or_true]
end Go.AM
namespace Go.AM
set_option linter.unusedVariables false
set_option linter.unusedSimpArgs false
def valL : List Int → Int
  | [] => 0
  | c :: r => c % 128 + 128 * valL r
def lastD : List Int → Int
  | [] => 0
  | [c] => c
  | _ :: c :: r => lastD (c :: r)
def prop : List Int → Prop
  | [] => False
  | [c] => c < 128
  | d :: c :: r => 128 ≤ d ∧ prop (c :: r)
theorem valL_nn : ∀ l : List Int, 0 ≤ valL l
  | [] => Int.le_refl _
  | c :: r => by have := valL_nn r; unfold valL; omega
theorem valL_snoc (c : Int) : ∀ l : List Int, valL (l ++ [c]) = valL l + (c % 128) * 128 ^ l.length
  | [] => by simp [valL]
  | d :: r => by
    have := valL_snoc c r
    simp only [List.cons_append, valL, this, List.length_cons, Int.pow_succ]
    rw [Int.mul_add]
    have e : 128 * (c % 128 * 128 ^ r.length) = c % 128 * (128 ^ r.length * 128) := by
      rw [Int.mul_comm 128, Int.mul_assoc]
    omega
theorem prop_pos : ∀ l : List Int, (∀ c ∈ l, 0 ≤ c) → prop l → 0 < lastD l → 1 ≤ valL l
  | [], _, h, _ => h.elim
  | [c], _, h, h1 => by simp only [prop] at h; simp only [lastD] at h1; simp only [valL]; omega
  | d :: c :: r, h0, h, h1 => by
    have := prop_pos (c :: r) (fun x hx => h0 x (by simp [hx])) h.2 h1
    have h2 := h0 d (by simp)
    rw [valL]
    omega
theorem nbL_prop (n : Int) (h : 0 ≤ n) : prop (nbL n) := by
  rw [nbL]
  split
  · have := nbL_prop (n / 128) (by omega)
    cases e : nbL (n / 128) with
    | nil => rw [e] at this; exact this.elim
    | cons c r => rw [e] at this; exact ⟨by omega, this⟩
  · simp only [prop]; omega
  termination_by n.toNat
  decreasing_by omega
theorem nbL_in (n : Int) (h : 0 ≤ n) : ∀ c ∈ nbL n, 0 ≤ c ∧ c ≤ 255 := by
  rw [nbL]
  split
  · have := nbL_in (n / 128) (by omega)
    intro c hc
    rcases List.mem_cons.1 hc with rfl | hc
    · omega
    · exact this c hc
  · intro c hc
    rw [List.mem_singleton] at hc
    omega
  termination_by n.toNat
  decreasing_by omega
theorem canon : ∀ l : List Int, (∀ c ∈ l, 0 ≤ c ∧ c ≤ 255) → prop l → (nbL (valL l) = l ↔ (l.length = 1 ∨ 0 < lastD l))
  | [], _, h => h.elim
  | [c], h0, h => by
    simp only [prop] at h
    have := h0 c (by simp)
    have e : valL [c] = c := by simp only [valL]; omega
    rw [e, nbL, dif_neg (by omega)]
    simp
  | d :: c :: r, h0, h => by
    have ih := canon (c :: r) (fun x hx => h0 x (by simp [hx])) h.2
    have hd := h0 d (by simp)
    have hd2 := h.1
    have hw := valL_nn (c :: r)
    have el : lastD (d :: c :: r) = lastD (c :: r) := rfl
    rw [el]
    have ev : valL (d :: c :: r) = d % 128 + 128 * valL (c :: r) := rfl
    rw [ev]
    by_cases w0 : valL (c :: r) = 0
    · have l0 : ¬ 0 < lastD (c :: r) := fun hl => by
        have := prop_pos (c :: r) (fun x hx => (h0 x (by simp [hx])).1) h.2 hl
        omega
      rw [w0, nbL, dif_neg (by omega)]
      constructor
      · intro e
        have := congrArg List.length e
        simp at this
      · rintro (e | e)
        · simp at e
        · exact absurd e l0
    · have e1 : (d % 128 + 128 * valL (c :: r)) % 128 + 128 = d := by omega
      have e2 : (d % 128 + 128 * valL (c :: r)) / 128 = valL (c :: r) := by omega
      rw [nbL, dif_pos (by omega), e1, e2]
      constructor
      · intro e
        have e' : nbL (valL (c :: r)) = c :: r := (List.cons.inj e).2
        rcases ih.1 e' with hl | hl
        · have : r = [] := by simpa using hl
          subst this
          right
          have hp := h.2
          simp only [prop] at hp
          have hc := h0 c (by simp)
          simp only [valL] at w0
          simp only [lastD]
          omega
        · exact .inr hl
      · rintro (e | e)
        · simp at e
        · rw [ih.2 (.inr e)]
theorem strA_inj : ∀ {l m : List Int}, (∀ c ∈ l, 0 ≤ c ∧ c ≤ 255) → (∀ c ∈ m, 0 ≤ c ∧ c ≤ 255) → strA l = strA m → l = m := by
  have key : ∀ (l : List Int), (strA l).data.toList = l.map fun n => UInt8.ofNat n.toNat := by
    have k2 : ∀ (l : List Int) (s : ByteArray), (l.foldl (fun r n => r.push (UInt8.ofNat n.toNat)) s).data.toList = s.data.toList ++ l.map fun n => UInt8.ofNat n.toNat := by
      intro l
      induction l with
      | nil => intro s; simp
      | cons n r ih => intro s; simp only [List.foldl_cons, ih, List.map_cons]; simp [ByteArray.push]
    intro l
    unfold strA
    rw [k2]
    simp
  intro l m hl hm h
  have h2 := congrArg (fun s : ByteArray => s.data.toList) h
  simp only [key] at h2
  have inj : ∀ (l m : List Int), (∀ c ∈ l, 0 ≤ c ∧ c ≤ 255) → (∀ c ∈ m, 0 ≤ c ∧ c ≤ 255) → (l.map fun n => UInt8.ofNat n.toNat) = (m.map fun n => UInt8.ofNat n.toNat) → l = m := by
    intro l
    induction l with
    | nil => intro m _ _ h; cases m with
      | nil => rfl
      | cons _ _ => simp at h
    | cons a r ih => intro m h1 h2 h; cases m with
      | nil => simp at h
      | cons c s =>
        simp only [List.map_cons, List.cons.injEq] at h
        have a1 := h1 a (by simp)
        have c1 := h2 c (by simp)
        have e := congrArg UInt8.toNat h.1
        simp only [UInt8.toNat_ofNat'] at e
        rw [ih s (fun x hx => h1 x (by simp [hx])) (fun x hx => h2 x (by simp [hx])) h.2]
        congr 1
        omega
  exact inj l m hl hm h2
def fstB (b : ByteArray) (k : Nat) : List Int := (List.range k).map fun j => sAt b (j : Nat)
theorem fstB_succ (b : ByteArray) (k : Nat) : fstB b (k + 1) = fstB b k ++ [sAt b (k : Nat)] := by simp [fstB, List.range_succ]
theorem fstB_len (b : ByteArray) (k : Nat) : (fstB b k).length = k := by simp [fstB]
theorem fstB_in (b : ByteArray) (k : Nat) : ∀ c ∈ fstB b k, 0 ≤ c ∧ c ≤ 255 := by
  intro c hc
  obtain ⟨j, _, rfl⟩ := List.mem_map.1 hc
  exact sAt_in b _
theorem fstB_str (b : ByteArray) : ∀ k, k ≤ b.size → strA (fstB b k) = b.extract 0 k
  | 0, _ => by
    apply ByteArray.ext
    simp [fstB, strA, ByteArray.data_extract]
  | k + 1, h => by
    rw [fstB_succ, strA_app, fstB_str b k (by omega), strA_one b (by omega), ex_app b (by omega) (by omega)]
def nval (b : ByteArray) (k : Nat) : Int := valL (fstB b k)
theorem nval_succ (b : ByteArray) (k : Nat) : nval b (k + 1) = nval b k + sAt b (k : Nat) % 128 * 128 ^ k := by
  unfold nval
  rw [fstB_succ, valL_snoc, fstB_len]
theorem nval_nn (b : ByteArray) (k : Nat) : 0 ≤ nval b k := valL_nn _
theorem nval_lt (b : ByteArray) : ∀ k, nval b k < 128 ^ k
  | 0 => by simp [nval, fstB, valL]
  | k + 1 => by
    have h1 := nval_lt b k
    have h2 := sAt_in b (k : Nat)
    rw [nval_succ, Int.pow_succ]
    generalize sAt b (k : Nat) = c at h2 ⊢
    have h3 : c % 128 ≤ 127 := by omega
    have hp : (0 : Int) < 128 ^ k := Int.pow_pos (by decide)
    have h4 := Int.mul_le_mul_of_nonneg_right h3 (Int.le_of_lt hp)
    omega
def highs (b : ByteArray) (k : Nat) : Prop := ∀ j, j < k → 128 ≤ sAt b (j : Nat)
theorem fstB_prop {b : ByteArray} : ∀ {k : Nat}, highs b k → sAt b (k : Nat) < 128 → prop (fstB b (k + 1)) := by
  have key : ∀ (l : List Int) (c : Int), (∀ d ∈ l, 128 ≤ d) → c < 128 → prop (l ++ [c]) := by
    intro l
    induction l with
    | nil => intro c _ h; exact h
    | cons d r ih =>
      intro c h h2
      have := ih c (fun x hx => h x (by simp [hx])) h2
      cases r with
      | nil => exact ⟨h d (by simp), this⟩
      | cons e s => exact ⟨h d (by simp), this⟩
  intro k h1 h2
  rw [fstB_succ]
  refine key _ _ (fun d hd => ?_) h2
  obtain ⟨j, hj, rfl⟩ := List.mem_map.1 hd
  exact h1 j (by simpa using hj)
theorem lastD_snoc (c : Int) : ∀ l : List Int, lastD (l ++ [c]) = c
  | [] => rfl
  | [d] => rfl
  | d :: e :: r => by have := lastD_snoc c (e :: r); exact this
theorem prop_last : ∀ {l : List Int}, prop l → lastD l < 128
  | [], h => h.elim
  | [c], h => h
  | d :: c :: r, h => prop_last (l := c :: r) h.2
theorem num_eq {b : ByteArray} {k : Nat} (hk : k < b.size) (h1 : highs b k) (h2 : sAt b (k : Nat) < 128) : ((strA (nbL (nval b (k + 1)))).toList == (b.extract 0 (k + 1)).toList) = (decide (k = 0) || decide (0 < sAt b (k : Nat))) := by
  have hc := canon (fstB b (k + 1)) (fstB_in b _) (fstB_prop h1 h2)
  have hl : lastD (fstB b (k + 1)) = sAt b (k : Nat) := by rw [fstB_succ, lastD_snoc]
  rw [hl, fstB_len] at hc
  rw [← fstB_str b (k + 1) (by omega)]
  by_cases h : k = 0 ∨ 0 < sAt b (k : Nat)
  · have e := hc.2 (by omega)
    unfold nval
    rw [e]
    have : (decide (k = 0) || decide (0 < sAt b (k : Nat))) = true := by simpa using h
    rw [this]
    simp
  · have : (decide (k = 0) || decide (0 < sAt b (k : Nat))) = false := by simpa using h
    rw [this]
    rw [beq_eq_false_iff_ne]
    intro e
    have e2 : strA (nbL (nval b (k + 1))) = strA (fstB b (k + 1)) := by simpa [ByteArray.toList_eq, ByteArray.ext_iff] using e
    have e3 := strA_inj (nbL_in _ (nval_nn b _)) (fstB_in b _) e2
    have := hc.1 e3
    omega
theorem num_ne {b : ByteArray} {k : Nat} (hk : k < b.size) (h1 : highs b (k + 1)) : ((strA (nbL (nval b (k + 1)))).toList == (b.extract 0 (k + 1)).toList) = false := by
  rw [← fstB_str b (k + 1) (by omega), beq_eq_false_iff_ne]
  intro e
  have e2 : strA (nbL (nval b (k + 1))) = strA (fstB b (k + 1)) := by simpa [ByteArray.toList_eq, ByteArray.ext_iff] using e
  have e3 := strA_inj (nbL_in _ (nval_nn b _)) (fstB_in b _) e2
  have h3 := prop_last (nbL_prop (nval b (k + 1)) (nval_nn b _))
  rw [e3, fstB_succ, lastD_snoc] at h3
  have := h1 k (by omega)
  omega
def openZ (n : Int) : Int := if n % 2 = 0 then n / 2 else -((n + 1) / 2)
def foldZ (n : Int) : Int := if n < 0 then -2 * n - 1 else 2 * n
theorem fold_open {n : Int} (h : 0 ≤ n) : foldZ (openZ n) = n := by
  unfold foldZ openZ
  split <;> split <;> omega
def scan (b : ByteArray) : Nat → Nat → Option Nat
  | 0, _ => none
  | f + 1, k => if k < b.size then (if sAt b (k : Nat) < 128 then some k else scan b f (k + 1)) else none
def pNum (b : ByteArray) : Option (Int × Nat) := match scan b 5 0 with
  | none => none
  | some k => if (decide (nval b (k + 1) ≤ 2000000000) && (decide (k = 0) || decide (0 < sAt b (k : Nat)))) = true then some (openZ (nval b (k + 1)), k + 1) else none
end Go.AM
namespace Go.AM
set_option linter.unusedVariables false
set_option linter.unusedSimpArgs false
def m28 : MC :=
 (.seq (.reg [Xb 4 (.asg (.z #[])), Xb 5 (.asg (.i 0)), Xb 6 (.asg .fb)]) (.seq (.seq (.reg [Xm 8 1, Xm 9 0, Xq 10 (.len true (.t 9)), Xq 11 (.bin false .geq (.t 8) (.t 10))]) (.cond (.t 11) (.seq (.reg [Xb 4 (.asg (.z #[])), Xb 5 (.asg (.i 0)), Xb 6 (.asg .fb)]) .ret) .skip)) (.seq (.reg [Xm 12 1, Xq 13 (.bin false .add (.t 12) (.i 1)), Xm 14 0, Xm 15 1, Xq 16 (.idx (.t 14) (.t 15)), Xq 17 (.conv
 .i64 (.t 16)), Xq 18 (.bin false .add (.t 13) (.t 17)), Xa 7 18]) (.seq (.seq (.reg [Xm 19 7, Xm 20 0, Xq 21 (.len true (.t 20)), Xq 22 (.bin false .gtr (.t 19) (.t 21)), Xm 23 22, Xu 24 23 (.mov (.t 0)), Xu 25 23 (.mov (.t 1)), Xu 26 23 (.bin false .add (.t 25) (.i 1)), Xu 27 23 (.mov (.t 7)), Xu 28 23 (.slc true 1 (.t 24) (some (.t 26)) (some (.t 27))), XU 29 23 (.call (.fn 29) false [.lend (.t
 28)]), Xu 30 23 (.un .not (.t 29)), Xq 31 (.pick (.t 23) .tb (.t 30))]) (.cond (.t 31) (.seq (.reg [Xb 4 (.asg (.z #[])), Xb 5 (.asg (.i 0)), Xb 6 (.asg .fb)]) .ret) .skip)) (.seq (.reg [Xm 32 0, Xm 33 1, Xq 34 (.bin false .add (.t 33) (.i 1)), Xm 35 7, Xq 36 (.slc true 1 (.t 32) (some (.t 34)) (some (.t 35))), Xm 37 7, Xa 4 36, Xa 5 37, Xb 6 (.asg .tb)]) .ret)))))
set_option maxRecDepth 100000 in
theorem g28 (b : ByteArray) (a : Nat) (hz : b.size ≤ 3000) {nm : ByteArray} {to : Nat} (hp : pName b a = some (nm, to)) : Does Go.Proofs.Try.prog 28 [.v (.string b), .v (.int .i64 (a : Int))] false (.tup [.v (.string nm), .v (.int .i64 (to : Int)), .v (.bool true)]) [.dead, .dead] := by
  have hi := sAt_in b a
  unfold pName at hp
  split at hp
  · rename_i hc
    simp only [Option.some.injEq, Prod.mk.injEq] at hp
    obtain ⟨rfl, rfl⟩ := hp
    obtain ⟨n, hn⟩ : ∃ n : Nat, sAt b a = (n : Int) := ⟨(sAt b a).toNat, by omega⟩
    rw [hn, Int.toNat_natCast] at hc ⊢
    have d0 : decide ((b.size : Int) ≤ (a : Int)) = false := by simp; omega
    have d1 : decide ((b.size : Int) < (a : Int) + 1 + (n : Int)) = false := by simp; omega
    have h2 : (a : Int) < (b.size : Int) := by omega
    have w1 := w64 ((a : Int) + 1) (by omega)
    have w2 := w64 ((a : Int) + 1 + (n : Int)) (by omega)
    have w3 := w64 (n : Int) (by omega)
    have t1 : ((a : Int) + 1).toNat = a + 1 := by omega
    have t2 : ((a : Int) + 1 + (n : Int)).toNat = a + 1 + n := by omega
    have l0 : (0 : Int) ≤ (a : Int) + 1 := by omega
    have l1 : (a : Int) + 1 ≤ (a : Int) + 1 + (n : Int) := by omega
    have l2 : (a : Int) + 1 + (n : Int) ≤ (b.size : Int) := by omega
    have hnm := hc.2.2
    have hsz : ((b.extract (a + 1) (a + 1 + n)).size : Int) ≤ 9223372036854775807 := by have := nameOk_size hnm; omega
    have dn := d29 _ hsz
    rw [hnm] at dn
    refine does_intro (mc := m28) (N := 38) (rs := [4, 5, 6]) (fx := []) 2 rfl (by decide +kernel) ?_
    simp only [m28, d0, h2, hn, w1, w2, w3, d1, t1, t2, l0, l1, l2, evNr, EV, Nat.reduceEqDiff, Nat.reduceBEq, Nat.reduceLT, Nat.reduceLeDiff, Nat.reduceAdd, Nat.reduceSub, reduceIte]
    refine callK_i dn ?_
    simp only [w1, w2, t1, t2, d1, l0, l1, l2, evNr, EV, Nat.reduceEqDiff, Nat.reduceBEq, Nat.reduceLT, Nat.reduceLeDiff, Nat.reduceAdd, Nat.reduceSub, reduceIte]
    simp only [EV, Nat.reduceEqDiff, Nat.reduceBEq, Nat.reduceLT, Nat.reduceLeDiff, Nat.reduceAdd, Nat.reduceSub, reduceIte, evRE, retVC, cellV', evR, nfz, nfzs, nfzss, List.contains_nil, List.contains_cons, Bool.or_false, or_true]
    rfl
  · cases hp
set_option maxRecDepth 100000 in
theorem n28 (b : ByteArray) (a : Nat) (hz : b.size ≤ 3000) (hp : pName b a = none) : Does Go.Proofs.Try.prog 28 [.v (.string b), .v (.int .i64 (a : Int))] false (.tup [.v (.string ⟨#[]⟩), .v (.int .i64 0), .v (.bool false)]) [.dead, .dead] := by
  have hi := sAt_in b a
  unfold pName at hp
  obtain ⟨n, hn⟩ : ∃ n : Nat, sAt b a = (n : Int) := ⟨(sAt b a).toNat, by omega⟩
  rw [hn, Int.toNat_natCast] at hp
  refine does_intro (mc := m28) (N := 38) (rs := [4, 5, 6]) (fx := []) 2 rfl (by decide +kernel) ?_
  simp only [m28, evNr, EV, Nat.reduceEqDiff, Nat.reduceBEq, Nat.reduceLT, Nat.reduceLeDiff, Nat.reduceAdd, Nat.reduceSub, reduceIte]
  rcases d0 : decide ((b.size : Int) ≤ (a : Int)) with _ | _
  rotate_left
  · simp only [evNr, EV, Nat.reduceEqDiff, Nat.reduceBEq, Nat.reduceLT, Nat.reduceLeDiff, Nat.reduceAdd, Nat.reduceSub, reduceIte]
    simp only [EV, Nat.reduceEqDiff, Nat.reduceBEq, Nat.reduceLT, Nat.reduceLeDiff, Nat.reduceAdd, Nat.reduceSub, reduceIte, evRE, retVC, cellV', evR, nfz, nfzs, nfzss, List.contains_nil, List.contains_cons, Bool.or_false, or_true]
  have h2 : (a : Int) < (b.size : Int) := by have : ¬ (b.size : Int) ≤ (a : Int) := by simpa using d0
                                             omega
  have w1 := w64 ((a : Int) + 1) (by omega)
  have w2 := w64 ((a : Int) + 1 + (n : Int)) (by omega)
  have w3 := w64 (n : Int) (by omega)
  have t1 : ((a : Int) + 1).toNat = a + 1 := by omega
  have t2 : ((a : Int) + 1 + (n : Int)).toNat = a + 1 + n := by omega
  simp only [h2, hn, w1, w2, w3, evNr, EV, Nat.reduceEqDiff, Nat.reduceBEq, Nat.reduceLT, Nat.reduceLeDiff, Nat.reduceAdd, Nat.reduceSub, reduceIte]
  rcases d1 : decide ((b.size : Int) < (a : Int) + 1 + (n : Int)) with _ | _
  rotate_left
  · simp only [evNr, EV, Nat.reduceEqDiff, Nat.reduceBEq, Nat.reduceLT, Nat.reduceLeDiff, Nat.reduceAdd, Nat.reduceSub, reduceIte]
    simp only [EV, Nat.reduceEqDiff, Nat.reduceBEq, Nat.reduceLT, Nat.reduceLeDiff, Nat.reduceAdd, Nat.reduceSub, reduceIte, evRE, retVC, cellV', evR, nfz, nfzs, nfzss, List.contains_nil, List.contains_cons, Bool.or_false, or_true]
  have hle : a + 1 + n ≤ b.size := by have : ¬ (b.size : Int) < (a : Int) + 1 + (n : Int) := by simpa using d1
                                      omega
  have hnm : nameOk (b.extract (a + 1) (a + 1 + n)) = false := by
    rcases e : nameOk (b.extract (a + 1) (a + 1 + n)) with _ | _
    · rfl
    · rw [if_pos ⟨by omega, hle, e⟩] at hp; cases hp
  have l0 : (0 : Int) ≤ (a : Int) + 1 := by omega
  have l1 : (a : Int) + 1 ≤ (a : Int) + 1 + (n : Int) := by omega
  have l2 : (a : Int) + 1 + (n : Int) ≤ (b.size : Int) := by omega
  have hsz : ((b.extract (a + 1) (a + 1 + n)).size : Int) ≤ 9223372036854775807 := by rw [ex_size b hle]; omega
  have dn := d29 _ hsz
  rw [hnm] at dn
  simp only [w1, w2, t1, t2, l0, l1, l2, evNr, EV, Nat.reduceEqDiff, Nat.reduceBEq, Nat.reduceLT, Nat.reduceLeDiff, Nat.reduceAdd, Nat.reduceSub, reduceIte]
  refine callK_i dn ?_
  simp only [w1, w2, t1, t2, d1, l0, l1, l2, evNr, EV, Nat.reduceEqDiff, Nat.reduceBEq, Nat.reduceLT, Nat.reduceLeDiff, Nat.reduceAdd, Nat.reduceSub, reduceIte]
  simp only [EV, Nat.reduceEqDiff, Nat.reduceBEq, Nat.reduceLT, Nat.reduceLeDiff, Nat.reduceAdd, Nat.reduceSub, reduceIte, evRE, retVC, cellV', evR, nfz, nfzs, nfzss, List.contains_nil, List.contains_cons, Bool.or_false, or_true]
def m15 : MC :=
 (.seq (.reg [Xb 4 (.asg (.z #[]))]) (.seq (.seq (.reg [Xm 8 0, Xq 9 (.nilchk (.t 8)), Xf 10 2 9, Xl 11 1 10, Xq 12 (.bin false .geq (.t 11) (.i 0))]) (.cond (.t 12) (.seq (.reg [Xb 4 (.asg (.z #[]))]) .ret) .skip)) (.seq (.seq (.dreg [Xm 13 1, Xm 14 13, Xt 15 14 (.mov (.t 0)), Xt 16 14 (.nilchk (.t 15)), Xt 17 14 (.fad 1 (.t 16)), Xt 18 14 (.load false 1 (.t 17)), Xt 19 14 (.mov (.t 0)), Xt 20 14
 (.nilchk (.t 19)), Xt 21 14 (.fad 0 (.t 20)), Xt 22 14 (.load false 1 (.t 21)), Xt 23 14 (.len true (.t 22)), Xt 24 14 (.bin false .lss (.t 18) (.t 23)), Xq 25 (.pick (.t 14) (.t 24) .fb), Xm 26 25, Xt 27 26 (.mov (.t 0)), Xt 28 26 (.nilchk (.t 27)), Xt 29 26 (.fad 0 (.t 28)), Xt 30 26 (.load false 1 (.t 29)), Xt 31 26 (.mov (.t 0)), Xt 32 26 (.nilchk (.t 31)), Xt 33 26 (.fad 1 (.t 32)), Xt 34 26
 (.load false 1 (.t 33)), Xt 35 26 (.idx (.t 30) (.t 34)), Xt 36 26 (.bin false .eql (.t 35) (.c (.int .u8 0))), Xq 37 (.pick (.t 26) (.t 36) .fb)]) (.cond (.t 37) (.seq (.reg [Xm 38 0, Xq 39 (.nilchk (.t 38)), Xf 40 1 39, Xl 41 1 40, Xq 42 (.bin false .add (.t 41) (.i 1)), Xq 43 (.nilchk (.t 38)), Xf 44 1 43, Xz (.store 1 (.t 44) (.t 42))]) (.seq (.reg [Xb 4 (.asg (.z #[]))]) .ret)) .skip)) (.seq
 (.mixt [] [0, 5, 6, 7] [] [] [] [] (.step 0 (Xm 46 0) (.step 1 (Xq 47 (.nilchk (.t 46))) (.step 2 (Xf 48 0 47) (.step 4 (Xm 50 0) (.step 5 (Xq 51 (.nilchk (.t 50))) (.step 6 (Xf 52 1 51) (.alt (.step 3 (Xl 49 1 48) (.step 7 (Xl 53 1 52) (.step 8 (Xb 54 (.call (.fn 28) false [.lend (.t 49), .lend (.t 53)])) (.step 9 (Xm 45 54) (.step 10 (Xq 55 (.ext 45 0)) (.step 11 (Xq 56 (.ext 45 1)) (.step 12
 (Xq 57 (.ext 45 2)) (.step 13 (Xa 5 55) (.step 14 (Xa 6 56) (.step 15 (Xa 7 57) .nil)))))))))) (.step 7 (Xl 53 1 52) (.step 3 (Xl 49 1 48) (.step 8 (Xb 54 (.call (.fn 28) false [.lend (.t 49), .lend (.t 53)])) (.step 9 (Xm 45 54) (.step 10 (Xq 55 (.ext 45 0)) (.step 11 (Xq 56 (.ext 45 1)) (.step 12 (Xq 57 (.ext 45 2)) (.step 13 (Xa 5 55) (.step 14 (Xa 6 56) (.step 15 (Xa 7 57)
 .nil)))))))))))))))))) (.seq (.seq (.reg [Xm 58 7, Xq 59 (.un .not (.t 58))]) (.cond (.t 59) (.seq (.reg [Xm 60 0, Xm 61 0, Xq 62 (.nilchk (.t 61)), Xf 63 1 62, Xl 64 1 63, Xb 65 (.call (.fn 27) false [.io (.t 60), .lend (.t 64)])]) (.seq (.reg [Xb 4 (.asg (.z #[]))]) .ret)) .skip)) (.seq (.reg [Xm 66 0, Xm 67 6, Xq 68 (.nilchk (.t 66)), Xf 69 1 68, Xz (.store 1 (.t 69) (.t 67))]) (.seq (.reg [Xm
 70 5, Xa 4 70]) .ret)))))))
set_option maxRecDepth 100000 in
set_option maxHeartbeats 1000000 in
theorem g15 (b : ByteArray) (a : Nat) (hz : b.size ≤ 3000) {nm : ByteArray} {to : Nat} (hp : pName b a = some (nm, to)) : Does Go.Proofs.Try.prog 15 [.box 40 (zO b a (-1)), .v (.bool false)] false (.v (.string nm)) [.box 40 (zO b to (-1)), .dead] := by
  have d0 : decide ((0 : Int) ≤ -1) = false := rfl
  refine does_intro (mc := m15) (N := 71) (rs := [4]) (fx := [0]) 2 rfl (by decide +kernel) ?_
  simp only [m15, zO, d0, evNr, EV, Nat.reduceEqDiff, Nat.reduceBEq, Nat.reduceLT, Nat.reduceLeDiff, Nat.reduceAdd, Nat.reduceSub, reduceIte]
  have dr := g28 b a hz hp
  repeat' first | (refine callK_i dr ?_; simp only [evNr, EV, Nat.reduceEqDiff, Nat.reduceBEq, Nat.reduceLT, Nat.reduceLeDiff, Nat.reduceAdd, Nat.reduceSub, reduceIte]) | refine And.intro ?_ ?_
  all_goals simp only [EV, Nat.reduceEqDiff, Nat.reduceBEq, Nat.reduceLT, Nat.reduceLeDiff, Nat.reduceAdd, Nat.reduceSub, reduceIte, evRE, retVC, cellV', evR, nfz, nfzs, nfzss, List.contains_nil, List.contains_cons, Bool.or_false, or_true]
set_option maxRecDepth 100000 in
set_option maxHeartbeats 1000000 in
theorem n15 (b : ByteArray) (a : Nat) (hz : b.size ≤ 3000) (hp : pName b a = none) : Does Go.Proofs.Try.prog 15 [.box 40 (zO b a (-1)), .v (.bool false)] false (.v (.string ⟨#[]⟩)) [.box 40 (zO b a (a : Int)), .dead] := by
  have d0 : decide ((0 : Int) ≤ -1) = false := rfl
  have df := d27 b a (-1) a
  rw [if_pos (by decide)] at df
  refine does_intro (mc := m15) (N := 71) (rs := [4]) (fx := [0]) 2 rfl (by decide +kernel) ?_
  simp only [m15, zO, d0, evNr, EV, Nat.reduceEqDiff, Nat.reduceBEq, Nat.reduceLT, Nat.reduceLeDiff, Nat.reduceAdd, Nat.reduceSub, reduceIte]
  have dr := n28 b a hz hp
  repeat' first | (refine callK_i dr ?_; simp only [evNr, EV, Nat.reduceEqDiff, Nat.reduceBEq, Nat.reduceLT, Nat.reduceLeDiff, Nat.reduceAdd, Nat.reduceSub, reduceIte]) | (refine callK2_i df rfl rfl ?_; simp only [zO, evNr, EV, Nat.reduceEqDiff, Nat.reduceBEq, Nat.reduceLT, Nat.reduceLeDiff, Nat.reduceAdd, Nat.reduceSub, reduceIte]) | refine And.intro ?_ ?_
  all_goals simp only [EV, Nat.reduceEqDiff, Nat.reduceBEq, Nat.reduceLT, Nat.reduceLeDiff, Nat.reduceAdd, Nat.reduceSub, reduceIte, evRE, retVC, cellV', evR, nfz, nfzs, nfzss, List.contains_nil, List.contains_cons, Bool.or_false, or_true]
set_option maxRecDepth 100000 in
set_option maxHeartbeats 1000000 in
theorem b15 (b : ByteArray) (a : Nat) (bad : Int) (hb : 0 ≤ bad) : Does Go.Proofs.Try.prog 15 [.box 40 (zO b a bad), .v (.bool false)] false (.v (.string ⟨#[]⟩)) [.box 40 (zO b a bad), .dead] := by
  have d0 : decide ((0 : Int) ≤ bad) = true := by simpa using hb
  refine does_intro (mc := m15) (N := 71) (rs := [4]) (fx := [0]) 2 rfl (by decide +kernel) ?_
  simp only [m15, zO, d0, evNr, EV, Nat.reduceEqDiff, Nat.reduceBEq, Nat.reduceLT, Nat.reduceLeDiff, Nat.reduceAdd, Nat.reduceSub, reduceIte]
  simp only [EV, Nat.reduceEqDiff, Nat.reduceBEq, Nat.reduceLT, Nat.reduceLeDiff, Nat.reduceAdd, Nat.reduceSub, reduceIte, evRE, retVC, cellV', evR, nfz, nfzs, nfzss, List.contains_nil, List.contains_cons, Bool.or_false, or_true]
end Go.AM
namespace Go.AM
set_option linter.unusedVariables false
set_option linter.unusedSimpArgs false
theorem wraps_u8 (n : Int) (h₀ : 0 ≤ n) (h₁ : n < 2 ^ 8) : IntKind.u8.wrap n = n := by rw [IntKind.wrap_u8]; omega
theorem and127u (x : Int) (h0 : 0 ≤ x) (h1 : x ≤ 255) : bits .and .u8 x 127 = x % 128 := bits_mask .u8 8 (by decide) wraps_u8 7 (by decide) x h0 (by omega)
theorem or_num {k : Nat} (hk : k < 5) {n c : Int} (h0 : 0 ≤ n) (h1 : n < 128 ^ k) (c0 : 0 ≤ c) (c1 : c ≤ 127) : bits .or .i64 n (IntKind.i64.wrap (c * 2 ^ (min ((7 * (k : Int)).toNat) IntKind.i64.bits))) = n + c * 128 ^ k := by
  have hb : IntKind.i64.bits = 64 := rfl
  have h5 : k = 0 ∨ k = 1 ∨ k = 2 ∨ k = 3 ∨ k = 4 := by omega
  rcases h5 with rfl | rfl | rfl | rfl | rfl
  · have e : min ((7 * ((0 : Nat) : Int)).toNat) IntKind.i64.bits = 0 := rfl
    rw [e, wraps_i64 _ (by omega) (by omega)]
    exact bits_join_low .i64 63 (by decide) wraps_i64 0 n (c * 2 ^ 0) h0 (by omega) (by omega) (by omega) (by omega) (by omega)
  · have e : min ((7 * ((1 : Nat) : Int)).toNat) IntKind.i64.bits = 7 := rfl
    rw [e, wraps_i64 _ (by omega) (by omega)]
    exact bits_join_low .i64 63 (by decide) wraps_i64 7 n (c * 2 ^ 7) h0 (by omega) (by omega) (by omega) (by omega) (by omega)
  · have e : min ((7 * ((2 : Nat) : Int)).toNat) IntKind.i64.bits = 14 := rfl
    rw [e, wraps_i64 _ (by omega) (by omega)]
    exact bits_join_low .i64 63 (by decide) wraps_i64 14 n (c * 2 ^ 14) h0 (by omega) (by omega) (by omega) (by omega) (by omega)
  · have e : min ((7 * ((3 : Nat) : Int)).toNat) IntKind.i64.bits = 21 := rfl
    rw [e, wraps_i64 _ (by omega) (by omega)]
    exact bits_join_low .i64 63 (by decide) wraps_i64 21 n (c * 2 ^ 21) h0 (by omega) (by omega) (by omega) (by omega) (by omega)
  · have e : min ((7 * ((4 : Nat) : Int)).toNat) IntKind.i64.bits = 28 := rfl
    rw [e, wraps_i64 _ (by omega) (by omega)]
    exact bits_join_low .i64 63 (by decide) wraps_i64 28 n (c * 2 ^ 28) h0 (by omega) (by omega) (by omega) (by omega) (by omega)
theorem scan_step {b : ByteArray} {k : Nat} (h : k < 5) : scan b (5 - k) k = if k < b.size then (if sAt b (k : Nat) < 128 then some k else scan b (5 - (k + 1)) (k + 1)) else none := by
  have e : 5 - k = (5 - (k + 1)) + 1 := by omega
  rw [e, scan]
theorem nval_big (b : ByteArray) {k : Nat} (h : k ≤ 5) : nval b k < 34359738368 := by
  have h1 := nval_lt b k
  have h6 : k = 0 ∨ k = 1 ∨ k = 2 ∨ k = 3 ∨ k = 4 ∨ k = 5 := by omega
  rcases h6 with rfl | rfl | rfl | rfl | rfl | rfl <;> omega
theorem pow_big {k : Nat} (h : k ≤ 5) : (1 : Int) ≤ 128 ^ k ∧ (128 : Int) ^ k ≤ 34359738368 := by
  have h6 : k = 0 ∨ k = 1 ∨ k = 2 ∨ k = 3 ∨ k = 4 ∨ k = 5 := by omega
  rcases h6 with rfl | rfl | rfl | rfl | rfl | rfl <;> omega
def m34 : MC :=
 (.seq (.reg [Xb 2 (.asg (.i 0))]) (.seq (.seq (.reg [Xm 3 0, Xq 4 (.bin false .rem (.t 3) (.i 2)), Xq 5 (.bin false .eql (.t 4) (.i 0))]) (.cond (.t 5) (.seq (.reg [Xm 6 0, Xq 7 (.bin false .quo (.t 6) (.i 2)), Xa 2 7]) .ret) .skip)) (.seq (.reg [Xm 8 0, Xq 9 (.bin false .add (.t 8) (.i 1)), Xq 10 (.un .neg (.t 9)), Xq 11 (.bin false .quo (.t 10) (.i 2)), Xa 2 11]) .ret)))
theorem d34 (n : Int) (h0 : 0 ≤ n) (h1 : n ≤ 100000000000) : Does Go.Proofs.Try.prog 34 [.v (.int .i64 n)] false (.v (.int .i64 (openZ n))) [.dead] := by
  have e1 : n.tmod 2 = n % 2 := Int.tmod_eq_emod_of_nonneg h0
  have e2 : n.tdiv 2 = n / 2 := Int.tdiv_eq_ediv_of_nonneg h0
  have w0 := w64 (n % 2) (by omega)
  have w1 := w64 (n / 2) (by omega)
  have w2 := w64 (n + 1) (by omega)
  have w3 := w64 (-(n + 1)) (by omega)
  have e3 : (-(n + 1)).tdiv 2 = -((n + 1) / 2) := by rw [Int.neg_tdiv, Int.tdiv_eq_ediv_of_nonneg (by omega)]
  have w4 := w64 (-((n + 1) / 2)) (by omega)
  refine does_intro (mc := m34) (N := 12) (rs := [2]) (fx := []) 1 rfl (by decide +kernel) ?_
  simp only [m34, e1, e2, w0, w1, w2, w3, e3, w4, EV, Nat.reduceEqDiff, Nat.reduceBEq, Nat.reduceLT, Nat.reduceLeDiff, Nat.reduceAdd, Nat.reduceSub, reduceIte]
  rcases e : (n % 2 == 0) with _ | _
  · have hn : ¬ n % 2 = 0 := by simpa using e
    have eo : openZ n = -((n + 1) / 2) := by unfold openZ; rw [if_neg hn]
    simp only [e1, e2, w0, w1, w2, w3, e3, w4, EV, Nat.reduceEqDiff, Nat.reduceBEq, Nat.reduceLT, Nat.reduceLeDiff, Nat.reduceAdd, Nat.reduceSub, reduceIte]
    simp only [eo, w0, w1, w2, w3, e3, w4, EV, Nat.reduceEqDiff, Nat.reduceBEq, Nat.reduceLT, Nat.reduceLeDiff, Nat.reduceAdd, Nat.reduceSub, reduceIte, evRE, retVC, cellV', evR, nfz, nfzs, nfzss, List.contains_nil, List.contains_cons, Bool.or_false, or_true]
    rw [Int.zero_sub, w3, e3, w4]
    exact ⟨by decide, by decide, rfl⟩
  · have hn : n % 2 = 0 := by simpa using e
    have eo : openZ n = n / 2 := by unfold openZ; rw [if_pos hn]
    simp only [e1, e2, w0, w1, w2, w3, e3, w4, EV, Nat.reduceEqDiff, Nat.reduceBEq, Nat.reduceLT, Nat.reduceLeDiff, Nat.reduceAdd, Nat.reduceSub, reduceIte]
    simp only [eo, e2, w0, w1, w2, w3, e3, w4, EV, Nat.reduceEqDiff, Nat.reduceBEq, Nat.reduceLT, Nat.reduceLeDiff, Nat.reduceAdd, Nat.reduceSub, reduceIte, evRE, retVC, cellV', evR, nfz, nfzs, nfzss, List.contains_nil, List.contains_cons, Bool.or_false, or_true]
    try omega
def m21 : MC :=
 (.seq (.reg [Xb 2 (.asg (.i 0))]) (.seq (.seq (.reg [Xm 3 0, Xq 4 (.bin false .rem (.t 3) (.i 2)), Xq 5 (.bin false .eql (.t 4) (.i 1))]) (.cond (.t 5) (.seq (.reg [Xm 6 0, Xq 7 (.bin false .add (.t 6) (.i 1)), Xq 8 (.un .neg (.t 7)), Xq 9 (.bin false .quo (.t 8) (.i 2)), Xa 2 9]) .ret) .skip)) (.seq (.reg [Xm 10 0, Xq 11 (.bin false .quo (.t 10) (.i 2)), Xa 2 11]) .ret)))
theorem d21 (n : Int) (h0 : 0 ≤ n) (h1 : n ≤ 100000000000) : Does Go.Proofs.Try.prog 21 [.v (.int .i64 n)] false (.v (.int .i64 (openZ n))) [.dead] := by
  have e1 : n.tmod 2 = n % 2 := Int.tmod_eq_emod_of_nonneg h0
  have e2 : n.tdiv 2 = n / 2 := Int.tdiv_eq_ediv_of_nonneg h0
  have w0 := w64 (n % 2) (by omega)
  have w1 := w64 (n / 2) (by omega)
  have w2 := w64 (n + 1) (by omega)
  have w3 := w64 (-(n + 1)) (by omega)
  have e3 : (-(n + 1)).tdiv 2 = -((n + 1) / 2) := by rw [Int.neg_tdiv, Int.tdiv_eq_ediv_of_nonneg (by omega)]
  have w4 := w64 (-((n + 1) / 2)) (by omega)
  refine does_intro (mc := m21) (N := 12) (rs := [2]) (fx := []) 1 rfl (by decide +kernel) ?_
  simp only [m21, e1, e2, w0, w1, w2, w3, e3, w4, EV, Nat.reduceEqDiff, Nat.reduceBEq, Nat.reduceLT, Nat.reduceLeDiff, Nat.reduceAdd, Nat.reduceSub, reduceIte]
  rcases e : (n % 2 == 1) with _ | _
  · have hn : ¬ n % 2 = 1 := by simpa using e
    have eo : openZ n = n / 2 := by unfold openZ; rw [if_pos (by omega)]
    simp only [e1, e2, w0, w1, w2, w3, e3, w4, EV, Nat.reduceEqDiff, Nat.reduceBEq, Nat.reduceLT, Nat.reduceLeDiff, Nat.reduceAdd, Nat.reduceSub, reduceIte]
    simp only [eo, e2, w0, w1, w2, w3, e3, w4, EV, Nat.reduceEqDiff, Nat.reduceBEq, Nat.reduceLT, Nat.reduceLeDiff, Nat.reduceAdd, Nat.reduceSub, reduceIte, evRE, retVC, cellV', evR, nfz, nfzs, nfzss, List.contains_nil, List.contains_cons, Bool.or_false, or_true]
    try omega
  · have hn : n % 2 = 1 := by simpa using e
    have eo : openZ n = -((n + 1) / 2) := by unfold openZ; rw [if_neg (by omega)]
    simp only [e1, e2, w0, w1, w2, w3, e3, w4, EV, Nat.reduceEqDiff, Nat.reduceBEq, Nat.reduceLT, Nat.reduceLeDiff, Nat.reduceAdd, Nat.reduceSub, reduceIte]
    simp only [eo, w0, w1, w2, w3, e3, w4, EV, Nat.reduceEqDiff, Nat.reduceBEq, Nat.reduceLT, Nat.reduceLeDiff, Nat.reduceAdd, Nat.reduceSub, reduceIte, evRE, retVC, cellV', evR, nfz, nfzs, nfzss, List.contains_nil, List.contains_cons, Bool.or_false, or_true]
    rw [Int.zero_sub, w3, e3, w4]
    exact ⟨by decide, by decide, rfl⟩
theorem q32 (n : Int) (h0 : -2000000000 ≤ n) (h1 : n ≤ 2000000000) : Does Go.Proofs.Try.prog 32 [.v (.int .i64 n)] false (.v (.int .i64 (foldZ n))) [.dead] := by
  refine does_intro (mc := m32) (N := 10) (rs := [2]) (fx := []) 1 rfl (by decide +kernel) ?_
  simp only [m32, EV, Nat.reduceEqDiff, Nat.reduceBEq, Nat.reduceLT, Nat.reduceLeDiff, Nat.reduceAdd, Nat.reduceSub, reduceIte]
  refine cK_cut (fun h => ?_) (fun h => ?_)
  · have hn : n < 0 := by simpa using h
    have w1 := w64 (-2 * n) (by omega)
    have w2 := w64 (-2 * n - 1) (by omega)
    have eo : foldZ n = -2 * n - 1 := by unfold foldZ; rw [if_pos hn]
    simp only [w1, w2, EV, Nat.reduceEqDiff, Nat.reduceBEq, Nat.reduceLT, Nat.reduceLeDiff, Nat.reduceAdd, Nat.reduceSub, reduceIte]
    simp only [eo, w1, w2, EV, Nat.reduceEqDiff, Nat.reduceBEq, Nat.reduceLT, Nat.reduceLeDiff, Nat.reduceAdd, Nat.reduceSub, reduceIte, evRE, retVC, cellV', evR, nfz, nfzs, nfzss, List.contains_nil, List.contains_cons, Bool.or_false, or_true]
  · have hn : ¬ n < 0 := by simpa using h
    have eo : foldZ n = 2 * n := by unfold foldZ; rw [if_neg hn]
    simp only [EV, Nat.reduceEqDiff, Nat.reduceBEq, Nat.reduceLT, Nat.reduceLeDiff, Nat.reduceAdd, Nat.reduceSub, reduceIte]
    rw [w64 _ (by omega)]
    simp only [eo, EV, Nat.reduceEqDiff, Nat.reduceBEq, Nat.reduceLT, Nat.reduceLeDiff, Nat.reduceAdd, Nat.reduceSub, reduceIte, evRE, retVC, cellV', evR, nfz, nfzs, nfzss, List.contains_nil, List.contains_cons, Bool.or_false, or_true]
theorem q20 (n0 : Int) (h0 : -2000000000 ≤ n0) (h1 : n0 ≤ 2000000000) : Does Go.Proofs.Try.prog 20 [.v (.int .i64 n0)] false (.v (.string (strA (nbL (foldZ n0))))) [.dead] := by
  obtain ⟨m0, hm⟩ : ∃ m, foldZ n0 = m := ⟨_, rfl⟩
  have hm0 : 0 ≤ m0 ∧ m0 ≤ 4000000000 := by rw [← hm]; unfold foldZ; split <;> omega
  have df := q32 n0 h0 h1
  rw [hm] at df ⊢
  refine does_intro (mc := m20) (N := 23) (rs := [2]) (fx := []) 1 rfl (by decide +kernel) ?_
  simp only [m20, EV, Nat.reduceEqDiff, Nat.reduceBEq, Nat.reduceLT, Nat.reduceLeDiff, Nat.reduceAdd, Nat.reduceSub, reduceIte]
  refine callK_i df ?_
  simp only [EV, Nat.reduceEqDiff, Nat.reduceBEq, Nat.reduceLT, Nat.reduceLeDiff, Nat.reduceAdd, Nat.reduceSub, reduceIte]
  refine awp_loop (fun p : List Int × Int => p.1 ++ nbL p.2 = nbL m0 ∧ 0 ≤ p.2 ∧ p.2 ≤ m0 ∧ (p.1.length : Int) + p.2 ≤ m0) (fun p => stl [(0, .v (.int .i64 p.2)), (3, .usl 5 1 (p.1.map bR)), (16, .dead)]) (fun p => p.2.toNat) ([], m0) ⟨rfl, by simp only; omega, by simp only; omega, by simp⟩ ?_ ?_
  · simp only [EV, Nat.reduceEqDiff, Nat.reduceBEq, Nat.reduceLT, Nat.reduceLeDiff, Nat.reduceAdd, Nat.reduceSub, reduceIte]
  · rintro ⟨ns, n⟩ ⟨p0, p1, p2, p3⟩
    simp only at p0 p1 p2 p3
    simp only [EV, Nat.reduceEqDiff, Nat.reduceBEq, Nat.reduceLT, Nat.reduceLeDiff, Nat.reduceAdd, Nat.reduceSub, reduceIte]
    refine cK_cut (fun h => ?_) (fun h => ?_)
    · have h2 : 128 ≤ n := by simpa using h
      simp only [EV, Nat.reduceEqDiff, Nat.reduceBEq, Nat.reduceLT, Nat.reduceLeDiff, Nat.reduceAdd, Nat.reduceSub, reduceIte]
      have et : n.tdiv 128 = n / 128 := Int.tdiv_eq_ediv_of_nonneg p1
      have em : n.tmod 128 = n % 128 := Int.tmod_eq_emod_of_nonneg p1
      have w1 := w64 (n / 128) (by omega)
      have w2 := w64 (n % 128 + 128) (by omega)
      have eu : IntKind.u8.wrap (n % 128 + 128) = n % 128 + 128 := by rw [IntKind.wrap_u8]; omega
      have e : nbL n = (n % 128 + 128) :: nbL (n / 128) := by rw [nbL, dif_pos h2]
      rw [et, em, w1, w2, eu, map_snoc]
      refine ⟨by decide, by omega, by omega, by decide, (ns ++ [n % 128 + 128], n / 128), ⟨?_, by simp only; omega, by simp only; omega, ?_⟩, by simp only; omega, rfl⟩
      · rw [← p0, e]; simp
      · simp only [List.length_append, List.length_cons, List.length_nil]; omega
    · have h2 : ¬ 128 ≤ n := by simpa using h
      simp only [EV, Nat.reduceEqDiff, Nat.reduceBEq, Nat.reduceLT, Nat.reduceLeDiff, Nat.reduceAdd, Nat.reduceSub, reduceIte]
      have eu : IntKind.u8.wrap n = n := by rw [IntKind.wrap_u8]; omega
      have e : nbL n = [n] := by rw [nbL, dif_neg h2]
      rw [e] at p0
      refine ⟨by omega, by omega, ?_⟩
      rw [eu, map_snoc, bR_frz, bytesA_map, p0]
      simp only [EV, Nat.reduceEqDiff, Nat.reduceBEq, Nat.reduceLT, Nat.reduceLeDiff, Nat.reduceAdd, Nat.reduceSub, reduceIte, evRE, retVC, cellV', evR, nfz, nfzs, nfzss, List.contains_nil, List.contains_cons, Bool.or_false, or_true]
def rN (b : ByteArray) : Int × Int × Bool := match scan b 5 0 with
  | none => (0, 0, false)
  | some k => (openZ (nval b (k + 1)), (k : Int) + 1, decide (nval b (k + 1) ≤ 2000000000) && (decide (k = 0) || decide (0 < sAt b (k : Nat))))
def m25 : MC :=
 (.seq (.reg [Xb 4 (.asg (.i 0)), Xb 5 (.asg (.i 0)), Xb 6 (.asg .fb)]) (.seq (.reg [Xb 7 (.asg (.i 0))]) (.seq (.seq (.reg [Xb 8 (.asg (.i 0))]) (.block 0 (.loop [0, 1, 7, 8] (.seq (.seq (.reg [Xm 10 8, Xq 11 (.bin false .lss (.t 10) (.i 5)), Xm 12 11, Xt 13 12 (.mov (.t 1)), Xt 14 12 (.mov (.t 8)), Xt 15 12 (.bin false .add (.t 13) (.t 14)), Xt 16 12 (.mov (.t 0)), Xt 17 12 (.len true (.t 16)),
 Xt 18 12 (.bin false .lss (.t 15) (.t 17)), Xq 19 (.pick (.t 12) (.t 18) .fb)]) (.cond (.t 19) .skip (.exit 0))) (.seq (.block 1 (.seq (.reg [Xm 22 0, Xm 23 1, Xm 24 8, Xq 25 (.bin false .add (.t 23) (.t 24)), Xq 26 (.idx (.t 22) (.t 25)), Xa 9 26]) (.seq (.reg [Xm 27 7, Xm 28 9, Xq 29 (.bin false .and (.t 28) (.c (.int .u8 127))), Xq 30 (.conv .i64 (.t 29)), Xm 31 8, Xq 32 (.bin false .mul (.i 7)
 (.t 31)), Xq 33 (.bin false .shl (.t 30) (.t 32)), Xq 34 (.bin false .or (.t 27) (.t 33)), Xa 7 34]) (.seq (.reg [Xm 35 9, Xq 36 (.bin false .lss (.t 35) (.c (.int .u8 128)))]) (.cond (.t 36) (.seq (.reg [Xm 37 7, Xb 38 (.call (.fn 34) false [.lend (.t 37)]), Xm 39 1, Xm 40 8, Xq 41 (.bin false .add (.t 39) (.t 40)), Xq 42 (.bin false .add (.t 41) (.i 1)), Xm 43 7, Xq 44 (.bin false .leq (.t 43)
 (.i 2000000000)), Xm 45 44, Xt 46 45 (.mov (.t 8)), Xt 47 45 (.bin false .eql (.t 46) (.i 0)), Xt 48 45 (.mov (.t 47)), Xu 49 48 (.mov (.t 9)), Xu 50 48 (.bin false .gtr (.t 49) (.c (.int .u8 0))), Xt 51 45 (.pick (.t 48) .tb (.t 50)), Xq 52 (.pick (.t 45) (.t 51) .fb), Xa 4 38, Xa 5 42, Xa 6 52]) .ret) .skip))))) (.reg [Xm 20 8, Xq 21 (.bin false .add (.t 20) (.i 1)), Xa 8 21])))))) (.seq (.reg
 [Xb 4 (.asg (.i 0)), Xb 5 (.asg (.i 0)), Xb 6 (.asg .fb)]) .ret))))
set_option maxHeartbeats 1000000 in
set_option maxRecDepth 100000 in
theorem d25 (b : ByteArray) (hz : b.size ≤ 3000) : Does Go.Proofs.Try.prog 25 [.v (.string b), .v (.int .i64 0)] false (.tup [.v (.int .i64 (rN b).1), .v (.int .i64 (rN b).2.1), .v (.bool (rN b).2.2)]) [.dead, .dead] := by
  refine does_intro (mc := m25) (N := 53) (rs := [4, 5, 6]) (fx := []) 2 rfl (by decide +kernel) ?_
  simp only [m25, EV, Nat.reduceEqDiff, Nat.reduceBEq, Nat.reduceLT, Nat.reduceLeDiff, Nat.reduceAdd, Nat.reduceSub, reduceIte]
  refine awp_loop (fun k : Nat => k ≤ 5 ∧ k ≤ b.size ∧ highs b k ∧ scan b 5 0 = scan b (5 - k) k) (fun k => stl [(0, .v (.string b)), (1, .v (.int .i64 0)), (7, .v (.int .i64 (nval b k))), (8, .v (.int .i64 (k : Int)))]) (fun k => 5 - k) 0 ⟨by omega, by omega, fun j hj => absurd hj (by omega), rfl⟩ ?_ ?_
  · simp only [EV, Nat.reduceEqDiff, Nat.reduceBEq, Nat.reduceLT, Nat.reduceLeDiff, Nat.reduceAdd, Nat.reduceSub, reduceIte]
    rfl
  · rintro k ⟨k5, ks, hh, hsc⟩
    have z0 : (0 : Int) + (k : Int) = (k : Int) := by omega
    have wk := w64 (k : Int) (by omega)
    simp only [z0, wk, EV, Nat.reduceEqDiff, Nat.reduceBEq, Nat.reduceLT, Nat.reduceLeDiff, Nat.reduceAdd, Nat.reduceSub, reduceIte]
    rcases c5 : decide ((k : Int) < 5) with _ | _
    · have : k = 5 := by have : ¬ (k : Int) < 5 := by simpa using c5
                         omega
      subst this
      have hn : scan b 5 0 = none := hsc
      have hr : rN b = (0, 0, false) := by unfold rN; rw [hn]
      simp only [EV, Nat.reduceEqDiff, Nat.reduceBEq, Nat.reduceLT, Nat.reduceLeDiff, Nat.reduceAdd, Nat.reduceSub, reduceIte]
      simp only [hr, EV, Nat.reduceEqDiff, Nat.reduceBEq, Nat.reduceLT, Nat.reduceLeDiff, Nat.reduceAdd, Nat.reduceSub, reduceIte, evRE, retVC, cellV', evR, nfz, nfzs, nfzss, List.contains_nil, List.contains_cons, Bool.or_false, or_true]
    have kl : k < 5 := by have : (k : Int) < 5 := by simpa using c5
                          omega
    rw [scan_step kl] at hsc
    simp only [z0, wk, EV, Nat.reduceEqDiff, Nat.reduceBEq, Nat.reduceLT, Nat.reduceLeDiff, Nat.reduceAdd, Nat.reduceSub, reduceIte]
    rcases cs : decide ((k : Int) < (b.size : Int)) with _ | _
    · have : ¬ k < b.size := by have : ¬ (k : Int) < (b.size : Int) := by simpa using cs
                                omega
      rw [if_neg this] at hsc
      have hr : rN b = (0, 0, false) := by unfold rN; rw [hsc]
      simp only [EV, Nat.reduceEqDiff, Nat.reduceBEq, Nat.reduceLT, Nat.reduceLeDiff, Nat.reduceAdd, Nat.reduceSub, reduceIte]
      simp only [hr, EV, Nat.reduceEqDiff, Nat.reduceBEq, Nat.reduceLT, Nat.reduceLeDiff, Nat.reduceAdd, Nat.reduceSub, reduceIte, evRE, retVC, cellV', evR, nfz, nfzs, nfzss, List.contains_nil, List.contains_cons, Bool.or_false, or_true]
    have kz : k < b.size := by have : (k : Int) < (b.size : Int) := by simpa using cs
                               omega
    have kz2 : (k : Int) < (b.size : Int) := by omega
    rw [if_pos kz] at hsc
    have hi := sAt_in b (k : Nat)
    have ea := and127u _ hi.1 hi.2
    have w1 := w64 (sAt b (k : Nat) % 128) (by omega)
    have w7 := w64 (7 * (k : Int)) (by omega)
    have hN := nval_lt b k
    have eo := or_num kl (nval_nn b k) hN (c := sAt b (k : Nat) % 128) (by omega) (by omega)
    have es : nval b k + sAt b (k : Nat) % 128 * 128 ^ k = nval b (k + 1) := (nval_succ b k).symm
    rw [es] at eo
    simp only [z0, wk, kz2, evW, ea, w1, w7, eo, EV, Nat.reduceEqDiff, Nat.reduceBEq, Nat.reduceLT, Nat.reduceLeDiff, Nat.reduceAdd, Nat.reduceSub, reduceIte]
    refine ⟨by omega, ?_⟩
    rcases c8 : decide (sAt b (k : Nat) < 128) with _ | _
    · have h8 : ¬ sAt b (k : Nat) < 128 := by simpa using c8
      rw [if_neg h8] at hsc
      have w2 := w64 ((k : Int) + 1) (by omega)
      simp only [w2, EV, Nat.reduceEqDiff, Nat.reduceBEq, Nat.reduceLT, Nat.reduceLeDiff, Nat.reduceAdd, Nat.reduceSub, reduceIte]
      exact ⟨k + 1, ⟨by omega, by omega, fun j hj => by
        by_cases e : j = k
        · subst e; omega
        · exact hh j (by omega), hsc⟩, by omega, rfl⟩
    · have h8 : sAt b (k : Nat) < 128 := by simpa using c8
      rw [if_pos h8] at hsc
      have hr : rN b = (openZ (nval b (k + 1)), (k : Int) + 1, decide (nval b (k + 1) ≤ 2000000000) && (decide (k = 0) || decide (0 < sAt b (k : Nat)))) := by unfold rN; rw [hsc]
      have hB := nval_big b (k := k + 1) (by omega)
      have w2 := w64 ((k : Int) + 1) (by omega)
      have dk : ((k : Int) == 0) = decide (k = 0) := by rw [Bool.eq_iff_iff]; simp
      simp only [EV, Nat.reduceEqDiff, Nat.reduceBEq, Nat.reduceLT, Nat.reduceLeDiff, Nat.reduceAdd, Nat.reduceSub, reduceIte]
      refine callK_i (d34 (nval b (k + 1)) (nval_nn b _) (by omega)) ?_
      simp only [z0, wk, w2, dk, EV, Nat.reduceEqDiff, Nat.reduceBEq, Nat.reduceLT, Nat.reduceLeDiff, Nat.reduceAdd, Nat.reduceSub, reduceIte]
      rcases cn : decide (nval b (k + 1) ≤ 2000000000) with _ | _
      · simp only [EV, Nat.reduceEqDiff, Nat.reduceBEq, Nat.reduceLT, Nat.reduceLeDiff, Nat.reduceAdd, Nat.reduceSub, reduceIte]
        simp only [hr, cn, Bool.false_and, EV, Nat.reduceEqDiff, Nat.reduceBEq, Nat.reduceLT, Nat.reduceLeDiff, Nat.reduceAdd, Nat.reduceSub, reduceIte, evRE, retVC, cellV', evR, nfz, nfzs, nfzss, List.contains_nil, List.contains_cons, Bool.or_false, or_true]
      rcases ck : decide (k = 0) with _ | _
      · simp only [dk, ck, EV, Nat.reduceEqDiff, Nat.reduceBEq, Nat.reduceLT, Nat.reduceLeDiff, Nat.reduceAdd, Nat.reduceSub, reduceIte]
        simp only [hr, cn, ck, Bool.true_and, Bool.false_or, EV, Nat.reduceEqDiff, Nat.reduceBEq, Nat.reduceLT, Nat.reduceLeDiff, Nat.reduceAdd, Nat.reduceSub, reduceIte, evRE, retVC, cellV', evR, nfz, nfzs, nfzss, List.contains_nil, List.contains_cons, Bool.or_false, or_true]
      · simp only [dk, ck, EV, Nat.reduceEqDiff, Nat.reduceBEq, Nat.reduceLT, Nat.reduceLeDiff, Nat.reduceAdd, Nat.reduceSub, reduceIte]
        simp only [hr, cn, ck, Bool.true_and, Bool.true_or, EV, Nat.reduceEqDiff, Nat.reduceBEq, Nat.reduceLT, Nat.reduceLeDiff, Nat.reduceAdd, Nat.reduceSub, reduceIte, evRE, retVC, cellV', evR, nfz, nfzs, nfzss, List.contains_nil, List.contains_cons, Bool.or_false, or_true]
theorem rN_num (b : ByteArray) : pNum b = if (rN b).2.2 = true then some ((rN b).1, (rN b).2.1.toNat) else none := by
  unfold pNum rN
  cases scan b 5 0 with
  | none => rfl
  | some k =>
    simp only
    split
    · simp
    · rfl
def m14 : MC :=
 (.seq (.reg [Xb 6 (.asg (.i 0))]) (.seq (.seq (.reg [Xm 10 0, Xq 11 (.nilchk (.t 10)), Xf 12 2 11, Xl 13 1 12, Xq 14 (.bin false .geq (.t 13) (.i 0))]) (.cond (.t 14) (.seq (.reg [Xb 6 (.asg (.i 0))]) .ret) .skip)) (.seq (.mixt [] [0, 1, 2, 7, 8, 9] [] [] [] [] (.step 0 (Xm 16 0) (.step 1 (Xq 17 (.nilchk (.t 16))) (.step 2 (Xf 18 0 17) (.step 4 (Xm 20 0) (.step 5 (Xq 21 (.nilchk (.t 20))) (.step 6
 (Xf 22 1 21) (.alt (.step 3 (Xl 19 1 18) (.step 7 (Xl 23 1 22) (.step 8 (Xb 24 (.call (.fn 25) false [.lend (.t 19), .lend (.t 23)])) (.step 9 (Xm 15 24) (.step 10 (Xq 25 (.ext 15 0)) (.step 11 (Xq 26 (.ext 15 1)) (.step 12 (Xq 27 (.ext 15 2)) (.step 13 (Xa 7 25) (.step 14 (Xa 8 26) (.step 15 (Xa 9 27) .nil)))))))))) (.step 7 (Xl 23 1 22) (.step 3 (Xl 19 1 18) (.step 8 (Xb 24 (.call (.fn 25) false
 [.lend (.t 19), .lend (.t 23)])) (.step 9 (Xm 15 24) (.step 10 (Xq 25 (.ext 15 0)) (.step 11 (Xq 26 (.ext 15 1)) (.step 12 (Xq 27 (.ext 15 2)) (.step 13 (Xa 7 25) (.step 14 (Xa 8 26) (.step 15 (Xa 9 27) .nil)))))))))))))))))) (.seq (.seq (.reg [Xm 28 9, Xq 29 (.un .not (.t 28)), Xm 30 29, Xu 31 30 (.mov (.t 7)), Xu 32 30 (.mov (.t 1)), Xu 33 30 (.mov (.t 2)), XU 34 30 (.call (.fn 26) false [.lend
 (.t 31), .lend (.t 32), .lend (.t 33)]), Xu 35 30 (.un .not (.t 34)), Xq 36 (.pick (.t 30) .tb (.t 35))]) (.cond (.t 36) (.seq (.reg [Xm 37 0, Xm 38 0, Xq 39 (.nilchk (.t 38)), Xf 40 1 39, Xl 41 1 40, Xb 42 (.call (.fn 27) false [.io (.t 37), .lend (.t 41)])]) (.seq (.reg [Xb 6 (.asg (.i 0))]) .ret)) .skip)) (.seq (.reg [Xm 43 0, Xm 44 8, Xq 45 (.nilchk (.t 43)), Xf 46 1 45, Xz (.store 1 (.t 46)
 (.t 44))]) (.seq (.reg [Xm 47 7, Xa 6 47]) .ret))))))
set_option maxHeartbeats 1000000 in
set_option maxRecDepth 100000 in
theorem g14 (b : ByteArray) (hz : b.size ≤ 3000) {v : Int} {to : Nat} (hp : pNum b = some (v, to)) (v0 : 0 ≤ v) (v1 : v ≤ 40) : Does Go.Proofs.Try.prog 14 [.box 40 (zO b 0 (-1)), .v (.int .i64 0), .v (.int .i64 40)] false (.v (.int .i64 v)) [.box 40 (zO b to (-1)), .dead, .dead] := by
  have d0 : decide ((0 : Int) ≤ -1) = false := rfl
  have dr := d25 b hz
  rw [rN_num] at hp
  split at hp
  rotate_left
  · cases hp
  rename_i hok
  simp only [Option.some.injEq, Prod.mk.injEq] at hp
  have hto : (rN b).2.1 = (to : Int) := by
    have : 0 ≤ (rN b).2.1 := by unfold rN; split <;> simp; omega
    omega
  rw [hp.1, hto, hok] at dr
  have di := d26 v 0 40
  have hd : (decide (0 ≤ v) && decide (v ≤ 40)) = true := by simp; omega
  rw [hd] at di
  refine does_intro (mc := m14) (N := 48) (rs := [6]) (fx := [0]) 3 rfl (by decide +kernel) ?_
  simp only [m14, zO, d0, evNr, EV, Nat.reduceEqDiff, Nat.reduceBEq, Nat.reduceLT, Nat.reduceLeDiff, Nat.reduceAdd, Nat.reduceSub, reduceIte]
  repeat' first | (refine callK_i dr ?_; simp only [evNr, EV, Nat.reduceEqDiff, Nat.reduceBEq, Nat.reduceLT, Nat.reduceLeDiff, Nat.reduceAdd, Nat.reduceSub, reduceIte]) | (refine callK_i di ?_; simp only [evNr, EV, Nat.reduceEqDiff, Nat.reduceBEq, Nat.reduceLT, Nat.reduceLeDiff, Nat.reduceAdd, Nat.reduceSub, reduceIte]) | refine And.intro ?_ ?_
  all_goals simp only [EV, Nat.reduceEqDiff, Nat.reduceBEq, Nat.reduceLT, Nat.reduceLeDiff, Nat.reduceAdd, Nat.reduceSub, reduceIte, evRE, retVC, cellV', evR, nfz, nfzs, nfzss, List.contains_nil, List.contains_cons, Bool.or_false, or_true]
set_option maxHeartbeats 1000000 in
set_option maxRecDepth 100000 in
theorem n14 (b : ByteArray) (hz : b.size ≤ 3000) (hp : ∀ v to, pNum b = some (v, to) → v < 0 ∨ 40 < v) : Does Go.Proofs.Try.prog 14 [.box 40 (zO b 0 (-1)), .v (.int .i64 0), .v (.int .i64 40)] false (.v (.int .i64 0)) [.box 40 (zO b 0 0), .dead, .dead] := by
  have d0 : decide ((0 : Int) ≤ -1) = false := rfl
  have dr := d25 b hz
  have df := d27 b 0 (-1) 0
  rw [if_pos (by decide)] at df
  have di := d26 (rN b).1 0 40
  refine does_intro (mc := m14) (N := 48) (rs := [6]) (fx := [0]) 3 rfl (by decide +kernel) ?_
  simp only [m14, zO, d0, evNr, EV, Nat.reduceEqDiff, Nat.reduceBEq, Nat.reduceLT, Nat.reduceLeDiff, Nat.reduceAdd, Nat.reduceSub, reduceIte]
  rcases hok : (rN b).2.2 with _ | _
  · rw [hok] at dr
    repeat' first | (refine callK_i dr ?_; simp only [evNr, EV, Nat.reduceEqDiff, Nat.reduceBEq, Nat.reduceLT, Nat.reduceLeDiff, Nat.reduceAdd, Nat.reduceSub, reduceIte]) | (refine callK2_i df rfl rfl ?_; simp only [zO, evNr, EV, Nat.reduceEqDiff, Nat.reduceBEq, Nat.reduceLT, Nat.reduceLeDiff, Nat.reduceAdd, Nat.reduceSub, reduceIte]) | refine And.intro ?_ ?_
    all_goals simp only [EV, Nat.reduceEqDiff, Nat.reduceBEq, Nat.reduceLT, Nat.reduceLeDiff, Nat.reduceAdd, Nat.reduceSub, reduceIte, evRE, retVC, cellV', evR, nfz, nfzs, nfzss, List.contains_nil, List.contains_cons, Bool.or_false, or_true]
  · rw [hok] at dr
    have hd : (decide (0 ≤ (rN b).1) && decide ((rN b).1 ≤ 40)) = false := by
      have := hp (rN b).1 (rN b).2.1.toNat (by rw [rN_num, if_pos hok])
      simp; omega
    rw [hd] at di
    repeat' first | (refine callK_i dr ?_; simp only [evNr, EV, Nat.reduceEqDiff, Nat.reduceBEq, Nat.reduceLT, Nat.reduceLeDiff, Nat.reduceAdd, Nat.reduceSub, reduceIte]) | (refine callK_i di ?_; simp only [evNr, EV, Nat.reduceEqDiff, Nat.reduceBEq, Nat.reduceLT, Nat.reduceLeDiff, Nat.reduceAdd, Nat.reduceSub, reduceIte]) | (refine callK2_i df rfl rfl ?_; simp only [zO, evNr, EV, Nat.reduceEqDiff, Nat.reduceBEq, Nat.reduceLT, Nat.reduceLeDiff, Nat.reduceAdd, Nat.reduceSub, reduceIte]) | refine And.intro ?_ ?_
    all_goals simp only [EV, Nat.reduceEqDiff, Nat.reduceBEq, Nat.reduceLT, Nat.reduceLeDiff, Nat.reduceAdd, Nat.reduceSub, reduceIte, evRE, retVC, cellV', evR, nfz, nfzs, nfzss, List.contains_nil, List.contains_cons, Bool.or_false, or_true]
end Go.AM
namespace Go.AM
set_option linter.unusedVariables false
set_option linter.unusedSimpArgs false
def m9 : MC :=
 (.seq (.reg [Xb 2 (.asg (.i 0))]) (.seq (.reg [Xm 8 0, Xq 9 (.nilchk (.t 8)), Xf 10 1 9, Xl 11 1 10, Xa 3 11]) (.seq (.reg [Xb 4 (.asg (.i 0)), Xb 5 (.asg (.i 1))]) (.join [0, 3, 4] (.seq (.reg [Xb 6 (.asg (.i 0))]) (.block 0 (.loop [0, 3, 4, 5, 6] (.seq (.seq (.reg [Xm 12 6, Xq 13 (.bin false .lss (.t 12) (.i 5))]) (.cond (.t 13) .skip (.exit 0))) (.seq (.block 1 (.seq (.reg [Xm 16 0, Xb 17
 (.call (.fn 11) false [.io (.t 16)]), Xa 7 17]) (.seq (.reg [Xm 18 4, Xm 19 7, Xq 20 (.bin false .rem (.t 19) (.i 128)), Xm 21 5, Xq 22 (.bin false .mul (.t 20) (.t 21)), Xq 23 (.bin false .add (.t 18) (.t 22)), Xa 4 23]) (.seq (.reg [Xm 24 5, Xq 25 (.bin false .mul (.t 24) (.i 128)), Xa 5 25]) (.seq (.reg [Xm 26 7, Xq 27 (.bin false .lss (.t 26) (.i 128))]) (.cond (.t 27) (.exit 0) .skip))))))
 (.reg [Xm 14 6, Xq 15 (.bin false .add (.t 14) (.i 1)), Xa 6 15])))))) (.seq (.seq (.dreg [Xm 28 0, Xq 29 (.nilchk (.t 28)), Xf 30 2 29, Xl 31 1 30, Xm 32 31, Xu 33 32 (.mov (.t 4)), Xu 34 32 (.bin false .gtr (.t 33) (.i 2000000000)), Xq 35 (.pick (.t 32) .tb (.t 34)), Xm 36 35, Xu 37 36 (.mov (.t 4)), XU 38 36 (.call (.fn 21) false [.lend (.t 37)]), XU 39 36 (.call (.fn 20) false [.lend (.t
 38)]), Xu 40 36 (.mov (.t 0)), Xu 41 36 (.nilchk (.t 40)), Xu 42 36 (.fad 0 (.t 41)), Xu 43 36 (.load false 1 (.t 42)), Xu 44 36 (.mov (.t 3)), Xu 45 36 (.mov (.t 0)), Xu 46 36 (.nilchk (.t 45)), Xu 47 36 (.fad 1 (.t 46)), Xu 48 36 (.load false 1 (.t 47)), Xu 49 36 (.slc true 1 (.t 43) (some (.t 44)) (some (.t 48))), Xu 50 36 (.bin false .neq (.t 39) (.t 49)), Xq 51 (.pick (.t 36) .tb (.t 50))])
 (.cond (.t 51) (.seq (.reg [Xm 52 0, Xq 53 (.nilchk (.t 52)), Xf 54 2 53, Xz (.store 1 (.t 54) .tb)]) (.seq (.reg [Xb 2 (.asg (.i 0))]) .ret)) .skip)) (.seq (.reg [Xm 55 4, Xb 56 (.call (.fn 21) false [.lend (.t 55)]), Xa 2 56]) .ret))))))
def numSt (b : ByteArray) (p : Nat × Bool × Int) : Prop := p.1 ≤ b.size + 1 ∧ 0 ≤ p.2.2 ∧ p.2.2 < 34359738368 * 2 ∧
  ((p.2.1 = true ∧ scan b 5 0 = none) ∨ (p.2.1 = false ∧ ∃ k, p.1 = k + 1 ∧ k < 5 ∧ k < b.size ∧ p.2.2 = nval b (k + 1) ∧ highs b k ∧ ((scan b 5 0 = some k ∧ sAt b (k : Nat) < 128) ∨ (scan b 5 0 = none ∧ 128 ≤ sAt b (k : Nat)))))
set_option maxHeartbeats 2000000 in
set_option maxRecDepth 100000 in
theorem q9 (b : ByteArray) (hz : b.size ≤ 3000) : DoesE Go.Proofs.Try.prog 9 [.box 30 (zB b 0 false)] false fun r o =>
    (∃ v to, pNum b = some (v, to) ∧ r = .v (.int .i64 v) ∧ o = [.box 30 (zB b to false)]) ∨ (pNum b = none ∧ r = .v (.int .i64 0) ∧ ∃ a, a ≤ 3001 ∧ o = [.box 30 (zB b a true)]) := by
  refine doesE_intro (mc := m9) (N := 57) (rs := [2]) (fx := [0]) 1 rfl (by decide +kernel) ?_
  simp only [m9, zB, evNr, EV, Nat.reduceEqDiff, Nat.reduceBEq, Nat.reduceLT, Nat.reduceLeDiff, Nat.reduceAdd, Nat.reduceSub, reduceIte]
  refine awp_join (numSt b) (fun p => stl [(0, .box 30 (zB b p.1 p.2.1)), (3, .v (.int .i64 0)), (4, .v (.int .i64 p.2.2))]) ?_ ?_
  · simp only [EV, Nat.reduceEqDiff, Nat.reduceBEq, Nat.reduceLT, Nat.reduceLeDiff, Nat.reduceAdd, Nat.reduceSub, reduceIte]
    refine awp_loop (fun k : Nat => k ≤ 5 ∧ k ≤ b.size ∧ highs b k ∧ scan b 5 0 = scan b (5 - k) k) (fun k => stl [(0, .box 30 (zB b k false)), (3, .v (.int .i64 0)), (4, .v (.int .i64 (nval b k))), (5, .v (.int .i64 (128 ^ k))), (6, .v (.int .i64 (k : Int)))]) (fun k => 5 - k) 0 ⟨by omega, by omega, fun j hj => absurd hj (by omega), rfl⟩ ?_ ?_
    · simp only [zB, EV, Nat.reduceEqDiff, Nat.reduceBEq, Nat.reduceLT, Nat.reduceLeDiff, Nat.reduceAdd, Nat.reduceSub, reduceIte]
      rfl
    · rintro k ⟨k5, ks, hh, hsc⟩
      simp only [zB, EV, Nat.reduceEqDiff, Nat.reduceBEq, Nat.reduceLT, Nat.reduceLeDiff, Nat.reduceAdd, Nat.reduceSub, reduceIte]
      refine cK_cut (fun h => ?_) (fun h => ?_)
      · have kl : k < 5 := by have : (k : Int) < 5 := by simpa using h
                              omega
        clear h
        rw [scan_step kl] at hsc
        have hB := nval_big b k5
        have hp := pow_big k5
        have hp1 := pow_big (k := k + 1) (by omega)
        have wp : IntKind.i64.wrap (128 ^ k * 128) = 128 ^ (k + 1) := by rw [← Int.pow_succ]; exact w64 _ (by omega)
        simp only [EV, Nat.reduceEqDiff, Nat.reduceBEq, Nat.reduceLT, Nat.reduceLeDiff, Nat.reduceAdd, Nat.reduceSub, reduceIte]
        by_cases kz : k < b.size
        · rw [if_pos kz] at hsc
          have gb := g11 b k hz kz
          have hi := sAt_in b (k : Nat)
          have em : (sAt b (k : Nat)).tmod 128 = sAt b (k : Nat) % 128 := Int.tmod_eq_emod_of_nonneg hi.1
          have w0 := w64 (sAt b (k : Nat) % 128) (by omega)
          have hle : sAt b (k : Nat) % 128 * 128 ^ k ≤ 127 * 128 ^ k := Int.mul_le_mul_of_nonneg_right (by omega) (by omega)
          have hnn : 0 ≤ sAt b (k : Nat) % 128 * 128 ^ k := Int.mul_nonneg (by omega) (by omega)
          have w1 := w64 (sAt b (k : Nat) % 128 * 128 ^ k) (by omega)
          have hB1 := nval_big b (k := k + 1) (by omega)
          have h1n := nval_nn b (k + 1)
          have w2 := w64 (nval b (k + 1)) (by omega)
          have es : nval b k + sAt b (k : Nat) % 128 * 128 ^ k = nval b (k + 1) := (nval_succ b k).symm
          refine callK2_i gb rfl rfl ?_
          simp only [zB, em, w0, w1, es, w2, wp, EV, Nat.reduceEqDiff, Nat.reduceBEq, Nat.reduceLT, Nat.reduceLeDiff, Nat.reduceAdd, Nat.reduceSub, reduceIte]
          refine ⟨by decide, ?_⟩
          rcases c8 : decide (sAt b (k : Nat) < 128) with _ | _
          · have h8 : ¬ sAt b (k : Nat) < 128 := by simpa using c8
            rw [if_neg h8] at hsc
            have w3 := w64 ((k : Int) + 1) (by omega)
            simp only [w3, EV, Nat.reduceEqDiff, Nat.reduceBEq, Nat.reduceLT, Nat.reduceLeDiff, Nat.reduceAdd, Nat.reduceSub, reduceIte]
            exact ⟨k + 1, ⟨by omega, by omega, fun j hj => by
              by_cases e : j = k
              · subst e; omega
              · exact hh j (by omega), hsc⟩, by omega, rfl⟩
          · have h8 : sAt b (k : Nat) < 128 := by simpa using c8
            rw [if_pos h8] at hsc
            simp only [EV, Nat.reduceEqDiff, Nat.reduceBEq, Nat.reduceLT, Nat.reduceLeDiff, Nat.reduceAdd, Nat.reduceSub, reduceIte]
            exact ⟨(k + 1, false, nval b (k + 1)), ⟨by simp only; omega, h1n, by simp only; omega, .inr ⟨rfl, k, rfl, kl, kz, rfl, hh, .inl ⟨hsc, h8⟩⟩⟩, rfl⟩
        · rw [if_neg kz] at hsc
          have bb := b11 b k false (by simp; omega)
          have h1n := nval_nn b k
          have w2 := w64 (nval b k) (by omega)
          refine callK2_i bb rfl rfl ?_
          have z1 : (0 : Int).tmod 128 = 0 := rfl
          have w00 : IntKind.i64.wrap 0 = 0 := by decide
          simp only [zB, z1, w00, Int.zero_mul, Int.add_zero, w2, wp, EV, Nat.reduceEqDiff, Nat.reduceBEq, Nat.reduceLT, Nat.reduceLeDiff, Nat.reduceAdd, Nat.reduceSub, reduceIte]
          refine ⟨by decide, ?_⟩
          have d8 : decide ((0 : Int) < 128) = true := rfl
          simp only [d8, EV, Nat.reduceEqDiff, Nat.reduceBEq, Nat.reduceLT, Nat.reduceLeDiff, Nat.reduceAdd, Nat.reduceSub, reduceIte]
          exact ⟨(k, true, nval b k), ⟨by simp only; omega, h1n, by simp only; omega, .inl ⟨rfl, hsc⟩⟩, rfl⟩
      · have k6 : k = 5 := by have : ¬ (k : Int) < 5 := by simpa using h
                              omega
        subst k6
        simp only [EV, Nat.reduceEqDiff, Nat.reduceBEq, Nat.reduceLT, Nat.reduceLeDiff, Nat.reduceAdd, Nat.reduceSub, reduceIte]
        have hB := nval_big b (k := 5) (by omega)
        exact ⟨(5, false, nval b 5), ⟨by simp only; omega, nval_nn b 5, by simp only; omega, .inr ⟨rfl, 4, rfl, by omega, by omega, rfl, fun j hj => hh j (by omega), .inr ⟨hsc, hh 4 (by omega)⟩⟩⟩, rfl⟩
  · rintro ⟨a, bad, n⟩ hst
    simp only [numSt] at hst
    simp only [zB, evNr, EV, Nat.reduceEqDiff, Nat.reduceBEq, Nat.reduceLT, Nat.reduceLeDiff, Nat.reduceAdd, Nat.reduceSub, reduceIte]
    obtain ⟨g1, g2, g3, hst⟩ := hst
    rcases hst with ⟨rfl, hsc⟩ | ⟨rfl, k, rfl, k5, kz, rfl, hh, hst⟩
    · have hp : pNum b = none := by unfold pNum; rw [hsc]
      simp only [evNr, EV, Nat.reduceEqDiff, Nat.reduceBEq, Nat.reduceLT, Nat.reduceLeDiff, Nat.reduceAdd, Nat.reduceSub, reduceIte]
      simp only [EV, Nat.reduceEqDiff, Nat.reduceBEq, Nat.reduceLT, Nat.reduceLeDiff, Nat.reduceAdd, Nat.reduceSub, reduceIte, evRE, retVC, cellV', evR, nfz, nfzs, nfzss, List.contains_nil, List.contains_cons, Bool.or_false, or_true]
      exact .inr ⟨hp, a, by omega, rfl⟩
    rcases cn : decide (2000000000 < nval b (k + 1)) with _ | _
    rotate_left
    · have hp : pNum b = none := by
        have : decide (nval b (k + 1) ≤ 2000000000) = false := by simp at cn ⊢; omega
        unfold pNum
        rcases hst with ⟨hsc, _⟩ | ⟨hsc, _⟩
        · rw [hsc]; simp only [this, Bool.false_and]; rfl
        · rw [hsc]
      simp only [cn, evNr, EV, Nat.reduceEqDiff, Nat.reduceBEq, Nat.reduceLT, Nat.reduceLeDiff, Nat.reduceAdd, Nat.reduceSub, reduceIte]
      simp only [EV, Nat.reduceEqDiff, Nat.reduceBEq, Nat.reduceLT, Nat.reduceLeDiff, Nat.reduceAdd, Nat.reduceSub, reduceIte, evRE, retVC, cellV', evR, nfz, nfzs, nfzss, List.contains_nil, List.contains_cons, Bool.or_false, or_true]
      exact .inr ⟨hp, k + 1, by omega, rfl⟩
    have hn9 : nval b (k + 1) ≤ 2000000000 := by have : ¬ 2000000000 < nval b (k + 1) := by simpa using cn
                                                 omega
    have dop := d21 (nval b (k + 1)) g2 (by omega)
    have dnb := q20 (openZ (nval b (k + 1))) (by unfold openZ; split <;> omega) (by unfold openZ; split <;> omega)
    rw [fold_open g2] at dnb
    have t1 : (((k + 1 : Nat) : Int)).toNat = k + 1 := by omega
    have l0 : (0 : Int) ≤ ((k + 1 : Nat) : Int) := by omega
    have l1 : ((k + 1 : Nat) : Int) ≤ (b.size : Int) := by omega
    simp only [cn, evNr, EV, Nat.reduceEqDiff, Nat.reduceBEq, Nat.reduceLT, Nat.reduceLeDiff, Nat.reduceAdd, Nat.reduceSub, reduceIte]
    refine callD_i dop rfl ?_
    simp only [evNr, EV, Nat.reduceEqDiff, Nat.reduceBEq, Nat.reduceLT, Nat.reduceLeDiff, Nat.reduceAdd, Nat.reduceSub, reduceIte]
    refine callD_i dnb rfl ?_
    simp only [t1, l0, l1, evNr, EV, Nat.reduceEqDiff, Nat.reduceBEq, Nat.reduceLT, Nat.reduceLeDiff, Nat.reduceAdd, Nat.reduceSub, reduceIte]
    refine ⟨by decide, ?_⟩
    have hdn : decide (nval b (k + 1) ≤ 2000000000) = true := by simpa using hn9
    rcases hst with ⟨hsc, h8⟩ | ⟨hsc, h8⟩
    · rw [num_eq kz hh h8]
      rcases cc : (decide (k = 0) || decide (0 < sAt b (k : Nat))) with _ | _
      · have hp : pNum b = none := by unfold pNum; rw [hsc]; simp only [hdn, cc, Bool.and_false]; rfl
        simp only [Bool.not_false, evNr, EV, Nat.reduceEqDiff, Nat.reduceBEq, Nat.reduceLT, Nat.reduceLeDiff, Nat.reduceAdd, Nat.reduceSub, reduceIte]
        simp only [EV, Nat.reduceEqDiff, Nat.reduceBEq, Nat.reduceLT, Nat.reduceLeDiff, Nat.reduceAdd, Nat.reduceSub, reduceIte, evRE, retVC, cellV', evR, nfz, nfzs, nfzss, List.contains_nil, List.contains_cons, Bool.or_false, or_true]
        exact .inr ⟨hp, k + 1, by omega, rfl⟩
      · have hp : pNum b = some (openZ (nval b (k + 1)), k + 1) := by unfold pNum; rw [hsc]; simp only [hdn, cc, Bool.and_self, if_true]
        simp only [Bool.not_true, evNr, EV, Nat.reduceEqDiff, Nat.reduceBEq, Nat.reduceLT, Nat.reduceLeDiff, Nat.reduceAdd, Nat.reduceSub, reduceIte]
        refine callK_i dop ?_
        simp only [evNr, EV, Nat.reduceEqDiff, Nat.reduceBEq, Nat.reduceLT, Nat.reduceLeDiff, Nat.reduceAdd, Nat.reduceSub, reduceIte]
        simp only [EV, Nat.reduceEqDiff, Nat.reduceBEq, Nat.reduceLT, Nat.reduceLeDiff, Nat.reduceAdd, Nat.reduceSub, reduceIte, evRE, retVC, cellV', evR, nfz, nfzs, nfzss, List.contains_nil, List.contains_cons, Bool.or_false, or_true]
        exact .inl ⟨_, _, hp, rfl, rfl⟩
    · rw [num_ne kz (fun j hj => by
        by_cases e : j = k
        · subst e; exact h8
        · exact hh j (by omega))]
      have hp : pNum b = none := by unfold pNum; rw [hsc]
      simp only [Bool.not_false, evNr, EV, Nat.reduceEqDiff, Nat.reduceBEq, Nat.reduceLT, Nat.reduceLeDiff, Nat.reduceAdd, Nat.reduceSub, reduceIte]
      simp only [EV, Nat.reduceEqDiff, Nat.reduceBEq, Nat.reduceLT, Nat.reduceLeDiff, Nat.reduceAdd, Nat.reduceSub, reduceIte, evRE, retVC, cellV', evR, nfz, nfzs, nfzss, List.contains_nil, List.contains_cons, Bool.or_false, or_true]
      exact .inr ⟨hp, k + 1, by omega, rfl⟩
end Go.AM
namespace Go.AM
set_option linter.unusedVariables false
set_option linter.unusedSimpArgs false
theorem baEq {a b : ByteArray} (h : a.toList = b.toList) : a = b := by
  rw [ByteArray.toList_eq, ByteArray.toList_eq] at h
  exact ByteArray.ext (Array.toList_inj.1 h)
noncomputable def pEntry (b : ByteArray) (a : Nat) : Option (Seen × Nat) := match pName b a with
  | none => none
  | some (m, a1) => match pName b a1 with
    | none => none
    | some (nm, a2) => if a2 + 8 ≤ b.size then some (⟨m, nm, IntKind.i64.wrap (oct b a2 8)⟩, a2 + 8) else none
noncomputable def ents (b : ByteArray) (a : Nat) : Nat → Option (List Seen × Nat)
  | 0 => some ([], a)
  | k + 1 => match ents b a k with
    | none => none
    | some (l, a') => match pEntry b a' with
      | none => none
      | some (s, a'') => some (l ++ [s], a'')
theorem ents_none {b : ByteArray} {a k : Nat} (h : ents b a k = none) : ∀ m, ents b a (k + m) = none
  | 0 => h
  | m + 1 => by
    rw [← Nat.add_assoc, ents, ents_none h m]
theorem ents_up {b : ByteArray} {a k m : Nat} (h : ents b a k = none) (hm : k ≤ m) : ents b a m = none := by
  have := ents_none h (m - k)
  rwa [Nat.add_sub_cancel' hm] at this
def Seen.rd (s : Seen) : Prop := nameOk s.mod = true ∧ nameOk s.name = true ∧ -9223372036854775808 ≤ s.sum ∧ s.sum ≤ 9223372036854775807
theorem Seen.rd.sm {s : Seen} (h : s.rd) : s.small := by
  obtain ⟨h1, h2, h3⟩ := h
  have := nameOk_size h1
  have := nameOk_size h2
  exact ⟨⟨by omega, by omega, h3⟩, by omega, by omega⟩
theorem pEntry_some {b : ByteArray} {a : Nat} {s : Seen} {to : Nat} (h : pEntry b a = some (s, to)) : a ≤ to ∧ to ≤ b.size ∧ s.rd ∧ (0 ≤ s.sum → ∀ acc, seenStep acc s = acc ++ b.extract a to) := by
  unfold pEntry at h
  cases h1 : pName b a with
  | none => rw [h1] at h; cases h
  | some p =>
    obtain ⟨m, a1⟩ := p
    rw [h1] at h
    simp only at h
    cases h2 : pName b a1 with
    | none => rw [h2] at h; cases h
    | some p =>
      obtain ⟨nm, a2⟩ := p
      rw [h2] at h
      simp only at h
      split at h
      · rename_i hz
        simp only [Option.some.injEq, Prod.mk.injEq] at h
        obtain ⟨rfl, rfl⟩ := h
        obtain ⟨p1, p2, p3, p4, p5⟩ := pName_some h1
        obtain ⟨q1, q2, q3, q4, q5⟩ := pName_some h2
        refine ⟨by omega, hz, ⟨p3, q3, by simp only; rw [IntKind.wrap_i64]; omega, by simp only; rw [IntKind.wrap_i64]; omega⟩, fun h0 acc => ?_⟩
        simp only at h0
        unfold seenStep
        simp only
        rw [p5, q5, eight_oct hz h0, ex_app b (by omega) (by omega), ex_app b (by omega) (by omega)]
      · cases h
theorem ents_some {b : ByteArray} {a : Nat} (ha : a ≤ b.size) : ∀ {k : Nat} {l : List Seen} {to : Nat}, ents b a k = some (l, to) → l.length = k ∧ a ≤ to ∧ to ≤ b.size ∧ (∀ s ∈ l, s.rd) ∧ ((∀ s ∈ l, 0 ≤ s.sum) → ∀ acc, l.foldl seenStep acc = acc ++ b.extract a to)
  | 0, l, to, h => by
    simp only [ents, Option.some.injEq, Prod.mk.injEq] at h
    obtain ⟨rfl, rfl⟩ := h
    refine ⟨rfl, Nat.le_refl _, ha, by simp, fun _ acc => ?_⟩
    have e : b.extract a a = ByteArray.empty := by
      apply ByteArray.ext
      simp [ByteArray.data_extract]
    rw [e]
    simp
  | k + 1, l, to, h => by
    rw [ents] at h
    cases h1 : ents b a k with
    | none => rw [h1] at h; cases h
    | some p =>
      obtain ⟨l0, a0⟩ := p
      rw [h1] at h
      simp only at h
      cases h2 : pEntry b a0 with
      | none => rw [h2] at h; cases h
      | some p =>
        obtain ⟨s, a1⟩ := p
        rw [h2] at h
        simp only [Option.some.injEq, Prod.mk.injEq] at h
        obtain ⟨rfl, rfl⟩ := h
        obtain ⟨i1, i2, i3, i4, i5⟩ := ents_some ha h1
        obtain ⟨p1, p2, p3, p4⟩ := pEntry_some h2
        refine ⟨by simp [i1], by omega, p2, fun t ht => ?_, fun h0 acc => ?_⟩
        · rcases List.mem_append.1 ht with ht | ht
          · exact i4 t ht
          · rw [List.mem_singleton] at ht; rw [ht]; exact p3
        · rw [List.foldl_append, i5 (fun t ht => h0 t (by simp [ht]))]
          simp only [List.foldl_cons, List.foldl_nil]
          rw [p4 (h0 s (by simp)), ByteArray.append_assoc, ex_app b (by omega) (by omega)]
theorem scan_some {b : ByteArray} : ∀ {f k0 k : Nat}, scan b f k0 = some k → k0 ≤ k ∧ k < k0 + f ∧ k < b.size ∧ (∀ j, k0 ≤ j → j < k → 128 ≤ sAt b (j : Nat)) ∧ sAt b (k : Nat) < 128
  | 0, k0, k, h => by cases h
  | f + 1, k0, k, h => by
    rw [scan] at h
    split at h
    · rename_i hz
      split at h
      · rename_i h8
        cases h
        exact ⟨Nat.le_refl _, by omega, hz, fun j h1 h2 => by omega, h8⟩
      · rename_i h8
        obtain ⟨i1, i2, i3, i4, i5⟩ := scan_some h
        refine ⟨by omega, by omega, i3, fun j h1 h2 => ?_, i5⟩
        by_cases e : j = k0
        · subst e; omega
        · exact i4 j (by omega) h2
    · cases h
theorem pNum_some {b : ByteArray} {v : Int} {a : Nat} (h : pNum b = some (v, a)) : 1 ≤ a ∧ a ≤ b.size ∧ strA (nbL (foldZ v)) = b.extract 0 a ∧ -2000000000 ≤ v ∧ v ≤ 2000000000 := by
  unfold pNum at h
  cases h1 : scan b 5 0 with
  | none => rw [h1] at h; cases h
  | some k =>
    rw [h1] at h
    simp only at h
    split at h
    · rename_i hc
      simp only [Option.some.injEq, Prod.mk.injEq] at h
      obtain ⟨rfl, rfl⟩ := h
      obtain ⟨_, _, s1, s2, s3⟩ := scan_some h1
      simp only [Bool.and_eq_true, decide_eq_true_eq] at hc
      have hq := num_eq s1 (fun j hj => s2 j (by omega) hj) s3
      rw [hc.2] at hq
      have nn := nval_nn b (k + 1)
      refine ⟨by omega, by omega, ?_, by unfold openZ; split <;> omega, by unfold openZ; split <;> omega⟩
      rw [fold_open nn]
      exact baEq (beq_iff_eq.1 hq)
    · cases h
noncomputable def fin (b : ByteArray) : Option (List Seen) := match pNum b with
  | none => none
  | some (v, a0) => if 0 ≤ v ∧ v ≤ 40 then (match ents b a0 v.toNat with
    | none => none
    | some (l, a1) => if a1 = b.size ∧ seenOk l = true then some l else none) else none
theorem seenB_ents {b : ByteArray} {v : Int} {a0 a1 : Nat} {l : List Seen} (h : pNum b = some (v, a0)) (h0 : 0 ≤ v) (he : ents b a0 v.toNat = some (l, a1)) (hs : ∀ s ∈ l, 0 ≤ s.sum) : ((seenB l).toList == b.toList) = decide (a1 = b.size) := by
  obtain ⟨p1, p2, p3, _⟩ := pNum_some h
  obtain ⟨e1, e2, e3, _, e5⟩ := ents_some p2 he
  have ef : foldZ v = 2 * (l.length : Int) := by unfold foldZ; rw [if_neg (by omega), e1]; omega
  have eb : seenB l = b.extract 0 a1 := by
    unfold seenB numB
    rw [← ef, p3, e5 hs, ex_app b (by omega) (by omega)]
  rw [eb, Bool.eq_iff_iff, beq_iff_eq, decide_eq_true_eq]
  constructor
  · intro h
    have h2 : b.extract 0 a1 = b := baEq h
    have h3 := congrArg ByteArray.size h2
    rw [ex_size b e3] at h3
    omega
  · rintro rfl
    rw [ex_full]
theorem seenB_neg {b : ByteArray} {v : Int} {a0 : Nat} (h : pNum b = some (v, a0)) (h0 : v < 0) : ((seenB []).toList == b.toList) = false := by
  obtain ⟨p1, p2, p3, _⟩ := pNum_some h
  rw [beq_eq_false_iff_ne]
  intro e
  have e2 : seenB [] = b := baEq e
  have e3 : b = strA [0] := by
    rw [← e2]
    show strA (nbL 0) = _
    rw [nbL, dif_neg (by decide)]
  have e4 : b.size = 1 := by rw [e3, strA_size]; rfl
  have ea : a0 = b.size := by omega
  rw [ea, ex_full, e3] at p3
  have hf : 1 ≤ foldZ v := by unfold foldZ; rw [if_pos h0]; omega
  have := strA_inj (nbL_in _ (by omega)) (by simp) p3
  rw [nbL] at this
  split at this
  · rename_i hb
    have h3 := congrArg List.length this
    have h4 := nbL_prop (foldZ v / 128) (by omega)
    cases e5 : nbL (foldZ v / 128) with
    | nil => rw [e5] at h4; exact h4.elim
    | cons c r => rw [e5] at h3; simp at h3
  · have := (List.cons.inj this).1
    omega
end Go.AM
