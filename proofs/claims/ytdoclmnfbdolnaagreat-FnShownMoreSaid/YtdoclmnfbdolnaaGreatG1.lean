/- Contracts of functions of the given program, for the law FnShownMore: what they return and what they write, under the bounds that each theorem states. -/
import Derived.Test.YtdoclmnfbdolnaaGreatF4
import Derived.Test.YtdoclmnfbdolnaaGreatProg
namespace Go.AM
set_option linter.unusedVariables false
set_option linter.unusedSimpArgs false
def m172 : MC :=
 (.seq (.reg [Xb 6 (.asg .fb)]) (.seq (.reg [Xm 7 0, Xm 8 1, Xq 9 (.bin false .geq (.t 7) (.t 8)), Xm 10 9, Xt 11 10 (.mov (.t 0)), Xt 12 10 (.mov (.t 2)), Xt 13 10 (.bin false .leq (.t 11) (.t 12)), Xq 14 (.pick (.t 10) (.t 13) .fb), Xa 6 14]) .ret))
theorem d172 (x lo hi : Int) : Does Go.Proofs.Tryz.prog 172 [.v (.int .i64 x), .v (.int .i64 lo), .v (.int .i64 hi)] false (.v (.bool (decide (lo ≤ x) && decide (x ≤ hi)))) [.dead, .dead, .dead] := by
  refine does_intro (mc := m172) (N := 15) (rs := [6]) (fx := []) 3 rfl (by decide +kernel) ?_
  simp only [m172, EV, Nat.reduceEqDiff, Nat.reduceBEq, Nat.reduceLT, Nat.reduceLeDiff, Nat.reduceAdd, Nat.reduceSub, reduceIte]
  repeat' (first
    | (refine gK_cut (fun h => ?_) (fun h => ?_) <;> simp only [h, EV, Nat.reduceEqDiff, Nat.reduceBEq, Nat.reduceLT, Nat.reduceLeDiff, Nat.reduceAdd, Nat.reduceSub, reduceIte])
    | (refine cK_cut (fun h => ?_) (fun h => ?_) <;> simp only [h, EV, Nat.reduceEqDiff, Nat.reduceBEq, Nat.reduceLT, Nat.reduceLeDiff, Nat.reduceAdd, Nat.reduceSub, reduceIte]))
  all_goals simp only [h, EV, Nat.reduceEqDiff, Nat.reduceBEq, Nat.reduceLT, Nat.reduceLeDiff, Nat.reduceAdd, Nat.reduceSub, reduceIte, evRE, retVC, cellV', evR, nfz, nfzs, nfzss, List.contains_nil, List.contains_cons, Bool.or_false, or_true]
def m171 : MC :=
 (.seq (.reg [Xb 6 (.asg .fb)]) (.seq (.reg [Xm 7 0, Xm 8 1, Xq 9 (.bin false .geq (.t 7) (.t 8)), Xm 10 9, Xt 11 10 (.mov (.t 0)), Xt 12 10 (.mov (.t 2)), Xt 13 10 (.bin false .leq (.t 11) (.t 12)), Xq 14 (.pick (.t 10) (.t 13) .fb), Xa 6 14]) .ret))
theorem d171 (x lo hi : Int) : Does Go.Proofs.Tryz.prog 171 [.v (.int .i64 x), .v (.int .i64 lo), .v (.int .i64 hi)] false (.v (.bool (decide (lo ≤ x) && decide (x ≤ hi)))) [.dead, .dead, .dead] := by
  refine does_intro (mc := m171) (N := 15) (rs := [6]) (fx := []) 3 rfl (by decide +kernel) ?_
  simp only [m171, EV, Nat.reduceEqDiff, Nat.reduceBEq, Nat.reduceLT, Nat.reduceLeDiff, Nat.reduceAdd, Nat.reduceSub, reduceIte]
  repeat' (first
    | (refine gK_cut (fun h => ?_) (fun h => ?_) <;> simp only [h, EV, Nat.reduceEqDiff, Nat.reduceBEq, Nat.reduceLT, Nat.reduceLeDiff, Nat.reduceAdd, Nat.reduceSub, reduceIte])
    | (refine cK_cut (fun h => ?_) (fun h => ?_) <;> simp only [h, EV, Nat.reduceEqDiff, Nat.reduceBEq, Nat.reduceLT, Nat.reduceLeDiff, Nat.reduceAdd, Nat.reduceSub, reduceIte]))
  all_goals simp only [h, EV, Nat.reduceEqDiff, Nat.reduceBEq, Nat.reduceLT, Nat.reduceLeDiff, Nat.reduceAdd, Nat.reduceSub, reduceIte, evRE, retVC, cellV', evR, nfz, nfzs, nfzss, List.contains_nil, List.contains_cons, Bool.or_false, or_true]
def lett (b : Int) : Bool := decide (65 ≤ b) && decide (b ≤ 90) || decide (97 ≤ b) && decide (b ≤ 122)
def digt (b : Int) : Bool := decide (48 ≤ b) && decide (b ≤ 57)
def m208 : MC :=
 (.seq (.reg [Xb 2 (.asg .fb)]) (.seq (.reg [Xm 3 0, Xq 4 (.bin false .geq (.t 3) (.c (.int .u8 65))), Xm 5 4, Xt 6 5 (.mov (.t 0)), Xt 7 5 (.bin false .leq (.t 6) (.c (.int .u8 90))), Xq 8 (.pick (.t 5) (.t 7) .fb), Xm 9 8, Xu 10 9 (.mov (.t 0)), Xu 11 9 (.bin false .geq (.t 10) (.c (.int .u8 97))), Xu 12 9 (.mov (.t 11)), Xt 13 12 (.mov (.t 0)), Xt 14 12 (.bin false .leq (.t 13) (.c (.int .u8
 122))), Xu 15 9 (.pick (.t 12) (.t 14) .fb), Xq 16 (.pick (.t 9) .tb (.t 15)), Xa 2 16]) .ret))
theorem d208 (b : Int) : Does Go.Proofs.Tryz.prog 208 [.v (.int .u8 b)] false (.v (.bool (lett b))) [.dead] := by
  refine does_intro (mc := m208) (N := 17) (rs := [2]) (fx := []) 1 rfl (by decide +kernel) ?_
  simp only [m208, EV, Nat.reduceEqDiff, Nat.reduceBEq, Nat.reduceLT, Nat.reduceLeDiff, Nat.reduceAdd, Nat.reduceSub, reduceIte]
  repeat' (first
    | (refine gK_cut (fun h => ?_) (fun h => ?_) <;> simp only [h, EV, Nat.reduceEqDiff, Nat.reduceBEq, Nat.reduceLT, Nat.reduceLeDiff, Nat.reduceAdd, Nat.reduceSub, reduceIte])
    | (refine cK_cut (fun h => ?_) (fun h => ?_) <;> simp only [h, EV, Nat.reduceEqDiff, Nat.reduceBEq, Nat.reduceLT, Nat.reduceLeDiff, Nat.reduceAdd, Nat.reduceSub, reduceIte]))
  all_goals simp only [lett, *, Bool.or_true, Bool.true_or, Bool.false_or, Bool.or_false, EV, Nat.reduceEqDiff, Nat.reduceBEq, Nat.reduceLT, Nat.reduceLeDiff, Nat.reduceAdd, Nat.reduceSub, reduceIte, evRE, retVC, cellV', evR, nfz, nfzs, nfzss, List.contains_nil, List.contains_cons, Bool.or_false, or_true]
def m209 : MC :=
 (.seq (.reg [Xb 2 (.asg .fb)]) (.seq (.reg [Xm 3 0, Xq 4 (.bin false .geq (.t 3) (.c (.int .u8 48))), Xm 5 4, Xt 6 5 (.mov (.t 0)), Xt 7 5 (.bin false .leq (.t 6) (.c (.int .u8 57))), Xq 8 (.pick (.t 5) (.t 7) .fb), Xa 2 8]) .ret))
theorem d209 (b : Int) : Does Go.Proofs.Tryz.prog 209 [.v (.int .u8 b)] false (.v (.bool (digt b))) [.dead] := by
  refine does_intro (mc := m209) (N := 9) (rs := [2]) (fx := []) 1 rfl (by decide +kernel) ?_
  simp only [m209, EV, Nat.reduceEqDiff, Nat.reduceBEq, Nat.reduceLT, Nat.reduceLeDiff, Nat.reduceAdd, Nat.reduceSub, reduceIte]
  repeat' (first
    | (refine gK_cut (fun h => ?_) (fun h => ?_) <;> simp only [h, EV, Nat.reduceEqDiff, Nat.reduceBEq, Nat.reduceLT, Nat.reduceLeDiff, Nat.reduceAdd, Nat.reduceSub, reduceIte])
    | (refine cK_cut (fun h => ?_) (fun h => ?_) <;> simp only [h, EV, Nat.reduceEqDiff, Nat.reduceBEq, Nat.reduceLT, Nat.reduceLeDiff, Nat.reduceAdd, Nat.reduceSub, reduceIte]))
  all_goals simp only [digt, *, EV, Nat.reduceEqDiff, Nat.reduceBEq, Nat.reduceLT, Nat.reduceLeDiff, Nat.reduceAdd, Nat.reduceSub, reduceIte, evRE, retVC, cellV', evR, nfz, nfzs, nfzss, List.contains_nil, List.contains_cons, Bool.or_false, or_true]
def chOk (s : ByteArray) (i : Nat) : Bool := lett (sAt s i) || (i != 0 && digt (sAt s i))
def chsOk (s : ByteArray) (i : Nat) : Prop := ∀ j, j < i → chOk s j = true
open Classical in
noncomputable def nameOk (s : ByteArray) : Bool := decide (chsOk s s.size ∧ 1 ≤ s.size ∧ s.size ≤ 10)
theorem chsOk_succ {s : ByteArray} {i : Nat} (h : chsOk s i) (h2 : chOk s i = true) : chsOk s (i + 1) := by
  intro j hj
  by_cases e : j = i
  · subst e; exact h2
  · exact h j (by omega)
theorem nameOk_no {s : ByteArray} {i : Nat} (hi : i < s.size) (h : chOk s i = false) : nameOk s = false := by
  simp only [nameOk, decide_eq_false_iff_not]
  rintro ⟨h1, _⟩
  have := h1 i hi
  rw [h] at this; cases this
theorem nameOk_yes {s : ByteArray} (h : chsOk s s.size) : nameOk s = (decide ((1 : Int) ≤ s.size) && decide ((s.size : Int) ≤ 10)) := by
  have e1 : decide ((1 : Int) ≤ s.size) = decide (1 ≤ s.size) := by congr 1; apply propext; omega
  have e2 : decide ((s.size : Int) ≤ 10) = decide (s.size ≤ 10) := by congr 1; apply propext; omega
  simp [nameOk, h, e1, e2]
def m123 : MC :=
 (.seq (.reg [Xb 2 (.asg .fb)]) (.seq (.seq (.reg [Xb 3 (.asg (.i 0))]) (.block 0 (.loop [0, 3] (.seq (.seq (.reg [Xm 6 3, Xm 7 0, Xq 8 (.len true (.t 7)), Xq 9 (.bin false .lss (.t 6) (.t 8))]) (.cond (.t 9) .skip (.exit 0))) (.seq (.block 1 (.seq (.reg [Xm 12 0, Xm 13 3, Xq 14 (.idx (.t 12) (.t 13)), Xa 4 14]) (.join [0, 3, 4, 5] (.reg [Xm 15 4, Xq 16 (.bin false .geq (.t 15) (.c (.int .u8 65))),
 Xm 17 16, Xt 18 17 (.mov (.t 4)), Xt 19 17 (.bin false .leq (.t 18) (.c (.int .u8 90))), Xq 20 (.pick (.t 17) (.t 19) .fb), Xm 21 20, Xu 22 21 (.mov (.t 4)), Xu 23 21 (.bin false .geq (.t 22) (.c (.int .u8 97))), Xu 24 21 (.mov (.t 23)), Xt 25 24 (.mov (.t 4)), Xt 26 24 (.bin false .leq (.t 25) (.c (.int .u8 122))), Xu 27 21 (.pick (.t 24) (.t 26) .fb), Xq 28 (.pick (.t 21) .tb (.t 27)), Xa 5 28])
 (.seq (.reg [Xm 29 5, Xq 30 (.un .not (.t 29)), Xm 31 30, Xt 32 31 (.mov (.t 3)), Xt 33 31 (.bin false .eql (.t 32) (.i 0)), Xt 34 31 (.mov (.t 33)), Xu 35 34 (.mov (.t 4)), Xu 36 34 (.bin false .lss (.t 35) (.c (.int .u8 48))), Xt 37 31 (.pick (.t 34) .tb (.t 36)), Xt 38 31 (.mov (.t 37)), Xu 39 38 (.mov (.t 4)), Xu 40 38 (.bin false .gtr (.t 39) (.c (.int .u8 57))), Xt 41 31 (.pick (.t 38) .tb
 (.t 40)), Xq 42 (.pick (.t 31) (.t 41) .fb)]) (.cond (.t 42) (.seq (.reg [Xb 2 (.asg .fb)]) .ret) .skip))))) (.reg [Xm 10 3, Xq 11 (.bin false .add (.t 10) (.i 1)), Xa 3 11])))))) (.seq (.reg [Xm 43 0, Xq 44 (.len true (.t 43)), Xb 45 (.call (.fn 172) false [.lend (.t 44), .lend (.i 1), .lend (.i 10)]), Xa 2 45]) .ret)))
theorem d123 (s : ByteArray) (hs : (s.size : Int) ≤ 9223372036854775807) : Does Go.Proofs.Tryz.prog 123 [.v (.string s)] false (.v (.bool (nameOk s))) [.dead] := by
  refine does_intro (mc := m123) (N := 46) (rs := [2]) (fx := []) 1 rfl (by decide +kernel) ?_
  simp only [m123, EV, Nat.reduceEqDiff, Nat.reduceBEq, Nat.reduceLT, Nat.reduceLeDiff, Nat.reduceAdd, Nat.reduceSub, reduceIte]
  refine awp_loop (fun i : Nat => i ≤ s.size ∧ chsOk s i) (fun i => stl [(0, .v (.string s)), (3, .v (.int .i64 (i : Int)))]) (fun i => s.size - i) 0 ⟨by omega, fun j hj => absurd hj (by omega)⟩ ?_ ?_
  · simp only [EV, Nat.reduceEqDiff, Nat.reduceBEq, Nat.reduceLT, Nat.reduceLeDiff, Nat.reduceAdd, Nat.reduceSub, reduceIte]
    rfl
  · rintro i ⟨h0, h1⟩
    simp only [EV, Nat.reduceEqDiff, Nat.reduceBEq, Nat.reduceLT, Nat.reduceLeDiff, Nat.reduceAdd, Nat.reduceSub, reduceIte]
    refine cK_cut (fun h => ?_) (fun h => ?_)
    · have h2 : (i : Int) < s.size := by simpa using h
      simp only [h2, EV, Nat.reduceEqDiff, Nat.reduceBEq, Nat.reduceLT, Nat.reduceLeDiff, Nat.reduceAdd, Nat.reduceSub, reduceIte]
      refine awp_join (fun _ : Unit => True) (fun _ => stl [(0, .v (.string s)), (3, .v (.int .i64 (i : Int))), (4, .v (.int .u8 (sAt s i))), (5, .v (.bool (lett (sAt s i))))]) ?_ ?_
      · simp only [EV, Nat.reduceEqDiff, Nat.reduceBEq, Nat.reduceLT, Nat.reduceLeDiff, Nat.reduceAdd, Nat.reduceSub, reduceIte]
        repeat' (first
    | (refine gK_cut (fun h => ?_) (fun h => ?_) <;> simp only [h, EV, Nat.reduceEqDiff, Nat.reduceBEq, Nat.reduceLT, Nat.reduceLeDiff, Nat.reduceAdd, Nat.reduceSub, reduceIte])
    | (refine cK_cut (fun h => ?_) (fun h => ?_) <;> simp only [h, EV, Nat.reduceEqDiff, Nat.reduceBEq, Nat.reduceLT, Nat.reduceLeDiff, Nat.reduceAdd, Nat.reduceSub, reduceIte]))
        all_goals refine ⟨(), ?_⟩
        all_goals simp only [lett, *, Bool.or_true, Bool.true_or, Bool.false_or, Bool.or_false, EV, Nat.reduceEqDiff, Nat.reduceBEq, Nat.reduceLT, Nat.reduceLeDiff, Nat.reduceAdd, Nat.reduceSub, reduceIte]
      · rintro _ _
        simp only [EV, Nat.reduceEqDiff, Nat.reduceBEq, Nat.reduceLT, Nat.reduceLeDiff, Nat.reduceAdd, Nat.reduceSub, reduceIte]
        repeat' (first
    | (refine gK_cut (fun h => ?_) (fun h => ?_) <;> simp only [h, EV, Nat.reduceEqDiff, Nat.reduceBEq, Nat.reduceLT, Nat.reduceLeDiff, Nat.reduceAdd, Nat.reduceSub, reduceIte])
    | (refine cK_cut (fun h => ?_) (fun h => ?_) <;> simp only [h, EV, Nat.reduceEqDiff, Nat.reduceBEq, Nat.reduceLT, Nat.reduceLeDiff, Nat.reduceAdd, Nat.reduceSub, reduceIte]))
        all_goals first
          | (have hc : chOk s i = false := by
               simp_all [chOk, digt] <;> omega
             simp only [nameOk_no (by omega) hc, EV, Nat.reduceEqDiff, Nat.reduceBEq, Nat.reduceLT, Nat.reduceLeDiff, Nat.reduceAdd, Nat.reduceSub, reduceIte, evRE, retVC, cellV', evR, nfz, nfzs, nfzss, List.contains_nil, List.contains_cons, Bool.or_false, or_true]
             done)
          | (have hc : chOk s i = true := by
               simp_all [chOk, digt] <;> omega
             rw [w64 _ (by omega)]
             exact ⟨i + 1, ⟨by omega, chsOk_succ h1 hc⟩, by omega, rfl⟩)
    · have h2 : i = s.size := by have : ¬ (i : Int) < s.size := by simpa using h
                                 omega
      subst h2
      simp only [EV, Nat.reduceEqDiff, Nat.reduceBEq, Nat.reduceLT, Nat.reduceLeDiff, Nat.reduceAdd, Nat.reduceSub, reduceIte]
      refine callK_i (d172 _ _ _) ?_
      simp only [EV, Nat.reduceEqDiff, Nat.reduceBEq, Nat.reduceLT, Nat.reduceLeDiff, Nat.reduceAdd, Nat.reduceSub, reduceIte]
      simp only [nameOk_yes h1, EV, Nat.reduceEqDiff, Nat.reduceBEq, Nat.reduceLT, Nat.reduceLeDiff, Nat.reduceAdd, Nat.reduceSub, reduceIte, evRE, retVC, cellV', evR, nfz, nfzs, nfzss, List.contains_nil, List.contains_cons, Bool.or_false, or_true]
def m143 : MC :=
 (.seq (.reg [Xb 2 (.asg .fb)]) (.seq (.seq (.reg [Xm 4 0, Xq 5 (.len true (.t 4)), Xq 6 (.mov (.i 0))]) (.block 0 (.loop [0, 5, 6] (.seq (.reg [Xq 7 (.bin false .lss (.t 6) (.t 5))]) (.seq (.cond (.t 7) .skip (.exit 0)) (.seq (.block 1 (.seq (.reg [Xm 8 6, Xa 3 8]) (.seq (.reg [Xm 9 0, Xm 10 3, Xq 11 (.idx (.t 9) (.t 10)), Xb 12 (.call (.fn 208) false [.lend (.t 11)]), Xq 13 (.un .not (.t 12)), Xm
 14 13, Xt 15 14 (.mov (.t 3)), Xt 16 14 (.bin false .eql (.t 15) (.i 0)), Xt 17 14 (.mov (.t 16)), Xu 18 17 (.mov (.t 0)), Xu 19 17 (.mov (.t 3)), Xu 20 17 (.idx (.t 18) (.t 19)), XU 21 17 (.call (.fn 209) false [.lend (.t 20)]), Xu 22 17 (.un .not (.t 21)), Xt 23 14 (.pick (.t 17) .tb (.t 22)), Xq 24 (.pick (.t 14) (.t 23) .fb)]) (.cond (.t 24) (.seq (.reg [Xb 2 (.asg .fb)]) .ret) .skip)))) (.reg
 [Xq 25 (.bin false .add (.t 6) (.i 1)), Xm 6 25]))))))) (.seq (.reg [Xm 26 0, Xq 27 (.len true (.t 26)), Xb 28 (.call (.fn 171) false [.lend (.t 27), .lend (.i 1), .lend (.i 10)]), Xa 2 28]) .ret)))
theorem d143 (s : ByteArray) (hs : (s.size : Int) ≤ 9223372036854775807) : Does Go.Proofs.Tryz.prog 143 [.v (.string s)] false (.v (.bool (nameOk s))) [.dead] := by
  refine does_intro (mc := m143) (N := 29) (rs := [2]) (fx := []) 1 rfl (by decide +kernel) ?_
  simp only [m143, EV, Nat.reduceEqDiff, Nat.reduceBEq, Nat.reduceLT, Nat.reduceLeDiff, Nat.reduceAdd, Nat.reduceSub, reduceIte]
  refine awp_loop (fun i : Nat => i ≤ s.size ∧ chsOk s i) (fun i => stl [(0, .v (.string s)), (5, .v (.int .i64 (s.size : Int))), (6, .v (.int .i64 (i : Int)))]) (fun i => s.size - i) 0 ⟨by omega, fun j hj => absurd hj (by omega)⟩ ?_ ?_
  · simp only [EV, Nat.reduceEqDiff, Nat.reduceBEq, Nat.reduceLT, Nat.reduceLeDiff, Nat.reduceAdd, Nat.reduceSub, reduceIte]
    rfl
  · rintro i ⟨h0, h1⟩
    simp only [EV, Nat.reduceEqDiff, Nat.reduceBEq, Nat.reduceLT, Nat.reduceLeDiff, Nat.reduceAdd, Nat.reduceSub, reduceIte]
    refine cK_cut (fun h => ?_) (fun h => ?_)
    · have h2 : (i : Int) < s.size := by simpa using h
      simp only [h2, EV, Nat.reduceEqDiff, Nat.reduceBEq, Nat.reduceLT, Nat.reduceLeDiff, Nat.reduceAdd, Nat.reduceSub, reduceIte]
      refine callK_i (d208 _) ?_
      simp only [EV, Nat.reduceEqDiff, Nat.reduceBEq, Nat.reduceLT, Nat.reduceLeDiff, Nat.reduceAdd, Nat.reduceSub, reduceIte]
      repeat' (first
    | (refine gK_cut (fun h => ?_) (fun h => ?_) <;> simp only [h, h2, EV, Nat.reduceEqDiff, Nat.reduceBEq, Nat.reduceLT, Nat.reduceLeDiff, Nat.reduceAdd, Nat.reduceSub, reduceIte])
    | (refine cK_cut (fun h => ?_) (fun h => ?_) <;> simp only [h, h2, EV, Nat.reduceEqDiff, Nat.reduceBEq, Nat.reduceLT, Nat.reduceLeDiff, Nat.reduceAdd, Nat.reduceSub, reduceIte])
    | (refine callK_i (d209 _) ?_ <;> simp only [h, h2, EV, Nat.reduceEqDiff, Nat.reduceBEq, Nat.reduceLT, Nat.reduceLeDiff, Nat.reduceAdd, Nat.reduceSub, reduceIte]))
      all_goals first
          | (have hc : chOk s i = false := by
               simp_all [chOk]
             simp only [nameOk_no (by omega) hc, EV, Nat.reduceEqDiff, Nat.reduceBEq, Nat.reduceLT, Nat.reduceLeDiff, Nat.reduceAdd, Nat.reduceSub, reduceIte, evRE, retVC, cellV', evR, nfz, nfzs, nfzss, List.contains_nil, List.contains_cons, Bool.or_false, or_true]
             done)
          | (have hc : chOk s i = true := by
               simp_all [chOk] <;> omega
             rw [w64 _ (by omega)]
             exact ⟨i + 1, ⟨by omega, chsOk_succ h1 hc⟩, by omega, rfl⟩)
    · have h2 : i = s.size := by have : ¬ (i : Int) < s.size := by simpa using h
                                 omega
      subst h2
      simp only [EV, Nat.reduceEqDiff, Nat.reduceBEq, Nat.reduceLT, Nat.reduceLeDiff, Nat.reduceAdd, Nat.reduceSub, reduceIte]
      refine callK_i (d171 _ _ _) ?_
      simp only [EV, Nat.reduceEqDiff, Nat.reduceBEq, Nat.reduceLT, Nat.reduceLeDiff, Nat.reduceAdd, Nat.reduceSub, reduceIte]
      simp only [nameOk_yes h1, EV, Nat.reduceEqDiff, Nat.reduceBEq, Nat.reduceLT, Nat.reduceLeDiff, Nat.reduceAdd, Nat.reduceSub, reduceIte, evRE, retVC, cellV', evR, nfz, nfzs, nfzss, List.contains_nil, List.contains_cons, Bool.or_false, or_true]
end Go.AM
namespace Go.AM
set_option linter.unusedVariables false
set_option linter.unusedSimpArgs false
structure Fd where
  name : ByteArray
  mark : Int
  typ : Int
def Fd.z (s : Fd) : List AV := [.v (.string s.name), .v (.int .i64 s.mark), .v (.int .i64 s.typ)]
def Fd.o (s : Fd) : List AV := [.v (.string s.name), .v (.int .i64 s.mark), .v (.int .i64 s.typ)]
theorem Fd.fr (s : Fd) : frzRow s.o = s.z := by
  simp only [Fd.o, Fd.z, frzRow, frzL, List.cons_append, List.nil_append]
theorem Fd.frz : ∀ l : List Fd, frzRows (l.map Fd.o) = l.map Fd.z
  | [] => rfl
  | s :: l => by simp only [List.map_cons, frzRows, Fd.fr, Fd.frz l]
theorem Fd.nf (s : Fd) : nfzs s.o = true := by
  simp only [Fd.o, nfzs, nfz, List.cons_append, List.nil_append, Bool.and_self]
theorem Fd.nfz : ∀ l : List Fd, nfzss (l.map Fd.o) = true
  | [] => rfl
  | s :: l => by simp only [List.map_cons, nfzss, Fd.nf, Fd.nfz l, Bool.and_self]
theorem FdE : (∀ f : Fd, f.z.length = 3) ∧ (∀ f : Fd, f.z.take 3 = f.z) ∧ (∀ (st : St) (f : Fd), frzBs st f.z = f.z) ∧ (∀ f : Fd, bares f.z = true) ∧ (∀ f : Fd, plains f.z = true) ∧
    (∀ (f : Fd) (K : Nat → List (Nat × Nat) → Bool), killVs K f.z = f.z) ∧ (∀ f : Fd, f.z.all storL = true) ∧ (∀ f : Fd, f.o.length = 3) ∧ (∀ f : Fd, f.o.take 3 = f.o) ∧ (∀ f : Fd, bares f.o = true) ∧
    (∀ f : Fd, plains f.o = true) ∧ (∀ (f : Fd) (K : Nat → List (Nat × Nat) → Bool), killVs K f.o = f.o) ∧ (∀ f : Fd, f.o.all storL = true) :=
  ⟨fun _ => rfl, fun _ => rfl, fun _ _ => rfl, fun _ => rfl, fun _ => rfl, fun _ _ => rfl, fun _ => rfl, fun _ => rfl, fun _ => rfl, fun _ => rfl, fun _ => rfl, fun _ _ => rfl, fun _ => rfl⟩
def Fd.sm (s : Fd) : Prop := (s.name.size : Int) ≤ 1048576 ∧ True ∧ True
end Go.AM
namespace Go.AM
set_option linter.unusedVariables false
set_option linter.unusedSimpArgs false
structure Ty where
  kind : Int
  long : Int
  base : Int
  fields : List Fd
  owner : ByteArray
  name : ByteArray
def Ty.z (s : Ty) : List AV := [.v (.int .i64 s.kind), .v (.int .i64 s.long), .v (.int .i64 s.base), .fsl 3 (s.fields.map Fd.z), .v (.string s.owner), .v (.string s.name)]
def Ty.o (s : Ty) : List AV := [.v (.int .i64 s.kind), .v (.int .i64 s.long), .v (.int .i64 s.base), .usl 138 3 (s.fields.map Fd.o), .v (.string s.owner), .v (.string s.name)]
theorem Ty.fr (s : Ty) : frzRow s.o = s.z := by
  simp only [Ty.o, Ty.z, frzRow, frzL, List.cons_append, List.nil_append, Fd.frz]
theorem Ty.frz : ∀ l : List Ty, frzRows (l.map Ty.o) = l.map Ty.z
  | [] => rfl
  | s :: l => by simp only [List.map_cons, frzRows, Ty.fr, Ty.frz l]
theorem Ty.nf (s : Ty) : nfzs s.o = true := by
  simp only [Ty.o, nfzs, nfz, List.cons_append, List.nil_append, Bool.and_self, Fd.nfz]
theorem Ty.nfz : ∀ l : List Ty, nfzss (l.map Ty.o) = true
  | [] => rfl
  | s :: l => by simp only [List.map_cons, nfzss, Ty.nf, Ty.nfz l, Bool.and_self]
theorem TyE : (∀ f : Ty, f.z.length = 6) ∧ (∀ f : Ty, f.z.take 6 = f.z) ∧ (∀ (st : St) (f : Ty), frzBs st f.z = f.z) ∧ (∀ f : Ty, bares f.z = true) ∧ (∀ f : Ty, plains f.z = true) ∧
    (∀ (f : Ty) (K : Nat → List (Nat × Nat) → Bool), killVs K f.z = f.z) ∧ (∀ f : Ty, f.z.all storL = true) ∧ (∀ f : Ty, f.o.length = 6) ∧ (∀ f : Ty, f.o.take 6 = f.o) ∧ (∀ f : Ty, bares f.o = false) ∧
    (∀ f : Ty, plains f.o = false) ∧ (∀ (f : Ty) (K : Nat → List (Nat × Nat) → Bool), killVs K f.o = f.o) ∧ (∀ f : Ty, f.o.all storL = true) :=
  ⟨fun _ => rfl, fun _ => rfl, fun _ _ => rfl, fun _ => rfl, fun _ => rfl, fun _ _ => rfl, fun _ => rfl, fun _ => rfl, fun _ => rfl, fun _ => rfl, fun _ => rfl, fun _ _ => rfl, fun _ => rfl⟩
def Ty.sm (s : Ty) : Prop := True ∧ True ∧ True ∧ ((s.fields.length : Int) ≤ 1048576 ∧ ∀ y ∈ s.fields, y.sm) ∧ (s.owner.size : Int) ≤ 1048576 ∧ (s.name.size : Int) ≤ 1048576
end Go.AM
namespace Go.AM
set_option linter.unusedVariables false
set_option linter.unusedSimpArgs false
structure Par where
  name : ByteArray
  byvar : Bool
  typ : Int
def Par.z (s : Par) : List AV := [.v (.string s.name), .v (.bool s.byvar), .v (.int .i64 s.typ)]
def Par.o (s : Par) : List AV := [.v (.string s.name), .v (.bool s.byvar), .v (.int .i64 s.typ)]
theorem Par.fr (s : Par) : frzRow s.o = s.z := by
  simp only [Par.o, Par.z, frzRow, frzL, List.cons_append, List.nil_append]
theorem Par.frz : ∀ l : List Par, frzRows (l.map Par.o) = l.map Par.z
  | [] => rfl
  | s :: l => by simp only [List.map_cons, frzRows, Par.fr, Par.frz l]
theorem Par.nf (s : Par) : nfzs s.o = true := by
  simp only [Par.o, nfzs, nfz, List.cons_append, List.nil_append, Bool.and_self]
theorem Par.nfz : ∀ l : List Par, nfzss (l.map Par.o) = true
  | [] => rfl
  | s :: l => by simp only [List.map_cons, nfzss, Par.nf, Par.nfz l, Bool.and_self]
theorem ParE : (∀ f : Par, f.z.length = 3) ∧ (∀ f : Par, f.z.take 3 = f.z) ∧ (∀ (st : St) (f : Par), frzBs st f.z = f.z) ∧ (∀ f : Par, bares f.z = true) ∧ (∀ f : Par, plains f.z = true) ∧
    (∀ (f : Par) (K : Nat → List (Nat × Nat) → Bool), killVs K f.z = f.z) ∧ (∀ f : Par, f.z.all storL = true) ∧ (∀ f : Par, f.o.length = 3) ∧ (∀ f : Par, f.o.take 3 = f.o) ∧ (∀ f : Par, bares f.o = true) ∧
    (∀ f : Par, plains f.o = true) ∧ (∀ (f : Par) (K : Nat → List (Nat × Nat) → Bool), killVs K f.o = f.o) ∧ (∀ f : Par, f.o.all storL = true) :=
  ⟨fun _ => rfl, fun _ => rfl, fun _ _ => rfl, fun _ => rfl, fun _ => rfl, fun _ _ => rfl, fun _ => rfl, fun _ => rfl, fun _ => rfl, fun _ => rfl, fun _ => rfl, fun _ _ => rfl, fun _ => rfl⟩
def Par.sm (s : Par) : Prop := (s.name.size : Int) ≤ 1048576 ∧ True ∧ True
end Go.AM
namespace Go.AM
set_option linter.unusedVariables false
set_option linter.unusedSimpArgs false
structure Ob where
  name : ByteArray
  kind : Int
  mark : Int
  typ : Int
  value : Int
  params : List Par
def Ob.z (s : Ob) : List AV := [.v (.string s.name), .v (.int .i64 s.kind), .v (.int .i64 s.mark), .v (.int .i64 s.typ), .v (.int .i64 s.value), .fsl 3 (s.params.map Par.z)]
def Ob.o (s : Ob) : List AV := [.v (.string s.name), .v (.int .i64 s.kind), .v (.int .i64 s.mark), .v (.int .i64 s.typ), .v (.int .i64 s.value), .usl 182 3 (s.params.map Par.o)]
theorem Ob.fr (s : Ob) : frzRow s.o = s.z := by
  simp only [Ob.o, Ob.z, frzRow, frzL, List.cons_append, List.nil_append, Par.frz]
theorem Ob.frz : ∀ l : List Ob, frzRows (l.map Ob.o) = l.map Ob.z
  | [] => rfl
  | s :: l => by simp only [List.map_cons, frzRows, Ob.fr, Ob.frz l]
theorem Ob.nf (s : Ob) : nfzs s.o = true := by
  simp only [Ob.o, nfzs, nfz, List.cons_append, List.nil_append, Bool.and_self, Par.nfz]
theorem Ob.nfz : ∀ l : List Ob, nfzss (l.map Ob.o) = true
  | [] => rfl
  | s :: l => by simp only [List.map_cons, nfzss, Ob.nf, Ob.nfz l, Bool.and_self]
theorem ObE : (∀ f : Ob, f.z.length = 6) ∧ (∀ f : Ob, f.z.take 6 = f.z) ∧ (∀ (st : St) (f : Ob), frzBs st f.z = f.z) ∧ (∀ f : Ob, bares f.z = true) ∧ (∀ f : Ob, plains f.z = true) ∧
    (∀ (f : Ob) (K : Nat → List (Nat × Nat) → Bool), killVs K f.z = f.z) ∧ (∀ f : Ob, f.z.all storL = true) ∧ (∀ f : Ob, f.o.length = 6) ∧ (∀ f : Ob, f.o.take 6 = f.o) ∧ (∀ f : Ob, bares f.o = false) ∧
    (∀ f : Ob, plains f.o = false) ∧ (∀ (f : Ob) (K : Nat → List (Nat × Nat) → Bool), killVs K f.o = f.o) ∧ (∀ f : Ob, f.o.all storL = true) :=
  ⟨fun _ => rfl, fun _ => rfl, fun _ _ => rfl, fun _ => rfl, fun _ => rfl, fun _ _ => rfl, fun _ => rfl, fun _ => rfl, fun _ => rfl, fun _ => rfl, fun _ => rfl, fun _ _ => rfl, fun _ => rfl⟩
def Ob.sm (s : Ob) : Prop := (s.name.size : Int) ≤ 1048576 ∧ True ∧ True ∧ True ∧ True ∧ ((s.params.length : Int) ≤ 1048576 ∧ ∀ y ∈ s.params, y.sm)
end Go.AM
namespace Go.AM
set_option linter.unusedVariables false
set_option linter.unusedSimpArgs false
structure Us where
  mod : ByteArray
  name : ByteArray
def Us.z (s : Us) : List AV := [.v (.string s.mod), .v (.string s.name)]
def Us.o (s : Us) : List AV := [.v (.string s.mod), .v (.string s.name)]
theorem Us.fr (s : Us) : frzRow s.o = s.z := by
  simp only [Us.o, Us.z, frzRow, frzL, List.cons_append, List.nil_append]
theorem Us.frz : ∀ l : List Us, frzRows (l.map Us.o) = l.map Us.z
  | [] => rfl
  | s :: l => by simp only [List.map_cons, frzRows, Us.fr, Us.frz l]
theorem Us.nf (s : Us) : nfzs s.o = true := by
  simp only [Us.o, nfzs, nfz, List.cons_append, List.nil_append, Bool.and_self]
theorem Us.nfz : ∀ l : List Us, nfzss (l.map Us.o) = true
  | [] => rfl
  | s :: l => by simp only [List.map_cons, nfzss, Us.nf, Us.nfz l, Bool.and_self]
theorem UsE : (∀ f : Us, f.z.length = 2) ∧ (∀ f : Us, f.z.take 2 = f.z) ∧ (∀ (st : St) (f : Us), frzBs st f.z = f.z) ∧ (∀ f : Us, bares f.z = true) ∧ (∀ f : Us, plains f.z = true) ∧
    (∀ (f : Us) (K : Nat → List (Nat × Nat) → Bool), killVs K f.z = f.z) ∧ (∀ f : Us, f.z.all storL = true) ∧ (∀ f : Us, f.o.length = 2) ∧ (∀ f : Us, f.o.take 2 = f.o) ∧ (∀ f : Us, bares f.o = true) ∧
    (∀ f : Us, plains f.o = true) ∧ (∀ (f : Us) (K : Nat → List (Nat × Nat) → Bool), killVs K f.o = f.o) ∧ (∀ f : Us, f.o.all storL = true) :=
  ⟨fun _ => rfl, fun _ => rfl, fun _ _ => rfl, fun _ => rfl, fun _ => rfl, fun _ _ => rfl, fun _ => rfl, fun _ => rfl, fun _ => rfl, fun _ => rfl, fun _ => rfl, fun _ _ => rfl, fun _ => rfl⟩
def Us.sm (s : Us) : Prop := (s.mod.size : Int) ≤ 1048576 ∧ (s.name.size : Int) ≤ 1048576
structure Str where
  s : ByteArray
def Str.z (s : Str) : List AV := [.v (.string s.s)]
def Str.o (s : Str) : List AV := [.v (.string s.s)]
theorem Str.fr (s : Str) : frzRow s.o = s.z := by
  simp only [Str.o, Str.z, frzRow, frzL, List.cons_append, List.nil_append]
theorem Str.frz : ∀ l : List Str, frzRows (l.map Str.o) = l.map Str.z
  | [] => rfl
  | s :: l => by simp only [List.map_cons, frzRows, Str.fr, Str.frz l]
theorem Str.nf (s : Str) : nfzs s.o = true := by
  simp only [Str.o, nfzs, nfz, List.cons_append, List.nil_append, Bool.and_self]
theorem Str.nfz : ∀ l : List Str, nfzss (l.map Str.o) = true
  | [] => rfl
  | s :: l => by simp only [List.map_cons, nfzss, Str.nf, Str.nfz l, Bool.and_self]
def Str.sm (s : Str) : Prop := (s.s.size : Int) ≤ 1048576
end Go.AM
namespace Go.AM
set_option linter.unusedVariables false
set_option linter.unusedSimpArgs false
theorem pbeq (a b c d : Nat) : ((a, b) == (c, d)) = (a == c && b == d) := rfl
structure Scope where
  name : ByteArray
  imports : List Str
  types : List Ty
  objects : List Ob
  uses : List Us
def Scope.z (s : Scope) : List AV := [.v (.string s.name), .fsl 1 (s.imports.map Str.z), .fsl 6 (s.types.map Ty.z), .fsl 6 (s.objects.map Ob.z), .fsl 2 (s.uses.map Us.z)]
def Scope.o (s : Scope) : List AV := [.v (.string s.name), .usl 9 1 (s.imports.map Str.o), .usl 129 6 (s.types.map Ty.o), .usl 69 6 (s.objects.map Ob.o), .usl 132 2 (s.uses.map Us.o)]
def Scope.zr : List AV := [.v (.string ⟨#[]⟩), .usl 9 1 [], .usl 129 6 [], .usl 69 6 [], .usl 132 2 []]
def Scope.sm (s : Scope) : Prop := (s.name.size : Int) ≤ 1048576 ∧ ((s.imports.length : Int) ≤ 1048576 ∧ ∀ y ∈ s.imports, y.sm) ∧ ((s.types.length : Int) ≤ 1048576 ∧ ∀ y ∈ s.types, y.sm) ∧ ((s.objects.length : Int) ≤ 1048576 ∧ ∀ y ∈ s.objects, y.sm) ∧ ((s.uses.length : Int) ≤ 1048576 ∧ ∀ y ∈ s.uses, y.sm)
end Go.AM
namespace Go.AM
set_option linter.unusedVariables false
set_option linter.unusedSimpArgs false
def eqTo {α : Type} (q : α → α → Bool) (a b : List α) (n : Nat) : Prop := ∀ j (ha : j < a.length) (hb : j < b.length), j < n → q a[j] b[j] = true
open Classical in
noncomputable def eqL {α : Type} (q : α → α → Bool) (a b : List α) : Bool := decide (a.length = b.length ∧ eqTo q a b a.length)
theorem eqTo_succ {α : Type} {q : α → α → Bool} {a b : List α} {i : Nat} {h1 : i < a.length} {h2 : i < b.length} (h : eqTo q a b i) (hq : q a[i] b[i] = true) : eqTo q a b (i + 1) := by
  intro j ha hb hj
  by_cases e : j = i
  · subst e; exact hq
  · exact h j ha hb (by omega)
theorem eqL_ne {α : Type} {q : α → α → Bool} {a b : List α} (h : ¬ a.length = b.length) : eqL q a b = false := by
  simp only [eqL, decide_eq_false_iff_not]
  rintro ⟨h1, _⟩
  exact h h1
theorem eqL_no {α : Type} {q : α → α → Bool} {a b : List α} {i : Nat} (h1 : i < a.length) (h2 : i < b.length) (hq : q a[i] b[i] = false) : eqL q a b = false := by
  simp only [eqL, decide_eq_false_iff_not]
  rintro ⟨_, h⟩
  have := h i h1 h2 h1
  rw [hq] at this; cases this
theorem eqL_yes {α : Type} {q : α → α → Bool} {a b : List α} (h : a.length = b.length) (h2 : eqTo q a b a.length) : eqL q a b = true := by
  simp only [eqL, decide_eq_true_eq]
  exact ⟨h, h2⟩
def qStr (x y : Str) : Bool := x.s.toList == y.s.toList
def qFd (x y : Fd) : Bool := x.name.toList == y.name.toList && (x.mark == y.mark && (x.typ == y.typ))
def qPar (x y : Par) : Bool := x.name.toList == y.name.toList && (x.byvar == y.byvar && (x.typ == y.typ))
def qUs (x y : Us) : Bool := x.mod.toList == y.mod.toList && (x.name.toList == y.name.toList)
def m162 : MC :=
 (.seq (.reg [Xb 4 (.asg .fb)]) (.seq (.seq (.reg [Xm 6 0, Xn 7 6, Xm 8 1, Xn 9 8, Xq 10 (.bin false .neq (.t 7) (.t 9))]) (.cond (.t 10) (.seq (.reg [Xb 4 (.asg .fb)]) .ret) .skip)) (.seq (.seq (.reg [Xm 11 0, Xn 12 11, Xq 13 (.mov (.i 0))]) (.block 0 (.loop [0, 1, 12, 13] (.seq (.reg [Xq 14 (.bin false .lss (.t 13) (.t 12))]) (.seq (.cond (.t 14) .skip (.exit 0)) (.seq (.block 1 (.seq (.reg [Xm
 15 13, Xa 5 15]) (.seq (.dreg [Xm 16 0, Xm 17 5, Xi 18 1 16 17, Xl 19 1 18, Xm 20 1, Xm 21 5, Xi 22 1 20 21, Xl 23 1 22, Xq 24 (.bin false .neq (.t 19) (.t 23))]) (.cond (.t 24) (.seq (.reg [Xb 4 (.asg .fb)]) .ret) .skip)))) (.reg [Xq 25 (.bin false .add (.t 13) (.i 1)), Xm 13 25]))))))) (.seq (.reg [Xb 4 (.asg .tb)]) .ret))))
theorem d162 (a b : List Str) (ha : (a.length : Int) ≤ 1048576) (hb : (b.length : Int) ≤ 1048576) : Does Go.Proofs.Tryz.prog 162 [.fsl 1 (a.map Str.z), .fsl 1 (b.map Str.z)] false (.v (.bool (eqL qStr a b))) [.dead, .dead] := by
  refine does_intro (mc := m162) (N := 26) (rs := [4]) (fx := []) 2 rfl (by decide +kernel) ?_
  simp only [m162, EV, Nat.reduceEqDiff, Nat.reduceBEq, Nat.reduceLT, Nat.reduceLeDiff, Nat.reduceAdd, Nat.reduceSub, reduceIte]
  refine cK_cut (fun h => ?_) (fun h => ?_)
  · have h1 : ¬ a.length = b.length := by
      intro e; simp [e] at h
    simp only [EV, Nat.reduceEqDiff, Nat.reduceBEq, Nat.reduceLT, Nat.reduceLeDiff, Nat.reduceAdd, Nat.reduceSub, reduceIte]
    simp only [eqL_ne h1, EV, Nat.reduceEqDiff, Nat.reduceBEq, Nat.reduceLT, Nat.reduceLeDiff, Nat.reduceAdd, Nat.reduceSub, reduceIte, evRE, retVC, cellV', evR, nfz, nfzs, nfzss, List.contains_nil, List.contains_cons, Bool.or_false, or_true]
  · have hl : a.length = b.length := by
      have : ((a.length : Int) = b.length) := by simpa using h
      omega
    simp only [EV, Nat.reduceEqDiff, Nat.reduceBEq, Nat.reduceLT, Nat.reduceLeDiff, Nat.reduceAdd, Nat.reduceSub, reduceIte]
    refine awp_loop (fun i : Nat => i ≤ a.length ∧ eqTo qStr a b i) (fun i => stl [(0, .fsl 1 (a.map Str.z)), (1, .fsl 1 (b.map Str.z)), (12, .v (.int .i64 (a.length : Int))), (13, .v (.int .i64 (i : Int)))]) (fun i => a.length - i) 0 ⟨Nat.zero_le _, fun j _ _ h => absurd h (by omega)⟩ ?_ ?_
    · simp only [EV, Nat.reduceEqDiff, Nat.reduceBEq, Nat.reduceLT, Nat.reduceLeDiff, Nat.reduceAdd, Nat.reduceSub, reduceIte]
      rfl
    · rintro i ⟨hi, hto⟩
      simp only [EV, Nat.reduceEqDiff, Nat.reduceBEq, Nat.reduceLT, Nat.reduceLeDiff, Nat.reduceAdd, Nat.reduceSub, reduceIte]
      refine cK_cut (fun h => ?_) (fun h => ?_)
      · have h1 : i < a.length := by simpa using h
        have h2 : (i : Int) < (a.length : Int) := by omega
        have g1 : i < b.length := by omega
        have g2 : (i : Int) < (b.length : Int) := by omega
        simp only [nth_map h1, nth_map g1, h2, g2, Str.z, Bool.true_xor, EV, Nat.reduceEqDiff, Nat.reduceBEq, Nat.reduceLT, Nat.reduceLeDiff, Nat.reduceAdd, Nat.reduceSub, reduceIte]
        refine cK_cut (fun h => ?_) (fun h => ?_)
        · have hq : qStr a[i] b[i] = false := by unfold qStr; simp only [Bool.not_eq_true'] at h; exact h
          simp only [EV, Nat.reduceEqDiff, Nat.reduceBEq, Nat.reduceLT, Nat.reduceLeDiff, Nat.reduceAdd, Nat.reduceSub, reduceIte]
          simp only [eqL_no h1 g1 hq, EV, Nat.reduceEqDiff, Nat.reduceBEq, Nat.reduceLT, Nat.reduceLeDiff, Nat.reduceAdd, Nat.reduceSub, reduceIte, evRE, retVC, cellV', evR, nfz, nfzs, nfzss, List.contains_nil, List.contains_cons, Bool.or_false, or_true]
        · have hq : qStr a[i] b[i] = true := by unfold qStr; simp only [Bool.not_eq_false'] at h; exact h
          simp only [EV, Nat.reduceEqDiff, Nat.reduceBEq, Nat.reduceLT, Nat.reduceLeDiff, Nat.reduceAdd, Nat.reduceSub, reduceIte]
          rw [w64 _ (by omega)]
          exact ⟨i + 1, ⟨by omega, eqTo_succ hto hq⟩, by omega, rfl⟩
      · have h1 : i = a.length := by have : ¬ (i : Int) < a.length := by simpa using h
                                     omega
        subst h1
        simp only [EV, Nat.reduceEqDiff, Nat.reduceBEq, Nat.reduceLT, Nat.reduceLeDiff, Nat.reduceAdd, Nat.reduceSub, reduceIte]
        simp only [eqL_yes hl hto, EV, Nat.reduceEqDiff, Nat.reduceBEq, Nat.reduceLT, Nat.reduceLeDiff, Nat.reduceAdd, Nat.reduceSub, reduceIte, evRE, retVC, cellV', evR, nfz, nfzs, nfzss, List.contains_nil, List.contains_cons, Bool.or_false, or_true]
def m87 : MC :=
 (.seq (.reg [Xb 4 (.asg .fb)]) (.seq (.seq (.reg [Xm 6 0, Xn 7 6, Xm 8 1, Xn 9 8, Xq 10 (.bin false .neq (.t 7) (.t 9))]) (.cond (.t 10) (.seq (.reg [Xb 4 (.asg .fb)]) .ret) .skip)) (.seq (.seq (.reg [Xm 11 0, Xn 12 11, Xq 13 (.mov (.i 0))]) (.block 0 (.loop [0, 1, 12, 13] (.seq (.reg [Xq 14 (.bin false .lss (.t 13) (.t 12))]) (.seq (.cond (.t 14) .skip (.exit 0)) (.seq (.block 1 (.seq (.reg [Xm
 15 13, Xa 5 15]) (.seq (.dreg [Xm 16 0, Xm 17 5, Xi 18 1 16 17, Xl 19 1 18, Xm 20 1, Xm 21 5, Xi 22 1 20 21, Xl 23 1 22, Xq 24 (.bin false .neq (.t 19) (.t 23))]) (.cond (.t 24) (.seq (.reg [Xb 4 (.asg .fb)]) .ret) .skip)))) (.reg [Xq 25 (.bin false .add (.t 13) (.i 1)), Xm 13 25]))))))) (.seq (.reg [Xb 4 (.asg .tb)]) .ret))))
theorem d87 (a b : List Str) (ha : (a.length : Int) ≤ 1048576) (hb : (b.length : Int) ≤ 1048576) : Does Go.Proofs.Tryz.prog 87 [.fsl 1 (a.map Str.z), .fsl 1 (b.map Str.z)] false (.v (.bool (eqL qStr a b))) [.dead, .dead] := by
  refine does_intro (mc := m87) (N := 26) (rs := [4]) (fx := []) 2 rfl (by decide +kernel) ?_
  simp only [m87, EV, Nat.reduceEqDiff, Nat.reduceBEq, Nat.reduceLT, Nat.reduceLeDiff, Nat.reduceAdd, Nat.reduceSub, reduceIte]
  refine cK_cut (fun h => ?_) (fun h => ?_)
  · have h1 : ¬ a.length = b.length := by
      intro e; simp [e] at h
    simp only [EV, Nat.reduceEqDiff, Nat.reduceBEq, Nat.reduceLT, Nat.reduceLeDiff, Nat.reduceAdd, Nat.reduceSub, reduceIte]
    simp only [eqL_ne h1, EV, Nat.reduceEqDiff, Nat.reduceBEq, Nat.reduceLT, Nat.reduceLeDiff, Nat.reduceAdd, Nat.reduceSub, reduceIte, evRE, retVC, cellV', evR, nfz, nfzs, nfzss, List.contains_nil, List.contains_cons, Bool.or_false, or_true]
  · have hl : a.length = b.length := by
      have : ((a.length : Int) = b.length) := by simpa using h
      omega
    simp only [EV, Nat.reduceEqDiff, Nat.reduceBEq, Nat.reduceLT, Nat.reduceLeDiff, Nat.reduceAdd, Nat.reduceSub, reduceIte]
    refine awp_loop (fun i : Nat => i ≤ a.length ∧ eqTo qStr a b i) (fun i => stl [(0, .fsl 1 (a.map Str.z)), (1, .fsl 1 (b.map Str.z)), (12, .v (.int .i64 (a.length : Int))), (13, .v (.int .i64 (i : Int)))]) (fun i => a.length - i) 0 ⟨Nat.zero_le _, fun j _ _ h => absurd h (by omega)⟩ ?_ ?_
    · simp only [EV, Nat.reduceEqDiff, Nat.reduceBEq, Nat.reduceLT, Nat.reduceLeDiff, Nat.reduceAdd, Nat.reduceSub, reduceIte]
      rfl
    · rintro i ⟨hi, hto⟩
      simp only [EV, Nat.reduceEqDiff, Nat.reduceBEq, Nat.reduceLT, Nat.reduceLeDiff, Nat.reduceAdd, Nat.reduceSub, reduceIte]
      refine cK_cut (fun h => ?_) (fun h => ?_)
      · have h1 : i < a.length := by simpa using h
        have h2 : (i : Int) < (a.length : Int) := by omega
        have g1 : i < b.length := by omega
        have g2 : (i : Int) < (b.length : Int) := by omega
        simp only [nth_map h1, nth_map g1, h2, g2, Str.z, Bool.true_xor, EV, Nat.reduceEqDiff, Nat.reduceBEq, Nat.reduceLT, Nat.reduceLeDiff, Nat.reduceAdd, Nat.reduceSub, reduceIte]
        refine cK_cut (fun h => ?_) (fun h => ?_)
        · have hq : qStr a[i] b[i] = false := by unfold qStr; simp only [Bool.not_eq_true'] at h; exact h
          simp only [EV, Nat.reduceEqDiff, Nat.reduceBEq, Nat.reduceLT, Nat.reduceLeDiff, Nat.reduceAdd, Nat.reduceSub, reduceIte]
          simp only [eqL_no h1 g1 hq, EV, Nat.reduceEqDiff, Nat.reduceBEq, Nat.reduceLT, Nat.reduceLeDiff, Nat.reduceAdd, Nat.reduceSub, reduceIte, evRE, retVC, cellV', evR, nfz, nfzs, nfzss, List.contains_nil, List.contains_cons, Bool.or_false, or_true]
        · have hq : qStr a[i] b[i] = true := by unfold qStr; simp only [Bool.not_eq_false'] at h; exact h
          simp only [EV, Nat.reduceEqDiff, Nat.reduceBEq, Nat.reduceLT, Nat.reduceLeDiff, Nat.reduceAdd, Nat.reduceSub, reduceIte]
          rw [w64 _ (by omega)]
          exact ⟨i + 1, ⟨by omega, eqTo_succ hto hq⟩, by omega, rfl⟩
      · have h1 : i = a.length := by have : ¬ (i : Int) < a.length := by simpa using h
                                     omega
        subst h1
        simp only [EV, Nat.reduceEqDiff, Nat.reduceBEq, Nat.reduceLT, Nat.reduceLeDiff, Nat.reduceAdd, Nat.reduceSub, reduceIte]
        simp only [eqL_yes hl hto, EV, Nat.reduceEqDiff, Nat.reduceBEq, Nat.reduceLT, Nat.reduceLeDiff, Nat.reduceAdd, Nat.reduceSub, reduceIte, evRE, retVC, cellV', evR, nfz, nfzs, nfzss, List.contains_nil, List.contains_cons, Bool.or_false, or_true]
def m224 : MC :=
 (.seq (.reg [Xb 4 (.asg .fb)]) (.seq (.seq (.reg [Xm 6 0, Xn 7 6, Xm 8 1, Xn 9 8, Xq 10 (.bin false .neq (.t 7) (.t 9))]) (.cond (.t 10) (.seq (.reg [Xb 4 (.asg .fb)]) .ret) .skip)) (.seq (.seq (.reg [Xm 11 0, Xn 12 11, Xq 13 (.mov (.i 0))]) (.block 0 (.loop [0, 1, 12, 13] (.seq (.reg [Xq 14 (.bin false .lss (.t 13) (.t 12))]) (.seq (.cond (.t 14) .skip (.exit 0)) (.seq (.block 1 (.seq (.reg [Xm
 15 13, Xa 5 15]) (.seq (.dreg [Xm 16 0, Xm 17 5, Xi 18 3 16 17, XL 19 3 18, Xm 20 1, Xm 21 5, Xi 22 3 20 21, XL 23 3 22, Xq 24 (.eqa true [1, 0, 0] (.t 19) (.t 23))]) (.cond (.t 24) (.seq (.reg [Xb 4 (.asg .fb)]) .ret) .skip)))) (.reg [Xq 25 (.bin false .add (.t 13) (.i 1)), Xm 13 25]))))))) (.seq (.reg [Xb 4 (.asg .tb)]) .ret))))
theorem d224 (a b : List Fd) (ha : (a.length : Int) ≤ 1048576) (hb : (b.length : Int) ≤ 1048576) : Does Go.Proofs.Tryz.prog 224 [.fsl 3 (a.map Fd.z), .fsl 3 (b.map Fd.z)] false (.v (.bool (eqL qFd a b))) [.dead, .dead] := by
  refine does_intro (mc := m224) (N := 26) (rs := [4]) (fx := []) 2 rfl (by decide +kernel) ?_
  simp only [m224, EV, Nat.reduceEqDiff, Nat.reduceBEq, Nat.reduceLT, Nat.reduceLeDiff, Nat.reduceAdd, Nat.reduceSub, reduceIte]
  refine cK_cut (fun h => ?_) (fun h => ?_)
  · have h1 : ¬ a.length = b.length := by
      intro e; simp [e] at h
    simp only [EV, Nat.reduceEqDiff, Nat.reduceBEq, Nat.reduceLT, Nat.reduceLeDiff, Nat.reduceAdd, Nat.reduceSub, reduceIte]
    simp only [eqL_ne h1, EV, Nat.reduceEqDiff, Nat.reduceBEq, Nat.reduceLT, Nat.reduceLeDiff, Nat.reduceAdd, Nat.reduceSub, reduceIte, evRE, retVC, cellV', evR, nfz, nfzs, nfzss, List.contains_nil, List.contains_cons, Bool.or_false, or_true]
  · have hl : a.length = b.length := by
      have : ((a.length : Int) = b.length) := by simpa using h
      omega
    simp only [EV, Nat.reduceEqDiff, Nat.reduceBEq, Nat.reduceLT, Nat.reduceLeDiff, Nat.reduceAdd, Nat.reduceSub, reduceIte]
    refine awp_loop (fun i : Nat => i ≤ a.length ∧ eqTo qFd a b i) (fun i => stl [(0, .fsl 3 (a.map Fd.z)), (1, .fsl 3 (b.map Fd.z)), (12, .v (.int .i64 (a.length : Int))), (13, .v (.int .i64 (i : Int)))]) (fun i => a.length - i) 0 ⟨Nat.zero_le _, fun j _ _ h => absurd h (by omega)⟩ ?_ ?_
    · simp only [EV, Nat.reduceEqDiff, Nat.reduceBEq, Nat.reduceLT, Nat.reduceLeDiff, Nat.reduceAdd, Nat.reduceSub, reduceIte]
      rfl
    · rintro i ⟨hi, hto⟩
      simp only [EV, Nat.reduceEqDiff, Nat.reduceBEq, Nat.reduceLT, Nat.reduceLeDiff, Nat.reduceAdd, Nat.reduceSub, reduceIte]
      refine cK_cut (fun h => ?_) (fun h => ?_)
      · have h1 : i < a.length := by simpa using h
        have h2 : (i : Int) < (a.length : Int) := by omega
        have g1 : i < b.length := by omega
        have g2 : (i : Int) < (b.length : Int) := by omega
        simp only [nth_map h1, nth_map g1, h2, g2, Fd.z, Bool.true_xor, EV, Nat.reduceEqDiff, Nat.reduceBEq, Nat.reduceLT, Nat.reduceLeDiff, Nat.reduceAdd, Nat.reduceSub, reduceIte]
        refine cK_cut (fun h => ?_) (fun h => ?_)
        · have hq : qFd a[i] b[i] = false := by unfold qFd; simp only [Bool.not_eq_true'] at h; exact h
          simp only [EV, Nat.reduceEqDiff, Nat.reduceBEq, Nat.reduceLT, Nat.reduceLeDiff, Nat.reduceAdd, Nat.reduceSub, reduceIte]
          simp only [eqL_no h1 g1 hq, EV, Nat.reduceEqDiff, Nat.reduceBEq, Nat.reduceLT, Nat.reduceLeDiff, Nat.reduceAdd, Nat.reduceSub, reduceIte, evRE, retVC, cellV', evR, nfz, nfzs, nfzss, List.contains_nil, List.contains_cons, Bool.or_false, or_true]
        · have hq : qFd a[i] b[i] = true := by unfold qFd; simp only [Bool.not_eq_false'] at h; exact h
          simp only [EV, Nat.reduceEqDiff, Nat.reduceBEq, Nat.reduceLT, Nat.reduceLeDiff, Nat.reduceAdd, Nat.reduceSub, reduceIte]
          rw [w64 _ (by omega)]
          exact ⟨i + 1, ⟨by omega, eqTo_succ hto hq⟩, by omega, rfl⟩
      · have h1 : i = a.length := by have : ¬ (i : Int) < a.length := by simpa using h
                                     omega
        subst h1
        simp only [EV, Nat.reduceEqDiff, Nat.reduceBEq, Nat.reduceLT, Nat.reduceLeDiff, Nat.reduceAdd, Nat.reduceSub, reduceIte]
        simp only [eqL_yes hl hto, EV, Nat.reduceEqDiff, Nat.reduceBEq, Nat.reduceLT, Nat.reduceLeDiff, Nat.reduceAdd, Nat.reduceSub, reduceIte, evRE, retVC, cellV', evR, nfz, nfzs, nfzss, List.contains_nil, List.contains_cons, Bool.or_false, or_true]
def m225 : MC :=
 (.seq (.reg [Xb 4 (.asg .fb)]) (.seq (.seq (.reg [Xm 6 0, Xn 7 6, Xm 8 1, Xn 9 8, Xq 10 (.bin false .neq (.t 7) (.t 9))]) (.cond (.t 10) (.seq (.reg [Xb 4 (.asg .fb)]) .ret) .skip)) (.seq (.seq (.reg [Xm 11 0, Xn 12 11, Xq 13 (.mov (.i 0))]) (.block 0 (.loop [0, 1, 12, 13] (.seq (.reg [Xq 14 (.bin false .lss (.t 13) (.t 12))]) (.seq (.cond (.t 14) .skip (.exit 0)) (.seq (.block 1 (.seq (.reg [Xm
 15 13, Xa 5 15]) (.seq (.dreg [Xm 16 0, Xm 17 5, Xi 18 3 16 17, XL 19 3 18, Xm 20 1, Xm 21 5, Xi 22 3 20 21, XL 23 3 22, Xq 24 (.eqa true [1, 2, 0] (.t 19) (.t 23))]) (.cond (.t 24) (.seq (.reg [Xb 4 (.asg .fb)]) .ret) .skip)))) (.reg [Xq 25 (.bin false .add (.t 13) (.i 1)), Xm 13 25]))))))) (.seq (.reg [Xb 4 (.asg .tb)]) .ret))))
theorem d225 (a b : List Par) (ha : (a.length : Int) ≤ 1048576) (hb : (b.length : Int) ≤ 1048576) : Does Go.Proofs.Tryz.prog 225 [.fsl 3 (a.map Par.z), .fsl 3 (b.map Par.z)] false (.v (.bool (eqL qPar a b))) [.dead, .dead] := by
  refine does_intro (mc := m225) (N := 26) (rs := [4]) (fx := []) 2 rfl (by decide +kernel) ?_
  simp only [m225, EV, Nat.reduceEqDiff, Nat.reduceBEq, Nat.reduceLT, Nat.reduceLeDiff, Nat.reduceAdd, Nat.reduceSub, reduceIte]
  refine cK_cut (fun h => ?_) (fun h => ?_)
  · have h1 : ¬ a.length = b.length := by
      intro e; simp [e] at h
    simp only [EV, Nat.reduceEqDiff, Nat.reduceBEq, Nat.reduceLT, Nat.reduceLeDiff, Nat.reduceAdd, Nat.reduceSub, reduceIte]
    simp only [eqL_ne h1, EV, Nat.reduceEqDiff, Nat.reduceBEq, Nat.reduceLT, Nat.reduceLeDiff, Nat.reduceAdd, Nat.reduceSub, reduceIte, evRE, retVC, cellV', evR, nfz, nfzs, nfzss, List.contains_nil, List.contains_cons, Bool.or_false, or_true]
  · have hl : a.length = b.length := by
      have : ((a.length : Int) = b.length) := by simpa using h
      omega
    simp only [EV, Nat.reduceEqDiff, Nat.reduceBEq, Nat.reduceLT, Nat.reduceLeDiff, Nat.reduceAdd, Nat.reduceSub, reduceIte]
    refine awp_loop (fun i : Nat => i ≤ a.length ∧ eqTo qPar a b i) (fun i => stl [(0, .fsl 3 (a.map Par.z)), (1, .fsl 3 (b.map Par.z)), (12, .v (.int .i64 (a.length : Int))), (13, .v (.int .i64 (i : Int)))]) (fun i => a.length - i) 0 ⟨Nat.zero_le _, fun j _ _ h => absurd h (by omega)⟩ ?_ ?_
    · simp only [EV, Nat.reduceEqDiff, Nat.reduceBEq, Nat.reduceLT, Nat.reduceLeDiff, Nat.reduceAdd, Nat.reduceSub, reduceIte]
      rfl
    · rintro i ⟨hi, hto⟩
      simp only [EV, Nat.reduceEqDiff, Nat.reduceBEq, Nat.reduceLT, Nat.reduceLeDiff, Nat.reduceAdd, Nat.reduceSub, reduceIte]
      refine cK_cut (fun h => ?_) (fun h => ?_)
      · have h1 : i < a.length := by simpa using h
        have h2 : (i : Int) < (a.length : Int) := by omega
        have g1 : i < b.length := by omega
        have g2 : (i : Int) < (b.length : Int) := by omega
        simp only [nth_map h1, nth_map g1, h2, g2, Par.z, Bool.true_xor, EV, Nat.reduceEqDiff, Nat.reduceBEq, Nat.reduceLT, Nat.reduceLeDiff, Nat.reduceAdd, Nat.reduceSub, reduceIte]
        refine cK_cut (fun h => ?_) (fun h => ?_)
        · have hq : qPar a[i] b[i] = false := by unfold qPar; simp only [Bool.not_eq_true'] at h; exact h
          simp only [EV, Nat.reduceEqDiff, Nat.reduceBEq, Nat.reduceLT, Nat.reduceLeDiff, Nat.reduceAdd, Nat.reduceSub, reduceIte]
          simp only [eqL_no h1 g1 hq, EV, Nat.reduceEqDiff, Nat.reduceBEq, Nat.reduceLT, Nat.reduceLeDiff, Nat.reduceAdd, Nat.reduceSub, reduceIte, evRE, retVC, cellV', evR, nfz, nfzs, nfzss, List.contains_nil, List.contains_cons, Bool.or_false, or_true]
        · have hq : qPar a[i] b[i] = true := by unfold qPar; simp only [Bool.not_eq_false'] at h; exact h
          simp only [EV, Nat.reduceEqDiff, Nat.reduceBEq, Nat.reduceLT, Nat.reduceLeDiff, Nat.reduceAdd, Nat.reduceSub, reduceIte]
          rw [w64 _ (by omega)]
          exact ⟨i + 1, ⟨by omega, eqTo_succ hto hq⟩, by omega, rfl⟩
      · have h1 : i = a.length := by have : ¬ (i : Int) < a.length := by simpa using h
                                     omega
        subst h1
        simp only [EV, Nat.reduceEqDiff, Nat.reduceBEq, Nat.reduceLT, Nat.reduceLeDiff, Nat.reduceAdd, Nat.reduceSub, reduceIte]
        simp only [eqL_yes hl hto, EV, Nat.reduceEqDiff, Nat.reduceBEq, Nat.reduceLT, Nat.reduceLeDiff, Nat.reduceAdd, Nat.reduceSub, reduceIte, evRE, retVC, cellV', evR, nfz, nfzs, nfzss, List.contains_nil, List.contains_cons, Bool.or_false, or_true]
def m167 : MC :=
 (.seq (.reg [Xb 4 (.asg .fb)]) (.seq (.seq (.reg [Xm 6 0, Xn 7 6, Xm 8 1, Xn 9 8, Xq 10 (.bin false .neq (.t 7) (.t 9))]) (.cond (.t 10) (.seq (.reg [Xb 4 (.asg .fb)]) .ret) .skip)) (.seq (.seq (.reg [Xm 11 0, Xn 12 11, Xq 13 (.mov (.i 0))]) (.block 0 (.loop [0, 1, 12, 13] (.seq (.reg [Xq 14 (.bin false .lss (.t 13) (.t 12))]) (.seq (.cond (.t 14) .skip (.exit 0)) (.seq (.block 1 (.seq (.reg [Xm
 15 13, Xa 5 15]) (.seq (.dreg [Xm 16 0, Xm 17 5, Xi 18 2 16 17, XL 19 2 18, Xm 20 1, Xm 21 5, Xi 22 2 20 21, XL 23 2 22, Xq 24 (.eqa true [1, 1] (.t 19) (.t 23))]) (.cond (.t 24) (.seq (.reg [Xb 4 (.asg .fb)]) .ret) .skip)))) (.reg [Xq 25 (.bin false .add (.t 13) (.i 1)), Xm 13 25]))))))) (.seq (.reg [Xb 4 (.asg .tb)]) .ret))))
theorem d167 (a b : List Us) (ha : (a.length : Int) ≤ 1048576) (hb : (b.length : Int) ≤ 1048576) : Does Go.Proofs.Tryz.prog 167 [.fsl 2 (a.map Us.z), .fsl 2 (b.map Us.z)] false (.v (.bool (eqL qUs a b))) [.dead, .dead] := by
  refine does_intro (mc := m167) (N := 26) (rs := [4]) (fx := []) 2 rfl (by decide +kernel) ?_
  simp only [m167, EV, Nat.reduceEqDiff, Nat.reduceBEq, Nat.reduceLT, Nat.reduceLeDiff, Nat.reduceAdd, Nat.reduceSub, reduceIte]
  refine cK_cut (fun h => ?_) (fun h => ?_)
  · have h1 : ¬ a.length = b.length := by
      intro e; simp [e] at h
    simp only [EV, Nat.reduceEqDiff, Nat.reduceBEq, Nat.reduceLT, Nat.reduceLeDiff, Nat.reduceAdd, Nat.reduceSub, reduceIte]
    simp only [eqL_ne h1, EV, Nat.reduceEqDiff, Nat.reduceBEq, Nat.reduceLT, Nat.reduceLeDiff, Nat.reduceAdd, Nat.reduceSub, reduceIte, evRE, retVC, cellV', evR, nfz, nfzs, nfzss, List.contains_nil, List.contains_cons, Bool.or_false, or_true]
  · have hl : a.length = b.length := by
      have : ((a.length : Int) = b.length) := by simpa using h
      omega
    simp only [EV, Nat.reduceEqDiff, Nat.reduceBEq, Nat.reduceLT, Nat.reduceLeDiff, Nat.reduceAdd, Nat.reduceSub, reduceIte]
    refine awp_loop (fun i : Nat => i ≤ a.length ∧ eqTo qUs a b i) (fun i => stl [(0, .fsl 2 (a.map Us.z)), (1, .fsl 2 (b.map Us.z)), (12, .v (.int .i64 (a.length : Int))), (13, .v (.int .i64 (i : Int)))]) (fun i => a.length - i) 0 ⟨Nat.zero_le _, fun j _ _ h => absurd h (by omega)⟩ ?_ ?_
    · simp only [EV, Nat.reduceEqDiff, Nat.reduceBEq, Nat.reduceLT, Nat.reduceLeDiff, Nat.reduceAdd, Nat.reduceSub, reduceIte]
      rfl
    · rintro i ⟨hi, hto⟩
      simp only [EV, Nat.reduceEqDiff, Nat.reduceBEq, Nat.reduceLT, Nat.reduceLeDiff, Nat.reduceAdd, Nat.reduceSub, reduceIte]
      refine cK_cut (fun h => ?_) (fun h => ?_)
      · have h1 : i < a.length := by simpa using h
        have h2 : (i : Int) < (a.length : Int) := by omega
        have g1 : i < b.length := by omega
        have g2 : (i : Int) < (b.length : Int) := by omega
        simp only [nth_map h1, nth_map g1, h2, g2, Us.z, Bool.true_xor, EV, Nat.reduceEqDiff, Nat.reduceBEq, Nat.reduceLT, Nat.reduceLeDiff, Nat.reduceAdd, Nat.reduceSub, reduceIte]
        refine cK_cut (fun h => ?_) (fun h => ?_)
        · have hq : qUs a[i] b[i] = false := by unfold qUs; simp only [Bool.not_eq_true'] at h; exact h
          simp only [EV, Nat.reduceEqDiff, Nat.reduceBEq, Nat.reduceLT, Nat.reduceLeDiff, Nat.reduceAdd, Nat.reduceSub, reduceIte]
          simp only [eqL_no h1 g1 hq, EV, Nat.reduceEqDiff, Nat.reduceBEq, Nat.reduceLT, Nat.reduceLeDiff, Nat.reduceAdd, Nat.reduceSub, reduceIte, evRE, retVC, cellV', evR, nfz, nfzs, nfzss, List.contains_nil, List.contains_cons, Bool.or_false, or_true]
        · have hq : qUs a[i] b[i] = true := by unfold qUs; simp only [Bool.not_eq_false'] at h; exact h
          simp only [EV, Nat.reduceEqDiff, Nat.reduceBEq, Nat.reduceLT, Nat.reduceLeDiff, Nat.reduceAdd, Nat.reduceSub, reduceIte]
          rw [w64 _ (by omega)]
          exact ⟨i + 1, ⟨by omega, eqTo_succ hto hq⟩, by omega, rfl⟩
      · have h1 : i = a.length := by have : ¬ (i : Int) < a.length := by simpa using h
                                     omega
        subst h1
        simp only [EV, Nat.reduceEqDiff, Nat.reduceBEq, Nat.reduceLT, Nat.reduceLeDiff, Nat.reduceAdd, Nat.reduceSub, reduceIte]
        simp only [eqL_yes hl hto, EV, Nat.reduceEqDiff, Nat.reduceBEq, Nat.reduceLT, Nat.reduceLeDiff, Nat.reduceAdd, Nat.reduceSub, reduceIte, evRE, retVC, cellV', evR, nfz, nfzs, nfzss, List.contains_nil, List.contains_cons, Bool.or_false, or_true]
def m163 : MC :=
 (.seq (.reg [Xb 6 (.asg .fb)]) (.seq (.seq (.reg [Xm 10 0, Xn 11 10, Xm 12 1, Xn 13 12, Xq 14 (.bin false .neq (.t 11) (.t 13))]) (.cond (.t 14) (.seq (.reg [Xb 6 (.asg .fb)]) .ret) .skip)) (.seq (.seq (.reg [Xm 15 0, Xn 16 15, Xq 17 (.mov (.i 0))]) (.block 0 (.loop [0, 1, 2, 15, 16, 17] (.seq (.reg [Xq 18 (.bin false .lss (.t 17) (.t 16))]) (.seq (.cond (.t 18) .skip (.exit 0)) (.seq (.block 1
 (.seq (.reg [Xm 19 17, Xi 20 6 15 17, XL 21 6 20, Xb 8 (.alloc 129 [.i, .i, .i, .s 138 3, .z, .z]), Xa 7 19, Xz (.store 6 (.t 8) (.t 21))]) (.seq (.reg [Xm 22 1, Xm 23 7, Xi 24 6 22 23, XL 25 6 24, Xb 9 (.alloc 129 [.i, .i, .i, .s 138 3, .z, .z]), Xz (.store 6 (.t 9) (.t 25))]) (.seq (.reg [Xm 26 2, XL 27 6 8, XL 28 6 9, Xb 29 (.call (.t 26) false [.lend (.t 27), .lend (.t 28)]), Xq 30 (.un .not
 (.t 29))]) (.cond (.t 30) (.seq (.reg [Xb 6 (.asg .fb)]) .ret) .skip))))) (.reg [Xq 31 (.bin false .add (.t 17) (.i 1)), Xm 17 31]))))))) (.seq (.reg [Xb 6 (.asg .tb)]) .ret))))
set_option maxRecDepth 100000 in
theorem d163 (a b : List Ty) (ha : (a.length : Int) ≤ 1048576) (hb : (b.length : Int) ≤ 1048576) (f : Nat) (q : Ty → Ty → Bool) (hq : ∀ x ∈ a, ∀ y ∈ b, Does Go.Proofs.Tryz.prog f [.agg x.z, .agg y.z] false (.v (.bool (q x y))) [.dead, .dead]) :
    Does Go.Proofs.Tryz.prog 163 [.fsl 6 (a.map Ty.z), .fsl 6 (b.map Ty.z), .clo f []] false (.v (.bool (eqL q a b))) [.dead, .dead, .dead] := by
  refine does_intro (mc := m163) (N := 32) (rs := [6]) (fx := []) 3 rfl (by decide +kernel) ?_
  simp only [m163, EV, Nat.reduceEqDiff, Nat.reduceBEq, Nat.reduceLT, Nat.reduceLeDiff, Nat.reduceAdd, Nat.reduceSub, reduceIte]
  refine cK_cut (fun h => ?_) (fun h => ?_)
  · have h1 : ¬ a.length = b.length := by
      intro e; simp [e] at h
    simp only [EV, Nat.reduceEqDiff, Nat.reduceBEq, Nat.reduceLT, Nat.reduceLeDiff, Nat.reduceAdd, Nat.reduceSub, reduceIte]
    simp only [eqL_ne h1, EV, Nat.reduceEqDiff, Nat.reduceBEq, Nat.reduceLT, Nat.reduceLeDiff, Nat.reduceAdd, Nat.reduceSub, reduceIte, evRE, retVC, cellV', evR, nfz, nfzs, nfzss, List.contains_nil, List.contains_cons, Bool.or_false, or_true]
  · have hl : a.length = b.length := by
      have : ((a.length : Int) = b.length) := by simpa using h
      omega
    simp only [EV, Nat.reduceEqDiff, Nat.reduceBEq, Nat.reduceLT, Nat.reduceLeDiff, Nat.reduceAdd, Nat.reduceSub, reduceIte]
    refine awp_loop (fun i : Nat => i ≤ a.length ∧ eqTo q a b i) (fun i => stl [(0, .fsl 6 (a.map Ty.z)), (1, .fsl 6 (b.map Ty.z)), (2, .clo f []), (15, .fsl 6 (a.map Ty.z)), (16, .v (.int .i64 (a.length : Int))), (17, .v (.int .i64 (i : Int)))]) (fun i => a.length - i) 0 ⟨Nat.zero_le _, fun j _ _ h => absurd h (by omega)⟩ ?_ ?_
    · simp only [EV, Nat.reduceEqDiff, Nat.reduceBEq, Nat.reduceLT, Nat.reduceLeDiff, Nat.reduceAdd, Nat.reduceSub, reduceIte]
      rfl
    · rintro i ⟨hi, hto⟩
      simp only [EV, Nat.reduceEqDiff, Nat.reduceBEq, Nat.reduceLT, Nat.reduceLeDiff, Nat.reduceAdd, Nat.reduceSub, reduceIte]
      refine cK_cut (fun h => ?_) (fun h => ?_)
      · have h1 : i < a.length := by simpa using h
        have h2 : (i : Int) < (a.length : Int) := by omega
        have g1 : i < b.length := by omega
        have g2 : (i : Int) < (b.length : Int) := by omega
        simp only [nth_map h1, nth_map g1, h2, g2, Ty.z, EV, Nat.reduceEqDiff, Nat.reduceBEq, Nat.reduceLT, Nat.reduceLeDiff, Nat.reduceAdd, Nat.reduceSub, reduceIte]
        refine callK_i (hq a[i] (List.getElem_mem h1) b[i] (List.getElem_mem g1)) ?_
        simp only [EV, Nat.reduceEqDiff, Nat.reduceBEq, Nat.reduceLT, Nat.reduceLeDiff, Nat.reduceAdd, Nat.reduceSub, reduceIte]
        refine cK_cut (fun h => ?_) (fun h => ?_)
        · have hq : q a[i] b[i] = false := by simpa using h
          simp only [EV, Nat.reduceEqDiff, Nat.reduceBEq, Nat.reduceLT, Nat.reduceLeDiff, Nat.reduceAdd, Nat.reduceSub, reduceIte]
          simp only [eqL_no h1 g1 hq, EV, Nat.reduceEqDiff, Nat.reduceBEq, Nat.reduceLT, Nat.reduceLeDiff, Nat.reduceAdd, Nat.reduceSub, reduceIte, evRE, retVC, cellV', evR, nfz, nfzs, nfzss, List.contains_nil, List.contains_cons, Bool.or_false, or_true]
        · have hq : q a[i] b[i] = true := by simpa using h
          simp only [EV, Nat.reduceEqDiff, Nat.reduceBEq, Nat.reduceLT, Nat.reduceLeDiff, Nat.reduceAdd, Nat.reduceSub, reduceIte]
          rw [w64 _ (by omega)]
          exact ⟨i + 1, ⟨by omega, eqTo_succ hto hq⟩, by omega, rfl⟩
      · have h1 : i = a.length := by have : ¬ (i : Int) < a.length := by simpa using h
                                     omega
        subst h1
        simp only [EV, Nat.reduceEqDiff, Nat.reduceBEq, Nat.reduceLT, Nat.reduceLeDiff, Nat.reduceAdd, Nat.reduceSub, reduceIte]
        simp only [eqL_yes hl hto, EV, Nat.reduceEqDiff, Nat.reduceBEq, Nat.reduceLT, Nat.reduceLeDiff, Nat.reduceAdd, Nat.reduceSub, reduceIte, evRE, retVC, cellV', evR, nfz, nfzs, nfzss, List.contains_nil, List.contains_cons, Bool.or_false, or_true]
def m165 : MC :=
 (.seq (.reg [Xb 6 (.asg .fb)]) (.seq (.seq (.reg [Xm 10 0, Xn 11 10, Xm 12 1, Xn 13 12, Xq 14 (.bin false .neq (.t 11) (.t 13))]) (.cond (.t 14) (.seq (.reg [Xb 6 (.asg .fb)]) .ret) .skip)) (.seq (.seq (.reg [Xm 15 0, Xn 16 15, Xq 17 (.mov (.i 0))]) (.block 0 (.loop [0, 1, 2, 15, 16, 17] (.seq (.reg [Xq 18 (.bin false .lss (.t 17) (.t 16))]) (.seq (.cond (.t 18) .skip (.exit 0)) (.seq (.block 1
 (.seq (.reg [Xm 19 17, Xi 20 6 15 17, XL 21 6 20, Xb 8 (.alloc 69 [.z, .i, .i, .i, .i, .s 182 3]), Xa 7 19, Xz (.store 6 (.t 8) (.t 21))]) (.seq (.reg [Xm 22 1, Xm 23 7, Xi 24 6 22 23, XL 25 6 24, Xb 9 (.alloc 69 [.z, .i, .i, .i, .i, .s 182 3]), Xz (.store 6 (.t 9) (.t 25))]) (.seq (.reg [Xm 26 2, XL 27 6 8, XL 28 6 9, Xb 29 (.call (.t 26) false [.lend (.t 27), .lend (.t 28)]), Xq 30 (.un .not (.t
 29))]) (.cond (.t 30) (.seq (.reg [Xb 6 (.asg .fb)]) .ret) .skip))))) (.reg [Xq 31 (.bin false .add (.t 17) (.i 1)), Xm 17 31]))))))) (.seq (.reg [Xb 6 (.asg .tb)]) .ret))))
set_option maxRecDepth 100000 in
theorem d165 (a b : List Ob) (ha : (a.length : Int) ≤ 1048576) (hb : (b.length : Int) ≤ 1048576) (f : Nat) (q : Ob → Ob → Bool) (hq : ∀ x ∈ a, ∀ y ∈ b, Does Go.Proofs.Tryz.prog f [.agg x.z, .agg y.z] false (.v (.bool (q x y))) [.dead, .dead]) :
    Does Go.Proofs.Tryz.prog 165 [.fsl 6 (a.map Ob.z), .fsl 6 (b.map Ob.z), .clo f []] false (.v (.bool (eqL q a b))) [.dead, .dead, .dead] := by
  refine does_intro (mc := m165) (N := 32) (rs := [6]) (fx := []) 3 rfl (by decide +kernel) ?_
  simp only [m165, EV, Nat.reduceEqDiff, Nat.reduceBEq, Nat.reduceLT, Nat.reduceLeDiff, Nat.reduceAdd, Nat.reduceSub, reduceIte]
  refine cK_cut (fun h => ?_) (fun h => ?_)
  · have h1 : ¬ a.length = b.length := by
      intro e; simp [e] at h
    simp only [EV, Nat.reduceEqDiff, Nat.reduceBEq, Nat.reduceLT, Nat.reduceLeDiff, Nat.reduceAdd, Nat.reduceSub, reduceIte]
    simp only [eqL_ne h1, EV, Nat.reduceEqDiff, Nat.reduceBEq, Nat.reduceLT, Nat.reduceLeDiff, Nat.reduceAdd, Nat.reduceSub, reduceIte, evRE, retVC, cellV', evR, nfz, nfzs, nfzss, List.contains_nil, List.contains_cons, Bool.or_false, or_true]
  · have hl : a.length = b.length := by
      have : ((a.length : Int) = b.length) := by simpa using h
      omega
    simp only [EV, Nat.reduceEqDiff, Nat.reduceBEq, Nat.reduceLT, Nat.reduceLeDiff, Nat.reduceAdd, Nat.reduceSub, reduceIte]
    refine awp_loop (fun i : Nat => i ≤ a.length ∧ eqTo q a b i) (fun i => stl [(0, .fsl 6 (a.map Ob.z)), (1, .fsl 6 (b.map Ob.z)), (2, .clo f []), (15, .fsl 6 (a.map Ob.z)), (16, .v (.int .i64 (a.length : Int))), (17, .v (.int .i64 (i : Int)))]) (fun i => a.length - i) 0 ⟨Nat.zero_le _, fun j _ _ h => absurd h (by omega)⟩ ?_ ?_
    · simp only [EV, Nat.reduceEqDiff, Nat.reduceBEq, Nat.reduceLT, Nat.reduceLeDiff, Nat.reduceAdd, Nat.reduceSub, reduceIte]
      rfl
    · rintro i ⟨hi, hto⟩
      simp only [EV, Nat.reduceEqDiff, Nat.reduceBEq, Nat.reduceLT, Nat.reduceLeDiff, Nat.reduceAdd, Nat.reduceSub, reduceIte]
      refine cK_cut (fun h => ?_) (fun h => ?_)
      · have h1 : i < a.length := by simpa using h
        have h2 : (i : Int) < (a.length : Int) := by omega
        have g1 : i < b.length := by omega
        have g2 : (i : Int) < (b.length : Int) := by omega
        simp only [nth_map h1, nth_map g1, h2, g2, Ob.z, EV, Nat.reduceEqDiff, Nat.reduceBEq, Nat.reduceLT, Nat.reduceLeDiff, Nat.reduceAdd, Nat.reduceSub, reduceIte]
        refine callK_i (hq a[i] (List.getElem_mem h1) b[i] (List.getElem_mem g1)) ?_
        simp only [EV, Nat.reduceEqDiff, Nat.reduceBEq, Nat.reduceLT, Nat.reduceLeDiff, Nat.reduceAdd, Nat.reduceSub, reduceIte]
        refine cK_cut (fun h => ?_) (fun h => ?_)
        · have hq : q a[i] b[i] = false := by simpa using h
          simp only [EV, Nat.reduceEqDiff, Nat.reduceBEq, Nat.reduceLT, Nat.reduceLeDiff, Nat.reduceAdd, Nat.reduceSub, reduceIte]
          simp only [eqL_no h1 g1 hq, EV, Nat.reduceEqDiff, Nat.reduceBEq, Nat.reduceLT, Nat.reduceLeDiff, Nat.reduceAdd, Nat.reduceSub, reduceIte, evRE, retVC, cellV', evR, nfz, nfzs, nfzss, List.contains_nil, List.contains_cons, Bool.or_false, or_true]
        · have hq : q a[i] b[i] = true := by simpa using h
          simp only [EV, Nat.reduceEqDiff, Nat.reduceBEq, Nat.reduceLT, Nat.reduceLeDiff, Nat.reduceAdd, Nat.reduceSub, reduceIte]
          rw [w64 _ (by omega)]
          exact ⟨i + 1, ⟨by omega, eqTo_succ hto hq⟩, by omega, rfl⟩
      · have h1 : i = a.length := by have : ¬ (i : Int) < a.length := by simpa using h
                                     omega
        subst h1
        simp only [EV, Nat.reduceEqDiff, Nat.reduceBEq, Nat.reduceLT, Nat.reduceLeDiff, Nat.reduceAdd, Nat.reduceSub, reduceIte]
        simp only [eqL_yes hl hto, EV, Nat.reduceEqDiff, Nat.reduceBEq, Nat.reduceLT, Nat.reduceLeDiff, Nat.reduceAdd, Nat.reduceSub, reduceIte, evRE, retVC, cellV', evR, nfz, nfzs, nfzss, List.contains_nil, List.contains_cons, Bool.or_false, or_true]
end Go.AM
namespace Go.AM
set_option linter.unusedVariables false
set_option linter.unusedSimpArgs false
noncomputable def sameTy (x y : Ty) : Bool := ((x.kind == y.kind) && ((x.long == y.long) && ((x.base == y.base) && ((eqL qFd x.fields y.fields) && ((x.owner.toList == y.owner.toList) && (x.name.toList == y.name.toList))))))
noncomputable def sameOb (x y : Ob) : Bool := ((x.name.toList == y.name.toList) && ((x.kind == y.kind) && ((x.mark == y.mark) && ((x.typ == y.typ) && ((x.value == y.value) && (eqL qPar x.params y.params))))))
def m164 : MC :=
 (.seq (.reg [Xb 2 (.box 129 (.t 0)), Xb 3 (.box 129 (.t 1)), Xb 4 (.asg .fb)]) (.seq (.reg [Xf 5 0 2, Xl 6 1 5, Xf 7 0 3, Xl 8 1 7, Xq 9 (.bin false .eql (.t 6) (.t 8)), Xm 10 9, Xt 11 10 (.fad 1 (.t 2)), Xt 12 10 (.load false 1 (.t 11)), Xt 13 10 (.fad 1 (.t 3)), Xt 14 10 (.load false 1 (.t 13)), Xt 15 10 (.bin false .eql (.t 12) (.t 14)), Xq 16 (.pick (.t 10) (.t 15) .fb), Xm 17 16, Xt 18 17
 (.fad 2 (.t 2)), Xt 19 17 (.load false 1 (.t 18)), Xt 20 17 (.fad 2 (.t 3)), Xt 21 17 (.load false 1 (.t 20)), Xt 22 17 (.bin false .eql (.t 19) (.t 21)), Xq 23 (.pick (.t 17) (.t 22) .fb), Xm 24 23, Xt 25 24 (.fad 3 (.t 2)), Xt 26 24 (.load false 1 (.t 25)), Xt 27 24 (.fad 3 (.t 3)), Xt 28 24 (.load false 1 (.t 27)), XT 29 24 (.call (.fn 224) false [.lend (.t 26), .lend (.t 28)]), Xq 30 (.pick
 (.t 24) (.t 29) .fb), Xm 31 30, Xt 32 31 (.fad 4 (.t 2)), Xt 33 31 (.load false 1 (.t 32)), Xt 34 31 (.fad 4 (.t 3)), Xt 35 31 (.load false 1 (.t 34)), Xt 36 31 (.bin false .eql (.t 33) (.t 35)), Xq 37 (.pick (.t 31) (.t 36) .fb), Xm 38 37, Xt 39 38 (.fad 5 (.t 2)), Xt 40 38 (.load false 1 (.t 39)), Xt 41 38 (.fad 5 (.t 3)), Xt 42 38 (.load false 1 (.t 41)), Xt 43 38 (.bin false .eql (.t 40) (.t
 42)), Xq 44 (.pick (.t 38) (.t 43) .fb), Xa 4 44]) .ret))
set_option maxRecDepth 100000 in
theorem d164 (x y : Ty) (hx : x.sm) (hy : y.sm) : Does Go.Proofs.Tryz.prog 164 [.agg x.z, .agg y.z] false (.v (.bool (sameTy x y))) [.dead, .dead] := by
  unfold Ty.sm at hx hy
  refine does_intro (mc := m164) (N := 45) (rs := [4]) (fx := []) 2 rfl (by decide +kernel) ?_
  simp only [m164, Ty.z, EV, Nat.reduceEqDiff, Nat.reduceBEq, Nat.reduceLT, Nat.reduceLeDiff, Nat.reduceAdd, Nat.reduceSub, reduceIte]
  repeat' (first
    | (refine gK_cut (fun h => ?_) (fun h => ?_) <;> simp only [h, EV, Nat.reduceEqDiff, Nat.reduceBEq, Nat.reduceLT, Nat.reduceLeDiff, Nat.reduceAdd, Nat.reduceSub, reduceIte])
    | (refine cK_cut (fun h => ?_) (fun h => ?_) <;> simp only [h, EV, Nat.reduceEqDiff, Nat.reduceBEq, Nat.reduceLT, Nat.reduceLeDiff, Nat.reduceAdd, Nat.reduceSub, reduceIte])
    | (refine callK_i (d224 _ _ (by omega) (by omega)) ?_ <;> simp only [h, EV, Nat.reduceEqDiff, Nat.reduceBEq, Nat.reduceLT, Nat.reduceLeDiff, Nat.reduceAdd, Nat.reduceSub, reduceIte]))
  all_goals simp only [sameTy, *, Bool.true_and, Bool.false_and, Bool.and_true, Bool.and_false, Bool.and_self, EV, Nat.reduceEqDiff, Nat.reduceBEq, Nat.reduceLT, Nat.reduceLeDiff, Nat.reduceAdd, Nat.reduceSub, reduceIte, evRE, retVC, cellV', evR, nfz, nfzs, nfzss, List.contains_nil, List.contains_cons, Bool.or_false, or_true]
def m166 : MC :=
 (.seq (.reg [Xb 2 (.box 69 (.t 0)), Xb 3 (.box 69 (.t 1)), Xb 4 (.asg .fb)]) (.seq (.reg [Xf 5 0 2, Xl 6 1 5, Xf 7 0 3, Xl 8 1 7, Xq 9 (.bin false .eql (.t 6) (.t 8)), Xm 10 9, Xt 11 10 (.fad 1 (.t 2)), Xt 12 10 (.load false 1 (.t 11)), Xt 13 10 (.fad 1 (.t 3)), Xt 14 10 (.load false 1 (.t 13)), Xt 15 10 (.bin false .eql (.t 12) (.t 14)), Xq 16 (.pick (.t 10) (.t 15) .fb), Xm 17 16, Xt 18 17 (.fad
 2 (.t 2)), Xt 19 17 (.load false 1 (.t 18)), Xt 20 17 (.fad 2 (.t 3)), Xt 21 17 (.load false 1 (.t 20)), Xt 22 17 (.bin false .eql (.t 19) (.t 21)), Xq 23 (.pick (.t 17) (.t 22) .fb), Xm 24 23, Xt 25 24 (.fad 3 (.t 2)), Xt 26 24 (.load false 1 (.t 25)), Xt 27 24 (.fad 3 (.t 3)), Xt 28 24 (.load false 1 (.t 27)), Xt 29 24 (.bin false .eql (.t 26) (.t 28)), Xq 30 (.pick (.t 24) (.t 29) .fb), Xm 31
 30, Xt 32 31 (.fad 4 (.t 2)), Xt 33 31 (.load false 1 (.t 32)), Xt 34 31 (.fad 4 (.t 3)), Xt 35 31 (.load false 1 (.t 34)), Xt 36 31 (.bin false .eql (.t 33) (.t 35)), Xq 37 (.pick (.t 31) (.t 36) .fb), Xm 38 37, Xt 39 38 (.fad 5 (.t 2)), Xt 40 38 (.load false 1 (.t 39)), Xt 41 38 (.fad 5 (.t 3)), Xt 42 38 (.load false 1 (.t 41)), XT 43 38 (.call (.fn 225) false [.lend (.t 40), .lend (.t 42)]), Xq
 44 (.pick (.t 38) (.t 43) .fb), Xa 4 44]) .ret))
set_option maxRecDepth 100000 in
theorem d166 (x y : Ob) (hx : x.sm) (hy : y.sm) : Does Go.Proofs.Tryz.prog 166 [.agg x.z, .agg y.z] false (.v (.bool (sameOb x y))) [.dead, .dead] := by
  unfold Ob.sm at hx hy
  refine does_intro (mc := m166) (N := 45) (rs := [4]) (fx := []) 2 rfl (by decide +kernel) ?_
  simp only [m166, Ob.z, EV, Nat.reduceEqDiff, Nat.reduceBEq, Nat.reduceLT, Nat.reduceLeDiff, Nat.reduceAdd, Nat.reduceSub, reduceIte]
  repeat' (first
    | (refine gK_cut (fun h => ?_) (fun h => ?_) <;> simp only [h, EV, Nat.reduceEqDiff, Nat.reduceBEq, Nat.reduceLT, Nat.reduceLeDiff, Nat.reduceAdd, Nat.reduceSub, reduceIte])
    | (refine cK_cut (fun h => ?_) (fun h => ?_) <;> simp only [h, EV, Nat.reduceEqDiff, Nat.reduceBEq, Nat.reduceLT, Nat.reduceLeDiff, Nat.reduceAdd, Nat.reduceSub, reduceIte])
    | (refine callK_i (d225 _ _ (by omega) (by omega)) ?_ <;> simp only [h, EV, Nat.reduceEqDiff, Nat.reduceBEq, Nat.reduceLT, Nat.reduceLeDiff, Nat.reduceAdd, Nat.reduceSub, reduceIte]))
  all_goals simp only [sameOb, *, Bool.true_and, Bool.false_and, Bool.and_true, Bool.and_false, Bool.and_self, EV, Nat.reduceEqDiff, Nat.reduceBEq, Nat.reduceLT, Nat.reduceLeDiff, Nat.reduceAdd, Nat.reduceSub, reduceIte, evRE, retVC, cellV', evR, nfz, nfzs, nfzss, List.contains_nil, List.contains_cons, Bool.or_false, or_true]
def m88 : MC :=
 (.seq (.reg [Xb 2 (.box 129 (.t 0)), Xb 3 (.box 129 (.t 1)), Xb 4 (.asg .fb)]) (.seq (.seq (.reg [Xf 6 0 2, Xl 7 1 6, Xf 8 0 3, Xl 9 1 8, Xq 10 (.bin false .neq (.t 7) (.t 9)), Xm 11 10, Xu 12 11 (.fad 1 (.t 2)), Xu 13 11 (.load false 1 (.t 12)), Xu 14 11 (.fad 1 (.t 3)), Xu 15 11 (.load false 1 (.t 14)), Xu 16 11 (.bin false .neq (.t 13) (.t 15)), Xq 17 (.pick (.t 11) .tb (.t 16)), Xm 18 17, Xu
 19 18 (.fad 2 (.t 2)), Xu 20 18 (.load false 1 (.t 19)), Xu 21 18 (.fad 2 (.t 3)), Xu 22 18 (.load false 1 (.t 21)), Xu 23 18 (.bin false .neq (.t 20) (.t 22)), Xq 24 (.pick (.t 18) .tb (.t 23)), Xm 25 24, Xu 26 25 (.fad 4 (.t 2)), Xu 27 25 (.load false 1 (.t 26)), Xu 28 25 (.fad 4 (.t 3)), Xu 29 25 (.load false 1 (.t 28)), Xu 30 25 (.bin false .neq (.t 27) (.t 29)), Xq 31 (.pick (.t 25) .tb (.t
 30)), Xm 32 31, Xu 33 32 (.fad 5 (.t 2)), Xu 34 32 (.load false 1 (.t 33)), Xu 35 32 (.fad 5 (.t 3)), Xu 36 32 (.load false 1 (.t 35)), Xu 37 32 (.bin false .neq (.t 34) (.t 36)), Xq 38 (.pick (.t 32) .tb (.t 37)), Xm 39 38, Xu 40 39 (.fad 3 (.t 2)), Xu 41 39 (.load false 1 (.t 40)), Xu 42 39 (.len false (.t 41)), Xu 43 39 (.fad 3 (.t 3)), Xu 44 39 (.load false 1 (.t 43)), Xu 45 39 (.len false (.t
 44)), Xu 46 39 (.bin false .neq (.t 42) (.t 45)), Xq 47 (.pick (.t 39) .tb (.t 46))]) (.cond (.t 47) (.seq (.reg [Xb 4 (.asg .fb)]) .ret) .skip)) (.seq (.seq (.reg [Xf 48 3 2, Xl 49 1 48, Xn 50 49, Xq 51 (.mov (.i 0))]) (.block 0 (.loop [2, 3, 50, 51] (.seq (.reg [Xq 52 (.bin false .lss (.t 51) (.t 50))]) (.seq (.cond (.t 52) .skip (.exit 0)) (.seq (.block 1 (.seq (.reg [Xm 53 51, Xa 5 53]) (.seq
 (.dreg [Xf 54 3 2, Xl 55 1 54, Xm 56 5, Xi 57 3 55 56, XL 58 3 57, Xf 59 3 3, Xl 60 1 59, Xm 61 5, Xi 62 3 60 61, XL 63 3 62, Xq 64 (.eqa true [1, 0, 0] (.t 58) (.t 63))]) (.cond (.t 64) (.seq (.reg [Xb 4 (.asg .fb)]) .ret) .skip)))) (.reg [Xq 65 (.bin false .add (.t 51) (.i 1)), Xm 51 65]))))))) (.seq (.reg [Xb 4 (.asg .tb)]) .ret))))
set_option maxRecDepth 100000 in
theorem d88 (x y : Ty) (hx : x.sm) (hy : y.sm) : Does Go.Proofs.Tryz.prog 88 [.agg x.z, .agg y.z] false (.v (.bool (sameTy x y))) [.dead, .dead] := by
  unfold Ty.sm at hx hy
  have lx := (hx.2.2.2.1).1
  have ly := (hy.2.2.2.1).1
  refine does_intro (mc := m88) (N := 66) (rs := [4]) (fx := []) 2 rfl (by decide +kernel) ?_
  simp only [m88, Ty.z, EV, Nat.reduceEqDiff, Nat.reduceBEq, Nat.reduceLT, Nat.reduceLeDiff, Nat.reduceAdd, Nat.reduceSub, reduceIte]
  repeat' (first
    | (refine gK_cut (fun h => ?_) (fun h => ?_) <;> simp only [h, EV, Nat.reduceEqDiff, Nat.reduceBEq, Nat.reduceLT, Nat.reduceLeDiff, Nat.reduceAdd, Nat.reduceSub, reduceIte])
    | (refine cK_cut (fun h => ?_) (fun h => ?_) <;> simp only [h, EV, Nat.reduceEqDiff, Nat.reduceBEq, Nat.reduceLT, Nat.reduceLeDiff, Nat.reduceAdd, Nat.reduceSub, reduceIte]))
  all_goals simp only [bne, Bool.not_eq_true', Bool.not_eq_false', beq_eq_false_iff_ne, beq_iff_eq, ne_eq] at *
  all_goals first
    | (have hn : ¬ x.fields.length = y.fields.length := by omega
       have e : sameTy x y = false := by simp only [sameTy, eqL_ne hn, Bool.true_and, Bool.false_and, Bool.and_true, Bool.and_false, Bool.and_self]
       simp only [e, EV, Nat.reduceEqDiff, Nat.reduceBEq, Nat.reduceLT, Nat.reduceLeDiff, Nat.reduceAdd, Nat.reduceSub, reduceIte, evRE, retVC, cellV', evR, nfz, nfzs, nfzss, List.contains_nil, List.contains_cons, Bool.or_false, or_true]
       done)
    | (have e : sameTy x y = false := by simp_all [sameTy]
       simp only [e, EV, Nat.reduceEqDiff, Nat.reduceBEq, Nat.reduceLT, Nat.reduceLeDiff, Nat.reduceAdd, Nat.reduceSub, reduceIte, evRE, retVC, cellV', evR, nfz, nfzs, nfzss, List.contains_nil, List.contains_cons, Bool.or_false, or_true]
       done)
    | skip
  have hl : x.fields.length = y.fields.length := by omega
  refine awp_loop (fun i : Nat => i ≤ x.fields.length ∧ eqTo qFd x.fields y.fields i) (fun i => stl [(2, .box 129 x.z), (3, .box 129 y.z), (50, .v (.int .i64 (x.fields.length : Int))), (51, .v (.int .i64 (i : Int)))]) (fun i => x.fields.length - i) 0 ⟨Nat.zero_le _, fun j _ _ h => absurd h (by omega)⟩ ?_ ?_
  · simp only [EV, Nat.reduceEqDiff, Nat.reduceBEq, Nat.reduceLT, Nat.reduceLeDiff, Nat.reduceAdd, Nat.reduceSub, reduceIte]
    rfl
  · rintro i ⟨hi, hto⟩
    simp only [Ty.z, EV, Nat.reduceEqDiff, Nat.reduceBEq, Nat.reduceLT, Nat.reduceLeDiff, Nat.reduceAdd, Nat.reduceSub, reduceIte]
    refine cK_cut (fun h => ?_) (fun h => ?_)
    · have h1 : i < x.fields.length := by simpa using h
      have h2 : (i : Int) < (x.fields.length : Int) := by omega
      have g1 : i < y.fields.length := by omega
      have g2 : (i : Int) < (y.fields.length : Int) := by omega
      simp only [nth_map h1, nth_map g1, h2, g2, Fd.z, Bool.true_xor, EV, Nat.reduceEqDiff, Nat.reduceBEq, Nat.reduceLT, Nat.reduceLeDiff, Nat.reduceAdd, Nat.reduceSub, reduceIte]
      refine cK_cut (fun h => ?_) (fun h => ?_)
      · have hq : qFd x.fields[i] y.fields[i] = false := by unfold qFd; simp only [Bool.not_eq_true'] at h; exact h
        have e : sameTy x y = false := by simp only [sameTy, eqL_no h1 g1 hq, Bool.true_and, Bool.false_and, Bool.and_true, Bool.and_false, Bool.and_self]
        simp only [EV, Nat.reduceEqDiff, Nat.reduceBEq, Nat.reduceLT, Nat.reduceLeDiff, Nat.reduceAdd, Nat.reduceSub, reduceIte]
        simp only [e, EV, Nat.reduceEqDiff, Nat.reduceBEq, Nat.reduceLT, Nat.reduceLeDiff, Nat.reduceAdd, Nat.reduceSub, reduceIte, evRE, retVC, cellV', evR, nfz, nfzs, nfzss, List.contains_nil, List.contains_cons, Bool.or_false, or_true]
      · have hq : qFd x.fields[i] y.fields[i] = true := by unfold qFd; simp only [Bool.not_eq_false'] at h; exact h
        simp only [EV, Nat.reduceEqDiff, Nat.reduceBEq, Nat.reduceLT, Nat.reduceLeDiff, Nat.reduceAdd, Nat.reduceSub, reduceIte]
        rw [w64 _ (by omega)]
        exact ⟨i + 1, ⟨by omega, eqTo_succ hto hq⟩, by omega, rfl⟩
    · have h0 : ¬ (i : Int) < x.fields.length := by simpa using h
      have h1 : i = x.fields.length := by omega
      subst h1
      have e : sameTy x y = true := by
        have := eqL_yes hl hto
        simp_all [sameTy]
      simp only [EV, Nat.reduceEqDiff, Nat.reduceBEq, Nat.reduceLT, Nat.reduceLeDiff, Nat.reduceAdd, Nat.reduceSub, reduceIte]
      simp only [e, EV, Nat.reduceEqDiff, Nat.reduceBEq, Nat.reduceLT, Nat.reduceLeDiff, Nat.reduceAdd, Nat.reduceSub, reduceIte, evRE, retVC, cellV', evR, nfz, nfzs, nfzss, List.contains_nil, List.contains_cons, Bool.or_false, or_true]
def m89 : MC :=
 (.seq (.reg [Xb 2 (.box 69 (.t 0)), Xb 3 (.box 69 (.t 1)), Xb 4 (.asg .fb)]) (.seq (.seq (.reg [Xf 6 0 2, Xl 7 1 6, Xf 8 0 3, Xl 9 1 8, Xq 10 (.bin false .neq (.t 7) (.t 9)), Xm 11 10, Xu 12 11 (.fad 1 (.t 2)), Xu 13 11 (.load false 1 (.t 12)), Xu 14 11 (.fad 1 (.t 3)), Xu 15 11 (.load false 1 (.t 14)), Xu 16 11 (.bin false .neq (.t 13) (.t 15)), Xq 17 (.pick (.t 11) .tb (.t 16)), Xm 18 17, Xu 19
 18 (.fad 2 (.t 2)), Xu 20 18 (.load false 1 (.t 19)), Xu 21 18 (.fad 2 (.t 3)), Xu 22 18 (.load false 1 (.t 21)), Xu 23 18 (.bin false .neq (.t 20) (.t 22)), Xq 24 (.pick (.t 18) .tb (.t 23)), Xm 25 24, Xu 26 25 (.fad 3 (.t 2)), Xu 27 25 (.load false 1 (.t 26)), Xu 28 25 (.fad 3 (.t 3)), Xu 29 25 (.load false 1 (.t 28)), Xu 30 25 (.bin false .neq (.t 27) (.t 29)), Xq 31 (.pick (.t 25) .tb (.t
 30)), Xm 32 31, Xu 33 32 (.fad 4 (.t 2)), Xu 34 32 (.load false 1 (.t 33)), Xu 35 32 (.fad 4 (.t 3)), Xu 36 32 (.load false 1 (.t 35)), Xu 37 32 (.bin false .neq (.t 34) (.t 36)), Xq 38 (.pick (.t 32) .tb (.t 37)), Xm 39 38, Xu 40 39 (.fad 5 (.t 2)), Xu 41 39 (.load false 1 (.t 40)), Xu 42 39 (.len false (.t 41)), Xu 43 39 (.fad 5 (.t 3)), Xu 44 39 (.load false 1 (.t 43)), Xu 45 39 (.len false (.t
 44)), Xu 46 39 (.bin false .neq (.t 42) (.t 45)), Xq 47 (.pick (.t 39) .tb (.t 46))]) (.cond (.t 47) (.seq (.reg [Xb 4 (.asg .fb)]) .ret) .skip)) (.seq (.seq (.reg [Xf 48 5 2, Xl 49 1 48, Xn 50 49, Xq 51 (.mov (.i 0))]) (.block 0 (.loop [2, 3, 50, 51] (.seq (.reg [Xq 52 (.bin false .lss (.t 51) (.t 50))]) (.seq (.cond (.t 52) .skip (.exit 0)) (.seq (.block 1 (.seq (.reg [Xm 53 51, Xa 5 53]) (.seq
 (.dreg [Xf 54 5 2, Xl 55 1 54, Xm 56 5, Xi 57 3 55 56, XL 58 3 57, Xf 59 5 3, Xl 60 1 59, Xm 61 5, Xi 62 3 60 61, XL 63 3 62, Xq 64 (.eqa true [1, 2, 0] (.t 58) (.t 63))]) (.cond (.t 64) (.seq (.reg [Xb 4 (.asg .fb)]) .ret) .skip)))) (.reg [Xq 65 (.bin false .add (.t 51) (.i 1)), Xm 51 65]))))))) (.seq (.reg [Xb 4 (.asg .tb)]) .ret))))
set_option maxRecDepth 100000 in
theorem d89 (x y : Ob) (hx : x.sm) (hy : y.sm) : Does Go.Proofs.Tryz.prog 89 [.agg x.z, .agg y.z] false (.v (.bool (sameOb x y))) [.dead, .dead] := by
  unfold Ob.sm at hx hy
  have lx := (hx.2.2.2.2.2).1
  have ly := (hy.2.2.2.2.2).1
  refine does_intro (mc := m89) (N := 66) (rs := [4]) (fx := []) 2 rfl (by decide +kernel) ?_
  simp only [m89, Ob.z, EV, Nat.reduceEqDiff, Nat.reduceBEq, Nat.reduceLT, Nat.reduceLeDiff, Nat.reduceAdd, Nat.reduceSub, reduceIte]
  repeat' (first
    | (refine gK_cut (fun h => ?_) (fun h => ?_) <;> simp only [h, EV, Nat.reduceEqDiff, Nat.reduceBEq, Nat.reduceLT, Nat.reduceLeDiff, Nat.reduceAdd, Nat.reduceSub, reduceIte])
    | (refine cK_cut (fun h => ?_) (fun h => ?_) <;> simp only [h, EV, Nat.reduceEqDiff, Nat.reduceBEq, Nat.reduceLT, Nat.reduceLeDiff, Nat.reduceAdd, Nat.reduceSub, reduceIte]))
  all_goals simp only [bne, Bool.not_eq_true', Bool.not_eq_false', beq_eq_false_iff_ne, beq_iff_eq, ne_eq] at *
  all_goals first
    | (have hn : ¬ x.params.length = y.params.length := by omega
       have e : sameOb x y = false := by simp only [sameOb, eqL_ne hn, Bool.true_and, Bool.false_and, Bool.and_true, Bool.and_false, Bool.and_self]
       simp only [e, EV, Nat.reduceEqDiff, Nat.reduceBEq, Nat.reduceLT, Nat.reduceLeDiff, Nat.reduceAdd, Nat.reduceSub, reduceIte, evRE, retVC, cellV', evR, nfz, nfzs, nfzss, List.contains_nil, List.contains_cons, Bool.or_false, or_true]
       done)
    | (have e : sameOb x y = false := by simp_all [sameOb]
       simp only [e, EV, Nat.reduceEqDiff, Nat.reduceBEq, Nat.reduceLT, Nat.reduceLeDiff, Nat.reduceAdd, Nat.reduceSub, reduceIte, evRE, retVC, cellV', evR, nfz, nfzs, nfzss, List.contains_nil, List.contains_cons, Bool.or_false, or_true]
       done)
    | skip
  have hl : x.params.length = y.params.length := by omega
  refine awp_loop (fun i : Nat => i ≤ x.params.length ∧ eqTo qPar x.params y.params i) (fun i => stl [(2, .box 69 x.z), (3, .box 69 y.z), (50, .v (.int .i64 (x.params.length : Int))), (51, .v (.int .i64 (i : Int)))]) (fun i => x.params.length - i) 0 ⟨Nat.zero_le _, fun j _ _ h => absurd h (by omega)⟩ ?_ ?_
  · simp only [EV, Nat.reduceEqDiff, Nat.reduceBEq, Nat.reduceLT, Nat.reduceLeDiff, Nat.reduceAdd, Nat.reduceSub, reduceIte]
    rfl
  · rintro i ⟨hi, hto⟩
    simp only [Ob.z, EV, Nat.reduceEqDiff, Nat.reduceBEq, Nat.reduceLT, Nat.reduceLeDiff, Nat.reduceAdd, Nat.reduceSub, reduceIte]
    refine cK_cut (fun h => ?_) (fun h => ?_)
    · have h1 : i < x.params.length := by simpa using h
      have h2 : (i : Int) < (x.params.length : Int) := by omega
      have g1 : i < y.params.length := by omega
      have g2 : (i : Int) < (y.params.length : Int) := by omega
      simp only [nth_map h1, nth_map g1, h2, g2, Par.z, Bool.true_xor, EV, Nat.reduceEqDiff, Nat.reduceBEq, Nat.reduceLT, Nat.reduceLeDiff, Nat.reduceAdd, Nat.reduceSub, reduceIte]
      refine cK_cut (fun h => ?_) (fun h => ?_)
      · have hq : qPar x.params[i] y.params[i] = false := by unfold qPar; simp only [Bool.not_eq_true'] at h; exact h
        have e : sameOb x y = false := by simp only [sameOb, eqL_no h1 g1 hq, Bool.true_and, Bool.false_and, Bool.and_true, Bool.and_false, Bool.and_self]
        simp only [EV, Nat.reduceEqDiff, Nat.reduceBEq, Nat.reduceLT, Nat.reduceLeDiff, Nat.reduceAdd, Nat.reduceSub, reduceIte]
        simp only [e, EV, Nat.reduceEqDiff, Nat.reduceBEq, Nat.reduceLT, Nat.reduceLeDiff, Nat.reduceAdd, Nat.reduceSub, reduceIte, evRE, retVC, cellV', evR, nfz, nfzs, nfzss, List.contains_nil, List.contains_cons, Bool.or_false, or_true]
      · have hq : qPar x.params[i] y.params[i] = true := by unfold qPar; simp only [Bool.not_eq_false'] at h; exact h
        simp only [EV, Nat.reduceEqDiff, Nat.reduceBEq, Nat.reduceLT, Nat.reduceLeDiff, Nat.reduceAdd, Nat.reduceSub, reduceIte]
        rw [w64 _ (by omega)]
        exact ⟨i + 1, ⟨by omega, eqTo_succ hto hq⟩, by omega, rfl⟩
    · have h0 : ¬ (i : Int) < x.params.length := by simpa using h
      have h1 : i = x.params.length := by omega
      subst h1
      have e : sameOb x y = true := by
        have := eqL_yes hl hto
        simp_all [sameOb]
      simp only [EV, Nat.reduceEqDiff, Nat.reduceBEq, Nat.reduceLT, Nat.reduceLeDiff, Nat.reduceAdd, Nat.reduceSub, reduceIte]
      simp only [e, EV, Nat.reduceEqDiff, Nat.reduceBEq, Nat.reduceLT, Nat.reduceLeDiff, Nat.reduceAdd, Nat.reduceSub, reduceIte, evRE, retVC, cellV', evR, nfz, nfzs, nfzss, List.contains_nil, List.contains_cons, Bool.or_false, or_true]
end Go.AM
namespace Go.AM
set_option linter.unusedVariables false
set_option linter.unusedSimpArgs false
def findI {α : Type} (q : α → Bool) (l : List α) : Int := match l.findIdx? q with | some i => i | none => -1
theorem findI_at {α : Type} {q : α → Bool} {l : List α} {i : Nat} (h : i < l.length) (h1 : q l[i] = true) (h2 : ∀ j (hj : j < l.length), j < i → q l[j] = false) : findI q l = i := by
  have : l.findIdx? q = some i := by
    rw [List.findIdx?_eq_some_iff_getElem]
    exact ⟨h, h1, fun j hj => by simp [h2 j (by omega) hj]⟩
  simp [findI, this]
theorem findI_no {α : Type} {q : α → Bool} {l : List α} (h2 : ∀ j (hj : j < l.length), q l[j] = false) : findI q l = -1 := by
  have : l.findIdx? q = none := by
    rw [List.findIdx?_eq_none_iff]
    intro x hx
    obtain ⟨j, hj, rfl⟩ := List.getElem_of_mem hx
    exact h2 j hj
  simp [findI, this]
theorem findI_any {α : Type} {q : α → Bool} {l : List α} : decide (0 ≤ findI q l) = l.any q := by
  unfold findI
  cases h : l.findIdx? q with
  | none =>
    rw [List.findIdx?_eq_none_iff] at h
    have : l.any q = false := by simp only [List.any_eq_false]; intro x hx; simp [h x hx]
    simp [this]
  | some i =>
    rw [List.findIdx?_eq_some_iff_getElem] at h
    obtain ⟨hi, h1, _⟩ := h
    have : l.any q = true := by rw [List.any_eq_true]; exact ⟨l[i], List.getElem_mem hi, h1⟩
    simp only [this]
    simp
def m271 : MC :=
 (.seq (.reg [Xb 4 (.asg (.i 0))]) (.seq (.seq (.reg [Xm 6 0, Xn 7 6, Xq 8 (.mov (.i 0))]) (.block 0 (.loop [0, 1, 7, 8] (.seq (.reg [Xq 9 (.bin false .lss (.t 8) (.t 7))]) (.seq (.cond (.t 9) .skip (.exit 0)) (.seq (.block 1 (.seq (.reg [Xm 10 8, Xa 5 10]) (.seq (.reg [Xm 11 1, Xm 12 0, Xm 13 5, Xi 14 6 12 13, XL 15 6 14, Xb 16 (.call (.t 11) false [.lend (.t 15)])]) (.cond (.t 16) (.seq (.reg [Xm
 17 5, Xa 4 17]) .ret) .skip)))) (.reg [Xq 18 (.bin false .add (.t 8) (.i 1)), Xm 8 18]))))))) (.seq (.reg [Xb 4 (.asg (.i (-1)))]) .ret)))
theorem d271 (l : List Ty) (hl : l.length < 9223372036854775807) (f : Nat) (caps : List AV) (q : Ty → Bool) (hp : plains caps = true) (hb : bares caps = true) (hk : ∀ K, killVs K caps = caps) (hf : ∀ (st : St), frzBs st caps = caps)
    (hq : ∀ s ∈ l, Does Go.Proofs.Tryz.prog f (.agg s.z :: caps) false (.v (.bool (q s))) (.dead :: caps.map fun _ => .dead)) :
    Does Go.Proofs.Tryz.prog 271 [.fsl 6 (l.map Ty.z), .clo f caps] false (.v (.int .i64 (findI q l))) [.dead, .dead] := by
  refine does_intro (mc := m271) (N := 19) (rs := [4]) (fx := []) 2 rfl (by decide +kernel) ?_
  simp only [m271, EV, Nat.reduceEqDiff, Nat.reduceBEq, Nat.reduceLT, Nat.reduceLeDiff, Nat.reduceAdd, Nat.reduceSub, reduceIte]
  refine awp_loop (fun i : Nat => i ≤ l.length ∧ ∀ j (hj : j < l.length), j < i → q l[j] = false) (fun i => stl [(0, .fsl 6 (l.map Ty.z)), (1, .clo f caps), (7, .v (.int .i64 (l.length : Int))), (8, .v (.int .i64 (i : Int)))]) (fun i => l.length - i) 0 ⟨Nat.zero_le _, fun j hj h => absurd h (by omega)⟩ ?_ ?_
  · simp only [hp, hb, hk, EV, Nat.reduceEqDiff, Nat.reduceBEq, Nat.reduceLT, Nat.reduceLeDiff, Nat.reduceAdd, Nat.reduceSub, reduceIte]
    rfl
  · rintro i ⟨hi, hno⟩
    simp only [EV, Nat.reduceEqDiff, Nat.reduceBEq, Nat.reduceLT, Nat.reduceLeDiff, Nat.reduceAdd, Nat.reduceSub, reduceIte]
    refine cK_cut (fun h => ?_) (fun h => ?_)
    · have h1 : i < l.length := by simpa using h
      have h2 : (i : Int) < (l.length : Int) := by omega
      simp only [TyE, nth_map h1, h2, hp, hb, EV, Nat.reduceEqDiff, Nat.reduceBEq, Nat.reduceLT, Nat.reduceLeDiff, Nat.reduceAdd, Nat.reduceSub, reduceIte]
      refine callK_i (hq l[i] (List.getElem_mem h1)) ?_
      simp only [EV, Nat.reduceEqDiff, Nat.reduceBEq, Nat.reduceLT, Nat.reduceLeDiff, Nat.reduceAdd, Nat.reduceSub, reduceIte]
      refine cK_cut (fun h => ?_) (fun h => ?_)
      · simp only [EV, Nat.reduceEqDiff, Nat.reduceBEq, Nat.reduceLT, Nat.reduceLeDiff, Nat.reduceAdd, Nat.reduceSub, reduceIte]
        simp only [findI_at h1 h hno, EV, Nat.reduceEqDiff, Nat.reduceBEq, Nat.reduceLT, Nat.reduceLeDiff, Nat.reduceAdd, Nat.reduceSub, reduceIte, evRE, retVC, cellV', evR, nfz, nfzs, nfzss, List.contains_nil, List.contains_cons, Bool.or_false, or_true]
      · simp only [hp, hb, hk, EV, Nat.reduceEqDiff, Nat.reduceBEq, Nat.reduceLT, Nat.reduceLeDiff, Nat.reduceAdd, Nat.reduceSub, reduceIte]
        rw [w64 _ (by omega)]
        refine ⟨i + 1, ⟨by omega, ?_⟩, by omega, rfl⟩
        intro j hj hji
        by_cases e : j = i
        · subst e; exact h
        · exact hno j hj (by omega)
    · have h1 : i = l.length := by have : ¬ (i : Int) < l.length := by simpa using h
                                   omega
      subst h1
      simp only [EV, Nat.reduceEqDiff, Nat.reduceBEq, Nat.reduceLT, Nat.reduceLeDiff, Nat.reduceAdd, Nat.reduceSub, reduceIte]
      simp only [findI_no (fun j hj => hno j hj hj), EV, Nat.reduceEqDiff, Nat.reduceBEq, Nat.reduceLT, Nat.reduceLeDiff, Nat.reduceAdd, Nat.reduceSub, reduceIte, evRE, retVC, cellV', evR, nfz, nfzs, nfzss, List.contains_nil, List.contains_cons, Bool.or_false, or_true]
def m226 : MC :=
 (.seq (.reg [Xb 4 (.asg .fb)]) (.seq (.reg [Xm 5 0, Xm 6 1, Xb 7 (.call (.fn 271) false [.lend (.t 5), .lend (.t 6)]), Xq 8 (.bin false .geq (.t 7) (.i 0)), Xa 4 8]) .ret))
theorem d226 (l : List Ty) (hl : l.length < 9223372036854775807) (f : Nat) (caps : List AV) (q : Ty → Bool) (hp : plains caps = true) (hb : bares caps = true) (hk : ∀ K, killVs K caps = caps) (hf : ∀ (st : St), frzBs st caps = caps)
    (hq : ∀ s ∈ l, Does Go.Proofs.Tryz.prog f (.agg s.z :: caps) false (.v (.bool (q s))) (.dead :: caps.map fun _ => .dead)) :
    Does Go.Proofs.Tryz.prog 226 [.fsl 6 (l.map Ty.z), .clo f caps] false (.v (.bool (l.any q))) [.dead, .dead] := by
  refine does_intro (mc := m226) (N := 9) (rs := [4]) (fx := []) 2 rfl (by decide +kernel) ?_
  simp only [m226, hp, hb, hk, hf, EV, Nat.reduceEqDiff, Nat.reduceBEq, Nat.reduceLT, Nat.reduceLeDiff, Nat.reduceAdd, Nat.reduceSub, reduceIte]
  refine callK_i (d271 l hl f caps q hp hb hk hf hq) ?_
  simp only [EV, Nat.reduceEqDiff, Nat.reduceBEq, Nat.reduceLT, Nat.reduceLeDiff, Nat.reduceAdd, Nat.reduceSub, reduceIte]
  simp only [findI_any, EV, Nat.reduceEqDiff, Nat.reduceBEq, Nat.reduceLT, Nat.reduceLeDiff, Nat.reduceAdd, Nat.reduceSub, reduceIte, evRE, retVC, cellV', evR, nfz, nfzs, nfzss, List.contains_nil, List.contains_cons, Bool.or_false, or_true]
def m310 : MC :=
 (.seq (.reg [Xb 4 (.asg (.i 0))]) (.seq (.seq (.reg [Xm 6 0, Xn 7 6, Xq 8 (.mov (.i 0))]) (.block 0 (.loop [0, 1, 7, 8] (.seq (.reg [Xq 9 (.bin false .lss (.t 8) (.t 7))]) (.seq (.cond (.t 9) .skip (.exit 0)) (.seq (.block 1 (.seq (.reg [Xm 10 8, Xa 5 10]) (.seq (.reg [Xm 11 1, Xm 12 0, Xm 13 5, Xi 14 3 12 13, XL 15 3 14, Xb 16 (.call (.t 11) false [.lend (.t 15)])]) (.cond (.t 16) (.seq (.reg [Xm
 17 5, Xa 4 17]) .ret) .skip)))) (.reg [Xq 18 (.bin false .add (.t 8) (.i 1)), Xm 8 18]))))))) (.seq (.reg [Xb 4 (.asg (.i (-1)))]) .ret)))
theorem d310 (l : List Fd) (hl : l.length < 9223372036854775807) (f : Nat) (caps : List AV) (q : Fd → Bool) (hp : plains caps = true) (hb : bares caps = true) (hk : ∀ K, killVs K caps = caps) (hf : ∀ (st : St), frzBs st caps = caps)
    (hq : ∀ s ∈ l, Does Go.Proofs.Tryz.prog f (.agg s.z :: caps) false (.v (.bool (q s))) (.dead :: caps.map fun _ => .dead)) :
    Does Go.Proofs.Tryz.prog 310 [.fsl 3 (l.map Fd.z), .clo f caps] false (.v (.int .i64 (findI q l))) [.dead, .dead] := by
  refine does_intro (mc := m310) (N := 19) (rs := [4]) (fx := []) 2 rfl (by decide +kernel) ?_
  simp only [m310, EV, Nat.reduceEqDiff, Nat.reduceBEq, Nat.reduceLT, Nat.reduceLeDiff, Nat.reduceAdd, Nat.reduceSub, reduceIte]
  refine awp_loop (fun i : Nat => i ≤ l.length ∧ ∀ j (hj : j < l.length), j < i → q l[j] = false) (fun i => stl [(0, .fsl 3 (l.map Fd.z)), (1, .clo f caps), (7, .v (.int .i64 (l.length : Int))), (8, .v (.int .i64 (i : Int)))]) (fun i => l.length - i) 0 ⟨Nat.zero_le _, fun j hj h => absurd h (by omega)⟩ ?_ ?_
  · simp only [hp, hb, hk, EV, Nat.reduceEqDiff, Nat.reduceBEq, Nat.reduceLT, Nat.reduceLeDiff, Nat.reduceAdd, Nat.reduceSub, reduceIte]
    rfl
  · rintro i ⟨hi, hno⟩
    simp only [EV, Nat.reduceEqDiff, Nat.reduceBEq, Nat.reduceLT, Nat.reduceLeDiff, Nat.reduceAdd, Nat.reduceSub, reduceIte]
    refine cK_cut (fun h => ?_) (fun h => ?_)
    · have h1 : i < l.length := by simpa using h
      have h2 : (i : Int) < (l.length : Int) := by omega
      simp only [FdE, nth_map h1, h2, hp, hb, EV, Nat.reduceEqDiff, Nat.reduceBEq, Nat.reduceLT, Nat.reduceLeDiff, Nat.reduceAdd, Nat.reduceSub, reduceIte]
      refine callK_i (hq l[i] (List.getElem_mem h1)) ?_
      simp only [EV, Nat.reduceEqDiff, Nat.reduceBEq, Nat.reduceLT, Nat.reduceLeDiff, Nat.reduceAdd, Nat.reduceSub, reduceIte]
      refine cK_cut (fun h => ?_) (fun h => ?_)
      · simp only [EV, Nat.reduceEqDiff, Nat.reduceBEq, Nat.reduceLT, Nat.reduceLeDiff, Nat.reduceAdd, Nat.reduceSub, reduceIte]
        simp only [findI_at h1 h hno, EV, Nat.reduceEqDiff, Nat.reduceBEq, Nat.reduceLT, Nat.reduceLeDiff, Nat.reduceAdd, Nat.reduceSub, reduceIte, evRE, retVC, cellV', evR, nfz, nfzs, nfzss, List.contains_nil, List.contains_cons, Bool.or_false, or_true]
      · simp only [hp, hb, hk, EV, Nat.reduceEqDiff, Nat.reduceBEq, Nat.reduceLT, Nat.reduceLeDiff, Nat.reduceAdd, Nat.reduceSub, reduceIte]
        rw [w64 _ (by omega)]
        refine ⟨i + 1, ⟨by omega, ?_⟩, by omega, rfl⟩
        intro j hj hji
        by_cases e : j = i
        · subst e; exact h
        · exact hno j hj (by omega)
    · have h1 : i = l.length := by have : ¬ (i : Int) < l.length := by simpa using h
                                   omega
      subst h1
      simp only [EV, Nat.reduceEqDiff, Nat.reduceBEq, Nat.reduceLT, Nat.reduceLeDiff, Nat.reduceAdd, Nat.reduceSub, reduceIte]
      simp only [findI_no (fun j hj => hno j hj hj), EV, Nat.reduceEqDiff, Nat.reduceBEq, Nat.reduceLT, Nat.reduceLeDiff, Nat.reduceAdd, Nat.reduceSub, reduceIte, evRE, retVC, cellV', evR, nfz, nfzs, nfzss, List.contains_nil, List.contains_cons, Bool.or_false, or_true]
def m297 : MC :=
 (.seq (.reg [Xb 4 (.asg .fb)]) (.seq (.reg [Xm 5 0, Xm 6 1, Xb 7 (.call (.fn 310) false [.lend (.t 5), .lend (.t 6)]), Xq 8 (.bin false .geq (.t 7) (.i 0)), Xa 4 8]) .ret))
theorem d297 (l : List Fd) (hl : l.length < 9223372036854775807) (f : Nat) (caps : List AV) (q : Fd → Bool) (hp : plains caps = true) (hb : bares caps = true) (hk : ∀ K, killVs K caps = caps) (hf : ∀ (st : St), frzBs st caps = caps)
    (hq : ∀ s ∈ l, Does Go.Proofs.Tryz.prog f (.agg s.z :: caps) false (.v (.bool (q s))) (.dead :: caps.map fun _ => .dead)) :
    Does Go.Proofs.Tryz.prog 297 [.fsl 3 (l.map Fd.z), .clo f caps] false (.v (.bool (l.any q))) [.dead, .dead] := by
  refine does_intro (mc := m297) (N := 9) (rs := [4]) (fx := []) 2 rfl (by decide +kernel) ?_
  simp only [m297, hp, hb, hk, hf, EV, Nat.reduceEqDiff, Nat.reduceBEq, Nat.reduceLT, Nat.reduceLeDiff, Nat.reduceAdd, Nat.reduceSub, reduceIte]
  refine callK_i (d310 l hl f caps q hp hb hk hf hq) ?_
  simp only [EV, Nat.reduceEqDiff, Nat.reduceBEq, Nat.reduceLT, Nat.reduceLeDiff, Nat.reduceAdd, Nat.reduceSub, reduceIte]
  simp only [findI_any, EV, Nat.reduceEqDiff, Nat.reduceBEq, Nat.reduceLT, Nat.reduceLeDiff, Nat.reduceAdd, Nat.reduceSub, reduceIte, evRE, retVC, cellV', evR, nfz, nfzs, nfzss, List.contains_nil, List.contains_cons, Bool.or_false, or_true]
def tyNm (x o : Ty) : Bool := o.name.toList == x.name.toList && o.owner.toList == x.owner.toList
def fdNm (x o : Fd) : Bool := o.name.toList == x.name.toList
def m227 : MC :=
 (.seq (.reg [Xb 2 (.box 129 (.t 0)), Xb 3 (.asg .fb)]) (.seq (.reg [Xf 4 5 2, Xl 5 1 4, Xf 6 5 1, Xl 7 1 6, Xq 8 (.bin false .eql (.t 5) (.t 7)), Xm 9 8, Xt 10 9 (.fad 4 (.t 2)), Xt 11 9 (.load false 1 (.t 10)), Xt 12 9 (.fad 4 (.t 1)), Xt 13 9 (.load false 1 (.t 12)), Xt 14 9 (.bin false .eql (.t 11) (.t 13)), Xq 15 (.pick (.t 9) (.t 14) .fb), Xa 3 15]) .ret))
theorem d227 (o x : Ty) : Does Go.Proofs.Tryz.prog 227 [.agg o.z, .fptr x.z] false (.v (.bool (tyNm x o))) [.dead, .dead] := by
  refine does_intro (mc := m227) (N := 16) (rs := [3]) (fx := []) 2 rfl (by decide +kernel) ?_
  simp only [m227, Ty.z, EV, Nat.reduceEqDiff, Nat.reduceBEq, Nat.reduceLT, Nat.reduceLeDiff, Nat.reduceAdd, Nat.reduceSub, reduceIte]
  repeat' (first
    | (refine gK_cut (fun h => ?_) (fun h => ?_) <;> simp only [h, EV, Nat.reduceEqDiff, Nat.reduceBEq, Nat.reduceLT, Nat.reduceLeDiff, Nat.reduceAdd, Nat.reduceSub, reduceIte])
    | (refine cK_cut (fun h => ?_) (fun h => ?_) <;> simp only [h, EV, Nat.reduceEqDiff, Nat.reduceBEq, Nat.reduceLT, Nat.reduceLeDiff, Nat.reduceAdd, Nat.reduceSub, reduceIte]))
  all_goals simp only [tyNm, h, Bool.true_and, Bool.false_and, EV, Nat.reduceEqDiff, Nat.reduceBEq, Nat.reduceLT, Nat.reduceLeDiff, Nat.reduceAdd, Nat.reduceSub, reduceIte, evRE, retVC, cellV', evR, nfz, nfzs, nfzss, List.contains_nil, List.contains_cons, Bool.or_false, or_true]
def m298 : MC :=
 (.seq (.reg [Xb 2 (.box 138 (.t 0)), Xb 3 (.asg .fb)]) (.seq (.reg [Xf 4 0 2, Xl 5 1 4, Xf 6 0 1, Xl 7 1 6, Xq 8 (.bin false .eql (.t 5) (.t 7)), Xa 3 8]) .ret))
theorem d298 (o x : Fd) : Does Go.Proofs.Tryz.prog 298 [.agg o.z, .fptr x.z] false (.v (.bool (fdNm x o))) [.dead, .dead] := by
  refine does_intro (mc := m298) (N := 9) (rs := [3]) (fx := []) 2 rfl (by decide +kernel) ?_
  simp only [m298, Fd.z, EV, Nat.reduceEqDiff, Nat.reduceBEq, Nat.reduceLT, Nat.reduceLeDiff, Nat.reduceAdd, Nat.reduceSub, reduceIte]
  simp only [fdNm, EV, Nat.reduceEqDiff, Nat.reduceBEq, Nat.reduceLT, Nat.reduceLeDiff, Nat.reduceAdd, Nat.reduceSub, reduceIte, evRE, retVC, cellV', evR, nfz, nfzs, nfzss, List.contains_nil, List.contains_cons, Bool.or_false, or_true]
def baseTs : List Ty := [⟨1, 0, -1, [], ⟨#[]⟩, ⟨#[73, 78, 84]⟩⟩, ⟨2, 0, -1, [], ⟨#[]⟩, ⟨#[66, 79, 79, 76]⟩⟩, ⟨3, 0, -1, [], ⟨#[]⟩, ⟨#[67, 72, 65, 82]⟩⟩]
def m215 : MC :=
 (.seq (.reg [Xb 0 (.asg (.nils 129 6))]) (.seq (.reg [Xb 1 (.build [0, 2, 5] [0, 2, 5] [1, 1, 1] [.i, .i, .i, .s 138 3, .z, .z] [.i 1, .i (-1), .z #[73, 78, 84]]), Xb 2 (.build [0, 2, 5] [0, 2, 5] [1, 1, 1] [.i, .i, .i, .s 138 3, .z, .z] [.i 2, .i (-1), .z #[66, 79, 79, 76]]), Xb 3 (.build [0, 2, 5] [0, 2, 5] [1, 1, 1] [.i, .i, .i, .s 138 3, .z, .z] [.i 3, .i (-1), .z #[67, 72, 65, 82]]), Xb 4
 (.bsl 129 6 [.t 1, .t 2, .t 3]), Xa 0 4]) .ret))
theorem d215 : Does Go.Proofs.Tryz.prog 215 [] false (.usl 129 6 (baseTs.map Ty.o)) [] := by
  refine does_intro (mc := m215) (N := 5) (rs := [0]) (fx := []) 0 rfl (by decide +kernel) ?_
  simp only [m215, baseTs, Ty.o, EV, Nat.reduceEqDiff, Nat.reduceBEq, Nat.reduceLT, Nat.reduceLeDiff, Nat.reduceAdd, Nat.reduceSub, reduceIte]
  simp only [EV, Nat.reduceEqDiff, Nat.reduceBEq, Nat.reduceLT, Nat.reduceLeDiff, Nat.reduceAdd, Nat.reduceSub, reduceIte, evRE, retVC, cellV', evR, nfz, nfzs, nfzss, List.contains_nil, List.contains_cons, Bool.or_false, or_true]
def m270 : MC :=
 (.seq (.reg [Xb 0 (.asg (.nils 129 6))]) (.seq (.reg [Xb 1 (.build [0, 2, 5] [0, 2, 5] [1, 1, 1] [.i, .i, .i, .s 138 3, .z, .z] [.i 1, .i (-1), .z #[73, 78, 84]]), Xb 2 (.build [0, 2, 5] [0, 2, 5] [1, 1, 1] [.i, .i, .i, .s 138 3, .z, .z] [.i 2, .i (-1), .z #[66, 79, 79, 76]]), Xb 3 (.build [0, 2, 5] [0, 2, 5] [1, 1, 1] [.i, .i, .i, .s 138 3, .z, .z] [.i 3, .i (-1), .z #[67, 72, 65, 82]]), Xb 4
 (.bsl 129 6 [.t 1, .t 2, .t 3]), Xa 0 4]) .ret))
theorem d270 : Does Go.Proofs.Tryz.prog 270 [] false (.usl 129 6 (baseTs.map Ty.o)) [] := by
  refine does_intro (mc := m270) (N := 5) (rs := [0]) (fx := []) 0 rfl (by decide +kernel) ?_
  simp only [m270, baseTs, Ty.o, EV, Nat.reduceEqDiff, Nat.reduceBEq, Nat.reduceLT, Nat.reduceLeDiff, Nat.reduceAdd, Nat.reduceSub, reduceIte]
  simp only [EV, Nat.reduceEqDiff, Nat.reduceBEq, Nat.reduceLT, Nat.reduceLeDiff, Nat.reduceAdd, Nat.reduceSub, reduceIte, evRE, retVC, cellV', evR, nfz, nfzs, nfzss, List.contains_nil, List.contains_cons, Bool.or_false, or_true]
def isNum (l : List Ty) (n : Int) : Bool := decide (0 ≤ n) && decide (n ≤ (l.length : Int) - 1)
def kd (l : List Ty) (n : Int) : Int := match l[n.toNat]? with
  | some t => t.kind
  | none => 0
theorem isNum_lt {l : List Ty} {n : Int} (h : isNum l n = true) : 0 ≤ n ∧ n < l.length ∧ ∃ hn : n.toNat < l.length, kd l n = l[n.toNat].kind := by
  simp only [isNum, Bool.and_eq_true, decide_eq_true_eq] at h
  have hn : n.toNat < l.length := by omega
  exact ⟨h.1, by omega, hn, by simp [kd, hn]⟩
def m95 : MC :=
 (.seq (.reg [Xb 4 (.asg .fb)]) (.seq (.reg [Xm 5 1, Xm 6 0, Xn 7 6, Xq 8 (.bin false .sub (.t 7) (.i 1)), Xb 9 (.call (.fn 171) false [.lend (.t 5), .lend (.i 0), .lend (.t 8)]), Xa 4 9]) .ret))
theorem d95 (l : List Ty) (n : Int) (hl : (l.length : Int) ≤ 1048576) : Does Go.Proofs.Tryz.prog 95 [.fsl 6 (l.map Ty.z), .v (.int .i64 n)] false (.v (.bool (isNum l n))) [.dead, .dead] := by
  refine does_intro (mc := m95) (N := 10) (rs := [4]) (fx := []) 2 rfl (by decide +kernel) ?_
  simp only [m95, EV, Nat.reduceEqDiff, Nat.reduceBEq, Nat.reduceLT, Nat.reduceLeDiff, Nat.reduceAdd, Nat.reduceSub, reduceIte]
  rw [w64 _ (by omega)]
  refine callK_i (d171 _ _ _) ?_
  simp only [EV, Nat.reduceEqDiff, Nat.reduceBEq, Nat.reduceLT, Nat.reduceLeDiff, Nat.reduceAdd, Nat.reduceSub, reduceIte]
  simp only [isNum, EV, Nat.reduceEqDiff, Nat.reduceBEq, Nat.reduceLT, Nat.reduceLeDiff, Nat.reduceAdd, Nat.reduceSub, reduceIte, evRE, retVC, cellV', evR, nfz, nfzs, nfzss, List.contains_nil, List.contains_cons, Bool.or_false, or_true]
def isRec (l : List Ty) (n : Int) : Bool := isNum l n && kd l n == 5
def m273 : MC :=
 (.seq (.reg [Xb 4 (.asg .fb)]) (.seq (.reg [Xm 5 0, Xm 6 1, Xb 7 (.call (.fn 95) false [.lend (.t 5), .lend (.t 6)]), Xm 8 7, Xt 9 8 (.mov (.t 0)), Xt 10 8 (.mov (.t 1)), Xt 11 8 (.iad 6 (.t 9) (.t 10)), Xt 12 8 (.fad 0 (.t 11)), Xt 13 8 (.load false 1 (.t 12)), Xt 14 8 (.bin false .eql (.t 13) (.i 5)), Xq 15 (.pick (.t 8) (.t 14) .fb), Xa 4 15]) .ret))
set_option maxRecDepth 100000 in
theorem d273 (l : List Ty) (n : Int) (hl : (l.length : Int) ≤ 1048576) : Does Go.Proofs.Tryz.prog 273 [.fsl 6 (l.map Ty.z), .v (.int .i64 n)] false (.v (.bool (isRec l n))) [.dead, .dead] := by
  refine does_intro (mc := m273) (N := 16) (rs := [4]) (fx := []) 2 rfl (by decide +kernel) ?_
  simp only [m273, EV, Nat.reduceEqDiff, Nat.reduceBEq, Nat.reduceLT, Nat.reduceLeDiff, Nat.reduceAdd, Nat.reduceSub, reduceIte]
  refine callK_i (d95 l n hl) ?_
  simp only [EV, Nat.reduceEqDiff, Nat.reduceBEq, Nat.reduceLT, Nat.reduceLeDiff, Nat.reduceAdd, Nat.reduceSub, reduceIte]
  rcases e : isNum l n with _ | _
  · simp only [EV, Nat.reduceEqDiff, Nat.reduceBEq, Nat.reduceLT, Nat.reduceLeDiff, Nat.reduceAdd, Nat.reduceSub, reduceIte]
    simp only [isRec, e, Bool.false_and, EV, Nat.reduceEqDiff, Nat.reduceBEq, Nat.reduceLT, Nat.reduceLeDiff, Nat.reduceAdd, Nat.reduceSub, reduceIte, evRE, retVC, cellV', evR, nfz, nfzs, nfzss, List.contains_nil, List.contains_cons, Bool.or_false, or_true]
  · obtain ⟨h0, h1, hn, hk⟩ := isNum_lt e
    simp only [h0, h1, nth_map hn, Ty.z, EV, Nat.reduceEqDiff, Nat.reduceBEq, Nat.reduceLT, Nat.reduceLeDiff, Nat.reduceAdd, Nat.reduceSub, reduceIte]
    simp only [isRec, e, hk, Bool.true_and, EV, Nat.reduceEqDiff, Nat.reduceBEq, Nat.reduceLT, Nat.reduceLeDiff, Nat.reduceAdd, Nat.reduceSub, reduceIte, evRE, retVC, cellV', evR, nfz, nfzs, nfzss, List.contains_nil, List.contains_cons, Bool.or_false, or_true]
def kindIn (l : List Ty) (n a b : Int) : Bool := isNum l n && (kd l n == a || kd l n == b)
def m286 : MC :=
 (.seq (.reg [Xb 8 (.asg .fb)]) (.seq (.reg [Xm 9 1, Xm 10 0, Xn 11 10, Xq 12 (.bin false .sub (.t 11) (.i 1)), Xb 13 (.call (.fn 172) false [.lend (.t 9), .lend (.i 0), .lend (.t 12)]), Xm 14 13, Xt 15 14 (.mov (.t 0)), Xt 16 14 (.mov (.t 1)), Xt 17 14 (.iad 6 (.t 15) (.t 16)), Xt 18 14 (.fad 0 (.t 17)), Xt 19 14 (.load false 1 (.t 18)), Xt 20 14 (.mov (.t 2)), Xt 21 14 (.bin false .eql (.t 19)
 (.t 20)), Xt 22 14 (.mov (.t 21)), Xu 23 22 (.mov (.t 0)), Xu 24 22 (.mov (.t 1)), Xu 25 22 (.iad 6 (.t 23) (.t 24)), Xu 26 22 (.fad 0 (.t 25)), Xu 27 22 (.load false 1 (.t 26)), Xu 28 22 (.mov (.t 3)), Xu 29 22 (.bin false .eql (.t 27) (.t 28)), Xt 30 14 (.pick (.t 22) .tb (.t 29)), Xq 31 (.pick (.t 14) (.t 30) .fb), Xa 8 31]) .ret))
set_option maxRecDepth 100000 in
theorem d286 (l : List Ty) (n a b : Int) (hl : (l.length : Int) ≤ 1048576) : Does Go.Proofs.Tryz.prog 286 [.fsl 6 (l.map Ty.z), .v (.int .i64 n), .v (.int .i64 a), .v (.int .i64 b)] false (.v (.bool (kindIn l n a b))) [.dead, .dead, .dead, .dead] := by
  refine does_intro (mc := m286) (N := 32) (rs := [8]) (fx := []) 4 rfl (by decide +kernel) ?_
  simp only [m286, EV, Nat.reduceEqDiff, Nat.reduceBEq, Nat.reduceLT, Nat.reduceLeDiff, Nat.reduceAdd, Nat.reduceSub, reduceIte]
  rw [w64 _ (by omega)]
  refine callK_i (d172 _ _ _) ?_
  have en : isNum l n = (decide (0 ≤ n) && decide (n ≤ (l.length : Int) - 1)) := rfl
  rw [← en]
  simp only [EV, Nat.reduceEqDiff, Nat.reduceBEq, Nat.reduceLT, Nat.reduceLeDiff, Nat.reduceAdd, Nat.reduceSub, reduceIte]
  rcases e : isNum l n with _ | _
  · simp only [EV, Nat.reduceEqDiff, Nat.reduceBEq, Nat.reduceLT, Nat.reduceLeDiff, Nat.reduceAdd, Nat.reduceSub, reduceIte]
    simp only [kindIn, e, Bool.false_and, EV, Nat.reduceEqDiff, Nat.reduceBEq, Nat.reduceLT, Nat.reduceLeDiff, Nat.reduceAdd, Nat.reduceSub, reduceIte, evRE, retVC, cellV', evR, nfz, nfzs, nfzss, List.contains_nil, List.contains_cons, Bool.or_false, or_true]
  · obtain ⟨h0, h1, hn, hk⟩ := isNum_lt e
    simp only [h0, h1, nth_map hn, Ty.z, EV, Nat.reduceEqDiff, Nat.reduceBEq, Nat.reduceLT, Nat.reduceLeDiff, Nat.reduceAdd, Nat.reduceSub, reduceIte]
    refine gK_cut (fun h => ?_) (fun h => ?_)
    · simp only [h, EV, Nat.reduceEqDiff, Nat.reduceBEq, Nat.reduceLT, Nat.reduceLeDiff, Nat.reduceAdd, Nat.reduceSub, reduceIte]
      simp only [kindIn, e, hk, h, Bool.true_and, Bool.true_or, EV, Nat.reduceEqDiff, Nat.reduceBEq, Nat.reduceLT, Nat.reduceLeDiff, Nat.reduceAdd, Nat.reduceSub, reduceIte, evRE, retVC, cellV', evR, nfz, nfzs, nfzss, List.contains_nil, List.contains_cons, Bool.or_false, or_true]
    · simp only [h, h0, h1, nth_map hn, Ty.z, EV, Nat.reduceEqDiff, Nat.reduceBEq, Nat.reduceLT, Nat.reduceLeDiff, Nat.reduceAdd, Nat.reduceSub, reduceIte]
      simp only [kindIn, e, hk, h, Bool.true_and, Bool.false_or, EV, Nat.reduceEqDiff, Nat.reduceBEq, Nat.reduceLT, Nat.reduceLeDiff, Nat.reduceAdd, Nat.reduceSub, reduceIte, evRE, retVC, cellV', evR, nfz, nfzs, nfzss, List.contains_nil, List.contains_cons, Bool.or_false, or_true]
noncomputable def named (t : Ty) : Bool := nameOk t.name && nameOk t.owner || (t.name.toList == (⟨#[]⟩ : ByteArray).toList && t.owner.toList == (⟨#[]⟩ : ByteArray).toList)
def m272 : MC :=
 (.seq (.reg [Xb 1 (.box 129 (.t 0)), Xb 2 (.asg .fb)]) (.seq (.reg [Xf 3 5 1, Xl 4 1 3, Xb 5 (.call (.fn 143) false [.lend (.t 4)]), Xm 6 5, Xt 7 6 (.fad 4 (.t 1)), Xt 8 6 (.load false 1 (.t 7)), XT 9 6 (.call (.fn 143) false [.lend (.t 8)]), Xq 10 (.pick (.t 6) (.t 9) .fb), Xm 11 10, Xu 12 11 (.fad 5 (.t 1)), Xu 13 11 (.load false 1 (.t 12)), Xu 14 11 (.bin false .eql (.t 13) (.z #[])), Xu 15 11
 (.mov (.t 14)), Xt 16 15 (.fad 4 (.t 1)), Xt 17 15 (.load false 1 (.t 16)), Xt 18 15 (.bin false .eql (.t 17) (.z #[])), Xu 19 11 (.pick (.t 15) (.t 18) .fb), Xq 20 (.pick (.t 11) .tb (.t 19)), Xa 2 20]) .ret))
set_option maxRecDepth 100000 in
theorem d272 (t : Ty) (ht : t.sm) : Does Go.Proofs.Tryz.prog 272 [.agg t.z] false (.v (.bool (named t))) [.dead] := by
  unfold Ty.sm at ht
  refine does_intro (mc := m272) (N := 21) (rs := [2]) (fx := []) 1 rfl (by decide +kernel) ?_
  simp only [m272, Ty.z, EV, Nat.reduceEqDiff, Nat.reduceBEq, Nat.reduceLT, Nat.reduceLeDiff, Nat.reduceAdd, Nat.reduceSub, reduceIte]
  refine callK_i (d143 _ (by omega)) ?_
  simp only [EV, Nat.reduceEqDiff, Nat.reduceBEq, Nat.reduceLT, Nat.reduceLeDiff, Nat.reduceAdd, Nat.reduceSub, reduceIte]
  repeat' (first
    | (refine gK_cut (fun h => ?_) (fun h => ?_) <;> simp only [h, EV, Nat.reduceEqDiff, Nat.reduceBEq, Nat.reduceLT, Nat.reduceLeDiff, Nat.reduceAdd, Nat.reduceSub, reduceIte])
    | (refine cK_cut (fun h => ?_) (fun h => ?_) <;> simp only [h, EV, Nat.reduceEqDiff, Nat.reduceBEq, Nat.reduceLT, Nat.reduceLeDiff, Nat.reduceAdd, Nat.reduceSub, reduceIte])
    | (refine callK_i (d143 _ (by omega)) ?_ <;> simp only [h, EV, Nat.reduceEqDiff, Nat.reduceBEq, Nat.reduceLT, Nat.reduceLeDiff, Nat.reduceAdd, Nat.reduceSub, reduceIte]))
  all_goals simp only [named, *, Bool.true_and, Bool.false_and, Bool.and_true, Bool.and_false, Bool.true_or, Bool.false_or, Bool.or_false, Bool.or_true, EV, Nat.reduceEqDiff, Nat.reduceBEq, Nat.reduceLT, Nat.reduceLeDiff, Nat.reduceAdd, Nat.reduceSub, reduceIte, evRE, retVC, cellV', evR, nfz, nfzs, nfzss, List.contains_nil, List.contains_cons, Bool.or_false, or_true]
end Go.AM
namespace Go.AM
set_option linter.unusedVariables false
set_option linter.unusedSimpArgs false
def iv (n : Int) : List AV := [.v (.int .i64 n)]
theorem iv_frz : ∀ l : List Int, frzRows (l.map iv) = l.map iv
  | [] => rfl
  | n :: l => by simp only [List.map_cons, frzRows, iv_frz l]; rfl
theorem iv_nfz : ∀ l : List Int, nfzss (l.map iv) = true
  | [] => rfl
  | n :: l => by simp only [List.map_cons, nfzss, iv_nfz l, Bool.and_true]; rfl
theorem iv_stor {l : List Int} {a b : Nat} : ∀ c ∈ ((l.map iv).drop a).take b, ∀ u ∈ c, storP u = true := by
  intro c hc u hu
  have := List.mem_of_mem_drop (List.mem_of_mem_take hc)
  obtain ⟨n, _, rfl⟩ := List.mem_map.1 this
  simp only [iv, List.mem_singleton] at hu
  subst hu
  rfl
theorem iv_stor1 {l : List Int} : ∀ c ∈ l.map iv, ∀ u ∈ c, storP u = true := by
  intro c hc
  obtain ⟨n, _, rfl⟩ := List.mem_map.1 hc
  intro u hu
  simp only [iv, List.mem_singleton] at hu
  subst hu
  rfl
theorem iv_stor0 {l : List Int} {k : Nat} : ∀ c ∈ (l.map iv).take k, ∀ u ∈ c, storP u = true := fun c hc => iv_stor1 c (List.mem_of_mem_take hc)
def m276 : MC :=
 (.seq (.reg [Xb 4 (.asg (.i 0))]) (.seq (.seq (.reg [Xm 6 0, Xn 7 6, Xq 8 (.mov (.i 0))]) (.block 0 (.loop [0, 1, 7, 8] (.seq (.reg [Xq 9 (.bin false .lss (.t 8) (.t 7))]) (.seq (.cond (.t 9) .skip (.exit 0)) (.seq (.block 1 (.seq (.reg [Xm 10 8, Xa 5 10]) (.seq (.reg [Xm 11 1, Xm 12 0, Xm 13 5, Xi 14 1 12 13, Xl 15 1 14, Xq 16 (.bin false .eql (.t 11) (.t 15))]) (.cond (.t 16) (.seq (.reg [Xm 17
 5, Xa 4 17]) .ret) .skip)))) (.reg [Xq 18 (.bin false .add (.t 8) (.i 1)), Xm 8 18]))))))) (.seq (.reg [Xb 4 (.asg (.i (-1)))]) .ret)))
theorem d276 (l : List Int) (n : Int) (hl : l.length < 9223372036854775807) : Does Go.Proofs.Tryz.prog 276 [.fsl 1 (l.map iv), .v (.int .i64 n)] false (.v (.int .i64 (findI (fun x => n == x) l))) [.dead, .dead] := by
  refine does_intro (mc := m276) (N := 19) (rs := [4]) (fx := []) 2 rfl (by decide +kernel) ?_
  simp only [m276, EV, Nat.reduceEqDiff, Nat.reduceBEq, Nat.reduceLT, Nat.reduceLeDiff, Nat.reduceAdd, Nat.reduceSub, reduceIte]
  refine awp_loop (fun i : Nat => i ≤ l.length ∧ ∀ j (hj : j < l.length), j < i → (n == l[j]) = false) (fun i => stl [(0, .fsl 1 (l.map iv)), (1, .v (.int .i64 n)), (7, .v (.int .i64 (l.length : Int))), (8, .v (.int .i64 (i : Int)))]) (fun i => l.length - i) 0 ⟨Nat.zero_le _, fun j hj h => absurd h (by omega)⟩ ?_ ?_
  · simp only [EV, Nat.reduceEqDiff, Nat.reduceBEq, Nat.reduceLT, Nat.reduceLeDiff, Nat.reduceAdd, Nat.reduceSub, reduceIte]
    rfl
  · rintro i ⟨hi, hno⟩
    simp only [EV, Nat.reduceEqDiff, Nat.reduceBEq, Nat.reduceLT, Nat.reduceLeDiff, Nat.reduceAdd, Nat.reduceSub, reduceIte]
    refine cK_cut (fun h => ?_) (fun h => ?_)
    · have h1 : i < l.length := by simpa using h
      have h2 : (i : Int) < (l.length : Int) := by omega
      simp only [nth_map h1, h2, iv, EV, Nat.reduceEqDiff, Nat.reduceBEq, Nat.reduceLT, Nat.reduceLeDiff, Nat.reduceAdd, Nat.reduceSub, reduceIte]
      refine cK_cut (fun h => ?_) (fun h => ?_)
      · simp only [EV, Nat.reduceEqDiff, Nat.reduceBEq, Nat.reduceLT, Nat.reduceLeDiff, Nat.reduceAdd, Nat.reduceSub, reduceIte]
        simp only [findI_at h1 h hno, EV, Nat.reduceEqDiff, Nat.reduceBEq, Nat.reduceLT, Nat.reduceLeDiff, Nat.reduceAdd, Nat.reduceSub, reduceIte, evRE, retVC, cellV', evR, nfz, nfzs, nfzss, List.contains_nil, List.contains_cons, Bool.or_false, or_true]
      · simp only [EV, Nat.reduceEqDiff, Nat.reduceBEq, Nat.reduceLT, Nat.reduceLeDiff, Nat.reduceAdd, Nat.reduceSub, reduceIte]
        rw [w64 _ (by omega)]
        refine ⟨i + 1, ⟨by omega, ?_⟩, by omega, rfl⟩
        intro j hj hji
        by_cases e : j = i
        · subst e; exact h
        · exact hno j hj (by omega)
    · have h1 : i = l.length := by have : ¬ (i : Int) < l.length := by simpa using h
                                   omega
      subst h1
      simp only [EV, Nat.reduceEqDiff, Nat.reduceBEq, Nat.reduceLT, Nat.reduceLeDiff, Nat.reduceAdd, Nat.reduceSub, reduceIte]
      simp only [findI_no (fun j hj => hno j hj hj), EV, Nat.reduceEqDiff, Nat.reduceBEq, Nat.reduceLT, Nat.reduceLeDiff, Nat.reduceAdd, Nat.reduceSub, reduceIte, evRE, retVC, cellV', evR, nfz, nfzs, nfzss, List.contains_nil, List.contains_cons, Bool.or_false, or_true]
theorem any_contains (l : List Int) (n : Int) : (l.any fun x => n == x) = l.contains n := by rw [List.contains_eq_any_beq]
def m230 : MC :=
 (.seq (.reg [Xb 4 (.asg .fb)]) (.seq (.reg [Xm 5 0, Xm 6 1, Xb 7 (.call (.fn 276) false [.lend (.t 5), .lend (.t 6)]), Xq 8 (.bin false .geq (.t 7) (.i 0)), Xa 4 8]) .ret))
theorem d230 (l : List Int) (n : Int) (hl : l.length < 9223372036854775807) : Does Go.Proofs.Tryz.prog 230 [.fsl 1 (l.map iv), .v (.int .i64 n)] false (.v (.bool (l.contains n))) [.dead, .dead] := by
  refine does_intro (mc := m230) (N := 9) (rs := [4]) (fx := []) 2 rfl (by decide +kernel) ?_
  simp only [m230, EV, Nat.reduceEqDiff, Nat.reduceBEq, Nat.reduceLT, Nat.reduceLeDiff, Nat.reduceAdd, Nat.reduceSub, reduceIte]
  refine callK_i (d276 l n hl) ?_
  simp only [EV, Nat.reduceEqDiff, Nat.reduceBEq, Nat.reduceLT, Nat.reduceLeDiff, Nat.reduceAdd, Nat.reduceSub, reduceIte]
  simp only [findI_any, any_contains, EV, Nat.reduceEqDiff, Nat.reduceBEq, Nat.reduceLT, Nat.reduceLeDiff, Nat.reduceAdd, Nat.reduceSub, reduceIte, evRE, retVC, cellV', evR, nfz, nfzs, nfzss, List.contains_nil, List.contains_cons, Bool.or_false, or_true]
def m248 : MC :=
 (.seq (.reg [Xb 4 (.asg .fb)]) (.seq (.seq (.reg [Xm 7 0, Xn 8 7, Xq 9 (.mov (.i 0))]) (.block 0 (.loop [0, 1, 7, 8, 9] (.seq (.reg [Xq 10 (.bin false .lss (.t 9) (.t 8))]) (.seq (.cond (.t 10) .skip (.exit 0)) (.seq (.block 1 (.seq (.reg [Xi 11 1 7 9, Xl 12 1 11, Xa 6 12]) (.seq (.reg [Xm 13 6, Xm 14 1, Xq 15 (.bin false .eql (.t 13) (.t 14))]) (.cond (.t 15) (.seq (.reg [Xb 4 (.asg .tb)]) .ret)
 .skip)))) (.reg [Xq 16 (.bin false .add (.t 9) (.i 1)), Xm 9 16]))))))) (.seq (.reg [Xb 4 (.asg .fb)]) .ret)))
theorem d248 (l : List Int) (n : Int) (hl : l.length < 9223372036854775807) : Does Go.Proofs.Tryz.prog 248 [.fsl 1 (l.map iv), .v (.int .i64 n)] false (.v (.bool (l.contains n))) [.dead, .dead] := by
  refine does_intro (mc := m248) (N := 17) (rs := [4]) (fx := []) 2 rfl (by decide +kernel) ?_
  simp only [m248, EV, Nat.reduceEqDiff, Nat.reduceBEq, Nat.reduceLT, Nat.reduceLeDiff, Nat.reduceAdd, Nat.reduceSub, reduceIte]
  refine awp_loop (fun i : Nat => i ≤ l.length ∧ ∀ j (hj : j < l.length), j < i → (l[j] == n) = false) (fun i => stl [(0, .fsl 1 (l.map iv)), (1, .v (.int .i64 n)), (7, .fsl 1 (l.map iv)), (8, .v (.int .i64 (l.length : Int))), (9, .v (.int .i64 (i : Int)))]) (fun i => l.length - i) 0 ⟨Nat.zero_le _, fun j hj h => absurd h (by omega)⟩ ?_ ?_
  · simp only [EV, Nat.reduceEqDiff, Nat.reduceBEq, Nat.reduceLT, Nat.reduceLeDiff, Nat.reduceAdd, Nat.reduceSub, reduceIte]
    rfl
  · rintro i ⟨hi, hno⟩
    simp only [EV, Nat.reduceEqDiff, Nat.reduceBEq, Nat.reduceLT, Nat.reduceLeDiff, Nat.reduceAdd, Nat.reduceSub, reduceIte]
    refine cK_cut (fun h => ?_) (fun h => ?_)
    · have h1 : i < l.length := by simpa using h
      have h2 : (i : Int) < (l.length : Int) := by omega
      simp only [nth_map h1, h2, iv, EV, Nat.reduceEqDiff, Nat.reduceBEq, Nat.reduceLT, Nat.reduceLeDiff, Nat.reduceAdd, Nat.reduceSub, reduceIte]
      refine cK_cut (fun h => ?_) (fun h => ?_)
      · have e : l.contains n = true := by
          rw [List.contains_iff_mem]
          have : l[i] = n := by simpa using h
          rw [← this]; exact List.getElem_mem h1
        simp only [EV, Nat.reduceEqDiff, Nat.reduceBEq, Nat.reduceLT, Nat.reduceLeDiff, Nat.reduceAdd, Nat.reduceSub, reduceIte]
        simp only [e, EV, Nat.reduceEqDiff, Nat.reduceBEq, Nat.reduceLT, Nat.reduceLeDiff, Nat.reduceAdd, Nat.reduceSub, reduceIte, evRE, retVC, cellV', evR, nfz, nfzs, nfzss, List.contains_nil, List.contains_cons, Bool.or_false, or_true]
      · simp only [EV, Nat.reduceEqDiff, Nat.reduceBEq, Nat.reduceLT, Nat.reduceLeDiff, Nat.reduceAdd, Nat.reduceSub, reduceIte]
        rw [w64 _ (by omega)]
        refine ⟨i + 1, ⟨by omega, ?_⟩, by omega, rfl⟩
        intro j hj hji
        by_cases e : j = i
        · subst e; exact h
        · exact hno j hj (by omega)
    · have h1 : i = l.length := by have : ¬ (i : Int) < l.length := by simpa using h
                                   omega
      subst h1
      have e : l.contains n = false := by
        rw [Bool.eq_false_iff]
        intro hc
        rw [List.contains_iff_mem] at hc
        obtain ⟨j, hj, hjn⟩ := List.mem_iff_getElem.1 hc
        have := hno j hj hj
        simp [hjn] at this
      simp only [EV, Nat.reduceEqDiff, Nat.reduceBEq, Nat.reduceLT, Nat.reduceLeDiff, Nat.reduceAdd, Nat.reduceSub, reduceIte]
      simp only [e, EV, Nat.reduceEqDiff, Nat.reduceBEq, Nat.reduceLT, Nat.reduceLeDiff, Nat.reduceAdd, Nat.reduceSub, reduceIte, evRE, retVC, cellV', evR, nfz, nfzs, nfzss, List.contains_nil, List.contains_cons, Bool.or_false, or_true]
def m177 : MC :=
 (.seq (.reg [Xb 2 (.asg (.nils 3 1))]) (.seq (.reg [Xb 3 (.bsl 3 1 []), Xm 4 0, Xb 5 (.app false 3 1 8 (.t 3) (.t 4)), Xa 2 5]) .ret))
theorem d177 (l : List Int) (hl : (l.length : Int) ≤ 1048576) : Does Go.Proofs.Tryz.prog 177 [.fsl 1 (l.map iv)] false (.usl 3 1 (l.map iv)) [.dead] := by
  refine does_intro (mc := m177) (N := 6) (rs := [2]) (fx := []) 1 rfl (by decide +kernel) ?_
  simp only [m177, EV, Nat.reduceEqDiff, Nat.reduceBEq, Nat.reduceLT, Nat.reduceLeDiff, Nat.reduceAdd, Nat.reduceSub, reduceIte]
  refine ⟨.inl trivial, by omega, by omega, ?_⟩
  simp only [iv_nfz, EV, Nat.reduceEqDiff, Nat.reduceBEq, Nat.reduceLT, Nat.reduceLeDiff, Nat.reduceAdd, Nat.reduceSub, reduceIte, evRE, retVC, cellV', evR, nfz, nfzs, nfzss, List.contains_nil, List.contains_cons, Bool.or_false, or_true]
def m277 : MC :=
 (.seq (.reg [Xb 2 (.asg (.nils 3 1))]) (.seq (.seq (.reg [Xm 3 0, Xq 4 (.isnil false (.t 3))]) (.cond (.t 4) (.seq (.reg [Xb 2 (.asg (.nils 3 1))]) .ret) .skip)) (.seq (.reg [Xb 5 (.bsl 3 1 []), Xm 6 0, Xb 7 (.app false 3 1 8 (.t 5) (.t 6)), Xa 2 7]) .ret)))
theorem d277 (l : List Int) (hl : (l.length : Int) ≤ 1048576) : Does Go.Proofs.Tryz.prog 277 [.fsl 1 (l.map iv)] false (.usl 3 1 (l.map iv)) [.dead] := by
  refine does_intro (mc := m277) (N := 8) (rs := [2]) (fx := []) 1 rfl (by decide +kernel) ?_
  simp only [m277, EV, Nat.reduceEqDiff, Nat.reduceBEq, Nat.reduceLT, Nat.reduceLeDiff, Nat.reduceAdd, Nat.reduceSub, reduceIte]
  refine ⟨fun h b => ?_, fun h => ⟨.inl trivial, by omega, by omega, ?_⟩⟩
  · have h0 : l = [] := by simpa using h
    subst h0
    cases b
    · simp only [List.map_nil, EV, Nat.reduceEqDiff, Nat.reduceBEq, Nat.reduceLT, Nat.reduceLeDiff, Nat.reduceAdd, Nat.reduceSub, reduceIte]
      refine ⟨.inl trivial, by omega, ?_⟩
      simp only [EV, Nat.reduceEqDiff, Nat.reduceBEq, Nat.reduceLT, Nat.reduceLeDiff, Nat.reduceAdd, Nat.reduceSub, reduceIte, evRE, retVC, cellV', evR, nfz, nfzs, nfzss, List.contains_nil, List.contains_cons, Bool.or_false, or_true]
    · simp only [List.map_nil, EV, Nat.reduceEqDiff, Nat.reduceBEq, Nat.reduceLT, Nat.reduceLeDiff, Nat.reduceAdd, Nat.reduceSub, reduceIte]
      simp only [EV, Nat.reduceEqDiff, Nat.reduceBEq, Nat.reduceLT, Nat.reduceLeDiff, Nat.reduceAdd, Nat.reduceSub, reduceIte, evRE, retVC, cellV', evR, nfz, nfzs, nfzss, List.contains_nil, List.contains_cons, Bool.or_false, or_true]
  · simp only [iv_nfz, EV, Nat.reduceEqDiff, Nat.reduceBEq, Nat.reduceLT, Nat.reduceLeDiff, Nat.reduceAdd, Nat.reduceSub, reduceIte, evRE, retVC, cellV', evR, nfz, nfzs, nfzss, List.contains_nil, List.contains_cons, Bool.or_false, or_true]
def cut (l : List Int) (n : Int) : Nat := (l.takeWhile fun x => decide (x < n)).length
theorem cut_at {n : Int} : ∀ {l : List Int} {k : Nat}, k ≤ l.length → (∀ j (h : j < l.length), j < k → l[j] < n) → (∀ h : k < l.length, ¬ l[k] < n) → cut l n = k
  | [], k, h0, _, _ => by simp at h0; simp [cut, h0]
  | x :: l, 0, h0, h1, h2 => by
    have : ¬ x < n := h2 (by simp)
    simp [cut, List.takeWhile_cons, this]
  | x :: l, k + 1, h0, h1, h2 => by
    have hx : x < n := h1 0 (by simp) (by omega)
    have ih := cut_at (n := n) (l := l) (k := k) (by simpa using h0) (fun j hj hjk => by have := h1 (j + 1) (by simpa using hj) (by omega); simpa using this) (fun h => by have := h2 (by simpa using h); simpa using this)
    unfold cut at ih ⊢
    rw [List.takeWhile_cons, if_pos (by simpa using hx), List.length_cons, ih]
def putUp (l : List Int) (n : Int) : List Int := if l[cut l n]? = some n then l else (l.take (cut l n) ++ [n]) ++ l.drop (cut l n)
theorem cut_spec (l : List Int) (n : Int) : cut l n ≤ l.length ∧ (∀ x ∈ l.take (cut l n), x < n) ∧ (∀ h : cut l n < l.length, ¬ l[cut l n] < n) := by
  induction l with
  | nil => simp [cut]
  | cons x l ih =>
    unfold cut at ih ⊢
    rw [List.takeWhile_cons]
    by_cases hx : x < n
    · rw [if_pos (by simpa using hx)]
      simp only [List.length_cons, List.take_succ_cons, List.mem_cons, List.getElem_cons_succ]
      refine ⟨by omega, ?_, fun h => ih.2.2 (by omega)⟩
      rintro y (rfl | hy)
      · exact hx
      · exact ih.2.1 y hy
    · rw [if_neg (by simpa using hx)]
      simp [hx]
theorem putUp_spec {l : List Int} {n : Int} (h : l.Pairwise (· < ·)) : (putUp l n).Pairwise (· < ·) ∧ (∀ x, x ∈ putUp l n ↔ x = n ∨ x ∈ l) ∧ (n ∉ l → (putUp l n).length = l.length + 1) := by
  obtain ⟨c1, c2, c3⟩ := cut_spec l n
  unfold putUp
  split
  · rename_i hc
    have hm : n ∈ l := List.mem_of_getElem? hc
    exact ⟨h, fun x => ⟨.inr, fun h => h.elim (fun e => e ▸ hm) id⟩, fun hn => absurd hm hn⟩
  · rename_i hc
    have hd : ∀ x ∈ l.drop (cut l n), n < x := by
      intro x hx
      rcases Nat.lt_or_ge (cut l n) l.length with hlt | hge
      · have h0 := c3 hlt
        have e : l[cut l n] ≠ n := by intro e; exact hc (by rw [List.getElem?_eq_getElem hlt, e])
        have hp : (l.drop (cut l n)).Pairwise (· < ·) := h.sublist (List.drop_sublist _ _)
        rw [List.drop_eq_getElem_cons hlt] at hx hp
        rcases List.mem_cons.1 hx with rfl | hx
        · omega
        · have := (List.pairwise_cons.1 hp).1 x hx; omega
      · rw [List.drop_eq_nil_of_le hge] at hx; simp at hx
    have hmem : ∀ x, x ∈ l ↔ x ∈ l.take (cut l n) ∨ x ∈ l.drop (cut l n) := by
      intro x
      rw [← List.mem_append, List.take_append_drop]
    refine ⟨?_, ?_, ?_⟩
    · rw [List.append_assoc, List.pairwise_append]
      refine ⟨h.sublist (List.take_sublist _ _), ?_, ?_⟩
      · rw [List.singleton_append, List.pairwise_cons]
        exact ⟨hd, h.sublist (List.drop_sublist _ _)⟩
      · intro a ha b hb
        have h1 := c2 a ha
        rw [List.singleton_append, List.mem_cons] at hb
        rcases hb with rfl | hb
        · exact h1
        · have := hd b hb; omega
    · intro x
      rw [hmem x]
      simp only [List.mem_append, List.mem_singleton]
      constructor
      · rintro ((h | h) | h)
        · exact .inr (.inl h)
        · exact .inl h
        · exact .inr (.inr h)
      · rintro (h | h | h)
        · exact .inl (.inr h)
        · exact .inl (.inl h)
        · exact .inr h
    · intro _
      simp only [List.length_append, List.length_take, List.length_drop, List.length_singleton]
      omega
def m288 : MC :=
 (.seq (.reg [Xb 4 (.asg (.nils 3 1))]) (.seq (.reg [Xb 5 (.asg (.i 0))]) (.seq (.block 0 (.loop [0, 1, 5] (.seq (.seq (.reg [Xm 7 5, Xm 8 0, Xn 9 8, Xq 10 (.bin false .lss (.t 7) (.t 9)), Xm 11 10, Xt 12 11 (.mov (.t 0)), Xt 13 11 (.mov (.t 5)), Xt 14 11 (.iad 1 (.t 12) (.t 13)), Xt 15 11 (.load false 1 (.t 14)), Xt 16 11 (.mov (.t 1)), Xt 17 11 (.bin false .lss (.t 15) (.t 16)), Xq 18 (.pick (.t
 11) (.t 17) .fb)]) (.cond (.t 18) .skip (.exit 0))) (.block 1 (.reg [Xm 19 5, Xq 20 (.bin false .add (.t 19) (.i 1)), Xa 5 20]))))) (.seq (.seq (.reg [Xm 21 5, Xm 22 0, Xn 23 22, Xq 24 (.bin false .lss (.t 21) (.t 23)), Xm 25 24, Xt 26 25 (.mov (.t 0)), Xt 27 25 (.mov (.t 5)), Xt 28 25 (.iad 1 (.t 26) (.t 27)), Xt 29 25 (.load false 1 (.t 28)), Xt 30 25 (.mov (.t 1)), Xt 31 25 (.bin false .eql (.t
 29) (.t 30)), Xq 32 (.pick (.t 25) (.t 31) .fb)]) (.cond (.t 32) (.seq (.reg [Xm 33 0, Xa 4 33]) .ret) .skip)) (.seq (.reg [Xb 34 (.bsl 3 1 []), Xm 35 0, Xm 36 5, Xq 37 (.slc false 1 (.t 35) none (some (.t 36))), Xb 38 (.app false 3 1 8 (.t 34) (.t 37)), Xa 6 38]) (.seq (.reg [Xm 39 6, Xm 40 1, Xb 41 (.bsl 3 1 [.t 40]), Xb 42 (.app true 3 1 8 (.t 39) (.t 41)), Xa 6 42]) (.seq (.reg [Xm 43 6, Xm 44
 0, Xm 45 5, Xq 46 (.slc false 1 (.t 44) (some (.t 45)) none), Xb 47 (.app false 3 1 8 (.t 43) (.t 46)), Xa 4 47]) .ret)))))))
set_option maxRecDepth 100000 in
theorem d288 (l : List Int) (n : Int) (hl : (l.length : Int) ≤ 1048576) : Does Go.Proofs.Tryz.prog 288 [.usl 3 1 (l.map iv), .v (.int .i64 n)] false (.usl 3 1 ((putUp l n).map iv)) [.dead, .dead] := by
  refine does_intro (mc := m288) (N := 48) (rs := [4]) (fx := []) 2 rfl (by decide +kernel) ?_
  simp only [m288, EV, Nat.reduceEqDiff, Nat.reduceBEq, Nat.reduceLT, Nat.reduceLeDiff, Nat.reduceAdd, Nat.reduceSub, reduceIte]
  refine awp_loop (fun k : Nat => k ≤ l.length ∧ ∀ j (h : j < l.length), j < k → l[j] < n) (fun k => stl [(0, .usl 3 1 (l.map iv)), (1, .v (.int .i64 n)), (5, .v (.int .i64 (k : Int)))]) (fun k => l.length - k) 0 ⟨Nat.zero_le _, fun j hj h => absurd h (by omega)⟩ ?_ ?_
  · simp only [EV, Nat.reduceEqDiff, Nat.reduceBEq, Nat.reduceLT, Nat.reduceLeDiff, Nat.reduceAdd, Nat.reduceSub, reduceIte]
    rfl
  · rintro k ⟨hk, hlt⟩
    simp only [EV, Nat.reduceEqDiff, Nat.reduceBEq, Nat.reduceLT, Nat.reduceLeDiff, Nat.reduceAdd, Nat.reduceSub, reduceIte]
    refine gK_cut (fun h => ?_) (fun h => ?_)
    · have h1 : k < l.length := by simpa using h
      have h2 : (k : Int) < (l.length : Int) := by omega
      simp only [decide_true, nth_map h1, h1, h2, iv, EV, Nat.reduceEqDiff, Nat.reduceBEq, Nat.reduceLT, Nat.reduceLeDiff, Nat.reduceAdd, Nat.reduceSub, reduceIte]
      refine cK_cut (fun h3 => ?_) (fun h3 => ?_)
      · have h4 : l[k] < n := by simpa using h3
        simp only [EV, Nat.reduceEqDiff, Nat.reduceBEq, Nat.reduceLT, Nat.reduceLeDiff, Nat.reduceAdd, Nat.reduceSub, reduceIte]
        rw [w64 _ (by omega)]
        refine ⟨k + 1, ⟨h1, ?_⟩, by omega, rfl⟩
        intro j hj hjk
        by_cases e : j = k
        · subst e; exact h4
        · exact hlt j hj (by omega)
      · have h4 : ¬ l[k] < n := by simpa using h3
        have hc : cut l n = k := cut_at hk hlt fun _ => h4
        have h1' : decide ((k : Int) < (l.length : Int)) = true := by simpa using h2
        simp only [decide_true, nth_map h1, h1, h2, iv, EV, Nat.reduceEqDiff, Nat.reduceBEq, Nat.reduceLT, Nat.reduceLeDiff, Nat.reduceAdd, Nat.reduceSub, reduceIte]
        refine cK_cut (fun h5 => ?_) (fun h5 => ?_)
        · have e : putUp l n = l := by
            unfold putUp
            rw [hc, List.getElem?_eq_getElem h1, if_pos (by simpa using h5)]
          simp only [EV, Nat.reduceEqDiff, Nat.reduceBEq, Nat.reduceLT, Nat.reduceLeDiff, Nat.reduceAdd, Nat.reduceSub, reduceIte]
          simp only [e, iv_nfz, EV, Nat.reduceEqDiff, Nat.reduceBEq, Nat.reduceLT, Nat.reduceLeDiff, Nat.reduceAdd, Nat.reduceSub, reduceIte, evRE, retVC, cellV', evR, nfz, nfzs, nfzss, List.contains_nil, List.contains_cons, Bool.or_false, or_true]
        · have e : putUp l n = (l.take k ++ [n]) ++ l.drop k := by
            unfold putUp
            rw [hc, List.getElem?_eq_getElem h1, if_neg (by simpa using h5)]
          have el : List.map iv (putUp l n) = (l.map iv).take k ++ [[AV.v (.int .i64 n)]] ++ ((l.map iv).drop k).take (l.length - k) := by
            have ed : List.take (l.length - k) (List.drop k (l.map iv)) = List.drop k (l.map iv) := List.take_of_length_le (by simp)
            rw [e, List.map_append, List.map_append, List.map_take, List.map_drop, ed]
            rfl
          simp only [EV, Nat.reduceEqDiff, Nat.reduceBEq, Nat.reduceLT, Nat.reduceLeDiff, Nat.reduceAdd, Nat.reduceSub, reduceIte]
          refine ⟨by omega, by omega, iv_stor0, by omega, by omega, by simp; omega, by simp; omega, by omega, by omega, iv_stor, by simp; omega, by simp; omega, ?_⟩
          rw [← el]
          simp only [iv_nfz, EV, Nat.reduceEqDiff, Nat.reduceBEq, Nat.reduceLT, Nat.reduceLeDiff, Nat.reduceAdd, Nat.reduceSub, reduceIte, evRE, retVC, cellV', evR, nfz, nfzs, nfzss, List.contains_nil, List.contains_cons, Bool.or_false, or_true]
    · have h1 : k = l.length := by have : ¬ (k : Int) < l.length := by simpa using h
                                   omega
      subst h1
      have hc : cut l n = l.length := cut_at hk hlt fun h => absurd h (by omega)
      have e : putUp l n = (l.take l.length ++ [n]) ++ l.drop l.length := by
        unfold putUp
        rw [hc, List.getElem?_eq_none (by omega), if_neg (by simp)]
      have el : List.map iv (putUp l n) = l.map iv ++ [[AV.v (.int .i64 n)]] ++ ((l.map iv).drop l.length).take (l.length - l.length) := by
        rw [e, List.map_append, List.map_append, List.take_length, List.map_drop, Nat.sub_self, List.take_zero, List.drop_eq_nil_of_le (by simp)]
        rfl
      simp only [h, EV, Nat.reduceEqDiff, Nat.reduceBEq, Nat.reduceLT, Nat.reduceLeDiff, Nat.reduceAdd, Nat.reduceSub, reduceIte]
      refine ⟨by omega, by omega, iv_stor1, by omega, by omega, by omega, by omega, by omega, by omega, iv_stor, by simp; omega, by simp; omega, ?_⟩
      rw [← el]
      simp only [iv_nfz, EV, Nat.reduceEqDiff, Nat.reduceBEq, Nat.reduceLT, Nat.reduceLeDiff, Nat.reduceAdd, Nat.reduceSub, reduceIte, evRE, retVC, cellV', evR, nfz, nfzs, nfzss, List.contains_nil, List.contains_cons, Bool.or_false, or_true]
end Go.AM
namespace Go.AM
set_option linter.unusedVariables false
set_option linter.unusedSimpArgs false
def bv (n : Int) : List AV := [.v (.int .u8 n)]
structure Cur where
  code : List Int
  pos : Int
  seed : Int
def Cur.z (c : Cur) : List AV := [.fsl 1 (c.code.map bv), .v (.int .i64 c.pos), .v (.int .u64 c.seed)]
def Cur.ok (c : Cur) (n : Int) : Prop := (c.code.length : Int) ≤ 1048576 ∧ (∀ b ∈ c.code, 0 ≤ b ∧ b ≤ 255) ∧ 0 ≤ c.pos ∧ c.pos ≤ n
theorem Cur.ok.up {c : Cur} {n m : Int} (h : c.ok n) (hm : n ≤ m) : c.ok m := ⟨h.1, h.2.1, h.2.2.1, by have := h.2.2.2; omega⟩
def andK (kd : IntKind) (a b : Int) : Int := kd.wrap (BitVec.ofInt kd.bits a &&& BitVec.ofInt kd.bits b).toNat
def shrK (kd : IntKind) (a b : Int) : Int := a.fdiv (2 ^ (min b.toNat kd.bits))
theorem evB2 :
    (∀ (kd ky : IntKind) (a b : Int) (K : AV → Prop), (binV .shr (.v (.int kd a)) (.v (.int ky b)) K = (0 ≤ b ∧ K (.v (.int kd (shrK kd a b)))))) ∧
    (∀ (kd : IntKind) (a b : Int) (K : AV → Prop), (binV .and (.v (.int kd a)) (.v (.int kd b)) K = K (.v (.int kd (andK kd a b))))) := by
  refine ⟨?_, ?_⟩ <;> intros <;> simp [binV, binC, binR, andK, shrK]
theorem andK_255 (a : Int) : 0 ≤ andK .u64 a 255 ∧ andK .u64 a 255 ≤ 255 := by
  have h2 : (BitVec.ofInt IntKind.u64.bits 255).toNat = 255 := by decide
  have e : (BitVec.ofInt IntKind.u64.bits a &&& BitVec.ofInt IntKind.u64.bits 255).toNat ≤ 255 := by
    rw [BitVec.toNat_and, h2]
    exact Nat.and_le_right
  have w : ∀ n : Nat, n ≤ 255 → IntKind.u64.wrap (n : Int) = (n : Int) := by
    intro n h1
    simp [IntKind.wrap, IntKind.bits, IntKind.signed]
    omega
  unfold andK
  rw [w _ e]
  omega
theorem evN (n : Nat) (p : List (Nat × Nat)) (i k : Nat) (K : AV → Prop) : nilchkV (.ref n p i k) K = K (.ref n p i k) := rfl
def m168 : MC :=
 (.seq (.reg [Xb 2 (.asg (.i 0))]) (.seq (.reg [Xb 3 (.asg (.i 0))]) (.join [0, 3] (.seq (.dreg [Xm 4 0, Xq 5 (.nilchk (.t 4)), Xf 6 1 5, Xl 7 1 6, Xm 8 0, Xq 9 (.nilchk (.t 8)), Xf 10 0 9, Xl 11 1 10, Xn 12 11, Xq 13 (.bin false .lss (.t 7) (.t 12))]) (.cond (.t 13) (.dreg [Xm 14 0, Xq 15 (.nilchk (.t 14)), Xf 16 0 15, Xl 17 1 16, Xm 18 0, Xq 19 (.nilchk (.t 18)), Xf 20 1 19, Xl 21 1 20, Xi 22 1
 17 21, Xl 23 1 22, Xq 24 (.conv .i64 (.t 23)), Xm 3 24]) .skip)) (.seq (.reg [Xm 25 0, Xq 26 (.nilchk (.t 25)), Xf 27 1 26, Xl 28 1 27, Xq 29 (.bin false .add (.t 28) (.i 1)), Xq 30 (.nilchk (.t 25)), Xf 31 1 30, Xz (.store 1 (.t 31) (.t 29))]) (.seq (.reg [Xm 32 0, Xm 33 0, Xq 34 (.nilchk (.t 33)), Xf 35 2 34, Xl 36 1 35, Xq 37 (.bin false .mul (.t 36) (.c (.int .u64 6364136223846793005))), Xm 38
 3, Xq 39 (.conv .u64 (.t 38)), Xq 40 (.bin false .add (.t 37) (.t 39)), Xq 41 (.bin false .add (.t 40) (.c (.int .u64 1442695040888963407))), Xq 42 (.nilchk (.t 32)), Xf 43 2 42, Xz (.store 1 (.t 43) (.t 41))]) (.seq (.seq (.dreg [Xm 44 0, Xq 45 (.nilchk (.t 44)), Xf 46 1 45, Xl 47 1 46, Xm 48 0, Xq 49 (.nilchk (.t 48)), Xf 50 0 49, Xl 51 1 50, Xn 52 51, Xq 53 (.bin false .leq (.t 47) (.t 52))])
 (.cond (.t 53) (.seq (.reg [Xm 54 3, Xa 2 54]) .ret) .skip)) (.seq (.reg [Xm 55 0, Xq 56 (.nilchk (.t 55)), Xf 57 2 56, Xl 58 1 57, Xq 59 (.bin false .shr (.t 58) (.c (.int .u64 40))), Xq 60 (.bin false .and (.t 59) (.c (.int .u64 255))), Xq 61 (.conv .i64 (.t 60)), Xa 2 61]) .ret)))))))
set_option maxRecDepth 100000 in
theorem d168 (c : Cur) (n : Int) (hc : c.ok n) (hn : n ≤ 1152921504606846976) :
    DoesE Go.Proofs.Tryz.prog 168 [.box 114 c.z] false (fun r o => ∃ (v : Int) (c' : Cur), r = .v (.int .i64 v) ∧ o = [.box 114 c'.z] ∧ 0 ≤ v ∧ v ≤ 255 ∧ c'.ok (n + 1)) := by
  obtain ⟨h1, h2, h3, h4⟩ := hc
  refine doesE_intro (mc := m168) (N := 62) (rs := [2]) (fx := [0]) 1 rfl (by decide +kernel) ?_
  simp only [m168, EV, Nat.reduceEqDiff, Nat.reduceBEq, Nat.reduceLT, Nat.reduceLeDiff, Nat.reduceAdd, Nat.reduceSub, reduceIte]
  refine awp_join (fun v : Int => 0 ≤ v ∧ v ≤ 255) (fun v => stl [(0, .box 114 c.z), (3, .v (.int .i64 v))]) ?_ ?_
  · simp only [Cur.z, evN, EV, Nat.reduceEqDiff, Nat.reduceBEq, Nat.reduceLT, Nat.reduceLeDiff, Nat.reduceAdd, Nat.reduceSub, reduceIte]
    refine cK_cut (fun h => ?_) (fun h => ?_)
    · have g1 : c.pos.toNat < c.code.length := by have : c.pos < (c.code.length : Int) := by simpa using h
                                                  omega
      have g2 : c.pos < (c.code.length : Int) := by omega
      have gb := h2 _ (List.getElem_mem g1)
      have w := w64 c.code[c.pos.toNat] (by omega)
      simp only [h3, g2, nth_map g1, bv, w, evN, EV, Nat.reduceEqDiff, Nat.reduceBEq, Nat.reduceLT, Nat.reduceLeDiff, Nat.reduceAdd, Nat.reduceSub, reduceIte]
      exact ⟨_, gb, rfl⟩
    · simp only [evN, EV, Nat.reduceEqDiff, Nat.reduceBEq, Nat.reduceLT, Nat.reduceLeDiff, Nat.reduceAdd, Nat.reduceSub, reduceIte]
      exact ⟨0, by omega, rfl⟩
  · rintro v ⟨v0, v1⟩
    have w1 := w64 (c.pos + 1) (by omega)
    simp only [Cur.z, evN, evB2, w1, EV, Nat.reduceEqDiff, Nat.reduceBEq, Nat.reduceLT, Nat.reduceLeDiff, Nat.reduceAdd, Nat.reduceSub, reduceIte]
    refine cK_cut (fun h => ?_) (fun h => ?_)
    · simp only [evN, evB2, EV, Nat.reduceEqDiff, Nat.reduceBEq, Nat.reduceLT, Nat.reduceLeDiff, Nat.reduceAdd, Nat.reduceSub, reduceIte]
      simp only [EV, Nat.reduceEqDiff, Nat.reduceBEq, Nat.reduceLT, Nat.reduceLeDiff, Nat.reduceAdd, Nat.reduceSub, reduceIte, evRE, retVC, cellV', evR, nfz, nfzs, nfzss, List.contains_nil, List.contains_cons, Bool.or_false, or_true]
      exact ⟨v, ⟨c.code, c.pos + 1, _⟩, rfl, rfl, v0, v1, h1, h2, by simp only; omega, by simp only; omega⟩
    · simp only [evN, evB2, EV, Nat.reduceEqDiff, Nat.reduceBEq, Nat.reduceLT, Nat.reduceLeDiff, Nat.reduceAdd, Nat.reduceSub, reduceIte]
      refine ⟨by omega, ?_⟩
      have ab := andK_255 (shrK .u64 (IntKind.u64.wrap (IntKind.u64.wrap (IntKind.u64.wrap (c.seed * 6364136223846793005) + IntKind.u64.wrap v) + 1442695040888963407)) 40)
      rw [w64 _ (by omega)]
      simp only [EV, Nat.reduceEqDiff, Nat.reduceBEq, Nat.reduceLT, Nat.reduceLeDiff, Nat.reduceAdd, Nat.reduceSub, reduceIte, evRE, retVC, cellV', evR, nfz, nfzs, nfzss, List.contains_nil, List.contains_cons, Bool.or_false, or_true]
      exact ⟨_, ⟨c.code, c.pos + 1, _⟩, rfl, rfl, ab.1, ab.2, h1, h2, by simp only; omega, by simp only; omega⟩
def Draws (f : Nat) (args : List AV) (c : Cur) (n m : Int) (Q : AV → Prop) : Prop :=
  DoesE Go.Proofs.Tryz.prog f (.box 114 c.z :: args) false fun r o => ∃ c' : Cur, o = .box 114 c'.z :: args.map (fun _ => AV.dead) ∧ c'.ok (n + m) ∧ Q r
theorem Draws.call {f : Nat} {args : List AV} {c : Cur} {n m : Int} {Q : AV → Prop} (h : Draws f args c n m Q) {O : AV → List AV} (hO : ∀ out, O out = out :: args.map fun _ => AV.dead) {S : AV → AV → Prop}
    (k : ∀ (r : AV) (c' : Cur), c'.ok (n + m) → Q r → S (.box 114 c'.z) r) : callK2 Go.Proofs.Tryz.prog f (.box 114 c.z :: args) false O (.box 114 c.z) S := by
  refine callE2_i (T := fun r out => ∃ c' : Cur, out = .box 114 c'.z ∧ c'.ok (n + m) ∧ Q r) h ?_ ?_
  · rintro r o ⟨c', rfl, h1, h2⟩
    exact ⟨.box 114 c'.z, ⟨c', rfl, h1, h2⟩, (hO _).symm⟩
  · rintro r out ⟨c', rfl, h1, h2⟩
    exact ⟨rfl, rfl, k r c' h1 h2⟩
theorem p168 (c : Cur) (n : Int) (hc : c.ok n) (hn : n ≤ 1152921504606846976) : Draws 168 [] c n 1 fun r => ∃ v : Int, r = .v (.int .i64 v) ∧ 0 ≤ v ∧ v ≤ 255 := by
  have h := d168 c n hc hn
  refine ⟨h.1, fun w Fz xs os h1 h2 h3 h4 => (h.2 w Fz xs os h1 h2 h3 h4).mono ?_⟩
  rintro e w' ⟨res, outs, ⟨v, c', rfl, rfl, g1, g2, g3⟩, hh⟩
  exact ⟨_, _, ⟨c', rfl, g3, v, rfl, g1, g2⟩, hh⟩
def m92 : MC :=
 (.seq (.reg [Xb 4 (.asg (.i 0))]) (.seq (.seq (.reg [Xm 6 1, Xq 7 (.bin false .leq (.t 6) (.i 1))]) (.cond (.t 7) (.seq (.reg [Xb 4 (.asg (.i 0))]) .ret) .skip)) (.seq (.reg [Xm 8 0, Xb 9 (.call (.fn 168) false [.io (.t 8)]), Xa 5 9]) (.join [0, 1, 5] (.seq (.reg [Xm 10 1, Xq 11 (.bin false .gtr (.t 10) (.i 200))]) (.cond (.t 11) (.reg [Xm 12 5, Xq 13 (.bin false .mul (.t 12) (.i 256)), Xm 14 0,
 Xb 15 (.call (.fn 168) false [.io (.t 14)]), Xq 16 (.bin false .add (.t 13) (.t 15)), Xa 5 16]) .skip)) (.seq (.reg [Xm 17 5, Xm 18 1, Xq 19 (.bin false .rem (.t 17) (.t 18)), Xa 4 19]) .ret)))))
set_option maxRecDepth 100000 in
theorem p92 (c : Cur) (n k : Int) (hc : c.ok n) (hn : n ≤ 1152921504606846) (hk : k ≤ 1048577) : Draws 92 [.v (.int .i64 k)] c n 2 fun r => ∃ v : Int, r = .v (.int .i64 v) ∧ 0 ≤ v ∧ (1 < k → v < k) ∧ (k ≤ 1 → v = 0) := by
  refine doesE_intro (mc := m92) (N := 20) (rs := [4]) (fx := [0]) 2 rfl (by decide +kernel) ?_
  simp only [m92, EV, Nat.reduceEqDiff, Nat.reduceBEq, Nat.reduceLT, Nat.reduceLeDiff, Nat.reduceAdd, Nat.reduceSub, reduceIte]
  refine cK_cut (fun h => ?_) (fun h => ?_)
  · have hk1 : k ≤ 1 := by simpa using h
    simp only [EV, Nat.reduceEqDiff, Nat.reduceBEq, Nat.reduceLT, Nat.reduceLeDiff, Nat.reduceAdd, Nat.reduceSub, reduceIte]
    simp only [EV, Nat.reduceEqDiff, Nat.reduceBEq, Nat.reduceLT, Nat.reduceLeDiff, Nat.reduceAdd, Nat.reduceSub, reduceIte, evRE, retVC, cellV', evR, nfz, nfzs, nfzss, List.contains_nil, List.contains_cons, Bool.or_false, or_true]
    exact ⟨c, rfl, hc.up (by omega), 0, rfl, Int.le_refl _, fun h => absurd h (by omega), fun _ => rfl⟩
  have hk1 : 1 < k := by have : ¬ k ≤ 1 := by simpa using h
                         omega
  clear h
  simp only [EV, Nat.reduceEqDiff, Nat.reduceBEq, Nat.reduceLT, Nat.reduceLeDiff, Nat.reduceAdd, Nat.reduceSub, reduceIte]
  refine (p168 c n hc (by omega)).call (fun _ => rfl) ?_
  rintro _ c1 hc1 ⟨v, rfl, v0, v1⟩
  simp only [EV, Nat.reduceEqDiff, Nat.reduceBEq, Nat.reduceLT, Nat.reduceLeDiff, Nat.reduceAdd, Nat.reduceSub, reduceIte]
  refine awp_join (fun p : Int × Cur => 0 ≤ p.1 ∧ p.1 ≤ 65535 ∧ p.2.ok (n + 2)) (fun p => stl [(0, .box 114 p.2.z), (1, .v (.int .i64 k)), (5, .v (.int .i64 p.1))]) ?_ ?_
  · simp only [EV, Nat.reduceEqDiff, Nat.reduceBEq, Nat.reduceLT, Nat.reduceLeDiff, Nat.reduceAdd, Nat.reduceSub, reduceIte]
    refine cK_cut (fun h => ?_) (fun h => ?_)
    · simp only [EV, Nat.reduceEqDiff, Nat.reduceBEq, Nat.reduceLT, Nat.reduceLeDiff, Nat.reduceAdd, Nat.reduceSub, reduceIte]
      refine (p168 c1 (n + 1) hc1 (by omega)).call (fun _ => rfl) ?_
      rintro _ c2 hc2 ⟨u, rfl, u0, u1⟩
      simp only [EV, Nat.reduceEqDiff, Nat.reduceBEq, Nat.reduceLT, Nat.reduceLeDiff, Nat.reduceAdd, Nat.reduceSub, reduceIte]
      rw [w64 (v * 256) (by omega), w64 _ (by omega)]
      exact ⟨(v * 256 + u, c2), ⟨by simp only; omega, by simp only; omega, hc2.up (by omega)⟩, rfl⟩
    · simp only [EV, Nat.reduceEqDiff, Nat.reduceBEq, Nat.reduceLT, Nat.reduceLeDiff, Nat.reduceAdd, Nat.reduceSub, reduceIte]
      exact ⟨(v, c1), ⟨v0, by simp only; omega, hc1.up (by omega)⟩, rfl⟩
  · rintro ⟨v, c'⟩ ⟨g0, g1, g2⟩
    simp only at g0 g1 g2
    have em : v.tmod k = v % k := Int.tmod_eq_emod_of_nonneg g0
    have e0 := Int.emod_nonneg v (show k ≠ 0 by omega)
    have e1 := Int.emod_lt_of_pos v (show 0 < k by omega)
    simp only [EV, Nat.reduceEqDiff, Nat.reduceBEq, Nat.reduceLT, Nat.reduceLeDiff, Nat.reduceAdd, Nat.reduceSub, reduceIte]
    refine ⟨by omega, ?_⟩
    simp only [EV, Nat.reduceEqDiff, Nat.reduceBEq, Nat.reduceLT, Nat.reduceLeDiff, Nat.reduceAdd, Nat.reduceSub, reduceIte, evRE, retVC, cellV', evR, nfz, nfzs, nfzss, List.contains_nil, List.contains_cons, Bool.or_false, or_true]
    exact ⟨c', rfl, g2, _, rfl, by omega, fun _ => by omega, fun h => by omega⟩
def m72 : MC :=
 (.seq (.reg [Xb 4 (.asg .fb)]) (.seq (.reg [Xm 5 0, Xm 6 1, Xb 7 (.call (.fn 92) false [.io (.t 5), .lend (.t 6)]), Xq 8 (.bin false .eql (.t 7) (.i 0)), Xa 4 8]) .ret))
theorem p72 (c : Cur) (n k : Int) (hc : c.ok n) (hn : n ≤ 1152921504606846) (hk : k ≤ 1048577) : Draws 72 [.v (.int .i64 k)] c n 2 fun r => ∃ b : Bool, r = .v (.bool b) := by
  refine doesE_intro (mc := m72) (N := 9) (rs := [4]) (fx := [0]) 2 rfl (by decide +kernel) ?_
  simp only [m72, EV, Nat.reduceEqDiff, Nat.reduceBEq, Nat.reduceLT, Nat.reduceLeDiff, Nat.reduceAdd, Nat.reduceSub, reduceIte]
  refine (p92 c n k hc hn hk).call (fun _ => rfl) ?_
  rintro _ c' hc' ⟨v, rfl, _⟩
  simp only [EV, Nat.reduceEqDiff, Nat.reduceBEq, Nat.reduceLT, Nat.reduceLeDiff, Nat.reduceAdd, Nat.reduceSub, reduceIte]
  simp only [EV, Nat.reduceEqDiff, Nat.reduceBEq, Nat.reduceLT, Nat.reduceLeDiff, Nat.reduceAdd, Nat.reduceSub, reduceIte, evRE, retVC, cellV', evR, nfz, nfzs, nfzss, List.contains_nil, List.contains_cons, Bool.or_false, or_true]
  exact ⟨c', rfl, hc', _, rfl⟩
def m159 : MC :=
 (.seq (.reg [Xb 4 (.asg (.z #[]))]) (.seq (.reg [Xm 5 1, Xm 6 0, Xm 7 1, Xn 8 7, Xb 9 (.call (.fn 92) false [.io (.t 6), .lend (.t 8)]), Xi 10 1 5 9, Xl 11 1 10, Xa 4 11]) .ret))
theorem p159 (c : Cur) (n : Int) (l : List ByteArray) (hc : c.ok n) (hn : n ≤ 1152921504606846) (h0 : 0 < l.length) (hk : (l.length : Int) ≤ 1048577) :
    Draws 159 [.fsl 1 (l.map fun s => [.v (.string s)])] c n 2 fun r => ∃ s ∈ l, r = .v (.string s) := by
  refine doesE_intro (mc := m159) (N := 12) (rs := [4]) (fx := [0]) 2 rfl (by decide +kernel) ?_
  simp only [m159, EV, Nat.reduceEqDiff, Nat.reduceBEq, Nat.reduceLT, Nat.reduceLeDiff, Nat.reduceAdd, Nat.reduceSub, reduceIte]
  refine (p92 c n l.length hc hn hk).call (fun _ => rfl) ?_
  rintro _ c' hc' ⟨v, rfl, v0, v1, v2⟩
  have hv : v < (l.length : Int) := by
    by_cases h : 1 < (l.length : Int)
    · exact v1 h
    · have := v2 (by omega); omega
  have hn' : v.toNat < l.length := by omega
  simp only [v0, hv, nth_map hn', EV, Nat.reduceEqDiff, Nat.reduceBEq, Nat.reduceLT, Nat.reduceLeDiff, Nat.reduceAdd, Nat.reduceSub, reduceIte]
  simp only [EV, Nat.reduceEqDiff, Nat.reduceBEq, Nat.reduceLT, Nat.reduceLeDiff, Nat.reduceAdd, Nat.reduceSub, reduceIte, evRE, retVC, cellV', evR, nfz, nfzs, nfzss, List.contains_nil, List.contains_cons, Bool.or_false, or_true]
  exact ⟨c', rfl, hc', _, List.getElem_mem hn', rfl⟩
def m93 : MC :=
 (.seq (.reg [Xb 4 (.asg (.i 0))]) (.seq (.seq (.reg [Xm 5 0, Xm 6 1, Xq 7 (.bin false .gtr (.t 5) (.t 6))]) (.cond (.t 7) (.seq (.reg [Xm 8 0, Xa 4 8]) .ret) .skip)) (.seq (.reg [Xm 9 1, Xa 4 9]) .ret)))
theorem d93 (a b : Int) : Does Go.Proofs.Tryz.prog 93 [.v (.int .i64 a), .v (.int .i64 b)] false (.v (.int .i64 (max a b))) [.dead, .dead] := by
  refine does_intro (mc := m93) (N := 10) (rs := [4]) (fx := []) 2 rfl (by decide +kernel) ?_
  simp only [m93, EV, Nat.reduceEqDiff, Nat.reduceBEq, Nat.reduceLT, Nat.reduceLeDiff, Nat.reduceAdd, Nat.reduceSub, reduceIte]
  refine cK_cut (fun h => ?_) (fun h => ?_)
  · have e : max a b = a := by have : b < a := by simpa using h
                               omega
    simp only [EV, Nat.reduceEqDiff, Nat.reduceBEq, Nat.reduceLT, Nat.reduceLeDiff, Nat.reduceAdd, Nat.reduceSub, reduceIte]
    simp only [e, EV, Nat.reduceEqDiff, Nat.reduceBEq, Nat.reduceLT, Nat.reduceLeDiff, Nat.reduceAdd, Nat.reduceSub, reduceIte, evRE, retVC, cellV', evR, nfz, nfzs, nfzss, List.contains_nil, List.contains_cons, Bool.or_false, or_true]
  · have e : max a b = b := by have : ¬ b < a := by simpa using h
                               omega
    simp only [EV, Nat.reduceEqDiff, Nat.reduceBEq, Nat.reduceLT, Nat.reduceLeDiff, Nat.reduceAdd, Nat.reduceSub, reduceIte]
    simp only [e, EV, Nat.reduceEqDiff, Nat.reduceBEq, Nat.reduceLT, Nat.reduceLeDiff, Nat.reduceAdd, Nat.reduceSub, reduceIte, evRE, retVC, cellV', evR, nfz, nfzs, nfzss, List.contains_nil, List.contains_cons, Bool.or_false, or_true]
end Go.AM
namespace Go.AM
set_option linter.unusedVariables false
set_option linter.unusedSimpArgs false
def m222 : MC :=
 (.seq (.reg [Xb 2 (.asg (.z #[]))]) (.seq (.seq (.reg [Xm 3 0, Xq 4 (.bin false .lss (.t 3) (.i 10))]) (.cond (.t 4) (.seq (.reg [Xm 5 0, Xq 6 (.bin false .add (.i 48) (.t 5)), Xq 7 (.conv .u8 (.t 6)), Xb 8 (.bsl 5 1 [.t 7]), Xq 9 (.b2s (.t 8)), Xa 2 9]) .ret) .skip)) (.seq (.mixt [] [0, 2] [] [] [] [] (.step 0 (Xm 10 0) (.step 1 (Xq 11 (.bin false .quo (.t 10) (.i 10))) (.step 3 (Xm 13 0) (.step
 4 (Xq 14 (.bin false .rem (.t 13) (.i 10))) (.step 5 (Xq 15 (.bin false .add (.i 48) (.t 14))) (.alt (.step 2 (Xb 12 (.call (.fn 222) false [.lend (.t 11)])) (.step 6 (Xq 16 (.conv .u8 (.t 15))) (.step 7 (Xb 17 (.bsl 5 1 [.t 16])) (.step 8 (Xq 18 (.b2s (.t 17))) (.step 9 (Xq 19 (.bin false .add (.t 12) (.t 18))) (.step 10 (Xa 2 19) .nil)))))) (.step 6 (Xq 16 (.conv .u8 (.t 15))) (.alt (.step 2 (Xb
 12 (.call (.fn 222) false [.lend (.t 11)])) (.step 7 (Xb 17 (.bsl 5 1 [.t 16])) (.step 8 (Xq 18 (.b2s (.t 17))) (.step 9 (Xq 19 (.bin false .add (.t 12) (.t 18))) (.step 10 (Xa 2 19) .nil))))) (.step 7 (Xb 17 (.bsl 5 1 [.t 16])) (.alt (.step 2 (Xb 12 (.call (.fn 222) false [.lend (.t 11)])) (.step 8 (Xq 18 (.b2s (.t 17))) (.step 9 (Xq 19 (.bin false .add (.t 12) (.t 18))) (.step 10 (Xa 2 19)
 .nil)))) (.step 8 (Xq 18 (.b2s (.t 17))) (.step 2 (Xb 12 (.call (.fn 222) false [.lend (.t 11)])) (.step 9 (Xq 19 (.bin false .add (.t 12) (.t 18))) (.step 10 (Xa 2 19) .nil))))))))))))))) .ret)))
set_option maxHeartbeats 1000000 in
set_option maxRecDepth 100000 in
theorem d222 : ∀ (f : Nat) (n : Int), 0 ≤ n → n < f → n ≤ 1000000 → DoesE Go.Proofs.Tryz.prog 222 [.v (.int .i64 n)] false fun r o => ∃ s : ByteArray, r = .v (.string s) ∧ (s.size : Int) ≤ n + 1 ∧ o = [.dead]
  | 0, n, h0, h1, _ => by omega
  | f + 1, n, h0, h1, h2 => by
    refine doesE_intro (mc := m222) (N := 20) (rs := [2]) (fx := []) 1 rfl (by decide +kernel) ?_
    simp only [m222, EV, Nat.reduceEqDiff, Nat.reduceBEq, Nat.reduceLT, Nat.reduceLeDiff, Nat.reduceAdd, Nat.reduceSub, reduceIte]
    refine cK_cut (fun h => ?_) (fun h => ?_)
    · have h3 : n < 10 := by simpa using h
      simp only [EV, Nat.reduceEqDiff, Nat.reduceBEq, Nat.reduceLT, Nat.reduceLeDiff, Nat.reduceAdd, Nat.reduceSub, reduceIte]
      simp only [EV, Nat.reduceEqDiff, Nat.reduceBEq, Nat.reduceLT, Nat.reduceLeDiff, Nat.reduceAdd, Nat.reduceSub, reduceIte, evRE, retVC, cellV', evR, nfz, nfzs, nfzss, List.contains_nil, List.contains_cons, Bool.or_false, or_true]
      have h9 : (strA [IntKind.u8.wrap (IntKind.i64.wrap (48 + n))]).size = 1 := rfl
      exact ⟨_, rfl, by rw [h9]; omega⟩
    · have h3 : ¬ n < 10 := by simpa using h
      have ed : n.tdiv 10 = n / 10 := Int.tdiv_eq_ediv_of_nonneg (by omega)
      have ih := d222 f (n / 10) (by omega) (by omega) (by omega)
      have h9 : ∀ x : Int, (strA [x]).size = 1 := fun _ => rfl
      have fin : ∀ {K : AV → Prop}, (∀ s : ByteArray, (s.size : Int) ≤ n / 10 + 1 → K (.v (.string s))) → callK Go.Proofs.Tryz.prog 222 [.v (.int .i64 (n / 10))] false [.dead] K := fun hk =>
        callE_i (S := fun r => ∃ s : ByteArray, r = .v (.string s) ∧ (s.size : Int) ≤ n / 10 + 1) ih (by rintro r o ⟨s, g1, g2, g3⟩; exact ⟨⟨s, g1, g2⟩, g3⟩) (by rintro r ⟨s, rfl, g2⟩; exact hk s g2)
      simp only [ed, w64 (n / 10) (by omega), EV, Nat.reduceEqDiff, Nat.reduceBEq, Nat.reduceLT, Nat.reduceLeDiff, Nat.reduceAdd, Nat.reduceSub, reduceIte]
      refine ⟨by omega, by omega, ?_, ?_, ?_, ?_⟩
      all_goals refine fin fun s hs => ?_
      all_goals simp only [EV, Nat.reduceEqDiff, Nat.reduceBEq, Nat.reduceLT, Nat.reduceLeDiff, Nat.reduceAdd, Nat.reduceSub, reduceIte]
      all_goals refine ⟨by rw [h9]; omega, ?_⟩
      all_goals simp only [EV, Nat.reduceEqDiff, Nat.reduceBEq, Nat.reduceLT, Nat.reduceLeDiff, Nat.reduceAdd, Nat.reduceSub, reduceIte, evRE, retVC, cellV', evR, nfz, nfzs, nfzss, List.contains_nil, List.contains_cons, Bool.or_false, or_true]
      all_goals exact ⟨_, rfl, by rw [ByteArray.size_append, h9]; omega⟩
theorem base_len3 : baseTs.length = 3 := rfl
theorem n222 {n : Int} (h0 : 0 ≤ n) (h1 : n ≤ 1000000) {K : AV → Prop} (k : ∀ s : ByteArray, (s.size : Int) ≤ n + 1 → K (.v (.string s))) : callK Go.Proofs.Tryz.prog 222 [.v (.int .i64 n)] false [.dead] K :=
  callE_i (S := fun r => ∃ s : ByteArray, r = .v (.string s) ∧ (s.size : Int) ≤ n + 1) (d222 (n.toNat + 1) n h0 (by omega) h1) (by rintro r o ⟨s, g1, g2, g3⟩; exact ⟨⟨s, g1, g2⟩, g3⟩) (by rintro r ⟨s, rfl, g2⟩; exact k s g2)
end Go.AM
