/- Contracts of functions of the given program, for the law FnDiffTexts: what they return and what they write, under the bounds that each theorem states. -/
import Derived.Test.YtlniipooboohkaaDoorF3
import Derived.Test.YtlniipooboohkaaDoorProg
import Derived.Ground.NamesProg
import Derived.Shelf.Lay
import Derived.Shelf.Strings.OnBuilder
import Derived.Lib.Join
import Derived.Shelf.Strings.FieldsAny
import Derived.Shelf.Small.Strs
namespace Go.AM
set_option linter.unusedVariables false
set_option linter.unusedSimpArgs false
def m29 : MC :=
 (.seq (.reg [Xb 6 (.asg .fb)]) (.seq (.reg [Xm 7 0, Xm 8 1, Xq 9 (.bin false .geq (.t 7) (.t 8)), Xm 10 9, Xt 11 10 (.mov (.t 0)), Xt 12 10 (.mov (.t 2)), Xt 13 10 (.bin false .leq (.t 11) (.t 12)), Xq 14 (.pick (.t 10) (.t 13) .fb), Xa 6 14]) .ret))
theorem d29 (x lo hi : Int) : Does Go.Proofs.Tryd.prog 29 [.v (.int .i64 x), .v (.int .i64 lo), .v (.int .i64 hi)] false (.v (.bool (decide (lo ≤ x) && decide (x ≤ hi)))) [.dead, .dead, .dead] := by
  refine does_intro (mc := m29) (N := 15) (rs := [6]) (fx := []) 3 rfl (by decide +kernel) ?_
  simp only [m29, EV, Nat.reduceEqDiff, Nat.reduceBEq, Nat.reduceLT, Nat.reduceLeDiff, Nat.reduceAdd, Nat.reduceSub, reduceIte]
  repeat' (first
    | (refine gK_cut (fun h => ?_) (fun h => ?_) <;> simp only [h, EV, Nat.reduceEqDiff, Nat.reduceBEq, Nat.reduceLT, Nat.reduceLeDiff, Nat.reduceAdd, Nat.reduceSub, reduceIte])
    | (refine cK_cut (fun h => ?_) (fun h => ?_) <;> simp only [h, EV, Nat.reduceEqDiff, Nat.reduceBEq, Nat.reduceLT, Nat.reduceLeDiff, Nat.reduceAdd, Nat.reduceSub, reduceIte]))
  all_goals simp only [h, EV, Nat.reduceEqDiff, Nat.reduceBEq, Nat.reduceLT, Nat.reduceLeDiff, Nat.reduceAdd, Nat.reduceSub, reduceIte, evRE, retVC, cellV', evR, nfz, nfzs, nfzss, List.contains_nil, List.contains_cons, Bool.or_false, or_true]
def m34 : MC :=
 (.seq (.reg [Xb 6 (.asg .fb)]) (.seq (.reg [Xm 7 0, Xm 8 1, Xq 9 (.bin false .geq (.t 7) (.t 8)), Xm 10 9, Xt 11 10 (.mov (.t 0)), Xt 12 10 (.mov (.t 2)), Xt 13 10 (.bin false .leq (.t 11) (.t 12)), Xq 14 (.pick (.t 10) (.t 13) .fb), Xa 6 14]) .ret))
theorem d34 (x lo hi : Int) : Does Go.Proofs.Tryd.prog 34 [.v (.int .i64 x), .v (.int .i64 lo), .v (.int .i64 hi)] false (.v (.bool (decide (lo ≤ x) && decide (x ≤ hi)))) [.dead, .dead, .dead] := by
  refine does_intro (mc := m34) (N := 15) (rs := [6]) (fx := []) 3 rfl (by decide +kernel) ?_
  simp only [m34, EV, Nat.reduceEqDiff, Nat.reduceBEq, Nat.reduceLT, Nat.reduceLeDiff, Nat.reduceAdd, Nat.reduceSub, reduceIte]
  repeat' (first
    | (refine gK_cut (fun h => ?_) (fun h => ?_) <;> simp only [h, EV, Nat.reduceEqDiff, Nat.reduceBEq, Nat.reduceLT, Nat.reduceLeDiff, Nat.reduceAdd, Nat.reduceSub, reduceIte])
    | (refine cK_cut (fun h => ?_) (fun h => ?_) <;> simp only [h, EV, Nat.reduceEqDiff, Nat.reduceBEq, Nat.reduceLT, Nat.reduceLeDiff, Nat.reduceAdd, Nat.reduceSub, reduceIte]))
  all_goals simp only [h, EV, Nat.reduceEqDiff, Nat.reduceBEq, Nat.reduceLT, Nat.reduceLeDiff, Nat.reduceAdd, Nat.reduceSub, reduceIte, evRE, retVC, cellV', evR, nfz, nfzs, nfzss, List.contains_nil, List.contains_cons, Bool.or_false, or_true]
def lett (b : Int) : Bool := decide (65 ≤ b) && decide (b ≤ 90) || decide (97 ≤ b) && decide (b ≤ 122)
def digt (b : Int) : Bool := decide (48 ≤ b) && decide (b ≤ 57)
def m40 : MC :=
 (.seq (.reg [Xb 2 (.asg .fb)]) (.seq (.reg [Xm 3 0, Xq 4 (.bin false .geq (.t 3) (.c (.int .u8 65))), Xm 5 4, Xt 6 5 (.mov (.t 0)), Xt 7 5 (.bin false .leq (.t 6) (.c (.int .u8 90))), Xq 8 (.pick (.t 5) (.t 7) .fb), Xm 9 8, Xu 10 9 (.mov (.t 0)), Xu 11 9 (.bin false .geq (.t 10) (.c (.int .u8 97))), Xu 12 9 (.mov (.t 11)), Xt 13 12 (.mov (.t 0)), Xt 14 12 (.bin false .leq (.t 13) (.c (.int .u8
 122))), Xu 15 9 (.pick (.t 12) (.t 14) .fb), Xq 16 (.pick (.t 9) .tb (.t 15)), Xa 2 16]) .ret))
theorem d40 (b : Int) : Does Go.Proofs.Tryd.prog 40 [.v (.int .u8 b)] false (.v (.bool (lett b))) [.dead] := by
  refine does_intro (mc := m40) (N := 17) (rs := [2]) (fx := []) 1 rfl (by decide +kernel) ?_
  simp only [m40, EV, Nat.reduceEqDiff, Nat.reduceBEq, Nat.reduceLT, Nat.reduceLeDiff, Nat.reduceAdd, Nat.reduceSub, reduceIte]
  repeat' (first
    | (refine gK_cut (fun h => ?_) (fun h => ?_) <;> simp only [h, EV, Nat.reduceEqDiff, Nat.reduceBEq, Nat.reduceLT, Nat.reduceLeDiff, Nat.reduceAdd, Nat.reduceSub, reduceIte])
    | (refine cK_cut (fun h => ?_) (fun h => ?_) <;> simp only [h, EV, Nat.reduceEqDiff, Nat.reduceBEq, Nat.reduceLT, Nat.reduceLeDiff, Nat.reduceAdd, Nat.reduceSub, reduceIte]))
  all_goals simp only [lett, *, Bool.or_true, Bool.true_or, Bool.false_or, Bool.or_false, EV, Nat.reduceEqDiff, Nat.reduceBEq, Nat.reduceLT, Nat.reduceLeDiff, Nat.reduceAdd, Nat.reduceSub, reduceIte, evRE, retVC, cellV', evR, nfz, nfzs, nfzss, List.contains_nil, List.contains_cons, Bool.or_false, or_true]
def m41 : MC :=
 (.seq (.reg [Xb 2 (.asg .fb)]) (.seq (.reg [Xm 3 0, Xq 4 (.bin false .geq (.t 3) (.c (.int .u8 48))), Xm 5 4, Xt 6 5 (.mov (.t 0)), Xt 7 5 (.bin false .leq (.t 6) (.c (.int .u8 57))), Xq 8 (.pick (.t 5) (.t 7) .fb), Xa 2 8]) .ret))
theorem d41 (b : Int) : Does Go.Proofs.Tryd.prog 41 [.v (.int .u8 b)] false (.v (.bool (digt b))) [.dead] := by
  refine does_intro (mc := m41) (N := 9) (rs := [2]) (fx := []) 1 rfl (by decide +kernel) ?_
  simp only [m41, EV, Nat.reduceEqDiff, Nat.reduceBEq, Nat.reduceLT, Nat.reduceLeDiff, Nat.reduceAdd, Nat.reduceSub, reduceIte]
  repeat' (first
    | (refine gK_cut (fun h => ?_) (fun h => ?_) <;> simp only [h, EV, Nat.reduceEqDiff, Nat.reduceBEq, Nat.reduceLT, Nat.reduceLeDiff, Nat.reduceAdd, Nat.reduceSub, reduceIte])
    | (refine cK_cut (fun h => ?_) (fun h => ?_) <;> simp only [h, EV, Nat.reduceEqDiff, Nat.reduceBEq, Nat.reduceLT, Nat.reduceLeDiff, Nat.reduceAdd, Nat.reduceSub, reduceIte]))
  all_goals simp only [digt, *, EV, Nat.reduceEqDiff, Nat.reduceBEq, Nat.reduceLT, Nat.reduceLeDiff, Nat.reduceAdd, Nat.reduceSub, reduceIte, evRE, retVC, cellV', evR, nfz, nfzs, nfzss, List.contains_nil, List.contains_cons, Bool.or_false, or_true]
def chOk (s : ByteArray) (i : Nat) : Bool := lett (sAt s i) || (i != 0 && digt (sAt s i))
def chsOk (s : ByteArray) (i : Nat) : Prop := ∀ j, j < i → chOk s j = true
open Classical in
noncomputable def nameOk (s : ByteArray) : Bool := decide (chsOk s s.size ∧ 1 ≤ s.size ∧ s.size ≤ 10)
theorem chsOk_succ {s : ByteArray} {i : Nat} (h : chsOk s i) (h2 : chOk s i = true) : chsOk s (i + 1) := by
  intro j hj
  by_cases e : j = i
  · subst e; exact h2
  · exact h j (by omega)
theorem nameOk_no {s : ByteArray} {i : Nat} (hi : i < s.size) (h : chOk s i = false) : nameOk s = false := by
  simp only [nameOk, decide_eq_false_iff_not]
  rintro ⟨h1, _⟩
  have := h1 i hi
  rw [h] at this; cases this
theorem nameOk_yes {s : ByteArray} (h : chsOk s s.size) : nameOk s = (decide ((1 : Int) ≤ s.size) && decide ((s.size : Int) ≤ 10)) := by
  have e1 : decide ((1 : Int) ≤ s.size) = decide (1 ≤ s.size) := by congr 1; apply propext; omega
  have e2 : decide ((s.size : Int) ≤ 10) = decide (s.size ≤ 10) := by congr 1; apply propext; omega
  simp [nameOk, h, e1, e2]
def m28 : MC :=
 (.seq (.reg [Xb 2 (.asg .fb)]) (.seq (.seq (.reg [Xb 3 (.asg (.i 0))]) (.block 0 (.loop [0, 3] (.seq (.seq (.reg [Xm 6 3, Xm 7 0, Xq 8 (.len true (.t 7)), Xq 9 (.bin false .lss (.t 6) (.t 8))]) (.cond (.t 9) .skip (.exit 0))) (.seq (.block 1 (.seq (.reg [Xm 12 0, Xm 13 3, Xq 14 (.idx (.t 12) (.t 13)), Xa 4 14]) (.join [0, 3, 4, 5] (.reg [Xm 15 4, Xq 16 (.bin false .geq (.t 15) (.c (.int .u8 65))),
 Xm 17 16, Xt 18 17 (.mov (.t 4)), Xt 19 17 (.bin false .leq (.t 18) (.c (.int .u8 90))), Xq 20 (.pick (.t 17) (.t 19) .fb), Xm 21 20, Xu 22 21 (.mov (.t 4)), Xu 23 21 (.bin false .geq (.t 22) (.c (.int .u8 97))), Xu 24 21 (.mov (.t 23)), Xt 25 24 (.mov (.t 4)), Xt 26 24 (.bin false .leq (.t 25) (.c (.int .u8 122))), Xu 27 21 (.pick (.t 24) (.t 26) .fb), Xq 28 (.pick (.t 21) .tb (.t 27)), Xa 5 28])
 (.seq (.reg [Xm 29 5, Xq 30 (.un .not (.t 29)), Xm 31 30, Xt 32 31 (.mov (.t 3)), Xt 33 31 (.bin false .eql (.t 32) (.i 0)), Xt 34 31 (.mov (.t 33)), Xu 35 34 (.mov (.t 4)), Xu 36 34 (.bin false .lss (.t 35) (.c (.int .u8 48))), Xt 37 31 (.pick (.t 34) .tb (.t 36)), Xt 38 31 (.mov (.t 37)), Xu 39 38 (.mov (.t 4)), Xu 40 38 (.bin false .gtr (.t 39) (.c (.int .u8 57))), Xt 41 31 (.pick (.t 38) .tb
 (.t 40)), Xq 42 (.pick (.t 31) (.t 41) .fb)]) (.cond (.t 42) (.seq (.reg [Xb 2 (.asg .fb)]) .ret) .skip))))) (.reg [Xm 10 3, Xq 11 (.bin false .add (.t 10) (.i 1)), Xa 3 11])))))) (.seq (.reg [Xm 43 0, Xq 44 (.len true (.t 43)), Xb 45 (.call (.fn 29) false [.lend (.t 44), .lend (.i 1), .lend (.i 10)]), Xa 2 45]) .ret)))
theorem d28 (s : ByteArray) (hs : (s.size : Int) ≤ 9223372036854775807) : Does Go.Proofs.Tryd.prog 28 [.v (.string s)] false (.v (.bool (nameOk s))) [.dead] := by
  refine does_intro (mc := m28) (N := 46) (rs := [2]) (fx := []) 1 rfl (by decide +kernel) ?_
  simp only [m28, EV, Nat.reduceEqDiff, Nat.reduceBEq, Nat.reduceLT, Nat.reduceLeDiff, Nat.reduceAdd, Nat.reduceSub, reduceIte]
  refine awp_loop (fun i : Nat => i ≤ s.size ∧ chsOk s i) (fun i => stl [(0, .v (.string s)), (3, .v (.int .i64 (i : Int)))]) (fun i => s.size - i) 0 ⟨by omega, fun j hj => absurd hj (by omega)⟩ ?_ ?_
  · simp only [EV, Nat.reduceEqDiff, Nat.reduceBEq, Nat.reduceLT, Nat.reduceLeDiff, Nat.reduceAdd, Nat.reduceSub, reduceIte]
    rfl
  · rintro i ⟨h0, h1⟩
    simp only [EV, Nat.reduceEqDiff, Nat.reduceBEq, Nat.reduceLT, Nat.reduceLeDiff, Nat.reduceAdd, Nat.reduceSub, reduceIte]
    refine cK_cut (fun h => ?_) (fun h => ?_)
    · have h2 : (i : Int) < s.size := by simpa using h
      simp only [h2, EV, Nat.reduceEqDiff, Nat.reduceBEq, Nat.reduceLT, Nat.reduceLeDiff, Nat.reduceAdd, Nat.reduceSub, reduceIte]
      refine awp_join (fun _ : Unit => True) (fun _ => stl [(0, .v (.string s)), (3, .v (.int .i64 (i : Int))), (4, .v (.int .u8 (sAt s i))), (5, .v (.bool (lett (sAt s i))))]) ?_ ?_
      · simp only [EV, Nat.reduceEqDiff, Nat.reduceBEq, Nat.reduceLT, Nat.reduceLeDiff, Nat.reduceAdd, Nat.reduceSub, reduceIte]
        repeat' (first
    | (refine gK_cut (fun h => ?_) (fun h => ?_) <;> simp only [h, EV, Nat.reduceEqDiff, Nat.reduceBEq, Nat.reduceLT, Nat.reduceLeDiff, Nat.reduceAdd, Nat.reduceSub, reduceIte])
    | (refine cK_cut (fun h => ?_) (fun h => ?_) <;> simp only [h, EV, Nat.reduceEqDiff, Nat.reduceBEq, Nat.reduceLT, Nat.reduceLeDiff, Nat.reduceAdd, Nat.reduceSub, reduceIte]))
        all_goals refine ⟨(), ?_⟩
        all_goals simp only [lett, *, Bool.or_true, Bool.true_or, Bool.false_or, Bool.or_false, EV, Nat.reduceEqDiff, Nat.reduceBEq, Nat.reduceLT, Nat.reduceLeDiff, Nat.reduceAdd, Nat.reduceSub, reduceIte]
      · rintro _ _
        simp only [EV, Nat.reduceEqDiff, Nat.reduceBEq, Nat.reduceLT, Nat.reduceLeDiff, Nat.reduceAdd, Nat.reduceSub, reduceIte]
        repeat' (first
    | (refine gK_cut (fun h => ?_) (fun h => ?_) <;> simp only [h, EV, Nat.reduceEqDiff, Nat.reduceBEq, Nat.reduceLT, Nat.reduceLeDiff, Nat.reduceAdd, Nat.reduceSub, reduceIte])
    | (refine cK_cut (fun h => ?_) (fun h => ?_) <;> simp only [h, EV, Nat.reduceEqDiff, Nat.reduceBEq, Nat.reduceLT, Nat.reduceLeDiff, Nat.reduceAdd, Nat.reduceSub, reduceIte]))
        all_goals first
          | (have hc : chOk s i = false := by
               simp_all [chOk, digt] <;> omega
             simp only [nameOk_no (by omega) hc, EV, Nat.reduceEqDiff, Nat.reduceBEq, Nat.reduceLT, Nat.reduceLeDiff, Nat.reduceAdd, Nat.reduceSub, reduceIte, evRE, retVC, cellV', evR, nfz, nfzs, nfzss, List.contains_nil, List.contains_cons, Bool.or_false, or_true]
             done)
          | (have hc : chOk s i = true := by
               simp_all [chOk, digt] <;> omega
             rw [w64 _ (by omega)]
             exact ⟨i + 1, ⟨by omega, chsOk_succ h1 hc⟩, by omega, rfl⟩)
    · have h2 : i = s.size := by have : ¬ (i : Int) < s.size := by simpa using h
                                 omega
      subst h2
      simp only [EV, Nat.reduceEqDiff, Nat.reduceBEq, Nat.reduceLT, Nat.reduceLeDiff, Nat.reduceAdd, Nat.reduceSub, reduceIte]
      refine callK_i (d29 _ _ _) ?_
      simp only [EV, Nat.reduceEqDiff, Nat.reduceBEq, Nat.reduceLT, Nat.reduceLeDiff, Nat.reduceAdd, Nat.reduceSub, reduceIte]
      simp only [nameOk_yes h1, EV, Nat.reduceEqDiff, Nat.reduceBEq, Nat.reduceLT, Nat.reduceLeDiff, Nat.reduceAdd, Nat.reduceSub, reduceIte, evRE, retVC, cellV', evR, nfz, nfzs, nfzss, List.contains_nil, List.contains_cons, Bool.or_false, or_true]
end Go.AM
namespace Go.AM
set_option linter.unusedVariables false
set_option linter.unusedSimpArgs false
def m33 : MC :=
 (.seq (.reg [Xb 2 (.asg .fb)]) (.seq (.seq (.reg [Xm 4 0, Xq 5 (.len true (.t 4)), Xq 6 (.mov (.i 0))]) (.block 0 (.loop [0, 5, 6] (.seq (.reg [Xq 7 (.bin false .lss (.t 6) (.t 5))]) (.seq (.cond (.t 7) .skip (.exit 0)) (.seq (.block 1 (.seq (.reg [Xm 8 6, Xa 3 8]) (.seq (.reg [Xm 9 0, Xm 10 3, Xq 11 (.idx (.t 9) (.t 10)), Xb 12 (.call (.fn 40) false [.lend (.t 11)]), Xq 13 (.un .not (.t 12)), Xm
 14 13, Xt 15 14 (.mov (.t 3)), Xt 16 14 (.bin false .eql (.t 15) (.i 0)), Xt 17 14 (.mov (.t 16)), Xu 18 17 (.mov (.t 0)), Xu 19 17 (.mov (.t 3)), Xu 20 17 (.idx (.t 18) (.t 19)), XU 21 17 (.call (.fn 41) false [.lend (.t 20)]), Xu 22 17 (.un .not (.t 21)), Xt 23 14 (.pick (.t 17) .tb (.t 22)), Xq 24 (.pick (.t 14) (.t 23) .fb)]) (.cond (.t 24) (.seq (.reg [Xb 2 (.asg .fb)]) .ret) .skip)))) (.reg
 [Xq 25 (.bin false .add (.t 6) (.i 1)), Xm 6 25]))))))) (.seq (.reg [Xm 26 0, Xq 27 (.len true (.t 26)), Xb 28 (.call (.fn 34) false [.lend (.t 27), .lend (.i 1), .lend (.i 10)]), Xa 2 28]) .ret)))
theorem d33 (s : ByteArray) (hs : (s.size : Int) ≤ 9223372036854775807) : Does Go.Proofs.Tryd.prog 33 [.v (.string s)] false (.v (.bool (nameOk s))) [.dead] := by
  refine does_intro (mc := m33) (N := 29) (rs := [2]) (fx := []) 1 rfl (by decide +kernel) ?_
  simp only [m33, EV, Nat.reduceEqDiff, Nat.reduceBEq, Nat.reduceLT, Nat.reduceLeDiff, Nat.reduceAdd, Nat.reduceSub, reduceIte]
  refine awp_loop (fun i : Nat => i ≤ s.size ∧ chsOk s i) (fun i => stl [(0, .v (.string s)), (5, .v (.int .i64 (s.size : Int))), (6, .v (.int .i64 (i : Int)))]) (fun i => s.size - i) 0 ⟨by omega, fun j hj => absurd hj (by omega)⟩ ?_ ?_
  · simp only [EV, Nat.reduceEqDiff, Nat.reduceBEq, Nat.reduceLT, Nat.reduceLeDiff, Nat.reduceAdd, Nat.reduceSub, reduceIte]
    rfl
  · rintro i ⟨h0, h1⟩
    simp only [EV, Nat.reduceEqDiff, Nat.reduceBEq, Nat.reduceLT, Nat.reduceLeDiff, Nat.reduceAdd, Nat.reduceSub, reduceIte]
    refine cK_cut (fun h => ?_) (fun h => ?_)
    · have h2 : (i : Int) < s.size := by simpa using h
      simp only [h2, EV, Nat.reduceEqDiff, Nat.reduceBEq, Nat.reduceLT, Nat.reduceLeDiff, Nat.reduceAdd, Nat.reduceSub, reduceIte]
      refine callK_i (d40 _) ?_
      simp only [EV, Nat.reduceEqDiff, Nat.reduceBEq, Nat.reduceLT, Nat.reduceLeDiff, Nat.reduceAdd, Nat.reduceSub, reduceIte]
      repeat' (first
    | (refine gK_cut (fun h => ?_) (fun h => ?_) <;> simp only [h, h2, EV, Nat.reduceEqDiff, Nat.reduceBEq, Nat.reduceLT, Nat.reduceLeDiff, Nat.reduceAdd, Nat.reduceSub, reduceIte])
    | (refine cK_cut (fun h => ?_) (fun h => ?_) <;> simp only [h, h2, EV, Nat.reduceEqDiff, Nat.reduceBEq, Nat.reduceLT, Nat.reduceLeDiff, Nat.reduceAdd, Nat.reduceSub, reduceIte])
    | (refine callK_i (d41 _) ?_ <;> simp only [h, h2, EV, Nat.reduceEqDiff, Nat.reduceBEq, Nat.reduceLT, Nat.reduceLeDiff, Nat.reduceAdd, Nat.reduceSub, reduceIte]))
      all_goals first
          | (have hc : chOk s i = false := by
               simp_all [chOk]
             simp only [nameOk_no (by omega) hc, EV, Nat.reduceEqDiff, Nat.reduceBEq, Nat.reduceLT, Nat.reduceLeDiff, Nat.reduceAdd, Nat.reduceSub, reduceIte, evRE, retVC, cellV', evR, nfz, nfzs, nfzss, List.contains_nil, List.contains_cons, Bool.or_false, or_true]
             done)
          | (have hc : chOk s i = true := by
               simp_all [chOk] <;> omega
             rw [w64 _ (by omega)]
             exact ⟨i + 1, ⟨by omega, chsOk_succ h1 hc⟩, by omega, rfl⟩)
    · have h2 : i = s.size := by have : ¬ (i : Int) < s.size := by simpa using h
                                 omega
      subst h2
      simp only [EV, Nat.reduceEqDiff, Nat.reduceBEq, Nat.reduceLT, Nat.reduceLeDiff, Nat.reduceAdd, Nat.reduceSub, reduceIte]
      refine callK_i (d34 _ _ _) ?_
      simp only [EV, Nat.reduceEqDiff, Nat.reduceBEq, Nat.reduceLT, Nat.reduceLeDiff, Nat.reduceAdd, Nat.reduceSub, reduceIte]
      simp only [nameOk_yes h1, EV, Nat.reduceEqDiff, Nat.reduceBEq, Nat.reduceLT, Nat.reduceLeDiff, Nat.reduceAdd, Nat.reduceSub, reduceIte, evRE, retVC, cellV', evR, nfz, nfzs, nfzss, List.contains_nil, List.contains_cons, Bool.or_false, or_true]
end Go.AM
namespace Go.AM
set_option linter.unusedVariables false
set_option linter.unusedSimpArgs false
theorem ovw_all {l cs : List AV} (h : l.length = cs.length) : ovw l 0 cs = cs := by
  simp [ovw, ← h]
structure Seen where
  mod : ByteArray
  name : ByteArray
  sum : Int
end Go.AM
namespace Go.AM
set_option linter.unusedVariables false
set_option linter.unusedSimpArgs false
def same (x o : Seen) : Bool := o.mod.toList == x.mod.toList && o.name.toList == x.name.toList
end Go.AM
namespace Go.AM
set_option linter.unusedVariables false
set_option linter.unusedSimpArgs false
def bv (n : Int) : List AV := [.v (.int .u8 n)]
structure Cur where
  code : List Int
  pos : Int
  seed : Int
def Cur.z (c : Cur) : List AV := [.fsl 1 (c.code.map bv), .v (.int .i64 c.pos), .v (.int .u64 c.seed)]
def Cur.ok (c : Cur) (n : Int) : Prop := (c.code.length : Int) ≤ 1048576 ∧ (∀ b ∈ c.code, 0 ≤ b ∧ b ≤ 255) ∧ 0 ≤ c.pos ∧ c.pos ≤ n
theorem Cur.ok.up {c : Cur} {n m : Int} (h : c.ok n) (hm : n ≤ m) : c.ok m := ⟨h.1, h.2.1, h.2.2.1, by have := h.2.2.2; omega⟩
def andK (kd : IntKind) (a b : Int) : Int := kd.wrap (BitVec.ofInt kd.bits a &&& BitVec.ofInt kd.bits b).toNat
def shrK (kd : IntKind) (a b : Int) : Int := a.fdiv (2 ^ (min b.toNat kd.bits))
theorem evB2 :
    (∀ (kd ky : IntKind) (a b : Int) (K : AV → Prop), (binV .shr (.v (.int kd a)) (.v (.int ky b)) K = (0 ≤ b ∧ K (.v (.int kd (shrK kd a b)))))) ∧
    (∀ (kd : IntKind) (a b : Int) (K : AV → Prop), (binV .and (.v (.int kd a)) (.v (.int kd b)) K = K (.v (.int kd (andK kd a b))))) := by
  refine ⟨?_, ?_⟩ <;> intros <;> simp [binV, binC, binR, andK, shrK]
theorem andK_255 (a : Int) : 0 ≤ andK .u64 a 255 ∧ andK .u64 a 255 ≤ 255 := by
  have h2 : (BitVec.ofInt IntKind.u64.bits 255).toNat = 255 := by decide
  have e : (BitVec.ofInt IntKind.u64.bits a &&& BitVec.ofInt IntKind.u64.bits 255).toNat ≤ 255 := by
    rw [BitVec.toNat_and, h2]
    exact Nat.and_le_right
  have w : ∀ n : Nat, n ≤ 255 → IntKind.u64.wrap (n : Int) = (n : Int) := by
    intro n h1
    simp [IntKind.wrap, IntKind.bits, IntKind.signed]
    omega
  unfold andK
  rw [w _ e]
  omega
theorem evN (n : Nat) (p : List (Nat × Nat)) (i k : Nat) (K : AV → Prop) : nilchkV (.ref n p i k) K = K (.ref n p i k) := rfl
def m45 : MC :=
 (.seq (.reg [Xb 2 (.asg (.i 0))]) (.seq (.reg [Xb 3 (.asg (.i 0))]) (.join [0, 3] (.seq (.dreg [Xm 4 0, Xq 5 (.nilchk (.t 4)), Xf 6 1 5, Xl 7 1 6, Xm 8 0, Xq 9 (.nilchk (.t 8)), Xf 10 0 9, Xl 11 1 10, Xn 12 11, Xq 13 (.bin false .lss (.t 7) (.t 12))]) (.cond (.t 13) (.dreg [Xm 14 0, Xq 15 (.nilchk (.t 14)), Xf 16 0 15, Xl 17 1 16, Xm 18 0, Xq 19 (.nilchk (.t 18)), Xf 20 1 19, Xl 21 1 20, Xi 22 1
 17 21, Xl 23 1 22, Xq 24 (.conv .i64 (.t 23)), Xm 3 24]) .skip)) (.seq (.reg [Xm 25 0, Xq 26 (.nilchk (.t 25)), Xf 27 1 26, Xl 28 1 27, Xq 29 (.bin false .add (.t 28) (.i 1)), Xq 30 (.nilchk (.t 25)), Xf 31 1 30, Xz (.store 1 (.t 31) (.t 29))]) (.seq (.reg [Xm 32 0, Xm 33 0, Xq 34 (.nilchk (.t 33)), Xf 35 2 34, Xl 36 1 35, Xq 37 (.bin false .mul (.t 36) (.c (.int .u64 6364136223846793005))), Xm 38
 3, Xq 39 (.conv .u64 (.t 38)), Xq 40 (.bin false .add (.t 37) (.t 39)), Xq 41 (.bin false .add (.t 40) (.c (.int .u64 1442695040888963407))), Xq 42 (.nilchk (.t 32)), Xf 43 2 42, Xz (.store 1 (.t 43) (.t 41))]) (.seq (.seq (.dreg [Xm 44 0, Xq 45 (.nilchk (.t 44)), Xf 46 1 45, Xl 47 1 46, Xm 48 0, Xq 49 (.nilchk (.t 48)), Xf 50 0 49, Xl 51 1 50, Xn 52 51, Xq 53 (.bin false .leq (.t 47) (.t 52))])
 (.cond (.t 53) (.seq (.reg [Xm 54 3, Xa 2 54]) .ret) .skip)) (.seq (.reg [Xm 55 0, Xq 56 (.nilchk (.t 55)), Xf 57 2 56, Xl 58 1 57, Xq 59 (.bin false .shr (.t 58) (.c (.int .u64 40))), Xq 60 (.bin false .and (.t 59) (.c (.int .u64 255))), Xq 61 (.conv .i64 (.t 60)), Xa 2 61]) .ret)))))))
set_option maxRecDepth 100000 in
theorem d45 (c : Cur) (n : Int) (hc : c.ok n) (hn : n ≤ 1152921504606846976) :
    DoesE Go.Proofs.Tryd.prog 45 [.box 47 c.z] false (fun r o => ∃ (v : Int) (c' : Cur), r = .v (.int .i64 v) ∧ o = [.box 47 c'.z] ∧ 0 ≤ v ∧ v ≤ 255 ∧ c'.ok (n + 1)) := by
  obtain ⟨h1, h2, h3, h4⟩ := hc
  refine doesE_intro (mc := m45) (N := 62) (rs := [2]) (fx := [0]) 1 rfl (by decide +kernel) ?_
  simp only [m45, EV, Nat.reduceEqDiff, Nat.reduceBEq, Nat.reduceLT, Nat.reduceLeDiff, Nat.reduceAdd, Nat.reduceSub, reduceIte]
  refine awp_join (fun v : Int => 0 ≤ v ∧ v ≤ 255) (fun v => stl [(0, .box 47 c.z), (3, .v (.int .i64 v))]) ?_ ?_
  · simp only [Cur.z, evN, EV, Nat.reduceEqDiff, Nat.reduceBEq, Nat.reduceLT, Nat.reduceLeDiff, Nat.reduceAdd, Nat.reduceSub, reduceIte]
    refine cK_cut (fun h => ?_) (fun h => ?_)
    · have g1 : c.pos.toNat < c.code.length := by have : c.pos < (c.code.length : Int) := by simpa using h
                                                  omega
      have g2 : c.pos < (c.code.length : Int) := by omega
      have gb := h2 _ (List.getElem_mem g1)
      have w := w64 c.code[c.pos.toNat] (by omega)
      simp only [h3, g2, nth_map g1, bv, w, evN, EV, Nat.reduceEqDiff, Nat.reduceBEq, Nat.reduceLT, Nat.reduceLeDiff, Nat.reduceAdd, Nat.reduceSub, reduceIte]
      exact ⟨_, gb, rfl⟩
    · simp only [evN, EV, Nat.reduceEqDiff, Nat.reduceBEq, Nat.reduceLT, Nat.reduceLeDiff, Nat.reduceAdd, Nat.reduceSub, reduceIte]
      exact ⟨0, by omega, rfl⟩
  · rintro v ⟨v0, v1⟩
    have w1 := w64 (c.pos + 1) (by omega)
    simp only [Cur.z, evN, evB2, w1, EV, Nat.reduceEqDiff, Nat.reduceBEq, Nat.reduceLT, Nat.reduceLeDiff, Nat.reduceAdd, Nat.reduceSub, reduceIte]
    refine cK_cut (fun h => ?_) (fun h => ?_)
    · simp only [evN, evB2, EV, Nat.reduceEqDiff, Nat.reduceBEq, Nat.reduceLT, Nat.reduceLeDiff, Nat.reduceAdd, Nat.reduceSub, reduceIte]
      simp only [EV, Nat.reduceEqDiff, Nat.reduceBEq, Nat.reduceLT, Nat.reduceLeDiff, Nat.reduceAdd, Nat.reduceSub, reduceIte, evRE, retVC, cellV', evR, nfz, nfzs, nfzss, List.contains_nil, List.contains_cons, Bool.or_false, or_true]
      exact ⟨v, ⟨c.code, c.pos + 1, _⟩, rfl, rfl, v0, v1, h1, h2, by simp only; omega, by simp only; omega⟩
    · simp only [evN, evB2, EV, Nat.reduceEqDiff, Nat.reduceBEq, Nat.reduceLT, Nat.reduceLeDiff, Nat.reduceAdd, Nat.reduceSub, reduceIte]
      refine ⟨by omega, ?_⟩
      have ab := andK_255 (shrK .u64 (IntKind.u64.wrap (IntKind.u64.wrap (IntKind.u64.wrap (c.seed * 6364136223846793005) + IntKind.u64.wrap v) + 1442695040888963407)) 40)
      rw [w64 _ (by omega)]
      simp only [EV, Nat.reduceEqDiff, Nat.reduceBEq, Nat.reduceLT, Nat.reduceLeDiff, Nat.reduceAdd, Nat.reduceSub, reduceIte, evRE, retVC, cellV', evR, nfz, nfzs, nfzss, List.contains_nil, List.contains_cons, Bool.or_false, or_true]
      exact ⟨_, ⟨c.code, c.pos + 1, _⟩, rfl, rfl, ab.1, ab.2, h1, h2, by simp only; omega, by simp only; omega⟩
def Draws (f : Nat) (args : List AV) (c : Cur) (n m : Int) (Q : AV → Prop) : Prop :=
  DoesE Go.Proofs.Tryd.prog f (.box 47 c.z :: args) false fun r o => ∃ c' : Cur, o = .box 47 c'.z :: args.map (fun _ => AV.dead) ∧ c'.ok (n + m) ∧ Q r
theorem Draws.call {f : Nat} {args : List AV} {c : Cur} {n m : Int} {Q : AV → Prop} (h : Draws f args c n m Q) {O : AV → List AV} (hO : ∀ out, O out = out :: args.map fun _ => AV.dead) {S : AV → AV → Prop}
    (k : ∀ (r : AV) (c' : Cur), c'.ok (n + m) → Q r → S (.box 47 c'.z) r) : callK2 Go.Proofs.Tryd.prog f (.box 47 c.z :: args) false O (.box 47 c.z) S := by
  refine callE2_i (T := fun r out => ∃ c' : Cur, out = .box 47 c'.z ∧ c'.ok (n + m) ∧ Q r) h ?_ ?_
  · rintro r o ⟨c', rfl, h1, h2⟩
    exact ⟨.box 47 c'.z, ⟨c', rfl, h1, h2⟩, (hO _).symm⟩
  · rintro r out ⟨c', rfl, h1, h2⟩
    exact ⟨rfl, rfl, k r c' h1 h2⟩
theorem p45 (c : Cur) (n : Int) (hc : c.ok n) (hn : n ≤ 1152921504606846976) : Draws 45 [] c n 1 fun r => ∃ v : Int, r = .v (.int .i64 v) ∧ 0 ≤ v ∧ v ≤ 255 := by
  have h := d45 c n hc hn
  refine ⟨h.1, fun w Fz xs os h1 h2 h3 h4 => (h.2 w Fz xs os h1 h2 h3 h4).mono ?_⟩
  rintro e w' ⟨res, outs, ⟨v, c', rfl, rfl, g1, g2, g3⟩, hh⟩
  exact ⟨_, _, ⟨c', rfl, g3, v, rfl, g1, g2⟩, hh⟩
def m36 : MC :=
 (.seq (.reg [Xb 4 (.asg (.i 0))]) (.seq (.seq (.reg [Xm 6 1, Xq 7 (.bin false .leq (.t 6) (.i 1))]) (.cond (.t 7) (.seq (.reg [Xb 4 (.asg (.i 0))]) .ret) .skip)) (.seq (.reg [Xm 8 0, Xb 9 (.call (.fn 45) false [.io (.t 8)]), Xa 5 9]) (.join [0, 1, 5] (.seq (.reg [Xm 10 1, Xq 11 (.bin false .gtr (.t 10) (.i 200))]) (.cond (.t 11) (.reg [Xm 12 5, Xq 13 (.bin false .mul (.t 12) (.i 256)), Xm 14 0, Xb
 15 (.call (.fn 45) false [.io (.t 14)]), Xq 16 (.bin false .add (.t 13) (.t 15)), Xa 5 16]) .skip)) (.seq (.reg [Xm 17 5, Xm 18 1, Xq 19 (.bin false .rem (.t 17) (.t 18)), Xa 4 19]) .ret)))))
set_option maxRecDepth 100000 in
theorem p36 (c : Cur) (n k : Int) (hc : c.ok n) (hn : n ≤ 1152921504606846) (hk : k ≤ 1048577) : Draws 36 [.v (.int .i64 k)] c n 2 fun r => ∃ v : Int, r = .v (.int .i64 v) ∧ 0 ≤ v ∧ (1 < k → v < k) ∧ (k ≤ 1 → v = 0) := by
  refine doesE_intro (mc := m36) (N := 20) (rs := [4]) (fx := [0]) 2 rfl (by decide +kernel) ?_
  simp only [m36, EV, Nat.reduceEqDiff, Nat.reduceBEq, Nat.reduceLT, Nat.reduceLeDiff, Nat.reduceAdd, Nat.reduceSub, reduceIte]
  refine cK_cut (fun h => ?_) (fun h => ?_)
  · have hk1 : k ≤ 1 := by simpa using h
    simp only [EV, Nat.reduceEqDiff, Nat.reduceBEq, Nat.reduceLT, Nat.reduceLeDiff, Nat.reduceAdd, Nat.reduceSub, reduceIte]
    simp only [EV, Nat.reduceEqDiff, Nat.reduceBEq, Nat.reduceLT, Nat.reduceLeDiff, Nat.reduceAdd, Nat.reduceSub, reduceIte, evRE, retVC, cellV', evR, nfz, nfzs, nfzss, List.contains_nil, List.contains_cons, Bool.or_false, or_true]
    exact ⟨c, rfl, hc.up (by omega), 0, rfl, Int.le_refl _, fun h => absurd h (by omega), fun _ => rfl⟩
  have hk1 : 1 < k := by have : ¬ k ≤ 1 := by simpa using h
                         omega
  clear h
  simp only [EV, Nat.reduceEqDiff, Nat.reduceBEq, Nat.reduceLT, Nat.reduceLeDiff, Nat.reduceAdd, Nat.reduceSub, reduceIte]
  refine (p45 c n hc (by omega)).call (fun _ => rfl) ?_
  rintro _ c1 hc1 ⟨v, rfl, v0, v1⟩
  simp only [EV, Nat.reduceEqDiff, Nat.reduceBEq, Nat.reduceLT, Nat.reduceLeDiff, Nat.reduceAdd, Nat.reduceSub, reduceIte]
  refine awp_join (fun p : Int × Cur => 0 ≤ p.1 ∧ p.1 ≤ 65535 ∧ p.2.ok (n + 2)) (fun p => stl [(0, .box 47 p.2.z), (1, .v (.int .i64 k)), (5, .v (.int .i64 p.1))]) ?_ ?_
  · simp only [EV, Nat.reduceEqDiff, Nat.reduceBEq, Nat.reduceLT, Nat.reduceLeDiff, Nat.reduceAdd, Nat.reduceSub, reduceIte]
    refine cK_cut (fun h => ?_) (fun h => ?_)
    · simp only [EV, Nat.reduceEqDiff, Nat.reduceBEq, Nat.reduceLT, Nat.reduceLeDiff, Nat.reduceAdd, Nat.reduceSub, reduceIte]
      refine (p45 c1 (n + 1) hc1 (by omega)).call (fun _ => rfl) ?_
      rintro _ c2 hc2 ⟨u, rfl, u0, u1⟩
      simp only [EV, Nat.reduceEqDiff, Nat.reduceBEq, Nat.reduceLT, Nat.reduceLeDiff, Nat.reduceAdd, Nat.reduceSub, reduceIte]
      rw [w64 (v * 256) (by omega), w64 _ (by omega)]
      exact ⟨(v * 256 + u, c2), ⟨by simp only; omega, by simp only; omega, hc2.up (by omega)⟩, rfl⟩
    · simp only [EV, Nat.reduceEqDiff, Nat.reduceBEq, Nat.reduceLT, Nat.reduceLeDiff, Nat.reduceAdd, Nat.reduceSub, reduceIte]
      exact ⟨(v, c1), ⟨v0, by simp only; omega, hc1.up (by omega)⟩, rfl⟩
  · rintro ⟨v, c'⟩ ⟨g0, g1, g2⟩
    simp only at g0 g1 g2
    have em : v.tmod k = v % k := Int.tmod_eq_emod_of_nonneg g0
    have e0 := Int.emod_nonneg v (show k ≠ 0 by omega)
    have e1 := Int.emod_lt_of_pos v (show 0 < k by omega)
    simp only [EV, Nat.reduceEqDiff, Nat.reduceBEq, Nat.reduceLT, Nat.reduceLeDiff, Nat.reduceAdd, Nat.reduceSub, reduceIte]
    refine ⟨by omega, ?_⟩
    simp only [EV, Nat.reduceEqDiff, Nat.reduceBEq, Nat.reduceLT, Nat.reduceLeDiff, Nat.reduceAdd, Nat.reduceSub, reduceIte, evRE, retVC, cellV', evR, nfz, nfzs, nfzss, List.contains_nil, List.contains_cons, Bool.or_false, or_true]
    exact ⟨c', rfl, g2, _, rfl, by omega, fun _ => by omega, fun h => by omega⟩
def m26 : MC :=
 (.seq (.reg [Xb 4 (.asg .fb)]) (.seq (.reg [Xm 5 0, Xm 6 1, Xb 7 (.call (.fn 36) false [.io (.t 5), .lend (.t 6)]), Xq 8 (.bin false .eql (.t 7) (.i 0)), Xa 4 8]) .ret))
theorem p26 (c : Cur) (n k : Int) (hc : c.ok n) (hn : n ≤ 1152921504606846) (hk : k ≤ 1048577) : Draws 26 [.v (.int .i64 k)] c n 2 fun r => ∃ b : Bool, r = .v (.bool b) := by
  refine doesE_intro (mc := m26) (N := 9) (rs := [4]) (fx := [0]) 2 rfl (by decide +kernel) ?_
  simp only [m26, EV, Nat.reduceEqDiff, Nat.reduceBEq, Nat.reduceLT, Nat.reduceLeDiff, Nat.reduceAdd, Nat.reduceSub, reduceIte]
  refine (p36 c n k hc hn hk).call (fun _ => rfl) ?_
  rintro _ c' hc' ⟨v, rfl, _⟩
  simp only [EV, Nat.reduceEqDiff, Nat.reduceBEq, Nat.reduceLT, Nat.reduceLeDiff, Nat.reduceAdd, Nat.reduceSub, reduceIte]
  simp only [EV, Nat.reduceEqDiff, Nat.reduceBEq, Nat.reduceLT, Nat.reduceLeDiff, Nat.reduceAdd, Nat.reduceSub, reduceIte, evRE, retVC, cellV', evR, nfz, nfzs, nfzss, List.contains_nil, List.contains_cons, Bool.or_false, or_true]
  exact ⟨c', rfl, hc', _, rfl⟩
end Go.AM
namespace Go.AM
set_option linter.unusedVariables false
set_option linter.unusedSimpArgs false
def m24 : MC :=
 (.seq (.reg [Xb 2 (.asg (.z #[]))]) (.seq (.seq (.reg [Xm 4 0, Xq 5 (.bin false .leq (.t 4) (.i 0))]) (.cond (.t 5) (.seq (.reg [Xb 2 (.asg (.z #[109, 48]))]) .ret) .skip)) (.seq (.reg [Xb 3 (.asg (.z #[]))]) (.seq (.block 0 (.loop [0, 3] (.seq (.seq (.reg [Xm 6 0, Xq 7 (.bin false .gtr (.t 6) (.i 0))]) (.cond (.t 7) .skip (.exit 0))) (.block 1 (.seq (.reg [Xm 8 0, Xq 9 (.bin false .rem (.t 8) (.i
 10)), Xq 10 (.bin false .add (.i 48) (.t 9)), Xq 11 (.conv .u8 (.t 10)), Xb 12 (.bsl 5 1 [.t 11]), Xq 13 (.b2s (.t 12)), Xm 14 3, Xq 15 (.bin false .add (.t 13) (.t 14)), Xa 3 15]) (.reg [Xm 16 0, Xq 17 (.bin false .quo (.t 16) (.i 10)), Xa 0 17])))))) (.seq (.reg [Xm 18 3, Xq 19 (.bin false .add (.z #[109]) (.t 18)), Xa 2 19]) .ret)))))
def mtL (k : Int) (s : ByteArray) : ByteArray := if h : 0 < k then mtL (k.tdiv 10) (strA [IntKind.u8.wrap (48 + k.tmod 10)] ++ s) else s
  termination_by k.toNat
  decreasing_by
  have : k.tdiv 10 = k / 10 := Int.tdiv_eq_ediv_of_nonneg (by omega)
  rw [this]; omega
def mt (k : Int) : ByteArray := if k ≤ 0 then ⟨#[109, 48]⟩ else ⟨#[109]⟩ ++ mtL k ⟨#[]⟩
theorem d24 (k : Int) (h0 : -9223372036854775808 ≤ k) (h1 : k ≤ 4611686018427387904) : Does Go.Proofs.Tryd.prog 24 [.v (.int .i64 k)] false (.v (.string (mt k))) [.dead] := by
  refine does_intro (mc := m24) (N := 20) (rs := [2]) (fx := []) 1 rfl (by decide +kernel) ?_
  simp only [m24, EV, Nat.reduceEqDiff, Nat.reduceBEq, Nat.reduceLT, Nat.reduceLeDiff, Nat.reduceAdd, Nat.reduceSub, reduceIte]
  refine cK_cut (fun h => ?_) (fun h => ?_)
  · have h2 : k ≤ 0 := by simpa using h
    simp only [EV, Nat.reduceEqDiff, Nat.reduceBEq, Nat.reduceLT, Nat.reduceLeDiff, Nat.reduceAdd, Nat.reduceSub, reduceIte]
    simp only [mt, h2, EV, Nat.reduceEqDiff, Nat.reduceBEq, Nat.reduceLT, Nat.reduceLeDiff, Nat.reduceAdd, Nat.reduceSub, reduceIte, evRE, retVC, cellV', evR, nfz, nfzs, nfzss, List.contains_nil, List.contains_cons, Bool.or_false, or_true]
  · have h2 : ¬ k ≤ 0 := by simpa using h
    simp only [EV, Nat.reduceEqDiff, Nat.reduceBEq, Nat.reduceLT, Nat.reduceLeDiff, Nat.reduceAdd, Nat.reduceSub, reduceIte]
    refine awp_loop (fun p : Int × ByteArray => 0 ≤ p.1 ∧ p.1 ≤ k ∧ (p.2.size : Int) + p.1 ≤ k ∧ mtL p.1 p.2 = mtL k ⟨#[]⟩) (fun p => stl [(0, .v (.int .i64 p.1)), (3, .v (.string p.2))]) (fun p => p.1.toNat) (k, ⟨#[]⟩) ⟨by omega, by omega, by show (((⟨#[]⟩ : ByteArray).size : Nat) : Int) + k ≤ k; simp [ByteArray.size], rfl⟩ ?_ ?_
    · simp only [EV, Nat.reduceEqDiff, Nat.reduceBEq, Nat.reduceLT, Nat.reduceLeDiff, Nat.reduceAdd, Nat.reduceSub, reduceIte]
    · rintro ⟨n, s⟩ ⟨p0, p1, p2, p3⟩
      simp only [EV, Nat.reduceEqDiff, Nat.reduceBEq, Nat.reduceLT, Nat.reduceLeDiff, Nat.reduceAdd, Nat.reduceSub, reduceIte]
      refine cK_cut (fun h => ?_) (fun h => ?_)
      · have h3 : 0 < n := by simpa using h
        have ed : n.tdiv 10 = n / 10 := Int.tdiv_eq_ediv_of_nonneg (by omega)
        have em : n.tmod 10 = n % 10 := Int.tmod_eq_emod_of_nonneg (by omega)
        have w1 : IntKind.i64.wrap (48 + n.tmod 10) = 48 + n.tmod 10 := w64 _ (by omega)
        have w2 : IntKind.i64.wrap (n.tdiv 10) = n.tdiv 10 := w64 _ (by omega)
        simp only [w1, w2, EV, Nat.reduceEqDiff, Nat.reduceBEq, Nat.reduceLT, Nat.reduceLeDiff, Nat.reduceAdd, Nat.reduceSub, reduceIte]
        simp only at p0 p1 p2 p3
        have hs : (strA [IntKind.u8.wrap (48 + n.tmod 10)]).size = 1 := rfl
        refine ⟨by decide, ?_, by decide, (n.tdiv 10, strA [IntKind.u8.wrap (48 + n.tmod 10)] ++ s), ⟨?_, ?_, ?_, ?_⟩, ?_, rfl⟩
        · rw [hs]; omega
        · show 0 ≤ n.tdiv 10; omega
        · show n.tdiv 10 ≤ k; omega
        · show (((strA [IntKind.u8.wrap (48 + n.tmod 10)] ++ s).size : Nat) : Int) + n.tdiv 10 ≤ k
          rw [ByteArray.size_append, hs]; omega
        · show mtL (n.tdiv 10) (strA [IntKind.u8.wrap (48 + n.tmod 10)] ++ s) = _
          rw [← p3, mtL.eq_def n, dif_pos h3]
        · show (n.tdiv 10).toNat < n.toNat; omega
      · have h3 : ¬ 0 < n := by simpa using h
        simp only at p0 p1 p2 p3
        have e : mtL k ⟨#[]⟩ = s := by rw [← p3, mtL.eq_def, dif_neg h3]
        have hs : ((⟨#[109]⟩ : ByteArray).size : Nat) = 1 := rfl
        simp only [EV, Nat.reduceEqDiff, Nat.reduceBEq, Nat.reduceLT, Nat.reduceLeDiff, Nat.reduceAdd, Nat.reduceSub, reduceIte]
        refine ⟨?_, ?_⟩
        · rw [hs]; omega
        · simp only [mt, h2, e, EV, Nat.reduceEqDiff, Nat.reduceBEq, Nat.reduceLT, Nat.reduceLeDiff, Nat.reduceAdd, Nat.reduceSub, reduceIte, evRE, retVC, cellV', evR, nfz, nfzs, nfzss, List.contains_nil, List.contains_cons, Bool.or_false, or_true]
end Go.AM
namespace Go.AM
set_option linter.unusedVariables false
set_option linter.unusedSimpArgs false
structure Change where
  name : ByteArray
  kind : Int
def Change.c (s : Change) : List AV := [.v (.string s.name), .v (.int .i64 s.kind)]
theorem ChangeE : (∀ f : Change, f.c.length = 2) ∧ (∀ f : Change, f.c.take 2 = f.c) ∧ (∀ (st : St) (f : Change), frzBs st f.c = f.c) ∧ (∀ f : Change, bares f.c = true) ∧ (∀ f : Change, plains f.c = true) ∧ (∀ f : Change, frzRow f.c = f.c) ∧ (∀ (f : Change) (K : Nat → List (Nat × Nat) → Bool), killVs K f.c = f.c) ∧ (∀ (f : Change) (n : Nat) (p : List (Nat × Nat)) (i : Nat), brws n p i 0 f.c = f.c) ∧ (∀ f : Change, f.c.all storL = true) ∧ (∀ (f : Change) (l : List AV), l.length = 2 → ovw l 0 f.c = f.c) :=
  ⟨fun _ => rfl, fun _ => rfl, fun _ _ => rfl, fun _ => rfl, fun _ => rfl, fun _ => rfl, fun _ _ => rfl, fun _ _ _ _ => rfl, fun _ => rfl, fun f l h => ovw_all (by rw [h]; rfl)⟩
theorem Change.nfz : ∀ l : List Change, nfzss (l.map Change.c) = true
  | [] => rfl
  | s :: l => by simp only [List.map_cons, nfzss, Change.nfz l]; rfl
theorem Change.frz : ∀ l : List Change, frzRows (l.map Change.c) = l.map Change.c
  | [] => rfl
  | s :: l => by simp [frzRows, ChangeE, Change.frz l]
def Change.ok (s : Change) : Prop := (s.name.size : Int) ≤ 9223372036854775807 ∧ -9223372036854775808 ≤ s.kind ∧ s.kind ≤ 9223372036854775807
def m23 : MC :=
 (.seq (.reg [Xb 2 (.box 37 (.t 0)), Xb 3 (.box 37 (.t 1)), Xb 4 (.asg .fb)]) (.seq (.seq (.reg [Xf 5 0 2, Xl 6 1 5, Xf 7 0 3, Xl 8 1 7, Xq 9 (.bin false .neq (.t 6) (.t 8))]) (.cond (.t 9) (.seq (.reg [Xb 4 (.asg .fb)]) .ret) .skip)) (.seq (.seq (.reg [Xf 10 1 2, Xl 11 1 10, Xf 12 1 3, Xl 13 1 12, Xq 14 (.bin false .neq (.t 11) (.t 13))]) (.cond (.t 14) (.seq (.reg [Xb 4 (.asg .fb)]) .ret) .skip))
 (.seq (.reg [Xb 4 (.asg .tb)]) .ret))))
theorem d23 (f : Change) : Does Go.Proofs.Tryd.prog 23 [.agg f.c, .agg f.c] false (.v (.bool true)) [.dead, .dead] := by
  refine does_intro (mc := m23) (N := 15) (rs := [4]) (fx := []) 2 rfl (by decide +kernel) ?_
  simp only [m23, Change.c, EV, Nat.reduceEqDiff, Nat.reduceBEq, Nat.reduceLT, Nat.reduceLeDiff, Nat.reduceAdd, Nat.reduceSub, reduceIte]
  simp only [EV, Nat.reduceEqDiff, Nat.reduceBEq, Nat.reduceLT, Nat.reduceLeDiff, Nat.reduceAdd, Nat.reduceSub, reduceIte, evRE, retVC, cellV', evR, nfz, nfzs, nfzss, List.contains_nil, List.contains_cons, Bool.or_false, or_true]
def m7 : MC :=
 (.seq (.reg [Xb 4 (.asg .fb)]) (.seq (.seq (.reg [Xm 6 0, Xn 7 6, Xm 8 1, Xn 9 8, Xq 10 (.bin false .neq (.t 7) (.t 9))]) (.cond (.t 10) (.seq (.reg [Xb 4 (.asg .fb)]) .ret) .skip)) (.seq (.seq (.reg [Xb 5 (.asg (.i 0))]) (.block 0 (.loop [0, 1, 5] (.seq (.seq (.reg [Xm 11 5, Xm 12 0, Xn 13 12, Xq 14 (.bin false .lss (.t 11) (.t 13))]) (.cond (.t 14) .skip (.exit 0))) (.seq (.block 1 (.seq (.dreg
 [Xm 17 0, Xm 18 5, Xi 19 2 17 18, XL 20 2 19, Xm 21 1, Xm 22 5, Xi 23 2 21 22, XL 24 2 23, Xb 25 (.call (.fn 23) false [.lend (.t 20), .lend (.t 24)]), Xq 26 (.un .not (.t 25))]) (.cond (.t 26) (.seq (.reg [Xb 4 (.asg .fb)]) .ret) .skip))) (.reg [Xm 15 5, Xq 16 (.bin false .add (.t 15) (.i 1)), Xa 5 16])))))) (.seq (.reg [Xb 4 (.asg .tb)]) .ret))))
theorem d7 (l : List Change) (hl : l.length < 9223372036854775807) : Does Go.Proofs.Tryd.prog 7 [.fsl 2 (l.map Change.c), .fsl 2 (l.map Change.c)] false (.v (.bool true)) [.dead, .dead] := by
  refine does_intro (mc := m7) (N := 27) (rs := [4]) (fx := []) 2 rfl (by decide +kernel) ?_
  simp only [m7, EV, Nat.reduceEqDiff, Nat.reduceBEq, Nat.reduceLT, Nat.reduceLeDiff, Nat.reduceAdd, Nat.reduceSub, reduceIte]
  refine awp_loop (fun i : Nat => i ≤ l.length) (fun i => stl [(0, .fsl 2 (l.map Change.c)), (1, .fsl 2 (l.map Change.c)), (5, .v (.int .i64 (i : Int)))]) (fun i => l.length - i) 0 (Nat.zero_le _) ?_ ?_
  · simp only [EV, Nat.reduceEqDiff, Nat.reduceBEq, Nat.reduceLT, Nat.reduceLeDiff, Nat.reduceAdd, Nat.reduceSub, reduceIte]
    rfl
  · intro i hi
    simp only [EV, Nat.reduceEqDiff, Nat.reduceBEq, Nat.reduceLT, Nat.reduceLeDiff, Nat.reduceAdd, Nat.reduceSub, reduceIte]
    refine cK_cut (fun h => ?_) (fun h => ?_)
    · have h1 : i < l.length := by simpa using h
      have h2 : (i : Int) < (l.length : Int) := by omega
      simp only [ChangeE, nth_map h1, h2, EV, Nat.reduceEqDiff, Nat.reduceBEq, Nat.reduceLT, Nat.reduceLeDiff, Nat.reduceAdd, Nat.reduceSub, reduceIte]
      refine callD_i (d23 l[i]) rfl ?_
      simp only [EV, Nat.reduceEqDiff, Nat.reduceBEq, Nat.reduceLT, Nat.reduceLeDiff, Nat.reduceAdd, Nat.reduceSub, reduceIte]
      refine ⟨i + 1, by omega, by omega, ?_⟩
      rw [w64 _ (by omega)]
      rfl
    · have h1 : i = l.length := by have : ¬ (i : Int) < l.length := by simpa using h
                                   omega
      simp only [EV, Nat.reduceEqDiff, Nat.reduceBEq, Nat.reduceLT, Nat.reduceLeDiff, Nat.reduceAdd, Nat.reduceSub, reduceIte]
      simp only [EV, Nat.reduceEqDiff, Nat.reduceBEq, Nat.reduceLT, Nat.reduceLeDiff, Nat.reduceAdd, Nat.reduceSub, reduceIte, evRE, retVC, cellV', evR, nfz, nfzs, nfzss, List.contains_nil, List.contains_cons, Bool.or_false, or_true]
end Go.AM
namespace Go.AM
set_option linter.unusedVariables false
set_option linter.unusedSimpArgs false
def mkChange (k : Int) : Change := ⟨mt (k), k + 1⟩
def mkChangeS : List Change → Int → List Change
  | [], _ => []
  | f :: fs, k => mkChange k :: mkChangeS fs (k + 2)
theorem mkChangeS_len : ∀ (l : List Change) (k : Int), (mkChangeS l k).length = l.length
  | [], _ => rfl
  | f :: fs, k => by simp [mkChangeS, mkChangeS_len fs]
def m8 : MC :=
 (.seq (.reg [Xb 4 (.asg (.i 0))]) (.seq (.seq (.reg [Xb 5 (.asg (.i 0))]) (.block 0 (.loop [0, 1, 5] (.seq (.seq (.reg [Xm 6 5, Xm 7 0, Xn 8 7, Xq 9 (.bin false .lss (.t 6) (.t 8))]) (.cond (.t 9) .skip (.exit 0))) (.seq (.block 1 (.seq (.reg [Xm 12 0, Xm 13 5, Xm 14 1, Xb 15 (.call (.fn 24) false [.lend (.t 14)]), Xi 16 2 12 13, Xf 17 0 16, Xz (.store 1 (.t 17) (.t 15))]) (.seq (.reg [Xm 18 1, Xq
 19 (.bin false .add (.t 18) (.i 1)), Xa 1 19]) (.seq (.reg [Xm 20 0, Xm 21 5, Xm 22 1, Xi 23 2 20 21, Xf 24 1 23, Xz (.store 1 (.t 24) (.t 22))]) (.reg [Xm 25 1, Xq 26 (.bin false .add (.t 25) (.i 1)), Xa 1 26]))))) (.reg [Xm 10 5, Xq 11 (.bin false .add (.t 10) (.i 1)), Xa 5 11])))))) (.seq (.reg [Xm 27 1, Xa 4 27]) .ret)))
theorem d8 (l : List Change) (k : Int) (h0 : 0 ≤ k) (h1 : k + 2 * l.length ≤ 4611686018427387904) :
    Does Go.Proofs.Tryd.prog 8 [.usl 37 2 (l.map Change.c), .v (.int .i64 k)] false (.v (.int .i64 (k + 2 * l.length))) [.usl 37 2 ((mkChangeS l k).map Change.c), .dead] := by
  refine does_intro (mc := m8) (N := 28) (rs := [4]) (fx := [0]) 2 rfl (by decide +kernel) ?_
  simp only [m8, EV, Nat.reduceEqDiff, Nat.reduceBEq, Nat.reduceLT, Nat.reduceLeDiff, Nat.reduceAdd, Nat.reduceSub, reduceIte]
  refine awp_loop (fun p : List Change × List Change × Int => p.1 ++ mkChangeS p.2.1 p.2.2 = mkChangeS l k ∧ p.2.2 + 2 * p.2.1.length = k + 2 * l.length ∧ 0 ≤ p.2.2 ∧ p.1.length + p.2.1.length = l.length)
    (fun p => stl [(0, .usl 37 2 ((p.1 ++ p.2.1).map Change.c)), (1, .v (.int .i64 p.2.2)), (5, .v (.int .i64 (p.1.length : Int)))]) (fun p => p.2.1.length) ([], l, k) ⟨rfl, rfl, h0, by simp⟩ ?_ ?_
  · simp only [EV, Nat.reduceEqDiff, Nat.reduceBEq, Nat.reduceLT, Nat.reduceLeDiff, Nat.reduceAdd, Nat.reduceSub, reduceIte]
    rfl
  · rintro ⟨pre, post, n⟩ ⟨p0, p1, p2, p3⟩
    cases post with
    | nil =>
      simp only [EV, Nat.reduceEqDiff, Nat.reduceBEq, Nat.reduceLT, Nat.reduceLeDiff, Nat.reduceAdd, Nat.reduceSub, reduceIte]
      refine cK_cut (fun h => ?_) (fun h => ?_)
      · simp at h
      · simp only [EV, Nat.reduceEqDiff, Nat.reduceBEq, Nat.reduceLT, Nat.reduceLeDiff, Nat.reduceAdd, Nat.reduceSub, reduceIte]
        simp only [List.append_nil, mkChangeS, List.length_nil] at p0 p1
        have e : n = k + 2 * l.length := by simp at p1; omega
        simp only [p0, ← e, EV, Nat.reduceEqDiff, Nat.reduceBEq, Nat.reduceLT, Nat.reduceLeDiff, Nat.reduceAdd, Nat.reduceSub, reduceIte, evRE, retVC, cellV', evR, nfz, nfzs, nfzss, List.contains_nil, List.contains_cons, Bool.or_false, or_true]
    | cons f post =>
      simp only [EV, Nat.reduceEqDiff, Nat.reduceBEq, Nat.reduceLT, Nat.reduceLeDiff, Nat.reduceAdd, Nat.reduceSub, reduceIte]
      refine cK_cut (fun h => ?_) (fun h => ?_)
      rotate_left
      · simp at h; omega
      simp only at p0 p1 p2 p3
      simp only [List.length_cons] at p1 p3
      have h3 : (pre.length : Int) < ((pre ++ f :: post).length : Int) := by simp; omega
      have h4 : pre.length < ((pre ++ f :: post).map Change.c).length := by simp
      have e1 : nth ((pre ++ f :: post).map Change.c) pre.length = f.c := nth_mid
      generalize hR : (pre ++ f :: post).map Change.c = R at h4 e1 ⊢
      have hRl : R.length = l.length := by rw [← hR]; simp; omega
      have h5 : (pre.length : Int) < (R.length : Int) := by omega
      have w0 := w64 ((pre.length : Int) + 1) (by omega)
      have w1 := w64 (n + 1) (by omega)
      have w2 := w64 (n + 1 + 1) (by omega)
      simp only [h4, h5, e1, nth_set h4, List.getElem?_set_self h4, modify_set, Change.c, w1, w2, w0, EV, Nat.reduceEqDiff, Nat.reduceBEq, Nat.reduceLT, Nat.reduceLeDiff, Nat.reduceAdd, Nat.reduceSub, reduceIte]
      refine callK_i (d24 (n) (by omega) (by omega)) ?_
      simp only [h4, h5, e1, nth_set h4, List.getElem?_set_self h4, modify_set, Change.c, w1, w2, w0, EV, Nat.reduceEqDiff, Nat.reduceBEq, Nat.reduceLT, Nat.reduceLeDiff, Nat.reduceAdd, Nat.reduceSub, reduceIte]
      refine ⟨(pre ++ [mkChange n], post, n + 2), ⟨?_, ?_, ?_, ?_⟩, ?_, ?_⟩
      · rw [← p0]; simp [mkChangeS]
      · simp only; omega
      · simp only; omega
      · simp only [List.length_append, List.length_cons, List.length_nil]; omega
      · simp only; omega
      · have e2 := set_mid (g := Change.c) (pre := pre) (post := post) (t := f) (mkChange n)
        rw [hR] at e2
        simp only [Change.c, mkChange] at e2
        simp only [← e2, mkChange, List.length_append, List.length_cons, List.length_nil, Int.add_assoc]
        rfl
def m9 : MC :=
 (.seq (.reg [Xb 4 (.asg (.i 0))]) (.seq (.seq (.reg [Xb 5 (.asg (.i 0))]) (.block 0 (.loop [0, 1, 5] (.seq (.seq (.reg [Xm 6 5, Xm 7 0, Xn 8 7, Xq 9 (.bin false .lss (.t 6) (.t 8))]) (.cond (.t 9) .skip (.exit 0))) (.seq (.block 1 (.seq (.seq (.dreg [Xm 12 0, Xm 13 5, Xi 14 2 12 13, Xf 15 0 14, Xl 16 1 15, Xm 17 1, Xb 18 (.call (.fn 24) false [.lend (.t 17)]), Xq 19 (.bin false .neq (.t 16) (.t
 18))]) (.cond (.t 19) (.seq (.reg [Xb 4 (.asg (.i (-1)))]) .ret) .skip)) (.seq (.reg [Xm 20 1, Xq 21 (.bin false .add (.t 20) (.i 1)), Xa 1 21]) (.seq (.seq (.reg [Xm 22 0, Xm 23 5, Xi 24 2 22 23, Xf 25 1 24, Xl 26 1 25, Xm 27 1, Xq 28 (.bin false .neq (.t 26) (.t 27))]) (.cond (.t 28) (.seq (.reg [Xb 4 (.asg (.i (-1)))]) .ret) .skip)) (.reg [Xm 29 1, Xq 30 (.bin false .add (.t 29) (.i 1)), Xa 1
 30]))))) (.reg [Xm 10 5, Xq 11 (.bin false .add (.t 10) (.i 1)), Xa 5 11])))))) (.seq (.reg [Xm 31 1, Xa 4 31]) .ret)))
theorem d9 (l : List Change) (k : Int) (h0 : 0 ≤ k) (h1 : k + 2 * l.length ≤ 4611686018427387904) :
    Does Go.Proofs.Tryd.prog 9 [.fsl 2 ((mkChangeS l k).map Change.c), .v (.int .i64 k)] false (.v (.int .i64 (k + 2 * l.length))) [.dead, .dead] := by
  have hl : (mkChangeS l k).length = l.length := mkChangeS_len l k
  generalize hM0 : mkChangeS l k = M at hl ⊢
  refine does_intro (mc := m9) (N := 32) (rs := [4]) (fx := []) 2 rfl (by decide +kernel) ?_
  simp only [m9, EV, Nat.reduceEqDiff, Nat.reduceBEq, Nat.reduceLT, Nat.reduceLeDiff, Nat.reduceAdd, Nat.reduceSub, reduceIte]
  refine awp_loop (fun p : List Change × List Change × Int => M = p.1 ++ mkChangeS p.2.1 p.2.2 ∧ p.2.2 + 2 * p.2.1.length = k + 2 * l.length ∧ 0 ≤ p.2.2 ∧ p.1.length + p.2.1.length = l.length)
    (fun p => stl [(0, .fsl 2 (M.map Change.c)), (1, .v (.int .i64 p.2.2)), (5, .v (.int .i64 (p.1.length : Int)))]) (fun p => p.2.1.length) ([], l, k) ⟨by rw [← hM0]; rfl, rfl, h0, by simp⟩ ?_ ?_
  · simp only [EV, Nat.reduceEqDiff, Nat.reduceBEq, Nat.reduceLT, Nat.reduceLeDiff, Nat.reduceAdd, Nat.reduceSub, reduceIte]
    rfl
  · rintro ⟨pre, post, n⟩ ⟨p0, p1, p2, p3⟩
    simp only at p0 p1 p2 p3
    cases post with
    | nil =>
      simp only [EV, Nat.reduceEqDiff, Nat.reduceBEq, Nat.reduceLT, Nat.reduceLeDiff, Nat.reduceAdd, Nat.reduceSub, reduceIte]
      refine cK_cut (fun h => ?_) (fun h => ?_)
      · simp at h p3; omega
      · simp only [EV, Nat.reduceEqDiff, Nat.reduceBEq, Nat.reduceLT, Nat.reduceLeDiff, Nat.reduceAdd, Nat.reduceSub, reduceIte]
        have e : n = k + 2 * l.length := by simp at p1; omega
        simp only [← e, EV, Nat.reduceEqDiff, Nat.reduceBEq, Nat.reduceLT, Nat.reduceLeDiff, Nat.reduceAdd, Nat.reduceSub, reduceIte, evRE, retVC, cellV', evR, nfz, nfzs, nfzss, List.contains_nil, List.contains_cons, Bool.or_false, or_true]
    | cons f post =>
      simp only [EV, Nat.reduceEqDiff, Nat.reduceBEq, Nat.reduceLT, Nat.reduceLeDiff, Nat.reduceAdd, Nat.reduceSub, reduceIte]
      simp only [List.length_cons] at p1 p3
      refine cK_cut (fun h => ?_) (fun h => ?_)
      rotate_left
      · simp at h; omega
      have h5 : (pre.length : Int) < (M.length : Int) := by omega
      have e1 : nth (M.map Change.c) pre.length = Change.c (mkChange n) := by rw [p0]; exact nth_mid
      have w0 := w64 ((pre.length : Int) + 1) (by omega)
      have w1 := w64 (n + 1) (by omega)
      have w2 := w64 (n + 1 + 1) (by omega)
      have q2 : n + 1 + 1 = n + 2 := by omega
      rw [q2] at w2
      simp only [h5, e1, Change.c, mkChange, w1, w2, q2, w0, EV, Nat.reduceEqDiff, Nat.reduceBEq, Nat.reduceLT, Nat.reduceLeDiff, Nat.reduceAdd, Nat.reduceSub, reduceIte]
      refine callD_i (d24 (n) (by omega) (by omega)) rfl ?_
      simp only [h5, e1, Change.c, mkChange, w1, w2, q2, w0, EV, Nat.reduceEqDiff, Nat.reduceBEq, Nat.reduceLT, Nat.reduceLeDiff, Nat.reduceAdd, Nat.reduceSub, reduceIte]
      refine ⟨(pre ++ [mkChange n], post, n + 2), ⟨?_, ?_, ?_, ?_⟩, ?_, ?_⟩
      · rw [p0]; simp [mkChangeS]
      · simp only; omega
      · simp only; omega
      · simp only [List.length_append, List.length_cons, List.length_nil]; omega
      · simp only; omega
      · simp only [List.length_append, List.length_cons, List.length_nil]
        rfl
end Go.AM
namespace Go.AM
set_option linter.unusedVariables false
set_option linter.unusedSimpArgs false
noncomputable def chAt (l : List Change) (i : Nat) (h : i < l.length) : Bool :=
  nameOk l[i].name && (decide (1 ≤ l[i].kind) && decide (l[i].kind ≤ 3)) && !(decide (0 < i) && !(Op.bytesLess (l[i - 1]'(by omega)).name.toList l[i].name.toList))
def chTo (l : List Change) (n : Nat) : Prop := ∀ i (h : i < l.length), i < n → chAt l i h = true
open Classical in
noncomputable def changesOk (l : List Change) : Bool := decide (chTo l l.length ∧ l.length ≤ 32)
theorem chTo_succ {l : List Change} {i : Nat} (h : i < l.length) (h1 : chTo l i) (h2 : chAt l i h = true) : chTo l (i + 1) := by
  intro j hj hji
  by_cases e : j = i
  · subst e; exact h2
  · exact h1 j hj (by omega)
theorem changesOk_no {l : List Change} {i : Nat} (h : i < l.length) (h2 : chAt l i h = false) : changesOk l = false := by
  simp only [changesOk, decide_eq_false_iff_not]
  rintro ⟨h1, _⟩
  have := h1 i h h
  rw [h2] at this; cases this
theorem changesOk_yes {l : List Change} (h : chTo l l.length) : changesOk l = decide ((l.length : Int) ≤ 32) := by
  have e2 : decide ((l.length : Int) ≤ 32) = decide (l.length ≤ 32) := by congr 1; apply propext; omega
  simp [changesOk, h, e2]
theorem w64_pred {i : Nat} (h : 0 < i) (h2 : (i : Int) ≤ 9223372036854775807) : IntKind.i64.wrap ((i : Int) - 1) = ((i - 1 : Nat) : Int) := by
  rw [w64 _ (by omega)]; omega
def m17 : MC :=
 (.seq (.reg [Xb 2 (.asg .fb)]) (.seq (.seq (.reg [Xm 5 0, Xn 6 5, Xq 7 (.mov (.i 0))]) (.block 0 (.loop [0, 5, 6, 7] (.seq (.reg [Xq 8 (.bin false .lss (.t 7) (.t 6))]) (.seq (.cond (.t 8) .skip (.exit 0)) (.seq (.block 1 (.seq (.reg [Xm 9 7, Xi 10 2 5 7, XL 11 2 10, Xb 4 (.alloc 37 [.z, .i]), Xa 3 9, Xz (.store 2 (.t 4) (.t 11))]) (.seq (.dreg [Xf 12 0 4, Xl 13 1 12, Xb 14 (.call (.fn 28) false
 [.lend (.t 13)]), Xq 15 (.un .not (.t 14)), Xm 16 15, Xu 17 16 (.fad 1 (.t 4)), Xu 18 16 (.load false 1 (.t 17)), XU 19 16 (.call (.fn 29) false [.lend (.t 18), .lend (.i 1), .lend (.i 3)]), Xu 20 16 (.un .not (.t 19)), Xq 21 (.pick (.t 16) .tb (.t 20)), Xm 22 21, Xu 23 22 (.mov (.t 3)), Xu 24 22 (.bin false .gtr (.t 23) (.i 0)), Xu 25 22 (.mov (.t 24)), Xt 26 25 (.mov (.t 0)), Xt 27 25 (.mov (.t
 3)), Xt 28 25 (.bin false .sub (.t 27) (.i 1)), Xt 29 25 (.iad 2 (.t 26) (.t 28)), Xt 30 25 (.fad 0 (.t 29)), Xt 31 25 (.load false 1 (.t 30)), Xt 32 25 (.fad 0 (.t 4)), Xt 33 25 (.load false 1 (.t 32)), Xt 34 25 (.bin false .geq (.t 31) (.t 33)), Xu 35 22 (.pick (.t 25) (.t 34) .fb), Xq 36 (.pick (.t 22) .tb (.t 35))]) (.cond (.t 36) (.seq (.reg [Xb 2 (.asg .fb)]) .ret) .skip)))) (.reg [Xq 37
 (.bin false .add (.t 7) (.i 1)), Xm 7 37]))))))) (.seq (.reg [Xm 38 0, Xn 39 38, Xq 40 (.bin false .leq (.t 39) (.i 32)), Xa 2 40]) .ret)))
set_option maxRecDepth 100000 in
theorem d17 (l : List Change) (hl : l.length < 9223372036854775807) (hs : ∀ s ∈ l, s.ok) : Does Go.Proofs.Tryd.prog 17 [.fsl 2 (l.map Change.c)] false (.v (.bool (changesOk l))) [.dead] := by
  refine does_intro (mc := m17) (N := 41) (rs := [2]) (fx := []) 1 rfl (by decide +kernel) ?_
  simp only [m17, EV, Nat.reduceEqDiff, Nat.reduceBEq, Nat.reduceLT, Nat.reduceLeDiff, Nat.reduceAdd, Nat.reduceSub, reduceIte]
  refine awp_loop (fun i : Nat => i ≤ l.length ∧ chTo l i) (fun i => stl [(0, .fsl 2 (l.map Change.c)), (5, .fsl 2 (l.map Change.c)), (6, .v (.int .i64 (l.length : Int))), (7, .v (.int .i64 (i : Int)))]) (fun i => l.length - i) 0 ⟨Nat.zero_le _, fun j hj h => absurd h (by omega)⟩ ?_ ?_
  · simp only [EV, Nat.reduceEqDiff, Nat.reduceBEq, Nat.reduceLT, Nat.reduceLeDiff, Nat.reduceAdd, Nat.reduceSub, reduceIte]
    rfl
  · rintro i ⟨hi, hok⟩
    simp only [EV, Nat.reduceEqDiff, Nat.reduceBEq, Nat.reduceLT, Nat.reduceLeDiff, Nat.reduceAdd, Nat.reduceSub, reduceIte]
    refine cK_cut (fun h => ?_) (fun h => ?_)
    · have h1 : i < l.length := by simpa using h
      have h2 : (i : Int) < (l.length : Int) := by omega
      have hso := hs l[i] (List.getElem_mem h1)
      simp only [Change.ok] at hso
      simp only [ChangeE, nth_map h1, h2, Change.c, EV, Nat.reduceEqDiff, Nat.reduceBEq, Nat.reduceLT, Nat.reduceLeDiff, Nat.reduceAdd, Nat.reduceSub, reduceIte]
      repeat' (first
    | (refine gK_cut (fun h => ?_) (fun h => ?_) <;> simp only [h, h2, EV, Nat.reduceEqDiff, Nat.reduceBEq, Nat.reduceLT, Nat.reduceLeDiff, Nat.reduceAdd, Nat.reduceSub, reduceIte])
    | (refine cK_cut (fun h => ?_) (fun h => ?_) <;> simp only [h, h2, EV, Nat.reduceEqDiff, Nat.reduceBEq, Nat.reduceLT, Nat.reduceLeDiff, Nat.reduceAdd, Nat.reduceSub, reduceIte])
    | (refine callD_i (d28 _ hso.1) rfl ?_ <;> simp only [h, h2, EV, Nat.reduceEqDiff, Nat.reduceBEq, Nat.reduceLT, Nat.reduceLeDiff, Nat.reduceAdd, Nat.reduceSub, reduceIte])
    | (refine callD_i (d29 _ _ _) rfl ?_ <;> simp only [h, h2, EV, Nat.reduceEqDiff, Nat.reduceBEq, Nat.reduceLT, Nat.reduceLeDiff, Nat.reduceAdd, Nat.reduceSub, reduceIte]))
      · simp only [changesOk_no h1 (by simp_all [chAt]), EV, Nat.reduceEqDiff, Nat.reduceBEq, Nat.reduceLT, Nat.reduceLeDiff, Nat.reduceAdd, Nat.reduceSub, reduceIte, evRE, retVC, cellV', evR, nfz, nfzs, nfzss, List.contains_nil, List.contains_cons, Bool.or_false, or_true]
      · have hk : (decide (1 ≤ l[i].kind) && decide (l[i].kind ≤ 3)) = false := by
          revert h; cases (decide (1 ≤ l[i].kind) && decide (l[i].kind ≤ 3)) <;> simp
        simp only [changesOk_no h1 (by simp only [chAt, hk]; simp), EV, Nat.reduceEqDiff, Nat.reduceBEq, Nat.reduceLT, Nat.reduceLeDiff, Nat.reduceAdd, Nat.reduceSub, reduceIte, evRE, retVC, cellV', evR, nfz, nfzs, nfzss, List.contains_nil, List.contains_cons, Bool.or_false, or_true]
      · rename_i hn hk
        have hp : 0 < i := by simpa using h
        have h7 : ((i - 1 : Nat) : Int) < (l.length : Int) := by omega
        have h8 : i - 1 < l.length := by omega
        simp only [w64_pred hp (by omega), nth_map h8, h7, Change.c, EV, Nat.reduceEqDiff, Nat.reduceBEq, Nat.reduceLT, Nat.reduceLeDiff, Nat.reduceAdd, Nat.reduceSub, reduceIte]
        refine cK_cut (fun h => ?_) (fun h => ?_)
        · simp only [EV, Nat.reduceEqDiff, Nat.reduceBEq, Nat.reduceLT, Nat.reduceLeDiff, Nat.reduceAdd, Nat.reduceSub, reduceIte]
          have hc : chAt l i h1 = false := by simp only [chAt, hp, h]; simp
          simp only [changesOk_no h1 hc, EV, Nat.reduceEqDiff, Nat.reduceBEq, Nat.reduceLT, Nat.reduceLeDiff, Nat.reduceAdd, Nat.reduceSub, reduceIte, evRE, retVC, cellV', evR, nfz, nfzs, nfzss, List.contains_nil, List.contains_cons, Bool.or_false, or_true]
        · simp only [EV, Nat.reduceEqDiff, Nat.reduceBEq, Nat.reduceLT, Nat.reduceLeDiff, Nat.reduceAdd, Nat.reduceSub, reduceIte]
          rw [w64 _ (by omega)]
          have hc : chAt l i h1 = true := by simp only [chAt, hp, h]; simp_all
          exact ⟨i + 1, ⟨by omega, chTo_succ h1 hok hc⟩, by omega, rfl⟩
      · have hp : ¬ 0 < i := by simpa using h
        rw [w64 _ (by omega)]
        have hc : chAt l i h1 = true := by simp only [chAt, hp]; simp_all
        exact ⟨i + 1, ⟨by omega, chTo_succ h1 hok hc⟩, by omega, rfl⟩
    · have h1 : i = l.length := by have : ¬ (i : Int) < l.length := by simpa using h
                                   omega
      subst h1
      simp only [EV, Nat.reduceEqDiff, Nat.reduceBEq, Nat.reduceLT, Nat.reduceLeDiff, Nat.reduceAdd, Nat.reduceSub, reduceIte]
      simp only [changesOk_yes hok, EV, Nat.reduceEqDiff, Nat.reduceBEq, Nat.reduceLT, Nat.reduceLeDiff, Nat.reduceAdd, Nat.reduceSub, reduceIte, evRE, retVC, cellV', evR, nfz, nfzs, nfzss, List.contains_nil, List.contains_cons, Bool.or_false, or_true]
def m21 : MC :=
 (.seq (.reg [Xb 2 (.asg .fb)]) (.seq (.seq (.reg [Xm 5 0, Xn 6 5, Xq 7 (.mov (.i 0))]) (.block 0 (.loop [0, 5, 6, 7] (.seq (.reg [Xq 8 (.bin false .lss (.t 7) (.t 6))]) (.seq (.cond (.t 8) .skip (.exit 0)) (.seq (.block 1 (.seq (.reg [Xm 9 7, Xi 10 2 5 7, XL 11 2 10, Xb 4 (.alloc 37 [.z, .i]), Xa 3 9, Xz (.store 2 (.t 4) (.t 11))]) (.seq (.dreg [Xf 12 0 4, Xl 13 1 12, Xb 14 (.call (.fn 33) false
 [.lend (.t 13)]), Xq 15 (.un .not (.t 14)), Xm 16 15, Xu 17 16 (.fad 1 (.t 4)), Xu 18 16 (.load false 1 (.t 17)), XU 19 16 (.call (.fn 34) false [.lend (.t 18), .lend (.i 1), .lend (.i 3)]), Xu 20 16 (.un .not (.t 19)), Xq 21 (.pick (.t 16) .tb (.t 20)), Xm 22 21, Xu 23 22 (.mov (.t 3)), Xu 24 22 (.bin false .gtr (.t 23) (.i 0)), Xu 25 22 (.mov (.t 24)), Xt 26 25 (.mov (.t 0)), Xt 27 25 (.mov (.t
 3)), Xt 28 25 (.bin false .sub (.t 27) (.i 1)), Xt 29 25 (.iad 2 (.t 26) (.t 28)), Xt 30 25 (.fad 0 (.t 29)), Xt 31 25 (.load false 1 (.t 30)), Xt 32 25 (.fad 0 (.t 4)), Xt 33 25 (.load false 1 (.t 32)), Xt 34 25 (.bin false .geq (.t 31) (.t 33)), Xu 35 22 (.pick (.t 25) (.t 34) .fb), Xq 36 (.pick (.t 22) .tb (.t 35))]) (.cond (.t 36) (.seq (.reg [Xb 2 (.asg .fb)]) .ret) .skip)))) (.reg [Xq 37
 (.bin false .add (.t 7) (.i 1)), Xm 7 37]))))))) (.seq (.reg [Xm 38 0, Xn 39 38, Xq 40 (.bin false .leq (.t 39) (.i 32)), Xa 2 40]) .ret)))
set_option maxRecDepth 100000 in
theorem d21 (l : List Change) (hl : l.length < 9223372036854775807) (hs : ∀ s ∈ l, s.ok) : Does Go.Proofs.Tryd.prog 21 [.fsl 2 (l.map Change.c)] false (.v (.bool (changesOk l))) [.dead] := by
  refine does_intro (mc := m21) (N := 41) (rs := [2]) (fx := []) 1 rfl (by decide +kernel) ?_
  simp only [m21, EV, Nat.reduceEqDiff, Nat.reduceBEq, Nat.reduceLT, Nat.reduceLeDiff, Nat.reduceAdd, Nat.reduceSub, reduceIte]
  refine awp_loop (fun i : Nat => i ≤ l.length ∧ chTo l i) (fun i => stl [(0, .fsl 2 (l.map Change.c)), (5, .fsl 2 (l.map Change.c)), (6, .v (.int .i64 (l.length : Int))), (7, .v (.int .i64 (i : Int)))]) (fun i => l.length - i) 0 ⟨Nat.zero_le _, fun j hj h => absurd h (by omega)⟩ ?_ ?_
  · simp only [EV, Nat.reduceEqDiff, Nat.reduceBEq, Nat.reduceLT, Nat.reduceLeDiff, Nat.reduceAdd, Nat.reduceSub, reduceIte]
    rfl
  · rintro i ⟨hi, hok⟩
    simp only [EV, Nat.reduceEqDiff, Nat.reduceBEq, Nat.reduceLT, Nat.reduceLeDiff, Nat.reduceAdd, Nat.reduceSub, reduceIte]
    refine cK_cut (fun h => ?_) (fun h => ?_)
    · have h1 : i < l.length := by simpa using h
      have h2 : (i : Int) < (l.length : Int) := by omega
      have hso := hs l[i] (List.getElem_mem h1)
      simp only [Change.ok] at hso
      simp only [ChangeE, nth_map h1, h2, Change.c, EV, Nat.reduceEqDiff, Nat.reduceBEq, Nat.reduceLT, Nat.reduceLeDiff, Nat.reduceAdd, Nat.reduceSub, reduceIte]
      repeat' (first
    | (refine gK_cut (fun h => ?_) (fun h => ?_) <;> simp only [h, h2, EV, Nat.reduceEqDiff, Nat.reduceBEq, Nat.reduceLT, Nat.reduceLeDiff, Nat.reduceAdd, Nat.reduceSub, reduceIte])
    | (refine cK_cut (fun h => ?_) (fun h => ?_) <;> simp only [h, h2, EV, Nat.reduceEqDiff, Nat.reduceBEq, Nat.reduceLT, Nat.reduceLeDiff, Nat.reduceAdd, Nat.reduceSub, reduceIte])
    | (refine callD_i (d33 _ hso.1) rfl ?_ <;> simp only [h, h2, EV, Nat.reduceEqDiff, Nat.reduceBEq, Nat.reduceLT, Nat.reduceLeDiff, Nat.reduceAdd, Nat.reduceSub, reduceIte])
    | (refine callD_i (d34 _ _ _) rfl ?_ <;> simp only [h, h2, EV, Nat.reduceEqDiff, Nat.reduceBEq, Nat.reduceLT, Nat.reduceLeDiff, Nat.reduceAdd, Nat.reduceSub, reduceIte]))
      · simp only [changesOk_no h1 (by simp_all [chAt]), EV, Nat.reduceEqDiff, Nat.reduceBEq, Nat.reduceLT, Nat.reduceLeDiff, Nat.reduceAdd, Nat.reduceSub, reduceIte, evRE, retVC, cellV', evR, nfz, nfzs, nfzss, List.contains_nil, List.contains_cons, Bool.or_false, or_true]
      · have hk : (decide (1 ≤ l[i].kind) && decide (l[i].kind ≤ 3)) = false := by
          revert h; cases (decide (1 ≤ l[i].kind) && decide (l[i].kind ≤ 3)) <;> simp
        simp only [changesOk_no h1 (by simp only [chAt, hk]; simp), EV, Nat.reduceEqDiff, Nat.reduceBEq, Nat.reduceLT, Nat.reduceLeDiff, Nat.reduceAdd, Nat.reduceSub, reduceIte, evRE, retVC, cellV', evR, nfz, nfzs, nfzss, List.contains_nil, List.contains_cons, Bool.or_false, or_true]
      · rename_i hn hk
        have hp : 0 < i := by simpa using h
        have h7 : ((i - 1 : Nat) : Int) < (l.length : Int) := by omega
        have h8 : i - 1 < l.length := by omega
        simp only [w64_pred hp (by omega), nth_map h8, h7, Change.c, EV, Nat.reduceEqDiff, Nat.reduceBEq, Nat.reduceLT, Nat.reduceLeDiff, Nat.reduceAdd, Nat.reduceSub, reduceIte]
        refine cK_cut (fun h => ?_) (fun h => ?_)
        · simp only [EV, Nat.reduceEqDiff, Nat.reduceBEq, Nat.reduceLT, Nat.reduceLeDiff, Nat.reduceAdd, Nat.reduceSub, reduceIte]
          have hc : chAt l i h1 = false := by simp only [chAt, hp, h]; simp
          simp only [changesOk_no h1 hc, EV, Nat.reduceEqDiff, Nat.reduceBEq, Nat.reduceLT, Nat.reduceLeDiff, Nat.reduceAdd, Nat.reduceSub, reduceIte, evRE, retVC, cellV', evR, nfz, nfzs, nfzss, List.contains_nil, List.contains_cons, Bool.or_false, or_true]
        · simp only [EV, Nat.reduceEqDiff, Nat.reduceBEq, Nat.reduceLT, Nat.reduceLeDiff, Nat.reduceAdd, Nat.reduceSub, reduceIte]
          rw [w64 _ (by omega)]
          have hc : chAt l i h1 = true := by simp only [chAt, hp, h]; simp_all
          exact ⟨i + 1, ⟨by omega, chTo_succ h1 hok hc⟩, by omega, rfl⟩
      · have hp : ¬ 0 < i := by simpa using h
        rw [w64 _ (by omega)]
        have hc : chAt l i h1 = true := by simp only [chAt, hp]; simp_all
        exact ⟨i + 1, ⟨by omega, chTo_succ h1 hok hc⟩, by omega, rfl⟩
    · have h1 : i = l.length := by have : ¬ (i : Int) < l.length := by simpa using h
                                   omega
      subst h1
      simp only [EV, Nat.reduceEqDiff, Nat.reduceBEq, Nat.reduceLT, Nat.reduceLeDiff, Nat.reduceAdd, Nat.reduceSub, reduceIte]
      simp only [changesOk_yes hok, EV, Nat.reduceEqDiff, Nat.reduceBEq, Nat.reduceLT, Nat.reduceLeDiff, Nat.reduceAdd, Nat.reduceSub, reduceIte, evRE, retVC, cellV', evR, nfz, nfzs, nfzss, List.contains_nil, List.contains_cons, Bool.or_false, or_true]
end Go.AM
namespace Go.AM
set_option linter.unusedVariables false
set_option linter.unusedSimpArgs false
structure Str where
  s : ByteArray
def Str.c (s : Str) : List AV := [.v (.string s.s)]
theorem StrE : (∀ f : Str, f.c.length = 1) ∧ (∀ f : Str, f.c.take 1 = f.c) ∧ (∀ (st : St) (f : Str), frzBs st f.c = f.c) ∧ (∀ f : Str, bares f.c = true) ∧ (∀ f : Str, plains f.c = true) ∧ (∀ f : Str, frzRow f.c = f.c) ∧ (∀ (f : Str) (K : Nat → List (Nat × Nat) → Bool), killVs K f.c = f.c) ∧ (∀ (f : Str) (n : Nat) (p : List (Nat × Nat)) (i : Nat), brws n p i 0 f.c = f.c) ∧ (∀ f : Str, f.c.all storL = true) ∧ (∀ (f : Str) (l : List AV), l.length = 1 → ovw l 0 f.c = f.c) :=
  ⟨fun _ => rfl, fun _ => rfl, fun _ _ => rfl, fun _ => rfl, fun _ => rfl, fun _ => rfl, fun _ _ => rfl, fun _ _ _ _ => rfl, fun _ => rfl, fun f l h => ovw_all (by rw [h]; rfl)⟩
theorem Str.nfz : ∀ l : List Str, nfzss (l.map Str.c) = true
  | [] => rfl
  | s :: l => by simp only [List.map_cons, nfzss, Str.nfz l]; rfl
theorem Str.frz : ∀ l : List Str, frzRows (l.map Str.c) = l.map Str.c
  | [] => rfl
  | s :: l => by simp [frzRows, StrE, Str.frz l]
end Go.AM
set_option linter.unusedVariables false
set_option linter.unusedSimpArgs false
namespace Go.Proofs
open Go.Shelf Go.RowKit
shelf_lay Lays.n156 Nm 156 at Tryd as Tryd.laysJoin
theorem Tryd.extraJoin : Builder.Extra Tryd.prog Tryd.laysJoin_ren where
  sizeBuilder := by kernel_rfl
  liesBuilder := by kernel_rfl
  t5 := Tryd.underlying5
  a5 := Tryd.isAgg5
  z5 := Tryd.sizeOf5
  v5 := Tryd.zeroValue5
  infoByte := by kernel_rfl
  cellsByte := by kernel_rfl
  sizeByte := by kernel_rfl
  neB5 := by decide
end Go.Proofs
namespace Go.AM
theorem str_cells {w : World} {Fz : Nat → Prop} : ∀ {l : List Str} {xs : List Value}, RepRows w Fz 1 (l.map Str.c) xs [] → xs = l.map fun s => Value.string s.s
  | [], xs, h => by simp only [List.map_nil, RepRows] at h; rw [h.1]; rfl
  | s :: l, xs, h => by
    simp only [List.map_cons, RepRows] at h
    obtain ⟨x1, x2, o1, o2, rfl, ho, hl, h1, h2⟩ := h
    obtain ⟨rfl, rfl⟩ : o1 = [] ∧ o2 = [] := by simpa using ho.symm
    simp only [Str.c, RepRow, RepC] at h1
    obtain ⟨x, xs', p1, p2, rfl, _, hc, rfl, _⟩ := h1
    rw [hc.1, str_cells h2]
    rfl
theorem d35 (l : List Str) (sep : ByteArray) (hl : (l.length : Int) ≤ 1048576) (hs : (Lib.join (l.map (·.s.data.toList)) sep.data.toList).length ≤ 140737488355328) : Does Go.Proofs.Tryd.prog 35 [.fsl 1 (l.map Str.c), .v (.string sep)] false (.v (.string ⟨(Lib.join (l.map (·.s.data.toList)) sep.data.toList).toArray⟩)) [.dead, .dead] := by
  refine ⟨by decide +kernel, ?_⟩
  intro w Fz xs os hrep hos hfz hlt
  simp only [RepVs, RepV, RepC] at hrep
  obtain ⟨x, xs', o1, o2, rfl, rfl, ⟨rfl, A, c, rfl, hc, hcase⟩, y, ys, p1, p2, rfl, rfl, ⟨rfl, _, rfl⟩, rfl, rfl⟩ := hrep
  rw [List.length_map] at *
  have key : Calls Go.Proofs.Tryd.prog 35 #[.slice A l.length c, .string sep] w fun e w' => e = .returned (.string ⟨(Lib.join (l.map (·.s.data.toList)) sep.data.toList).toArray⟩) ∧ Go.RowKit.Below w.heap.size w w' := by
    rcases hcase with hnil | ⟨g, h, ys, rfl, hg, hrows, hat⟩
    · have hl0 : l = [] := by simpa using hnil
      subst hl0
      refine (Go.Proofs.Any.strings_Join_none Go.Proofs.Tryd.laysJoin Go.Proofs.Tryd.extraJoin A c sep w).mono ?_
      rintro e w' ⟨rfl, rfl⟩
      exact ⟨rfl, Go.RowKit.Below.refl _ _⟩
    · have hys := str_cells hrows
      subst hys
      have e := Go.Proofs.Any.strings_Join Go.Proofs.Tryd.laysJoin Go.Proofs.Tryd.extraJoin g h c (l.map Str.s) sep w ?_ (hlt g hg) (by simp; omega) (by simpa using hc) (by rw [List.map_map]; exact hs)
      · simp only [List.length_map, List.map_map] at e
        exact e
      · intro j x hj
        refine hat j _ ?_
        simp only [List.getElem?_map] at hj ⊢
        cases hlj : l[j]? with
        | none => rw [hlj] at hj; simp at hj
        | some s => rw [hlj] at hj; simp at hj; simp [hj]
  refine key.mono ?_
  rintro e w' ⟨rfl, bel⟩
  refine ⟨_, [], [], rfl, ⟨bel.os, bel.tape, bel.output, bel.size, fun b hb _ => bel.block b hb⟩, by simp [RepV, RepC, Value.oneCell'], ?_, by simp, by simp⟩
  simp only [RepVs, RepV]
  exact ⟨_, _, [], [], rfl, rfl, rfl, _, _, [], [], rfl, rfl, rfl, rfl, rfl⟩
end Go.AM
namespace Go.AM
set_option linter.unusedVariables false
set_option linter.unusedSimpArgs false
def sign (k : Int) : ByteArray := if k = 1 then ⟨#[43]⟩ else if k = 2 then ⟨#[45]⟩ else ⟨#[33]⟩
def chW (x : Change) : ByteArray := sign x.kind ++ x.name
def chS (x : Change) : Str := ⟨chW x⟩
def txStep (p : ByteArray × Bool) (x : Change) : ByteArray × Bool := ((if p.2 then p.1 ++ ⟨#[32]⟩ else p.1) ++ chW x, true)
def chText (l : List Change) : ByteArray := (l.foldl txStep (⟨#[]⟩, false)).1
theorem sign_size (k : Int) : (sign k).size = 1 := by
  unfold sign
  split
  · rfl
  · split <;> rfl
theorem chW_size (x : Change) : (chW x).size = 1 + x.name.size := by rw [chW, ByteArray.size_append, sign_size]
theorem tx_take {l : List Change} {i : Nat} (h : i < l.length) (p : ByteArray × Bool) : (l.take (i + 1)).foldl txStep p = txStep ((l.take i).foldl txStep p) l[i] := by
  rw [List.take_succ_eq_append_getElem h, List.foldl_append]; rfl
theorem tx_snd : ∀ (l : List Change) (p : ByteArray × Bool), (l.foldl txStep p).2 = (p.2 || !l.isEmpty)
  | [], p => by simp
  | x :: l, p => by rw [List.foldl_cons, tx_snd l]; simp [txStep]
def Change.small (s : Change) : Prop := s.ok ∧ (s.name.size : Int) ≤ 1048576 ∧ 1 ≤ s.kind ∧ s.kind ≤ 3
theorem cut4 {k : Int} (h1 : 1 ≤ k) (h2 : k ≤ 3) : (⟨#[63, 43, 45, 33]⟩ : ByteArray).extract k.toNat (k + 1).toNat = sign k := by
  have : k = 1 ∨ k = 2 ∨ k = 3 := by omega
  rcases this with rfl | rfl | rfl <;> rfl
theorem cut3 {k : Int} (h1 : 1 ≤ k) (h2 : k ≤ 3) : (⟨#[43, 45, 33]⟩ : ByteArray).extract (k - 1).toNat k.toNat = sign k := by
  have : k = 1 ∨ k = 2 ∨ k = 3 := by omega
  rcases this with rfl | rfl | rfl <;> rfl
def m18 : MC :=
 (.seq (.reg [Xb 2 (.asg (.z #[]))]) (.seq (.reg [Xb 3 (.asg (.z #[]))]) (.seq (.seq (.reg [Xm 6 0, Xn 7 6, Xq 8 (.mov (.i 0))]) (.block 0 (.loop [0, 3, 6, 7, 8] (.seq (.reg [Xq 9 (.bin false .lss (.t 8) (.t 7))]) (.seq (.cond (.t 9) .skip (.exit 0)) (.join [0, 3, 6, 7, 8] (.block 1 (.seq (.reg [Xm 10 8, Xi 11 2 6 8, XL 12 2 11, Xb 5 (.alloc 37 [.z, .i]), Xa 4 10, Xz (.store 2 (.t 5) (.t 12))])
 (.join [0, 3, 5, 6, 7, 8] (.seq (.reg [Xm 13 4, Xq 14 (.bin false .gtr (.t 13) (.i 0))]) (.cond (.t 14) (.reg [Xm 15 3, Xq 16 (.bin false .add (.t 15) (.z #[32])), Xa 3 16]) .skip)) (.dreg [Xm 17 3, Xf 18 1 5, Xl 19 1 18, Xf 20 1 5, Xl 21 1 20, Xq 22 (.bin false .add (.t 21) (.i 1)), Xq 23 (.slc true 1 (.z #[63, 43, 45, 33]) (some (.t 19)) (some (.t 22))), Xf 24 0 5, Xl 25 1 24, Xq 26 (.bin false
 .add (.t 23) (.t 25)), Xq 27 (.bin false .add (.t 17) (.t 26)), Xm 3 27])))) (.reg [Xq 28 (.bin false .add (.t 8) (.i 1)), Xm 8 28]))))))) (.seq (.reg [Xm 29 3, Xa 2 29]) .ret))))
set_option maxRecDepth 100000 in
theorem d18 (l : List Change) (hl : (l.length : Int) ≤ 1048576) (hs : ∀ s ∈ l, s.small) : Does Go.Proofs.Tryd.prog 18 [.fsl 2 (l.map Change.c)] false (.v (.string (chText l))) [.dead] := by
  refine does_intro (mc := m18) (N := 30) (rs := [2]) (fx := []) 1 rfl (by decide +kernel) ?_
  simp only [m18, EV, Nat.reduceEqDiff, Nat.reduceBEq, Nat.reduceLT, Nat.reduceLeDiff, Nat.reduceAdd, Nat.reduceSub, reduceIte]
  refine awp_loop (fun p : Nat × ByteArray => p.1 ≤ l.length ∧ p.2 = ((l.take p.1).foldl txStep (⟨#[]⟩, false)).1 ∧ (p.2.size : Int) ≤ p.1 * 1048578) (fun p => stl [(0, .fsl 2 (l.map Change.c)), (3, .v (.string p.2)), (6, .fsl 2 (l.map Change.c)), (7, .v (.int .i64 (l.length : Int))), (8, .v (.int .i64 (p.1 : Int)))]) (fun p => l.length - p.1) (0, ⟨#[]⟩) ⟨by simp, rfl, by simp only; decide⟩ ?_ ?_
  · simp only [EV, Nat.reduceEqDiff, Nat.reduceBEq, Nat.reduceLT, Nat.reduceLeDiff, Nat.reduceAdd, Nat.reduceSub, reduceIte]
    rfl
  · rintro ⟨i, acc⟩ ⟨p0, p1, p2⟩
    simp only at p0 p1 p2
    simp only [EV, Nat.reduceEqDiff, Nat.reduceBEq, Nat.reduceLT, Nat.reduceLeDiff, Nat.reduceAdd, Nat.reduceSub, reduceIte]
    refine cK_cut (fun h => ?_) (fun h => ?_)
    · have h1 : i < l.length := by simpa using h
      have h2 : (i : Int) < (l.length : Int) := by omega
      obtain ⟨hok, g1, g2, g3⟩ := hs l[i] (List.getElem_mem h1)
      have hst := tx_take h1 (⟨#[]⟩, false)
      have hsnd := tx_snd (l.take i) (⟨#[]⟩, false)
      have hcw := chW_size l[i]
      generalize (l.take i).foldl txStep (⟨#[]⟩, false) = pr at p1 hst hsnd
      subst p1
      have hb : pr.2 = decide (0 < i) := by
        rw [hsnd]
        cases i with
        | zero => rfl
        | succ i =>
          have h3 : (l.take (i + 1)).isEmpty = false := by
            cases l with
            | nil => simp at h1
            | cons x r => rfl
          simp [h3]
      refine awp_join (fun _ : Unit => True) (fun _ => stl [(0, .fsl 2 (l.map Change.c)), (3, .v (.string (txStep pr l[i]).1)), (6, .fsl 2 (l.map Change.c)), (7, .v (.int .i64 (l.length : Int))), (8, .v (.int .i64 (i : Int)))]) ?_ ?_
      · simp only [ChangeE, nth_map h1, h2, EV, Nat.reduceEqDiff, Nat.reduceBEq, Nat.reduceLT, Nat.reduceLeDiff, Nat.reduceAdd, Nat.reduceSub, reduceIte]
        refine awp_join (fun _ : Unit => True) (fun _ => stl [(0, .fsl 2 (l.map Change.c)), (3, .v (.string (if pr.2 then pr.1 ++ ⟨#[32]⟩ else pr.1))), (5, .box 37 l[i].c), (6, .fsl 2 (l.map Change.c)), (7, .v (.int .i64 (l.length : Int))), (8, .v (.int .i64 (i : Int)))]) ?_ ?_
        · simp only [Change.c, EV, Nat.reduceEqDiff, Nat.reduceBEq, Nat.reduceLT, Nat.reduceLeDiff, Nat.reduceAdd, Nat.reduceSub, reduceIte]
          refine cK_cut (fun h3 => ?_) (fun h3 => ?_)
          · have hb2 : pr.2 = true := by rw [hb]; simpa using h3
            simp only [EV, Nat.reduceEqDiff, Nat.reduceBEq, Nat.reduceLT, Nat.reduceLeDiff, Nat.reduceAdd, Nat.reduceSub, reduceIte]
            have e32 : ((⟨#[32]⟩ : ByteArray).size : Nat) = 1 := rfl
            refine ⟨by rw [e32]; omega, (), ?_⟩
            rw [if_pos hb2]
            try rfl
          · have hb2 : pr.2 = false := by rw [hb]; simpa using h3
            simp only [EV, Nat.reduceEqDiff, Nat.reduceBEq, Nat.reduceLT, Nat.reduceLeDiff, Nat.reduceAdd, Nat.reduceSub, reduceIte]
            refine ⟨(), ?_⟩
            rw [hb2]
            try rfl
        · rintro _ _
          have w := w64 (l[i].kind + 1) (by omega)
          have hz1 : (if pr.2 = true then pr.1 ++ (⟨#[32]⟩ : ByteArray) else pr.1).size ≤ pr.1.size + 1 := by
            have e32 : ((⟨#[32]⟩ : ByteArray).size : Nat) = 1 := rfl
            split
            · rw [ByteArray.size_append, e32]; omega
            · omega
          have hz2 : (sign l[i].kind).size = 1 := sign_size _
          simp only [Change.c, w, cut4 g2 g3, EV, Nat.reduceEqDiff, Nat.reduceBEq, Nat.reduceLT, Nat.reduceLeDiff, Nat.reduceAdd, Nat.reduceSub, reduceIte]
          have e4 : ((⟨#[63, 43, 45, 33]⟩ : ByteArray).size : Nat) = 4 := rfl
          refine ⟨by omega, by omega, by rw [e4]; omega, by omega, by rw [ByteArray.size_append]; omega, (), rfl⟩
      · rintro _ _
        simp only [EV, Nat.reduceEqDiff, Nat.reduceBEq, Nat.reduceLT, Nat.reduceLeDiff, Nat.reduceAdd, Nat.reduceSub, reduceIte]
        rw [w64 _ (by omega)]
        refine ⟨(i + 1, (txStep pr l[i]).1), ⟨by simp only; omega, ?_, ?_⟩, by simp only; omega, rfl⟩
        · simp only; rw [hst]
        · have e32 : ((⟨#[32]⟩ : ByteArray).size : Nat) = 1 := rfl
          simp only [txStep, ByteArray.size_append, hcw]
          have : ((if pr.2 = true then pr.1 ++ (⟨#[32]⟩ : ByteArray) else pr.1).size : Int) ≤ pr.1.size + 1 := by
            split
            · rw [ByteArray.size_append, e32]; omega
            · omega
          omega
    · have h1 : i = l.length := by have : ¬ (i : Int) < l.length := by simpa using h
                                   omega
      subst h1
      rw [List.take_length] at p1
      have e : chText l = acc := p1.symm
      simp only [EV, Nat.reduceEqDiff, Nat.reduceBEq, Nat.reduceLT, Nat.reduceLeDiff, Nat.reduceAdd, Nat.reduceSub, reduceIte]
      simp only [e, EV, Nat.reduceEqDiff, Nat.reduceBEq, Nat.reduceLT, Nat.reduceLeDiff, Nat.reduceAdd, Nat.reduceSub, reduceIte, evRE, retVC, cellV', evR, nfz, nfzs, nfzss, List.contains_nil, List.contains_cons, Bool.or_false, or_true]
theorem tx_tail : ∀ (l : List Change) (acc : ByteArray), (l.foldl txStep (acc, true)).1.data.toList = acc.data.toList ++ Lib.joinTail [32] (l.map fun x => (chW x).data.toList)
  | [], acc => by simp [Lib.joinTail]
  | x :: r, acc => by
    have e : txStep (acc, true) x = (acc ++ ⟨#[32]⟩ ++ chW x, true) := rfl
    rw [List.foldl_cons, e, tx_tail r]
    simp [Lib.joinTail, ByteArray.data_append]
theorem chText_join (l : List Change) : (chText l).data.toList = Lib.join (l.map fun x => (chW x).data.toList) [32] := by
  cases l with
  | nil => rfl
  | cons x r =>
    have e : txStep (⟨#[]⟩, false) x = (⟨#[]⟩ ++ chW x, true) := rfl
    rw [chText, List.foldl_cons, e, tx_tail, List.map_cons, Lib.join_cons]
    simp [ByteArray.data_append]
theorem tx_bound : ∀ (l : List Change) (p : ByteArray × Bool), (∀ s ∈ l, s.small) → ((l.foldl txStep p).1.size : Int) ≤ p.1.size + l.length * 1048578
  | [], p, h => by simp
  | x :: r, p, h => by
    have h1 := tx_bound r (txStep p x) (fun s hs => h s (by simp [hs]))
    obtain ⟨_, g1, _⟩ := h x (by simp)
    have h2 := chW_size x
    have e32 : ((⟨#[32]⟩ : ByteArray).size : Nat) = 1 := rfl
    have h3 : ((if p.2 = true then p.1 ++ (⟨#[32]⟩ : ByteArray) else p.1).size : Int) ≤ p.1.size + 1 := by
      split
      · rw [ByteArray.size_append, e32]; omega
      · omega
    rw [List.foldl_cons]
    simp only [txStep, ByteArray.size_append] at h1 ⊢
    simp only [List.length_cons]
    omega
def m22 : MC :=
 (.seq (.reg [Xb 2 (.asg (.z #[]))]) (.seq (.reg [Xb 6 (.bsl 9 1 []), Xa 3 6]) (.seq (.seq (.reg [Xm 7 0, Xn 8 7, Xq 9 (.mov (.i 0))]) (.block 0 (.loop [0, 3, 6, 7, 8, 9, 24] (.seq (.reg [Xq 10 (.bin false .lss (.t 9) (.t 8))]) (.seq (.cond (.t 10) .skip (.exit 0)) (.seq (.block 1 (.seq (.reg [Xi 11 2 7 9, XL 12 2 11, Xb 5 (.alloc 37 [.z, .i]), Xz (.store 2 (.t 5) (.t 12))]) (.mix [5] [0, 3, 6, 7,
 8, 9, 24] [] [] [1, 2, 4, 5, 7, 8] [0, 3, 6, 9, 10, 11, 12] [Xf 14 1 5, Xl 15 1 14, Xf 17 1 5, Xl 18 1 17, Xf 20 0 5, Xl 21 1 20] [Xm 13 3, Xq 16 (.bin false .sub (.t 15) (.i 1)), Xq 19 (.slc true 1 (.z #[43, 45, 33]) (some (.t 16)) (some (.t 18))), Xq 22 (.bin false .add (.t 19) (.t 21)), Xb 23 (.bsl 9 1 [.t 22]), Xb 24 (.app true 9 1 16 (.t 13) (.t 23)), Xa 3 24]))) (.reg [Xq 25 (.bin false .add
 (.t 9) (.i 1)), Xm 9 25]))))))) (.seq (.reg [Xm 26 3, Xb 27 (.call (.fn 35) false [.lend (.t 26), .lend (.z #[32])]), Xa 2 27]) .ret))))
set_option maxRecDepth 100000 in
theorem d22 (l : List Change) (hl : (l.length : Int) ≤ 1048576) (hs : ∀ s ∈ l, s.small) : Does Go.Proofs.Tryd.prog 22 [.fsl 2 (l.map Change.c)] false (.v (.string (chText l))) [.dead] := by
  refine does_intro (mc := m22) (N := 28) (rs := [2]) (fx := []) 1 rfl (by decide +kernel) ?_
  simp only [m22, EV, Nat.reduceEqDiff, Nat.reduceBEq, Nat.reduceLT, Nat.reduceLeDiff, Nat.reduceAdd, Nat.reduceSub, reduceIte]
  refine awp_loop (fun i : Nat => i ≤ l.length) (fun i => stl [(0, .fsl 2 (l.map Change.c)), (3, .usl 9 1 (((l.take i).map chS).map Str.c)), (6, .dead), (7, .fsl 2 (l.map Change.c)), (8, .v (.int .i64 (l.length : Int))), (9, .v (.int .i64 (i : Int))), (24, .dead)]) (fun i => l.length - i) 0 (Nat.zero_le _) ?_ ?_
  · simp only [EV, Nat.reduceEqDiff, Nat.reduceBEq, Nat.reduceLT, Nat.reduceLeDiff, Nat.reduceAdd, Nat.reduceSub, reduceIte]
    rfl
  · intro i hi
    simp only [EV, Nat.reduceEqDiff, Nat.reduceBEq, Nat.reduceLT, Nat.reduceLeDiff, Nat.reduceAdd, Nat.reduceSub, reduceIte]
    refine cK_cut (fun h => ?_) (fun h => ?_)
    · have h1 : i < l.length := by simpa using h
      have h2 : (i : Int) < (l.length : Int) := by omega
      obtain ⟨hok, g1, g2, g3⟩ := hs l[i] (List.getElem_mem h1)
      have w := w64 (l[i].kind - 1) (by omega)
      have e3 := cut3 g2 g3
      have hz : (sign l[i].kind).size = 1 := sign_size _
      have e33 : ((⟨#[43, 45, 33]⟩ : ByteArray).size : Nat) = 3 := rfl
      have htl : (l.take i).length = i := by simp; omega
      have htk : List.take i (((l.take i).map chS).map Str.c) = ((l.take i).map chS).map Str.c := List.take_of_length_le (by simp; omega)
      simp only [ChangeE, nth_map h1, h2, Change.c, w, e3, hz, htl, htk, EV, Nat.reduceEqDiff, Nat.reduceBEq, Nat.reduceLT, Nat.reduceLeDiff, Nat.reduceAdd, Nat.reduceSub, reduceIte]
      refine ⟨by omega, by omega, by rw [e33]; omega, by omega, by omega, by omega, i + 1, by omega, by omega, ?_⟩
      rw [w64 _ (by omega), List.take_succ_eq_append_getElem h1, List.map_append, List.map_append]
      rfl
    · have h1 : i = l.length := by have : ¬ (i : Int) < l.length := by simpa using h
                                   omega
      subst h1
      have htk : List.take l.length ((l.map chS).map Str.c) = (l.map chS).map Str.c := List.take_of_length_le (by simp)
      simp only [htk, Str.frz, EV, Nat.reduceEqDiff, Nat.reduceBEq, Nat.reduceLT, Nat.reduceLeDiff, Nat.reduceAdd, Nat.reduceSub, reduceIte]
      refine callK_i (d35 (l.map chS) ⟨#[32]⟩ (by simpa using hl) ?_) ?_
      · have h5 := tx_bound l (⟨#[]⟩, false) hs
        have h6 := chText_join l
        have e1 : ((l.map chS).map (·.s.data.toList)) = l.map fun x => (chW x).data.toList := by simp [chS]
        have e2 : (⟨#[32]⟩ : ByteArray).data.toList = [32] := rfl
        rw [e1, e2, ← h6]
        have h7 : (chText l).data.toList.length = (chText l).size := by rw [Array.length_toList]; rfl
        rw [h7]
        have h8 : ((⟨#[]⟩ : ByteArray).size : Nat) = 0 := rfl
        simp only [h8] at h5
        show (l.foldl txStep (⟨#[]⟩, false)).1.size ≤ _
        omega
      · simp only [EV, Nat.reduceEqDiff, Nat.reduceBEq, Nat.reduceLT, Nat.reduceLeDiff, Nat.reduceAdd, Nat.reduceSub, reduceIte]
        have e1 : ((l.map chS).map (·.s.data.toList)) = l.map fun x => (chW x).data.toList := by simp [chS]
        have e3 : (⟨(Lib.join (l.map fun x => (chW x).data.toList) [32]).toArray⟩ : ByteArray) = chText l := by
          rw [← chText_join l, Array.toArray_toList]
        simp only [EV, Nat.reduceEqDiff, Nat.reduceBEq, Nat.reduceLT, Nat.reduceLeDiff, Nat.reduceAdd, Nat.reduceSub, reduceIte, evRE, retVC, cellV', evR, nfz, nfzs, nfzss, List.contains_nil, List.contains_cons, Bool.or_false, or_true]
        rw [e1, e3]
end Go.AM
namespace Go.AM
set_option linter.unusedVariables false
set_option linter.unusedSimpArgs false
noncomputable def chTextR (l : List Change) : ByteArray := if changesOk l then chText l else ⟨#[]⟩
theorem ch_small {l : List Change} (h : changesOk l = true) (hs : ∀ s ∈ l, s.ok ∧ (s.name.size : Int) ≤ 1048576) : ∀ s ∈ l, s.small := by
  simp only [changesOk, decide_eq_true_eq] at h
  intro s hm
  obtain ⟨i, hi, rfl⟩ := List.getElem_of_mem hm
  have h1 := h.1 i hi hi
  simp only [chAt, Bool.and_eq_true, decide_eq_true_eq] at h1
  exact ⟨(hs _ hm).1, (hs _ hm).2, h1.1.2.1, h1.1.2.2⟩
def m13 : MC :=
 (.seq (.reg [Xb 2 (.asg (.z #[])), Xb 3 (.asg .fb)]) (.seq (.seq (.reg [Xm 4 0, Xb 5 (.call (.fn 17) false [.lend (.t 4)]), Xq 6 (.un .not (.t 5))]) (.cond (.t 6) (.seq (.reg [Xb 2 (.asg (.z #[])), Xb 3 (.asg .fb)]) .ret) .skip)) (.seq (.reg [Xm 7 0, Xb 8 (.call (.fn 18) false [.lend (.t 7)]), Xa 2 8, Xb 3 (.asg .tb)]) .ret)))
theorem d13 (l : List Change) (hl : (l.length : Int) ≤ 1048576) (hs : ∀ s ∈ l, s.ok ∧ (s.name.size : Int) ≤ 1048576) : Does Go.Proofs.Tryd.prog 13 [.fsl 2 (l.map Change.c)] false (.tup [.v (.string (chTextR l)), .v (.bool (changesOk l))]) [.dead] := by
  refine does_intro (mc := m13) (N := 9) (rs := [2, 3]) (fx := []) 1 rfl (by decide +kernel) ?_
  simp only [m13, EV, Nat.reduceEqDiff, Nat.reduceBEq, Nat.reduceLT, Nat.reduceLeDiff, Nat.reduceAdd, Nat.reduceSub, reduceIte]
  refine callK_i (d17 l (by omega) (fun s h => (hs s h).1)) ?_
  simp only [EV, Nat.reduceEqDiff, Nat.reduceBEq, Nat.reduceLT, Nat.reduceLeDiff, Nat.reduceAdd, Nat.reduceSub, reduceIte]
  refine cK_cut (fun h => ?_) (fun h => ?_)
  · have e : changesOk l = false := by simpa using h
    have e2 : chTextR l = ⟨#[]⟩ := by simp [chTextR, e]
    simp only [EV, Nat.reduceEqDiff, Nat.reduceBEq, Nat.reduceLT, Nat.reduceLeDiff, Nat.reduceAdd, Nat.reduceSub, reduceIte]
    simp only [e, e2, EV, Nat.reduceEqDiff, Nat.reduceBEq, Nat.reduceLT, Nat.reduceLeDiff, Nat.reduceAdd, Nat.reduceSub, reduceIte, evRE, retVC, cellV', evR, nfz, nfzs, nfzss, List.contains_nil, List.contains_cons, Bool.or_false, or_true]
  · have e : changesOk l = true := by simpa using h
    have e2 : chTextR l = chText l := by simp [chTextR, e]
    simp only [EV, Nat.reduceEqDiff, Nat.reduceBEq, Nat.reduceLT, Nat.reduceLeDiff, Nat.reduceAdd, Nat.reduceSub, reduceIte]
    refine callK_i (d18 l hl (ch_small e hs)) ?_
    simp only [EV, Nat.reduceEqDiff, Nat.reduceBEq, Nat.reduceLT, Nat.reduceLeDiff, Nat.reduceAdd, Nat.reduceSub, reduceIte]
    simp only [e, e2, EV, Nat.reduceEqDiff, Nat.reduceBEq, Nat.reduceLT, Nat.reduceLeDiff, Nat.reduceAdd, Nat.reduceSub, reduceIte, evRE, retVC, cellV', evR, nfz, nfzs, nfzss, List.contains_nil, List.contains_cons, Bool.or_false, or_true]
def m12 : MC :=
 (.seq (.reg [Xb 2 (.asg (.z #[])), Xb 3 (.asg .fb)]) (.seq (.seq (.reg [Xm 4 0, Xb 5 (.call (.fn 21) false [.lend (.t 4)]), Xq 6 (.un .not (.t 5))]) (.cond (.t 6) (.seq (.reg [Xb 2 (.asg (.z #[])), Xb 3 (.asg .fb)]) .ret) .skip)) (.seq (.reg [Xm 7 0, Xb 8 (.call (.fn 22) false [.lend (.t 7)]), Xa 2 8, Xb 3 (.asg .tb)]) .ret)))
theorem d12 (l : List Change) (hl : (l.length : Int) ≤ 1048576) (hs : ∀ s ∈ l, s.ok ∧ (s.name.size : Int) ≤ 1048576) : Does Go.Proofs.Tryd.prog 12 [.fsl 2 (l.map Change.c)] false (.tup [.v (.string (chTextR l)), .v (.bool (changesOk l))]) [.dead] := by
  refine does_intro (mc := m12) (N := 9) (rs := [2, 3]) (fx := []) 1 rfl (by decide +kernel) ?_
  simp only [m12, EV, Nat.reduceEqDiff, Nat.reduceBEq, Nat.reduceLT, Nat.reduceLeDiff, Nat.reduceAdd, Nat.reduceSub, reduceIte]
  refine callK_i (d21 l (by omega) (fun s h => (hs s h).1)) ?_
  simp only [EV, Nat.reduceEqDiff, Nat.reduceBEq, Nat.reduceLT, Nat.reduceLeDiff, Nat.reduceAdd, Nat.reduceSub, reduceIte]
  refine cK_cut (fun h => ?_) (fun h => ?_)
  · have e : changesOk l = false := by simpa using h
    have e2 : chTextR l = ⟨#[]⟩ := by simp [chTextR, e]
    simp only [EV, Nat.reduceEqDiff, Nat.reduceBEq, Nat.reduceLT, Nat.reduceLeDiff, Nat.reduceAdd, Nat.reduceSub, reduceIte]
    simp only [e, e2, EV, Nat.reduceEqDiff, Nat.reduceBEq, Nat.reduceLT, Nat.reduceLeDiff, Nat.reduceAdd, Nat.reduceSub, reduceIte, evRE, retVC, cellV', evR, nfz, nfzs, nfzss, List.contains_nil, List.contains_cons, Bool.or_false, or_true]
  · have e : changesOk l = true := by simpa using h
    have e2 : chTextR l = chText l := by simp [chTextR, e]
    simp only [EV, Nat.reduceEqDiff, Nat.reduceBEq, Nat.reduceLT, Nat.reduceLeDiff, Nat.reduceAdd, Nat.reduceSub, reduceIte]
    refine callK_i (d22 l hl (ch_small e hs)) ?_
    simp only [EV, Nat.reduceEqDiff, Nat.reduceBEq, Nat.reduceLT, Nat.reduceLeDiff, Nat.reduceAdd, Nat.reduceSub, reduceIte]
    simp only [e, e2, EV, Nat.reduceEqDiff, Nat.reduceBEq, Nat.reduceLT, Nat.reduceLeDiff, Nat.reduceAdd, Nat.reduceSub, reduceIte, evRE, retVC, cellV', evR, nfz, nfzs, nfzss, List.contains_nil, List.contains_cons, Bool.or_false, or_true]
end Go.AM
namespace Go.AM
set_option linter.unusedVariables false
set_option linter.unusedSimpArgs false
def splG : List UInt8 → List UInt8 → List (List UInt8)
  | cur, [] => [cur]
  | cur, b :: l => if b = 32 then cur :: splG [] l else splG (cur ++ [b]) l
theorem splG_word : ∀ (w cur l : List UInt8), (∀ b ∈ w, b ≠ 32) → splG cur (w ++ l) = splG (cur ++ w) l
  | [], cur, l, _ => by simp
  | b :: w, cur, l, h => by
    have hb := h b (by simp)
    rw [List.cons_append, splG, if_neg hb, splG_word w _ l (fun x hx => h x (by simp [hx]))]
    simp
theorem splG_tail : ∀ (r : List (List UInt8)) (cur : List UInt8), (∀ x ∈ r, ∀ b ∈ x, b ≠ 32) → splG cur (Lib.joinTail [32] r) = cur :: r
  | [], cur, _ => by simp [Lib.joinTail, splG]
  | y :: r, cur, h => by
    have e : Lib.joinTail [32] (y :: r) = 32 :: (y ++ Lib.joinTail [32] r) := by simp [Lib.joinTail]
    rw [e, splG, if_pos rfl, splG_word _ _ _ (h y (by simp)), List.nil_append, splG_tail r y (fun x hx => h x (by simp [hx]))]
theorem splG_join (x : List UInt8) (r : List (List UInt8)) (h : ∀ y ∈ x :: r, ∀ b ∈ y, b ≠ 32) : splG [] (Lib.join (x :: r) [32]) = x :: r := by
  rw [Lib.join_cons, splG_word _ _ _ (h x (by simp)), List.nil_append, splG_tail r x (fun y hy => h y (by simp [hy]))]
theorem fields_word : ∀ (w cur l : List UInt8), (∀ b ∈ w, Lib.isSp b = false) → Lib.fieldsGo cur (w ++ l) = Lib.fieldsGo (cur ++ w) l
  | [], cur, l, _ => by simp
  | b :: w, cur, l, h => by
    rw [List.cons_append, Lib.fieldsGo_more _ _ _ (h b (by simp)), fields_word w _ l (fun x hx => h x (by simp [hx]))]
    simp
theorem fields_tail : ∀ (r : List (List UInt8)) (cur : List UInt8), cur ≠ [] → (∀ x ∈ r, x ≠ [] ∧ ∀ b ∈ x, Lib.isSp b = false) → Lib.fieldsGo cur (Lib.joinTail [32] r) = cur :: r
  | [], cur, hc, _ => by
    cases cur with
    | nil => exact absurd rfl hc
    | cons a b => simp [Lib.joinTail, Lib.fieldsGo]
  | y :: r, cur, hc, h => by
    have e : Lib.joinTail [32] (y :: r) = 32 :: (y ++ Lib.joinTail [32] r) := by simp [Lib.joinTail]
    have hy := h y (by simp)
    rw [e, Lib.fieldsGo_end cur 32 _ (by decide) hc, fields_word _ _ _ hy.2, List.nil_append, fields_tail r y hy.1 (fun x hx => h x (by simp [hx]))]
theorem fields_join (l : List (List UInt8)) (h : ∀ x ∈ l, x ≠ [] ∧ ∀ b ∈ x, Lib.isSp b = false) : Lib.fields (Lib.join l [32]) = l := by
  cases l with
  | nil => rfl
  | cons x r =>
    have hx := h x (by simp)
    rw [Lib.join_cons, Lib.fields, fields_word _ _ _ hx.2, List.nil_append, fields_tail r x hx.1 (fun y hy => h y (by simp [hy]))]
theorem fieldsGoD_in : ∀ (f : Nat) (cur l x : List UInt8), x ∈ Lib.fieldsGoD f cur l → x ≠ [] ∧ x.length ≤ cur.length + l.length
  | 0, cur, l, x, h => by
    simp only [Lib.fieldsGoD] at h
    split at h
    · simp at h
    · rename_i hc; simp at h; subst h; exact ⟨hc, by omega⟩
  | f + 1, cur, l, x, h => by
    simp only [Lib.fieldsGoD] at h
    split at h
    · split at h
      · simp at h
      · rename_i hc; simp at h; subst h; exact ⟨hc, by omega⟩
    split at h
    · rcases List.mem_append.1 h with h | h
      · split at h
        · simp at h
        · rename_i hc; simp at h; subst h; exact ⟨hc, by omega⟩
      · obtain ⟨a, b⟩ := fieldsGoD_in f _ _ x h
        refine ⟨a, ?_⟩
        simp only [List.length_nil, List.length_drop] at b
        omega
    · obtain ⟨a, b⟩ := fieldsGoD_in f _ _ x h
      refine ⟨a, ?_⟩
      simp only [List.length_append, List.length_take, List.length_drop] at b
      omega
theorem fieldsD_in {l x : List UInt8} (h : x ∈ Lib.fieldsD l) : x ≠ [] ∧ x.length ≤ l.length := by
  have := fieldsGoD_in _ _ _ _ h
  simpa using this
theorem fieldsGoD_few : ∀ (f : Nat) (cur l : List UInt8), (Lib.fieldsGoD f cur l).length ≤ f + 1
  | 0, cur, l => by simp only [Lib.fieldsGoD]; split <;> simp
  | f + 1, cur, l => by
    simp only [Lib.fieldsGoD]
    split
    · split <;> simp
    split
    · have := fieldsGoD_few f [] (l.drop (Lib.decodeL l).2)
      rw [List.length_append]
      split <;> simp <;> omega
    · have := fieldsGoD_few f (cur ++ l.take (Lib.decodeL l).2) (l.drop (Lib.decodeL l).2)
      omega
theorem fieldsD_few (l : List UInt8) : (Lib.fieldsD l).length ≤ l.length + 2 := fieldsGoD_few _ _ _
theorem name_bytes {s : ByteArray} (h : nameOk s = true) : ∀ b ∈ s.data.toList, 48 ≤ b.toNat ∧ b.toNat ≤ 122 := by
  simp only [nameOk, decide_eq_true_eq] at h
  intro b hb
  obtain ⟨i, hi, rfl⟩ := List.getElem_of_mem hb
  have h1 := h.1 i (by simpa using hi)
  have e : sAt s (i : Nat) = ((s.data.toList[i]).toNat : Int) := by
    unfold sAt
    rw [Int.toNat_natCast, List.getD_eq_getElem?_getD, List.getElem?_eq_getElem hi]; rfl
  simp only [chOk, lett, digt, e, Bool.or_eq_true, Bool.and_eq_true, decide_eq_true_eq] at h1
  omega
theorem chW_bytes {x : Change} (h : nameOk x.name = true) : ∀ b ∈ (chW x).data.toList, 33 ≤ b.toNat ∧ b.toNat ≤ 122 := by
  intro b hb
  rw [chW, ByteArray.data_append] at hb
  simp only [Array.toList_append, List.mem_append] at hb
  rcases hb with hb | hb
  · unfold sign at hb
    split at hb
    · simp at hb; subst hb; decide
    · split at hb
      · simp at hb; subst hb; decide
      · simp at hb; subst hb; decide
  · have := name_bytes h b hb; omega
theorem chW_ne (x : Change) : (chW x).data.toList ≠ [] := by
  have h := chW_size x
  have e : (chW x).data.toList.length = (chW x).size := by rw [Array.length_toList]; rfl
  intro h2; rw [h2] at e; simp at e; omega
theorem ok_names {l : List Change} (h : changesOk l = true) : ∀ x ∈ l, nameOk x.name = true ∧ 1 ≤ x.kind ∧ x.kind ≤ 3 := by
  simp only [changesOk, decide_eq_true_eq] at h
  intro s hm
  obtain ⟨i, hi, rfl⟩ := List.getElem_of_mem hm
  have h1 := h.1 i hi hi
  simp only [chAt, Bool.and_eq_true, decide_eq_true_eq] at h1
  exact ⟨h1.1.1, h1.1.2.1, h1.1.2.2⟩
theorem ok_words {l : List Change} (h : changesOk l = true) : ∀ x ∈ l.map (fun x => (chW x).data.toList), ∀ b ∈ x, 33 ≤ b.toNat ∧ b.toNat ≤ 122 := by
  intro x hx
  obtain ⟨c, hc, rfl⟩ := List.mem_map.1 hx
  exact chW_bytes (ok_names h c hc).1
theorem sp_no {b : UInt8} (h : 33 ≤ b.toNat) : b ≠ 32 ∧ Lib.isSp b = false := by
  have e : ∀ k : UInt8, k.toNat < 33 → b ≠ k := by
    intro k hk e; subst e; omega
  refine ⟨e 32 (by decide), ?_⟩
  simp only [Lib.isSp, Bool.or_eq_false_iff, beq_eq_false_iff_ne]
  exact ⟨⟨⟨⟨⟨e 9 (by decide), e 10 (by decide)⟩, e 11 (by decide)⟩, e 12 (by decide)⟩, e 13 (by decide)⟩, e 32 (by decide)⟩
theorem join_bytes : ∀ (l : List (List UInt8)), (∀ x ∈ l, ∀ b ∈ x, b.toNat < 128) → ∀ b ∈ Lib.join l [32], b.toNat < 128 := by
  have tl : ∀ (r : List (List UInt8)), (∀ x ∈ r, ∀ b ∈ x, b.toNat < 128) → ∀ b ∈ Lib.joinTail [32] r, b.toNat < 128 := by
    intro r hr b hb
    simp only [Lib.joinTail, List.mem_flatten, List.mem_map] at hb
    obtain ⟨y, ⟨x, hx, rfl⟩, hb⟩ := hb
    rcases List.mem_append.1 hb with hb | hb
    · simp at hb; subst hb; decide
    · exact hr x hx b hb
  intro l h b hb
  cases l with
  | nil => simp [Lib.join_nil] at hb
  | cons x r =>
    rw [Lib.join_cons] at hb
    rcases List.mem_append.1 hb with hb | hb
    · exact h x (by simp) b hb
    · exact tl r (fun y hy => h y (by simp [hy])) b hb
def kOf (b : Int) : Int := if b = 43 then 1 else if b = 45 then 2 else if b = 33 then 3 else 0
def chgI (w : ByteArray) : Change := ⟨w.extract 1 w.size, kOf (sAt w 0)⟩
def chgS (w : ByteArray) : Change := if 0 < w.size ∧ 0 < kOf (sAt w 0) then ⟨w.extract 1 w.size, kOf (sAt w 0)⟩ else ⟨⟨#[]⟩, 0⟩
def mkB (l : List UInt8) : ByteArray := ⟨l.toArray⟩
theorem mkB_self (s : ByteArray) : mkB s.data.toList = s := by
  apply ByteArray.ext; simp [mkB]
theorem sAt_app (a b : ByteArray) (h : 0 < a.size) : sAt (a ++ b) 0 = sAt a 0 := by
  unfold sAt
  have e : (a ++ b).data.toList = a.data.toList ++ b.data.toList := by rw [ByteArray.data_append]; simp
  rw [e]
  cases hl : a.data.toList with
  | nil => have : a.data.toList.length = a.size := by rw [Array.length_toList]; rfl
           rw [hl] at this; simp at this; omega
  | cons x r => rfl
theorem chgI_W {x : Change} (h1 : 1 ≤ x.kind) (h2 : x.kind ≤ 3) : chgI (chW x) = x ∧ chgS (chW x) = x := by
  have hz := chW_size x
  have hs : sAt (chW x) 0 = sAt (sign x.kind) 0 := sAt_app _ _ (by rw [sign_size]; omega)
  have hk : kOf (sAt (sign x.kind) 0) = x.kind := by
    have : x.kind = 1 ∨ x.kind = 2 ∨ x.kind = 3 := by omega
    rcases this with h | h | h <;> rw [h] <;> rfl
  have hn : (chW x).extract 1 (chW x).size = x.name := by
    apply ByteArray.ext
    rw [hz]
    rw [chW, ByteArray.data_extract, ByteArray.data_append]
    have e1 : (sign x.kind).data.size = 1 := sign_size _
    rw [Array.extract_append]
    have e2 : (sign x.kind).data.extract 1 (1 + x.name.size) = #[] := by
      apply Array.eq_empty_of_size_eq_zero; simp [e1]
    rw [e2, e1]
    simp
  have e1 : chgI (chW x) = x := by unfold chgI; rw [hs, hk, hn]
  refine ⟨e1, ?_⟩
  unfold chgS
  rw [if_pos ⟨by omega, by rw [hs, hk]; omega⟩]
  exact e1
def wI (s : ByteArray) : List Change := ((Lib.fieldsD s.data.toList).map mkB).map chgI
def wS (s : ByteArray) : List Change := if s.size = 0 then [] else ((splG [] s.data.toList).map mkB).map chgS
theorem map_back {l : List Change} (h : changesOk l = true) : ((l.map fun x => (chW x).data.toList).map mkB).map chgI = l ∧ ((l.map fun x => (chW x).data.toList).map mkB).map chgS = l := by
  have h1 := ok_names h
  constructor
  · rw [List.map_map, List.map_map]
    conv => rhs; rw [← List.map_id l]
    apply List.map_congr_left
    intro x hx
    obtain ⟨_, a, b⟩ := h1 x hx
    simp only [Function.comp_apply, mkB_self, id_eq]
    exact (chgI_W a b).1
  · rw [List.map_map, List.map_map]
    conv => rhs; rw [← List.map_id l]
    apply List.map_congr_left
    intro x hx
    obtain ⟨_, a, b⟩ := h1 x hx
    simp only [Function.comp_apply, mkB_self, id_eq]
    exact (chgI_W a b).2
theorem wI_text {l : List Change} (h : changesOk l = true) : wI (chText l) = l := by
  unfold wI
  have hb := ok_words h
  rw [chText_join, Lib.fieldsD_ascii _ (join_bytes _ fun x hx b hbx => by have := hb x hx b hbx; omega)]
  rw [fields_join _ fun x hx => ⟨by obtain ⟨c, _, rfl⟩ := List.mem_map.1 hx; exact chW_ne c, fun b hbx => (sp_no (hb x hx b hbx).1).2⟩]
  exact (map_back h).1
theorem wS_text {l : List Change} (h : changesOk l = true) : wS (chText l) = l := by
  unfold wS
  have hb := ok_words h
  cases l with
  | nil => rfl
  | cons x r =>
    have e := chText_join (x :: r)
    have hne : (chText (x :: r)).size ≠ 0 := by
      intro h0
      have e2 : (chText (x :: r)).data.toList.length = 0 := by rw [Array.length_toList]; exact h0
      rw [e, List.map_cons, Lib.join_cons] at e2
      have := chW_ne x
      simp at e2
      exact this (by simp [e2.1])
    rw [if_neg hne, e, List.map_cons, splG_join _ _ (by rw [← List.map_cons (f := fun x => (chW x).data.toList)]; exact fun y hy b hbx => (sp_no (hb y hy b hbx).1).1)]
    exact (map_back h).2
def rdOf (s : ByteArray) (l : List Change) : Prop := (changesOk l = true ∧ chText l = s) ∧ s.size ≤ 500
open Classical in
noncomputable def rdN (s : ByteArray) : Option (List Change) := if h : ∃ l, rdOf s l then some h.choose else none
theorem rdN_some {s : ByteArray} {l : List Change} (h : rdOf s l) : rdN s = some l := by
  have h' : ∃ l, rdOf s l := ⟨l, h⟩
  unfold rdN
  rw [dif_pos h']
  have h2 := h'.choose_spec
  have e1 := wI_text h.1.1
  have e2 := wI_text h2.1.1
  rw [h.1.2] at e1
  rw [h2.1.2] at e2
  rw [← e1, ← e2]
theorem rdN_of {s : ByteArray} {l : List Change} (h : rdN s = some l) : rdOf s l := by
  unfold rdN at h
  split at h
  · rename_i h'; have := h'.choose_spec; simp at h; rw [h] at this; exact this
  · simp at h
theorem rdN_I (s : ByteArray) (h : s.size ≤ 500) : rdN s = if changesOk (wI s) = true ∧ chText (wI s) = s then some (wI s) else none := by
  split
  · rename_i c; exact rdN_some ⟨c, h⟩
  · rename_i c
    cases e : rdN s with
    | none => rfl
    | some l =>
      have h2 := (rdN_of e).1
      exfalso; apply c
      have : wI s = l := by rw [← h2.2]; exact wI_text h2.1
      rw [this]; exact h2
theorem rdN_S (s : ByteArray) (h : s.size ≤ 500) : rdN s = if changesOk (wS s) = true ∧ chText (wS s) = s then some (wS s) else none := by
  split
  · rename_i c; exact rdN_some ⟨c, h⟩
  · rename_i c
    cases e : rdN s with
    | none => rfl
    | some l =>
      have h2 := (rdN_of e).1
      exfalso; apply c
      have : wS s = l := by rw [← h2.2]; exact wS_text h2.1
      rw [this]; exact h2
theorem rdN_big {s : ByteArray} (h : ¬ s.size ≤ 500) : rdN s = none := by
  unfold rdN
  rw [dif_neg]
  rintro ⟨l, h2⟩
  exact h h2.2
theorem rdN_len {s : ByteArray} {l : List Change} (h : rdN s = some l) : l.length ≤ 32 := by
  have := (rdN_of h).1.1
  simp only [changesOk, decide_eq_true_eq] at this
  exact this.2
end Go.AM
namespace Go.Proofs
open Go.Shelf Go.RowKit
shelf_lay Lays.n157 Nm 157 at Tryd as Tryd.laysFields
shelf_lay Lays.n137 Nm 137 at Tryd as Tryd.laysIndexByte
theorem Tryd.fieldsHi9 : (Tryd.prog.info? (Tryd.laysFields_ren.t 9)).map (fun i => (i.zero, i.size, i.bytes)) = some (some (.string ByteArray.empty), 1, 16) := by kernel_rfl
theorem Tryd.fieldsHi154 : (Tryd.prog.info? (Tryd.laysFields_ren.t 154)).map (fun i => (i.zero, i.size, i.bytes)) = some (some (.agg #[.int .i64 0, .int .i64 0]), 2, 16) := by kernel_rfl
theorem Tryd.fieldsG0 : Tryd.prog.globalNamed "strings.asciiSpace" = some (Tryd.laysFields_ren.g 0) := by kernel_rfl
theorem Tryd.fieldsG6 : Tryd.prog.globalNamed "unicode.White_Space" = some (Tryd.laysFields_ren.g 6) := by kernel_rfl
end Go.Proofs
namespace Go.AM
set_option linter.unusedVariables false
set_option linter.unusedSimpArgs false
open Go.RowKit
theorem cell_same {w w' : World} {a : Addr} (h : w.heap[a.block]? = w'.heap[a.block]?) : w.cell? a = w'.cell? a := by simp [World.cell?, h]
theorem cell_lt {w : World} {a : Addr} {v : Value} (hc : w.cell? a = some v) : a.block < w.heap.size := by
  rcases Nat.lt_or_ge a.block w.heap.size with h' | h'
  · exact h'
  · simp [World.cell?, Array.getElem?_eq_none h'] at hc
theorem glob_sp {P : Program} {w : World} {Fz : Nat → Prop} (h : Glob P w Fz) {g : Nat} (hg : P.globalNamed "strings.asciiSpace" = some g) (c : Nat) (hc : c < 256) : w.cell? ⟨g, c, none⟩ = some (.int .u8 (if Lib.isSp (UInt8.ofNat c) then 1 else 0)) := by
  obtain ⟨W0, hL, hb⟩ := h
  have h1 := hL.sp g hg c hc
  rw [cell_same (hb g (cell_lt h1)).2, h1]
  congr 2
  have : ∀ c : Nat, c < 256 → (if c = 9 ∨ c = 10 ∨ c = 11 ∨ c = 12 ∨ c = 13 ∨ c = 32 then (1 : Int) else 0) = if Lib.isSp (UInt8.ofNat c) then 1 else 0 := by decide +kernel
  exact this c hc
theorem glob_wh {P : Program} {w : World} {Fz : Nat → Prop} (h : Glob P w Fz) {g : Nat} (hg : P.globalNamed "unicode.White_Space" = some g) : Lib.WhiteTab g w := by
  obtain ⟨W0, hL, hb⟩ := h
  obtain ⟨T, oT, R, oR, h1, h2, h3, h4, h5⟩ := hL.wh g hg
  have q := fun {a : Addr} {v : Value} (hc : W0.cell? a = some v) => (cell_same (hb a.block (cell_lt hc)).2).trans hc
  refine ⟨T, oT, R, oR, q h1, q h2, q h3, q h4, fun i hi => ?_⟩
  rw [q (h5 i hi)]
  have : ∀ i : Nat, i < 21 → (whites.getD i 0 : Int) = ((Lib.whiteT.getD i 0 : Nat) : Int) := by decide
  rw [this i hi]
theorem str_rows {w : World} {Fz : Nat → Prop} : ∀ (l : List ByteArray), RepRows w Fz 1 (l.map fun s => [AV.v (.string s)]) (l.map Value.string) []
  | [] => by simp [RepRows]
  | s :: l => by
    simp only [List.map_cons, RepRows]
    exact ⟨[.string s], l.map Value.string, [], [], rfl, rfl, rfl, by simp only [RepRow, RepC]; exact ⟨_, _, [], [], rfl, rfl, ⟨rfl, rfl, rfl⟩, rfl, rfl⟩, str_rows l⟩
theorem d19 (s : ByteArray) (hs : s.size < 4294967281) : Does Go.Proofs.Tryd.prog 19 [.v (.string s)] false (.usl 9 1 (((Lib.fieldsD s.data.toList).map mkB).map fun b => [.v (.string b)])) [.dead] := by
  refine ⟨by decide +kernel, ?_⟩
  intro w Fz xs os hrep hos hfz hlt
  simp only [RepVs, RepV, RepC] at hrep
  obtain ⟨y, ys, p1, p2, rfl, rfl, ⟨rfl, _, rfl⟩, rfl, rfl⟩ := hrep
  generalize hFD : (Lib.fieldsD s.data.toList).map mkB = F
  have hlen : (Lib.fieldsD s.data.toList).length = F.length := by rw [← hFD, List.length_map]
  have key : Calls Go.Proofs.Tryd.prog 19 #[.string s] w fun e w' => ∃ A cur, e = .returned (.slice (some ⟨A, 0, none⟩) F.length F.length) ∧ w.heap.size ≤ A ∧
      w'.heap[A]? = some (.cells cur 9 (0, 0)) ∧ cur.size = F.length ∧ cur.toList = F.map Value.string ∧ Go.RowKit.Below w.heap.size w w' := by
    by_cases ha : ∀ b ∈ s.data.toList, b.toNat < 128
    · have e := Go.Proofs.Any.strings_Fields_core Go.Proofs.Tryd.laysFields Go.Proofs.Tryd.fieldsHi9 s w hs (fun j b hb => ha b (List.mem_of_getElem? hb)) (fun c hc => glob_sp hlt.gl Go.Proofs.Tryd.fieldsG0 c hc)
      rw [← Lib.fieldsD_ascii _ ha] at e
      refine e.mono ?_
      rintro e w' ⟨rfl, rfl⟩
      refine ⟨w.heap.size, ((Lib.fieldsD s.data.toList).map fun l => Value.string ⟨l.toArray⟩).toArray, by rw [hlen], Nat.le_refl _, (Array.getElem?_push_size).trans rfl, by simp [hlen], ?_, (Go.RowKit.Below.refl _ w).alloc (Nat.le_refl _) _⟩
      rw [← hFD, List.map_map]
      rfl
    · have hhigh : ∃ (j : Nat) (b : UInt8), s.data.toList[j]? = some b ∧ 128 ≤ b.toNat := by
        obtain ⟨b, hb, h8⟩ : ∃ b, b ∈ s.data.toList ∧ 128 ≤ b.toNat := by
          refine Classical.byContradiction fun hn => ha fun b hb => ?_
          rcases Nat.lt_or_ge b.toNat 128 with h | h
          · exact h
          · exact absurd ⟨b, hb, h⟩ hn
        obtain ⟨j, hj, rfl⟩ := List.getElem_of_mem hb
        exact ⟨j, _, List.getElem?_eq_getElem hj, h8⟩
      have e := Go.Proofs.Any.strings_Fields_beyond Go.Proofs.Tryd.laysFields Go.Proofs.Tryd.fieldsHi9 Go.Proofs.Tryd.fieldsHi154 s w hs hhigh (fun c hc => glob_sp hlt.gl Go.Proofs.Tryd.fieldsG0 c hc) (glob_wh hlt.gl Go.Proofs.Tryd.fieldsG6)
      refine e.mono ?_
      rintro e w' ⟨A, rfl, hA, ho, hb⟩
      rw [Lib.goFields_values, Lib.goFields_count, hlen] at ho
      rw [Lib.goFields_count, hlen]
      obtain ⟨_, ⟨h1, _⟩ | ⟨g, cap, cur, h1, _, h2, h3, _, h4, h5⟩⟩ := ho
      · simp at h1
      · simp only [Value.slice.injEq, Option.some.injEq, Addr.mk.injEq, and_true, true_and] at h1
        obtain ⟨rfl, rfl⟩ := h1
        refine ⟨A, cur, rfl, hA, h2, by simpa using h4, ?_, hb⟩
        have h6 : cur.toList.take (F.length * 1) = cur.toList := List.take_of_length_le (by simp [h4])
        rw [h6] at h5
        rw [h5, ← hFD, List.map_map]
        rfl
  refine key.mono ?_
  rintro e w' ⟨A, cur, rfl, hA, hc, hcs, hcl, bel⟩
  have hAs : A < w'.heap.size := by
    rcases Nat.lt_or_ge A w'.heap.size with h | h
    · exact h
    · rw [Array.getElem?_eq_none h] at hc; cases hc
  refine ⟨_, [A], [], rfl, ⟨bel.os, bel.tape, bel.output, bel.size, fun b hb _ => bel.block b hb⟩, ?_, ?_, by simp, ?_⟩
  · simp only [RepV, RepC]
    refine .inr ⟨A, 0, F.length, cur, F.map Value.string, [], by simp, rfl, hc, by simp, by simp [hcs], str_rows F, ?_⟩
    intro j u hj
    simp only [World.cell?, hc, Nat.zero_mul, Nat.zero_add]
    rw [← hcl] at hj
    simpa using hj
  · simp only [RepVs, RepV]
    exact ⟨_, _, [], [], rfl, rfl, rfl, rfl, rfl⟩
  · intro b hb
    simp at hb
    subst hb
    exact ⟨.inr hA, hAs⟩
theorem d20 (s : ByteArray) (c : Int) : Does Go.Proofs.Tryd.prog 20 [.v (.string s), .v (.int .u8 c)] false (.v (.int .i64 (Lib.indexByte s.data.toList c.toNat.toUInt8))) [.dead, .dead] := by
  refine ⟨by decide +kernel, ?_⟩
  intro w Fz xs os hrep hos hfz hlt
  simp only [RepVs, RepV, RepC] at hrep
  obtain ⟨y, ys, p1, p2, rfl, rfl, ⟨rfl, _, rfl⟩, z, zs, p3, p4, rfl, rfl, ⟨rfl, _, rfl⟩, rfl, rfl⟩ := hrep
  refine (Go.Proofs.Any.strings_IndexByte Go.Proofs.Tryd.laysIndexByte s c w).mono ?_
  rintro e w' ⟨rfl, rfl⟩
  refine ⟨_, [], [], rfl, ⟨rfl, rfl, rfl, Nat.le_refl _, fun b hb _ => rfl⟩, by simp [RepV, RepC, Value.oneCell'], ?_, by simp, by simp⟩
  simp only [RepVs, RepV]
  exact ⟨_, _, [], [], rfl, rfl, rfl, _, _, [], [], rfl, rfl, rfl, rfl, rfl⟩
end Go.AM
namespace Go.AM
set_option linter.unusedVariables false
set_option linter.unusedSimpArgs false
theorem sAt_rng (s : ByteArray) (n : Int) : 0 ≤ sAt s n ∧ sAt s n ≤ 255 := by
  unfold sAt
  have := (s.data.toList.getD n.toNat 0).toNat_lt
  omega
theorem kOf_index (c : Int) (h0 : 0 ≤ c) (h1 : c ≤ 255) : Lib.indexByte (⟨#[43, 45, 33]⟩ : ByteArray).data.toList c.toNat.toUInt8 = kOf c - 1 := by
  have h : ∀ n : Nat, n < 256 → Lib.indexByte [43, 45, 33] n.toUInt8 = kOf (n : Int) - 1 := by decide +kernel
  obtain ⟨n, rfl⟩ := Int.eq_ofNat_of_zero_le h0
  exact h n (by omega)
theorem kOf_rng (c : Int) : 0 ≤ kOf c ∧ kOf c ≤ 3 := by unfold kOf; repeat' split
                                                        all_goals omega
theorem bsq_eq {a b : ByteArray} : (a.toList == b.toList) = true ↔ a = b := by
  rw [beq_iff_eq]
  constructor
  · intro h
    cases a; cases b; rename_i x y
    simpa [ByteArray.toList_eq] using h
  · rintro rfl; rfl
theorem bsq_ne {a b : ByteArray} : (a.toList == b.toList) = false ↔ a ≠ b := by
  rw [← Bool.not_eq_true, bsq_eq]
def strC (b : ByteArray) : List AV := [.v (.string b)]
theorem strCE : (∀ f : ByteArray, (strC f).length = 1) ∧ (∀ f : ByteArray, (strC f).take 1 = strC f) ∧ (∀ (st : St) (f : ByteArray), frzBs st (strC f) = strC f) ∧ (∀ f : ByteArray, bares (strC f) = true) ∧ (∀ f : ByteArray, plains (strC f) = true) ∧ (∀ f : ByteArray, frzRow (strC f) = strC f) ∧ (∀ f : ByteArray, (strC f).all storL = true) :=
  ⟨fun _ => rfl, fun _ => rfl, fun _ _ => rfl, fun _ => rfl, fun _ => rfl, fun _ => rfl, fun _ => rfl⟩
theorem strC_nfz : ∀ l : List ByteArray, nfzss (l.map strC) = true
  | [] => rfl
  | s :: l => by simp only [List.map_cons, nfzss, strC_nfz l]; rfl
theorem wI_ok (s : ByteArray) (h : s.size ≤ 500) : (∀ c ∈ wI s, c.ok ∧ (c.name.size : Int) ≤ 1048576) ∧ (wI s).length ≤ 502 := by
  constructor
  · intro c hc
    unfold wI at hc
    rw [List.map_map] at hc
    obtain ⟨x, hx, rfl⟩ := List.mem_map.1 hc
    obtain ⟨h1, h2⟩ := fieldsD_in hx
    have e : s.data.toList.length = s.size := by rw [Array.length_toList]; rfl
    have e2 : (mkB x).size = x.length := by simp [mkB, ByteArray.size]
    have h3 : ((mkB x).extract 1 (mkB x).size).size ≤ 500 := by rw [ByteArray.size_extract]; omega
    have hk := kOf_rng (sAt (mkB x) 0)
    simp only [Function.comp_apply, chgI, Change.ok]
    refine ⟨⟨by omega, by omega, by omega⟩, by omega⟩
  · unfold wI
    rw [List.length_map, List.length_map]
    have := fieldsD_few s.data.toList
    have e : s.data.toList.length = s.size := by rw [Array.length_toList]; rfl
    omega
def m6 : MC :=
 (.seq (.reg [Xb 2 (.asg (.nils 37 2)), Xb 3 (.asg .fb)]) (.seq (.seq (.reg [Xm 7 0, Xq 8 (.len true (.t 7)), Xq 9 (.bin false .gtr (.t 8) (.i 500))]) (.cond (.t 9) (.seq (.reg [Xb 2 (.asg (.nils 37 2)), Xb 3 (.asg .fb)]) .ret) .skip)) (.seq (.reg [Xb 10 (.bsl 37 2 []), Xa 4 10]) (.seq (.seq (.reg [Xm 11 0, Xb 12 (.call (.fn 19) false [.lend (.t 11)]), Xn 13 12, Xq 14 (.mov (.i 0))]) (.block 0
 (.loop [0, 4, 10, 12, 13, 14, 27] (.seq (.reg [Xq 15 (.bin false .lss (.t 14) (.t 13))]) (.seq (.cond (.t 15) .skip (.exit 0)) (.seq (.block 1 (.seq (.reg [Xi 16 1 12 14, Xl 17 1 16, Xa 6 17]) (.mix [] [0, 4, 6, 10, 12, 13, 14, 27] [] [] [] [0, 1, 2, 3, 4, 5, 6, 7, 8, 9, 10] [] [Xm 18 4, Xm 19 6, Xq 20 (.slc true 1 (.t 19) (some (.i 1)) none), Xm 21 6, Xq 22 (.idx (.t 21) (.i 0)), Xb 23 (.call
 (.fn 20) false [.lend (.z #[43, 45, 33]), .lend (.t 22)]), Xq 24 (.bin false .add (.t 23) (.i 1)), Xb 25 (.build [0, 1] [0, 1] [1, 1] [.z, .i] [.t 20, .t 24]), Xb 26 (.bsl 37 2 [.t 25]), Xb 27 (.app true 37 2 24 (.t 18) (.t 26)), Xa 4 27]))) (.reg [Xq 28 (.bin false .add (.t 14) (.i 1)), Xm 14 28]))))))) (.seq (.seq (.reg [Xm 29 4, Xb 30 (.call (.fn 21) false [.lend (.t 29)]), Xq 31 (.un .not (.t
 30)), Xm 32 31, Xu 33 32 (.mov (.t 4)), XU 34 32 (.call (.fn 22) false [.lend (.t 33)]), Xu 35 32 (.mov (.t 0)), Xu 36 32 (.bin false .neq (.t 34) (.t 35)), Xq 37 (.pick (.t 32) .tb (.t 36))]) (.cond (.t 37) (.seq (.reg [Xb 2 (.asg (.nils 37 2)), Xb 3 (.asg .fb)]) .ret) .skip)) (.seq (.reg [Xm 38 4, Xa 2 38, Xb 3 (.asg .tb)]) .ret))))))
set_option maxHeartbeats 1000000 in
set_option maxRecDepth 100000 in
theorem d6 (s : ByteArray) (hs : (s.size : Int) ≤ 9223372036854775807) : Does Go.Proofs.Tryd.prog 6 [.v (.string s)] false (.tup [.usl 37 2 (((rdN s).getD []).map Change.c), .v (.bool (rdN s).isSome)]) [.dead] := by
  refine does_intro (mc := m6) (N := 39) (rs := [2, 3]) (fx := []) 1 rfl (by decide +kernel) ?_
  simp only [m6, EV, Nat.reduceEqDiff, Nat.reduceBEq, Nat.reduceLT, Nat.reduceLeDiff, Nat.reduceAdd, Nat.reduceSub, reduceIte]
  refine cK_cut (fun h => ?_) (fun h => ?_)
  · have h1 : ¬ s.size ≤ 500 := by have : (500 : Int) < s.size := by simpa using h
                                   omega
    simp only [EV, Nat.reduceEqDiff, Nat.reduceBEq, Nat.reduceLT, Nat.reduceLeDiff, Nat.reduceAdd, Nat.reduceSub, reduceIte]
    simp only [rdN_big h1, Option.getD_none, Option.isSome_none, List.map_nil, EV, Nat.reduceEqDiff, Nat.reduceBEq, Nat.reduceLT, Nat.reduceLeDiff, Nat.reduceAdd, Nat.reduceSub, reduceIte, evRE, retVC, cellV', evR, nfz, nfzs, nfzss, List.contains_nil, List.contains_cons, Bool.or_false, or_true]
  have h1 : s.size ≤ 500 := by have : ¬ (500 : Int) < s.size := by simpa using h
                               omega
  clear h
  have hR := rdN_I s h1
  obtain ⟨hok, hfew⟩ := wI_ok s h1
  have hbig : ∀ c ∈ wI s, c.ok := fun c hc => (hok c hc).1
  have hL : ∀ x ∈ (Lib.fieldsD s.data.toList).map mkB, 0 < x.size ∧ x.size ≤ 500 := by
    intro x hx
    obtain ⟨y, hy, rfl⟩ := List.mem_map.1 hx
    obtain ⟨a, b⟩ := fieldsD_in hy
    have e : s.data.toList.length = s.size := by rw [Array.length_toList]; rfl
    have e2 : (mkB y).size = y.length := by simp [mkB, ByteArray.size]
    have : 0 < y.length := List.length_pos_iff.2 a
    omega
  have hF := d19 s (by omega)
  have hw : wI s = ((Lib.fieldsD s.data.toList).map mkB).map chgI := rfl
  generalize (Lib.fieldsD s.data.toList).map mkB = F at hF hL hw
  have hFl : F.length ≤ 502 := by rw [hw, List.length_map] at hfew; exact hfew
  simp only [EV, Nat.reduceEqDiff, Nat.reduceBEq, Nat.reduceLT, Nat.reduceLeDiff, Nat.reduceAdd, Nat.reduceSub, reduceIte]
  refine callK_i hF ?_
  simp only [EV, Nat.reduceEqDiff, Nat.reduceBEq, Nat.reduceLT, Nat.reduceLeDiff, Nat.reduceAdd, Nat.reduceSub, reduceIte]
  refine awp_loop (fun i : Nat => i ≤ F.length) (fun i => stl [(0, .v (.string s)), (4, .usl 37 2 (((F.take i).map chgI).map Change.c)), (10, .dead), (12, .usl 9 1 (F.map strC)), (13, .v (.int .i64 (F.length : Int))), (14, .v (.int .i64 (i : Int))), (27, .dead)]) (fun i => F.length - i) 0 (Nat.zero_le _) ?_ ?_
  · simp only [EV, Nat.reduceEqDiff, Nat.reduceBEq, Nat.reduceLT, Nat.reduceLeDiff, Nat.reduceAdd, Nat.reduceSub, reduceIte]
    rfl
  · intro i hi
    simp only [EV, Nat.reduceEqDiff, Nat.reduceBEq, Nat.reduceLT, Nat.reduceLeDiff, Nat.reduceAdd, Nat.reduceSub, reduceIte]
    refine cK_cut (fun h => ?_) (fun h => ?_)
    · have h2 : i < F.length := by simpa using h
      have h3 : (i : Int) < (F.length : Int) := by omega
      obtain ⟨g1, g2⟩ := hL _ (List.getElem_mem h2)
      have g3 : (0 : Int) < (F[i].size : Int) := by omega
      have hr := sAt_rng F[i] 0
      have hk := kOf_rng (sAt F[i] 0)
      simp only [strCE, nth_map h2, h3, strC, EV, Nat.reduceEqDiff, Nat.reduceBEq, Nat.reduceLT, Nat.reduceLeDiff, Nat.reduceAdd, Nat.reduceSub, reduceIte]
      refine ⟨h2, by omega, by omega, by omega, by omega, by omega, ?_⟩
      refine callK_i (d20 _ _) ?_
      have ek : kOf (sAt F[i] 0) - 1 + 1 = kOf (sAt F[i] 0) := by omega
      have wk := w64 (kOf (sAt F[i] 0)) (by omega)
      have htl : ((F.take i).map chgI).length = i := by simp; omega
      have htl' : (F.take i).length = i := by simp; omega
      have htk : List.take i (((F.take i).map chgI).map Change.c) = ((F.take i).map chgI).map Change.c := List.take_of_length_le (by simp; omega)
      simp only [kOf_index _ hr.1 hr.2, ek, wk, htl, htl', htk, EV, Nat.reduceEqDiff, Nat.reduceBEq, Nat.reduceLT, Nat.reduceLeDiff, Nat.reduceAdd, Nat.reduceSub, reduceIte]
      refine ⟨by omega, by omega, i + 1, by omega, by omega, ?_⟩
      rw [w64 _ (by omega), List.take_succ_eq_append_getElem h2, List.map_append, List.map_append]
      have e1 : (1 : Int).toNat = 1 := rfl
      simp only [e1]
      rfl
    · have h2 : i = F.length := by have : ¬ (i : Int) < F.length := by simpa using h
                                   omega
      subst h2
      rw [List.take_length, ← hw]
      have htk : List.take (wI s).length ((wI s).map Change.c) = (wI s).map Change.c := List.take_of_length_le (by simp)
      clear h hi hw hF hL
      simp only [htk, Change.frz, EV, Nat.reduceEqDiff, Nat.reduceBEq, Nat.reduceLT, Nat.reduceLeDiff, Nat.reduceAdd, Nat.reduceSub, reduceIte]
      refine callK_i (d21 (wI s) (by omega) hbig) ?_
      simp only [htk, Change.frz, EV, Nat.reduceEqDiff, Nat.reduceBEq, Nat.reduceLT, Nat.reduceLeDiff, Nat.reduceAdd, Nat.reduceSub, reduceIte]
      rcases e : changesOk (wI s) with _ | _
      · have e2 : rdN s = none := by rw [hR, if_neg (by rw [e]; simp)]
        simp only [e, Bool.not_false, EV, Nat.reduceEqDiff, Nat.reduceBEq, Nat.reduceLT, Nat.reduceLeDiff, Nat.reduceAdd, Nat.reduceSub, reduceIte]
        simp only [e2, Option.getD_none, Option.isSome_none, List.map_nil, EV, Nat.reduceEqDiff, Nat.reduceBEq, Nat.reduceLT, Nat.reduceLeDiff, Nat.reduceAdd, Nat.reduceSub, reduceIte, evRE, retVC, cellV', evR, nfz, nfzs, nfzss, List.contains_nil, List.contains_cons, Bool.or_false, or_true]
      · simp only [e, Bool.not_true, htk, Change.frz, EV, Nat.reduceEqDiff, Nat.reduceBEq, Nat.reduceLT, Nat.reduceLeDiff, Nat.reduceAdd, Nat.reduceSub, reduceIte]
        refine callK_i (d22 (wI s) (by omega) (ch_small e hok)) ?_
        simp only [htk, Change.frz, EV, Nat.reduceEqDiff, Nat.reduceBEq, Nat.reduceLT, Nat.reduceLeDiff, Nat.reduceAdd, Nat.reduceSub, reduceIte]
        rcases e3 : ((chText (wI s)).toList == s.toList) with _ | _
        · have e2 : rdN s = none := by rw [hR, if_neg (fun hh => bsq_ne.1 e3 hh.2)]
          simp only [e3, Bool.not_false, EV, Nat.reduceEqDiff, Nat.reduceBEq, Nat.reduceLT, Nat.reduceLeDiff, Nat.reduceAdd, Nat.reduceSub, reduceIte]
          simp only [e2, Option.getD_none, Option.isSome_none, List.map_nil, EV, Nat.reduceEqDiff, Nat.reduceBEq, Nat.reduceLT, Nat.reduceLeDiff, Nat.reduceAdd, Nat.reduceSub, reduceIte, evRE, retVC, cellV', evR, nfz, nfzs, nfzss, List.contains_nil, List.contains_cons, Bool.or_false, or_true]
        · have e2 : rdN s = some (wI s) := by rw [hR, if_pos ⟨e, bsq_eq.1 e3⟩]
          simp only [e3, Bool.not_true, EV, Nat.reduceEqDiff, Nat.reduceBEq, Nat.reduceLT, Nat.reduceLeDiff, Nat.reduceAdd, Nat.reduceSub, reduceIte]
          simp only [e2, Option.getD_some, Option.isSome_some, Change.nfz, EV, Nat.reduceEqDiff, Nat.reduceBEq, Nat.reduceLT, Nat.reduceLeDiff, Nat.reduceAdd, Nat.reduceSub, reduceIte, evRE, retVC, cellV', evR, nfz, nfzs, nfzss, List.contains_nil, List.contains_cons, Bool.or_false, or_true]
theorem splG_len : ∀ (l cur : List UInt8), (splG cur l).length ≤ l.length + 1 ∧ ∀ x ∈ splG cur l, x.length ≤ cur.length + l.length
  | [], cur => by simp [splG]
  | b :: l, cur => by
    unfold splG
    split
    · have := splG_len l []
      refine ⟨by simp; exact this.1, ?_⟩
      intro x hx
      rcases List.mem_cons.1 hx with h | h
      · subst h; simp
      · have := this.2 x h; simp at this ⊢; omega
    · have := splG_len l (cur ++ [b])
      refine ⟨by simp; omega, ?_⟩
      intro x hx
      have := this.2 x hx; simp at this ⊢; omega
theorem mkB_extract (s : ByteArray) (i j : Nat) (h : i ≤ j) (hj : j ≤ s.size) : mkB ((s.data.toList.drop i).take (j - i)) = s.extract i j := by
  apply ByteArray.ext
  apply Array.toList_inj.1
  simp [mkB, ByteArray.data_extract, Array.toList_extract, List.extract]
def m16 : MC :=
 (.seq (.reg [Xb 4 (.asg (.nils 9 1))]) (.seq (.reg [Xb 5 (.asg (.nils 9 1))]) (.seq (.reg [Xb 6 (.asg (.i 0))]) (.seq (.seq (.reg [Xb 7 (.asg (.i 0))]) (.block 0 (.loop [0, 1, 5, 6, 7, 25] (.seq (.seq (.reg [Xm 8 7, Xm 9 0, Xq 10 (.len true (.t 9)), Xq 11 (.bin false .lss (.t 8) (.t 10))]) (.cond (.t 11) .skip (.exit 0))) (.join [0, 1, 5, 6, 7, 25] (.block 1 (.seq (.reg [Xm 14 0, Xm 15 7, Xq 16
 (.idx (.t 14) (.t 15)), Xm 17 1, Xq 18 (.bin false .eql (.t 16) (.t 17))]) (.cond (.t 18) (.seq (.reg [Xm 19 5, Xm 20 0, Xm 21 6, Xm 22 7, Xq 23 (.slc true 1 (.t 20) (some (.t 21)) (some (.t 22))), Xb 24 (.bsl 9 1 [.t 23]), Xb 25 (.app true 9 1 16 (.t 19) (.t 24)), Xa 5 25]) (.reg [Xm 26 7, Xq 27 (.bin false .add (.t 26) (.i 1)), Xa 6 27])) .skip))) (.reg [Xm 12 7, Xq 13 (.bin false .add (.t 12)
 (.i 1)), Xa 7 13])))))) (.seq (.reg [Xm 28 5, Xm 29 0, Xm 30 6, Xq 31 (.slc true 1 (.t 29) (some (.t 30)) none), Xb 32 (.bsl 9 1 [.t 31]), Xb 33 (.app true 9 1 16 (.t 28) (.t 32)), Xa 4 33]) .ret)))))
set_option maxHeartbeats 1000000 in
set_option maxRecDepth 100000 in
theorem d16 (s : ByteArray) (hs : (s.size : Int) ≤ 1048576) : Does Go.Proofs.Tryd.prog 16 [.v (.string s), .v (.int .u8 32)] false (.usl 9 1 (((splG [] s.data.toList).map mkB).map strC)) [.dead, .dead] := by
  have hsz : s.data.toList.length = s.size := by rw [Array.length_toList]; rfl
  have hd : ∀ i : Nat, (hi : i < s.size) → s.data.toList.drop i = s.data.toList[i]'(by omega) :: s.data.toList.drop (i + 1) := fun i hi => List.drop_eq_getElem_cons (by omega)
  have hall := splG_len s.data.toList []
  refine does_intro (mc := m16) (N := 34) (rs := [4]) (fx := []) 2 rfl (by decide +kernel) ?_
  simp only [m16, EV, Nat.reduceEqDiff, Nat.reduceBEq, Nat.reduceLT, Nat.reduceLeDiff, Nat.reduceAdd, Nat.reduceSub, reduceIte]
  refine awp_loop (fun p : Nat × Nat × List (List UInt8) => p.1 ≤ s.size ∧ p.2.1 ≤ p.1 ∧ p.2.2 ++ splG ((s.data.toList.drop p.2.1).take (p.1 - p.2.1)) (s.data.toList.drop p.1) = splG [] s.data.toList)
    (fun p => stl [(0, .v (.string s)), (1, .v (.int .u8 32)), (5, .usl 9 1 ((p.2.2.map mkB).map strC)), (6, .v (.int .i64 (p.2.1 : Int))), (7, .v (.int .i64 (p.1 : Int))), (25, .dead)]) (fun p => s.size - p.1) (0, 0, []) ⟨Nat.zero_le _, Nat.le_refl _, by simp⟩ ?_ ?_
  · simp only [EV, Nat.reduceEqDiff, Nat.reduceBEq, Nat.reduceLT, Nat.reduceLeDiff, Nat.reduceAdd, Nat.reduceSub, reduceIte]
    rfl
  rintro ⟨i, fr, out⟩ ⟨p0, p1, p2⟩
  simp only at p0 p1 p2
  have hol : out.length ≤ s.size + 1 := by
    have := congrArg List.length p2
    rw [List.length_append] at this
    have h1 := hall.1
    rw [hsz] at h1
    omega
  have hol2 : (out.map mkB).length = out.length := List.length_map _
  have htk : List.take out.length ((out.map mkB).map strC) = (out.map mkB).map strC := List.take_of_length_le (by simp)
  simp only [EV, Nat.reduceEqDiff, Nat.reduceBEq, Nat.reduceLT, Nat.reduceLeDiff, Nat.reduceAdd, Nat.reduceSub, reduceIte]
  refine cK_cut (fun h => ?_) (fun h => ?_)
  · have h1 : i < s.size := by simpa using h
    have h2 : (i : Int) < (s.size : Int) := by omega
    clear h
    have e1 : sAt s (i : Nat) = ((s.data.toList[i]'(by omega)).toNat : Int) := by
      unfold sAt
      rw [Int.toNat_natCast, List.getD_eq_getElem?_getD, List.getElem?_eq_getElem (by omega)]; rfl
    have wi := w64 ((i : Int) + 1) (by omega)
    rw [hd i h1] at p2
    refine awp_join (fun q : Nat × List (List UInt8) => q.1 ≤ i + 1 ∧ q.2 ++ splG ((s.data.toList.drop q.1).take (i + 1 - q.1)) (s.data.toList.drop (i + 1)) = splG [] s.data.toList)
      (fun q => stl [(0, .v (.string s)), (1, .v (.int .u8 32)), (5, .usl 9 1 ((q.2.map mkB).map strC)), (6, .v (.int .i64 (q.1 : Int))), (7, .v (.int .i64 (i : Int))), (25, .dead)]) ?_ ?_
    · simp only [h2, EV, Nat.reduceEqDiff, Nat.reduceBEq, Nat.reduceLT, Nat.reduceLeDiff, Nat.reduceAdd, Nat.reduceSub, reduceIte]
      rcases e : (sAt s (i : Nat) == 32) with _ | _
      · have hb : s.data.toList[i]'(by omega) ≠ 32 := by
          intro hb; rw [e1, hb] at e; simp at e
        simp only [splG, if_neg hb] at p2
        simp only [e, EV, Nat.reduceEqDiff, Nat.reduceBEq, Nat.reduceLT, Nat.reduceLeDiff, Nat.reduceAdd, Nat.reduceSub, reduceIte]
        repeat (refine And.intro (by omega) ?_)
        refine ⟨(fr, out), ⟨by simp only; omega, ?_⟩, rfl⟩
        simp only
        rw [← p2]
        congr 2
        have : i + 1 - fr = (i - fr) + 1 := by omega
        rw [this, List.take_add_one]
        congr 1
        rw [List.getElem?_drop, show fr + (i - fr) = i by omega, List.getElem?_eq_getElem (by omega)]
        rfl
      · have hb : s.data.toList[i]'(by omega) = 32 := by
          have h3 : sAt s (i : Nat) = 32 := by simpa using e
          rw [e1] at h3
          exact UInt8.toNat_inj.1 (by have : (32 : UInt8).toNat = 32 := rfl
                                      omega)
        simp only [splG, if_pos hb] at p2
        have hx := mkB_extract s fr i p1 (by omega)
        simp only [e, hol2, htk, wi, EV, Nat.reduceEqDiff, Nat.reduceBEq, Nat.reduceLT, Nat.reduceLeDiff, Nat.reduceAdd, Nat.reduceSub, reduceIte]
        repeat (refine And.intro (by omega) ?_)
        refine ⟨(i + 1, out ++ [(s.data.toList.drop fr).take (i - fr)]), ⟨Nat.le_refl _, ?_⟩, ?_⟩
        · simp only [Nat.sub_self, List.take_zero]
          rw [List.append_assoc]; exact p2
        · simp only [List.map_append, List.map_cons, List.map_nil, hx]
          rfl
    · rintro ⟨q1, q2⟩ ⟨q3, q4⟩
      simp only at q3 q4
      simp only [wi, EV, Nat.reduceEqDiff, Nat.reduceBEq, Nat.reduceLT, Nat.reduceLeDiff, Nat.reduceAdd, Nat.reduceSub, reduceIte]
      exact ⟨(i + 1, q1, q2), ⟨h1, q3, q4⟩, by simp only; omega, rfl⟩
  · have h1 : i = s.size := by have : ¬ (i : Int) < s.size := by simpa using h
                               omega
    subst h1
    clear h
    have hx := mkB_extract s fr s.size p1 (Nat.le_refl _)
    have hdn : s.data.toList.drop s.size = [] := List.drop_eq_nil_of_le (by omega)
    rw [hdn, splG] at p2
    simp only [hol2, htk, EV, Nat.reduceEqDiff, Nat.reduceBEq, Nat.reduceLT, Nat.reduceLeDiff, Nat.reduceAdd, Nat.reduceSub, reduceIte]
    repeat (refine And.intro (by omega) ?_)
    rw [← p2]
    simp only [List.map_append, List.map_cons, List.map_nil, hx]
    simp only [EV, Nat.reduceEqDiff, Nat.reduceBEq, Nat.reduceLT, Nat.reduceLeDiff, Nat.reduceAdd, Nat.reduceSub, reduceIte, evRE, retVC, cellV', evR, nfz, nfzs, nfzss, List.contains_nil, List.contains_cons, Bool.or_false, or_true]
    refine ⟨rfl, .inr ?_⟩
    rw [← List.map_singleton, ← List.map_append]
    exact strC_nfz _
theorem ok0 : (⟨⟨#[]⟩, 0⟩ : Change).ok := by
  have : ((⟨#[]⟩ : ByteArray).size : Nat) = 0 := rfl
  simp only [Change.ok, this]; omega
theorem wS_ok (s : ByteArray) (h : s.size ≤ 500) : (∀ c ∈ wS s, c.ok ∧ (c.name.size : Int) ≤ 1048576) ∧ (wS s).length ≤ 502 := by
  have e : s.data.toList.length = s.size := by rw [Array.length_toList]; rfl
  have hall := splG_len s.data.toList []
  unfold wS
  split
  · simp
  constructor
  · intro c hc
    rw [List.map_map] at hc
    obtain ⟨x, hx, rfl⟩ := List.mem_map.1 hc
    have h2 := hall.2 x hx
    have e2 : (mkB x).size = x.length := by simp [mkB, ByteArray.size]
    have h3 : ((mkB x).extract 1 (mkB x).size).size ≤ 500 := by rw [ByteArray.size_extract]; simp at h2; omega
    have hk := kOf_rng (sAt (mkB x) 0)
    have h0 : ((⟨#[]⟩ : ByteArray).size : Nat) = 0 := rfl
    simp only [Function.comp_apply, chgS]
    split
    · simp only [Change.ok]; refine ⟨⟨by omega, by omega, by omega⟩, by omega⟩
    · exact ⟨ok0, by simp only [h0]; omega⟩
  · rw [List.length_map, List.length_map]
    have := hall.1
    omega
def m5 : MC :=
 (.seq (.reg [Xb 2 (.asg (.nils 37 2)), Xb 3 (.asg .fb)]) (.seq (.seq (.reg [Xm 9 0, Xq 10 (.len true (.t 9)), Xq 11 (.bin false .gtr (.t 10) (.i 500))]) (.cond (.t 11) (.seq (.reg [Xb 2 (.asg (.nils 37 2)), Xb 3 (.asg .fb)]) .ret) .skip)) (.seq (.reg [Xb 4 (.asg (.nils 37 2))]) (.join [0, 4, 42] (.seq (.reg [Xm 12 0, Xq 13 (.bin false .neq (.t 12) (.z #[]))]) (.cond (.t 13) (.seq (.reg [Xm 14 0,
 Xb 15 (.call (.fn 16) false [.lend (.t 14), .lend (.c (.int .u8 32))]), Xn 16 15, Xq 17 (.mov (.i 0))]) (.block 0 (.loop [0, 4, 15, 16, 17, 42] (.seq (.reg [Xq 18 (.bin false .lss (.t 17) (.t 16))]) (.seq (.cond (.t 18) .skip (.exit 0)) (.seq (.block 1 (.seq (.reg [Xi 19 1 15 17, Xl 20 1 19, Xa 6 20]) (.seq (.reg [Xb 21 (.build [] [] [] [.z, .i] []), Xb 7 (.alloc 37 [.z, .i]), Xz (.store 2 (.t 7)
 (.t 21))]) (.seq (.seq (.reg [Xb 8 (.asg (.i 1))]) (.block 2 (.loop [0, 4, 6, 7, 8, 15, 16, 17, 42] (.seq (.seq (.reg [Xm 22 8, Xq 23 (.bin false .leq (.t 22) (.i 3)), Xm 24 23, Xt 25 24 (.mov (.t 6)), Xt 26 24 (.bin false .neq (.t 25) (.z #[])), Xq 27 (.pick (.t 24) (.t 26) .fb)]) (.cond (.t 27) .skip (.exit 2))) (.join [0, 4, 6, 7, 8, 15, 16, 17, 42] (.block 3 (.seq (.dreg [Xm 30 6, Xq 31 (.idx
 (.t 30) (.i 0)), Xm 32 8, Xq 33 (.idx (.z #[63, 43, 45, 33]) (.t 32)), Xq 34 (.bin false .eql (.t 31) (.t 33))]) (.cond (.t 34) (.reg [Xm 35 8, Xm 36 6, Xq 37 (.slc true 1 (.t 36) (some (.i 1)) none), Xb 38 (.build [1, 0] [1, 0] [1, 1] [.z, .i] [.t 35, .t 37]), Xz (.store 2 (.t 7) (.t 38))]) .skip))) (.reg [Xm 28 8, Xq 29 (.bin false .add (.t 28) (.i 1)), Xa 8 29])))))) (.reg [Xm 39 4, XL 40 2 7,
 Xb 41 (.bsl 37 2 [.t 40]), Xb 42 (.app true 37 2 24 (.t 39) (.t 41)), Xa 4 42]))))) (.reg [Xq 43 (.bin false .add (.t 17) (.i 1)), Xm 17 43]))))))) .skip)) (.seq (.seq (.reg [Xm 44 4, Xb 45 (.call (.fn 17) false [.lend (.t 44)]), Xq 46 (.un .not (.t 45)), Xm 47 46, Xu 48 47 (.mov (.t 4)), XU 49 47 (.call (.fn 18) false [.lend (.t 48)]), Xu 50 47 (.mov (.t 0)), Xu 51 47 (.bin false .neq (.t 49) (.t
 50)), Xq 52 (.pick (.t 47) .tb (.t 51))]) (.cond (.t 52) (.seq (.reg [Xb 2 (.asg (.nils 37 2)), Xb 3 (.asg .fb)]) .ret) .skip)) (.seq (.reg [Xm 53 4, Xa 2 53, Xb 3 (.asg .tb)]) .ret))))))
set_option maxHeartbeats 1000000 in
set_option maxRecDepth 100000 in
theorem d5 (s : ByteArray) (hs : (s.size : Int) ≤ 9223372036854775807) : Does Go.Proofs.Tryd.prog 5 [.v (.string s)] false (.tup [.usl 37 2 (((rdN s).getD []).map Change.c), .v (.bool (rdN s).isSome)]) [.dead] := by
  refine does_intro (mc := m5) (N := 54) (rs := [2, 3]) (fx := []) 1 rfl (by decide +kernel) ?_
  simp only [m5, EV, Nat.reduceEqDiff, Nat.reduceBEq, Nat.reduceLT, Nat.reduceLeDiff, Nat.reduceAdd, Nat.reduceSub, reduceIte]
  refine cK_cut (fun h => ?_) (fun h => ?_)
  · have h1 : ¬ s.size ≤ 500 := by have : (500 : Int) < s.size := by simpa using h
                                   omega
    simp only [EV, Nat.reduceEqDiff, Nat.reduceBEq, Nat.reduceLT, Nat.reduceLeDiff, Nat.reduceAdd, Nat.reduceSub, reduceIte]
    simp only [rdN_big h1, Option.getD_none, Option.isSome_none, List.map_nil, EV, Nat.reduceEqDiff, Nat.reduceBEq, Nat.reduceLT, Nat.reduceLeDiff, Nat.reduceAdd, Nat.reduceSub, reduceIte, evRE, retVC, cellV', evR, nfz, nfzs, nfzss, List.contains_nil, List.contains_cons, Bool.or_false, or_true]
  have h1 : s.size ≤ 500 := by have : ¬ (500 : Int) < s.size := by simpa using h
                               omega
  clear h
  have hR := rdN_S s h1
  obtain ⟨hok, hfew⟩ := wS_ok s h1
  have hbig : ∀ c ∈ wS s, c.ok := fun c hc => (hok c hc).1
  have hF := d16 s (by omega)
  simp only [EV, Nat.reduceEqDiff, Nat.reduceBEq, Nat.reduceLT, Nat.reduceLeDiff, Nat.reduceAdd, Nat.reduceSub, reduceIte]
  refine awp_join (fun _ : Unit => True) (fun _ => stl [(0, .v (.string s)), (4, .usl 37 2 ((wS s).map Change.c)), (42, .dead)]) ?_ ?_
  · simp only [EV, Nat.reduceEqDiff, Nat.reduceBEq, Nat.reduceLT, Nat.reduceLeDiff, Nat.reduceAdd, Nat.reduceSub, reduceIte]
    rcases e1 : (s.toList == (⟨#[]⟩ : ByteArray).toList) with _ | _
    rotate_left
    · have e2 : s = ⟨#[]⟩ := bsq_eq.1 e1
      have e3 : wS s = [] := by unfold wS; rw [if_pos (by rw [e2]; rfl)]
      simp only [e1, e3, Bool.not_true, EV, Nat.reduceEqDiff, Nat.reduceBEq, Nat.reduceLT, Nat.reduceLeDiff, Nat.reduceAdd, Nat.reduceSub, reduceIte]
      exact ⟨(), trivial⟩
    have hne : s.size ≠ 0 := by
      intro h; apply bsq_ne.1 e1
      cases s; rename_i x
      have : x.size = 0 := h
      rw [Array.eq_empty_of_size_eq_zero this]
    have hw : wS s = ((splG [] s.data.toList).map mkB).map chgS := by unfold wS; rw [if_neg hne]
    simp only [e1, Bool.not_false, EV, Nat.reduceEqDiff, Nat.reduceBEq, Nat.reduceLT, Nat.reduceLeDiff, Nat.reduceAdd, Nat.reduceSub, reduceIte]
    refine callK_i hF ?_
    rw [hw]
    have hL : ∀ x ∈ (splG [] s.data.toList).map mkB, x.size ≤ 500 := by
      intro x hx
      obtain ⟨y, hy, rfl⟩ := List.mem_map.1 hx
      have := (splG_len s.data.toList []).2 y hy
      have e : s.data.toList.length = s.size := by rw [Array.length_toList]; rfl
      have e2 : (mkB y).size = y.length := by simp [mkB, ByteArray.size]
      simp at this; omega
    have hFl : ((splG [] s.data.toList).map mkB).length ≤ 502 := by rw [hw, List.length_map] at hfew; exact hfew
    clear hF hw hok hbig hfew hR
    generalize (splG [] s.data.toList).map mkB = F at hL hFl ⊢
    simp only [EV, Nat.reduceEqDiff, Nat.reduceBEq, Nat.reduceLT, Nat.reduceLeDiff, Nat.reduceAdd, Nat.reduceSub, reduceIte]
    refine awp_loop (fun i : Nat => i ≤ F.length) (fun i => stl [(0, .v (.string s)), (4, .usl 37 2 (((F.take i).map chgS).map Change.c)), (15, .usl 9 1 (F.map strC)), (16, .v (.int .i64 (F.length : Int))), (17, .v (.int .i64 (i : Int))), (42, .dead)]) (fun i => F.length - i) 0 (Nat.zero_le _) ?_ ?_
    · simp only [EV, Nat.reduceEqDiff, Nat.reduceBEq, Nat.reduceLT, Nat.reduceLeDiff, Nat.reduceAdd, Nat.reduceSub, reduceIte]
      rfl
    intro i hi
    simp only [EV, Nat.reduceEqDiff, Nat.reduceBEq, Nat.reduceLT, Nat.reduceLeDiff, Nat.reduceAdd, Nat.reduceSub, reduceIte]
    refine cK_cut (fun h => ?_) (fun h => ?_)
    · have h2 : i < F.length := by simpa using h
      have h3 : (i : Int) < (F.length : Int) := by omega
      clear h
      have g2 := hL _ (List.getElem_mem h2)
      have hr := sAt_rng F[i] 0
      have wi := w64 ((i : Int) + 1) (by omega)
      have htl : ((F.take i).map chgS).length = i := by simp; omega
      have htl' : (F.take i).length = i := by simp; omega
      have htk : List.take i (((F.take i).map chgS).map Change.c) = ((F.take i).map chgS).map Change.c := List.take_of_length_le (by simp; omega)
      have hsn : (F.take (i + 1)).map chgS = (F.take i).map chgS ++ [chgS F[i]] := by rw [List.take_succ_eq_append_getElem h2, List.map_append]; rfl
      simp only [strCE, nth_map h2, h2, h3, strC, EV, Nat.reduceEqDiff, Nat.reduceBEq, Nat.reduceLT, Nat.reduceLeDiff, Nat.reduceAdd, Nat.reduceSub, reduceIte]
      generalize F[i] = w at g2 hr hsn ⊢
      refine awp_loop (fun k : Nat => 1 ≤ k ∧ k ≤ 4 ∧ (w.size = 0 → k = 1)) (fun k => stl [(0, .v (.string s)), (4, .usl 37 2 (((F.take i).map chgS).map Change.c)), (6, .v (.string w)), (7, .box 37 (Change.c (if 0 < w.size ∧ 0 < kOf (sAt w 0) ∧ kOf (sAt w 0) < (k : Int) then ⟨w.extract 1 w.size, kOf (sAt w 0)⟩ else ⟨⟨#[]⟩, 0⟩))), (8, .v (.int .i64 (k : Int))), (15, .usl 9 1 (F.map strC)), (16, .v (.int .i64 (F.length : Int))), (17, .v (.int .i64 (i : Int))), (42, .dead)]) (fun k => 4 - k) 1 ⟨Nat.le_refl _, by omega, fun _ => rfl⟩ ?_ ?_
      · rw [if_neg (by omega)]
        simp only [Change.c, strC, EV, Nat.reduceEqDiff, Nat.reduceBEq, Nat.reduceLT, Nat.reduceLeDiff, Nat.reduceAdd, Nat.reduceSub, reduceIte]
        rfl
      · rintro k ⟨k1, k2, k3⟩
        have fin : ∀ x : Change, x = chgS w → _ := fun x hx => (show ∃ j : Nat, (j ≤ F.length) ∧ F.length - j < F.length - i ∧ stl [(0, AV.v (.string s)), (4, .usl 37 2 (((F.take i).map chgS).map Change.c ++ [x.c])), (15, .usl 9 1 (F.map strC)), (16, .v (.int .i64 (F.length : Int))), (17, .v (.int .i64 (i + 1 : Int))), (42, .dead)] = stl [(0, AV.v (.string s)), (4, .usl 37 2 (((F.take j).map chgS).map Change.c)), (15, .usl 9 1 (F.map strC)), (16, .v (.int .i64 (F.length : Int))), (17, .v (.int .i64 (j : Int))), (42, .dead)] from by
          refine ⟨i + 1, by omega, by omega, ?_⟩
          rw [hsn, hx, List.map_append]
          rfl)
        have hz : ((⟨#[]⟩ : ByteArray).size : Nat) = 0 := rfl
        have ext : ∀ q : Change, q = chgS w → _ := fun q hq => fin q hq
        simp only [Change.c] at ext
        simp only [Change.c, EV, Nat.reduceEqDiff, Nat.reduceBEq, Nat.reduceLT, Nat.reduceLeDiff, Nat.reduceAdd, Nat.reduceSub, reduceIte]
        rcases d1 : decide ((k : Int) ≤ 3) with _ | _
        · have k4 : k = 4 := by have : ¬ (k : Int) ≤ 3 := by simpa using d1
                                omega
          subst k4
          have hq : (if 0 < w.size ∧ 0 < kOf (sAt w 0) ∧ kOf (sAt w 0) < ((4 : Nat) : Int) then (⟨w.extract 1 w.size, kOf (sAt w 0)⟩ : Change) else ⟨⟨#[]⟩, 0⟩) = chgS w := by
            have := kOf_rng (sAt w 0)
            unfold chgS
            by_cases c : 0 < w.size ∧ 0 < kOf (sAt w 0)
            · rw [if_pos c, if_pos ⟨c.1, c.2, by omega⟩]
            · rw [if_neg c, if_neg (fun hh => c ⟨hh.1, hh.2.1⟩)]
          simp only [hq, d1, htl, htl', htk, wi, EV, Nat.reduceEqDiff, Nat.reduceBEq, Nat.reduceLT, Nat.reduceLeDiff, Nat.reduceAdd, Nat.reduceSub, reduceIte]
          repeat (refine And.intro (by omega) ?_)
          exact ext _ rfl
        · have k4 : k ≤ 3 := by have : (k : Int) ≤ 3 := by simpa using d1
                                omega
          have wk := w64 ((k : Int) + 1) (by omega)
          simp only [d1, EV, Nat.reduceEqDiff, Nat.reduceBEq, Nat.reduceLT, Nat.reduceLeDiff, Nat.reduceAdd, Nat.reduceSub, reduceIte]
          rcases d2 : (w.toList == (⟨#[]⟩ : ByteArray).toList) with _ | _
          rotate_left
          · have e2 : w = ⟨#[]⟩ := bsq_eq.1 d2
            have e3 : w.size = 0 := by rw [e2]; rfl
            have hq : (if 0 < w.size ∧ 0 < kOf (sAt w 0) ∧ kOf (sAt w 0) < (k : Int) then (⟨w.extract 1 w.size, kOf (sAt w 0)⟩ : Change) else ⟨⟨#[]⟩, 0⟩) = chgS w := by
              unfold chgS
              rw [if_neg (by omega), if_neg (by omega)]
            simp only [hq, d2, Bool.not_true, htl, htl', htk, wi, EV, Nat.reduceEqDiff, Nat.reduceBEq, Nat.reduceLT, Nat.reduceLeDiff, Nat.reduceAdd, Nat.reduceSub, reduceIte]
            repeat (refine And.intro (by omega) ?_)
            exact ext _ rfl
          have hw0 : 0 < w.size := by
            rcases Nat.eq_zero_or_pos w.size with h | h
            · exfalso; apply bsq_ne.1 d2
              cases w; rename_i x
              have : x.size = 0 := h
              rw [Array.eq_empty_of_size_eq_zero this]
            · exact h
          have hz4 : ((⟨#[63, 43, 45, 33]⟩ : ByteArray).size : Nat) = 4 := rfl
          have hsg : (sAt w 0 == sAt ⟨#[63, 43, 45, 33]⟩ (k : Int)) = decide (kOf (sAt w 0) = (k : Int)) := by
            have : k = 1 ∨ k = 2 ∨ k = 3 := by omega
            rcases this with rfl | rfl | rfl
            · have e : sAt ⟨#[63, 43, 45, 33]⟩ ((1 : Nat) : Int) = 43 := rfl
              rw [e]; unfold kOf; repeat' split
              all_goals simp_all
            · have e : sAt ⟨#[63, 43, 45, 33]⟩ ((2 : Nat) : Int) = 45 := rfl
              rw [e]; unfold kOf; repeat' split
              all_goals simp_all
            · have e : sAt ⟨#[63, 43, 45, 33]⟩ ((3 : Nat) : Int) = 33 := rfl
              rw [e]; unfold kOf; repeat' split
              all_goals simp_all
          simp only [d2, Bool.not_false, EV, Nat.reduceEqDiff, Nat.reduceBEq, Nat.reduceLT, Nat.reduceLeDiff, Nat.reduceAdd, Nat.reduceSub, reduceIte]
          refine awp_join (fun _ : Unit => True) (fun _ => stl [(0, .v (.string s)), (4, .usl 37 2 (((F.take i).map chgS).map Change.c)), (6, .v (.string w)), (7, .box 37 (Change.c (if 0 < w.size ∧ 0 < kOf (sAt w 0) ∧ kOf (sAt w 0) < ((k + 1 : Nat) : Int) then ⟨w.extract 1 w.size, kOf (sAt w 0)⟩ else ⟨⟨#[]⟩, 0⟩))), (8, .v (.int .i64 (k : Int))), (15, .usl 9 1 (F.map strC)), (16, .v (.int .i64 (F.length : Int))), (17, .v (.int .i64 (i : Int))), (42, .dead)]) ?_ ?_
          · simp only [hsg, Change.c, EV, Nat.reduceEqDiff, Nat.reduceBEq, Nat.reduceLT, Nat.reduceLeDiff, Nat.reduceAdd, Nat.reduceSub, reduceIte]
            rcases d3 : decide (kOf (sAt w 0) = (k : Int)) with _ | _
            · have d4 : kOf (sAt w 0) ≠ (k : Int) := by simpa using d3
              have hq : (if 0 < w.size ∧ 0 < kOf (sAt w 0) ∧ kOf (sAt w 0) < ((k + 1 : Nat) : Int) then (⟨w.extract 1 w.size, kOf (sAt w 0)⟩ : Change) else ⟨⟨#[]⟩, 0⟩) = (if 0 < w.size ∧ 0 < kOf (sAt w 0) ∧ kOf (sAt w 0) < (k : Int) then (⟨w.extract 1 w.size, kOf (sAt w 0)⟩ : Change) else ⟨⟨#[]⟩, 0⟩) := by
                by_cases c : 0 < w.size ∧ 0 < kOf (sAt w 0) ∧ kOf (sAt w 0) < (k : Int)
                · rw [if_pos c, if_pos ⟨c.1, c.2.1, by omega⟩]
                · rw [if_neg c, if_neg (fun hh => c ⟨hh.1, hh.2.1, by omega⟩)]
              simp only [hq, EV, Nat.reduceEqDiff, Nat.reduceBEq, Nat.reduceLT, Nat.reduceLeDiff, Nat.reduceAdd, Nat.reduceSub, reduceIte]
              repeat (refine And.intro (by omega) ?_)
              exact ⟨(), trivial⟩
            · have d4 : kOf (sAt w 0) = (k : Int) := by simpa using d3
              have hq : (if 0 < w.size ∧ 0 < kOf (sAt w 0) ∧ kOf (sAt w 0) < ((k + 1 : Nat) : Int) then (⟨w.extract 1 w.size, kOf (sAt w 0)⟩ : Change) else ⟨⟨#[]⟩, 0⟩) = ⟨w.extract 1 w.size, (k : Int)⟩ := by
                rw [if_pos ⟨hw0, by omega, by omega⟩, d4]
              simp only [hq, EV, Nat.reduceEqDiff, Nat.reduceBEq, Nat.reduceLT, Nat.reduceLeDiff, Nat.reduceAdd, Nat.reduceSub, reduceIte]
              repeat (refine And.intro (by omega) ?_)
              exact ⟨(), rfl⟩
          · rintro _ _
            simp only [wk, EV, Nat.reduceEqDiff, Nat.reduceBEq, Nat.reduceLT, Nat.reduceLeDiff, Nat.reduceAdd, Nat.reduceSub, reduceIte]
            exact ⟨k + 1, ⟨by omega, by omega, by omega⟩, by omega, rfl⟩
    · have h2 : i = F.length := by have : ¬ (i : Int) < F.length := by simpa using h
                                   omega
      subst h2
      rw [List.take_length]
      simp only [EV, Nat.reduceEqDiff, Nat.reduceBEq, Nat.reduceLT, Nat.reduceLeDiff, Nat.reduceAdd, Nat.reduceSub, reduceIte]
      exact ⟨(), trivial⟩
  · rintro _ _
    have htk : List.take (wS s).length ((wS s).map Change.c) = (wS s).map Change.c := List.take_of_length_le (by simp)
    simp only [htk, Change.frz, EV, Nat.reduceEqDiff, Nat.reduceBEq, Nat.reduceLT, Nat.reduceLeDiff, Nat.reduceAdd, Nat.reduceSub, reduceIte]
    refine callK_i (d17 (wS s) (by omega) hbig) ?_
    simp only [htk, Change.frz, EV, Nat.reduceEqDiff, Nat.reduceBEq, Nat.reduceLT, Nat.reduceLeDiff, Nat.reduceAdd, Nat.reduceSub, reduceIte]
    rcases e : changesOk (wS s) with _ | _
    · have e2 : rdN s = none := by rw [hR, if_neg (by rw [e]; simp)]
      simp only [e, Bool.not_false, EV, Nat.reduceEqDiff, Nat.reduceBEq, Nat.reduceLT, Nat.reduceLeDiff, Nat.reduceAdd, Nat.reduceSub, reduceIte]
      simp only [e2, Option.getD_none, Option.isSome_none, List.map_nil, EV, Nat.reduceEqDiff, Nat.reduceBEq, Nat.reduceLT, Nat.reduceLeDiff, Nat.reduceAdd, Nat.reduceSub, reduceIte, evRE, retVC, cellV', evR, nfz, nfzs, nfzss, List.contains_nil, List.contains_cons, Bool.or_false, or_true]
    · simp only [e, Bool.not_true, htk, Change.frz, EV, Nat.reduceEqDiff, Nat.reduceBEq, Nat.reduceLT, Nat.reduceLeDiff, Nat.reduceAdd, Nat.reduceSub, reduceIte]
      refine callK_i (d18 (wS s) (by omega) (ch_small e hok)) ?_
      simp only [htk, Change.frz, EV, Nat.reduceEqDiff, Nat.reduceBEq, Nat.reduceLT, Nat.reduceLeDiff, Nat.reduceAdd, Nat.reduceSub, reduceIte]
      rcases e3 : ((chText (wS s)).toList == s.toList) with _ | _
      · have e2 : rdN s = none := by rw [hR, if_neg (fun hh => bsq_ne.1 e3 hh.2)]
        simp only [e3, Bool.not_false, EV, Nat.reduceEqDiff, Nat.reduceBEq, Nat.reduceLT, Nat.reduceLeDiff, Nat.reduceAdd, Nat.reduceSub, reduceIte]
        simp only [e2, Option.getD_none, Option.isSome_none, List.map_nil, EV, Nat.reduceEqDiff, Nat.reduceBEq, Nat.reduceLT, Nat.reduceLeDiff, Nat.reduceAdd, Nat.reduceSub, reduceIte, evRE, retVC, cellV', evR, nfz, nfzs, nfzss, List.contains_nil, List.contains_cons, Bool.or_false, or_true]
      · have e2 : rdN s = some (wS s) := by rw [hR, if_pos ⟨e, bsq_eq.1 e3⟩]
        simp only [e3, Bool.not_true, EV, Nat.reduceEqDiff, Nat.reduceBEq, Nat.reduceLT, Nat.reduceLeDiff, Nat.reduceAdd, Nat.reduceSub, reduceIte]
        simp only [e2, Option.getD_some, Option.isSome_some, Change.nfz, EV, Nat.reduceEqDiff, Nat.reduceBEq, Nat.reduceLT, Nat.reduceLeDiff, Nat.reduceAdd, Nat.reduceSub, reduceIte, evRE, retVC, cellV', evR, nfz, nfzs, nfzss, List.contains_nil, List.contains_cons, Bool.or_false, or_true]
end Go.AM
namespace Go.AM
set_option linter.unusedVariables false
set_option linter.unusedSimpArgs false
def m3 : MC :=
 (.seq (.reg [Xb 2 (.asg .fb)]) (.keep [0] (.seq (.seq (.reg [Xm 11 0, Xq 12 (.len true (.t 11)), Xq 13 (.bin false .gtr (.t 12) (.i 1048576))]) (.keep [0, 13] (.cond (.t 13) (.seq (.reg [Xb 2 (.asg .tb)]) .ret) .skip))) (.keep [0] (.seq (.reg [Xm 15 0, Xb 16 (.call (.fn 5) false [.lend (.t 15)]), Xa 14 16, Xq 17 (.ext 14 0), Xq 18 (.ext 14 1), Xa 3 17, Xa 4 18]) (.keep [0, 3, 4, 14, 16, 17] (.seq
 (.reg [Xm 20 0, Xb 21 (.call (.fn 6) false [.lend (.t 20)]), Xa 19 21, Xq 22 (.ext 19 0), Xq 23 (.ext 19 1), Xa 5 22, Xa 6 23]) (.keep [0, 3, 4, 5, 6, 14, 16, 17, 19, 21, 22] (.seq (.seq (.reg [Xm 24 5, Xm 25 3, Xb 26 (.call (.fn 7) false [.lend (.t 24), .lend (.t 25)]), Xq 27 (.un .not (.t 26)), Xm 28 27, Xu 29 28 (.mov (.t 6)), Xu 30 28 (.mov (.t 4)), Xu 31 28 (.bin true .neq (.t 29) (.t 30)),
 Xq 32 (.pick (.t 28) .tb (.t 31))]) (.keep [0, 3, 4, 5, 14, 16, 17, 19, 21, 22, 32] (.cond (.t 32) (.seq (.reg [Xb 2 (.asg .fb)]) .ret) .skip))) (.keep [0, 3, 4, 5, 14, 16, 17, 19, 21, 22] (.seq (.reg [Xb 7 (.asg (.i 1))]) (.keep [0, 3, 4, 5, 7, 14, 16, 17, 19, 21, 22] (.seq (.reg [Xm 33 5, Xm 34 7, Xb 35 (.call (.fn 8) false [.io (.t 33), .lend (.t 34)]), Xa 7 35]) (.keep [0, 3, 4, 5, 7, 14, 16,
 17, 19, 21, 22] (.seq (.reg [Xb 8 (.asg (.i 1))]) (.keep [0, 3, 4, 5, 7, 8, 14, 16, 17, 19, 21, 22] (.seq (.reg [Xm 36 5, Xm 37 8, Xb 38 (.call (.fn 9) false [.lend (.t 36), .lend (.t 37)]), Xa 8 38]) (.keep [0, 3, 4, 5, 7, 8, 14, 16, 17, 19, 21, 22] (.seq (.seq (.reg [Xm 39 8, Xq 40 (.bin false .lss (.t 39) (.i 0))]) (.keep [0, 3, 4, 5, 7, 8, 14, 16, 17, 19, 21, 22, 40] (.cond (.t 40) (.seq (.reg
 [Xb 2 (.asg .fb)]) .ret) .skip))) (.keep [0, 3, 4, 5, 7, 8, 14, 16, 17, 19, 21, 22] (.seq (.seq (.reg [Xm 41 8, Xm 42 7, Xq 43 (.bin false .neq (.t 41) (.t 42))]) (.keep [0, 3, 4, 5, 7, 14, 16, 17, 19, 21, 22, 43] (.cond (.t 43) (.seq (.reg [Xb 2 (.asg .fb)]) .ret) .skip))) (.keep [0, 3, 4, 5, 7, 14, 16, 17, 19, 21, 22] (.seq (.reg [Xm 45 0, Xb 46 (.call (.fn 6) false [.lend (.t 45)]), Xa 44 46,
 Xq 47 (.ext 44 0), Xq 48 (.ext 44 1), Xa 9 47, Xa 10 48]) (.keep [3, 4, 5, 7, 9, 10, 14, 16, 17, 19, 21, 22, 44, 46, 47] (.seq (.seq (.reg [Xm 49 9, Xm 50 3, Xb 51 (.call (.fn 7) false [.lend (.t 49), .lend (.t 50)]), Xq 52 (.un .not (.t 51)), Xm 53 52, Xu 54 53 (.mov (.t 10)), Xu 55 53 (.mov (.t 4)), Xu 56 53 (.bin true .neq (.t 54) (.t 55)), Xq 57 (.pick (.t 53) .tb (.t 56))]) (.keep [5, 7, 19,
 21, 22, 57] (.cond (.t 57) (.seq (.reg [Xb 2 (.asg .fb)]) .ret) .skip))) (.keep [5, 7, 19, 21, 22] (.seq (.reg [Xb 8 (.asg (.i 1))]) (.keep [5, 7, 8, 19, 21, 22] (.seq (.reg [Xm 58 5, Xm 59 8, Xb 60 (.call (.fn 9) false [.lend (.t 58), .lend (.t 59)]), Xa 8 60]) (.keep [7, 8] (.seq (.seq (.reg [Xm 61 8, Xq 62 (.bin false .lss (.t 61) (.i 0))]) (.keep [7, 8, 62] (.cond (.t 62) (.seq (.reg [Xb 2
 (.asg .fb)]) .ret) .skip))) (.keep [7, 8] (.seq (.seq (.reg [Xm 63 8, Xm 64 7, Xq 65 (.bin false .neq (.t 63) (.t 64))]) (.keep [65] (.cond (.t 65) (.seq (.reg [Xb 2 (.asg .fb)]) .ret) .skip))) (.keep [] (.seq (.reg [Xb 2 (.asg .tb)]) .ret)))))))))))))))))))))))))))))))))))
theorem rdN_few (s : ByteArray) : ((rdN s).getD []).length ≤ 32 := by
  cases e : rdN s with
  | none => simp
  | some l => simpa using rdN_len e
set_option maxHeartbeats 1000000 in
set_option maxRecDepth 100000 in
theorem d3 (b : ByteArray) (hb : (b.size : Int) ≤ 9223372036854775807) : Does Go.Proofs.Tryd.prog 3 [.v (.string b)] false (.v (.bool true)) [.dead] := by
  have ds := d5 b hb
  have di := d6 b hb
  have bs : ∀ b : Bool, (b != b) = false := fun b => by cases b <;> rfl
  have hl := rdN_few b
  generalize (rdN b).getD [] = R at ds di hl
  generalize (rdN b).isSome = ok at ds di
  have dq := d7 R (by omega)
  have dm := d8 R 1 (by omega) (by omega)
  have dh := d9 R 1 (by omega) (by omega)
  have hk2 : decide (1 + 2 * (R.length : Int) < 0) = false := by simp; omega
  refine does_intro (mc := m3) (N := 66) (rs := [2]) (fx := []) 1 rfl (by decide +kernel) ?_
  simp only [m3, EV, Nat.reduceEqDiff, Nat.reduceBEq, Nat.reduceLT, Nat.reduceLeDiff, Nat.reduceAdd, Nat.reduceSub, reduceIte]
  refine cK_cut (fun h => ?_) (fun h => ?_)
  · simp only [EV, Nat.reduceEqDiff, Nat.reduceBEq, Nat.reduceLT, Nat.reduceLeDiff, Nat.reduceAdd, Nat.reduceSub, reduceIte]
    simp only [EV, Nat.reduceEqDiff, Nat.reduceBEq, Nat.reduceLT, Nat.reduceLeDiff, Nat.reduceAdd, Nat.reduceSub, reduceIte, evRE, retVC, cellV', evR, nfz, nfzs, nfzss, List.contains_nil, List.contains_cons, Bool.or_false, or_true]
  clear h
  simp only [EV, Nat.reduceEqDiff, Nat.reduceBEq, Nat.reduceLT, Nat.reduceLeDiff, Nat.reduceAdd, Nat.reduceSub, reduceIte]
  refine callK_i ds ?_
  simp only [Change.frz, EV, Nat.reduceEqDiff, Nat.reduceBEq, Nat.reduceLT, Nat.reduceLeDiff, Nat.reduceAdd, Nat.reduceSub, reduceIte]
  refine callK_i di ?_
  simp only [Change.frz, EV, Nat.reduceEqDiff, Nat.reduceBEq, Nat.reduceLT, Nat.reduceLeDiff, Nat.reduceAdd, Nat.reduceSub, reduceIte]
  refine callK_i dq ?_
  simp only [Change.frz, bs, EV, Nat.reduceEqDiff, Nat.reduceBEq, Nat.reduceLT, Nat.reduceLeDiff, Nat.reduceAdd, Nat.reduceSub, reduceIte]
  refine callK2_i dm rfl (by simp [shapeOf, mkChangeS_len]) ?_
  simp only [Change.frz, EV, Nat.reduceEqDiff, Nat.reduceBEq, Nat.reduceLT, Nat.reduceLeDiff, Nat.reduceAdd, Nat.reduceSub, reduceIte]
  refine callK_i dh ?_
  simp only [Change.frz, hk2, bs, EV, Nat.reduceEqDiff, Nat.reduceBEq, Nat.reduceLT, Nat.reduceLeDiff, Nat.reduceAdd, Nat.reduceSub, reduceIte]
  refine callK_i di ?_
  simp only [Change.frz, EV, Nat.reduceEqDiff, Nat.reduceBEq, Nat.reduceLT, Nat.reduceLeDiff, Nat.reduceAdd, Nat.reduceSub, reduceIte]
  refine callK_i dq ?_
  simp only [Change.frz, bs, EV, Nat.reduceEqDiff, Nat.reduceBEq, Nat.reduceLT, Nat.reduceLeDiff, Nat.reduceAdd, Nat.reduceSub, reduceIte]
  refine callK_i dh ?_
  simp only [Change.frz, hk2, bs, EV, Nat.reduceEqDiff, Nat.reduceBEq, Nat.reduceLT, Nat.reduceLeDiff, Nat.reduceAdd, Nat.reduceSub, reduceIte]
  simp only [EV, Nat.reduceEqDiff, Nat.reduceBEq, Nat.reduceLT, Nat.reduceLeDiff, Nat.reduceAdd, Nat.reduceSub, reduceIte, evRE, retVC, cellV', evR, nfz, nfzs, nfzss, List.contains_nil, List.contains_cons, Bool.or_false, or_true]
end Go.AM
