/- Contracts of functions of the given program, for the law FnExactFingerAt: what they return and what they write, under the bounds that each theorem states. -/
import Derived.Test.YtmacgaechjiecaaGreatG1
namespace Go.AM
set_option linter.unusedVariables false
set_option linter.unusedSimpArgs false
def eqTo {α : Type} (q : α → α → Bool) (a b : List α) (n : Nat) : Prop := ∀ j (ha : j < a.length) (hb : j < b.length), j < n → q a[j] b[j] = true
open Classical in
noncomputable def eqL {α : Type} (q : α → α → Bool) (a b : List α) : Bool := decide (a.length = b.length ∧ eqTo q a b a.length)
theorem eqTo_succ {α : Type} {q : α → α → Bool} {a b : List α} {i : Nat} {h1 : i < a.length} {h2 : i < b.length} (h : eqTo q a b i) (hq : q a[i] b[i] = true) : eqTo q a b (i + 1) := by
  intro j ha hb hj
  by_cases e : j = i
  · subst e; exact hq
  · exact h j ha hb (by omega)
theorem eqL_ne {α : Type} {q : α → α → Bool} {a b : List α} (h : ¬ a.length = b.length) : eqL q a b = false := by
  simp only [eqL, decide_eq_false_iff_not]
  rintro ⟨h1, _⟩
  exact h h1
theorem eqL_no {α : Type} {q : α → α → Bool} {a b : List α} {i : Nat} (h1 : i < a.length) (h2 : i < b.length) (hq : q a[i] b[i] = false) : eqL q a b = false := by
  simp only [eqL, decide_eq_false_iff_not]
  rintro ⟨_, h⟩
  have := h i h1 h2 h1
  rw [hq] at this; cases this
theorem eqL_yes {α : Type} {q : α → α → Bool} {a b : List α} (h : a.length = b.length) (h2 : eqTo q a b a.length) : eqL q a b = true := by
  simp only [eqL, decide_eq_true_eq]
  exact ⟨h, h2⟩
def qStr (x y : Str) : Bool := x.s.toList == y.s.toList
def qFd (x y : Fd) : Bool := x.name.toList == y.name.toList && (x.mark == y.mark && (x.typ == y.typ))
def qUs (x y : Us) : Bool := x.mod.toList == y.mod.toList && (x.name.toList == y.name.toList)
def m177 : MC :=
 (.seq (.reg [Xb 4 (.asg .fb)]) (.seq (.seq (.reg [Xm 6 0, Xn 7 6, Xm 8 1, Xn 9 8, Xq 10 (.bin false .neq (.t 7) (.t 9))]) (.cond (.t 10) (.seq (.reg [Xb 4 (.asg .fb)]) .ret) .skip)) (.seq (.seq (.reg [Xm 11 0, Xn 12 11, Xq 13 (.mov (.i 0))]) (.block 0 (.loop [0, 1, 12, 13] (.seq (.reg [Xq 14 (.bin false .lss (.t 13) (.t 12))]) (.seq (.cond (.t 14) .skip (.exit 0)) (.seq (.block 1 (.seq (.reg [Xm
 15 13, Xa 5 15]) (.seq (.dreg [Xm 16 0, Xm 17 5, Xi 18 1 16 17, Xl 19 1 18, Xm 20 1, Xm 21 5, Xi 22 1 20 21, Xl 23 1 22, Xq 24 (.bin false .neq (.t 19) (.t 23))]) (.cond (.t 24) (.seq (.reg [Xb 4 (.asg .fb)]) .ret) .skip)))) (.reg [Xq 25 (.bin false .add (.t 13) (.i 1)), Xm 13 25]))))))) (.seq (.reg [Xb 4 (.asg .tb)]) .ret))))
theorem d177 (a b : List Str) (ha : (a.length : Int) ≤ 1048576) (hb : (b.length : Int) ≤ 1048576) : Does Go.Proofs.Tryz.prog 177 [.fsl 1 (a.map Str.z), .fsl 1 (b.map Str.z)] false (.v (.bool (eqL qStr a b))) [.dead, .dead] := by
  refine does_intro (mc := m177) (N := 26) (rs := [4]) (fx := []) 2 rfl (by decide +kernel) ?_
  simp only [m177, EV, Nat.reduceEqDiff, Nat.reduceBEq, Nat.reduceLT, Nat.reduceLeDiff, Nat.reduceAdd, Nat.reduceSub, reduceIte]
  refine cK_cut (fun h => ?_) (fun h => ?_)
  · have h1 : ¬ a.length = b.length := by
      intro e; simp [e] at h
    simp only [EV, Nat.reduceEqDiff, Nat.reduceBEq, Nat.reduceLT, Nat.reduceLeDiff, Nat.reduceAdd, Nat.reduceSub, reduceIte]
    simp only [eqL_ne h1, EV, Nat.reduceEqDiff, Nat.reduceBEq, Nat.reduceLT, Nat.reduceLeDiff, Nat.reduceAdd, Nat.reduceSub, reduceIte, evRE, retVC, cellV', evR, nfz, nfzs, nfzss, List.contains_nil, List.contains_cons, Bool.or_false, or_true]
  · have hl : a.length = b.length := by
      have : ((a.length : Int) = b.length) := by simpa using h
      omega
    simp only [EV, Nat.reduceEqDiff, Nat.reduceBEq, Nat.reduceLT, Nat.reduceLeDiff, Nat.reduceAdd, Nat.reduceSub, reduceIte]
    refine awp_loop (fun i : Nat => i ≤ a.length ∧ eqTo qStr a b i) (fun i => stl [(0, .fsl 1 (a.map Str.z)), (1, .fsl 1 (b.map Str.z)), (12, .v (.int .i64 (a.length : Int))), (13, .v (.int .i64 (i : Int)))]) (fun i => a.length - i) 0 ⟨Nat.zero_le _, fun j _ _ h => absurd h (by omega)⟩ ?_ ?_
    · simp only [EV, Nat.reduceEqDiff, Nat.reduceBEq, Nat.reduceLT, Nat.reduceLeDiff, Nat.reduceAdd, Nat.reduceSub, reduceIte]
      rfl
    · rintro i ⟨hi, hto⟩
      simp only [EV, Nat.reduceEqDiff, Nat.reduceBEq, Nat.reduceLT, Nat.reduceLeDiff, Nat.reduceAdd, Nat.reduceSub, reduceIte]
      refine cK_cut (fun h => ?_) (fun h => ?_)
      · have h1 : i < a.length := by simpa using h
        have h2 : (i : Int) < (a.length : Int) := by omega
        have g1 : i < b.length := by omega
        have g2 : (i : Int) < (b.length : Int) := by omega
        simp only [nth_map h1, nth_map g1, h2, g2, Str.z, Bool.true_xor, EV, Nat.reduceEqDiff, Nat.reduceBEq, Nat.reduceLT, Nat.reduceLeDiff, Nat.reduceAdd, Nat.reduceSub, reduceIte]
        refine cK_cut (fun h => ?_) (fun h => ?_)
        · have hq : qStr a[i] b[i] = false := by unfold qStr; simp only [Bool.not_eq_true'] at h; exact h
          simp only [EV, Nat.reduceEqDiff, Nat.reduceBEq, Nat.reduceLT, Nat.reduceLeDiff, Nat.reduceAdd, Nat.reduceSub, reduceIte]
          simp only [eqL_no h1 g1 hq, EV, Nat.reduceEqDiff, Nat.reduceBEq, Nat.reduceLT, Nat.reduceLeDiff, Nat.reduceAdd, Nat.reduceSub, reduceIte, evRE, retVC, cellV', evR, nfz, nfzs, nfzss, List.contains_nil, List.contains_cons, Bool.or_false, or_true]
        · have hq : qStr a[i] b[i] = true := by unfold qStr; simp only [Bool.not_eq_false'] at h; exact h
          simp only [EV, Nat.reduceEqDiff, Nat.reduceBEq, Nat.reduceLT, Nat.reduceLeDiff, Nat.reduceAdd, Nat.reduceSub, reduceIte]
          rw [w64 _ (by omega)]
          exact ⟨i + 1, ⟨by omega, eqTo_succ hto hq⟩, by omega, rfl⟩
      · have h1 : i = a.length := by have : ¬ (i : Int) < a.length := by simpa using h
                                     omega
        subst h1
        simp only [EV, Nat.reduceEqDiff, Nat.reduceBEq, Nat.reduceLT, Nat.reduceLeDiff, Nat.reduceAdd, Nat.reduceSub, reduceIte]
        simp only [eqL_yes hl hto, EV, Nat.reduceEqDiff, Nat.reduceBEq, Nat.reduceLT, Nat.reduceLeDiff, Nat.reduceAdd, Nat.reduceSub, reduceIte, evRE, retVC, cellV', evR, nfz, nfzs, nfzss, List.contains_nil, List.contains_cons, Bool.or_false, or_true]
def m226 : MC :=
 (.seq (.reg [Xb 4 (.asg .fb)]) (.seq (.seq (.reg [Xm 6 0, Xn 7 6, Xm 8 1, Xn 9 8, Xq 10 (.bin false .neq (.t 7) (.t 9))]) (.cond (.t 10) (.seq (.reg [Xb 4 (.asg .fb)]) .ret) .skip)) (.seq (.seq (.reg [Xm 11 0, Xn 12 11, Xq 13 (.mov (.i 0))]) (.block 0 (.loop [0, 1, 12, 13] (.seq (.reg [Xq 14 (.bin false .lss (.t 13) (.t 12))]) (.seq (.cond (.t 14) .skip (.exit 0)) (.seq (.block 1 (.seq (.reg [Xm
 15 13, Xa 5 15]) (.seq (.dreg [Xm 16 0, Xm 17 5, Xi 18 3 16 17, XL 19 3 18, Xm 20 1, Xm 21 5, Xi 22 3 20 21, XL 23 3 22, Xq 24 (.eqa true [1, 0, 0] (.t 19) (.t 23))]) (.cond (.t 24) (.seq (.reg [Xb 4 (.asg .fb)]) .ret) .skip)))) (.reg [Xq 25 (.bin false .add (.t 13) (.i 1)), Xm 13 25]))))))) (.seq (.reg [Xb 4 (.asg .tb)]) .ret))))
theorem d226 (a b : List Fd) (ha : (a.length : Int) ≤ 1048576) (hb : (b.length : Int) ≤ 1048576) : Does Go.Proofs.Tryz.prog 226 [.fsl 3 (a.map Fd.z), .fsl 3 (b.map Fd.z)] false (.v (.bool (eqL qFd a b))) [.dead, .dead] := by
  refine does_intro (mc := m226) (N := 26) (rs := [4]) (fx := []) 2 rfl (by decide +kernel) ?_
  simp only [m226, EV, Nat.reduceEqDiff, Nat.reduceBEq, Nat.reduceLT, Nat.reduceLeDiff, Nat.reduceAdd, Nat.reduceSub, reduceIte]
  refine cK_cut (fun h => ?_) (fun h => ?_)
  · have h1 : ¬ a.length = b.length := by
      intro e; simp [e] at h
    simp only [EV, Nat.reduceEqDiff, Nat.reduceBEq, Nat.reduceLT, Nat.reduceLeDiff, Nat.reduceAdd, Nat.reduceSub, reduceIte]
    simp only [eqL_ne h1, EV, Nat.reduceEqDiff, Nat.reduceBEq, Nat.reduceLT, Nat.reduceLeDiff, Nat.reduceAdd, Nat.reduceSub, reduceIte, evRE, retVC, cellV', evR, nfz, nfzs, nfzss, List.contains_nil, List.contains_cons, Bool.or_false, or_true]
  · have hl : a.length = b.length := by
      have : ((a.length : Int) = b.length) := by simpa using h
      omega
    simp only [EV, Nat.reduceEqDiff, Nat.reduceBEq, Nat.reduceLT, Nat.reduceLeDiff, Nat.reduceAdd, Nat.reduceSub, reduceIte]
    refine awp_loop (fun i : Nat => i ≤ a.length ∧ eqTo qFd a b i) (fun i => stl [(0, .fsl 3 (a.map Fd.z)), (1, .fsl 3 (b.map Fd.z)), (12, .v (.int .i64 (a.length : Int))), (13, .v (.int .i64 (i : Int)))]) (fun i => a.length - i) 0 ⟨Nat.zero_le _, fun j _ _ h => absurd h (by omega)⟩ ?_ ?_
    · simp only [EV, Nat.reduceEqDiff, Nat.reduceBEq, Nat.reduceLT, Nat.reduceLeDiff, Nat.reduceAdd, Nat.reduceSub, reduceIte]
      rfl
    · rintro i ⟨hi, hto⟩
      simp only [EV, Nat.reduceEqDiff, Nat.reduceBEq, Nat.reduceLT, Nat.reduceLeDiff, Nat.reduceAdd, Nat.reduceSub, reduceIte]
      refine cK_cut (fun h => ?_) (fun h => ?_)
      · have h1 : i < a.length := by simpa using h
        have h2 : (i : Int) < (a.length : Int) := by omega
        have g1 : i < b.length := by omega
        have g2 : (i : Int) < (b.length : Int) := by omega
        simp only [nth_map h1, nth_map g1, h2, g2, Fd.z, Bool.true_xor, EV, Nat.reduceEqDiff, Nat.reduceBEq, Nat.reduceLT, Nat.reduceLeDiff, Nat.reduceAdd, Nat.reduceSub, reduceIte]
        refine cK_cut (fun h => ?_) (fun h => ?_)
        · have hq : qFd a[i] b[i] = false := by unfold qFd; simp only [Bool.not_eq_true'] at h; exact h
          simp only [EV, Nat.reduceEqDiff, Nat.reduceBEq, Nat.reduceLT, Nat.reduceLeDiff, Nat.reduceAdd, Nat.reduceSub, reduceIte]
          simp only [eqL_no h1 g1 hq, EV, Nat.reduceEqDiff, Nat.reduceBEq, Nat.reduceLT, Nat.reduceLeDiff, Nat.reduceAdd, Nat.reduceSub, reduceIte, evRE, retVC, cellV', evR, nfz, nfzs, nfzss, List.contains_nil, List.contains_cons, Bool.or_false, or_true]
        · have hq : qFd a[i] b[i] = true := by unfold qFd; simp only [Bool.not_eq_false'] at h; exact h
          simp only [EV, Nat.reduceEqDiff, Nat.reduceBEq, Nat.reduceLT, Nat.reduceLeDiff, Nat.reduceAdd, Nat.reduceSub, reduceIte]
          rw [w64 _ (by omega)]
          exact ⟨i + 1, ⟨by omega, eqTo_succ hto hq⟩, by omega, rfl⟩
      · have h1 : i = a.length := by have : ¬ (i : Int) < a.length := by simpa using h
                                     omega
        subst h1
        simp only [EV, Nat.reduceEqDiff, Nat.reduceBEq, Nat.reduceLT, Nat.reduceLeDiff, Nat.reduceAdd, Nat.reduceSub, reduceIte]
        simp only [eqL_yes hl hto, EV, Nat.reduceEqDiff, Nat.reduceBEq, Nat.reduceLT, Nat.reduceLeDiff, Nat.reduceAdd, Nat.reduceSub, reduceIte, evRE, retVC, cellV', evR, nfz, nfzs, nfzss, List.contains_nil, List.contains_cons, Bool.or_false, or_true]
def m185 : MC :=
 (.seq (.reg [Xb 6 (.asg .fb)]) (.seq (.seq (.reg [Xm 10 0, Xn 11 10, Xm 12 1, Xn 13 12, Xq 14 (.bin false .neq (.t 11) (.t 13))]) (.cond (.t 14) (.seq (.reg [Xb 6 (.asg .fb)]) .ret) .skip)) (.seq (.seq (.reg [Xm 15 0, Xn 16 15, Xq 17 (.mov (.i 0))]) (.block 0 (.loop [0, 1, 2, 15, 16, 17] (.seq (.reg [Xq 18 (.bin false .lss (.t 17) (.t 16))]) (.seq (.cond (.t 18) .skip (.exit 0)) (.seq (.block 1
 (.seq (.reg [Xm 19 17, Xi 20 6 15 17, XL 21 6 20, Xb 8 (.alloc 40 [.i, .i, .i, .s 97 3, .z, .z]), Xa 7 19, Xz (.store 6 (.t 8) (.t 21))]) (.seq (.reg [Xm 22 1, Xm 23 7, Xi 24 6 22 23, XL 25 6 24, Xb 9 (.alloc 40 [.i, .i, .i, .s 97 3, .z, .z]), Xz (.store 6 (.t 9) (.t 25))]) (.seq (.reg [Xm 26 2, XL 27 6 8, XL 28 6 9, Xb 29 (.call (.t 26) false [.lend (.t 27), .lend (.t 28)]), Xq 30 (.un .not (.t
 29))]) (.cond (.t 30) (.seq (.reg [Xb 6 (.asg .fb)]) .ret) .skip))))) (.reg [Xq 31 (.bin false .add (.t 17) (.i 1)), Xm 17 31]))))))) (.seq (.reg [Xb 6 (.asg .tb)]) .ret))))
set_option maxRecDepth 100000 in
theorem d185 (a b : List Ty) (ha : (a.length : Int) ≤ 1048576) (hb : (b.length : Int) ≤ 1048576) (f : Nat) (q : Ty → Ty → Bool) (hq : ∀ x ∈ a, ∀ y ∈ b, Does Go.Proofs.Tryz.prog f [.agg x.z, .agg y.z] false (.v (.bool (q x y))) [.dead, .dead]) :
    Does Go.Proofs.Tryz.prog 185 [.fsl 6 (a.map Ty.z), .fsl 6 (b.map Ty.z), .clo f []] false (.v (.bool (eqL q a b))) [.dead, .dead, .dead] := by
  refine does_intro (mc := m185) (N := 32) (rs := [6]) (fx := []) 3 rfl (by decide +kernel) ?_
  simp only [m185, EV, Nat.reduceEqDiff, Nat.reduceBEq, Nat.reduceLT, Nat.reduceLeDiff, Nat.reduceAdd, Nat.reduceSub, reduceIte]
  refine cK_cut (fun h => ?_) (fun h => ?_)
  · have h1 : ¬ a.length = b.length := by
      intro e; simp [e] at h
    simp only [EV, Nat.reduceEqDiff, Nat.reduceBEq, Nat.reduceLT, Nat.reduceLeDiff, Nat.reduceAdd, Nat.reduceSub, reduceIte]
    simp only [eqL_ne h1, EV, Nat.reduceEqDiff, Nat.reduceBEq, Nat.reduceLT, Nat.reduceLeDiff, Nat.reduceAdd, Nat.reduceSub, reduceIte, evRE, retVC, cellV', evR, nfz, nfzs, nfzss, List.contains_nil, List.contains_cons, Bool.or_false, or_true]
  · have hl : a.length = b.length := by
      have : ((a.length : Int) = b.length) := by simpa using h
      omega
    simp only [EV, Nat.reduceEqDiff, Nat.reduceBEq, Nat.reduceLT, Nat.reduceLeDiff, Nat.reduceAdd, Nat.reduceSub, reduceIte]
    refine awp_loop (fun i : Nat => i ≤ a.length ∧ eqTo q a b i) (fun i => stl [(0, .fsl 6 (a.map Ty.z)), (1, .fsl 6 (b.map Ty.z)), (2, .clo f []), (15, .fsl 6 (a.map Ty.z)), (16, .v (.int .i64 (a.length : Int))), (17, .v (.int .i64 (i : Int)))]) (fun i => a.length - i) 0 ⟨Nat.zero_le _, fun j _ _ h => absurd h (by omega)⟩ ?_ ?_
    · simp only [EV, Nat.reduceEqDiff, Nat.reduceBEq, Nat.reduceLT, Nat.reduceLeDiff, Nat.reduceAdd, Nat.reduceSub, reduceIte]
      rfl
    · rintro i ⟨hi, hto⟩
      simp only [EV, Nat.reduceEqDiff, Nat.reduceBEq, Nat.reduceLT, Nat.reduceLeDiff, Nat.reduceAdd, Nat.reduceSub, reduceIte]
      refine cK_cut (fun h => ?_) (fun h => ?_)
      · have h1 : i < a.length := by simpa using h
        have h2 : (i : Int) < (a.length : Int) := by omega
        have g1 : i < b.length := by omega
        have g2 : (i : Int) < (b.length : Int) := by omega
        simp only [nth_map h1, nth_map g1, h2, g2, Ty.z, EV, Nat.reduceEqDiff, Nat.reduceBEq, Nat.reduceLT, Nat.reduceLeDiff, Nat.reduceAdd, Nat.reduceSub, reduceIte]
        refine callK_i (hq a[i] (List.getElem_mem h1) b[i] (List.getElem_mem g1)) ?_
        simp only [EV, Nat.reduceEqDiff, Nat.reduceBEq, Nat.reduceLT, Nat.reduceLeDiff, Nat.reduceAdd, Nat.reduceSub, reduceIte]
        refine cK_cut (fun h => ?_) (fun h => ?_)
        · have hq : q a[i] b[i] = false := by simpa using h
          simp only [EV, Nat.reduceEqDiff, Nat.reduceBEq, Nat.reduceLT, Nat.reduceLeDiff, Nat.reduceAdd, Nat.reduceSub, reduceIte]
          simp only [eqL_no h1 g1 hq, EV, Nat.reduceEqDiff, Nat.reduceBEq, Nat.reduceLT, Nat.reduceLeDiff, Nat.reduceAdd, Nat.reduceSub, reduceIte, evRE, retVC, cellV', evR, nfz, nfzs, nfzss, List.contains_nil, List.contains_cons, Bool.or_false, or_true]
        · have hq : q a[i] b[i] = true := by simpa using h
          simp only [EV, Nat.reduceEqDiff, Nat.reduceBEq, Nat.reduceLT, Nat.reduceLeDiff, Nat.reduceAdd, Nat.reduceSub, reduceIte]
          rw [w64 _ (by omega)]
          exact ⟨i + 1, ⟨by omega, eqTo_succ hto hq⟩, by omega, rfl⟩
      · have h1 : i = a.length := by have : ¬ (i : Int) < a.length := by simpa using h
                                     omega
        subst h1
        simp only [EV, Nat.reduceEqDiff, Nat.reduceBEq, Nat.reduceLT, Nat.reduceLeDiff, Nat.reduceAdd, Nat.reduceSub, reduceIte]
        simp only [eqL_yes hl hto, EV, Nat.reduceEqDiff, Nat.reduceBEq, Nat.reduceLT, Nat.reduceLeDiff, Nat.reduceAdd, Nat.reduceSub, reduceIte, evRE, retVC, cellV', evR, nfz, nfzs, nfzss, List.contains_nil, List.contains_cons, Bool.or_false, or_true]
end Go.AM
namespace Go.AM
set_option linter.unusedVariables false
set_option linter.unusedSimpArgs false
noncomputable def sameTy (x y : Ty) : Bool := ((x.kind == y.kind) && ((x.long == y.long) && ((x.base == y.base) && ((eqL qFd x.fields y.fields) && ((x.owner.toList == y.owner.toList) && (x.name.toList == y.name.toList))))))
def m186 : MC :=
 (.seq (.reg [Xb 2 (.box 40 (.t 0)), Xb 3 (.box 40 (.t 1)), Xb 4 (.asg .fb)]) (.seq (.reg [Xf 5 0 2, Xl 6 1 5, Xf 7 0 3, Xl 8 1 7, Xq 9 (.bin false .eql (.t 6) (.t 8)), Xm 10 9, Xt 11 10 (.fad 1 (.t 2)), Xt 12 10 (.load false 1 (.t 11)), Xt 13 10 (.fad 1 (.t 3)), Xt 14 10 (.load false 1 (.t 13)), Xt 15 10 (.bin false .eql (.t 12) (.t 14)), Xq 16 (.pick (.t 10) (.t 15) .fb), Xm 17 16, Xt 18 17 (.fad
 2 (.t 2)), Xt 19 17 (.load false 1 (.t 18)), Xt 20 17 (.fad 2 (.t 3)), Xt 21 17 (.load false 1 (.t 20)), Xt 22 17 (.bin false .eql (.t 19) (.t 21)), Xq 23 (.pick (.t 17) (.t 22) .fb), Xm 24 23, Xt 25 24 (.fad 3 (.t 2)), Xt 26 24 (.load false 1 (.t 25)), Xt 27 24 (.fad 3 (.t 3)), Xt 28 24 (.load false 1 (.t 27)), XT 29 24 (.call (.fn 226) false [.lend (.t 26), .lend (.t 28)]), Xq 30 (.pick (.t 24)
 (.t 29) .fb), Xm 31 30, Xt 32 31 (.fad 4 (.t 2)), Xt 33 31 (.load false 1 (.t 32)), Xt 34 31 (.fad 4 (.t 3)), Xt 35 31 (.load false 1 (.t 34)), Xt 36 31 (.bin false .eql (.t 33) (.t 35)), Xq 37 (.pick (.t 31) (.t 36) .fb), Xm 38 37, Xt 39 38 (.fad 5 (.t 2)), Xt 40 38 (.load false 1 (.t 39)), Xt 41 38 (.fad 5 (.t 3)), Xt 42 38 (.load false 1 (.t 41)), Xt 43 38 (.bin false .eql (.t 40) (.t 42)), Xq
 44 (.pick (.t 38) (.t 43) .fb), Xa 4 44]) .ret))
set_option maxRecDepth 100000 in
theorem d186 (x y : Ty) (hx : x.sm) (hy : y.sm) : Does Go.Proofs.Tryz.prog 186 [.agg x.z, .agg y.z] false (.v (.bool (sameTy x y))) [.dead, .dead] := by
  unfold Ty.sm at hx hy
  refine does_intro (mc := m186) (N := 45) (rs := [4]) (fx := []) 2 rfl (by decide +kernel) ?_
  simp only [m186, Ty.z, EV, Nat.reduceEqDiff, Nat.reduceBEq, Nat.reduceLT, Nat.reduceLeDiff, Nat.reduceAdd, Nat.reduceSub, reduceIte]
  repeat' (first
    | (refine gK_cut (fun h => ?_) (fun h => ?_) <;> simp only [h, EV, Nat.reduceEqDiff, Nat.reduceBEq, Nat.reduceLT, Nat.reduceLeDiff, Nat.reduceAdd, Nat.reduceSub, reduceIte])
    | (refine cK_cut (fun h => ?_) (fun h => ?_) <;> simp only [h, EV, Nat.reduceEqDiff, Nat.reduceBEq, Nat.reduceLT, Nat.reduceLeDiff, Nat.reduceAdd, Nat.reduceSub, reduceIte])
    | (refine callK_i (d226 _ _ (by omega) (by omega)) ?_ <;> simp only [h, EV, Nat.reduceEqDiff, Nat.reduceBEq, Nat.reduceLT, Nat.reduceLeDiff, Nat.reduceAdd, Nat.reduceSub, reduceIte]))
  all_goals simp only [sameTy, *, Bool.true_and, Bool.false_and, Bool.and_true, Bool.and_false, Bool.and_self, EV, Nat.reduceEqDiff, Nat.reduceBEq, Nat.reduceLT, Nat.reduceLeDiff, Nat.reduceAdd, Nat.reduceSub, reduceIte, evRE, retVC, cellV', evR, nfz, nfzs, nfzss, List.contains_nil, List.contains_cons, Bool.or_false, or_true]
end Go.AM
namespace Go.AM
set_option linter.unusedVariables false
set_option linter.unusedSimpArgs false
def findI {α : Type} (q : α → Bool) (l : List α) : Int := match l.findIdx? q with | some i => i | none => -1
theorem findI_at {α : Type} {q : α → Bool} {l : List α} {i : Nat} (h : i < l.length) (h1 : q l[i] = true) (h2 : ∀ j (hj : j < l.length), j < i → q l[j] = false) : findI q l = i := by
  have : l.findIdx? q = some i := by
    rw [List.findIdx?_eq_some_iff_getElem]
    exact ⟨h, h1, fun j hj => by simp [h2 j (by omega) hj]⟩
  simp [findI, this]
theorem findI_no {α : Type} {q : α → Bool} {l : List α} (h2 : ∀ j (hj : j < l.length), q l[j] = false) : findI q l = -1 := by
  have : l.findIdx? q = none := by
    rw [List.findIdx?_eq_none_iff]
    intro x hx
    obtain ⟨j, hj, rfl⟩ := List.getElem_of_mem hx
    exact h2 j hj
  simp [findI, this]
theorem findI_any {α : Type} {q : α → Bool} {l : List α} : decide (0 ≤ findI q l) = l.any q := by
  unfold findI
  cases h : l.findIdx? q with
  | none =>
    rw [List.findIdx?_eq_none_iff] at h
    have : l.any q = false := by simp only [List.any_eq_false]; intro x hx; simp [h x hx]
    simp [this]
  | some i =>
    rw [List.findIdx?_eq_some_iff_getElem] at h
    obtain ⟨hi, h1, _⟩ := h
    have : l.any q = true := by rw [List.any_eq_true]; exact ⟨l[i], List.getElem_mem hi, h1⟩
    simp only [this]
    simp
def m227 : MC :=
 (.seq (.reg [Xb 4 (.asg (.i 0))]) (.seq (.seq (.reg [Xm 6 0, Xn 7 6, Xq 8 (.mov (.i 0))]) (.block 0 (.loop [0, 1, 7, 8] (.seq (.reg [Xq 9 (.bin false .lss (.t 8) (.t 7))]) (.seq (.cond (.t 9) .skip (.exit 0)) (.seq (.block 1 (.seq (.reg [Xm 10 8, Xa 5 10]) (.seq (.reg [Xm 11 1, Xm 12 0, Xm 13 5, Xi 14 6 12 13, XL 15 6 14, Xb 16 (.call (.t 11) false [.lend (.t 15)])]) (.cond (.t 16) (.seq (.reg [Xm
 17 5, Xa 4 17]) .ret) .skip)))) (.reg [Xq 18 (.bin false .add (.t 8) (.i 1)), Xm 8 18]))))))) (.seq (.reg [Xb 4 (.asg (.i (-1)))]) .ret)))
theorem d227 (l : List Ty) (hl : l.length < 9223372036854775807) (f : Nat) (caps : List AV) (q : Ty → Bool) (hp : plains caps = true) (hb : bares caps = true) (hk : ∀ K, killVs K caps = caps) (hf : ∀ (st : St), frzBs st caps = caps)
    (hq : ∀ s ∈ l, Does Go.Proofs.Tryz.prog f (.agg s.z :: caps) false (.v (.bool (q s))) (.dead :: caps.map fun _ => .dead)) :
    Does Go.Proofs.Tryz.prog 227 [.fsl 6 (l.map Ty.z), .clo f caps] false (.v (.int .i64 (findI q l))) [.dead, .dead] := by
  refine does_intro (mc := m227) (N := 19) (rs := [4]) (fx := []) 2 rfl (by decide +kernel) ?_
  simp only [m227, EV, Nat.reduceEqDiff, Nat.reduceBEq, Nat.reduceLT, Nat.reduceLeDiff, Nat.reduceAdd, Nat.reduceSub, reduceIte]
  refine awp_loop (fun i : Nat => i ≤ l.length ∧ ∀ j (hj : j < l.length), j < i → q l[j] = false) (fun i => stl [(0, .fsl 6 (l.map Ty.z)), (1, .clo f caps), (7, .v (.int .i64 (l.length : Int))), (8, .v (.int .i64 (i : Int)))]) (fun i => l.length - i) 0 ⟨Nat.zero_le _, fun j hj h => absurd h (by omega)⟩ ?_ ?_
  · simp only [hp, hb, hk, EV, Nat.reduceEqDiff, Nat.reduceBEq, Nat.reduceLT, Nat.reduceLeDiff, Nat.reduceAdd, Nat.reduceSub, reduceIte]
    rfl
  · rintro i ⟨hi, hno⟩
    simp only [EV, Nat.reduceEqDiff, Nat.reduceBEq, Nat.reduceLT, Nat.reduceLeDiff, Nat.reduceAdd, Nat.reduceSub, reduceIte]
    refine cK_cut (fun h => ?_) (fun h => ?_)
    · have h1 : i < l.length := by simpa using h
      have h2 : (i : Int) < (l.length : Int) := by omega
      simp only [TyE, nth_map h1, h2, hp, hb, EV, Nat.reduceEqDiff, Nat.reduceBEq, Nat.reduceLT, Nat.reduceLeDiff, Nat.reduceAdd, Nat.reduceSub, reduceIte]
      refine callK_i (hq l[i] (List.getElem_mem h1)) ?_
      simp only [EV, Nat.reduceEqDiff, Nat.reduceBEq, Nat.reduceLT, Nat.reduceLeDiff, Nat.reduceAdd, Nat.reduceSub, reduceIte]
      refine cK_cut (fun h => ?_) (fun h => ?_)
      · simp only [EV, Nat.reduceEqDiff, Nat.reduceBEq, Nat.reduceLT, Nat.reduceLeDiff, Nat.reduceAdd, Nat.reduceSub, reduceIte]
        simp only [findI_at h1 h hno, EV, Nat.reduceEqDiff, Nat.reduceBEq, Nat.reduceLT, Nat.reduceLeDiff, Nat.reduceAdd, Nat.reduceSub, reduceIte, evRE, retVC, cellV', evR, nfz, nfzs, nfzss, List.contains_nil, List.contains_cons, Bool.or_false, or_true]
      · simp only [hp, hb, hk, EV, Nat.reduceEqDiff, Nat.reduceBEq, Nat.reduceLT, Nat.reduceLeDiff, Nat.reduceAdd, Nat.reduceSub, reduceIte]
        rw [w64 _ (by omega)]
        refine ⟨i + 1, ⟨by omega, ?_⟩, by omega, rfl⟩
        intro j hj hji
        by_cases e : j = i
        · subst e; exact h
        · exact hno j hj (by omega)
    · have h1 : i = l.length := by have : ¬ (i : Int) < l.length := by simpa using h
                                   omega
      subst h1
      simp only [EV, Nat.reduceEqDiff, Nat.reduceBEq, Nat.reduceLT, Nat.reduceLeDiff, Nat.reduceAdd, Nat.reduceSub, reduceIte]
      simp only [findI_no (fun j hj => hno j hj hj), EV, Nat.reduceEqDiff, Nat.reduceBEq, Nat.reduceLT, Nat.reduceLeDiff, Nat.reduceAdd, Nat.reduceSub, reduceIte, evRE, retVC, cellV', evR, nfz, nfzs, nfzss, List.contains_nil, List.contains_cons, Bool.or_false, or_true]
def m187 : MC :=
 (.seq (.reg [Xb 4 (.asg .fb)]) (.seq (.reg [Xm 5 0, Xm 6 1, Xb 7 (.call (.fn 227) false [.lend (.t 5), .lend (.t 6)]), Xq 8 (.bin false .geq (.t 7) (.i 0)), Xa 4 8]) .ret))
theorem d187 (l : List Ty) (hl : l.length < 9223372036854775807) (f : Nat) (caps : List AV) (q : Ty → Bool) (hp : plains caps = true) (hb : bares caps = true) (hk : ∀ K, killVs K caps = caps) (hf : ∀ (st : St), frzBs st caps = caps)
    (hq : ∀ s ∈ l, Does Go.Proofs.Tryz.prog f (.agg s.z :: caps) false (.v (.bool (q s))) (.dead :: caps.map fun _ => .dead)) :
    Does Go.Proofs.Tryz.prog 187 [.fsl 6 (l.map Ty.z), .clo f caps] false (.v (.bool (l.any q))) [.dead, .dead] := by
  refine does_intro (mc := m187) (N := 9) (rs := [4]) (fx := []) 2 rfl (by decide +kernel) ?_
  simp only [m187, hp, hb, hk, hf, EV, Nat.reduceEqDiff, Nat.reduceBEq, Nat.reduceLT, Nat.reduceLeDiff, Nat.reduceAdd, Nat.reduceSub, reduceIte]
  refine callK_i (d227 l hl f caps q hp hb hk hf hq) ?_
  simp only [EV, Nat.reduceEqDiff, Nat.reduceBEq, Nat.reduceLT, Nat.reduceLeDiff, Nat.reduceAdd, Nat.reduceSub, reduceIte]
  simp only [findI_any, EV, Nat.reduceEqDiff, Nat.reduceBEq, Nat.reduceLT, Nat.reduceLeDiff, Nat.reduceAdd, Nat.reduceSub, reduceIte, evRE, retVC, cellV', evR, nfz, nfzs, nfzss, List.contains_nil, List.contains_cons, Bool.or_false, or_true]
def m285 : MC :=
 (.seq (.reg [Xb 4 (.asg (.i 0))]) (.seq (.seq (.reg [Xm 6 0, Xn 7 6, Xq 8 (.mov (.i 0))]) (.block 0 (.loop [0, 1, 7, 8] (.seq (.reg [Xq 9 (.bin false .lss (.t 8) (.t 7))]) (.seq (.cond (.t 9) .skip (.exit 0)) (.seq (.block 1 (.seq (.reg [Xm 10 8, Xa 5 10]) (.seq (.reg [Xm 11 1, Xm 12 0, Xm 13 5, Xi 14 3 12 13, XL 15 3 14, Xb 16 (.call (.t 11) false [.lend (.t 15)])]) (.cond (.t 16) (.seq (.reg [Xm
 17 5, Xa 4 17]) .ret) .skip)))) (.reg [Xq 18 (.bin false .add (.t 8) (.i 1)), Xm 8 18]))))))) (.seq (.reg [Xb 4 (.asg (.i (-1)))]) .ret)))
theorem d285 (l : List Fd) (hl : l.length < 9223372036854775807) (f : Nat) (caps : List AV) (q : Fd → Bool) (hp : plains caps = true) (hb : bares caps = true) (hk : ∀ K, killVs K caps = caps) (hf : ∀ (st : St), frzBs st caps = caps)
    (hq : ∀ s ∈ l, Does Go.Proofs.Tryz.prog f (.agg s.z :: caps) false (.v (.bool (q s))) (.dead :: caps.map fun _ => .dead)) :
    Does Go.Proofs.Tryz.prog 285 [.fsl 3 (l.map Fd.z), .clo f caps] false (.v (.int .i64 (findI q l))) [.dead, .dead] := by
  refine does_intro (mc := m285) (N := 19) (rs := [4]) (fx := []) 2 rfl (by decide +kernel) ?_
  simp only [m285, EV, Nat.reduceEqDiff, Nat.reduceBEq, Nat.reduceLT, Nat.reduceLeDiff, Nat.reduceAdd, Nat.reduceSub, reduceIte]
  refine awp_loop (fun i : Nat => i ≤ l.length ∧ ∀ j (hj : j < l.length), j < i → q l[j] = false) (fun i => stl [(0, .fsl 3 (l.map Fd.z)), (1, .clo f caps), (7, .v (.int .i64 (l.length : Int))), (8, .v (.int .i64 (i : Int)))]) (fun i => l.length - i) 0 ⟨Nat.zero_le _, fun j hj h => absurd h (by omega)⟩ ?_ ?_
  · simp only [hp, hb, hk, EV, Nat.reduceEqDiff, Nat.reduceBEq, Nat.reduceLT, Nat.reduceLeDiff, Nat.reduceAdd, Nat.reduceSub, reduceIte]
    rfl
  · rintro i ⟨hi, hno⟩
    simp only [EV, Nat.reduceEqDiff, Nat.reduceBEq, Nat.reduceLT, Nat.reduceLeDiff, Nat.reduceAdd, Nat.reduceSub, reduceIte]
    refine cK_cut (fun h => ?_) (fun h => ?_)
    · have h1 : i < l.length := by simpa using h
      have h2 : (i : Int) < (l.length : Int) := by omega
      simp only [FdE, nth_map h1, h2, hp, hb, EV, Nat.reduceEqDiff, Nat.reduceBEq, Nat.reduceLT, Nat.reduceLeDiff, Nat.reduceAdd, Nat.reduceSub, reduceIte]
      refine callK_i (hq l[i] (List.getElem_mem h1)) ?_
      simp only [EV, Nat.reduceEqDiff, Nat.reduceBEq, Nat.reduceLT, Nat.reduceLeDiff, Nat.reduceAdd, Nat.reduceSub, reduceIte]
      refine cK_cut (fun h => ?_) (fun h => ?_)
      · simp only [EV, Nat.reduceEqDiff, Nat.reduceBEq, Nat.reduceLT, Nat.reduceLeDiff, Nat.reduceAdd, Nat.reduceSub, reduceIte]
        simp only [findI_at h1 h hno, EV, Nat.reduceEqDiff, Nat.reduceBEq, Nat.reduceLT, Nat.reduceLeDiff, Nat.reduceAdd, Nat.reduceSub, reduceIte, evRE, retVC, cellV', evR, nfz, nfzs, nfzss, List.contains_nil, List.contains_cons, Bool.or_false, or_true]
      · simp only [hp, hb, hk, EV, Nat.reduceEqDiff, Nat.reduceBEq, Nat.reduceLT, Nat.reduceLeDiff, Nat.reduceAdd, Nat.reduceSub, reduceIte]
        rw [w64 _ (by omega)]
        refine ⟨i + 1, ⟨by omega, ?_⟩, by omega, rfl⟩
        intro j hj hji
        by_cases e : j = i
        · subst e; exact h
        · exact hno j hj (by omega)
    · have h1 : i = l.length := by have : ¬ (i : Int) < l.length := by simpa using h
                                   omega
      subst h1
      simp only [EV, Nat.reduceEqDiff, Nat.reduceBEq, Nat.reduceLT, Nat.reduceLeDiff, Nat.reduceAdd, Nat.reduceSub, reduceIte]
      simp only [findI_no (fun j hj => hno j hj hj), EV, Nat.reduceEqDiff, Nat.reduceBEq, Nat.reduceLT, Nat.reduceLeDiff, Nat.reduceAdd, Nat.reduceSub, reduceIte, evRE, retVC, cellV', evR, nfz, nfzs, nfzss, List.contains_nil, List.contains_cons, Bool.or_false, or_true]
def m266 : MC :=
 (.seq (.reg [Xb 4 (.asg .fb)]) (.seq (.reg [Xm 5 0, Xm 6 1, Xb 7 (.call (.fn 285) false [.lend (.t 5), .lend (.t 6)]), Xq 8 (.bin false .geq (.t 7) (.i 0)), Xa 4 8]) .ret))
theorem d266 (l : List Fd) (hl : l.length < 9223372036854775807) (f : Nat) (caps : List AV) (q : Fd → Bool) (hp : plains caps = true) (hb : bares caps = true) (hk : ∀ K, killVs K caps = caps) (hf : ∀ (st : St), frzBs st caps = caps)
    (hq : ∀ s ∈ l, Does Go.Proofs.Tryz.prog f (.agg s.z :: caps) false (.v (.bool (q s))) (.dead :: caps.map fun _ => .dead)) :
    Does Go.Proofs.Tryz.prog 266 [.fsl 3 (l.map Fd.z), .clo f caps] false (.v (.bool (l.any q))) [.dead, .dead] := by
  refine does_intro (mc := m266) (N := 9) (rs := [4]) (fx := []) 2 rfl (by decide +kernel) ?_
  simp only [m266, hp, hb, hk, hf, EV, Nat.reduceEqDiff, Nat.reduceBEq, Nat.reduceLT, Nat.reduceLeDiff, Nat.reduceAdd, Nat.reduceSub, reduceIte]
  refine callK_i (d285 l hl f caps q hp hb hk hf hq) ?_
  simp only [EV, Nat.reduceEqDiff, Nat.reduceBEq, Nat.reduceLT, Nat.reduceLeDiff, Nat.reduceAdd, Nat.reduceSub, reduceIte]
  simp only [findI_any, EV, Nat.reduceEqDiff, Nat.reduceBEq, Nat.reduceLT, Nat.reduceLeDiff, Nat.reduceAdd, Nat.reduceSub, reduceIte, evRE, retVC, cellV', evR, nfz, nfzs, nfzss, List.contains_nil, List.contains_cons, Bool.or_false, or_true]
def tyNm (x o : Ty) : Bool := o.name.toList == x.name.toList && o.owner.toList == x.owner.toList
def fdNm (x o : Fd) : Bool := o.name.toList == x.name.toList
def m188 : MC :=
 (.seq (.reg [Xb 2 (.box 40 (.t 0)), Xb 3 (.asg .fb)]) (.seq (.reg [Xf 4 5 2, Xl 5 1 4, Xf 6 5 1, Xl 7 1 6, Xq 8 (.bin false .eql (.t 5) (.t 7)), Xm 9 8, Xt 10 9 (.fad 4 (.t 2)), Xt 11 9 (.load false 1 (.t 10)), Xt 12 9 (.fad 4 (.t 1)), Xt 13 9 (.load false 1 (.t 12)), Xt 14 9 (.bin false .eql (.t 11) (.t 13)), Xq 15 (.pick (.t 9) (.t 14) .fb), Xa 3 15]) .ret))
theorem d188 (o x : Ty) : Does Go.Proofs.Tryz.prog 188 [.agg o.z, .fptr x.z] false (.v (.bool (tyNm x o))) [.dead, .dead] := by
  refine does_intro (mc := m188) (N := 16) (rs := [3]) (fx := []) 2 rfl (by decide +kernel) ?_
  simp only [m188, Ty.z, EV, Nat.reduceEqDiff, Nat.reduceBEq, Nat.reduceLT, Nat.reduceLeDiff, Nat.reduceAdd, Nat.reduceSub, reduceIte]
  repeat' (first
    | (refine gK_cut (fun h => ?_) (fun h => ?_) <;> simp only [h, EV, Nat.reduceEqDiff, Nat.reduceBEq, Nat.reduceLT, Nat.reduceLeDiff, Nat.reduceAdd, Nat.reduceSub, reduceIte])
    | (refine cK_cut (fun h => ?_) (fun h => ?_) <;> simp only [h, EV, Nat.reduceEqDiff, Nat.reduceBEq, Nat.reduceLT, Nat.reduceLeDiff, Nat.reduceAdd, Nat.reduceSub, reduceIte]))
  all_goals simp only [tyNm, h, Bool.true_and, Bool.false_and, EV, Nat.reduceEqDiff, Nat.reduceBEq, Nat.reduceLT, Nat.reduceLeDiff, Nat.reduceAdd, Nat.reduceSub, reduceIte, evRE, retVC, cellV', evR, nfz, nfzs, nfzss, List.contains_nil, List.contains_cons, Bool.or_false, or_true]
def m267 : MC :=
 (.seq (.reg [Xb 2 (.box 97 (.t 0)), Xb 3 (.asg .fb)]) (.seq (.reg [Xf 4 0 2, Xl 5 1 4, Xf 6 0 1, Xl 7 1 6, Xq 8 (.bin false .eql (.t 5) (.t 7)), Xa 3 8]) .ret))
theorem d267 (o x : Fd) : Does Go.Proofs.Tryz.prog 267 [.agg o.z, .fptr x.z] false (.v (.bool (fdNm x o))) [.dead, .dead] := by
  refine does_intro (mc := m267) (N := 9) (rs := [3]) (fx := []) 2 rfl (by decide +kernel) ?_
  simp only [m267, Fd.z, EV, Nat.reduceEqDiff, Nat.reduceBEq, Nat.reduceLT, Nat.reduceLeDiff, Nat.reduceAdd, Nat.reduceSub, reduceIte]
  simp only [fdNm, EV, Nat.reduceEqDiff, Nat.reduceBEq, Nat.reduceLT, Nat.reduceLeDiff, Nat.reduceAdd, Nat.reduceSub, reduceIte, evRE, retVC, cellV', evR, nfz, nfzs, nfzss, List.contains_nil, List.contains_cons, Bool.or_false, or_true]
def baseTs : List Ty := [⟨1, 0, -1, [], ⟨#[]⟩, ⟨#[73, 78, 84]⟩⟩, ⟨2, 0, -1, [], ⟨#[]⟩, ⟨#[66, 79, 79, 76]⟩⟩, ⟨3, 0, -1, [], ⟨#[]⟩, ⟨#[67, 72, 65, 82]⟩⟩]
def m184 : MC :=
 (.seq (.reg [Xb 0 (.asg (.nils 40 6))]) (.seq (.reg [Xb 1 (.build [0, 2, 5] [0, 2, 5] [1, 1, 1] [.i, .i, .i, .s 97 3, .z, .z] [.i 1, .i (-1), .z #[73, 78, 84]]), Xb 2 (.build [0, 2, 5] [0, 2, 5] [1, 1, 1] [.i, .i, .i, .s 97 3, .z, .z] [.i 2, .i (-1), .z #[66, 79, 79, 76]]), Xb 3 (.build [0, 2, 5] [0, 2, 5] [1, 1, 1] [.i, .i, .i, .s 97 3, .z, .z] [.i 3, .i (-1), .z #[67, 72, 65, 82]]), Xb 4 (.bsl
 40 6 [.t 1, .t 2, .t 3]), Xa 0 4]) .ret))
theorem d184 : Does Go.Proofs.Tryz.prog 184 [] false (.usl 40 6 (baseTs.map Ty.o)) [] := by
  refine does_intro (mc := m184) (N := 5) (rs := [0]) (fx := []) 0 rfl (by decide +kernel) ?_
  simp only [m184, baseTs, Ty.o, EV, Nat.reduceEqDiff, Nat.reduceBEq, Nat.reduceLT, Nat.reduceLeDiff, Nat.reduceAdd, Nat.reduceSub, reduceIte]
  simp only [EV, Nat.reduceEqDiff, Nat.reduceBEq, Nat.reduceLT, Nat.reduceLeDiff, Nat.reduceAdd, Nat.reduceSub, reduceIte, evRE, retVC, cellV', evR, nfz, nfzs, nfzss, List.contains_nil, List.contains_cons, Bool.or_false, or_true]
def m182 : MC :=
 (.seq (.reg [Xb 0 (.asg (.nils 40 6))]) (.seq (.reg [Xb 1 (.build [0, 2, 5] [0, 2, 5] [1, 1, 1] [.i, .i, .i, .s 97 3, .z, .z] [.i 1, .i (-1), .z #[73, 78, 84]]), Xb 2 (.build [0, 2, 5] [0, 2, 5] [1, 1, 1] [.i, .i, .i, .s 97 3, .z, .z] [.i 2, .i (-1), .z #[66, 79, 79, 76]]), Xb 3 (.build [0, 2, 5] [0, 2, 5] [1, 1, 1] [.i, .i, .i, .s 97 3, .z, .z] [.i 3, .i (-1), .z #[67, 72, 65, 82]]), Xb 4 (.bsl
 40 6 [.t 1, .t 2, .t 3]), Xa 0 4]) .ret))
theorem d182 : Does Go.Proofs.Tryz.prog 182 [] false (.usl 40 6 (baseTs.map Ty.o)) [] := by
  refine does_intro (mc := m182) (N := 5) (rs := [0]) (fx := []) 0 rfl (by decide +kernel) ?_
  simp only [m182, baseTs, Ty.o, EV, Nat.reduceEqDiff, Nat.reduceBEq, Nat.reduceLT, Nat.reduceLeDiff, Nat.reduceAdd, Nat.reduceSub, reduceIte]
  simp only [EV, Nat.reduceEqDiff, Nat.reduceBEq, Nat.reduceLT, Nat.reduceLeDiff, Nat.reduceAdd, Nat.reduceSub, reduceIte, evRE, retVC, cellV', evR, nfz, nfzs, nfzss, List.contains_nil, List.contains_cons, Bool.or_false, or_true]
def isNum (l : List Ty) (n : Int) : Bool := decide (0 ≤ n) && decide (n ≤ (l.length : Int) - 1)
def kd (l : List Ty) (n : Int) : Int := match l[n.toNat]? with
  | some t => t.kind
  | none => 0
theorem isNum_lt {l : List Ty} {n : Int} (h : isNum l n = true) : 0 ≤ n ∧ n < l.length ∧ ∃ hn : n.toNat < l.length, kd l n = l[n.toNat].kind := by
  simp only [isNum, Bool.and_eq_true, decide_eq_true_eq] at h
  have hn : n.toNat < l.length := by omega
  exact ⟨h.1, by omega, hn, by simp [kd, hn]⟩
def m61 : MC :=
 (.seq (.reg [Xb 4 (.asg .fb)]) (.seq (.reg [Xm 5 1, Xm 6 0, Xn 7 6, Xq 8 (.bin false .sub (.t 7) (.i 1)), Xb 9 (.call (.fn 78) false [.lend (.t 5), .lend (.i 0), .lend (.t 8)]), Xa 4 9]) .ret))
theorem d61 (l : List Ty) (n : Int) (hl : (l.length : Int) ≤ 1048576) : Does Go.Proofs.Tryz.prog 61 [.fsl 6 (l.map Ty.z), .v (.int .i64 n)] false (.v (.bool (isNum l n))) [.dead, .dead] := by
  refine does_intro (mc := m61) (N := 10) (rs := [4]) (fx := []) 2 rfl (by decide +kernel) ?_
  simp only [m61, EV, Nat.reduceEqDiff, Nat.reduceBEq, Nat.reduceLT, Nat.reduceLeDiff, Nat.reduceAdd, Nat.reduceSub, reduceIte]
  rw [w64 _ (by omega)]
  refine callK_i (d78 _ _ _) ?_
  simp only [EV, Nat.reduceEqDiff, Nat.reduceBEq, Nat.reduceLT, Nat.reduceLeDiff, Nat.reduceAdd, Nat.reduceSub, reduceIte]
  simp only [isNum, EV, Nat.reduceEqDiff, Nat.reduceBEq, Nat.reduceLT, Nat.reduceLeDiff, Nat.reduceAdd, Nat.reduceSub, reduceIte, evRE, retVC, cellV', evR, nfz, nfzs, nfzss, List.contains_nil, List.contains_cons, Bool.or_false, or_true]
def isRec (l : List Ty) (n : Int) : Bool := isNum l n && kd l n == 5
def m56 : MC :=
 (.seq (.reg [Xb 4 (.asg .fb)]) (.seq (.reg [Xm 5 0, Xm 6 1, Xb 7 (.call (.fn 61) false [.lend (.t 5), .lend (.t 6)]), Xm 8 7, Xt 9 8 (.mov (.t 0)), Xt 10 8 (.mov (.t 1)), Xt 11 8 (.iad 6 (.t 9) (.t 10)), Xt 12 8 (.fad 0 (.t 11)), Xt 13 8 (.load false 1 (.t 12)), Xt 14 8 (.bin false .eql (.t 13) (.i 5)), Xq 15 (.pick (.t 8) (.t 14) .fb), Xa 4 15]) .ret))
set_option maxRecDepth 100000 in
theorem d56 (l : List Ty) (n : Int) (hl : (l.length : Int) ≤ 1048576) : Does Go.Proofs.Tryz.prog 56 [.fsl 6 (l.map Ty.z), .v (.int .i64 n)] false (.v (.bool (isRec l n))) [.dead, .dead] := by
  refine does_intro (mc := m56) (N := 16) (rs := [4]) (fx := []) 2 rfl (by decide +kernel) ?_
  simp only [m56, EV, Nat.reduceEqDiff, Nat.reduceBEq, Nat.reduceLT, Nat.reduceLeDiff, Nat.reduceAdd, Nat.reduceSub, reduceIte]
  refine callK_i (d61 l n hl) ?_
  simp only [EV, Nat.reduceEqDiff, Nat.reduceBEq, Nat.reduceLT, Nat.reduceLeDiff, Nat.reduceAdd, Nat.reduceSub, reduceIte]
  rcases e : isNum l n with _ | _
  · simp only [EV, Nat.reduceEqDiff, Nat.reduceBEq, Nat.reduceLT, Nat.reduceLeDiff, Nat.reduceAdd, Nat.reduceSub, reduceIte]
    simp only [isRec, e, Bool.false_and, EV, Nat.reduceEqDiff, Nat.reduceBEq, Nat.reduceLT, Nat.reduceLeDiff, Nat.reduceAdd, Nat.reduceSub, reduceIte, evRE, retVC, cellV', evR, nfz, nfzs, nfzss, List.contains_nil, List.contains_cons, Bool.or_false, or_true]
  · obtain ⟨h0, h1, hn, hk⟩ := isNum_lt e
    simp only [h0, h1, nth_map hn, Ty.z, EV, Nat.reduceEqDiff, Nat.reduceBEq, Nat.reduceLT, Nat.reduceLeDiff, Nat.reduceAdd, Nat.reduceSub, reduceIte]
    simp only [isRec, e, hk, Bool.true_and, EV, Nat.reduceEqDiff, Nat.reduceBEq, Nat.reduceLT, Nat.reduceLeDiff, Nat.reduceAdd, Nat.reduceSub, reduceIte, evRE, retVC, cellV', evR, nfz, nfzs, nfzss, List.contains_nil, List.contains_cons, Bool.or_false, or_true]
def kindIn (l : List Ty) (n a b : Int) : Bool := isNum l n && (kd l n == a || kd l n == b)
def m59 : MC :=
 (.seq (.reg [Xb 8 (.asg .fb)]) (.seq (.reg [Xm 9 1, Xm 10 0, Xn 11 10, Xq 12 (.bin false .sub (.t 11) (.i 1)), Xb 13 (.call (.fn 72) false [.lend (.t 9), .lend (.i 0), .lend (.t 12)]), Xm 14 13, Xt 15 14 (.mov (.t 0)), Xt 16 14 (.mov (.t 1)), Xt 17 14 (.iad 6 (.t 15) (.t 16)), Xt 18 14 (.fad 0 (.t 17)), Xt 19 14 (.load false 1 (.t 18)), Xt 20 14 (.mov (.t 2)), Xt 21 14 (.bin false .eql (.t 19) (.t
 20)), Xt 22 14 (.mov (.t 21)), Xu 23 22 (.mov (.t 0)), Xu 24 22 (.mov (.t 1)), Xu 25 22 (.iad 6 (.t 23) (.t 24)), Xu 26 22 (.fad 0 (.t 25)), Xu 27 22 (.load false 1 (.t 26)), Xu 28 22 (.mov (.t 3)), Xu 29 22 (.bin false .eql (.t 27) (.t 28)), Xt 30 14 (.pick (.t 22) .tb (.t 29)), Xq 31 (.pick (.t 14) (.t 30) .fb), Xa 8 31]) .ret))
set_option maxRecDepth 100000 in
theorem d59 (l : List Ty) (n a b : Int) (hl : (l.length : Int) ≤ 1048576) : Does Go.Proofs.Tryz.prog 59 [.fsl 6 (l.map Ty.z), .v (.int .i64 n), .v (.int .i64 a), .v (.int .i64 b)] false (.v (.bool (kindIn l n a b))) [.dead, .dead, .dead, .dead] := by
  refine does_intro (mc := m59) (N := 32) (rs := [8]) (fx := []) 4 rfl (by decide +kernel) ?_
  simp only [m59, EV, Nat.reduceEqDiff, Nat.reduceBEq, Nat.reduceLT, Nat.reduceLeDiff, Nat.reduceAdd, Nat.reduceSub, reduceIte]
  rw [w64 _ (by omega)]
  refine callK_i (d72 _ _ _) ?_
  have en : isNum l n = (decide (0 ≤ n) && decide (n ≤ (l.length : Int) - 1)) := rfl
  rw [← en]
  simp only [EV, Nat.reduceEqDiff, Nat.reduceBEq, Nat.reduceLT, Nat.reduceLeDiff, Nat.reduceAdd, Nat.reduceSub, reduceIte]
  rcases e : isNum l n with _ | _
  · simp only [EV, Nat.reduceEqDiff, Nat.reduceBEq, Nat.reduceLT, Nat.reduceLeDiff, Nat.reduceAdd, Nat.reduceSub, reduceIte]
    simp only [kindIn, e, Bool.false_and, EV, Nat.reduceEqDiff, Nat.reduceBEq, Nat.reduceLT, Nat.reduceLeDiff, Nat.reduceAdd, Nat.reduceSub, reduceIte, evRE, retVC, cellV', evR, nfz, nfzs, nfzss, List.contains_nil, List.contains_cons, Bool.or_false, or_true]
  · obtain ⟨h0, h1, hn, hk⟩ := isNum_lt e
    simp only [h0, h1, nth_map hn, Ty.z, EV, Nat.reduceEqDiff, Nat.reduceBEq, Nat.reduceLT, Nat.reduceLeDiff, Nat.reduceAdd, Nat.reduceSub, reduceIte]
    refine gK_cut (fun h => ?_) (fun h => ?_)
    · simp only [h, EV, Nat.reduceEqDiff, Nat.reduceBEq, Nat.reduceLT, Nat.reduceLeDiff, Nat.reduceAdd, Nat.reduceSub, reduceIte]
      simp only [kindIn, e, hk, h, Bool.true_and, Bool.true_or, EV, Nat.reduceEqDiff, Nat.reduceBEq, Nat.reduceLT, Nat.reduceLeDiff, Nat.reduceAdd, Nat.reduceSub, reduceIte, evRE, retVC, cellV', evR, nfz, nfzs, nfzss, List.contains_nil, List.contains_cons, Bool.or_false, or_true]
    · simp only [h, h0, h1, nth_map hn, Ty.z, EV, Nat.reduceEqDiff, Nat.reduceBEq, Nat.reduceLT, Nat.reduceLeDiff, Nat.reduceAdd, Nat.reduceSub, reduceIte]
      simp only [kindIn, e, hk, h, Bool.true_and, Bool.false_or, EV, Nat.reduceEqDiff, Nat.reduceBEq, Nat.reduceLT, Nat.reduceLeDiff, Nat.reduceAdd, Nat.reduceSub, reduceIte, evRE, retVC, cellV', evR, nfz, nfzs, nfzss, List.contains_nil, List.contains_cons, Bool.or_false, or_true]
noncomputable def named (t : Ty) : Bool := nameOk t.name && nameOk t.owner || (t.name.toList == (⟨#[]⟩ : ByteArray).toList && t.owner.toList == (⟨#[]⟩ : ByteArray).toList)
def m228 : MC :=
 (.seq (.reg [Xb 1 (.box 40 (.t 0)), Xb 2 (.asg .fb)]) (.seq (.reg [Xf 3 5 1, Xl 4 1 3, Xb 5 (.call (.fn 141) false [.lend (.t 4)]), Xm 6 5, Xt 7 6 (.fad 4 (.t 1)), Xt 8 6 (.load false 1 (.t 7)), XT 9 6 (.call (.fn 141) false [.lend (.t 8)]), Xq 10 (.pick (.t 6) (.t 9) .fb), Xm 11 10, Xu 12 11 (.fad 5 (.t 1)), Xu 13 11 (.load false 1 (.t 12)), Xu 14 11 (.bin false .eql (.t 13) (.z #[])), Xu 15 11
 (.mov (.t 14)), Xt 16 15 (.fad 4 (.t 1)), Xt 17 15 (.load false 1 (.t 16)), Xt 18 15 (.bin false .eql (.t 17) (.z #[])), Xu 19 11 (.pick (.t 15) (.t 18) .fb), Xq 20 (.pick (.t 11) .tb (.t 19)), Xa 2 20]) .ret))
set_option maxRecDepth 100000 in
theorem d228 (t : Ty) (ht : t.sm) : Does Go.Proofs.Tryz.prog 228 [.agg t.z] false (.v (.bool (named t))) [.dead] := by
  unfold Ty.sm at ht
  refine does_intro (mc := m228) (N := 21) (rs := [2]) (fx := []) 1 rfl (by decide +kernel) ?_
  simp only [m228, Ty.z, EV, Nat.reduceEqDiff, Nat.reduceBEq, Nat.reduceLT, Nat.reduceLeDiff, Nat.reduceAdd, Nat.reduceSub, reduceIte]
  refine callK_i (d141 _ (by omega)) ?_
  simp only [EV, Nat.reduceEqDiff, Nat.reduceBEq, Nat.reduceLT, Nat.reduceLeDiff, Nat.reduceAdd, Nat.reduceSub, reduceIte]
  repeat' (first
    | (refine gK_cut (fun h => ?_) (fun h => ?_) <;> simp only [h, EV, Nat.reduceEqDiff, Nat.reduceBEq, Nat.reduceLT, Nat.reduceLeDiff, Nat.reduceAdd, Nat.reduceSub, reduceIte])
    | (refine cK_cut (fun h => ?_) (fun h => ?_) <;> simp only [h, EV, Nat.reduceEqDiff, Nat.reduceBEq, Nat.reduceLT, Nat.reduceLeDiff, Nat.reduceAdd, Nat.reduceSub, reduceIte])
    | (refine callK_i (d141 _ (by omega)) ?_ <;> simp only [h, EV, Nat.reduceEqDiff, Nat.reduceBEq, Nat.reduceLT, Nat.reduceLeDiff, Nat.reduceAdd, Nat.reduceSub, reduceIte]))
  all_goals simp only [named, *, Bool.true_and, Bool.false_and, Bool.and_true, Bool.and_false, Bool.true_or, Bool.false_or, Bool.or_false, Bool.or_true, EV, Nat.reduceEqDiff, Nat.reduceBEq, Nat.reduceLT, Nat.reduceLeDiff, Nat.reduceAdd, Nat.reduceSub, reduceIte, evRE, retVC, cellV', evR, nfz, nfzs, nfzss, List.contains_nil, List.contains_cons, Bool.or_false, or_true]
end Go.AM
namespace Go.AM
set_option linter.unusedVariables false
set_option linter.unusedSimpArgs false
def nil' (s : ByteArray) : Bool := s.toList == (⟨#[]⟩ : ByteArray).toList
theorem loop_len (bs : ByteArray) : ∀ (n i : Nat) (r : List UInt8), bs.size - i ≤ n → r.length ≤ (ByteArray.toList.loop bs i r).length
  | 0, i, r, h => by
    rw [ByteArray.toList.loop.eq_1, if_neg (by omega)]
    simp
  | n + 1, i, r, h => by
    rw [ByteArray.toList.loop.eq_1]
    split
    · have := loop_len bs n (i + 1) (bs.get! i :: r) (by omega)
      simp only [List.length_cons] at this
      omega
    · simp
theorem nil_size {s : ByteArray} (h : nil' s = true) : s.size = 0 := by
  have e : s.toList = (⟨#[]⟩ : ByteArray).toList := by simpa [nil'] using h
  have e0 : (⟨#[]⟩ : ByteArray).toList = [] := ByteArray.toList_empty
  rw [e0, ByteArray.toList.eq_1, ByteArray.toList.loop.eq_1] at e
  split at e
  · have := loop_len s s.size (0 + 1) [s.get! 0] (by omega)
    rw [e] at this
    simp at this
  · omega
theorem nil_name {s : ByteArray} (h : nil' s = true) : nameOk s = false := by
  have := nil_size h
  simp only [nameOk, decide_eq_false_iff_not]
  rintro ⟨_, h1, _⟩
  omega
noncomputable def fdAt (l : List Ty) (fs : List Fd) (i : Nat) (h : i < fs.length) : Bool :=
  (decide (0 ≤ fs[i].mark) && decide (fs[i].mark ≤ 2)) && (isNum l fs[i].typ && (if nil' fs[i].name = true then fs[i].mark == 0 else nameOk fs[i].name && !((fs.take i).any (fdNm fs[i]))))
def fdTo (l : List Ty) (fs : List Fd) (n : Nat) : Prop := ∀ i (h : i < fs.length), i < n → fdAt l fs i h = true
open Classical in
noncomputable def fdsOk (l : List Ty) (fs : List Fd) : Bool := decide (fdTo l fs fs.length ∧ fs.length ≤ 6)
theorem fdTo_succ {l : List Ty} {fs : List Fd} {i : Nat} (h : i < fs.length) (h1 : fdTo l fs i) (h2 : fdAt l fs i h = true) : fdTo l fs (i + 1) := by
  intro j hj hji
  by_cases e : j = i
  · subst e; exact h2
  · exact h1 j hj (by omega)
theorem fdsOk_no {l : List Ty} {fs : List Fd} {i : Nat} (h : i < fs.length) (h2 : fdAt l fs i h = false) : fdsOk l fs = false := by
  simp only [fdsOk, decide_eq_false_iff_not]
  rintro ⟨h1, _⟩
  have := h1 i h h
  rw [h2] at this; cases this
theorem fdsOk_yes {l : List Ty} {fs : List Fd} (h : fdTo l fs fs.length) : fdsOk l fs = decide ((fs.length : Int) ≤ 6) := by
  have e2 : decide ((fs.length : Int) ≤ 6) = decide (fs.length ≤ 6) := by congr 1; apply propext; omega
  simp [fdsOk, h, e2]
def m229 : MC :=
 (.seq (.reg [Xb 4 (.asg .fb)]) (.seq (.seq (.reg [Xm 7 1, Xn 8 7, Xq 9 (.mov (.i 0))]) (.block 0 (.loop [0, 1, 7, 8, 9] (.seq (.reg [Xq 10 (.bin false .lss (.t 9) (.t 8))]) (.seq (.cond (.t 10) .skip (.exit 0)) (.join [0, 1, 7, 8, 9] (.block 1 (.seq (.reg [Xm 11 9, Xi 12 3 7 9, XL 13 3 12, Xb 6 (.alloc 97 [.z, .i, .i]), Xa 5 11, Xz (.store 3 (.t 6) (.t 13))]) (.seq (.seq (.reg [Xf 14 1 6, Xl 15 1
 14, Xb 16 (.call (.fn 78) false [.lend (.t 15), .lend (.i 0), .lend (.i 2)]), Xq 17 (.un .not (.t 16)), Xm 18 17, Xu 19 18 (.mov (.t 0)), Xu 20 18 (.fad 2 (.t 6)), Xu 21 18 (.load false 1 (.t 20)), XU 22 18 (.call (.fn 61) false [.lend (.t 19), .lend (.t 21)]), Xu 23 18 (.un .not (.t 22)), Xq 24 (.pick (.t 18) .tb (.t 23))]) (.cond (.t 24) (.seq (.reg [Xb 4 (.asg .fb)]) .ret) .skip)) (.seq (.seq
 (.reg [Xf 25 0 6, Xl 26 1 25, Xq 27 (.bin false .eql (.t 26) (.z #[]))]) (.cond (.t 27) (.seq (.seq (.reg [Xf 28 1 6, Xl 29 1 28, Xq 30 (.bin false .neq (.t 29) (.i 0))]) (.cond (.t 30) (.seq (.reg [Xb 4 (.asg .fb)]) .ret) .skip)) (.exit 1)) .skip)) (.seq (.reg [Xf 31 0 6, Xl 32 1 31, Xb 33 (.call (.fn 141) false [.lend (.t 32)]), Xq 34 (.un .not (.t 33)), Xm 35 34, Xu 36 35 (.mov (.t 1)), Xu 37
 35 (.mov (.t 5)), Xu 38 35 (.slc false 3 (.t 36) none (some (.t 37))), Xu 39 35 (.mkf 267 [.t 6]), XU 40 35 (.call (.fn 266) false [.lend (.t 38), .lend (.t 39)]), Xq 41 (.pick (.t 35) .tb (.t 40))]) (.cond (.t 41) (.seq (.reg [Xb 4 (.asg .fb)]) .ret) .skip)))))) (.reg [Xq 42 (.bin false .add (.t 9) (.i 1)), Xm 9 42]))))))) (.seq (.reg [Xm 43 1, Xn 44 43, Xq 45 (.bin false .leq (.t 44) (.i 6)), Xa
 4 45]) .ret)))
set_option maxHeartbeats 1000000 in
set_option maxRecDepth 100000 in
theorem d229 (l : List Ty) (fs : List Fd) (hl : (l.length : Int) ≤ 1048576) (hf : (fs.length : Int) ≤ 1048576) (hs : ∀ s ∈ fs, s.sm) :
    Does Go.Proofs.Tryz.prog 229 [.fsl 6 (l.map Ty.z), .fsl 3 (fs.map Fd.z)] false (.v (.bool (fdsOk l fs))) [.dead, .dead] := by
  refine does_intro (mc := m229) (N := 46) (rs := [4]) (fx := []) 2 rfl (by decide +kernel) ?_
  simp only [m229, EV, Nat.reduceEqDiff, Nat.reduceBEq, Nat.reduceLT, Nat.reduceLeDiff, Nat.reduceAdd, Nat.reduceSub, reduceIte]
  refine awp_loop (fun i : Nat => i ≤ fs.length ∧ fdTo l fs i) (fun i => stl [(0, .fsl 6 (l.map Ty.z)), (1, .fsl 3 (fs.map Fd.z)), (7, .fsl 3 (fs.map Fd.z)), (8, .v (.int .i64 (fs.length : Int))), (9, .v (.int .i64 (i : Int)))]) (fun i => fs.length - i) 0 ⟨Nat.zero_le _, fun j hj h => absurd h (by omega)⟩ ?_ ?_
  · simp only [EV, Nat.reduceEqDiff, Nat.reduceBEq, Nat.reduceLT, Nat.reduceLeDiff, Nat.reduceAdd, Nat.reduceSub, reduceIte]
    rfl
  · rintro i ⟨hi, hok⟩
    simp only [EV, Nat.reduceEqDiff, Nat.reduceBEq, Nat.reduceLT, Nat.reduceLeDiff, Nat.reduceAdd, Nat.reduceSub, reduceIte]
    refine cK_cut (fun h => ?_) (fun h => ?_)
    · have h1 : i < fs.length := by simpa using h
      have h2 : (i : Int) < (fs.length : Int) := by omega
      have hso := hs fs[i] (List.getElem_mem h1)
      simp only [Fd.sm] at hso
      clear h
      have p9 : fdAt l fs i h1 = false → fdsOk l fs = false := fdsOk_no h1
      refine awp_join (fun _ : Unit => fdAt l fs i h1 = true) (fun _ => stl [(0, .fsl 6 (l.map Ty.z)), (1, .fsl 3 (fs.map Fd.z)), (7, .fsl 3 (fs.map Fd.z)), (8, .v (.int .i64 (fs.length : Int))), (9, .v (.int .i64 (i : Int)))]) ?_ ?_
      · simp only [FdE, nth_map h1, h2, Fd.z, EV, Nat.reduceEqDiff, Nat.reduceBEq, Nat.reduceLT, Nat.reduceLeDiff, Nat.reduceAdd, Nat.reduceSub, reduceIte]
        refine callK_i (d78 _ _ _) ?_
        simp only [EV, Nat.reduceEqDiff, Nat.reduceBEq, Nat.reduceLT, Nat.reduceLeDiff, Nat.reduceAdd, Nat.reduceSub, reduceIte]
        rcases e1 : (decide (0 ≤ fs[i].mark) && decide (fs[i].mark ≤ 2)) with _ | _
        · have e : fdsOk l fs = false := p9 (by simp only [fdAt, e1, Bool.false_and])
          simp only [EV, Nat.reduceEqDiff, Nat.reduceBEq, Nat.reduceLT, Nat.reduceLeDiff, Nat.reduceAdd, Nat.reduceSub, reduceIte]
          simp only [e, EV, Nat.reduceEqDiff, Nat.reduceBEq, Nat.reduceLT, Nat.reduceLeDiff, Nat.reduceAdd, Nat.reduceSub, reduceIte, evRE, retVC, cellV', evR, nfz, nfzs, nfzss, List.contains_nil, List.contains_cons, Bool.or_false, or_true]
        simp only [EV, Nat.reduceEqDiff, Nat.reduceBEq, Nat.reduceLT, Nat.reduceLeDiff, Nat.reduceAdd, Nat.reduceSub, reduceIte]
        refine callK_i (d61 l _ hl) ?_
        simp only [EV, Nat.reduceEqDiff, Nat.reduceBEq, Nat.reduceLT, Nat.reduceLeDiff, Nat.reduceAdd, Nat.reduceSub, reduceIte]
        rcases e2 : isNum l fs[i].typ with _ | _
        · have e : fdsOk l fs = false := p9 (by simp only [fdAt, e1, e2, Bool.true_and, Bool.false_and])
          simp only [EV, Nat.reduceEqDiff, Nat.reduceBEq, Nat.reduceLT, Nat.reduceLeDiff, Nat.reduceAdd, Nat.reduceSub, reduceIte]
          simp only [e, EV, Nat.reduceEqDiff, Nat.reduceBEq, Nat.reduceLT, Nat.reduceLeDiff, Nat.reduceAdd, Nat.reduceSub, reduceIte, evRE, retVC, cellV', evR, nfz, nfzs, nfzss, List.contains_nil, List.contains_cons, Bool.or_false, or_true]
        simp only [EV, Nat.reduceEqDiff, Nat.reduceBEq, Nat.reduceLT, Nat.reduceLeDiff, Nat.reduceAdd, Nat.reduceSub, reduceIte]
        have en : (fs[i].name.toList == (⟨#[]⟩ : ByteArray).toList) = nil' fs[i].name := rfl
        rw [en]
        rcases e3 : nil' fs[i].name with _ | _
        · simp only [EV, Nat.reduceEqDiff, Nat.reduceBEq, Nat.reduceLT, Nat.reduceLeDiff, Nat.reduceAdd, Nat.reduceSub, reduceIte]
          refine callK_i (d141 _ (by omega)) ?_
          simp only [EV, Nat.reduceEqDiff, Nat.reduceBEq, Nat.reduceLT, Nat.reduceLeDiff, Nat.reduceAdd, Nat.reduceSub, reduceIte]
          rcases e4 : nameOk fs[i].name with _ | _
          · have e : fdsOk l fs = false := p9 (by simp only [fdAt, e1, e2, e3, e4, Bool.true_and, Bool.false_and, Bool.false_eq_true, if_false])
            simp only [EV, Nat.reduceEqDiff, Nat.reduceBEq, Nat.reduceLT, Nat.reduceLeDiff, Nat.reduceAdd, Nat.reduceSub, reduceIte]
            simp only [e, EV, Nat.reduceEqDiff, Nat.reduceBEq, Nat.reduceLT, Nat.reduceLeDiff, Nat.reduceAdd, Nat.reduceSub, reduceIte, evRE, retVC, cellV', evR, nfz, nfzs, nfzss, List.contains_nil, List.contains_cons, Bool.or_false, or_true]
          simp only [FdE, nth_map h1, h2, Fd.z, EV, Nat.reduceEqDiff, Nat.reduceBEq, Nat.reduceLT, Nat.reduceLeDiff, Nat.reduceAdd, Nat.reduceSub, reduceIte]
          refine ⟨by omega, by omega, ?_⟩
          rw [← List.map_take]
          refine callK_i (d266 (fs.take i) (by simp; omega) 267 [.fptr fs[i].z] (fdNm fs[i]) rfl rfl (fun _ => rfl) (fun _ => rfl) (fun s _ => d267 s fs[i])) ?_
          simp only [EV, Nat.reduceEqDiff, Nat.reduceBEq, Nat.reduceLT, Nat.reduceLeDiff, Nat.reduceAdd, Nat.reduceSub, reduceIte]
          rcases e5 : (fs.take i).any (fdNm fs[i]) with _ | _
          · simp only [EV, Nat.reduceEqDiff, Nat.reduceBEq, Nat.reduceLT, Nat.reduceLeDiff, Nat.reduceAdd, Nat.reduceSub, reduceIte]
            exact ⟨(), by simp only [fdAt, e1, e2, e3, e4, e5, Bool.true_and, Bool.false_eq_true, if_false, Bool.not_false]⟩
          · have e : fdsOk l fs = false := p9 (by simp only [fdAt, e1, e2, e3, e4, e5, Bool.true_and, Bool.false_eq_true, if_false, Bool.not_true])
            simp only [EV, Nat.reduceEqDiff, Nat.reduceBEq, Nat.reduceLT, Nat.reduceLeDiff, Nat.reduceAdd, Nat.reduceSub, reduceIte]
            simp only [e, EV, Nat.reduceEqDiff, Nat.reduceBEq, Nat.reduceLT, Nat.reduceLeDiff, Nat.reduceAdd, Nat.reduceSub, reduceIte, evRE, retVC, cellV', evR, nfz, nfzs, nfzss, List.contains_nil, List.contains_cons, Bool.or_false, or_true]
        · simp only [EV, Nat.reduceEqDiff, Nat.reduceBEq, Nat.reduceLT, Nat.reduceLeDiff, Nat.reduceAdd, Nat.reduceSub, reduceIte]
          rcases e4 : (fs[i].mark == 0) with _ | _
          · have e : fdsOk l fs = false := p9 (by simp only [fdAt, e1, e2, e3, e4, Bool.true_and, if_true])
            simp only [bne, e4, EV, Nat.reduceEqDiff, Nat.reduceBEq, Nat.reduceLT, Nat.reduceLeDiff, Nat.reduceAdd, Nat.reduceSub, reduceIte]
            simp only [e, EV, Nat.reduceEqDiff, Nat.reduceBEq, Nat.reduceLT, Nat.reduceLeDiff, Nat.reduceAdd, Nat.reduceSub, reduceIte, evRE, retVC, cellV', evR, nfz, nfzs, nfzss, List.contains_nil, List.contains_cons, Bool.or_false, or_true]
          · simp only [bne, e4, EV, Nat.reduceEqDiff, Nat.reduceBEq, Nat.reduceLT, Nat.reduceLeDiff, Nat.reduceAdd, Nat.reduceSub, reduceIte]
            exact ⟨(), by simp only [fdAt, e1, e2, e3, e4, Bool.true_and, if_true]⟩
      · rintro _ hq
        simp only [EV, Nat.reduceEqDiff, Nat.reduceBEq, Nat.reduceLT, Nat.reduceLeDiff, Nat.reduceAdd, Nat.reduceSub, reduceIte]
        rw [w64 _ (by omega)]
        exact ⟨i + 1, ⟨h1, fdTo_succ h1 hok hq⟩, by omega, rfl⟩
    · have h1 : i = fs.length := by have : ¬ (i : Int) < fs.length := by simpa using h
                                    omega
      subst h1
      simp only [EV, Nat.reduceEqDiff, Nat.reduceBEq, Nat.reduceLT, Nat.reduceLeDiff, Nat.reduceAdd, Nat.reduceSub, reduceIte]
      simp only [fdsOk_yes hok, EV, Nat.reduceEqDiff, Nat.reduceBEq, Nat.reduceLT, Nat.reduceLeDiff, Nat.reduceAdd, Nat.reduceSub, reduceIte, evRE, retVC, cellV', evR, nfz, nfzs, nfzss, List.contains_nil, List.contains_cons, Bool.or_false, or_true]
end Go.AM
namespace Go.AM
set_option linter.unusedVariables false
set_option linter.unusedSimpArgs false
def eqSt (v : ByteArray) (x : Str) : Bool := v.toList == x.s.toList
def m208 : MC :=
 (.seq (.reg [Xb 4 (.asg (.i 0))]) (.seq (.seq (.reg [Xm 6 0, Xn 7 6, Xq 8 (.mov (.i 0))]) (.block 0 (.loop [0, 1, 7, 8] (.seq (.reg [Xq 9 (.bin false .lss (.t 8) (.t 7))]) (.seq (.cond (.t 9) .skip (.exit 0)) (.seq (.block 1 (.seq (.reg [Xm 10 8, Xa 5 10]) (.seq (.reg [Xm 11 1, Xm 12 0, Xm 13 5, Xi 14 1 12 13, Xl 15 1 14, Xq 16 (.bin false .eql (.t 11) (.t 15))]) (.cond (.t 16) (.seq (.reg [Xm 17
 5, Xa 4 17]) .ret) .skip)))) (.reg [Xq 18 (.bin false .add (.t 8) (.i 1)), Xm 8 18]))))))) (.seq (.reg [Xb 4 (.asg (.i (-1)))]) .ret)))
theorem d208 (l : List Str) (v : ByteArray) (hl : l.length < 9223372036854775807) : Does Go.Proofs.Tryz.prog 208 [.fsl 1 (l.map Str.z), .v (.string v)] false (.v (.int .i64 (findI (eqSt v) l))) [.dead, .dead] := by
  refine does_intro (mc := m208) (N := 19) (rs := [4]) (fx := []) 2 rfl (by decide +kernel) ?_
  simp only [m208, EV, Nat.reduceEqDiff, Nat.reduceBEq, Nat.reduceLT, Nat.reduceLeDiff, Nat.reduceAdd, Nat.reduceSub, reduceIte]
  refine awp_loop (fun i : Nat => i ≤ l.length ∧ ∀ j (hj : j < l.length), j < i → eqSt v l[j] = false) (fun i => stl [(0, .fsl 1 (l.map Str.z)), (1, .v (.string v)), (7, .v (.int .i64 (l.length : Int))), (8, .v (.int .i64 (i : Int)))]) (fun i => l.length - i) 0 ⟨Nat.zero_le _, fun j hj h => absurd h (by omega)⟩ ?_ ?_
  · simp only [EV, Nat.reduceEqDiff, Nat.reduceBEq, Nat.reduceLT, Nat.reduceLeDiff, Nat.reduceAdd, Nat.reduceSub, reduceIte]
    rfl
  · rintro i ⟨hi, hno⟩
    simp only [EV, Nat.reduceEqDiff, Nat.reduceBEq, Nat.reduceLT, Nat.reduceLeDiff, Nat.reduceAdd, Nat.reduceSub, reduceIte]
    refine cK_cut (fun h => ?_) (fun h => ?_)
    · have h1 : i < l.length := by simpa using h
      have h2 : (i : Int) < (l.length : Int) := by omega
      simp only [nth_map h1, h2, Str.z, Bool.true_xor, Bool.false_xor, EV, Nat.reduceEqDiff, Nat.reduceBEq, Nat.reduceLT, Nat.reduceLeDiff, Nat.reduceAdd, Nat.reduceSub, reduceIte]
      refine cK_cut (fun h => ?_) (fun h => ?_)
      · have hq : eqSt v l[i] = true := h
        simp only [EV, Nat.reduceEqDiff, Nat.reduceBEq, Nat.reduceLT, Nat.reduceLeDiff, Nat.reduceAdd, Nat.reduceSub, reduceIte]
        simp only [findI_at h1 hq hno, EV, Nat.reduceEqDiff, Nat.reduceBEq, Nat.reduceLT, Nat.reduceLeDiff, Nat.reduceAdd, Nat.reduceSub, reduceIte, evRE, retVC, cellV', evR, nfz, nfzs, nfzss, List.contains_nil, List.contains_cons, Bool.or_false, or_true]
      · have hq : eqSt v l[i] = false := h
        simp only [EV, Nat.reduceEqDiff, Nat.reduceBEq, Nat.reduceLT, Nat.reduceLeDiff, Nat.reduceAdd, Nat.reduceSub, reduceIte]
        rw [w64 _ (by omega)]
        refine ⟨i + 1, ⟨by omega, ?_⟩, by omega, rfl⟩
        intro j hj hji
        by_cases e : j = i
        · subst e; exact hq
        · exact hno j hj (by omega)
    · have h1 : i = l.length := by have : ¬ (i : Int) < l.length := by simpa using h
                                   omega
      subst h1
      simp only [EV, Nat.reduceEqDiff, Nat.reduceBEq, Nat.reduceLT, Nat.reduceLeDiff, Nat.reduceAdd, Nat.reduceSub, reduceIte]
      simp only [findI_no (fun j hj => hno j hj hj), EV, Nat.reduceEqDiff, Nat.reduceBEq, Nat.reduceLT, Nat.reduceLeDiff, Nat.reduceAdd, Nat.reduceSub, reduceIte, evRE, retVC, cellV', evR, nfz, nfzs, nfzss, List.contains_nil, List.contains_cons, Bool.or_false, or_true]
def m145 : MC :=
 (.seq (.reg [Xb 4 (.asg .fb)]) (.seq (.reg [Xm 5 0, Xm 6 1, Xb 7 (.call (.fn 208) false [.lend (.t 5), .lend (.t 6)]), Xq 8 (.bin false .geq (.t 7) (.i 0)), Xa 4 8]) .ret))
theorem d145 (l : List Str) (v : ByteArray) (hl : l.length < 9223372036854775807) : Does Go.Proofs.Tryz.prog 145 [.fsl 1 (l.map Str.z), .v (.string v)] false (.v (.bool (l.any (eqSt v)))) [.dead, .dead] := by
  refine does_intro (mc := m145) (N := 9) (rs := [4]) (fx := []) 2 rfl (by decide +kernel) ?_
  simp only [m145, EV, Nat.reduceEqDiff, Nat.reduceBEq, Nat.reduceLT, Nat.reduceLeDiff, Nat.reduceAdd, Nat.reduceSub, reduceIte]
  refine callK_i (d208 l v hl) ?_
  simp only [EV, Nat.reduceEqDiff, Nat.reduceBEq, Nat.reduceLT, Nat.reduceLeDiff, Nat.reduceAdd, Nat.reduceSub, reduceIte]
  simp only [findI_any, EV, Nat.reduceEqDiff, Nat.reduceBEq, Nat.reduceLT, Nat.reduceLeDiff, Nat.reduceAdd, Nat.reduceSub, reduceIte, evRE, retVC, cellV', evR, nfz, nfzs, nfzss, List.contains_nil, List.contains_cons, Bool.or_false, or_true]
def m143 : MC :=
 (.seq (.reg [Xb 2 (.asg (.nils 9 1))]) (.seq (.seq (.reg [Xm 3 0, Xq 4 (.isnil false (.t 3))]) (.cond (.t 4) (.seq (.reg [Xb 2 (.asg (.nils 9 1))]) .ret) .skip)) (.seq (.reg [Xb 5 (.bsl 9 1 []), Xm 6 0, Xb 7 (.app false 9 1 16 (.t 5) (.t 6)), Xa 2 7]) .ret)))
theorem d143 (l : List Str) (hl : (l.length : Int) ≤ 1048576) : Does Go.Proofs.Tryz.prog 143 [.fsl 1 (l.map Str.z)] false (.usl 9 1 (l.map Str.o)) [.dead] := by
  refine does_intro (mc := m143) (N := 8) (rs := [2]) (fx := []) 1 rfl (by decide +kernel) ?_
  simp only [m143, EV, Nat.reduceEqDiff, Nat.reduceBEq, Nat.reduceLT, Nat.reduceLeDiff, Nat.reduceAdd, Nat.reduceSub, reduceIte]
  refine ⟨fun h b => ?_, fun h => ⟨.inl trivial, by omega, by omega, ?_⟩⟩
  · have h0 : l = [] := by simpa using h
    subst h0
    cases b
    · simp only [List.map_nil, EV, Nat.reduceEqDiff, Nat.reduceBEq, Nat.reduceLT, Nat.reduceLeDiff, Nat.reduceAdd, Nat.reduceSub, reduceIte]
      refine ⟨.inl trivial, by omega, ?_⟩
      simp only [EV, Nat.reduceEqDiff, Nat.reduceBEq, Nat.reduceLT, Nat.reduceLeDiff, Nat.reduceAdd, Nat.reduceSub, reduceIte, evRE, retVC, cellV', evR, nfz, nfzs, nfzss, List.contains_nil, List.contains_cons, Bool.or_false, or_true]
    · simp only [List.map_nil, EV, Nat.reduceEqDiff, Nat.reduceBEq, Nat.reduceLT, Nat.reduceLeDiff, Nat.reduceAdd, Nat.reduceSub, reduceIte]
      simp only [EV, Nat.reduceEqDiff, Nat.reduceBEq, Nat.reduceLT, Nat.reduceLeDiff, Nat.reduceAdd, Nat.reduceSub, reduceIte, evRE, retVC, cellV', evR, nfz, nfzs, nfzss, List.contains_nil, List.contains_cons, Bool.or_false, or_true]
  · simp only [Str.nfz, EV, Nat.reduceEqDiff, Nat.reduceBEq, Nat.reduceLT, Nat.reduceLeDiff, Nat.reduceAdd, Nat.reduceSub, reduceIte, evRE, retVC, cellV', evR, nfz, nfzs, nfzss, List.contains_nil, List.contains_cons, Bool.or_false, or_true]
    rfl
def m209 : MC :=
 (.seq (.reg [Xb 3 (.box 155 (.t 1)), Xb 4 (.asg (.i 0))]) (.seq (.seq (.reg [Xm 6 0, Xn 7 6, Xq 8 (.mov (.i 0))]) (.block 0 (.loop [0, 3, 7, 8] (.seq (.reg [Xq 9 (.bin false .lss (.t 8) (.t 7))]) (.seq (.cond (.t 9) .skip (.exit 0)) (.seq (.block 1 (.seq (.reg [Xm 10 8, Xa 5 10]) (.seq (.dreg [XL 11 2 3, Xm 12 0, Xm 13 5, Xi 14 2 12 13, XL 15 2 14, Xq 16 (.eqa false [1, 1] (.t 11) (.t 15))])
 (.cond (.t 16) (.seq (.reg [Xm 17 5, Xa 4 17]) .ret) .skip)))) (.reg [Xq 18 (.bin false .add (.t 8) (.i 1)), Xm 8 18]))))))) (.seq (.reg [Xb 4 (.asg (.i (-1)))]) .ret)))
theorem d209 (l : List Us) (v : Us) (hl : l.length < 9223372036854775807) : Does Go.Proofs.Tryz.prog 209 [.fsl 2 (l.map Us.z), .agg v.z] false (.v (.int .i64 (findI (qUs v) l))) [.dead, .dead] := by
  refine does_intro (mc := m209) (N := 19) (rs := [4]) (fx := []) 2 rfl (by decide +kernel) ?_
  simp only [m209, UsE, EV, Nat.reduceEqDiff, Nat.reduceBEq, Nat.reduceLT, Nat.reduceLeDiff, Nat.reduceAdd, Nat.reduceSub, reduceIte]
  refine awp_loop (fun i : Nat => i ≤ l.length ∧ ∀ j (hj : j < l.length), j < i → qUs v l[j] = false) (fun i => stl [(0, .fsl 2 (l.map Us.z)), (3, .box 155 v.z), (7, .v (.int .i64 (l.length : Int))), (8, .v (.int .i64 (i : Int)))]) (fun i => l.length - i) 0 ⟨Nat.zero_le _, fun j hj h => absurd h (by omega)⟩ ?_ ?_
  · simp only [UsE, EV, Nat.reduceEqDiff, Nat.reduceBEq, Nat.reduceLT, Nat.reduceLeDiff, Nat.reduceAdd, Nat.reduceSub, reduceIte]
    rfl
  · rintro i ⟨hi, hno⟩
    simp only [EV, Nat.reduceEqDiff, Nat.reduceBEq, Nat.reduceLT, Nat.reduceLeDiff, Nat.reduceAdd, Nat.reduceSub, reduceIte]
    refine cK_cut (fun h => ?_) (fun h => ?_)
    · have h1 : i < l.length := by simpa using h
      have h2 : (i : Int) < (l.length : Int) := by omega
      simp only [nth_map h1, h2, Us.z, Bool.true_xor, Bool.false_xor, EV, Nat.reduceEqDiff, Nat.reduceBEq, Nat.reduceLT, Nat.reduceLeDiff, Nat.reduceAdd, Nat.reduceSub, reduceIte]
      refine cK_cut (fun h => ?_) (fun h => ?_)
      · have hq : qUs v l[i] = true := h
        simp only [EV, Nat.reduceEqDiff, Nat.reduceBEq, Nat.reduceLT, Nat.reduceLeDiff, Nat.reduceAdd, Nat.reduceSub, reduceIte]
        simp only [findI_at h1 hq hno, EV, Nat.reduceEqDiff, Nat.reduceBEq, Nat.reduceLT, Nat.reduceLeDiff, Nat.reduceAdd, Nat.reduceSub, reduceIte, evRE, retVC, cellV', evR, nfz, nfzs, nfzss, List.contains_nil, List.contains_cons, Bool.or_false, or_true]
      · have hq : qUs v l[i] = false := h
        simp only [EV, Nat.reduceEqDiff, Nat.reduceBEq, Nat.reduceLT, Nat.reduceLeDiff, Nat.reduceAdd, Nat.reduceSub, reduceIte]
        rw [w64 _ (by omega)]
        refine ⟨i + 1, ⟨by omega, ?_⟩, by omega, rfl⟩
        intro j hj hji
        by_cases e : j = i
        · subst e; exact hq
        · exact hno j hj (by omega)
    · have h1 : i = l.length := by have : ¬ (i : Int) < l.length := by simpa using h
                                   omega
      subst h1
      simp only [EV, Nat.reduceEqDiff, Nat.reduceBEq, Nat.reduceLT, Nat.reduceLeDiff, Nat.reduceAdd, Nat.reduceSub, reduceIte]
      simp only [findI_no (fun j hj => hno j hj hj), EV, Nat.reduceEqDiff, Nat.reduceBEq, Nat.reduceLT, Nat.reduceLeDiff, Nat.reduceAdd, Nat.reduceSub, reduceIte, evRE, retVC, cellV', evR, nfz, nfzs, nfzss, List.contains_nil, List.contains_cons, Bool.or_false, or_true]
def m146 : MC :=
 (.seq (.reg [Xb 3 (.box 155 (.t 1)), Xb 4 (.asg .fb)]) (.seq (.reg [Xm 5 0, XL 6 2 3, Xb 7 (.call (.fn 209) false [.lend (.t 5), .lend (.t 6)]), Xq 8 (.bin false .geq (.t 7) (.i 0)), Xa 4 8]) .ret))
theorem d146 (l : List Us) (v : Us) (hl : l.length < 9223372036854775807) : Does Go.Proofs.Tryz.prog 146 [.fsl 2 (l.map Us.z), .agg v.z] false (.v (.bool (l.any (qUs v)))) [.dead, .dead] := by
  refine does_intro (mc := m146) (N := 9) (rs := [4]) (fx := []) 2 rfl (by decide +kernel) ?_
  simp only [m146, UsE, EV, Nat.reduceEqDiff, Nat.reduceBEq, Nat.reduceLT, Nat.reduceLeDiff, Nat.reduceAdd, Nat.reduceSub, reduceIte]
  refine callK_i (d209 l v hl) ?_
  simp only [EV, Nat.reduceEqDiff, Nat.reduceBEq, Nat.reduceLT, Nat.reduceLeDiff, Nat.reduceAdd, Nat.reduceSub, reduceIte]
  simp only [findI_any, EV, Nat.reduceEqDiff, Nat.reduceBEq, Nat.reduceLT, Nat.reduceLeDiff, Nat.reduceAdd, Nat.reduceSub, reduceIte, evRE, retVC, cellV', evR, nfz, nfzs, nfzss, List.contains_nil, List.contains_cons, Bool.or_false, or_true]
def m237 : MC :=
 (.seq (.reg [Xb 4 (.asg (.i 0))]) (.seq (.seq (.reg [Xm 6 0, Xn 7 6, Xq 8 (.mov (.i 0))]) (.block 0 (.loop [0, 1, 7, 8] (.seq (.reg [Xq 9 (.bin false .lss (.t 8) (.t 7))]) (.seq (.cond (.t 9) .skip (.exit 0)) (.seq (.block 1 (.seq (.reg [Xm 10 8, Xa 5 10]) (.seq (.reg [Xm 11 1, Xm 12 0, Xm 13 5, Xi 14 3 12 13, XL 15 3 14, Xb 16 (.call (.t 11) false [.lend (.t 15)])]) (.cond (.t 16) (.seq (.reg [Xm
 17 5, Xa 4 17]) .ret) .skip)))) (.reg [Xq 18 (.bin false .add (.t 8) (.i 1)), Xm 8 18]))))))) (.seq (.reg [Xb 4 (.asg (.i (-1)))]) .ret)))
theorem d237 (l : List Par) (hl : l.length < 9223372036854775807) (f : Nat) (caps : List AV) (q : Par → Bool) (hp : plains caps = true) (hb : bares caps = true) (hk : ∀ K, killVs K caps = caps) (hf : ∀ (st : St), frzBs st caps = caps)
    (hq : ∀ s ∈ l, Does Go.Proofs.Tryz.prog f (.agg s.z :: caps) false (.v (.bool (q s))) (.dead :: caps.map fun _ => .dead)) :
    Does Go.Proofs.Tryz.prog 237 [.fsl 3 (l.map Par.z), .clo f caps] false (.v (.int .i64 (findI q l))) [.dead, .dead] := by
  refine does_intro (mc := m237) (N := 19) (rs := [4]) (fx := []) 2 rfl (by decide +kernel) ?_
  simp only [m237, EV, Nat.reduceEqDiff, Nat.reduceBEq, Nat.reduceLT, Nat.reduceLeDiff, Nat.reduceAdd, Nat.reduceSub, reduceIte]
  refine awp_loop (fun i : Nat => i ≤ l.length ∧ ∀ j (hj : j < l.length), j < i → q l[j] = false) (fun i => stl [(0, .fsl 3 (l.map Par.z)), (1, .clo f caps), (7, .v (.int .i64 (l.length : Int))), (8, .v (.int .i64 (i : Int)))]) (fun i => l.length - i) 0 ⟨Nat.zero_le _, fun j hj h => absurd h (by omega)⟩ ?_ ?_
  · simp only [hp, hb, hk, EV, Nat.reduceEqDiff, Nat.reduceBEq, Nat.reduceLT, Nat.reduceLeDiff, Nat.reduceAdd, Nat.reduceSub, reduceIte]
    rfl
  · rintro i ⟨hi, hno⟩
    simp only [EV, Nat.reduceEqDiff, Nat.reduceBEq, Nat.reduceLT, Nat.reduceLeDiff, Nat.reduceAdd, Nat.reduceSub, reduceIte]
    refine cK_cut (fun h => ?_) (fun h => ?_)
    · have h1 : i < l.length := by simpa using h
      have h2 : (i : Int) < (l.length : Int) := by omega
      simp only [ParE, nth_map h1, h2, hp, hb, EV, Nat.reduceEqDiff, Nat.reduceBEq, Nat.reduceLT, Nat.reduceLeDiff, Nat.reduceAdd, Nat.reduceSub, reduceIte]
      refine callK_i (hq l[i] (List.getElem_mem h1)) ?_
      simp only [EV, Nat.reduceEqDiff, Nat.reduceBEq, Nat.reduceLT, Nat.reduceLeDiff, Nat.reduceAdd, Nat.reduceSub, reduceIte]
      refine cK_cut (fun h => ?_) (fun h => ?_)
      · simp only [EV, Nat.reduceEqDiff, Nat.reduceBEq, Nat.reduceLT, Nat.reduceLeDiff, Nat.reduceAdd, Nat.reduceSub, reduceIte]
        simp only [findI_at h1 h hno, EV, Nat.reduceEqDiff, Nat.reduceBEq, Nat.reduceLT, Nat.reduceLeDiff, Nat.reduceAdd, Nat.reduceSub, reduceIte, evRE, retVC, cellV', evR, nfz, nfzs, nfzss, List.contains_nil, List.contains_cons, Bool.or_false, or_true]
      · simp only [hp, hb, hk, EV, Nat.reduceEqDiff, Nat.reduceBEq, Nat.reduceLT, Nat.reduceLeDiff, Nat.reduceAdd, Nat.reduceSub, reduceIte]
        rw [w64 _ (by omega)]
        refine ⟨i + 1, ⟨by omega, ?_⟩, by omega, rfl⟩
        intro j hj hji
        by_cases e : j = i
        · subst e; exact h
        · exact hno j hj (by omega)
    · have h1 : i = l.length := by have : ¬ (i : Int) < l.length := by simpa using h
                                   omega
      subst h1
      simp only [EV, Nat.reduceEqDiff, Nat.reduceBEq, Nat.reduceLT, Nat.reduceLeDiff, Nat.reduceAdd, Nat.reduceSub, reduceIte]
      simp only [findI_no (fun j hj => hno j hj hj), EV, Nat.reduceEqDiff, Nat.reduceBEq, Nat.reduceLT, Nat.reduceLeDiff, Nat.reduceAdd, Nat.reduceSub, reduceIte, evRE, retVC, cellV', evR, nfz, nfzs, nfzss, List.contains_nil, List.contains_cons, Bool.or_false, or_true]
def m205 : MC :=
 (.seq (.reg [Xb 4 (.asg .fb)]) (.seq (.reg [Xm 5 0, Xm 6 1, Xb 7 (.call (.fn 237) false [.lend (.t 5), .lend (.t 6)]), Xq 8 (.bin false .geq (.t 7) (.i 0)), Xa 4 8]) .ret))
theorem d205 (l : List Par) (hl : l.length < 9223372036854775807) (f : Nat) (caps : List AV) (q : Par → Bool) (hp : plains caps = true) (hb : bares caps = true) (hk : ∀ K, killVs K caps = caps) (hf : ∀ (st : St), frzBs st caps = caps)
    (hq : ∀ s ∈ l, Does Go.Proofs.Tryz.prog f (.agg s.z :: caps) false (.v (.bool (q s))) (.dead :: caps.map fun _ => .dead)) :
    Does Go.Proofs.Tryz.prog 205 [.fsl 3 (l.map Par.z), .clo f caps] false (.v (.bool (l.any q))) [.dead, .dead] := by
  refine does_intro (mc := m205) (N := 9) (rs := [4]) (fx := []) 2 rfl (by decide +kernel) ?_
  simp only [m205, hp, hb, hk, hf, EV, Nat.reduceEqDiff, Nat.reduceBEq, Nat.reduceLT, Nat.reduceLeDiff, Nat.reduceAdd, Nat.reduceSub, reduceIte]
  refine callK_i (d237 l hl f caps q hp hb hk hf hq) ?_
  simp only [EV, Nat.reduceEqDiff, Nat.reduceBEq, Nat.reduceLT, Nat.reduceLeDiff, Nat.reduceAdd, Nat.reduceSub, reduceIte]
  simp only [findI_any, EV, Nat.reduceEqDiff, Nat.reduceBEq, Nat.reduceLT, Nat.reduceLeDiff, Nat.reduceAdd, Nat.reduceSub, reduceIte, evRE, retVC, cellV', evR, nfz, nfzs, nfzss, List.contains_nil, List.contains_cons, Bool.or_false, or_true]
end Go.AM
namespace Go.AM
set_option linter.unusedVariables false
set_option linter.unusedSimpArgs false
theorem fdNm_comm (x o : Fd) : (x.name.toList == o.name.toList) = fdNm x o := by
  unfold fdNm
  rw [Bool.beq_comm]
theorem any_take {α : Type} {q : α → Bool} {l : List α} {k : Nat} (h : k < l.length) (h1 : (l.take k).any q = false) (h2 : q l[k] = false) : (l.take (k + 1)).any q = false := by
  rw [List.take_succ_eq_append_getElem h, List.any_append, h1]
  simp [h2]
theorem any_at {α : Type} {q : α → Bool} {l : List α} {k : Nat} (h : k < l.length) (h2 : q l[k] = true) : l.any q = true := by
  rw [List.any_eq_true]; exact ⟨l[k], List.getElem_mem h, h2⟩
theorem fdAt_no {l : List Ty} {fs : List Fd} {i : Nat} {h : i < fs.length} (g : (nameOk fs[i].name = false ∧ nil' fs[i].name = false) ∨ (nil' fs[i].name = true ∧ (fs[i].mark == 0) = false) ∨ (decide (0 ≤ fs[i].mark) && decide (fs[i].mark ≤ 2)) = false ∨ isNum l fs[i].typ = false) : fdAt l fs i h = false := by
  unfold fdAt
  rcases g with ⟨g, g2⟩ | ⟨g, g2⟩ | g | g
  · simp only [g, g2, Bool.false_eq_true, if_false, Bool.false_and, Bool.and_false]
  · simp only [g, g2, if_true, Bool.and_false]
  · simp only [g, Bool.false_and]
  · simp only [g, Bool.false_and, Bool.and_false]
def m233 : MC :=
 (.seq (.reg [Xb 4 (.asg .fb)]) (.seq (.seq (.reg [Xm 9 1, Xn 10 9, Xq 11 (.mov (.i 0))]) (.block 0 (.loop [0, 1, 9, 10, 11] (.seq (.reg [Xq 12 (.bin false .lss (.t 11) (.t 10))]) (.seq (.cond (.t 12) .skip (.exit 0)) (.seq (.block 1 (.seq (.reg [Xm 13 11, Xi 14 3 9 11, XL 15 3 14, Xb 6 (.alloc 97 [.z, .i, .i]), Xa 5 13, Xz (.store 3 (.t 6) (.t 15))]) (.seq (.seq (.reg [Xf 16 0 6, Xl 17 1 16, Xb 18
 (.call (.fn 148) false [.lend (.t 17)]), Xq 19 (.un .not (.t 18)), Xm 20 19, Xt 21 20 (.fad 0 (.t 6)), Xt 22 20 (.load false 1 (.t 21)), Xt 23 20 (.bin false .neq (.t 22) (.z #[])), Xt 24 20 (.mov (.t 23)), Xu 25 24 (.fad 1 (.t 6)), Xu 26 24 (.load false 1 (.t 25)), Xu 27 24 (.bin false .neq (.t 26) (.i 0)), Xt 28 20 (.pick (.t 24) .tb (.t 27)), Xq 29 (.pick (.t 20) (.t 28) .fb), Xm 30 29, Xu 31
 30 (.fad 1 (.t 6)), Xu 32 30 (.load false 1 (.t 31)), XU 33 30 (.call (.fn 72) false [.lend (.t 32), .lend (.i 0), .lend (.i 2)]), Xu 34 30 (.un .not (.t 33)), Xq 35 (.pick (.t 30) .tb (.t 34)), Xm 36 35, Xu 37 36 (.fad 2 (.t 6)), Xu 38 36 (.load false 1 (.t 37)), Xu 39 36 (.mov (.t 0)), Xu 40 36 (.len false (.t 39)), Xu 41 36 (.bin false .sub (.t 40) (.i 1)), XU 42 36 (.call (.fn 72) false [.lend
 (.t 38), .lend (.i 0), .lend (.t 41)]), Xu 43 36 (.un .not (.t 42)), Xq 44 (.pick (.t 36) .tb (.t 43))]) (.cond (.t 44) (.seq (.reg [Xb 4 (.asg .fb)]) .ret) .skip)) (.seq (.reg [Xm 45 1, Xm 46 5, Xq 47 (.slc false 3 (.t 45) none (some (.t 46))), Xn 48 47, Xq 49 (.mov (.i 0))]) (.block 2 (.loop [0, 1, 6, 9, 10, 11, 45, 46, 47, 48, 49] (.seq (.reg [Xq 50 (.bin false .lss (.t 49) (.t 48))]) (.seq
 (.cond (.t 50) .skip (.exit 2)) (.seq (.block 3 (.seq (.reg [Xi 51 3 47 49, XL 52 3 51, Xb 8 (.alloc 97 [.z, .i, .i]), Xz (.store 3 (.t 8) (.t 52))]) (.seq (.reg [Xf 53 0 6, Xl 54 1 53, Xq 55 (.bin false .neq (.t 54) (.z #[])), Xm 56 55, Xt 57 56 (.fad 0 (.t 6)), Xt 58 56 (.load false 1 (.t 57)), Xt 59 56 (.fad 0 (.t 8)), Xt 60 56 (.load false 1 (.t 59)), Xt 61 56 (.bin false .eql (.t 58) (.t
 60)), Xq 62 (.pick (.t 56) (.t 61) .fb)]) (.cond (.t 62) (.seq (.reg [Xb 4 (.asg .fb)]) .ret) .skip)))) (.reg [Xq 63 (.bin false .add (.t 49) (.i 1)), Xm 49 63])))))))))) (.reg [Xq 64 (.bin false .add (.t 11) (.i 1)), Xm 11 64]))))))) (.seq (.reg [Xm 65 1, Xn 66 65, Xq 67 (.bin false .leq (.t 66) (.i 6)), Xa 4 67]) .ret)))
set_option maxHeartbeats 1000000 in
set_option maxRecDepth 100000 in
theorem d233 (l : List Ty) (fs : List Fd) (hl : (l.length : Int) ≤ 1048576) (hf : (fs.length : Int) ≤ 1048576) (hs : ∀ s ∈ fs, s.sm) :
    Does Go.Proofs.Tryz.prog 233 [.fsl 6 (l.map Ty.z), .fsl 3 (fs.map Fd.z)] false (.v (.bool (fdsOk l fs))) [.dead, .dead] := by
  refine does_intro (mc := m233) (N := 68) (rs := [4]) (fx := []) 2 rfl (by decide +kernel) ?_
  simp only [m233, EV, Nat.reduceEqDiff, Nat.reduceBEq, Nat.reduceLT, Nat.reduceLeDiff, Nat.reduceAdd, Nat.reduceSub, reduceIte]
  refine awp_loop (fun i : Nat => i ≤ fs.length ∧ fdTo l fs i) (fun i => stl [(0, .fsl 6 (l.map Ty.z)), (1, .fsl 3 (fs.map Fd.z)), (9, .fsl 3 (fs.map Fd.z)), (10, .v (.int .i64 (fs.length : Int))), (11, .v (.int .i64 (i : Int)))]) (fun i => fs.length - i) 0 ⟨Nat.zero_le _, fun j hj h => absurd h (by omega)⟩ ?_ ?_
  · simp only [EV, Nat.reduceEqDiff, Nat.reduceBEq, Nat.reduceLT, Nat.reduceLeDiff, Nat.reduceAdd, Nat.reduceSub, reduceIte]
    rfl
  · rintro i ⟨hi, hok⟩
    simp only [EV, Nat.reduceEqDiff, Nat.reduceBEq, Nat.reduceLT, Nat.reduceLeDiff, Nat.reduceAdd, Nat.reduceSub, reduceIte]
    refine cK_cut (fun h => ?_) (fun h => ?_)
    · have h1 : i < fs.length := by simpa using h
      have h2 : (i : Int) < (fs.length : Int) := by omega
      have hso := hs fs[i] (List.getElem_mem h1)
      simp only [Fd.sm] at hso
      clear h
      have p9 : fdAt l fs i h1 = false → fdsOk l fs = false := fdsOk_no h1
      have ht : (fs.take i).length = i := by simp; omega
      have en : (fs[i].name.toList == (⟨#[]⟩ : ByteArray).toList) = nil' fs[i].name := rfl
      have eb : (fs[i].name.toList != (⟨#[]⟩ : ByteArray).toList) = !nil' fs[i].name := rfl
      have rest : nameOk fs[i].name = true ∨ (nil' fs[i].name = true ∧ (fs[i].mark == 0) = true) → (decide (0 ≤ fs[i].mark) && decide (fs[i].mark ≤ 2)) = true → isNum l fs[i].typ = true →
          (nil' fs[i].name = true ∨ (fs.take i).any (fdNm fs[i]) = false) → fdAt l fs i h1 = true := by
        intro q1 q2 q3 q4
        simp only [fdAt, q2, q3, Bool.true_and]
        rcases e3 : nil' fs[i].name with _ | _
        · rw [e3] at q1 q4
          simp only [Bool.false_eq_true, false_and, false_or, or_false] at q1 q4
          simp only [Bool.false_eq_true, if_false, q1, q4, Bool.not_false, Bool.and_self]
        · have := nil_name e3
          rw [this] at q1
          simp only [Bool.false_eq_true, false_or] at q1
          simp only [if_true, q1.2]
      simp only [FdE, nth_map h1, h2, Fd.z, EV, Nat.reduceEqDiff, Nat.reduceBEq, Nat.reduceLT, Nat.reduceLeDiff, Nat.reduceAdd, Nat.reduceSub, reduceIte]
      refine callK_i (d148 _ (by omega)) ?_
      simp only [eb, EV, Nat.reduceEqDiff, Nat.reduceBEq, Nat.reduceLT, Nat.reduceLeDiff, Nat.reduceAdd, Nat.reduceSub, reduceIte]
      have hw : IntKind.i64.wrap ((l.length : Int) - 1) = (l.length : Int) - 1 := w64 _ (by omega)
      repeat' (first
    | (refine gK_cut (fun h => ?_) (fun h => ?_) <;> simp only [h, eb, hw, EV, Nat.reduceEqDiff, Nat.reduceBEq, Nat.reduceLT, Nat.reduceLeDiff, Nat.reduceAdd, Nat.reduceSub, reduceIte])
    | (refine cK_cut (fun h => ?_) (fun h => ?_) <;> simp only [h, eb, hw, EV, Nat.reduceEqDiff, Nat.reduceBEq, Nat.reduceLT, Nat.reduceLeDiff, Nat.reduceAdd, Nat.reduceSub, reduceIte])
    | (refine callK_i (d72 _ _ _) ?_ <;> simp only [h, eb, hw, EV, Nat.reduceEqDiff, Nat.reduceBEq, Nat.reduceLT, Nat.reduceLeDiff, Nat.reduceAdd, Nat.reduceSub, reduceIte]))
      all_goals simp only [en, bne, Bool.not_eq_true', Bool.not_eq_false'] at *
      all_goals first
        | (have e : fdsOk l fs = false := p9 (fdAt_no (by
             first
               | (left; exact ⟨by assumption, by assumption⟩)
               | (right; left; exact ⟨by assumption, by assumption⟩)
               | (right; right; left; assumption)
               | (right; right; right; unfold isNum; assumption)))
           simp only [e, EV, Nat.reduceEqDiff, Nat.reduceBEq, Nat.reduceLT, Nat.reduceLeDiff, Nat.reduceAdd, Nat.reduceSub, reduceIte, evRE, retVC, cellV', evR, nfz, nfzs, nfzss, List.contains_nil, List.contains_cons, Bool.or_false, or_true]
           done)
        | skip
      all_goals refine ⟨by omega, by omega, ?_⟩
      all_goals have q1 : nameOk fs[i].name = true ∨ (nil' fs[i].name = true ∧ (fs[i].mark == 0) = true) := (by first | exact Or.inl (by assumption) | exact Or.inr ⟨by assumption, by assumption⟩)
      all_goals have q2 : (decide (0 ≤ fs[i].mark) && decide (fs[i].mark ≤ 2)) = true := by assumption
      all_goals have q3 : isNum l fs[i].typ = true := by unfold isNum; assumption
      all_goals have q9 := rest q1 q2 q3
      all_goals clear rest q1 q2 q3
      all_goals simp only [← List.map_take]
      all_goals refine awp_loop (fun k : Nat => k ≤ i ∧ (nil' fs[i].name = true ∨ ((fs.take i).take k).any (fdNm fs[i]) = false)) (fun k => stl [(0, .fsl 6 (l.map Ty.z)), (1, .fsl 3 (fs.map Fd.z)), (6, .box 97 fs[i].z), (9, .fsl 3 (fs.map Fd.z)), (10, .v (.int .i64 (fs.length : Int))), (11, .v (.int .i64 (i : Int))), (45, .fsl 3 (fs.map Fd.z)), (46, .v (.int .i64 (i : Int))), (47, .fsl 3 ((fs.take i).map Fd.z)), (48, .v (.int .i64 (i : Int))), (49, .v (.int .i64 (k : Int)))]) (fun k => i - k) 0 ⟨Nat.zero_le _, by simp⟩ ?_ ?_
      all_goals first
        | (simp only [Fd.z, EV, Nat.reduceEqDiff, Nat.reduceBEq, Nat.reduceLT, Nat.reduceLeDiff, Nat.reduceAdd, Nat.reduceSub, reduceIte]
           rw [ht]
           rfl)
        | skip
      all_goals rintro k ⟨hk, hno⟩
      all_goals simp only [Fd.z, EV, Nat.reduceEqDiff, Nat.reduceBEq, Nat.reduceLT, Nat.reduceLeDiff, Nat.reduceAdd, Nat.reduceSub, reduceIte]
      · refine cK_cut (fun h => ?_) (fun h => ?_)
        · have k3 : k < i := by have : (k : Int) < i := by simpa using h
                                omega
          have k1 : k < (fs.take i).length := by rw [ht]; exact k3
          have k2 : (k : Int) < i := by omega
          clear h
          simp only [FdE, nth_map k1, k2, k3, ht, Fd.z, EV, Nat.reduceEqDiff, Nat.reduceBEq, Nat.reduceLT, Nat.reduceLeDiff, Nat.reduceAdd, Nat.reduceSub, reduceIte]
          refine gK_cut (fun h => ?_) (fun h => ?_)
          · have e3 : nil' fs[i].name = false := by unfold nil'; simpa [bne] using h
            have hno' : ((fs.take i).take k).any (fdNm fs[i]) = false := by
              rcases hno with hno | hno
              · rw [e3] at hno; cases hno
              · exact hno
            simp only [h, FdE, nth_map k1, k2, k3, ht, Fd.z, EV, Nat.reduceEqDiff, Nat.reduceBEq, Nat.reduceLT, Nat.reduceLeDiff, Nat.reduceAdd, Nat.reduceSub, reduceIte]
            rw [fdNm_comm]
            rcases e5 : fdNm fs[i] (fs.take i)[k] with _ | _
            · simp only [EV, Nat.reduceEqDiff, Nat.reduceBEq, Nat.reduceLT, Nat.reduceLeDiff, Nat.reduceAdd, Nat.reduceSub, reduceIte]
              rw [w64 _ (by omega)]
              exact ⟨k + 1, ⟨k3, Or.inr (any_take k1 hno' e5)⟩, by omega, rfl⟩
            · have e4 := any_at k1 e5
              have e : fdsOk l fs = false := p9 (by
                unfold fdAt
                rw [e3, e4]
                simp only [Bool.false_eq_true, if_false, Bool.not_true, Bool.and_false])
              simp only [EV, Nat.reduceEqDiff, Nat.reduceBEq, Nat.reduceLT, Nat.reduceLeDiff, Nat.reduceAdd, Nat.reduceSub, reduceIte]
              simp only [e, EV, Nat.reduceEqDiff, Nat.reduceBEq, Nat.reduceLT, Nat.reduceLeDiff, Nat.reduceAdd, Nat.reduceSub, reduceIte, evRE, retVC, cellV', evR, nfz, nfzs, nfzss, List.contains_nil, List.contains_cons, Bool.or_false, or_true]
          · have e3 : nil' fs[i].name = true := by unfold nil'; simpa [bne] using h
            simp only [h, EV, Nat.reduceEqDiff, Nat.reduceBEq, Nat.reduceLT, Nat.reduceLeDiff, Nat.reduceAdd, Nat.reduceSub, reduceIte]
            rw [w64 _ (by omega)]
            exact ⟨k + 1, ⟨k3, Or.inl e3⟩, by omega, rfl⟩
        · have k1 : k = i := by have : ¬ (k : Int) < i := by simpa using h
                                omega
          subst k1
          have hq : fdAt l fs k h1 = true := q9 (by
            rcases hno with hno | hno
            · exact Or.inl hno
            · rw [List.take_take, Nat.min_self] at hno
              exact Or.inr hno)
          simp only [EV, Nat.reduceEqDiff, Nat.reduceBEq, Nat.reduceLT, Nat.reduceLeDiff, Nat.reduceAdd, Nat.reduceSub, reduceIte]
          rw [w64 _ (by omega)]
          exact ⟨k + 1, ⟨h1, fdTo_succ h1 hok hq⟩, by omega, rfl⟩
      · refine cK_cut (fun h => ?_) (fun h => ?_)
        · have k3 : k < i := by have : (k : Int) < i := by simpa using h
                                omega
          have k1 : k < (fs.take i).length := by rw [ht]; exact k3
          have k2 : (k : Int) < i := by omega
          clear h
          simp only [FdE, nth_map k1, k2, k3, ht, Fd.z, EV, Nat.reduceEqDiff, Nat.reduceBEq, Nat.reduceLT, Nat.reduceLeDiff, Nat.reduceAdd, Nat.reduceSub, reduceIte]
          refine gK_cut (fun h => ?_) (fun h => ?_)
          · have e3 : nil' fs[i].name = false := by unfold nil'; simpa [bne] using h
            have hno' : ((fs.take i).take k).any (fdNm fs[i]) = false := by
              rcases hno with hno | hno
              · rw [e3] at hno; cases hno
              · exact hno
            simp only [h, FdE, nth_map k1, k2, k3, ht, Fd.z, EV, Nat.reduceEqDiff, Nat.reduceBEq, Nat.reduceLT, Nat.reduceLeDiff, Nat.reduceAdd, Nat.reduceSub, reduceIte]
            rw [fdNm_comm]
            rcases e5 : fdNm fs[i] (fs.take i)[k] with _ | _
            · simp only [EV, Nat.reduceEqDiff, Nat.reduceBEq, Nat.reduceLT, Nat.reduceLeDiff, Nat.reduceAdd, Nat.reduceSub, reduceIte]
              rw [w64 _ (by omega)]
              exact ⟨k + 1, ⟨k3, Or.inr (any_take k1 hno' e5)⟩, by omega, rfl⟩
            · have e4 := any_at k1 e5
              have e : fdsOk l fs = false := p9 (by
                unfold fdAt
                rw [e3, e4]
                simp only [Bool.false_eq_true, if_false, Bool.not_true, Bool.and_false])
              simp only [EV, Nat.reduceEqDiff, Nat.reduceBEq, Nat.reduceLT, Nat.reduceLeDiff, Nat.reduceAdd, Nat.reduceSub, reduceIte]
              simp only [e, EV, Nat.reduceEqDiff, Nat.reduceBEq, Nat.reduceLT, Nat.reduceLeDiff, Nat.reduceAdd, Nat.reduceSub, reduceIte, evRE, retVC, cellV', evR, nfz, nfzs, nfzss, List.contains_nil, List.contains_cons, Bool.or_false, or_true]
          · have e3 : nil' fs[i].name = true := by unfold nil'; simpa [bne] using h
            simp only [h, EV, Nat.reduceEqDiff, Nat.reduceBEq, Nat.reduceLT, Nat.reduceLeDiff, Nat.reduceAdd, Nat.reduceSub, reduceIte]
            rw [w64 _ (by omega)]
            exact ⟨k + 1, ⟨k3, Or.inl e3⟩, by omega, rfl⟩
        · have k1 : k = i := by have : ¬ (k : Int) < i := by simpa using h
                                omega
          subst k1
          have hq : fdAt l fs k h1 = true := q9 (by
            rcases hno with hno | hno
            · exact Or.inl hno
            · rw [List.take_take, Nat.min_self] at hno
              exact Or.inr hno)
          simp only [EV, Nat.reduceEqDiff, Nat.reduceBEq, Nat.reduceLT, Nat.reduceLeDiff, Nat.reduceAdd, Nat.reduceSub, reduceIte]
          rw [w64 _ (by omega)]
          exact ⟨k + 1, ⟨h1, fdTo_succ h1 hok hq⟩, by omega, rfl⟩
    · have h1 : i = fs.length := by have : ¬ (i : Int) < fs.length := by simpa using h
                                    omega
      subst h1
      simp only [EV, Nat.reduceEqDiff, Nat.reduceBEq, Nat.reduceLT, Nat.reduceLeDiff, Nat.reduceAdd, Nat.reduceSub, reduceIte]
      simp only [fdsOk_yes hok, EV, Nat.reduceEqDiff, Nat.reduceBEq, Nat.reduceLT, Nat.reduceLeDiff, Nat.reduceAdd, Nat.reduceSub, reduceIte, evRE, retVC, cellV', evR, nfz, nfzs, nfzss, List.contains_nil, List.contains_cons, Bool.or_false, or_true]
end Go.AM
namespace Go.AM
set_option linter.unusedVariables false
set_option linter.unusedSimpArgs false
noncomputable def tyOk (l : List Ty) (t : Ty) : Bool :=
  named t && (!((!(t.kind == 5)) && decide (0 < (t.fields.length : Int))) &&
  (if (t.kind == 4) = true then (decide (1 ≤ t.long) && decide (t.long ≤ 1000)) && isNum l t.base
  else if (t.kind == 5) = true then ((t.long == 0) && ((t.base == -1) || isRec l t.base)) && fdsOk l t.fields
  else if (t.kind == 6) = true then (t.long == 0) && (isRec l t.base || (isNum l t.base && kd l t.base == 4))
  else false))
def m189 : MC :=
 (.seq (.reg [Xb 3 (.box 40 (.t 1)), Xb 4 (.asg .fb)]) (.seq (.seq (.reg [XL 5 6 3, Xb 6 (.call (.fn 228) false [.lend (.t 5)]), Xq 7 (.un .not (.t 6)), Xm 8 7, Xu 9 8 (.fad 0 (.t 3)), Xu 10 8 (.load false 1 (.t 9)), Xu 11 8 (.bin false .neq (.t 10) (.i 5)), Xu 12 8 (.mov (.t 11)), Xt 13 12 (.fad 3 (.t 3)), Xt 14 12 (.load false 1 (.t 13)), Xt 15 12 (.len false (.t 14)), Xt 16 12 (.bin false .gtr
 (.t 15) (.i 0)), Xu 17 8 (.pick (.t 12) (.t 16) .fb), Xq 18 (.pick (.t 8) .tb (.t 17))]) (.cond (.t 18) (.seq (.reg [Xb 4 (.asg .fb)]) .ret) .skip)) (.seq (.seq (.reg [Xf 19 0 3, Xl 20 1 19]) (.block 0 (.seq (.reg [Xq 22 (.bin false .eql (.t 20) (.i 4)), Xa 21 22]) (.cond (.t 21) (.seq (.reg [Xf 23 1 3, Xl 24 1 23, Xb 25 (.call (.fn 78) false [.lend (.t 24), .lend (.i 1), .lend (.i 1000)]), Xm 26
 25, Xt 27 26 (.mov (.t 0)), Xt 28 26 (.fad 2 (.t 3)), Xt 29 26 (.load false 1 (.t 28)), XT 30 26 (.call (.fn 61) false [.lend (.t 27), .lend (.t 29)]), Xq 31 (.pick (.t 26) (.t 30) .fb), Xa 4 31]) .ret) (.seq (.reg [Xq 33 (.bin false .eql (.t 20) (.i 5)), Xa 32 33]) (.cond (.t 32) (.seq (.reg [Xf 34 1 3, Xl 35 1 34, Xq 36 (.bin false .eql (.t 35) (.i 0)), Xm 37 36, Xt 38 37 (.fad 2 (.t 3)), Xt 39
 37 (.load false 1 (.t 38)), Xt 40 37 (.bin false .eql (.t 39) (.i (-1))), Xt 41 37 (.mov (.t 40)), Xu 42 41 (.mov (.t 0)), Xu 43 41 (.fad 2 (.t 3)), Xu 44 41 (.load false 1 (.t 43)), XU 45 41 (.call (.fn 56) false [.lend (.t 42), .lend (.t 44)]), Xt 46 37 (.pick (.t 41) .tb (.t 45)), Xq 47 (.pick (.t 37) (.t 46) .fb), Xm 48 47, Xt 49 48 (.mov (.t 0)), Xt 50 48 (.fad 3 (.t 3)), Xt 51 48 (.load
 false 1 (.t 50)), XT 52 48 (.call (.fn 229) false [.lend (.t 49), .lend (.t 51)]), Xq 53 (.pick (.t 48) (.t 52) .fb), Xa 4 53]) .ret) (.seq (.reg [Xq 55 (.bin false .eql (.t 20) (.i 6)), Xa 54 55]) (.cond (.t 54) (.seq (.reg [Xf 56 1 3, Xl 57 1 56, Xq 58 (.bin false .eql (.t 57) (.i 0)), Xm 59 58, Xt 60 59 (.mov (.t 0)), Xt 61 59 (.fad 2 (.t 3)), Xt 62 59 (.load false 1 (.t 61)), XT 63 59 (.call
 (.fn 56) false [.lend (.t 60), .lend (.t 62)]), Xt 64 59 (.mov (.t 63)), Xu 65 64 (.mov (.t 0)), Xu 66 64 (.fad 2 (.t 3)), Xu 67 64 (.load false 1 (.t 66)), XU 68 64 (.call (.fn 61) false [.lend (.t 65), .lend (.t 67)]), Xu 69 64 (.mov (.t 68)), Xt 70 69 (.mov (.t 0)), Xt 71 69 (.fad 2 (.t 3)), Xt 72 69 (.load false 1 (.t 71)), Xt 73 69 (.iad 6 (.t 70) (.t 72)), Xt 74 69 (.fad 0 (.t 73)), Xt 75 69
 (.load false 1 (.t 74)), Xt 76 69 (.bin false .eql (.t 75) (.i 4)), Xu 77 64 (.pick (.t 69) (.t 76) .fb), Xt 78 59 (.pick (.t 64) .tb (.t 77)), Xq 79 (.pick (.t 59) (.t 78) .fb), Xa 4 79]) .ret) .skip)))))))) (.seq (.reg [Xb 4 (.asg .fb)]) .ret))))
set_option maxHeartbeats 1000000 in
set_option maxRecDepth 100000 in
theorem d189 (l : List Ty) (t : Ty) (hl : (l.length : Int) ≤ 1048576) (ht : t.sm) :
    Does Go.Proofs.Tryz.prog 189 [.fsl 6 (l.map Ty.z), .agg t.z] false (.v (.bool (tyOk l t))) [.dead, .dead] := by
  have ht0 := ht
  unfold Ty.sm at ht
  have d7 := d229 l t.fields hl ht.2.2.2.1.1 ht.2.2.2.1.2
  have d6 := d228 t ht0
  have hz : t.z = [.v (.int .i64 t.kind), .v (.int .i64 t.long), .v (.int .i64 t.base), .fsl 3 (t.fields.map Fd.z), .v (.string t.owner), .v (.string t.name)] := rfl
  rw [hz] at d6
  refine does_intro (mc := m189) (N := 80) (rs := [4]) (fx := []) 2 rfl (by decide +kernel) ?_
  simp only [m189, hz, EV, Nat.reduceEqDiff, Nat.reduceBEq, Nat.reduceLT, Nat.reduceLeDiff, Nat.reduceAdd, Nat.reduceSub, reduceIte]
  refine callK_i d6 ?_
  simp only [EV, Nat.reduceEqDiff, Nat.reduceBEq, Nat.reduceLT, Nat.reduceLeDiff, Nat.reduceAdd, Nat.reduceSub, reduceIte]
  repeat' (first
    | (refine gK_cut (fun h => ?_) (fun h => ?_) <;> simp only [h, bne, EV, Nat.reduceEqDiff, Nat.reduceBEq, Nat.reduceLT, Nat.reduceLeDiff, Nat.reduceAdd, Nat.reduceSub, reduceIte])
    | (refine cK_cut (fun h => ?_) (fun h => ?_) <;> simp only [h, bne, EV, Nat.reduceEqDiff, Nat.reduceBEq, Nat.reduceLT, Nat.reduceLeDiff, Nat.reduceAdd, Nat.reduceSub, reduceIte])
    | (refine callK_i d7 ?_ <;> simp only [h, bne, EV, Nat.reduceEqDiff, Nat.reduceBEq, Nat.reduceLT, Nat.reduceLeDiff, Nat.reduceAdd, Nat.reduceSub, reduceIte])
    | (refine callK_i (d78 _ _ _) ?_ <;> simp only [h, bne, EV, Nat.reduceEqDiff, Nat.reduceBEq, Nat.reduceLT, Nat.reduceLeDiff, Nat.reduceAdd, Nat.reduceSub, reduceIte])
    | (refine callK_i (d61 l _ hl) ?_ <;> simp only [h, bne, EV, Nat.reduceEqDiff, Nat.reduceBEq, Nat.reduceLT, Nat.reduceLeDiff, Nat.reduceAdd, Nat.reduceSub, reduceIte])
    | (refine callK_i (d56 l _ hl) ?_ <;> simp only [h, bne, EV, Nat.reduceEqDiff, Nat.reduceBEq, Nat.reduceLT, Nat.reduceLeDiff, Nat.reduceAdd, Nat.reduceSub, reduceIte]))
  all_goals simp only [Bool.not_eq_true', Bool.not_eq_false'] at *
  all_goals first
    | exact absurd ((‹(t.kind == 5) = false›).symm.trans ‹(t.kind == 5) = true›) Bool.false_ne_true
    | (simp only [tyOk, *, Bool.not_true, Bool.not_false, Bool.true_and, Bool.false_and, Bool.and_true, Bool.and_false, Bool.true_or, Bool.false_or, Bool.or_false, Bool.or_true, Bool.false_eq_true, if_true, if_false, EV, Nat.reduceEqDiff, Nat.reduceBEq, Nat.reduceLT, Nat.reduceLeDiff, Nat.reduceAdd, Nat.reduceSub, reduceIte, evRE, retVC, cellV', evR, nfz, nfzs, nfzss, List.contains_nil, List.contains_cons, Bool.or_false, or_true]
       done)
    | (obtain ⟨h0, h1, hn, hk⟩ := isNum_lt ‹isNum l t.base = true›
       simp only [h0, h1, nth_map hn, Ty.z, EV, Nat.reduceEqDiff, Nat.reduceBEq, Nat.reduceLT, Nat.reduceLeDiff, Nat.reduceAdd, Nat.reduceSub, reduceIte]
       simp only [tyOk, *, Bool.not_true, Bool.not_false, Bool.true_and, Bool.false_and, Bool.and_true, Bool.and_false, Bool.true_or, Bool.false_or, Bool.or_false, Bool.or_true, Bool.false_eq_true, if_true, if_false, EV, Nat.reduceEqDiff, Nat.reduceBEq, Nat.reduceLT, Nat.reduceLeDiff, Nat.reduceAdd, Nat.reduceSub, reduceIte, evRE, retVC, cellV', evR, nfz, nfzs, nfzss, List.contains_nil, List.contains_cons, Bool.or_false, or_true]
       done)
end Go.AM
namespace Go.AM
set_option linter.unusedVariables false
set_option linter.unusedSimpArgs false
theorem kindIn_same (l : List Ty) (n a : Int) : kindIn l n a a = (isNum l n && kd l n == a) := by
  unfold kindIn; rw [Bool.or_self]
theorem kindIn_two (l : List Ty) (n a b : Int) : kindIn l n a b = ((isNum l n && kd l n == a) || (isNum l n && kd l n == b)) := by
  unfold kindIn; rw [Bool.and_or_distrib_left]
noncomputable def tyRest (l : List Ty) (t : Ty) : Bool :=
  if (t.kind == 4) = true then (decide (1 ≤ t.long) && decide (t.long ≤ 1000)) && isNum l t.base
  else if (t.kind == 5) = true then ((t.long == 0) && ((t.base == -1) || kindIn l t.base 5 5)) && fdsOk l t.fields
  else if (t.kind == 6) = true then (t.long == 0) && kindIn l t.base 5 4
  else false
noncomputable def tyHead (t : Ty) : Bool := named t && !((!(t.kind == 5)) && decide (0 < (t.fields.length : Int)))
theorem tyOk_eq (l : List Ty) (t : Ty) : tyOk l t = (tyHead t && tyRest l t) := by
  unfold tyOk tyHead tyRest
  rw [kindIn_same, kindIn_two]
  exact (Bool.and_assoc _ _ _).symm
def m195 : MC :=
 (.seq (.reg [Xb 3 (.box 40 (.t 1)), Xb 4 (.asg .fb)]) (.join [0, 3, 5] (.reg [Xf 6 5 3, Xl 7 1 6, Xb 8 (.call (.fn 148) false [.lend (.t 7)]), Xm 9 8, Xt 10 9 (.fad 4 (.t 3)), Xt 11 9 (.load false 1 (.t 10)), XT 12 9 (.call (.fn 148) false [.lend (.t 11)]), Xq 13 (.pick (.t 9) (.t 12) .fb), Xa 5 13]) (.seq (.join [0, 3, 36] (.reg [Xm 14 5, Xq 15 (.un .not (.t 14)), Xm 16 15, Xt 17 16 (.fad 5 (.t
 3)), Xt 18 16 (.load false 1 (.t 17)), Xt 19 16 (.bin false .neq (.t 18) (.z #[])), Xt 20 16 (.mov (.t 19)), Xu 21 20 (.fad 4 (.t 3)), Xu 22 20 (.load false 1 (.t 21)), Xu 23 20 (.bin false .neq (.t 22) (.z #[])), Xt 24 16 (.pick (.t 20) .tb (.t 23)), Xq 25 (.pick (.t 16) (.t 24) .fb), Xm 26 25, Xu 27 26 (.fad 0 (.t 3)), Xu 28 26 (.load false 1 (.t 27)), Xu 29 26 (.bin false .neq (.t 28) (.i 5)),
 Xu 30 26 (.mov (.t 29)), Xt 31 30 (.fad 3 (.t 3)), Xt 32 30 (.load false 1 (.t 31)), Xt 33 30 (.len false (.t 32)), Xt 34 30 (.bin false .gtr (.t 33) (.i 0)), Xu 35 26 (.pick (.t 30) (.t 34) .fb), Xq 36 (.pick (.t 26) .tb (.t 35))]) (.cond (.t 36) (.seq (.reg [Xb 4 (.asg .fb)]) .ret) .skip)) (.seq (.seq (.reg [Xf 37 0 3, Xl 38 1 37]) (.block 0 (.seq (.reg [Xq 40 (.bin false .eql (.t 38) (.i 4)),
 Xa 39 40]) (.cond (.t 39) (.seq (.reg [Xf 41 1 3, Xl 42 1 41, Xb 43 (.call (.fn 72) false [.lend (.t 42), .lend (.i 1), .lend (.i 1000)]), Xm 44 43, Xt 45 44 (.fad 2 (.t 3)), Xt 46 44 (.load false 1 (.t 45)), Xt 47 44 (.mov (.t 0)), Xt 48 44 (.len false (.t 47)), Xt 49 44 (.bin false .sub (.t 48) (.i 1)), XT 50 44 (.call (.fn 72) false [.lend (.t 46), .lend (.i 0), .lend (.t 49)]), Xq 51 (.pick
 (.t 44) (.t 50) .fb), Xa 4 51]) .ret) (.seq (.reg [Xq 53 (.bin false .eql (.t 38) (.i 5)), Xa 52 53]) (.cond (.t 52) (.seq (.reg [Xf 54 1 3, Xl 55 1 54, Xq 56 (.bin false .eql (.t 55) (.i 0)), Xm 57 56, Xt 58 57 (.fad 2 (.t 3)), Xt 59 57 (.load false 1 (.t 58)), Xt 60 57 (.bin false .eql (.t 59) (.i (-1))), Xt 61 57 (.mov (.t 60)), Xu 62 61 (.mov (.t 0)), Xu 63 61 (.fad 2 (.t 3)), Xu 64 61 (.load
 false 1 (.t 63)), XU 65 61 (.call (.fn 59) false [.lend (.t 62), .lend (.t 64), .lend (.i 5), .lend (.i 5)]), Xt 66 57 (.pick (.t 61) .tb (.t 65)), Xq 67 (.pick (.t 57) (.t 66) .fb), Xm 68 67, Xt 69 68 (.mov (.t 0)), Xt 70 68 (.fad 3 (.t 3)), Xt 71 68 (.load false 1 (.t 70)), XT 72 68 (.call (.fn 233) false [.lend (.t 69), .lend (.t 71)]), Xq 73 (.pick (.t 68) (.t 72) .fb), Xa 4 73]) .ret)
 .skip)))))) (.seq (.reg [Xf 74 0 3, Xl 75 1 74, Xq 76 (.bin false .eql (.t 75) (.i 6)), Xm 77 76, Xt 78 77 (.fad 1 (.t 3)), Xt 79 77 (.load false 1 (.t 78)), Xt 80 77 (.bin false .eql (.t 79) (.i 0)), Xq 81 (.pick (.t 77) (.t 80) .fb), Xm 82 81, Xt 83 82 (.mov (.t 0)), Xt 84 82 (.fad 2 (.t 3)), Xt 85 82 (.load false 1 (.t 84)), XT 86 82 (.call (.fn 59) false [.lend (.t 83), .lend (.t 85), .lend
 (.i 5), .lend (.i 4)]), Xq 87 (.pick (.t 82) (.t 86) .fb), Xa 4 87]) .ret)))))
set_option maxHeartbeats 1000000 in
set_option maxRecDepth 100000 in
theorem d195 (l : List Ty) (t : Ty) (hl : (l.length : Int) ≤ 1048576) (ht : t.sm) :
    Does Go.Proofs.Tryz.prog 195 [.fsl 6 (l.map Ty.z), .agg t.z] false (.v (.bool (tyOk l t))) [.dead, .dead] := by
  have ht0 := ht
  unfold Ty.sm at ht
  have d7 := d233 l t.fields hl ht.2.2.2.1.1 ht.2.2.2.1.2
  have hw : IntKind.i64.wrap ((l.length : Int) - 1) = (l.length : Int) - 1 := w64 _ (by omega)
  refine does_intro (mc := m195) (N := 88) (rs := [4]) (fx := []) 2 rfl (by decide +kernel) ?_
  simp only [m195, Ty.z, EV, Nat.reduceEqDiff, Nat.reduceBEq, Nat.reduceLT, Nat.reduceLeDiff, Nat.reduceAdd, Nat.reduceSub, reduceIte]
  refine awp_join (fun _ : Unit => True) (fun _ => stl [(0, .fsl 6 (l.map Ty.z)), (3, .box 40 t.z), (5, .v (.bool (nameOk t.name && nameOk t.owner)))]) ?_ ?_
  · simp only [EV, Nat.reduceEqDiff, Nat.reduceBEq, Nat.reduceLT, Nat.reduceLeDiff, Nat.reduceAdd, Nat.reduceSub, reduceIte]
    refine callK_i (d148 _ (by omega)) ?_
    simp only [EV, Nat.reduceEqDiff, Nat.reduceBEq, Nat.reduceLT, Nat.reduceLeDiff, Nat.reduceAdd, Nat.reduceSub, reduceIte]
    rcases e1 : nameOk t.name with _ | _
    · simp only [e1, Ty.z, EV, Nat.reduceEqDiff, Nat.reduceBEq, Nat.reduceLT, Nat.reduceLeDiff, Nat.reduceAdd, Nat.reduceSub, reduceIte]
      first | exact ⟨(), rfl⟩ | exact ⟨(), trivial⟩
    · simp only [e1, Ty.z, EV, Nat.reduceEqDiff, Nat.reduceBEq, Nat.reduceLT, Nat.reduceLeDiff, Nat.reduceAdd, Nat.reduceSub, reduceIte]
      refine callK_i (d148 _ (by omega)) ?_
      simp only [e1, Ty.z, EV, Nat.reduceEqDiff, Nat.reduceBEq, Nat.reduceLT, Nat.reduceLeDiff, Nat.reduceAdd, Nat.reduceSub, reduceIte]
      first | exact ⟨(), rfl⟩ | exact ⟨(), trivial⟩
  rintro _ _
  simp only [Ty.z, EV, Nat.reduceEqDiff, Nat.reduceBEq, Nat.reduceLT, Nat.reduceLeDiff, Nat.reduceAdd, Nat.reduceSub, reduceIte]
  refine awp_join (fun _ : Unit => True) (fun _ => stl [(0, .fsl 6 (l.map Ty.z)), (3, .box 40 t.z), (36, .v (.bool (!tyHead t)))]) ?_ ?_
  · simp only [EV, Nat.reduceEqDiff, Nat.reduceBEq, Nat.reduceLT, Nat.reduceLeDiff, Nat.reduceAdd, Nat.reduceSub, reduceIte]
    rcases q : (nameOk t.name && nameOk t.owner) with _ | _ <;> rcases e5 : (t.kind == 5) with _ | _ <;> rcases e0 : decide (0 < (t.fields.length : Int)) with _ | _ <;> rcases en : (t.name.toList == (⟨#[]⟩ : ByteArray).toList) with _ | _ <;> rcases eo : (t.owner.toList == (⟨#[]⟩ : ByteArray).toList) with _ | _
    all_goals simp only [q, e5, e0, en, eo, bne, tyHead, named, Bool.not_not, Bool.not_true, Bool.not_false, Bool.true_and, Bool.false_and, Bool.and_true, Bool.and_false, Bool.true_or, Bool.false_or, Bool.or_false, Bool.or_true, Bool.and_self, Ty.z, EV, Nat.reduceEqDiff, Nat.reduceBEq, Nat.reduceLT, Nat.reduceLeDiff, Nat.reduceAdd, Nat.reduceSub, reduceIte]
    all_goals first | exact ⟨(), rfl⟩ | exact ⟨(), trivial⟩
  rintro _ _
  simp only [Ty.z, EV, Nat.reduceEqDiff, Nat.reduceBEq, Nat.reduceLT, Nat.reduceLeDiff, Nat.reduceAdd, Nat.reduceSub, reduceIte]
  rcases q : tyHead t with _ | _
  · have e : tyOk l t = false := by rw [tyOk_eq, q, Bool.false_and]
    simp only [Bool.not_false, EV, Nat.reduceEqDiff, Nat.reduceBEq, Nat.reduceLT, Nat.reduceLeDiff, Nat.reduceAdd, Nat.reduceSub, reduceIte]
    simp only [e, EV, Nat.reduceEqDiff, Nat.reduceBEq, Nat.reduceLT, Nat.reduceLeDiff, Nat.reduceAdd, Nat.reduceSub, reduceIte, evRE, retVC, cellV', evR, nfz, nfzs, nfzss, List.contains_nil, List.contains_cons, Bool.or_false, or_true]
  have e : tyOk l t = tyRest l t := by rw [tyOk_eq, q, Bool.true_and]
  have hnum : (decide (0 ≤ t.base) && decide (t.base ≤ (l.length : Int) - 1)) = isNum l t.base := rfl
  simp only [Bool.not_true, EV, Nat.reduceEqDiff, Nat.reduceBEq, Nat.reduceLT, Nat.reduceLeDiff, Nat.reduceAdd, Nat.reduceSub, reduceIte]
  repeat' (first
    | (refine gK_cut (fun h => ?_) (fun h => ?_) <;> simp only [h, bne, hw, EV, Nat.reduceEqDiff, Nat.reduceBEq, Nat.reduceLT, Nat.reduceLeDiff, Nat.reduceAdd, Nat.reduceSub, reduceIte])
    | (refine cK_cut (fun h => ?_) (fun h => ?_) <;> simp only [h, bne, hw, EV, Nat.reduceEqDiff, Nat.reduceBEq, Nat.reduceLT, Nat.reduceLeDiff, Nat.reduceAdd, Nat.reduceSub, reduceIte])
    | (refine callK_i d7 ?_ <;> simp only [h, bne, hw, EV, Nat.reduceEqDiff, Nat.reduceBEq, Nat.reduceLT, Nat.reduceLeDiff, Nat.reduceAdd, Nat.reduceSub, reduceIte])
    | (refine callK_i (d72 _ _ _) ?_ <;> simp only [h, bne, hw, EV, Nat.reduceEqDiff, Nat.reduceBEq, Nat.reduceLT, Nat.reduceLeDiff, Nat.reduceAdd, Nat.reduceSub, reduceIte])
    | (refine callK_i (d59 l _ _ _ hl) ?_ <;> simp only [h, bne, hw, EV, Nat.reduceEqDiff, Nat.reduceBEq, Nat.reduceLT, Nat.reduceLeDiff, Nat.reduceAdd, Nat.reduceSub, reduceIte]))
  all_goals (try simp only [Bool.not_eq_true', Bool.not_eq_false'] at *)
  all_goals first
    | exact absurd ((‹(t.kind == 5) = false›).symm.trans ‹(t.kind == 5) = true›) Bool.false_ne_true
    | (simp only [e, tyRest, *, Bool.not_true, Bool.not_false, Bool.true_and, Bool.false_and, Bool.and_true, Bool.and_false, Bool.true_or, Bool.false_or, Bool.or_false, Bool.or_true, Bool.false_eq_true, if_true, if_false, EV, Nat.reduceEqDiff, Nat.reduceBEq, Nat.reduceLT, Nat.reduceLeDiff, Nat.reduceAdd, Nat.reduceSub, reduceIte, evRE, retVC, cellV', evR, nfz, nfzs, nfzss, List.contains_nil, List.contains_cons, Bool.or_false, or_true]
       done)
end Go.AM
namespace Go.AM
set_option linter.unusedVariables false
set_option linter.unusedSimpArgs false
def unlAt (l : List Str) (i : Nat) (h : i < l.length) : Prop := nameOk l[i].s = true ∧ (l.take i).any (eqSt l[i].s) = false
def unlTo (l : List Str) (n : Nat) : Prop := ∀ i (h : i < l.length), i < n → unlAt l i h
open Classical in
noncomputable def unl (l : List Str) : Bool := decide (unlTo l l.length)
theorem unlTo_succ {l : List Str} {i : Nat} (h : i < l.length) (h1 : unlTo l i) (h2 : unlAt l i h) : unlTo l (i + 1) := by
  intro j hj hji
  by_cases e : j = i
  · subst e; exact h2
  · exact h1 j hj (by omega)
theorem unl_no {l : List Str} {i : Nat} (h : i < l.length) (h2 : ¬ unlAt l i h) : unl l = false := by
  simp only [unl, decide_eq_false_iff_not]
  exact fun h1 => h2 (h1 i h h)
theorem unl_yes {l : List Str} (h : unlTo l l.length) : unl l = true := by simp [unl, h]
theorem unl_iff {l : List Str} : unl l = true ↔ unlTo l l.length := by simp [unl]
def m142 : MC :=
 (.seq (.reg [Xb 2 (.asg .fb)]) (.seq (.seq (.reg [Xm 5 0, Xn 6 5, Xq 7 (.mov (.i 0))]) (.block 0 (.loop [0, 5, 6, 7] (.seq (.reg [Xq 8 (.bin false .lss (.t 7) (.t 6))]) (.seq (.cond (.t 8) .skip (.exit 0)) (.seq (.block 1 (.seq (.reg [Xm 9 7, Xi 10 1 5 7, Xl 11 1 10, Xa 3 9, Xa 4 11]) (.seq (.reg [Xm 12 4, Xb 13 (.call (.fn 141) false [.lend (.t 12)]), Xq 14 (.un .not (.t 13)), Xm 15 14, Xu 16 15
 (.mov (.t 0)), Xu 17 15 (.mov (.t 3)), Xu 18 15 (.slc false 1 (.t 16) none (some (.t 17))), Xu 19 15 (.mov (.t 4)), XU 20 15 (.call (.fn 145) false [.lend (.t 18), .lend (.t 19)]), Xq 21 (.pick (.t 15) .tb (.t 20))]) (.cond (.t 21) (.seq (.reg [Xb 2 (.asg .fb)]) .ret) .skip)))) (.reg [Xq 22 (.bin false .add (.t 7) (.i 1)), Xm 7 22]))))))) (.seq (.reg [Xb 2 (.asg .tb)]) .ret)))
set_option maxRecDepth 100000 in
theorem d142 (l : List Str) (hl : (l.length : Int) ≤ 1048576000) (hs : ∀ s ∈ l, (s.s.size : Int) ≤ 1048576) : Does Go.Proofs.Tryz.prog 142 [.fsl 1 (l.map Str.z)] false (.v (.bool (unl l))) [.dead] := by
  refine does_intro (mc := m142) (N := 23) (rs := [2]) (fx := []) 1 rfl (by decide +kernel) ?_
  simp only [m142, EV, Nat.reduceEqDiff, Nat.reduceBEq, Nat.reduceLT, Nat.reduceLeDiff, Nat.reduceAdd, Nat.reduceSub, reduceIte]
  refine awp_loop (fun i : Nat => i ≤ l.length ∧ unlTo l i) (fun i => stl [(0, .fsl 1 (l.map Str.z)), (5, .fsl 1 (l.map Str.z)), (6, .v (.int .i64 (l.length : Int))), (7, .v (.int .i64 (i : Int)))]) (fun i => l.length - i) 0 ⟨Nat.zero_le _, fun j hj h => absurd h (by omega)⟩ ?_ ?_
  · simp only [EV, Nat.reduceEqDiff, Nat.reduceBEq, Nat.reduceLT, Nat.reduceLeDiff, Nat.reduceAdd, Nat.reduceSub, reduceIte]
    rfl
  · rintro i ⟨hi, hok⟩
    simp only [EV, Nat.reduceEqDiff, Nat.reduceBEq, Nat.reduceLT, Nat.reduceLeDiff, Nat.reduceAdd, Nat.reduceSub, reduceIte]
    refine cK_cut (fun h => ?_) (fun h => ?_)
    · have h1 : i < l.length := by simpa using h
      have h2 : (i : Int) < (l.length : Int) := by omega
      have hsz := hs _ (List.getElem_mem h1)
      clear h
      simp only [nth_map h1, h2, Str.z, EV, Nat.reduceEqDiff, Nat.reduceBEq, Nat.reduceLT, Nat.reduceLeDiff, Nat.reduceAdd, Nat.reduceSub, reduceIte]
      refine callK_i (d141 l[i].s (by omega)) ?_
      simp only [EV, Nat.reduceEqDiff, Nat.reduceBEq, Nat.reduceLT, Nat.reduceLeDiff, Nat.reduceAdd, Nat.reduceSub, reduceIte]
      rcases e1 : nameOk l[i].s with _ | _
      · have e : unl l = false := unl_no h1 (by rintro ⟨g, _⟩; rw [e1] at g; cases g)
        simp only [Bool.not_false, EV, Nat.reduceEqDiff, Nat.reduceBEq, Nat.reduceLT, Nat.reduceLeDiff, Nat.reduceAdd, Nat.reduceSub, reduceIte]
        simp only [e, EV, Nat.reduceEqDiff, Nat.reduceBEq, Nat.reduceLT, Nat.reduceLeDiff, Nat.reduceAdd, Nat.reduceSub, reduceIte, evRE, retVC, cellV', evR, nfz, nfzs, nfzss, List.contains_nil, List.contains_cons, Bool.or_false, or_true]
      simp only [Bool.not_true, EV, Nat.reduceEqDiff, Nat.reduceBEq, Nat.reduceLT, Nat.reduceLeDiff, Nat.reduceAdd, Nat.reduceSub, reduceIte]
      refine ⟨by omega, by omega, ?_⟩
      have ht : List.take (i : Int).toNat (List.map Str.z l) = List.map Str.z (l.take i) := by rw [Int.toNat_natCast, List.map_take]
      simp only [Int.toNat_natCast] at ht
      rw [ht]
      refine callK_i (d145 (l.take i) l[i].s (by simp; omega)) ?_
      simp only [EV, Nat.reduceEqDiff, Nat.reduceBEq, Nat.reduceLT, Nat.reduceLeDiff, Nat.reduceAdd, Nat.reduceSub, reduceIte]
      rcases e2 : (l.take i).any (eqSt l[i].s) with _ | _
      · simp only [EV, Nat.reduceEqDiff, Nat.reduceBEq, Nat.reduceLT, Nat.reduceLeDiff, Nat.reduceAdd, Nat.reduceSub, reduceIte]
        rw [w64 _ (by omega)]
        exact ⟨i + 1, ⟨h1, unlTo_succ h1 hok ⟨e1, e2⟩⟩, by omega, rfl⟩
      · have e : unl l = false := unl_no h1 (by rintro ⟨_, g⟩; rw [e2] at g; cases g)
        simp only [EV, Nat.reduceEqDiff, Nat.reduceBEq, Nat.reduceLT, Nat.reduceLeDiff, Nat.reduceAdd, Nat.reduceSub, reduceIte]
        simp only [e, EV, Nat.reduceEqDiff, Nat.reduceBEq, Nat.reduceLT, Nat.reduceLeDiff, Nat.reduceAdd, Nat.reduceSub, reduceIte, evRE, retVC, cellV', evR, nfz, nfzs, nfzss, List.contains_nil, List.contains_cons, Bool.or_false, or_true]
    · have h1 : i = l.length := by have : ¬ (i : Int) < l.length := by simpa using h
                                   omega
      subst h1
      simp only [EV, Nat.reduceEqDiff, Nat.reduceBEq, Nat.reduceLT, Nat.reduceLeDiff, Nat.reduceAdd, Nat.reduceSub, reduceIte]
      simp only [unl_yes hok, EV, Nat.reduceEqDiff, Nat.reduceBEq, Nat.reduceLT, Nat.reduceLeDiff, Nat.reduceAdd, Nat.reduceSub, reduceIte, evRE, retVC, cellV', evR, nfz, nfzs, nfzss, List.contains_nil, List.contains_cons, Bool.or_false, or_true]
def m207 : MC :=
 (.seq (.reg [Xb 2 (.asg .fb)]) (.seq (.reg [Xm 3 0, Xb 4 (.call (.fn 78) false [.lend (.t 3), .lend (.i (-1000000000)), .lend (.i 1000000000)]), Xa 2 4]) .ret))
theorem d207 (n : Int) : Does Go.Proofs.Tryz.prog 207 [.v (.int .i64 n)] false (.v (.bool (decide (-1000000000 ≤ n) && decide (n ≤ 1000000000)))) [.dead] := by
  refine does_intro (mc := m207) (N := 5) (rs := [2]) (fx := []) 1 rfl (by decide +kernel) ?_
  simp only [m207, EV, Nat.reduceEqDiff, Nat.reduceBEq, Nat.reduceLT, Nat.reduceLeDiff, Nat.reduceAdd, Nat.reduceSub, reduceIte]
  refine callK_i (d78 n (-1000000000) 1000000000) ?_
  simp only [EV, Nat.reduceEqDiff, Nat.reduceBEq, Nat.reduceLT, Nat.reduceLeDiff, Nat.reduceAdd, Nat.reduceSub, reduceIte]
  simp only [EV, Nat.reduceEqDiff, Nat.reduceBEq, Nat.reduceLT, Nat.reduceLeDiff, Nat.reduceAdd, Nat.reduceSub, reduceIte, evRE, retVC, cellV', evR, nfz, nfzs, nfzss, List.contains_nil, List.contains_cons, Bool.or_false, or_true]
def m149 : MC :=
 (.seq (.reg [Xb 4 (.asg .fb)]) (.seq (.seq (.reg [Xm 7 0, Xn 8 7, Xq 9 (.mov (.i 0))]) (.block 0 (.loop [0, 1, 7, 8, 9] (.seq (.reg [Xq 10 (.bin false .lss (.t 9) (.t 8))]) (.seq (.cond (.t 10) .skip (.exit 0)) (.seq (.block 1 (.seq (.reg [Xi 11 1 7 9, Xl 12 1 11, Xa 6 12]) (.seq (.reg [Xm 13 6, Xm 14 1, Xq 15 (.bin false .eql (.t 13) (.t 14))]) (.cond (.t 15) (.seq (.reg [Xb 4 (.asg .tb)]) .ret)
 .skip)))) (.reg [Xq 16 (.bin false .add (.t 9) (.i 1)), Xm 9 16]))))))) (.seq (.reg [Xb 4 (.asg .fb)]) .ret)))
theorem d149 (l : List Str) (v : ByteArray) (hl : l.length < 9223372036854775807) : Does Go.Proofs.Tryz.prog 149 [.fsl 1 (l.map Str.z), .v (.string v)] false (.v (.bool (l.any (eqSt v)))) [.dead, .dead] := by
  refine does_intro (mc := m149) (N := 17) (rs := [4]) (fx := []) 2 rfl (by decide +kernel) ?_
  simp only [m149, EV, Nat.reduceEqDiff, Nat.reduceBEq, Nat.reduceLT, Nat.reduceLeDiff, Nat.reduceAdd, Nat.reduceSub, reduceIte]
  refine awp_loop (fun i : Nat => i ≤ l.length ∧ (l.take i).any (eqSt v) = false) (fun i => stl [(0, .fsl 1 (l.map Str.z)), (1, .v (.string v)), (7, .fsl 1 (l.map Str.z)), (8, .v (.int .i64 (l.length : Int))), (9, .v (.int .i64 (i : Int)))]) (fun i => l.length - i) 0 ⟨Nat.zero_le _, by simp⟩ ?_ ?_
  · simp only [EV, Nat.reduceEqDiff, Nat.reduceBEq, Nat.reduceLT, Nat.reduceLeDiff, Nat.reduceAdd, Nat.reduceSub, reduceIte]
    rfl
  · rintro i ⟨hi, hno⟩
    simp only [EV, Nat.reduceEqDiff, Nat.reduceBEq, Nat.reduceLT, Nat.reduceLeDiff, Nat.reduceAdd, Nat.reduceSub, reduceIte]
    refine cK_cut (fun h => ?_) (fun h => ?_)
    · have h1 : i < l.length := by simpa using h
      have h2 : (i : Int) < (l.length : Int) := by omega
      clear h
      simp only [nth_map h1, h2, Str.z, EV, Nat.reduceEqDiff, Nat.reduceBEq, Nat.reduceLT, Nat.reduceLeDiff, Nat.reduceAdd, Nat.reduceSub, reduceIte]
      have ec : (l[i].s.toList == v.toList) = eqSt v l[i] := Bool.beq_comm
      rw [ec]
      rcases e : eqSt v l[i] with _ | _
      · simp only [EV, Nat.reduceEqDiff, Nat.reduceBEq, Nat.reduceLT, Nat.reduceLeDiff, Nat.reduceAdd, Nat.reduceSub, reduceIte]
        rw [w64 _ (by omega)]
        exact ⟨i + 1, ⟨h1, by rw [List.take_succ_eq_append_getElem h1, List.any_append, hno]; simp [e]⟩, by omega, rfl⟩
      · have e2 : l.any (eqSt v) = true := List.any_eq_true.2 ⟨_, List.getElem_mem h1, e⟩
        simp only [EV, Nat.reduceEqDiff, Nat.reduceBEq, Nat.reduceLT, Nat.reduceLeDiff, Nat.reduceAdd, Nat.reduceSub, reduceIte]
        simp only [e2, EV, Nat.reduceEqDiff, Nat.reduceBEq, Nat.reduceLT, Nat.reduceLeDiff, Nat.reduceAdd, Nat.reduceSub, reduceIte, evRE, retVC, cellV', evR, nfz, nfzs, nfzss, List.contains_nil, List.contains_cons, Bool.or_false, or_true]
    · have h1 : i = l.length := by have : ¬ (i : Int) < l.length := by simpa using h
                                   omega
      subst h1
      rw [List.take_length] at hno
      simp only [EV, Nat.reduceEqDiff, Nat.reduceBEq, Nat.reduceLT, Nat.reduceLeDiff, Nat.reduceAdd, Nat.reduceSub, reduceIte]
      simp only [hno, EV, Nat.reduceEqDiff, Nat.reduceBEq, Nat.reduceLT, Nat.reduceLeDiff, Nat.reduceAdd, Nat.reduceSub, reduceIte, evRE, retVC, cellV', evR, nfz, nfzs, nfzss, List.contains_nil, List.contains_cons, Bool.or_false, or_true]
end Go.AM
namespace Go.AM
set_option linter.unusedVariables false
set_option linter.unusedSimpArgs false
def parNm (p q : Par) : Bool := q.name.toList == p.name.toList
noncomputable def parAt (l : List Ty) (ps : List Par) (i : Nat) (h : i < ps.length) : Bool := nameOk ps[i].name && (isNum l ps[i].typ && !((ps.take i).any (parNm ps[i])))
def parTo (l : List Ty) (ps : List Par) (n : Nat) : Prop := ∀ i (h : i < ps.length), i < n → parAt l ps i h = true
open Classical in
noncomputable def parsOk (l : List Ty) (ps : List Par) : Bool := decide (parTo l ps ps.length)
theorem parTo_succ {l : List Ty} {ps : List Par} {i : Nat} (h : i < ps.length) (h1 : parTo l ps i) (h2 : parAt l ps i h = true) : parTo l ps (i + 1) := by
  intro j hj hji
  by_cases e : j = i
  · subst e; exact h2
  · exact h1 j hj (by omega)
theorem parsOk_no {l : List Ty} {ps : List Par} {i : Nat} (h : i < ps.length) (h2 : parAt l ps i h = false) : parsOk l ps = false := by
  simp only [parsOk, decide_eq_false_iff_not]
  intro h1
  have := h1 i h h
  rw [h2] at this; cases this
theorem parsOk_yes {l : List Ty} {ps : List Par} (h : parTo l ps ps.length) : parsOk l ps = true := by simp [parsOk, h]
theorem parsOk_nil (l : List Ty) : parsOk l [] = true := parsOk_yes (fun i h _ => by simp at h)
def obPre (o : Ob) : Bool := (decide (0 ≤ o.mark) && decide (o.mark ≤ 2)) && (!(o.mark == 2) || o.kind == 3) && decide ((o.params.length : Int) ≤ 4) && (o.kind == 4 || !(decide (0 < (o.params.length : Int))))
def wholeB (n : Int) : Bool := decide (-1000000000 ≤ n) && decide (n ≤ 1000000000)
noncomputable def obKd (l : List Ty) (o : Ob) : Bool :=
  if (o.kind == 1) = true then o.typ == 0 && wholeB o.value
  else if (o.kind == 2 || o.kind == 3) = true then isNum l o.typ && o.value == 0
  else if (o.kind == 4) = true then (o.typ == -1 || isNum l o.typ) && o.value == 0 else false
theorem evP (c : List AV) (K : AV → Prop) : nilchkV (.fptr c) K = K (.fptr c) := rfl
noncomputable def obOk (l : List Ty) (o : Ob) : Bool := obPre o && (parsOk l o.params && obKd l o)
def m206 : MC :=
 (.seq (.reg [Xb 2 (.box 54 (.t 0)), Xb 3 (.asg .fb)]) (.seq (.reg [Xf 4 0 2, Xl 5 1 4, Xf 6 0 1, Xl 7 1 6, Xq 8 (.bin false .eql (.t 5) (.t 7)), Xa 3 8]) .ret))
theorem d206 (q p : Par) : Does Go.Proofs.Tryz.prog 206 [.agg q.z, .fptr p.z] false (.v (.bool (parNm p q))) [.dead, .dead] := by
  refine does_intro (mc := m206) (N := 9) (rs := [3]) (fx := []) 2 rfl (by decide +kernel) ?_
  simp only [m206, Par.z, EV, Nat.reduceEqDiff, Nat.reduceBEq, Nat.reduceLT, Nat.reduceLeDiff, Nat.reduceAdd, Nat.reduceSub, reduceIte]
  simp only [parNm, EV, Nat.reduceEqDiff, Nat.reduceBEq, Nat.reduceLT, Nat.reduceLeDiff, Nat.reduceAdd, Nat.reduceSub, reduceIte, evRE, retVC, cellV', evR, nfz, nfzs, nfzss, List.contains_nil, List.contains_cons, Bool.or_false, or_true]
def m144 : MC :=
 (.seq (.reg [Xb 3 (.box 52 (.t 1)), Xb 4 (.asg .fb)]) (.join [0, 3] (.seq (.reg [Xf 7 2 3, Xl 8 1 7, Xb 9 (.call (.fn 78) false [.lend (.t 8), .lend (.i 0), .lend (.i 2)]), Xq 10 (.un .not (.t 9)), Xm 11 10, Xu 12 11 (.fad 2 (.t 3)), Xu 13 11 (.load false 1 (.t 12)), Xu 14 11 (.bin false .eql (.t 13) (.i 2)), Xu 15 11 (.mov (.t 14)), Xt 16 15 (.fad 1 (.t 3)), Xt 17 15 (.load false 1 (.t 16)), Xt
 18 15 (.bin false .neq (.t 17) (.i 3)), Xu 19 11 (.pick (.t 15) (.t 18) .fb), Xq 20 (.pick (.t 11) .tb (.t 19)), Xm 21 20, Xu 22 21 (.fad 5 (.t 3)), Xu 23 21 (.load false 1 (.t 22)), Xu 24 21 (.len false (.t 23)), Xu 25 21 (.bin false .gtr (.t 24) (.i 4)), Xq 26 (.pick (.t 21) .tb (.t 25)), Xm 27 26, Xu 28 27 (.fad 1 (.t 3)), Xu 29 27 (.load false 1 (.t 28)), Xu 30 27 (.bin false .neq (.t 29) (.i
 4)), Xu 31 27 (.mov (.t 30)), Xt 32 31 (.fad 5 (.t 3)), Xt 33 31 (.load false 1 (.t 32)), Xt 34 31 (.len false (.t 33)), Xt 35 31 (.bin false .gtr (.t 34) (.i 0)), Xu 36 27 (.pick (.t 31) (.t 35) .fb), Xq 37 (.pick (.t 27) .tb (.t 36))]) (.cond (.t 37) (.seq (.reg [Xb 4 (.asg .fb)]) .ret) .skip)) (.seq (.seq (.reg [Xf 38 5 3, Xl 39 1 38, Xn 40 39, Xq 41 (.mov (.i 0))]) (.block 0 (.loop [0, 3, 38,
 39, 40, 41] (.seq (.reg [Xq 42 (.bin false .lss (.t 41) (.t 40))]) (.seq (.cond (.t 42) .skip (.exit 0)) (.seq (.block 1 (.seq (.reg [Xm 43 41, Xi 44 3 39 41, XL 45 3 44, Xb 6 (.alloc 54 [.z, .b, .i]), Xa 5 43, Xz (.store 3 (.t 6) (.t 45))]) (.seq (.dreg [Xf 46 0 6, Xl 47 1 46, Xb 48 (.call (.fn 141) false [.lend (.t 47)]), Xq 49 (.un .not (.t 48)), Xm 50 49, Xu 51 50 (.mov (.t 0)), Xu 52 50
 (.nilchk (.t 51)), Xu 53 50 (.fad 2 (.t 52)), Xu 54 50 (.load false 1 (.t 53)), Xu 55 50 (.fad 2 (.t 6)), Xu 56 50 (.load false 1 (.t 55)), XU 57 50 (.call (.fn 61) false [.lend (.t 54), .lend (.t 56)]), Xu 58 50 (.un .not (.t 57)), Xq 59 (.pick (.t 50) .tb (.t 58)), Xm 60 59, Xu 61 60 (.fad 5 (.t 3)), Xu 62 60 (.load false 1 (.t 61)), Xu 63 60 (.mov (.t 5)), Xu 64 60 (.slc false 3 (.t 62) none
 (some (.t 63))), Xu 65 60 (.mkf 206 [.t 6]), XU 66 60 (.call (.fn 205) false [.lend (.t 64), .lend (.t 65)]), Xq 67 (.pick (.t 60) .tb (.t 66))]) (.cond (.t 67) (.seq (.reg [Xb 4 (.asg .fb)]) .ret) .skip)))) (.reg [Xq 68 (.bin false .add (.t 41) (.i 1)), Xm 41 68]))))))) (.join [] (.seq (.reg [Xf 69 1 3, Xl 70 1 69]) (.block 2 (.seq (.reg [Xq 72 (.bin false .eql (.t 70) (.i 1)), Xa 71 72]) (.cond
 (.t 71) (.seq (.reg [Xf 73 3 3, Xl 74 1 73, Xq 75 (.bin false .eql (.t 74) (.i 0)), Xm 76 75, Xt 77 76 (.fad 4 (.t 3)), Xt 78 76 (.load false 1 (.t 77)), XT 79 76 (.call (.fn 207) false [.lend (.t 78)]), Xq 80 (.pick (.t 76) (.t 79) .fb), Xa 4 80]) .ret) (.join [0, 3, 70, 81] (.seq (.reg [Xq 82 (.bin false .eql (.t 70) (.i 2)), Xa 81 82]) (.cond (.t 81) .skip (.reg [Xq 83 (.bin false .eql (.t 70)
 (.i 3)), Xa 81 83]))) (.cond (.t 81) (.seq (.dreg [Xm 84 0, Xq 85 (.nilchk (.t 84)), Xf 86 2 85, Xl 87 1 86, Xf 88 3 3, Xl 89 1 88, Xb 90 (.call (.fn 61) false [.lend (.t 87), .lend (.t 89)]), Xm 91 90, Xt 92 91 (.fad 4 (.t 3)), Xt 93 91 (.load false 1 (.t 92)), Xt 94 91 (.bin false .eql (.t 93) (.i 0)), Xq 95 (.pick (.t 91) (.t 94) .fb), Xm 4 95]) .ret) (.seq (.reg [Xq 97 (.bin false .eql (.t 70)
 (.i 4)), Xa 96 97]) (.cond (.t 96) (.seq (.dreg [Xf 98 3 3, Xl 99 1 98, Xq 100 (.bin false .eql (.t 99) (.i (-1))), Xm 101 100, Xu 102 101 (.mov (.t 0)), Xu 103 101 (.nilchk (.t 102)), Xu 104 101 (.fad 2 (.t 103)), Xu 105 101 (.load false 1 (.t 104)), Xu 106 101 (.fad 3 (.t 3)), Xu 107 101 (.load false 1 (.t 106)), XU 108 101 (.call (.fn 61) false [.lend (.t 105), .lend (.t 107)]), Xq 109 (.pick
 (.t 101) .tb (.t 108)), Xm 110 109, Xt 111 110 (.fad 4 (.t 3)), Xt 112 110 (.load false 1 (.t 111)), Xt 113 110 (.bin false .eql (.t 112) (.i 0)), Xq 114 (.pick (.t 110) (.t 113) .fb), Xm 4 114]) .ret) .skip)))))))) (.seq (.reg [Xb 4 (.asg .fb)]) .ret)))))
set_option maxHeartbeats 4000000 in
set_option maxRecDepth 100000 in
theorem d144 (s : Scope) (o : Ob) (hs : s.sm) (ho : o.sm) : Does Go.Proofs.Tryz.prog 144 [.fptr s.z, .agg o.z] false (.v (.bool (obOk s.types o))) [.dead, .dead] := by
  refine does_intro (mc := m144) (N := 115) (rs := [4]) (fx := []) 2 rfl (by decide +kernel) ?_
  simp only [m144, Ob.z, EV, Nat.reduceEqDiff, Nat.reduceBEq, Nat.reduceLT, Nat.reduceLeDiff, Nat.reduceAdd, Nat.reduceSub, reduceIte]
  refine awp_join (fun _ : Unit => obPre o = true) (fun _ => stl [(0, .fptr s.z), (3, .box 52 o.z)]) ?_ ?_
  · simp only [EV, Nat.reduceEqDiff, Nat.reduceBEq, Nat.reduceLT, Nat.reduceLeDiff, Nat.reduceAdd, Nat.reduceSub, reduceIte]
    refine callK_i (d78 o.mark 0 2) ?_
    simp only [EV, Nat.reduceEqDiff, Nat.reduceBEq, Nat.reduceLT, Nat.reduceLeDiff, Nat.reduceAdd, Nat.reduceSub, reduceIte]
    repeat' (first
    | (refine gK_cut (fun h => ?_) (fun h => ?_) <;> simp only [h, EV, Nat.reduceEqDiff, Nat.reduceBEq, Nat.reduceLT, Nat.reduceLeDiff, Nat.reduceAdd, Nat.reduceSub, reduceIte])
    | (refine cK_cut (fun h => ?_) (fun h => ?_) <;> simp only [h, EV, Nat.reduceEqDiff, Nat.reduceBEq, Nat.reduceLT, Nat.reduceLeDiff, Nat.reduceAdd, Nat.reduceSub, reduceIte]))
    all_goals first
      | (have e : obPre o = false := by
           simp_all [obPre] <;> omega
         simp only [obOk, e, Bool.false_and, EV, Nat.reduceEqDiff, Nat.reduceBEq, Nat.reduceLT, Nat.reduceLeDiff, Nat.reduceAdd, Nat.reduceSub, reduceIte, evRE, retVC, cellV', evR, nfz, nfzs, nfzss, List.contains_nil, List.contains_cons, Bool.or_false, or_true]
         done)
      | (have e : obPre o = true := by
           simp_all [obPre] <;> omega
         exact ⟨(), e, rfl⟩)
  · rintro _ hpre
    have hpl : o.params.length ≤ 4 := by
      simp only [obPre, Bool.and_eq_true, decide_eq_true_eq] at hpre
      omega
    simp only [Ob.z, Scope.z, EV, Nat.reduceEqDiff, Nat.reduceBEq, Nat.reduceLT, Nat.reduceLeDiff, Nat.reduceAdd, Nat.reduceSub, reduceIte]
    refine awp_loop (fun i : Nat => i ≤ o.params.length ∧ parTo s.types o.params i) (fun i => stl [(0, .fptr s.z), (3, .box 52 o.z), (38, .ref 3 [] 0 5), (39, .fsl 3 (o.params.map Par.z)), (40, .v (.int .i64 (o.params.length : Int))), (41, .v (.int .i64 (i : Int)))]) (fun i => o.params.length - i) 0 ⟨Nat.zero_le _, fun j hj h => absurd h (by omega)⟩ ?_ ?_
    · simp only [Ob.z, Scope.z, EV, Nat.reduceEqDiff, Nat.reduceBEq, Nat.reduceLT, Nat.reduceLeDiff, Nat.reduceAdd, Nat.reduceSub, reduceIte]
      rfl
    rintro i ⟨hi, hok⟩
    simp only [Ob.z, Scope.z, EV, Nat.reduceEqDiff, Nat.reduceBEq, Nat.reduceLT, Nat.reduceLeDiff, Nat.reduceAdd, Nat.reduceSub, reduceIte]
    refine cK_cut (fun h => ?_) (fun h => ?_)
    · have h1 : i < o.params.length := by simpa using h
      have h2 : (i : Int) < (o.params.length : Int) := by omega
      have hno : parAt s.types o.params i h1 = false → obOk s.types o = false := fun e => by simp only [obOk, parsOk_no h1 e, Bool.false_and, Bool.and_false]
      unfold Ob.sm at ho
      unfold Scope.sm at hs
      have hps := ho.2.2.2.2.2.2 _ (List.getElem_mem h1)
      unfold Par.sm at hps
      clear h
      simp only [ParE, nth_map h1, h2, Par.z, Ob.z, Scope.z, EV, Nat.reduceEqDiff, Nat.reduceBEq, Nat.reduceLT, Nat.reduceLeDiff, Nat.reduceAdd, Nat.reduceSub, reduceIte]
      refine callD_i (d141 o.params[i].name (by omega)) rfl ?_
      simp only [EV, Nat.reduceEqDiff, Nat.reduceBEq, Nat.reduceLT, Nat.reduceLeDiff, Nat.reduceAdd, Nat.reduceSub, reduceIte]
      rcases e1 : nameOk o.params[i].name with _ | _
      · have e : obOk s.types o = false := hno (by simp only [parAt, e1, Bool.false_and])
        simp only [Bool.not_false, EV, Nat.reduceEqDiff, Nat.reduceBEq, Nat.reduceLT, Nat.reduceLeDiff, Nat.reduceAdd, Nat.reduceSub, reduceIte]
        simp only [e, EV, Nat.reduceEqDiff, Nat.reduceBEq, Nat.reduceLT, Nat.reduceLeDiff, Nat.reduceAdd, Nat.reduceSub, reduceIte, evRE, retVC, cellV', evR, nfz, nfzs, nfzss, List.contains_nil, List.contains_cons, Bool.or_false, or_true]
      simp only [evP, Bool.not_true, Par.z, Ob.z, Scope.z, EV, Nat.reduceEqDiff, Nat.reduceBEq, Nat.reduceLT, Nat.reduceLeDiff, Nat.reduceAdd, Nat.reduceSub, reduceIte]
      refine callD_i (d61 s.types o.params[i].typ hs.2.2.1.1) rfl ?_
      simp only [EV, Nat.reduceEqDiff, Nat.reduceBEq, Nat.reduceLT, Nat.reduceLeDiff, Nat.reduceAdd, Nat.reduceSub, reduceIte]
      rcases e2 : isNum s.types o.params[i].typ with _ | _
      · have e : obOk s.types o = false := hno (by simp only [parAt, e1, e2, Bool.true_and, Bool.false_and])
        simp only [Bool.not_false, EV, Nat.reduceEqDiff, Nat.reduceBEq, Nat.reduceLT, Nat.reduceLeDiff, Nat.reduceAdd, Nat.reduceSub, reduceIte]
        simp only [e, EV, Nat.reduceEqDiff, Nat.reduceBEq, Nat.reduceLT, Nat.reduceLeDiff, Nat.reduceAdd, Nat.reduceSub, reduceIte, evRE, retVC, cellV', evR, nfz, nfzs, nfzss, List.contains_nil, List.contains_cons, Bool.or_false, or_true]
      simp only [Bool.not_true, ParE, nth_map h1, h2, Par.z, Ob.z, Scope.z, EV, Nat.reduceEqDiff, Nat.reduceBEq, Nat.reduceLT, Nat.reduceLeDiff, Nat.reduceAdd, Nat.reduceSub, reduceIte]
      refine ⟨by omega, by omega, ?_⟩
      rw [← List.map_take]
      refine callD_i (d205 (o.params.take i) (by simp; omega) 206 [.fptr o.params[i].z] (parNm o.params[i]) rfl rfl (fun _ => rfl) (fun _ => rfl) (fun q _ => d206 q o.params[i])) rfl ?_
      simp only [EV, Nat.reduceEqDiff, Nat.reduceBEq, Nat.reduceLT, Nat.reduceLeDiff, Nat.reduceAdd, Nat.reduceSub, reduceIte]
      rcases e3 : (o.params.take i).any (parNm o.params[i]) with _ | _
      · simp only [EV, Nat.reduceEqDiff, Nat.reduceBEq, Nat.reduceLT, Nat.reduceLeDiff, Nat.reduceAdd, Nat.reduceSub, reduceIte]
        rw [w64 _ (by omega)]
        exact ⟨i + 1, ⟨h1, parTo_succ h1 hok (by simp only [parAt, e1, e2, e3, Bool.not_false, Bool.and_self])⟩, by omega, rfl⟩
      · have e : obOk s.types o = false := hno (by simp only [parAt, e1, e2, e3, Bool.not_true, Bool.and_false])
        simp only [EV, Nat.reduceEqDiff, Nat.reduceBEq, Nat.reduceLT, Nat.reduceLeDiff, Nat.reduceAdd, Nat.reduceSub, reduceIte]
        simp only [e, EV, Nat.reduceEqDiff, Nat.reduceBEq, Nat.reduceLT, Nat.reduceLeDiff, Nat.reduceAdd, Nat.reduceSub, reduceIte, evRE, retVC, cellV', evR, nfz, nfzs, nfzss, List.contains_nil, List.contains_cons, Bool.or_false, or_true]
    · have h1 : i = o.params.length := by have : ¬ (i : Int) < o.params.length := by simpa using h
                                          omega
      subst h1
      have hv : obOk s.types o = obKd s.types o := by simp only [obOk, hpre, parsOk_yes hok, Bool.true_and]
      unfold Scope.sm at hs
      clear h
      rw [hv]
      simp only [Ob.z, Scope.z, EV, Nat.reduceEqDiff, Nat.reduceBEq, Nat.reduceLT, Nat.reduceLeDiff, Nat.reduceAdd, Nat.reduceSub, reduceIte]
      refine awp_join (fun _ : Unit => obKd s.types o = false) (fun _ => stl []) ?_ ?_
      · simp only [Ob.z, Scope.z, EV, Nat.reduceEqDiff, Nat.reduceBEq, Nat.reduceLT, Nat.reduceLeDiff, Nat.reduceAdd, Nat.reduceSub, reduceIte]
        rcases k1 : (o.kind == 1) with _ | _
        rotate_left
        · simp only [k1, Ob.z, Scope.z, EV, Nat.reduceEqDiff, Nat.reduceBEq, Nat.reduceLT, Nat.reduceLeDiff, Nat.reduceAdd, Nat.reduceSub, reduceIte]
          rcases t0 : (o.typ == 0) with _ | _
          · simp only [Ob.z, Scope.z, EV, Nat.reduceEqDiff, Nat.reduceBEq, Nat.reduceLT, Nat.reduceLeDiff, Nat.reduceAdd, Nat.reduceSub, reduceIte]
            simp only [obKd, k1, t0, if_true, Bool.false_and, EV, Nat.reduceEqDiff, Nat.reduceBEq, Nat.reduceLT, Nat.reduceLeDiff, Nat.reduceAdd, Nat.reduceSub, reduceIte, evRE, retVC, cellV', evR, nfz, nfzs, nfzss, List.contains_nil, List.contains_cons, Bool.or_false, or_true]
          · simp only [Ob.z, Scope.z, EV, Nat.reduceEqDiff, Nat.reduceBEq, Nat.reduceLT, Nat.reduceLeDiff, Nat.reduceAdd, Nat.reduceSub, reduceIte]
            refine callK_i (d207 o.value) ?_
            simp only [EV, Nat.reduceEqDiff, Nat.reduceBEq, Nat.reduceLT, Nat.reduceLeDiff, Nat.reduceAdd, Nat.reduceSub, reduceIte]
            simp only [obKd, wholeB, k1, t0, if_true, Bool.true_and, EV, Nat.reduceEqDiff, Nat.reduceBEq, Nat.reduceLT, Nat.reduceLeDiff, Nat.reduceAdd, Nat.reduceSub, reduceIte, evRE, retVC, cellV', evR, nfz, nfzs, nfzss, List.contains_nil, List.contains_cons, Bool.or_false, or_true]
        simp only [k1, Ob.z, Scope.z, EV, Nat.reduceEqDiff, Nat.reduceBEq, Nat.reduceLT, Nat.reduceLeDiff, Nat.reduceAdd, Nat.reduceSub, reduceIte]
        refine awp_join (fun b : Bool => b = (o.kind == 2 || o.kind == 3)) (fun b => stl [(0, .fptr s.z), (3, .box 52 o.z), (70, .v (.int .i64 o.kind)), (81, .v (.bool b))]) ?_ ?_
        · simp only [Ob.z, Scope.z, EV, Nat.reduceEqDiff, Nat.reduceBEq, Nat.reduceLT, Nat.reduceLeDiff, Nat.reduceAdd, Nat.reduceSub, reduceIte]
          rcases k2 : (o.kind == 2) with _ | _
          · simp only [k2, EV, Nat.reduceEqDiff, Nat.reduceBEq, Nat.reduceLT, Nat.reduceLeDiff, Nat.reduceAdd, Nat.reduceSub, reduceIte]
            exact ⟨_, (Bool.false_or _).symm, rfl⟩
          · simp only [k2, EV, Nat.reduceEqDiff, Nat.reduceBEq, Nat.reduceLT, Nat.reduceLeDiff, Nat.reduceAdd, Nat.reduceSub, reduceIte]
            exact ⟨true, rfl, rfl⟩
        rintro b rfl
        rcases k2 : (o.kind == 2 || o.kind == 3) with _ | _
        rotate_left
        · simp only [evP, Ob.z, Scope.z, EV, Nat.reduceEqDiff, Nat.reduceBEq, Nat.reduceLT, Nat.reduceLeDiff, Nat.reduceAdd, Nat.reduceSub, reduceIte]
          refine callD_i (d61 s.types o.typ hs.2.2.1.1) rfl ?_
          simp only [EV, Nat.reduceEqDiff, Nat.reduceBEq, Nat.reduceLT, Nat.reduceLeDiff, Nat.reduceAdd, Nat.reduceSub, reduceIte]
          rcases e4 : isNum s.types o.typ with _ | _
          · simp only [Ob.z, Scope.z, EV, Nat.reduceEqDiff, Nat.reduceBEq, Nat.reduceLT, Nat.reduceLeDiff, Nat.reduceAdd, Nat.reduceSub, reduceIte]
            simp only [obKd, k1, k2, e4, if_true, Bool.false_eq_true, if_false, Bool.false_and, EV, Nat.reduceEqDiff, Nat.reduceBEq, Nat.reduceLT, Nat.reduceLeDiff, Nat.reduceAdd, Nat.reduceSub, reduceIte, evRE, retVC, cellV', evR, nfz, nfzs, nfzss, List.contains_nil, List.contains_cons, Bool.or_false, or_true]
          · simp only [Ob.z, Scope.z, EV, Nat.reduceEqDiff, Nat.reduceBEq, Nat.reduceLT, Nat.reduceLeDiff, Nat.reduceAdd, Nat.reduceSub, reduceIte]
            simp only [obKd, k1, k2, e4, if_true, Bool.false_eq_true, if_false, Bool.true_and, EV, Nat.reduceEqDiff, Nat.reduceBEq, Nat.reduceLT, Nat.reduceLeDiff, Nat.reduceAdd, Nat.reduceSub, reduceIte, evRE, retVC, cellV', evR, nfz, nfzs, nfzss, List.contains_nil, List.contains_cons, Bool.or_false, or_true]
        simp only [Ob.z, Scope.z, EV, Nat.reduceEqDiff, Nat.reduceBEq, Nat.reduceLT, Nat.reduceLeDiff, Nat.reduceAdd, Nat.reduceSub, reduceIte]
        rcases k4 : (o.kind == 4) with _ | _
        · have e5 : obKd s.types o = false := by simp only [obKd, k1, k2, k4, Bool.false_eq_true, if_false]
          simp only [Ob.z, Scope.z, EV, Nat.reduceEqDiff, Nat.reduceBEq, Nat.reduceLT, Nat.reduceLeDiff, Nat.reduceAdd, Nat.reduceSub, reduceIte]
          first | exact ⟨(), e5⟩ | exact ⟨(), e5, rfl⟩ | exact e5
        simp only [Ob.z, Scope.z, EV, Nat.reduceEqDiff, Nat.reduceBEq, Nat.reduceLT, Nat.reduceLeDiff, Nat.reduceAdd, Nat.reduceSub, reduceIte]
        rcases t1 : (o.typ == -1) with _ | _
        · simp only [evP, Ob.z, Scope.z, EV, Nat.reduceEqDiff, Nat.reduceBEq, Nat.reduceLT, Nat.reduceLeDiff, Nat.reduceAdd, Nat.reduceSub, reduceIte]
          refine callD_i (d61 s.types o.typ hs.2.2.1.1) rfl ?_
          simp only [EV, Nat.reduceEqDiff, Nat.reduceBEq, Nat.reduceLT, Nat.reduceLeDiff, Nat.reduceAdd, Nat.reduceSub, reduceIte]
          rcases e4 : isNum s.types o.typ with _ | _
          · simp only [Ob.z, Scope.z, EV, Nat.reduceEqDiff, Nat.reduceBEq, Nat.reduceLT, Nat.reduceLeDiff, Nat.reduceAdd, Nat.reduceSub, reduceIte]
            simp only [obKd, k1, k2, k4, t1, e4, if_true, Bool.false_eq_true, if_false, Bool.false_or, Bool.false_and, EV, Nat.reduceEqDiff, Nat.reduceBEq, Nat.reduceLT, Nat.reduceLeDiff, Nat.reduceAdd, Nat.reduceSub, reduceIte, evRE, retVC, cellV', evR, nfz, nfzs, nfzss, List.contains_nil, List.contains_cons, Bool.or_false, or_true]
          · simp only [Ob.z, Scope.z, EV, Nat.reduceEqDiff, Nat.reduceBEq, Nat.reduceLT, Nat.reduceLeDiff, Nat.reduceAdd, Nat.reduceSub, reduceIte]
            simp only [obKd, k1, k2, k4, t1, e4, if_true, Bool.false_eq_true, if_false, Bool.false_or, Bool.true_and, EV, Nat.reduceEqDiff, Nat.reduceBEq, Nat.reduceLT, Nat.reduceLeDiff, Nat.reduceAdd, Nat.reduceSub, reduceIte, evRE, retVC, cellV', evR, nfz, nfzs, nfzss, List.contains_nil, List.contains_cons, Bool.or_false, or_true]
        · simp only [evP, Ob.z, Scope.z, EV, Nat.reduceEqDiff, Nat.reduceBEq, Nat.reduceLT, Nat.reduceLeDiff, Nat.reduceAdd, Nat.reduceSub, reduceIte]
          simp only [obKd, k1, k2, k4, t1, if_true, Bool.false_eq_true, if_false, Bool.true_or, Bool.true_and, EV, Nat.reduceEqDiff, Nat.reduceBEq, Nat.reduceLT, Nat.reduceLeDiff, Nat.reduceAdd, Nat.reduceSub, reduceIte, evRE, retVC, cellV', evR, nfz, nfzs, nfzss, List.contains_nil, List.contains_cons, Bool.or_false, or_true]
      · rintro _ e5
        simp only [EV, Nat.reduceEqDiff, Nat.reduceBEq, Nat.reduceLT, Nat.reduceLeDiff, Nat.reduceAdd, Nat.reduceSub, reduceIte]
        simp only [e5, EV, Nat.reduceEqDiff, Nat.reduceBEq, Nat.reduceLT, Nat.reduceLeDiff, Nat.reduceAdd, Nat.reduceSub, reduceIte, evRE, retVC, cellV', evR, nfz, nfzs, nfzss, List.contains_nil, List.contains_cons, Bool.or_false, or_true]
end Go.AM
namespace Go.AM
set_option linter.unusedVariables false
set_option linter.unusedSimpArgs false
def m210 : MC :=
 (.seq (.reg [Xb 4 (.asg .fb)]) (.seq (.seq (.reg [Xm 9 1, Xn 10 9, Xq 11 (.mov (.i 0))]) (.block 0 (.loop [0, 1, 9, 10, 11] (.seq (.reg [Xq 12 (.bin false .lss (.t 11) (.t 10))]) (.seq (.cond (.t 12) .skip (.exit 0)) (.seq (.block 1 (.seq (.reg [Xm 13 11, Xi 14 3 9 11, XL 15 3 14, Xb 6 (.alloc 54 [.z, .b, .i]), Xa 5 13, Xz (.store 3 (.t 6) (.t 15))]) (.seq (.seq (.reg [Xf 16 0 6, Xl 17 1 16, Xb 18
 (.call (.fn 148) false [.lend (.t 17)]), Xq 19 (.un .not (.t 18)), Xm 20 19, Xu 21 20 (.fad 2 (.t 6)), Xu 22 20 (.load false 1 (.t 21)), Xu 23 20 (.mov (.t 0)), Xu 24 20 (.len false (.t 23)), Xu 25 20 (.bin false .sub (.t 24) (.i 1)), XU 26 20 (.call (.fn 72) false [.lend (.t 22), .lend (.i 0), .lend (.t 25)]), Xu 27 20 (.un .not (.t 26)), Xq 28 (.pick (.t 20) .tb (.t 27))]) (.cond (.t 28) (.seq
 (.reg [Xb 4 (.asg .fb)]) .ret) .skip)) (.seq (.reg [Xm 29 1, Xm 30 5, Xq 31 (.slc false 3 (.t 29) none (some (.t 30))), Xn 32 31, Xq 33 (.mov (.i 0))]) (.block 2 (.loop [0, 1, 6, 9, 10, 11, 29, 30, 31, 32, 33] (.seq (.reg [Xq 34 (.bin false .lss (.t 33) (.t 32))]) (.seq (.cond (.t 34) .skip (.exit 2)) (.seq (.block 3 (.seq (.reg [Xi 35 3 31 33, XL 36 3 35, Xb 8 (.alloc 54 [.z, .b, .i]), Xz (.store
 3 (.t 8) (.t 36))]) (.seq (.reg [Xf 37 0 6, Xl 38 1 37, Xf 39 0 8, Xl 40 1 39, Xq 41 (.bin false .eql (.t 38) (.t 40))]) (.cond (.t 41) (.seq (.reg [Xb 4 (.asg .fb)]) .ret) .skip)))) (.reg [Xq 42 (.bin false .add (.t 33) (.i 1)), Xm 33 42])))))))))) (.reg [Xq 43 (.bin false .add (.t 11) (.i 1)), Xm 11 43]))))))) (.seq (.reg [Xm 44 1, Xn 45 44, Xq 46 (.bin false .leq (.t 45) (.i 4)), Xa 4 46])
 .ret)))
set_option maxHeartbeats 1000000 in
set_option maxRecDepth 100000 in
theorem d210 (l : List Ty) (ps : List Par) (hl : (l.length : Int) ≤ 1048576) (hp : (ps.length : Int) ≤ 1048576) (hs : ∀ s ∈ ps, s.sm) :
    Does Go.Proofs.Tryz.prog 210 [.fsl 6 (l.map Ty.z), .fsl 3 (ps.map Par.z)] false (.v (.bool (parsOk l ps && decide ((ps.length : Int) ≤ 4)))) [.dead, .dead] := by
  refine does_intro (mc := m210) (N := 47) (rs := [4]) (fx := []) 2 rfl (by decide +kernel) ?_
  simp only [m210, EV, Nat.reduceEqDiff, Nat.reduceBEq, Nat.reduceLT, Nat.reduceLeDiff, Nat.reduceAdd, Nat.reduceSub, reduceIte]
  refine awp_loop (fun i : Nat => i ≤ ps.length ∧ parTo l ps i) (fun i => stl [(0, .fsl 6 (l.map Ty.z)), (1, .fsl 3 (ps.map Par.z)), (9, .fsl 3 (ps.map Par.z)), (10, .v (.int .i64 (ps.length : Int))), (11, .v (.int .i64 (i : Int)))]) (fun i => ps.length - i) 0 ⟨Nat.zero_le _, fun j hj h => absurd h (by omega)⟩ ?_ ?_
  · simp only [EV, Nat.reduceEqDiff, Nat.reduceBEq, Nat.reduceLT, Nat.reduceLeDiff, Nat.reduceAdd, Nat.reduceSub, reduceIte]
    rfl
  rintro i ⟨hi, hok⟩
  simp only [EV, Nat.reduceEqDiff, Nat.reduceBEq, Nat.reduceLT, Nat.reduceLeDiff, Nat.reduceAdd, Nat.reduceSub, reduceIte]
  refine cK_cut (fun h => ?_) (fun h => ?_)
  rotate_left
  · have h1 : i = ps.length := by have : ¬ (i : Int) < ps.length := by simpa using h
                                  omega
    subst h1
    simp only [EV, Nat.reduceEqDiff, Nat.reduceBEq, Nat.reduceLT, Nat.reduceLeDiff, Nat.reduceAdd, Nat.reduceSub, reduceIte]
    simp only [parsOk_yes hok, Bool.true_and, EV, Nat.reduceEqDiff, Nat.reduceBEq, Nat.reduceLT, Nat.reduceLeDiff, Nat.reduceAdd, Nat.reduceSub, reduceIte, evRE, retVC, cellV', evR, nfz, nfzs, nfzss, List.contains_nil, List.contains_cons, Bool.or_false, or_true]
  have h1 : i < ps.length := by simpa using h
  have h2 : (i : Int) < (ps.length : Int) := by omega
  have hno : parAt l ps i h1 = false → parsOk l ps = false := parsOk_no h1
  have hps := hs _ (List.getElem_mem h1)
  unfold Par.sm at hps
  have wl := w64 ((l.length : Int) - 1) (by omega)
  clear h
  simp only [ParE, nth_map h1, h2, Par.z, EV, Nat.reduceEqDiff, Nat.reduceBEq, Nat.reduceLT, Nat.reduceLeDiff, Nat.reduceAdd, Nat.reduceSub, reduceIte]
  refine callK_i (d148 ps[i].name (by omega)) ?_
  simp only [EV, Nat.reduceEqDiff, Nat.reduceBEq, Nat.reduceLT, Nat.reduceLeDiff, Nat.reduceAdd, Nat.reduceSub, reduceIte]
  rcases e1 : nameOk ps[i].name with _ | _
  · have e : parsOk l ps = false := hno (by simp only [parAt, e1, Bool.false_and])
    simp only [Bool.not_false, EV, Nat.reduceEqDiff, Nat.reduceBEq, Nat.reduceLT, Nat.reduceLeDiff, Nat.reduceAdd, Nat.reduceSub, reduceIte]
    simp only [e, Bool.false_and, EV, Nat.reduceEqDiff, Nat.reduceBEq, Nat.reduceLT, Nat.reduceLeDiff, Nat.reduceAdd, Nat.reduceSub, reduceIte, evRE, retVC, cellV', evR, nfz, nfzs, nfzss, List.contains_nil, List.contains_cons, Bool.or_false, or_true]
  simp only [Bool.not_true, wl, EV, Nat.reduceEqDiff, Nat.reduceBEq, Nat.reduceLT, Nat.reduceLeDiff, Nat.reduceAdd, Nat.reduceSub, reduceIte]
  refine callK_i (d72 ps[i].typ 0 ((l.length : Int) - 1)) ?_
  have en : (decide (0 ≤ ps[i].typ) && decide (ps[i].typ ≤ (l.length : Int) - 1)) = isNum l ps[i].typ := rfl
  rw [en]
  simp only [EV, Nat.reduceEqDiff, Nat.reduceBEq, Nat.reduceLT, Nat.reduceLeDiff, Nat.reduceAdd, Nat.reduceSub, reduceIte]
  rcases e2 : isNum l ps[i].typ with _ | _
  · have e : parsOk l ps = false := hno (by simp only [parAt, e1, e2, Bool.false_and, Bool.true_and])
    simp only [Bool.not_false, EV, Nat.reduceEqDiff, Nat.reduceBEq, Nat.reduceLT, Nat.reduceLeDiff, Nat.reduceAdd, Nat.reduceSub, reduceIte]
    simp only [e, Bool.false_and, EV, Nat.reduceEqDiff, Nat.reduceBEq, Nat.reduceLT, Nat.reduceLeDiff, Nat.reduceAdd, Nat.reduceSub, reduceIte, evRE, retVC, cellV', evR, nfz, nfzs, nfzss, List.contains_nil, List.contains_cons, Bool.or_false, or_true]
  simp only [Bool.not_true, EV, Nat.reduceEqDiff, Nat.reduceBEq, Nat.reduceLT, Nat.reduceLeDiff, Nat.reduceAdd, Nat.reduceSub, reduceIte]
  refine ⟨by omega, by omega, ?_⟩
  rw [← List.map_take]
  have hlt : (ps.take i).length = i := by simp; omega
  simp only [hlt, EV, Nat.reduceEqDiff, Nat.reduceBEq, Nat.reduceLT, Nat.reduceLeDiff, Nat.reduceAdd, Nat.reduceSub, reduceIte]
  refine awp_loop (fun j : Nat => j ≤ i ∧ ((ps.take i).take j).any (parNm ps[i]) = false) (fun j => stl [(0, .fsl 6 (l.map Ty.z)), (1, .fsl 3 (ps.map Par.z)), (6, .box 54 ps[i].z), (9, .fsl 3 (ps.map Par.z)), (10, .v (.int .i64 (ps.length : Int))), (11, .v (.int .i64 (i : Int))), (29, .fsl 3 (ps.map Par.z)), (30, .v (.int .i64 (i : Int))), (31, .fsl 3 ((ps.take i).map Par.z)), (32, .v (.int .i64 (i : Int))), (33, .v (.int .i64 (j : Int)))]) (fun j => i - j) 0 ⟨Nat.zero_le _, by simp⟩ ?_ ?_
  · simp only [Par.z, EV, Nat.reduceEqDiff, Nat.reduceBEq, Nat.reduceLT, Nat.reduceLeDiff, Nat.reduceAdd, Nat.reduceSub, reduceIte]
    rfl
  rintro j ⟨hj, hnj⟩
  simp only [EV, Nat.reduceEqDiff, Nat.reduceBEq, Nat.reduceLT, Nat.reduceLeDiff, Nat.reduceAdd, Nat.reduceSub, reduceIte]
  refine cK_cut (fun h => ?_) (fun h => ?_)
  · have j1 : j < i := by simpa using h
    have j2 : (j : Int) < (i : Int) := by omega
    have j3 : j < (ps.take i).length := by omega
    have j4 : (j : Int) < ((ps.take i).length : Int) := by omega
    clear h
    simp only [ParE, j1, j2, j3, j4, nth_map j3, hlt, Par.z, EV, Nat.reduceEqDiff, Nat.reduceBEq, Nat.reduceLT, Nat.reduceLeDiff, Nat.reduceAdd, Nat.reduceSub, reduceIte]
    have ec : (ps[i].name.toList == (ps.take i)[j].name.toList) = parNm ps[i] (ps.take i)[j] := Bool.beq_comm
    rw [ec]
    rcases e3 : parNm ps[i] (ps.take i)[j] with _ | _
    · simp only [EV, Nat.reduceEqDiff, Nat.reduceBEq, Nat.reduceLT, Nat.reduceLeDiff, Nat.reduceAdd, Nat.reduceSub, reduceIte]
      rw [w64 _ (by omega)]
      exact ⟨j + 1, ⟨j1, by rw [List.take_succ_eq_append_getElem j3, List.any_append, hnj]; simpa using e3⟩, by omega, rfl⟩
    · have e4 : (ps.take i).any (parNm ps[i]) = true := List.any_eq_true.2 ⟨_, List.getElem_mem j3, e3⟩
      have e : parsOk l ps = false := hno (by simp only [parAt, e1, e2, e4, Bool.not_true, Bool.and_false])
      simp only [EV, Nat.reduceEqDiff, Nat.reduceBEq, Nat.reduceLT, Nat.reduceLeDiff, Nat.reduceAdd, Nat.reduceSub, reduceIte]
      simp only [e, Bool.false_and, EV, Nat.reduceEqDiff, Nat.reduceBEq, Nat.reduceLT, Nat.reduceLeDiff, Nat.reduceAdd, Nat.reduceSub, reduceIte, evRE, retVC, cellV', evR, nfz, nfzs, nfzss, List.contains_nil, List.contains_cons, Bool.or_false, or_true]
  · have j1 : j = i := by have : ¬ (j : Int) < (i : Int) := by simpa using h
                          omega
    subst j1
    have e4 : (ps.take j).any (parNm ps[j]) = false := by rw [List.take_of_length_le (by omega)] at hnj; exact hnj
    simp only [EV, Nat.reduceEqDiff, Nat.reduceBEq, Nat.reduceLT, Nat.reduceLeDiff, Nat.reduceAdd, Nat.reduceSub, reduceIte]
    rw [w64 _ (by omega)]
    exact ⟨j + 1, ⟨h1, parTo_succ h1 hok (by simp only [parAt, e1, e2, e4, Bool.not_false, Bool.and_self])⟩, by omega, rfl⟩
noncomputable def obS (l : List Ty) (o : Ob) : Bool :=
  ((decide (0 ≤ o.mark) && decide (o.mark ≤ 2)) && (!(o.mark == 2) || o.kind == 3)) && (((o.kind == 1 || o.value == 0) && (o.kind == 4 || !(decide (0 < (o.params.length : Int))))) &&
    (if (o.kind == 1) = true then o.typ == 0 && wholeB o.value else if (o.kind == 2 || o.kind == 3) = true then isNum l o.typ
     else o.kind == 4 && ((decide (-1 ≤ o.typ) && decide (o.typ ≤ (l.length : Int) - 1)) && (parsOk l o.params && decide ((o.params.length : Int) ≤ 4)))))
theorem obS_eq (l : List Ty) (o : Ob) : obS l o = obOk l o := by
  have hn : isNum l o.typ = (decide (0 ≤ o.typ) && decide (o.typ ≤ (l.length : Int) - 1)) := rfl
  have hm : (decide (-1 ≤ o.typ) && decide (o.typ ≤ (l.length : Int) - 1)) = (o.typ == -1 || isNum l o.typ) := by
    rw [hn]
    by_cases h : o.typ = -1
    · rw [h]; simp; omega
    · have : (o.typ == -1) = false := by simpa using h
      rw [this, Bool.false_or]
      congr 1
      simp; omega
  by_cases hp : o.params = []
  · have hq := parsOk_nil l
    unfold obS obOk obPre obKd
    rw [hm, hp, hq]
    simp only [List.length_nil, Int.natCast_zero, Int.lt_irrefl, decide_false, Bool.not_false, Bool.or_true, Bool.and_true, Bool.true_and]
    by_cases k1 : o.kind = 1
    · simp [k1]
    by_cases k2 : o.kind = 2
    · simp [k2]
      cases (o.value == 0) <;> cases isNum l o.typ <;> simp
    by_cases k3 : o.kind = 3
    · simp [k3]
      cases (o.value == 0) <;> cases isNum l o.typ <;> simp
    by_cases k4 : o.kind = 4
    · simp [k4]
      cases (o.value == 0) <;> simp
    · simp [k1, k2, k3, k4]
  · have h0 : decide (0 < (o.params.length : Int)) = true := by
      have : 0 < o.params.length := List.length_pos_iff.2 hp
      simp; omega
    unfold obS obOk obPre obKd
    rw [hm, h0]
    by_cases k4 : o.kind = 4
    · simp [k4]
      cases (o.value == 0) <;> cases parsOk l o.params <;> simp
      cases decide ((o.params.length : Int) ≤ 4) <;> simp
    · have : (o.kind == 4) = false := by simpa using k4
      simp [this]
def m150 : MC :=
 (.seq (.reg [Xb 3 (.box 52 (.t 1)), Xb 4 (.asg .fb)]) (.seq (.seq (.reg [Xf 5 0 3, Xl 6 1 5, Xb 7 (.call (.fn 148) false [.lend (.t 6)]), Xq 8 (.un .not (.t 7)), Xm 9 8, Xu 10 9 (.fad 2 (.t 3)), Xu 11 9 (.load false 1 (.t 10)), XU 12 9 (.call (.fn 72) false [.lend (.t 11), .lend (.i 0), .lend (.i 2)]), Xu 13 9 (.un .not (.t 12)), Xq 14 (.pick (.t 9) .tb (.t 13)), Xm 15 14, Xu 16 15 (.fad 2 (.t
 3)), Xu 17 15 (.load false 1 (.t 16)), Xu 18 15 (.bin false .eql (.t 17) (.i 2)), Xu 19 15 (.mov (.t 18)), Xt 20 19 (.fad 1 (.t 3)), Xt 21 19 (.load false 1 (.t 20)), Xt 22 19 (.bin false .neq (.t 21) (.i 3)), Xu 23 15 (.pick (.t 19) (.t 22) .fb), Xq 24 (.pick (.t 15) .tb (.t 23))]) (.cond (.t 24) (.seq (.reg [Xb 4 (.asg .fb)]) .ret) .skip)) (.seq (.seq (.reg [Xf 25 1 3, Xl 26 1 25, Xq 27 (.bin
 false .neq (.t 26) (.i 1)), Xm 28 27, Xt 29 28 (.fad 4 (.t 3)), Xt 30 28 (.load false 1 (.t 29)), Xt 31 28 (.bin false .neq (.t 30) (.i 0)), Xq 32 (.pick (.t 28) (.t 31) .fb), Xm 33 32, Xu 34 33 (.fad 1 (.t 3)), Xu 35 33 (.load false 1 (.t 34)), Xu 36 33 (.bin false .neq (.t 35) (.i 4)), Xu 37 33 (.mov (.t 36)), Xt 38 37 (.fad 5 (.t 3)), Xt 39 37 (.load false 1 (.t 38)), Xt 40 37 (.len false (.t
 39)), Xt 41 37 (.bin false .gtr (.t 40) (.i 0)), Xu 42 33 (.pick (.t 37) (.t 41) .fb), Xq 43 (.pick (.t 33) .tb (.t 42))]) (.cond (.t 43) (.seq (.reg [Xb 4 (.asg .fb)]) .ret) .skip)) (.join [0, 3] (.seq (.reg [Xf 44 1 3, Xl 45 1 44]) (.block 0 (.seq (.reg [Xq 47 (.bin false .eql (.t 45) (.i 1)), Xa 46 47]) (.cond (.t 46) (.seq (.reg [Xf 48 3 3, Xl 49 1 48, Xq 50 (.bin false .eql (.t 49) (.i 0)),
 Xm 51 50, Xt 52 51 (.fad 4 (.t 3)), Xt 53 51 (.load false 1 (.t 52)), XT 54 51 (.call (.fn 72) false [.lend (.t 53), .lend (.i (-1000000000)), .lend (.i 1000000000)]), Xq 55 (.pick (.t 51) (.t 54) .fb), Xa 4 55]) .ret) (.join [0, 3, 56] (.seq (.reg [Xq 57 (.bin false .eql (.t 45) (.i 2)), Xa 56 57]) (.cond (.t 56) .skip (.reg [Xq 58 (.bin false .eql (.t 45) (.i 3)), Xa 56 58]))) (.cond (.t 56)
 (.seq (.reg [Xf 59 3 3, Xl 60 1 59, Xm 61 0, Xn 62 61, Xq 63 (.bin false .sub (.t 62) (.i 1)), Xb 64 (.call (.fn 72) false [.lend (.t 60), .lend (.i 0), .lend (.t 63)]), Xa 4 64]) .ret) .skip)))))) (.seq (.reg [Xf 65 1 3, Xl 66 1 65, Xq 67 (.bin false .eql (.t 66) (.i 4)), Xm 68 67, Xt 69 68 (.fad 3 (.t 3)), Xt 70 68 (.load false 1 (.t 69)), Xt 71 68 (.mov (.t 0)), Xt 72 68 (.len false (.t 71)),
 Xt 73 68 (.bin false .sub (.t 72) (.i 1)), XT 74 68 (.call (.fn 72) false [.lend (.t 70), .lend (.i (-1)), .lend (.t 73)]), Xq 75 (.pick (.t 68) (.t 74) .fb), Xm 76 75, Xt 77 76 (.mov (.t 0)), Xt 78 76 (.fad 5 (.t 3)), Xt 79 76 (.load false 1 (.t 78)), XT 80 76 (.call (.fn 210) false [.lend (.t 77), .lend (.t 79)]), Xq 81 (.pick (.t 76) (.t 80) .fb), Xa 4 81]) .ret)))))
set_option maxHeartbeats 4000000 in
set_option maxRecDepth 100000 in
theorem d150 (l : List Ty) (o : Ob) (hl : (l.length : Int) ≤ 1048576) (ho : o.sm) : Does Go.Proofs.Tryz.prog 150 [.fsl 6 (l.map Ty.z), .agg o.z] false (.v (.bool (nameOk o.name && obOk l o))) [.dead, .dead] := by
  have wl := w64 ((l.length : Int) - 1) (by omega)
  rw [← obS_eq]
  unfold Ob.sm at ho
  refine does_intro (mc := m150) (N := 82) (rs := [4]) (fx := []) 2 rfl (by decide +kernel) ?_
  simp only [m150, Ob.z, EV, Nat.reduceEqDiff, Nat.reduceBEq, Nat.reduceLT, Nat.reduceLeDiff, Nat.reduceAdd, Nat.reduceSub, reduceIte]
  refine callK_i (d148 o.name (by omega)) ?_
  simp only [EV, Nat.reduceEqDiff, Nat.reduceBEq, Nat.reduceLT, Nat.reduceLeDiff, Nat.reduceAdd, Nat.reduceSub, reduceIte]
  rcases e1 : nameOk o.name with _ | _
  · simp only [Bool.not_false, EV, Nat.reduceEqDiff, Nat.reduceBEq, Nat.reduceLT, Nat.reduceLeDiff, Nat.reduceAdd, Nat.reduceSub, reduceIte]
    simp only [Bool.false_and, EV, Nat.reduceEqDiff, Nat.reduceBEq, Nat.reduceLT, Nat.reduceLeDiff, Nat.reduceAdd, Nat.reduceSub, reduceIte, evRE, retVC, cellV', evR, nfz, nfzs, nfzss, List.contains_nil, List.contains_cons, Bool.or_false, or_true]
  simp only [Bool.not_true, EV, Nat.reduceEqDiff, Nat.reduceBEq, Nat.reduceLT, Nat.reduceLeDiff, Nat.reduceAdd, Nat.reduceSub, reduceIte]
  refine callK_i (d72 o.mark 0 2) ?_
  simp only [EV, Nat.reduceEqDiff, Nat.reduceBEq, Nat.reduceLT, Nat.reduceLeDiff, Nat.reduceAdd, Nat.reduceSub, reduceIte]
  rcases e2 : (decide (0 ≤ o.mark) && decide (o.mark ≤ 2)) with _ | _
  · simp only [Bool.not_false, EV, Nat.reduceEqDiff, Nat.reduceBEq, Nat.reduceLT, Nat.reduceLeDiff, Nat.reduceAdd, Nat.reduceSub, reduceIte]
    simp only [obS, e2, Bool.false_and, Bool.and_false, EV, Nat.reduceEqDiff, Nat.reduceBEq, Nat.reduceLT, Nat.reduceLeDiff, Nat.reduceAdd, Nat.reduceSub, reduceIte, evRE, retVC, cellV', evR, nfz, nfzs, nfzss, List.contains_nil, List.contains_cons, Bool.or_false, or_true]
  simp only [Bool.not_true, EV, Nat.reduceEqDiff, Nat.reduceBEq, Nat.reduceLT, Nat.reduceLeDiff, Nat.reduceAdd, Nat.reduceSub, reduceIte]
  have hk : o.kind = 1 ∨ o.kind = 2 ∨ o.kind = 3 ∨ o.kind = 4 ∨ (o.kind ≠ 1 ∧ o.kind ≠ 2 ∧ o.kind ≠ 3 ∧ o.kind ≠ 4) := by omega
  have kf : ∃ b1 b2 b3 b4 : Bool, (o.kind == 1) = b1 ∧ (o.kind == 2) = b2 ∧ (o.kind == 3) = b3 ∧ (o.kind == 4) = b4 ∧ (o.kind != 1) = !b1 ∧ (o.kind != 3) = !b3 ∧ (o.kind != 4) = !b4 ∧
      ((b1, b2, b3, b4) = (true, false, false, false) ∨ (b1, b2, b3, b4) = (false, true, false, false) ∨ (b1, b2, b3, b4) = (false, false, true, false) ∨ (b1, b2, b3, b4) = (false, false, false, true) ∨ (b1, b2, b3, b4) = (false, false, false, false)) := by
    refine ⟨_, _, _, _, rfl, rfl, rfl, rfl, rfl, rfl, rfl, ?_⟩
    rcases hk with h | h | h | h | ⟨h1, h2, h3, h4⟩
    · rw [h]; simp
    · rw [h]; simp
    · rw [h]; simp
    · rw [h]; simp
    · simp [h1, h2, h3, h4]
  obtain ⟨b1, b2, b3, b4, f1, f2, f3, f4, n1, n3, n4, hb⟩ := kf
  have g4 : (o.value != 0) = !(o.value == 0) := rfl
  rcases e3 : (o.mark == 2) with _ | _ <;> rcases e4 : (o.value == 0) with _ | _ <;> rcases e5 : decide (0 < (o.params.length : Int)) with _ | _ <;> rcases hb with hb | hb | hb | hb | hb <;> (simp only [Prod.mk.injEq] at hb; obtain ⟨rfl, rfl, rfl, rfl⟩ := hb) <;> simp only [f1, f2, f3, f4, n1, n3, n4, e4, g4, e5, Bool.not_true, Bool.not_false, EV, Nat.reduceEqDiff, Nat.reduceBEq, Nat.reduceLT, Nat.reduceLeDiff, Nat.reduceAdd, Nat.reduceSub, reduceIte]
  all_goals try (simp only [obS, f1, f2, f3, f4, e2, e3, e4, e5, Bool.not_true, Bool.not_false, Bool.or_true, Bool.or_false, Bool.and_true, Bool.and_false, Bool.true_and, Bool.false_and, EV, Nat.reduceEqDiff, Nat.reduceBEq, Nat.reduceLT, Nat.reduceLeDiff, Nat.reduceAdd, Nat.reduceSub, reduceIte, evRE, retVC, cellV', evR, nfz, nfzs, nfzss, List.contains_nil, List.contains_cons, Bool.or_false, or_true]; done)
  all_goals
    refine awp_join (fun _ : Unit => (o.kind == 1) = false ∧ (o.kind == 2 || o.kind == 3) = false) (fun _ => stl [(0, .fsl 6 (l.map Ty.z)), (3, .box 52 o.z)]) ?_ ?_
    · first
        | (simp only [f1, Ob.z, EV, Nat.reduceEqDiff, Nat.reduceBEq, Nat.reduceLT, Nat.reduceLeDiff, Nat.reduceAdd, Nat.reduceSub, reduceIte]
           rcases t0 : (o.typ == 0) with _ | _
           · simp only [Ob.z, EV, Nat.reduceEqDiff, Nat.reduceBEq, Nat.reduceLT, Nat.reduceLeDiff, Nat.reduceAdd, Nat.reduceSub, reduceIte]
             simp only [obS, t0, f1, f2, f3, f4, e2, e3, e4, e5, Bool.not_true, Bool.not_false, Bool.or_true, Bool.true_or, Bool.or_false, Bool.false_or, Bool.and_true, Bool.and_false, Bool.true_and, Bool.false_and, Bool.false_eq_true, if_true, if_false, EV, Nat.reduceEqDiff, Nat.reduceBEq, Nat.reduceLT, Nat.reduceLeDiff, Nat.reduceAdd, Nat.reduceSub, reduceIte, evRE, retVC, cellV', evR, nfz, nfzs, nfzss, List.contains_nil, List.contains_cons, Bool.or_false, or_true]
           · simp only [Ob.z, EV, Nat.reduceEqDiff, Nat.reduceBEq, Nat.reduceLT, Nat.reduceLeDiff, Nat.reduceAdd, Nat.reduceSub, reduceIte]
             refine callK_i (d72 o.value (-1000000000) 1000000000) ?_
             simp only [EV, Nat.reduceEqDiff, Nat.reduceBEq, Nat.reduceLT, Nat.reduceLeDiff, Nat.reduceAdd, Nat.reduceSub, reduceIte]
             simp only [obS, wholeB, t0, f1, f2, f3, f4, e2, e3, e4, e5, Bool.not_true, Bool.not_false, Bool.or_true, Bool.true_or, Bool.or_false, Bool.false_or, Bool.and_true, Bool.and_false, Bool.true_and, Bool.false_and, Bool.false_eq_true, if_true, if_false, EV, Nat.reduceEqDiff, Nat.reduceBEq, Nat.reduceLT, Nat.reduceLeDiff, Nat.reduceAdd, Nat.reduceSub, reduceIte, evRE, retVC, cellV', evR, nfz, nfzs, nfzss, List.contains_nil, List.contains_cons, Bool.or_false, or_true]
           done)
        | (simp only [f1, Ob.z, EV, Nat.reduceEqDiff, Nat.reduceBEq, Nat.reduceLT, Nat.reduceLeDiff, Nat.reduceAdd, Nat.reduceSub, reduceIte]
           refine awp_join (fun b : Bool => b = true) (fun b => stl [(0, .fsl 6 (l.map Ty.z)), (3, .box 52 o.z), (56, .v (.bool b))]) ?_ ?_
           · simp only [f2, f3, Ob.z, EV, Nat.reduceEqDiff, Nat.reduceBEq, Nat.reduceLT, Nat.reduceLeDiff, Nat.reduceAdd, Nat.reduceSub, reduceIte]
             exact ⟨true, rfl, rfl⟩
           rintro _ rfl
           simp only [wl, Ob.z, EV, Nat.reduceEqDiff, Nat.reduceBEq, Nat.reduceLT, Nat.reduceLeDiff, Nat.reduceAdd, Nat.reduceSub, reduceIte]
           refine callK_i (d72 o.typ 0 ((l.length : Int) - 1)) ?_
           have en : (decide (0 ≤ o.typ) && decide (o.typ ≤ (l.length : Int) - 1)) = isNum l o.typ := rfl
           rw [en]
           simp only [EV, Nat.reduceEqDiff, Nat.reduceBEq, Nat.reduceLT, Nat.reduceLeDiff, Nat.reduceAdd, Nat.reduceSub, reduceIte]
           simp only [obS, f1, f2, f3, f4, e2, e3, e4, e5, Bool.not_true, Bool.not_false, Bool.or_true, Bool.true_or, Bool.or_false, Bool.false_or, Bool.and_true, Bool.and_false, Bool.true_and, Bool.false_and, Bool.false_eq_true, if_true, if_false, EV, Nat.reduceEqDiff, Nat.reduceBEq, Nat.reduceLT, Nat.reduceLeDiff, Nat.reduceAdd, Nat.reduceSub, reduceIte, evRE, retVC, cellV', evR, nfz, nfzs, nfzss, List.contains_nil, List.contains_cons, Bool.or_false, or_true]
           done)
        | (simp only [f1, Ob.z, EV, Nat.reduceEqDiff, Nat.reduceBEq, Nat.reduceLT, Nat.reduceLeDiff, Nat.reduceAdd, Nat.reduceSub, reduceIte]
           refine awp_join (fun b : Bool => b = false) (fun b => stl [(0, .fsl 6 (l.map Ty.z)), (3, .box 52 o.z), (56, .v (.bool b))]) ?_ ?_
           · simp only [f2, f3, Ob.z, EV, Nat.reduceEqDiff, Nat.reduceBEq, Nat.reduceLT, Nat.reduceLeDiff, Nat.reduceAdd, Nat.reduceSub, reduceIte]
             exact ⟨false, rfl, rfl⟩
           rintro _ rfl
           simp only [f1, f2, f3, Ob.z, Bool.or_false, EV, Nat.reduceEqDiff, Nat.reduceBEq, Nat.reduceLT, Nat.reduceLeDiff, Nat.reduceAdd, Nat.reduceSub, reduceIte]
           exact ⟨(), trivial⟩)
    · rintro _ ⟨x1, x2⟩
      first
        | (exfalso; simp [f1] at x1; done)
        | (exfalso; simp [f2, f3] at x2; done)
        | (simp only [f4, Ob.z, EV, Nat.reduceEqDiff, Nat.reduceBEq, Nat.reduceLT, Nat.reduceLeDiff, Nat.reduceAdd, Nat.reduceSub, reduceIte]
           simp only [obS, f1, f2, f3, f4, e2, e3, e4, e5, Bool.not_true, Bool.not_false, Bool.or_true, Bool.true_or, Bool.or_false, Bool.false_or, Bool.and_true, Bool.and_false, Bool.true_and, Bool.false_and, Bool.false_eq_true, if_true, if_false, EV, Nat.reduceEqDiff, Nat.reduceBEq, Nat.reduceLT, Nat.reduceLeDiff, Nat.reduceAdd, Nat.reduceSub, reduceIte, evRE, retVC, cellV', evR, nfz, nfzs, nfzss, List.contains_nil, List.contains_cons, Bool.or_false, or_true]
           done)
        | (simp only [f4, wl, Ob.z, EV, Nat.reduceEqDiff, Nat.reduceBEq, Nat.reduceLT, Nat.reduceLeDiff, Nat.reduceAdd, Nat.reduceSub, reduceIte]
           refine callK_i (d72 o.typ (-1) ((l.length : Int) - 1)) ?_
           simp only [EV, Nat.reduceEqDiff, Nat.reduceBEq, Nat.reduceLT, Nat.reduceLeDiff, Nat.reduceAdd, Nat.reduceSub, reduceIte]
           rcases e6 : (decide (-1 ≤ o.typ) && decide (o.typ ≤ (l.length : Int) - 1)) with _ | _
           · simp only [EV, Nat.reduceEqDiff, Nat.reduceBEq, Nat.reduceLT, Nat.reduceLeDiff, Nat.reduceAdd, Nat.reduceSub, reduceIte]
             simp only [obS, e6, f1, f2, f3, f4, e2, e3, e4, e5, Bool.not_true, Bool.not_false, Bool.or_true, Bool.true_or, Bool.or_false, Bool.false_or, Bool.and_true, Bool.and_false, Bool.true_and, Bool.false_and, Bool.false_eq_true, if_true, if_false, EV, Nat.reduceEqDiff, Nat.reduceBEq, Nat.reduceLT, Nat.reduceLeDiff, Nat.reduceAdd, Nat.reduceSub, reduceIte, evRE, retVC, cellV', evR, nfz, nfzs, nfzss, List.contains_nil, List.contains_cons, Bool.or_false, or_true]
           · simp only [Ob.z, EV, Nat.reduceEqDiff, Nat.reduceBEq, Nat.reduceLT, Nat.reduceLeDiff, Nat.reduceAdd, Nat.reduceSub, reduceIte]
             refine callK_i (d210 l o.params hl ho.2.2.2.2.2.1 ho.2.2.2.2.2.2) ?_
             simp only [EV, Nat.reduceEqDiff, Nat.reduceBEq, Nat.reduceLT, Nat.reduceLeDiff, Nat.reduceAdd, Nat.reduceSub, reduceIte]
             simp only [obS, e6, f1, f2, f3, f4, e2, e3, e4, e5, Bool.not_true, Bool.not_false, Bool.or_true, Bool.true_or, Bool.or_false, Bool.false_or, Bool.and_true, Bool.and_false, Bool.true_and, Bool.false_and, Bool.false_eq_true, if_true, if_false, EV, Nat.reduceEqDiff, Nat.reduceBEq, Nat.reduceLT, Nat.reduceLeDiff, Nat.reduceAdd, Nat.reduceSub, reduceIte, evRE, retVC, cellV', evR, nfz, nfzs, nfzss, List.contains_nil, List.contains_cons, Bool.or_false, or_true]
           done)
end Go.AM
