/- Contracts of functions of the given program, for the law FnCalls: what they return and what they write, under the bounds that each theorem states. -/
import Derived.Test.YtmacgaechjiecaaGreatG1
namespace Go.AM
set_option linter.unusedVariables false
set_option linter.unusedSimpArgs false
def eqTo {α : Type} (q : α → α → Bool) (a b : List α) (n : Nat) : Prop := ∀ j (ha : j < a.length) (hb : j < b.length), j < n → q a[j] b[j] = true
open Classical in
noncomputable def eqL {α : Type} (q : α → α → Bool) (a b : List α) : Bool := decide (a.length = b.length ∧ eqTo q a b a.length)
theorem eqTo_succ {α : Type} {q : α → α → Bool} {a b : List α} {i : Nat} {h1 : i < a.length} {h2 : i < b.length} (h : eqTo q a b i) (hq : q a[i] b[i] = true) : eqTo q a b (i + 1) := by
  intro j ha hb hj
  by_cases e : j = i
  · subst e; exact hq
  · exact h j ha hb (by omega)
theorem eqL_ne {α : Type} {q : α → α → Bool} {a b : List α} (h : ¬ a.length = b.length) : eqL q a b = false := by
  simp only [eqL, decide_eq_false_iff_not]
  rintro ⟨h1, _⟩
  exact h h1
theorem eqL_no {α : Type} {q : α → α → Bool} {a b : List α} {i : Nat} (h1 : i < a.length) (h2 : i < b.length) (hq : q a[i] b[i] = false) : eqL q a b = false := by
  simp only [eqL, decide_eq_false_iff_not]
  rintro ⟨_, h⟩
  have := h i h1 h2 h1
  rw [hq] at this; cases this
theorem eqL_yes {α : Type} {q : α → α → Bool} {a b : List α} (h : a.length = b.length) (h2 : eqTo q a b a.length) : eqL q a b = true := by
  simp only [eqL, decide_eq_true_eq]
  exact ⟨h, h2⟩
def qStr (x y : Str) : Bool := x.s.toList == y.s.toList
def qFd (x y : Fd) : Bool := x.name.toList == y.name.toList && (x.mark == y.mark && (x.typ == y.typ))
def qUs (x y : Us) : Bool := x.mod.toList == y.mod.toList && (x.name.toList == y.name.toList)
def m177 : MC :=
 (.seq (.reg [Xb 4 (.asg .fb)]) (.seq (.seq (.reg [Xm 6 0, Xn 7 6, Xm 8 1, Xn 9 8, Xq 10 (.bin false .neq (.t 7) (.t 9))]) (.cond (.t 10) (.seq (.reg [Xb 4 (.asg .fb)]) .ret) .skip)) (.seq (.seq (.reg [Xm 11 0, Xn 12 11, Xq 13 (.mov (.i 0))]) (.block 0 (.loop [0, 1, 12, 13] (.seq (.reg [Xq 14 (.bin false .lss (.t 13) (.t 12))]) (.seq (.cond (.t 14) .skip (.exit 0)) (.seq (.block 1 (.seq (.reg [Xm
 15 13, Xa 5 15]) (.seq (.dreg [Xm 16 0, Xm 17 5, Xi 18 1 16 17, Xl 19 1 18, Xm 20 1, Xm 21 5, Xi 22 1 20 21, Xl 23 1 22, Xq 24 (.bin false .neq (.t 19) (.t 23))]) (.cond (.t 24) (.seq (.reg [Xb 4 (.asg .fb)]) .ret) .skip)))) (.reg [Xq 25 (.bin false .add (.t 13) (.i 1)), Xm 13 25]))))))) (.seq (.reg [Xb 4 (.asg .tb)]) .ret))))
theorem d177 (a b : List Str) (ha : (a.length : Int) ≤ 1048576) (hb : (b.length : Int) ≤ 1048576) : Does Go.Proofs.Tryz.prog 177 [.fsl 1 (a.map Str.z), .fsl 1 (b.map Str.z)] false (.v (.bool (eqL qStr a b))) [.dead, .dead] := by
  refine does_intro (mc := m177) (N := 26) (rs := [4]) (fx := []) 2 rfl (by decide +kernel) ?_
  simp only [m177, EV, Nat.reduceEqDiff, Nat.reduceBEq, Nat.reduceLT, Nat.reduceLeDiff, Nat.reduceAdd, Nat.reduceSub, reduceIte]
  refine cK_cut (fun h => ?_) (fun h => ?_)
  · have h1 : ¬ a.length = b.length := by
      intro e; simp [e] at h
    simp only [EV, Nat.reduceEqDiff, Nat.reduceBEq, Nat.reduceLT, Nat.reduceLeDiff, Nat.reduceAdd, Nat.reduceSub, reduceIte]
    simp only [eqL_ne h1, EV, Nat.reduceEqDiff, Nat.reduceBEq, Nat.reduceLT, Nat.reduceLeDiff, Nat.reduceAdd, Nat.reduceSub, reduceIte, evRE, retVC, cellV', evR, nfz, nfzs, nfzss, List.contains_nil, List.contains_cons, Bool.or_false, or_true]
  · have hl : a.length = b.length := by
      have : ((a.length : Int) = b.length) := by simpa using h
      omega
    simp only [EV, Nat.reduceEqDiff, Nat.reduceBEq, Nat.reduceLT, Nat.reduceLeDiff, Nat.reduceAdd, Nat.reduceSub, reduceIte]
    refine awp_loop (fun i : Nat => i ≤ a.length ∧ eqTo qStr a b i) (fun i => stl [(0, .fsl 1 (a.map Str.z)), (1, .fsl 1 (b.map Str.z)), (12, .v (.int .i64 (a.length : Int))), (13, .v (.int .i64 (i : Int)))]) (fun i => a.length - i) 0 ⟨Nat.zero_le _, fun j _ _ h => absurd h (by omega)⟩ ?_ ?_
    · simp only [EV, Nat.reduceEqDiff, Nat.reduceBEq, Nat.reduceLT, Nat.reduceLeDiff, Nat.reduceAdd, Nat.reduceSub, reduceIte]
      rfl
    · rintro i ⟨hi, hto⟩
      simp only [EV, Nat.reduceEqDiff, Nat.reduceBEq, Nat.reduceLT, Nat.reduceLeDiff, Nat.reduceAdd, Nat.reduceSub, reduceIte]
      refine cK_cut (fun h => ?_) (fun h => ?_)
      · have h1 : i < a.length := by simpa using h
        have h2 : (i : Int) < (a.length : Int) := by omega
        have g1 : i < b.length := by omega
        have g2 : (i : Int) < (b.length : Int) := by omega
        simp only [nth_map h1, nth_map g1, h2, g2, Str.z, Bool.true_xor, EV, Nat.reduceEqDiff, Nat.reduceBEq, Nat.reduceLT, Nat.reduceLeDiff, Nat.reduceAdd, Nat.reduceSub, reduceIte]
        refine cK_cut (fun h => ?_) (fun h => ?_)
        · have hq : qStr a[i] b[i] = false := by unfold qStr; simp only [Bool.not_eq_true'] at h; exact h
          simp only [EV, Nat.reduceEqDiff, Nat.reduceBEq, Nat.reduceLT, Nat.reduceLeDiff, Nat.reduceAdd, Nat.reduceSub, reduceIte]
          simp only [eqL_no h1 g1 hq, EV, Nat.reduceEqDiff, Nat.reduceBEq, Nat.reduceLT, Nat.reduceLeDiff, Nat.reduceAdd, Nat.reduceSub, reduceIte, evRE, retVC, cellV', evR, nfz, nfzs, nfzss, List.contains_nil, List.contains_cons, Bool.or_false, or_true]
        · have hq : qStr a[i] b[i] = true := by unfold qStr; simp only [Bool.not_eq_false'] at h; exact h
          simp only [EV, Nat.reduceEqDiff, Nat.reduceBEq, Nat.reduceLT, Nat.reduceLeDiff, Nat.reduceAdd, Nat.reduceSub, reduceIte]
          rw [w64 _ (by omega)]
          exact ⟨i + 1, ⟨by omega, eqTo_succ hto hq⟩, by omega, rfl⟩
      · have h1 : i = a.length := by have : ¬ (i : Int) < a.length := by simpa using h
                                     omega
        subst h1
        simp only [EV, Nat.reduceEqDiff, Nat.reduceBEq, Nat.reduceLT, Nat.reduceLeDiff, Nat.reduceAdd, Nat.reduceSub, reduceIte]
        simp only [eqL_yes hl hto, EV, Nat.reduceEqDiff, Nat.reduceBEq, Nat.reduceLT, Nat.reduceLeDiff, Nat.reduceAdd, Nat.reduceSub, reduceIte, evRE, retVC, cellV', evR, nfz, nfzs, nfzss, List.contains_nil, List.contains_cons, Bool.or_false, or_true]
def m226 : MC :=
 (.seq (.reg [Xb 4 (.asg .fb)]) (.seq (.seq (.reg [Xm 6 0, Xn 7 6, Xm 8 1, Xn 9 8, Xq 10 (.bin false .neq (.t 7) (.t 9))]) (.cond (.t 10) (.seq (.reg [Xb 4 (.asg .fb)]) .ret) .skip)) (.seq (.seq (.reg [Xm 11 0, Xn 12 11, Xq 13 (.mov (.i 0))]) (.block 0 (.loop [0, 1, 12, 13] (.seq (.reg [Xq 14 (.bin false .lss (.t 13) (.t 12))]) (.seq (.cond (.t 14) .skip (.exit 0)) (.seq (.block 1 (.seq (.reg [Xm
 15 13, Xa 5 15]) (.seq (.dreg [Xm 16 0, Xm 17 5, Xi 18 3 16 17, XL 19 3 18, Xm 20 1, Xm 21 5, Xi 22 3 20 21, XL 23 3 22, Xq 24 (.eqa true [1, 0, 0] (.t 19) (.t 23))]) (.cond (.t 24) (.seq (.reg [Xb 4 (.asg .fb)]) .ret) .skip)))) (.reg [Xq 25 (.bin false .add (.t 13) (.i 1)), Xm 13 25]))))))) (.seq (.reg [Xb 4 (.asg .tb)]) .ret))))
theorem d226 (a b : List Fd) (ha : (a.length : Int) ≤ 1048576) (hb : (b.length : Int) ≤ 1048576) : Does Go.Proofs.Tryz.prog 226 [.fsl 3 (a.map Fd.z), .fsl 3 (b.map Fd.z)] false (.v (.bool (eqL qFd a b))) [.dead, .dead] := by
  refine does_intro (mc := m226) (N := 26) (rs := [4]) (fx := []) 2 rfl (by decide +kernel) ?_
  simp only [m226, EV, Nat.reduceEqDiff, Nat.reduceBEq, Nat.reduceLT, Nat.reduceLeDiff, Nat.reduceAdd, Nat.reduceSub, reduceIte]
  refine cK_cut (fun h => ?_) (fun h => ?_)
  · have h1 : ¬ a.length = b.length := by
      intro e; simp [e] at h
    simp only [EV, Nat.reduceEqDiff, Nat.reduceBEq, Nat.reduceLT, Nat.reduceLeDiff, Nat.reduceAdd, Nat.reduceSub, reduceIte]
    simp only [eqL_ne h1, EV, Nat.reduceEqDiff, Nat.reduceBEq, Nat.reduceLT, Nat.reduceLeDiff, Nat.reduceAdd, Nat.reduceSub, reduceIte, evRE, retVC, cellV', evR, nfz, nfzs, nfzss, List.contains_nil, List.contains_cons, Bool.or_false, or_true]
  · have hl : a.length = b.length := by
      have : ((a.length : Int) = b.length) := by simpa using h
      omega
    simp only [EV, Nat.reduceEqDiff, Nat.reduceBEq, Nat.reduceLT, Nat.reduceLeDiff, Nat.reduceAdd, Nat.reduceSub, reduceIte]
    refine awp_loop (fun i : Nat => i ≤ a.length ∧ eqTo qFd a b i) (fun i => stl [(0, .fsl 3 (a.map Fd.z)), (1, .fsl 3 (b.map Fd.z)), (12, .v (.int .i64 (a.length : Int))), (13, .v (.int .i64 (i : Int)))]) (fun i => a.length - i) 0 ⟨Nat.zero_le _, fun j _ _ h => absurd h (by omega)⟩ ?_ ?_
    · simp only [EV, Nat.reduceEqDiff, Nat.reduceBEq, Nat.reduceLT, Nat.reduceLeDiff, Nat.reduceAdd, Nat.reduceSub, reduceIte]
      rfl
    · rintro i ⟨hi, hto⟩
      simp only [EV, Nat.reduceEqDiff, Nat.reduceBEq, Nat.reduceLT, Nat.reduceLeDiff, Nat.reduceAdd, Nat.reduceSub, reduceIte]
      refine cK_cut (fun h => ?_) (fun h => ?_)
      · have h1 : i < a.length := by simpa using h
        have h2 : (i : Int) < (a.length : Int) := by omega
        have g1 : i < b.length := by omega
        have g2 : (i : Int) < (b.length : Int) := by omega
        simp only [nth_map h1, nth_map g1, h2, g2, Fd.z, Bool.true_xor, EV, Nat.reduceEqDiff, Nat.reduceBEq, Nat.reduceLT, Nat.reduceLeDiff, Nat.reduceAdd, Nat.reduceSub, reduceIte]
        refine cK_cut (fun h => ?_) (fun h => ?_)
        · have hq : qFd a[i] b[i] = false := by unfold qFd; simp only [Bool.not_eq_true'] at h; exact h
          simp only [EV, Nat.reduceEqDiff, Nat.reduceBEq, Nat.reduceLT, Nat.reduceLeDiff, Nat.reduceAdd, Nat.reduceSub, reduceIte]
          simp only [eqL_no h1 g1 hq, EV, Nat.reduceEqDiff, Nat.reduceBEq, Nat.reduceLT, Nat.reduceLeDiff, Nat.reduceAdd, Nat.reduceSub, reduceIte, evRE, retVC, cellV', evR, nfz, nfzs, nfzss, List.contains_nil, List.contains_cons, Bool.or_false, or_true]
        · have hq : qFd a[i] b[i] = true := by unfold qFd; simp only [Bool.not_eq_false'] at h; exact h
          simp only [EV, Nat.reduceEqDiff, Nat.reduceBEq, Nat.reduceLT, Nat.reduceLeDiff, Nat.reduceAdd, Nat.reduceSub, reduceIte]
          rw [w64 _ (by omega)]
          exact ⟨i + 1, ⟨by omega, eqTo_succ hto hq⟩, by omega, rfl⟩
      · have h1 : i = a.length := by have : ¬ (i : Int) < a.length := by simpa using h
                                     omega
        subst h1
        simp only [EV, Nat.reduceEqDiff, Nat.reduceBEq, Nat.reduceLT, Nat.reduceLeDiff, Nat.reduceAdd, Nat.reduceSub, reduceIte]
        simp only [eqL_yes hl hto, EV, Nat.reduceEqDiff, Nat.reduceBEq, Nat.reduceLT, Nat.reduceLeDiff, Nat.reduceAdd, Nat.reduceSub, reduceIte, evRE, retVC, cellV', evR, nfz, nfzs, nfzss, List.contains_nil, List.contains_cons, Bool.or_false, or_true]
def m185 : MC :=
 (.seq (.reg [Xb 6 (.asg .fb)]) (.seq (.seq (.reg [Xm 10 0, Xn 11 10, Xm 12 1, Xn 13 12, Xq 14 (.bin false .neq (.t 11) (.t 13))]) (.cond (.t 14) (.seq (.reg [Xb 6 (.asg .fb)]) .ret) .skip)) (.seq (.seq (.reg [Xm 15 0, Xn 16 15, Xq 17 (.mov (.i 0))]) (.block 0 (.loop [0, 1, 2, 15, 16, 17] (.seq (.reg [Xq 18 (.bin false .lss (.t 17) (.t 16))]) (.seq (.cond (.t 18) .skip (.exit 0)) (.seq (.block 1
 (.seq (.reg [Xm 19 17, Xi 20 6 15 17, XL 21 6 20, Xb 8 (.alloc 40 [.i, .i, .i, .s 97 3, .z, .z]), Xa 7 19, Xz (.store 6 (.t 8) (.t 21))]) (.seq (.reg [Xm 22 1, Xm 23 7, Xi 24 6 22 23, XL 25 6 24, Xb 9 (.alloc 40 [.i, .i, .i, .s 97 3, .z, .z]), Xz (.store 6 (.t 9) (.t 25))]) (.seq (.reg [Xm 26 2, XL 27 6 8, XL 28 6 9, Xb 29 (.call (.t 26) false [.lend (.t 27), .lend (.t 28)]), Xq 30 (.un .not (.t
 29))]) (.cond (.t 30) (.seq (.reg [Xb 6 (.asg .fb)]) .ret) .skip))))) (.reg [Xq 31 (.bin false .add (.t 17) (.i 1)), Xm 17 31]))))))) (.seq (.reg [Xb 6 (.asg .tb)]) .ret))))
set_option maxRecDepth 100000 in
theorem d185 (a b : List Ty) (ha : (a.length : Int) ≤ 1048576) (hb : (b.length : Int) ≤ 1048576) (f : Nat) (q : Ty → Ty → Bool) (hq : ∀ x ∈ a, ∀ y ∈ b, Does Go.Proofs.Tryz.prog f [.agg x.z, .agg y.z] false (.v (.bool (q x y))) [.dead, .dead]) :
    Does Go.Proofs.Tryz.prog 185 [.fsl 6 (a.map Ty.z), .fsl 6 (b.map Ty.z), .clo f []] false (.v (.bool (eqL q a b))) [.dead, .dead, .dead] := by
  refine does_intro (mc := m185) (N := 32) (rs := [6]) (fx := []) 3 rfl (by decide +kernel) ?_
  simp only [m185, EV, Nat.reduceEqDiff, Nat.reduceBEq, Nat.reduceLT, Nat.reduceLeDiff, Nat.reduceAdd, Nat.reduceSub, reduceIte]
  refine cK_cut (fun h => ?_) (fun h => ?_)
  · have h1 : ¬ a.length = b.length := by
      intro e; simp [e] at h
    simp only [EV, Nat.reduceEqDiff, Nat.reduceBEq, Nat.reduceLT, Nat.reduceLeDiff, Nat.reduceAdd, Nat.reduceSub, reduceIte]
    simp only [eqL_ne h1, EV, Nat.reduceEqDiff, Nat.reduceBEq, Nat.reduceLT, Nat.reduceLeDiff, Nat.reduceAdd, Nat.reduceSub, reduceIte, evRE, retVC, cellV', evR, nfz, nfzs, nfzss, List.contains_nil, List.contains_cons, Bool.or_false, or_true]
  · have hl : a.length = b.length := by
      have : ((a.length : Int) = b.length) := by simpa using h
      omega
    simp only [EV, Nat.reduceEqDiff, Nat.reduceBEq, Nat.reduceLT, Nat.reduceLeDiff, Nat.reduceAdd, Nat.reduceSub, reduceIte]
    refine awp_loop (fun i : Nat => i ≤ a.length ∧ eqTo q a b i) (fun i => stl [(0, .fsl 6 (a.map Ty.z)), (1, .fsl 6 (b.map Ty.z)), (2, .clo f []), (15, .fsl 6 (a.map Ty.z)), (16, .v (.int .i64 (a.length : Int))), (17, .v (.int .i64 (i : Int)))]) (fun i => a.length - i) 0 ⟨Nat.zero_le _, fun j _ _ h => absurd h (by omega)⟩ ?_ ?_
    · simp only [EV, Nat.reduceEqDiff, Nat.reduceBEq, Nat.reduceLT, Nat.reduceLeDiff, Nat.reduceAdd, Nat.reduceSub, reduceIte]
      rfl
    · rintro i ⟨hi, hto⟩
      simp only [EV, Nat.reduceEqDiff, Nat.reduceBEq, Nat.reduceLT, Nat.reduceLeDiff, Nat.reduceAdd, Nat.reduceSub, reduceIte]
      refine cK_cut (fun h => ?_) (fun h => ?_)
      · have h1 : i < a.length := by simpa using h
        have h2 : (i : Int) < (a.length : Int) := by omega
        have g1 : i < b.length := by omega
        have g2 : (i : Int) < (b.length : Int) := by omega
        simp only [nth_map h1, nth_map g1, h2, g2, Ty.z, EV, Nat.reduceEqDiff, Nat.reduceBEq, Nat.reduceLT, Nat.reduceLeDiff, Nat.reduceAdd, Nat.reduceSub, reduceIte]
        refine callK_i (hq a[i] (List.getElem_mem h1) b[i] (List.getElem_mem g1)) ?_
        simp only [EV, Nat.reduceEqDiff, Nat.reduceBEq, Nat.reduceLT, Nat.reduceLeDiff, Nat.reduceAdd, Nat.reduceSub, reduceIte]
        refine cK_cut (fun h => ?_) (fun h => ?_)
        · have hq : q a[i] b[i] = false := by simpa using h
          simp only [EV, Nat.reduceEqDiff, Nat.reduceBEq, Nat.reduceLT, Nat.reduceLeDiff, Nat.reduceAdd, Nat.reduceSub, reduceIte]
          simp only [eqL_no h1 g1 hq, EV, Nat.reduceEqDiff, Nat.reduceBEq, Nat.reduceLT, Nat.reduceLeDiff, Nat.reduceAdd, Nat.reduceSub, reduceIte, evRE, retVC, cellV', evR, nfz, nfzs, nfzss, List.contains_nil, List.contains_cons, Bool.or_false, or_true]
        · have hq : q a[i] b[i] = true := by simpa using h
          simp only [EV, Nat.reduceEqDiff, Nat.reduceBEq, Nat.reduceLT, Nat.reduceLeDiff, Nat.reduceAdd, Nat.reduceSub, reduceIte]
          rw [w64 _ (by omega)]
          exact ⟨i + 1, ⟨by omega, eqTo_succ hto hq⟩, by omega, rfl⟩
      · have h1 : i = a.length := by have : ¬ (i : Int) < a.length := by simpa using h
                                     omega
        subst h1
        simp only [EV, Nat.reduceEqDiff, Nat.reduceBEq, Nat.reduceLT, Nat.reduceLeDiff, Nat.reduceAdd, Nat.reduceSub, reduceIte]
        simp only [eqL_yes hl hto, EV, Nat.reduceEqDiff, Nat.reduceBEq, Nat.reduceLT, Nat.reduceLeDiff, Nat.reduceAdd, Nat.reduceSub, reduceIte, evRE, retVC, cellV', evR, nfz, nfzs, nfzss, List.contains_nil, List.contains_cons, Bool.or_false, or_true]
end Go.AM
namespace Go.AM
set_option linter.unusedVariables false
set_option linter.unusedSimpArgs false
noncomputable def sameTy (x y : Ty) : Bool := ((x.kind == y.kind) && ((x.long == y.long) && ((x.base == y.base) && ((eqL qFd x.fields y.fields) && ((x.owner.toList == y.owner.toList) && (x.name.toList == y.name.toList))))))
def m186 : MC :=
 (.seq (.reg [Xb 2 (.box 40 (.t 0)), Xb 3 (.box 40 (.t 1)), Xb 4 (.asg .fb)]) (.seq (.reg [Xf 5 0 2, Xl 6 1 5, Xf 7 0 3, Xl 8 1 7, Xq 9 (.bin false .eql (.t 6) (.t 8)), Xm 10 9, Xt 11 10 (.fad 1 (.t 2)), Xt 12 10 (.load false 1 (.t 11)), Xt 13 10 (.fad 1 (.t 3)), Xt 14 10 (.load false 1 (.t 13)), Xt 15 10 (.bin false .eql (.t 12) (.t 14)), Xq 16 (.pick (.t 10) (.t 15) .fb), Xm 17 16, Xt 18 17 (.fad
 2 (.t 2)), Xt 19 17 (.load false 1 (.t 18)), Xt 20 17 (.fad 2 (.t 3)), Xt 21 17 (.load false 1 (.t 20)), Xt 22 17 (.bin false .eql (.t 19) (.t 21)), Xq 23 (.pick (.t 17) (.t 22) .fb), Xm 24 23, Xt 25 24 (.fad 3 (.t 2)), Xt 26 24 (.load false 1 (.t 25)), Xt 27 24 (.fad 3 (.t 3)), Xt 28 24 (.load false 1 (.t 27)), XT 29 24 (.call (.fn 226) false [.lend (.t 26), .lend (.t 28)]), Xq 30 (.pick (.t 24)
 (.t 29) .fb), Xm 31 30, Xt 32 31 (.fad 4 (.t 2)), Xt 33 31 (.load false 1 (.t 32)), Xt 34 31 (.fad 4 (.t 3)), Xt 35 31 (.load false 1 (.t 34)), Xt 36 31 (.bin false .eql (.t 33) (.t 35)), Xq 37 (.pick (.t 31) (.t 36) .fb), Xm 38 37, Xt 39 38 (.fad 5 (.t 2)), Xt 40 38 (.load false 1 (.t 39)), Xt 41 38 (.fad 5 (.t 3)), Xt 42 38 (.load false 1 (.t 41)), Xt 43 38 (.bin false .eql (.t 40) (.t 42)), Xq
 44 (.pick (.t 38) (.t 43) .fb), Xa 4 44]) .ret))
set_option maxRecDepth 100000 in
theorem d186 (x y : Ty) (hx : x.sm) (hy : y.sm) : Does Go.Proofs.Tryz.prog 186 [.agg x.z, .agg y.z] false (.v (.bool (sameTy x y))) [.dead, .dead] := by
  unfold Ty.sm at hx hy
  refine does_intro (mc := m186) (N := 45) (rs := [4]) (fx := []) 2 rfl (by decide +kernel) ?_
  simp only [m186, Ty.z, EV, Nat.reduceEqDiff, Nat.reduceBEq, Nat.reduceLT, Nat.reduceLeDiff, Nat.reduceAdd, Nat.reduceSub, reduceIte]
  repeat' (first
    | (refine gK_cut (fun h => ?_) (fun h => ?_) <;> simp only [h, EV, Nat.reduceEqDiff, Nat.reduceBEq, Nat.reduceLT, Nat.reduceLeDiff, Nat.reduceAdd, Nat.reduceSub, reduceIte])
    | (refine cK_cut (fun h => ?_) (fun h => ?_) <;> simp only [h, EV, Nat.reduceEqDiff, Nat.reduceBEq, Nat.reduceLT, Nat.reduceLeDiff, Nat.reduceAdd, Nat.reduceSub, reduceIte])
    | (refine callK_i (d226 _ _ (by omega) (by omega)) ?_ <;> simp only [h, EV, Nat.reduceEqDiff, Nat.reduceBEq, Nat.reduceLT, Nat.reduceLeDiff, Nat.reduceAdd, Nat.reduceSub, reduceIte]))
  all_goals simp only [sameTy, *, Bool.true_and, Bool.false_and, Bool.and_true, Bool.and_false, Bool.and_self, EV, Nat.reduceEqDiff, Nat.reduceBEq, Nat.reduceLT, Nat.reduceLeDiff, Nat.reduceAdd, Nat.reduceSub, reduceIte, evRE, retVC, cellV', evR, nfz, nfzs, nfzss, List.contains_nil, List.contains_cons, Bool.or_false, or_true]
end Go.AM
namespace Go.AM
set_option linter.unusedVariables false
set_option linter.unusedSimpArgs false
def findI {α : Type} (q : α → Bool) (l : List α) : Int := match l.findIdx? q with | some i => i | none => -1
theorem findI_at {α : Type} {q : α → Bool} {l : List α} {i : Nat} (h : i < l.length) (h1 : q l[i] = true) (h2 : ∀ j (hj : j < l.length), j < i → q l[j] = false) : findI q l = i := by
  have : l.findIdx? q = some i := by
    rw [List.findIdx?_eq_some_iff_getElem]
    exact ⟨h, h1, fun j hj => by simp [h2 j (by omega) hj]⟩
  simp [findI, this]
theorem findI_no {α : Type} {q : α → Bool} {l : List α} (h2 : ∀ j (hj : j < l.length), q l[j] = false) : findI q l = -1 := by
  have : l.findIdx? q = none := by
    rw [List.findIdx?_eq_none_iff]
    intro x hx
    obtain ⟨j, hj, rfl⟩ := List.getElem_of_mem hx
    exact h2 j hj
  simp [findI, this]
theorem findI_any {α : Type} {q : α → Bool} {l : List α} : decide (0 ≤ findI q l) = l.any q := by
  unfold findI
  cases h : l.findIdx? q with
  | none =>
    rw [List.findIdx?_eq_none_iff] at h
    have : l.any q = false := by simp only [List.any_eq_false]; intro x hx; simp [h x hx]
    simp [this]
  | some i =>
    rw [List.findIdx?_eq_some_iff_getElem] at h
    obtain ⟨hi, h1, _⟩ := h
    have : l.any q = true := by rw [List.any_eq_true]; exact ⟨l[i], List.getElem_mem hi, h1⟩
    simp only [this]
    simp
def m227 : MC :=
 (.seq (.reg [Xb 4 (.asg (.i 0))]) (.seq (.seq (.reg [Xm 6 0, Xn 7 6, Xq 8 (.mov (.i 0))]) (.block 0 (.loop [0, 1, 7, 8] (.seq (.reg [Xq 9 (.bin false .lss (.t 8) (.t 7))]) (.seq (.cond (.t 9) .skip (.exit 0)) (.seq (.block 1 (.seq (.reg [Xm 10 8, Xa 5 10]) (.seq (.reg [Xm 11 1, Xm 12 0, Xm 13 5, Xi 14 6 12 13, XL 15 6 14, Xb 16 (.call (.t 11) false [.lend (.t 15)])]) (.cond (.t 16) (.seq (.reg [Xm
 17 5, Xa 4 17]) .ret) .skip)))) (.reg [Xq 18 (.bin false .add (.t 8) (.i 1)), Xm 8 18]))))))) (.seq (.reg [Xb 4 (.asg (.i (-1)))]) .ret)))
theorem d227 (l : List Ty) (hl : l.length < 9223372036854775807) (f : Nat) (caps : List AV) (q : Ty → Bool) (hp : plains caps = true) (hb : bares caps = true) (hk : ∀ K, killVs K caps = caps) (hf : ∀ (st : St), frzBs st caps = caps)
    (hq : ∀ s ∈ l, Does Go.Proofs.Tryz.prog f (.agg s.z :: caps) false (.v (.bool (q s))) (.dead :: caps.map fun _ => .dead)) :
    Does Go.Proofs.Tryz.prog 227 [.fsl 6 (l.map Ty.z), .clo f caps] false (.v (.int .i64 (findI q l))) [.dead, .dead] := by
  refine does_intro (mc := m227) (N := 19) (rs := [4]) (fx := []) 2 rfl (by decide +kernel) ?_
  simp only [m227, EV, Nat.reduceEqDiff, Nat.reduceBEq, Nat.reduceLT, Nat.reduceLeDiff, Nat.reduceAdd, Nat.reduceSub, reduceIte]
  refine awp_loop (fun i : Nat => i ≤ l.length ∧ ∀ j (hj : j < l.length), j < i → q l[j] = false) (fun i => stl [(0, .fsl 6 (l.map Ty.z)), (1, .clo f caps), (7, .v (.int .i64 (l.length : Int))), (8, .v (.int .i64 (i : Int)))]) (fun i => l.length - i) 0 ⟨Nat.zero_le _, fun j hj h => absurd h (by omega)⟩ ?_ ?_
  · simp only [hp, hb, hk, EV, Nat.reduceEqDiff, Nat.reduceBEq, Nat.reduceLT, Nat.reduceLeDiff, Nat.reduceAdd, Nat.reduceSub, reduceIte]
    rfl
  · rintro i ⟨hi, hno⟩
    simp only [EV, Nat.reduceEqDiff, Nat.reduceBEq, Nat.reduceLT, Nat.reduceLeDiff, Nat.reduceAdd, Nat.reduceSub, reduceIte]
    refine cK_cut (fun h => ?_) (fun h => ?_)
    · have h1 : i < l.length := by simpa using h
      have h2 : (i : Int) < (l.length : Int) := by omega
      simp only [TyE, nth_map h1, h2, hp, hb, EV, Nat.reduceEqDiff, Nat.reduceBEq, Nat.reduceLT, Nat.reduceLeDiff, Nat.reduceAdd, Nat.reduceSub, reduceIte]
      refine callK_i (hq l[i] (List.getElem_mem h1)) ?_
      simp only [EV, Nat.reduceEqDiff, Nat.reduceBEq, Nat.reduceLT, Nat.reduceLeDiff, Nat.reduceAdd, Nat.reduceSub, reduceIte]
      refine cK_cut (fun h => ?_) (fun h => ?_)
      · simp only [EV, Nat.reduceEqDiff, Nat.reduceBEq, Nat.reduceLT, Nat.reduceLeDiff, Nat.reduceAdd, Nat.reduceSub, reduceIte]
        simp only [findI_at h1 h hno, EV, Nat.reduceEqDiff, Nat.reduceBEq, Nat.reduceLT, Nat.reduceLeDiff, Nat.reduceAdd, Nat.reduceSub, reduceIte, evRE, retVC, cellV', evR, nfz, nfzs, nfzss, List.contains_nil, List.contains_cons, Bool.or_false, or_true]
      · simp only [hp, hb, hk, EV, Nat.reduceEqDiff, Nat.reduceBEq, Nat.reduceLT, Nat.reduceLeDiff, Nat.reduceAdd, Nat.reduceSub, reduceIte]
        rw [w64 _ (by omega)]
        refine ⟨i + 1, ⟨by omega, ?_⟩, by omega, rfl⟩
        intro j hj hji
        by_cases e : j = i
        · subst e; exact h
        · exact hno j hj (by omega)
    · have h1 : i = l.length := by have : ¬ (i : Int) < l.length := by simpa using h
                                   omega
      subst h1
      simp only [EV, Nat.reduceEqDiff, Nat.reduceBEq, Nat.reduceLT, Nat.reduceLeDiff, Nat.reduceAdd, Nat.reduceSub, reduceIte]
      simp only [findI_no (fun j hj => hno j hj hj), EV, Nat.reduceEqDiff, Nat.reduceBEq, Nat.reduceLT, Nat.reduceLeDiff, Nat.reduceAdd, Nat.reduceSub, reduceIte, evRE, retVC, cellV', evR, nfz, nfzs, nfzss, List.contains_nil, List.contains_cons, Bool.or_false, or_true]
def m187 : MC :=
 (.seq (.reg [Xb 4 (.asg .fb)]) (.seq (.reg [Xm 5 0, Xm 6 1, Xb 7 (.call (.fn 227) false [.lend (.t 5), .lend (.t 6)]), Xq 8 (.bin false .geq (.t 7) (.i 0)), Xa 4 8]) .ret))
theorem d187 (l : List Ty) (hl : l.length < 9223372036854775807) (f : Nat) (caps : List AV) (q : Ty → Bool) (hp : plains caps = true) (hb : bares caps = true) (hk : ∀ K, killVs K caps = caps) (hf : ∀ (st : St), frzBs st caps = caps)
    (hq : ∀ s ∈ l, Does Go.Proofs.Tryz.prog f (.agg s.z :: caps) false (.v (.bool (q s))) (.dead :: caps.map fun _ => .dead)) :
    Does Go.Proofs.Tryz.prog 187 [.fsl 6 (l.map Ty.z), .clo f caps] false (.v (.bool (l.any q))) [.dead, .dead] := by
  refine does_intro (mc := m187) (N := 9) (rs := [4]) (fx := []) 2 rfl (by decide +kernel) ?_
  simp only [m187, hp, hb, hk, hf, EV, Nat.reduceEqDiff, Nat.reduceBEq, Nat.reduceLT, Nat.reduceLeDiff, Nat.reduceAdd, Nat.reduceSub, reduceIte]
  refine callK_i (d227 l hl f caps q hp hb hk hf hq) ?_
  simp only [EV, Nat.reduceEqDiff, Nat.reduceBEq, Nat.reduceLT, Nat.reduceLeDiff, Nat.reduceAdd, Nat.reduceSub, reduceIte]
  simp only [findI_any, EV, Nat.reduceEqDiff, Nat.reduceBEq, Nat.reduceLT, Nat.reduceLeDiff, Nat.reduceAdd, Nat.reduceSub, reduceIte, evRE, retVC, cellV', evR, nfz, nfzs, nfzss, List.contains_nil, List.contains_cons, Bool.or_false, or_true]
def m285 : MC :=
 (.seq (.reg [Xb 4 (.asg (.i 0))]) (.seq (.seq (.reg [Xm 6 0, Xn 7 6, Xq 8 (.mov (.i 0))]) (.block 0 (.loop [0, 1, 7, 8] (.seq (.reg [Xq 9 (.bin false .lss (.t 8) (.t 7))]) (.seq (.cond (.t 9) .skip (.exit 0)) (.seq (.block 1 (.seq (.reg [Xm 10 8, Xa 5 10]) (.seq (.reg [Xm 11 1, Xm 12 0, Xm 13 5, Xi 14 3 12 13, XL 15 3 14, Xb 16 (.call (.t 11) false [.lend (.t 15)])]) (.cond (.t 16) (.seq (.reg [Xm
 17 5, Xa 4 17]) .ret) .skip)))) (.reg [Xq 18 (.bin false .add (.t 8) (.i 1)), Xm 8 18]))))))) (.seq (.reg [Xb 4 (.asg (.i (-1)))]) .ret)))
theorem d285 (l : List Fd) (hl : l.length < 9223372036854775807) (f : Nat) (caps : List AV) (q : Fd → Bool) (hp : plains caps = true) (hb : bares caps = true) (hk : ∀ K, killVs K caps = caps) (hf : ∀ (st : St), frzBs st caps = caps)
    (hq : ∀ s ∈ l, Does Go.Proofs.Tryz.prog f (.agg s.z :: caps) false (.v (.bool (q s))) (.dead :: caps.map fun _ => .dead)) :
    Does Go.Proofs.Tryz.prog 285 [.fsl 3 (l.map Fd.z), .clo f caps] false (.v (.int .i64 (findI q l))) [.dead, .dead] := by
  refine does_intro (mc := m285) (N := 19) (rs := [4]) (fx := []) 2 rfl (by decide +kernel) ?_
  simp only [m285, EV, Nat.reduceEqDiff, Nat.reduceBEq, Nat.reduceLT, Nat.reduceLeDiff, Nat.reduceAdd, Nat.reduceSub, reduceIte]
  refine awp_loop (fun i : Nat => i ≤ l.length ∧ ∀ j (hj : j < l.length), j < i → q l[j] = false) (fun i => stl [(0, .fsl 3 (l.map Fd.z)), (1, .clo f caps), (7, .v (.int .i64 (l.length : Int))), (8, .v (.int .i64 (i : Int)))]) (fun i => l.length - i) 0 ⟨Nat.zero_le _, fun j hj h => absurd h (by omega)⟩ ?_ ?_
  · simp only [hp, hb, hk, EV, Nat.reduceEqDiff, Nat.reduceBEq, Nat.reduceLT, Nat.reduceLeDiff, Nat.reduceAdd, Nat.reduceSub, reduceIte]
    rfl
  · rintro i ⟨hi, hno⟩
    simp only [EV, Nat.reduceEqDiff, Nat.reduceBEq, Nat.reduceLT, Nat.reduceLeDiff, Nat.reduceAdd, Nat.reduceSub, reduceIte]
    refine cK_cut (fun h => ?_) (fun h => ?_)
    · have h1 : i < l.length := by simpa using h
      have h2 : (i : Int) < (l.length : Int) := by omega
      simp only [FdE, nth_map h1, h2, hp, hb, EV, Nat.reduceEqDiff, Nat.reduceBEq, Nat.reduceLT, Nat.reduceLeDiff, Nat.reduceAdd, Nat.reduceSub, reduceIte]
      refine callK_i (hq l[i] (List.getElem_mem h1)) ?_
      simp only [EV, Nat.reduceEqDiff, Nat.reduceBEq, Nat.reduceLT, Nat.reduceLeDiff, Nat.reduceAdd, Nat.reduceSub, reduceIte]
      refine cK_cut (fun h => ?_) (fun h => ?_)
      · simp only [EV, Nat.reduceEqDiff, Nat.reduceBEq, Nat.reduceLT, Nat.reduceLeDiff, Nat.reduceAdd, Nat.reduceSub, reduceIte]
        simp only [findI_at h1 h hno, EV, Nat.reduceEqDiff, Nat.reduceBEq, Nat.reduceLT, Nat.reduceLeDiff, Nat.reduceAdd, Nat.reduceSub, reduceIte, evRE, retVC, cellV', evR, nfz, nfzs, nfzss, List.contains_nil, List.contains_cons, Bool.or_false, or_true]
      · simp only [hp, hb, hk, EV, Nat.reduceEqDiff, Nat.reduceBEq, Nat.reduceLT, Nat.reduceLeDiff, Nat.reduceAdd, Nat.reduceSub, reduceIte]
        rw [w64 _ (by omega)]
        refine ⟨i + 1, ⟨by omega, ?_⟩, by omega, rfl⟩
        intro j hj hji
        by_cases e : j = i
        · subst e; exact h
        · exact hno j hj (by omega)
    · have h1 : i = l.length := by have : ¬ (i : Int) < l.length := by simpa using h
                                   omega
      subst h1
      simp only [EV, Nat.reduceEqDiff, Nat.reduceBEq, Nat.reduceLT, Nat.reduceLeDiff, Nat.reduceAdd, Nat.reduceSub, reduceIte]
      simp only [findI_no (fun j hj => hno j hj hj), EV, Nat.reduceEqDiff, Nat.reduceBEq, Nat.reduceLT, Nat.reduceLeDiff, Nat.reduceAdd, Nat.reduceSub, reduceIte, evRE, retVC, cellV', evR, nfz, nfzs, nfzss, List.contains_nil, List.contains_cons, Bool.or_false, or_true]
def m266 : MC :=
 (.seq (.reg [Xb 4 (.asg .fb)]) (.seq (.reg [Xm 5 0, Xm 6 1, Xb 7 (.call (.fn 285) false [.lend (.t 5), .lend (.t 6)]), Xq 8 (.bin false .geq (.t 7) (.i 0)), Xa 4 8]) .ret))
theorem d266 (l : List Fd) (hl : l.length < 9223372036854775807) (f : Nat) (caps : List AV) (q : Fd → Bool) (hp : plains caps = true) (hb : bares caps = true) (hk : ∀ K, killVs K caps = caps) (hf : ∀ (st : St), frzBs st caps = caps)
    (hq : ∀ s ∈ l, Does Go.Proofs.Tryz.prog f (.agg s.z :: caps) false (.v (.bool (q s))) (.dead :: caps.map fun _ => .dead)) :
    Does Go.Proofs.Tryz.prog 266 [.fsl 3 (l.map Fd.z), .clo f caps] false (.v (.bool (l.any q))) [.dead, .dead] := by
  refine does_intro (mc := m266) (N := 9) (rs := [4]) (fx := []) 2 rfl (by decide +kernel) ?_
  simp only [m266, hp, hb, hk, hf, EV, Nat.reduceEqDiff, Nat.reduceBEq, Nat.reduceLT, Nat.reduceLeDiff, Nat.reduceAdd, Nat.reduceSub, reduceIte]
  refine callK_i (d285 l hl f caps q hp hb hk hf hq) ?_
  simp only [EV, Nat.reduceEqDiff, Nat.reduceBEq, Nat.reduceLT, Nat.reduceLeDiff, Nat.reduceAdd, Nat.reduceSub, reduceIte]
  simp only [findI_any, EV, Nat.reduceEqDiff, Nat.reduceBEq, Nat.reduceLT, Nat.reduceLeDiff, Nat.reduceAdd, Nat.reduceSub, reduceIte, evRE, retVC, cellV', evR, nfz, nfzs, nfzss, List.contains_nil, List.contains_cons, Bool.or_false, or_true]
def tyNm (x o : Ty) : Bool := o.name.toList == x.name.toList && o.owner.toList == x.owner.toList
def fdNm (x o : Fd) : Bool := o.name.toList == x.name.toList
def m188 : MC :=
 (.seq (.reg [Xb 2 (.box 40 (.t 0)), Xb 3 (.asg .fb)]) (.seq (.reg [Xf 4 5 2, Xl 5 1 4, Xf 6 5 1, Xl 7 1 6, Xq 8 (.bin false .eql (.t 5) (.t 7)), Xm 9 8, Xt 10 9 (.fad 4 (.t 2)), Xt 11 9 (.load false 1 (.t 10)), Xt 12 9 (.fad 4 (.t 1)), Xt 13 9 (.load false 1 (.t 12)), Xt 14 9 (.bin false .eql (.t 11) (.t 13)), Xq 15 (.pick (.t 9) (.t 14) .fb), Xa 3 15]) .ret))
theorem d188 (o x : Ty) : Does Go.Proofs.Tryz.prog 188 [.agg o.z, .fptr x.z] false (.v (.bool (tyNm x o))) [.dead, .dead] := by
  refine does_intro (mc := m188) (N := 16) (rs := [3]) (fx := []) 2 rfl (by decide +kernel) ?_
  simp only [m188, Ty.z, EV, Nat.reduceEqDiff, Nat.reduceBEq, Nat.reduceLT, Nat.reduceLeDiff, Nat.reduceAdd, Nat.reduceSub, reduceIte]
  repeat' (first
    | (refine gK_cut (fun h => ?_) (fun h => ?_) <;> simp only [h, EV, Nat.reduceEqDiff, Nat.reduceBEq, Nat.reduceLT, Nat.reduceLeDiff, Nat.reduceAdd, Nat.reduceSub, reduceIte])
    | (refine cK_cut (fun h => ?_) (fun h => ?_) <;> simp only [h, EV, Nat.reduceEqDiff, Nat.reduceBEq, Nat.reduceLT, Nat.reduceLeDiff, Nat.reduceAdd, Nat.reduceSub, reduceIte]))
  all_goals simp only [tyNm, h, Bool.true_and, Bool.false_and, EV, Nat.reduceEqDiff, Nat.reduceBEq, Nat.reduceLT, Nat.reduceLeDiff, Nat.reduceAdd, Nat.reduceSub, reduceIte, evRE, retVC, cellV', evR, nfz, nfzs, nfzss, List.contains_nil, List.contains_cons, Bool.or_false, or_true]
def m267 : MC :=
 (.seq (.reg [Xb 2 (.box 97 (.t 0)), Xb 3 (.asg .fb)]) (.seq (.reg [Xf 4 0 2, Xl 5 1 4, Xf 6 0 1, Xl 7 1 6, Xq 8 (.bin false .eql (.t 5) (.t 7)), Xa 3 8]) .ret))
theorem d267 (o x : Fd) : Does Go.Proofs.Tryz.prog 267 [.agg o.z, .fptr x.z] false (.v (.bool (fdNm x o))) [.dead, .dead] := by
  refine does_intro (mc := m267) (N := 9) (rs := [3]) (fx := []) 2 rfl (by decide +kernel) ?_
  simp only [m267, Fd.z, EV, Nat.reduceEqDiff, Nat.reduceBEq, Nat.reduceLT, Nat.reduceLeDiff, Nat.reduceAdd, Nat.reduceSub, reduceIte]
  simp only [fdNm, EV, Nat.reduceEqDiff, Nat.reduceBEq, Nat.reduceLT, Nat.reduceLeDiff, Nat.reduceAdd, Nat.reduceSub, reduceIte, evRE, retVC, cellV', evR, nfz, nfzs, nfzss, List.contains_nil, List.contains_cons, Bool.or_false, or_true]
def baseTs : List Ty := [⟨1, 0, -1, [], ⟨#[]⟩, ⟨#[73, 78, 84]⟩⟩, ⟨2, 0, -1, [], ⟨#[]⟩, ⟨#[66, 79, 79, 76]⟩⟩, ⟨3, 0, -1, [], ⟨#[]⟩, ⟨#[67, 72, 65, 82]⟩⟩]
def m184 : MC :=
 (.seq (.reg [Xb 0 (.asg (.nils 40 6))]) (.seq (.reg [Xb 1 (.build [0, 2, 5] [0, 2, 5] [1, 1, 1] [.i, .i, .i, .s 97 3, .z, .z] [.i 1, .i (-1), .z #[73, 78, 84]]), Xb 2 (.build [0, 2, 5] [0, 2, 5] [1, 1, 1] [.i, .i, .i, .s 97 3, .z, .z] [.i 2, .i (-1), .z #[66, 79, 79, 76]]), Xb 3 (.build [0, 2, 5] [0, 2, 5] [1, 1, 1] [.i, .i, .i, .s 97 3, .z, .z] [.i 3, .i (-1), .z #[67, 72, 65, 82]]), Xb 4 (.bsl
 40 6 [.t 1, .t 2, .t 3]), Xa 0 4]) .ret))
theorem d184 : Does Go.Proofs.Tryz.prog 184 [] false (.usl 40 6 (baseTs.map Ty.o)) [] := by
  refine does_intro (mc := m184) (N := 5) (rs := [0]) (fx := []) 0 rfl (by decide +kernel) ?_
  simp only [m184, baseTs, Ty.o, EV, Nat.reduceEqDiff, Nat.reduceBEq, Nat.reduceLT, Nat.reduceLeDiff, Nat.reduceAdd, Nat.reduceSub, reduceIte]
  simp only [EV, Nat.reduceEqDiff, Nat.reduceBEq, Nat.reduceLT, Nat.reduceLeDiff, Nat.reduceAdd, Nat.reduceSub, reduceIte, evRE, retVC, cellV', evR, nfz, nfzs, nfzss, List.contains_nil, List.contains_cons, Bool.or_false, or_true]
def m182 : MC :=
 (.seq (.reg [Xb 0 (.asg (.nils 40 6))]) (.seq (.reg [Xb 1 (.build [0, 2, 5] [0, 2, 5] [1, 1, 1] [.i, .i, .i, .s 97 3, .z, .z] [.i 1, .i (-1), .z #[73, 78, 84]]), Xb 2 (.build [0, 2, 5] [0, 2, 5] [1, 1, 1] [.i, .i, .i, .s 97 3, .z, .z] [.i 2, .i (-1), .z #[66, 79, 79, 76]]), Xb 3 (.build [0, 2, 5] [0, 2, 5] [1, 1, 1] [.i, .i, .i, .s 97 3, .z, .z] [.i 3, .i (-1), .z #[67, 72, 65, 82]]), Xb 4 (.bsl
 40 6 [.t 1, .t 2, .t 3]), Xa 0 4]) .ret))
theorem d182 : Does Go.Proofs.Tryz.prog 182 [] false (.usl 40 6 (baseTs.map Ty.o)) [] := by
  refine does_intro (mc := m182) (N := 5) (rs := [0]) (fx := []) 0 rfl (by decide +kernel) ?_
  simp only [m182, baseTs, Ty.o, EV, Nat.reduceEqDiff, Nat.reduceBEq, Nat.reduceLT, Nat.reduceLeDiff, Nat.reduceAdd, Nat.reduceSub, reduceIte]
  simp only [EV, Nat.reduceEqDiff, Nat.reduceBEq, Nat.reduceLT, Nat.reduceLeDiff, Nat.reduceAdd, Nat.reduceSub, reduceIte, evRE, retVC, cellV', evR, nfz, nfzs, nfzss, List.contains_nil, List.contains_cons, Bool.or_false, or_true]
def isNum (l : List Ty) (n : Int) : Bool := decide (0 ≤ n) && decide (n ≤ (l.length : Int) - 1)
def kd (l : List Ty) (n : Int) : Int := match l[n.toNat]? with
  | some t => t.kind
  | none => 0
theorem isNum_lt {l : List Ty} {n : Int} (h : isNum l n = true) : 0 ≤ n ∧ n < l.length ∧ ∃ hn : n.toNat < l.length, kd l n = l[n.toNat].kind := by
  simp only [isNum, Bool.and_eq_true, decide_eq_true_eq] at h
  have hn : n.toNat < l.length := by omega
  exact ⟨h.1, by omega, hn, by simp [kd, hn]⟩
def m61 : MC :=
 (.seq (.reg [Xb 4 (.asg .fb)]) (.seq (.reg [Xm 5 1, Xm 6 0, Xn 7 6, Xq 8 (.bin false .sub (.t 7) (.i 1)), Xb 9 (.call (.fn 78) false [.lend (.t 5), .lend (.i 0), .lend (.t 8)]), Xa 4 9]) .ret))
theorem d61 (l : List Ty) (n : Int) (hl : (l.length : Int) ≤ 1048576) : Does Go.Proofs.Tryz.prog 61 [.fsl 6 (l.map Ty.z), .v (.int .i64 n)] false (.v (.bool (isNum l n))) [.dead, .dead] := by
  refine does_intro (mc := m61) (N := 10) (rs := [4]) (fx := []) 2 rfl (by decide +kernel) ?_
  simp only [m61, EV, Nat.reduceEqDiff, Nat.reduceBEq, Nat.reduceLT, Nat.reduceLeDiff, Nat.reduceAdd, Nat.reduceSub, reduceIte]
  rw [w64 _ (by omega)]
  refine callK_i (d78 _ _ _) ?_
  simp only [EV, Nat.reduceEqDiff, Nat.reduceBEq, Nat.reduceLT, Nat.reduceLeDiff, Nat.reduceAdd, Nat.reduceSub, reduceIte]
  simp only [isNum, EV, Nat.reduceEqDiff, Nat.reduceBEq, Nat.reduceLT, Nat.reduceLeDiff, Nat.reduceAdd, Nat.reduceSub, reduceIte, evRE, retVC, cellV', evR, nfz, nfzs, nfzss, List.contains_nil, List.contains_cons, Bool.or_false, or_true]
def isRec (l : List Ty) (n : Int) : Bool := isNum l n && kd l n == 5
def m56 : MC :=
 (.seq (.reg [Xb 4 (.asg .fb)]) (.seq (.reg [Xm 5 0, Xm 6 1, Xb 7 (.call (.fn 61) false [.lend (.t 5), .lend (.t 6)]), Xm 8 7, Xt 9 8 (.mov (.t 0)), Xt 10 8 (.mov (.t 1)), Xt 11 8 (.iad 6 (.t 9) (.t 10)), Xt 12 8 (.fad 0 (.t 11)), Xt 13 8 (.load false 1 (.t 12)), Xt 14 8 (.bin false .eql (.t 13) (.i 5)), Xq 15 (.pick (.t 8) (.t 14) .fb), Xa 4 15]) .ret))
set_option maxRecDepth 100000 in
theorem d56 (l : List Ty) (n : Int) (hl : (l.length : Int) ≤ 1048576) : Does Go.Proofs.Tryz.prog 56 [.fsl 6 (l.map Ty.z), .v (.int .i64 n)] false (.v (.bool (isRec l n))) [.dead, .dead] := by
  refine does_intro (mc := m56) (N := 16) (rs := [4]) (fx := []) 2 rfl (by decide +kernel) ?_
  simp only [m56, EV, Nat.reduceEqDiff, Nat.reduceBEq, Nat.reduceLT, Nat.reduceLeDiff, Nat.reduceAdd, Nat.reduceSub, reduceIte]
  refine callK_i (d61 l n hl) ?_
  simp only [EV, Nat.reduceEqDiff, Nat.reduceBEq, Nat.reduceLT, Nat.reduceLeDiff, Nat.reduceAdd, Nat.reduceSub, reduceIte]
  rcases e : isNum l n with _ | _
  · simp only [EV, Nat.reduceEqDiff, Nat.reduceBEq, Nat.reduceLT, Nat.reduceLeDiff, Nat.reduceAdd, Nat.reduceSub, reduceIte]
    simp only [isRec, e, Bool.false_and, EV, Nat.reduceEqDiff, Nat.reduceBEq, Nat.reduceLT, Nat.reduceLeDiff, Nat.reduceAdd, Nat.reduceSub, reduceIte, evRE, retVC, cellV', evR, nfz, nfzs, nfzss, List.contains_nil, List.contains_cons, Bool.or_false, or_true]
  · obtain ⟨h0, h1, hn, hk⟩ := isNum_lt e
    simp only [h0, h1, nth_map hn, Ty.z, EV, Nat.reduceEqDiff, Nat.reduceBEq, Nat.reduceLT, Nat.reduceLeDiff, Nat.reduceAdd, Nat.reduceSub, reduceIte]
    simp only [isRec, e, hk, Bool.true_and, EV, Nat.reduceEqDiff, Nat.reduceBEq, Nat.reduceLT, Nat.reduceLeDiff, Nat.reduceAdd, Nat.reduceSub, reduceIte, evRE, retVC, cellV', evR, nfz, nfzs, nfzss, List.contains_nil, List.contains_cons, Bool.or_false, or_true]
def kindIn (l : List Ty) (n a b : Int) : Bool := isNum l n && (kd l n == a || kd l n == b)
def m59 : MC :=
 (.seq (.reg [Xb 8 (.asg .fb)]) (.seq (.reg [Xm 9 1, Xm 10 0, Xn 11 10, Xq 12 (.bin false .sub (.t 11) (.i 1)), Xb 13 (.call (.fn 72) false [.lend (.t 9), .lend (.i 0), .lend (.t 12)]), Xm 14 13, Xt 15 14 (.mov (.t 0)), Xt 16 14 (.mov (.t 1)), Xt 17 14 (.iad 6 (.t 15) (.t 16)), Xt 18 14 (.fad 0 (.t 17)), Xt 19 14 (.load false 1 (.t 18)), Xt 20 14 (.mov (.t 2)), Xt 21 14 (.bin false .eql (.t 19) (.t
 20)), Xt 22 14 (.mov (.t 21)), Xu 23 22 (.mov (.t 0)), Xu 24 22 (.mov (.t 1)), Xu 25 22 (.iad 6 (.t 23) (.t 24)), Xu 26 22 (.fad 0 (.t 25)), Xu 27 22 (.load false 1 (.t 26)), Xu 28 22 (.mov (.t 3)), Xu 29 22 (.bin false .eql (.t 27) (.t 28)), Xt 30 14 (.pick (.t 22) .tb (.t 29)), Xq 31 (.pick (.t 14) (.t 30) .fb), Xa 8 31]) .ret))
set_option maxRecDepth 100000 in
theorem d59 (l : List Ty) (n a b : Int) (hl : (l.length : Int) ≤ 1048576) : Does Go.Proofs.Tryz.prog 59 [.fsl 6 (l.map Ty.z), .v (.int .i64 n), .v (.int .i64 a), .v (.int .i64 b)] false (.v (.bool (kindIn l n a b))) [.dead, .dead, .dead, .dead] := by
  refine does_intro (mc := m59) (N := 32) (rs := [8]) (fx := []) 4 rfl (by decide +kernel) ?_
  simp only [m59, EV, Nat.reduceEqDiff, Nat.reduceBEq, Nat.reduceLT, Nat.reduceLeDiff, Nat.reduceAdd, Nat.reduceSub, reduceIte]
  rw [w64 _ (by omega)]
  refine callK_i (d72 _ _ _) ?_
  have en : isNum l n = (decide (0 ≤ n) && decide (n ≤ (l.length : Int) - 1)) := rfl
  rw [← en]
  simp only [EV, Nat.reduceEqDiff, Nat.reduceBEq, Nat.reduceLT, Nat.reduceLeDiff, Nat.reduceAdd, Nat.reduceSub, reduceIte]
  rcases e : isNum l n with _ | _
  · simp only [EV, Nat.reduceEqDiff, Nat.reduceBEq, Nat.reduceLT, Nat.reduceLeDiff, Nat.reduceAdd, Nat.reduceSub, reduceIte]
    simp only [kindIn, e, Bool.false_and, EV, Nat.reduceEqDiff, Nat.reduceBEq, Nat.reduceLT, Nat.reduceLeDiff, Nat.reduceAdd, Nat.reduceSub, reduceIte, evRE, retVC, cellV', evR, nfz, nfzs, nfzss, List.contains_nil, List.contains_cons, Bool.or_false, or_true]
  · obtain ⟨h0, h1, hn, hk⟩ := isNum_lt e
    simp only [h0, h1, nth_map hn, Ty.z, EV, Nat.reduceEqDiff, Nat.reduceBEq, Nat.reduceLT, Nat.reduceLeDiff, Nat.reduceAdd, Nat.reduceSub, reduceIte]
    refine gK_cut (fun h => ?_) (fun h => ?_)
    · simp only [h, EV, Nat.reduceEqDiff, Nat.reduceBEq, Nat.reduceLT, Nat.reduceLeDiff, Nat.reduceAdd, Nat.reduceSub, reduceIte]
      simp only [kindIn, e, hk, h, Bool.true_and, Bool.true_or, EV, Nat.reduceEqDiff, Nat.reduceBEq, Nat.reduceLT, Nat.reduceLeDiff, Nat.reduceAdd, Nat.reduceSub, reduceIte, evRE, retVC, cellV', evR, nfz, nfzs, nfzss, List.contains_nil, List.contains_cons, Bool.or_false, or_true]
    · simp only [h, h0, h1, nth_map hn, Ty.z, EV, Nat.reduceEqDiff, Nat.reduceBEq, Nat.reduceLT, Nat.reduceLeDiff, Nat.reduceAdd, Nat.reduceSub, reduceIte]
      simp only [kindIn, e, hk, h, Bool.true_and, Bool.false_or, EV, Nat.reduceEqDiff, Nat.reduceBEq, Nat.reduceLT, Nat.reduceLeDiff, Nat.reduceAdd, Nat.reduceSub, reduceIte, evRE, retVC, cellV', evR, nfz, nfzs, nfzss, List.contains_nil, List.contains_cons, Bool.or_false, or_true]
noncomputable def named (t : Ty) : Bool := nameOk t.name && nameOk t.owner || (t.name.toList == (⟨#[]⟩ : ByteArray).toList && t.owner.toList == (⟨#[]⟩ : ByteArray).toList)
def m228 : MC :=
 (.seq (.reg [Xb 1 (.box 40 (.t 0)), Xb 2 (.asg .fb)]) (.seq (.reg [Xf 3 5 1, Xl 4 1 3, Xb 5 (.call (.fn 141) false [.lend (.t 4)]), Xm 6 5, Xt 7 6 (.fad 4 (.t 1)), Xt 8 6 (.load false 1 (.t 7)), XT 9 6 (.call (.fn 141) false [.lend (.t 8)]), Xq 10 (.pick (.t 6) (.t 9) .fb), Xm 11 10, Xu 12 11 (.fad 5 (.t 1)), Xu 13 11 (.load false 1 (.t 12)), Xu 14 11 (.bin false .eql (.t 13) (.z #[])), Xu 15 11
 (.mov (.t 14)), Xt 16 15 (.fad 4 (.t 1)), Xt 17 15 (.load false 1 (.t 16)), Xt 18 15 (.bin false .eql (.t 17) (.z #[])), Xu 19 11 (.pick (.t 15) (.t 18) .fb), Xq 20 (.pick (.t 11) .tb (.t 19)), Xa 2 20]) .ret))
set_option maxRecDepth 100000 in
theorem d228 (t : Ty) (ht : t.sm) : Does Go.Proofs.Tryz.prog 228 [.agg t.z] false (.v (.bool (named t))) [.dead] := by
  unfold Ty.sm at ht
  refine does_intro (mc := m228) (N := 21) (rs := [2]) (fx := []) 1 rfl (by decide +kernel) ?_
  simp only [m228, Ty.z, EV, Nat.reduceEqDiff, Nat.reduceBEq, Nat.reduceLT, Nat.reduceLeDiff, Nat.reduceAdd, Nat.reduceSub, reduceIte]
  refine callK_i (d141 _ (by omega)) ?_
  simp only [EV, Nat.reduceEqDiff, Nat.reduceBEq, Nat.reduceLT, Nat.reduceLeDiff, Nat.reduceAdd, Nat.reduceSub, reduceIte]
  repeat' (first
    | (refine gK_cut (fun h => ?_) (fun h => ?_) <;> simp only [h, EV, Nat.reduceEqDiff, Nat.reduceBEq, Nat.reduceLT, Nat.reduceLeDiff, Nat.reduceAdd, Nat.reduceSub, reduceIte])
    | (refine cK_cut (fun h => ?_) (fun h => ?_) <;> simp only [h, EV, Nat.reduceEqDiff, Nat.reduceBEq, Nat.reduceLT, Nat.reduceLeDiff, Nat.reduceAdd, Nat.reduceSub, reduceIte])
    | (refine callK_i (d141 _ (by omega)) ?_ <;> simp only [h, EV, Nat.reduceEqDiff, Nat.reduceBEq, Nat.reduceLT, Nat.reduceLeDiff, Nat.reduceAdd, Nat.reduceSub, reduceIte]))
  all_goals simp only [named, *, Bool.true_and, Bool.false_and, Bool.and_true, Bool.and_false, Bool.true_or, Bool.false_or, Bool.or_false, Bool.or_true, EV, Nat.reduceEqDiff, Nat.reduceBEq, Nat.reduceLT, Nat.reduceLeDiff, Nat.reduceAdd, Nat.reduceSub, reduceIte, evRE, retVC, cellV', evR, nfz, nfzs, nfzss, List.contains_nil, List.contains_cons, Bool.or_false, or_true]
end Go.AM
namespace Go.AM
set_option linter.unusedVariables false
set_option linter.unusedSimpArgs false
def iv (n : Int) : List AV := [.v (.int .i64 n)]
theorem iv_frz : ∀ l : List Int, frzRows (l.map iv) = l.map iv
  | [] => rfl
  | n :: l => by simp only [List.map_cons, frzRows, iv_frz l]; rfl
theorem iv_nfz : ∀ l : List Int, nfzss (l.map iv) = true
  | [] => rfl
  | n :: l => by simp only [List.map_cons, nfzss, iv_nfz l, Bool.and_true]; rfl
theorem iv_stor {l : List Int} {a b : Nat} : ∀ c ∈ ((l.map iv).drop a).take b, ∀ u ∈ c, storP u = true := by
  intro c hc u hu
  have := List.mem_of_mem_drop (List.mem_of_mem_take hc)
  obtain ⟨n, _, rfl⟩ := List.mem_map.1 this
  simp only [iv, List.mem_singleton] at hu
  subst hu
  rfl
theorem iv_stor1 {l : List Int} : ∀ c ∈ l.map iv, ∀ u ∈ c, storP u = true := by
  intro c hc
  obtain ⟨n, _, rfl⟩ := List.mem_map.1 hc
  intro u hu
  simp only [iv, List.mem_singleton] at hu
  subst hu
  rfl
theorem iv_stor0 {l : List Int} {k : Nat} : ∀ c ∈ (l.map iv).take k, ∀ u ∈ c, storP u = true := fun c hc => iv_stor1 c (List.mem_of_mem_take hc)
def m231 : MC :=
 (.seq (.reg [Xb 4 (.asg (.i 0))]) (.seq (.seq (.reg [Xm 6 0, Xn 7 6, Xq 8 (.mov (.i 0))]) (.block 0 (.loop [0, 1, 7, 8] (.seq (.reg [Xq 9 (.bin false .lss (.t 8) (.t 7))]) (.seq (.cond (.t 9) .skip (.exit 0)) (.seq (.block 1 (.seq (.reg [Xm 10 8, Xa 5 10]) (.seq (.reg [Xm 11 1, Xm 12 0, Xm 13 5, Xi 14 1 12 13, Xl 15 1 14, Xq 16 (.bin false .eql (.t 11) (.t 15))]) (.cond (.t 16) (.seq (.reg [Xm 17
 5, Xa 4 17]) .ret) .skip)))) (.reg [Xq 18 (.bin false .add (.t 8) (.i 1)), Xm 8 18]))))))) (.seq (.reg [Xb 4 (.asg (.i (-1)))]) .ret)))
theorem d231 (l : List Int) (n : Int) (hl : l.length < 9223372036854775807) : Does Go.Proofs.Tryz.prog 231 [.fsl 1 (l.map iv), .v (.int .i64 n)] false (.v (.int .i64 (findI (fun x => n == x) l))) [.dead, .dead] := by
  refine does_intro (mc := m231) (N := 19) (rs := [4]) (fx := []) 2 rfl (by decide +kernel) ?_
  simp only [m231, EV, Nat.reduceEqDiff, Nat.reduceBEq, Nat.reduceLT, Nat.reduceLeDiff, Nat.reduceAdd, Nat.reduceSub, reduceIte]
  refine awp_loop (fun i : Nat => i ≤ l.length ∧ ∀ j (hj : j < l.length), j < i → (n == l[j]) = false) (fun i => stl [(0, .fsl 1 (l.map iv)), (1, .v (.int .i64 n)), (7, .v (.int .i64 (l.length : Int))), (8, .v (.int .i64 (i : Int)))]) (fun i => l.length - i) 0 ⟨Nat.zero_le _, fun j hj h => absurd h (by omega)⟩ ?_ ?_
  · simp only [EV, Nat.reduceEqDiff, Nat.reduceBEq, Nat.reduceLT, Nat.reduceLeDiff, Nat.reduceAdd, Nat.reduceSub, reduceIte]
    rfl
  · rintro i ⟨hi, hno⟩
    simp only [EV, Nat.reduceEqDiff, Nat.reduceBEq, Nat.reduceLT, Nat.reduceLeDiff, Nat.reduceAdd, Nat.reduceSub, reduceIte]
    refine cK_cut (fun h => ?_) (fun h => ?_)
    · have h1 : i < l.length := by simpa using h
      have h2 : (i : Int) < (l.length : Int) := by omega
      simp only [nth_map h1, h2, iv, EV, Nat.reduceEqDiff, Nat.reduceBEq, Nat.reduceLT, Nat.reduceLeDiff, Nat.reduceAdd, Nat.reduceSub, reduceIte]
      refine cK_cut (fun h => ?_) (fun h => ?_)
      · simp only [EV, Nat.reduceEqDiff, Nat.reduceBEq, Nat.reduceLT, Nat.reduceLeDiff, Nat.reduceAdd, Nat.reduceSub, reduceIte]
        simp only [findI_at h1 h hno, EV, Nat.reduceEqDiff, Nat.reduceBEq, Nat.reduceLT, Nat.reduceLeDiff, Nat.reduceAdd, Nat.reduceSub, reduceIte, evRE, retVC, cellV', evR, nfz, nfzs, nfzss, List.contains_nil, List.contains_cons, Bool.or_false, or_true]
      · simp only [EV, Nat.reduceEqDiff, Nat.reduceBEq, Nat.reduceLT, Nat.reduceLeDiff, Nat.reduceAdd, Nat.reduceSub, reduceIte]
        rw [w64 _ (by omega)]
        refine ⟨i + 1, ⟨by omega, ?_⟩, by omega, rfl⟩
        intro j hj hji
        by_cases e : j = i
        · subst e; exact h
        · exact hno j hj (by omega)
    · have h1 : i = l.length := by have : ¬ (i : Int) < l.length := by simpa using h
                                   omega
      subst h1
      simp only [EV, Nat.reduceEqDiff, Nat.reduceBEq, Nat.reduceLT, Nat.reduceLeDiff, Nat.reduceAdd, Nat.reduceSub, reduceIte]
      simp only [findI_no (fun j hj => hno j hj hj), EV, Nat.reduceEqDiff, Nat.reduceBEq, Nat.reduceLT, Nat.reduceLeDiff, Nat.reduceAdd, Nat.reduceSub, reduceIte, evRE, retVC, cellV', evR, nfz, nfzs, nfzss, List.contains_nil, List.contains_cons, Bool.or_false, or_true]
theorem any_contains (l : List Int) (n : Int) : (l.any fun x => n == x) = l.contains n := by rw [List.contains_eq_any_beq]
def m191 : MC :=
 (.seq (.reg [Xb 4 (.asg .fb)]) (.seq (.reg [Xm 5 0, Xm 6 1, Xb 7 (.call (.fn 231) false [.lend (.t 5), .lend (.t 6)]), Xq 8 (.bin false .geq (.t 7) (.i 0)), Xa 4 8]) .ret))
theorem d191 (l : List Int) (n : Int) (hl : l.length < 9223372036854775807) : Does Go.Proofs.Tryz.prog 191 [.fsl 1 (l.map iv), .v (.int .i64 n)] false (.v (.bool (l.contains n))) [.dead, .dead] := by
  refine does_intro (mc := m191) (N := 9) (rs := [4]) (fx := []) 2 rfl (by decide +kernel) ?_
  simp only [m191, EV, Nat.reduceEqDiff, Nat.reduceBEq, Nat.reduceLT, Nat.reduceLeDiff, Nat.reduceAdd, Nat.reduceSub, reduceIte]
  refine callK_i (d231 l n hl) ?_
  simp only [EV, Nat.reduceEqDiff, Nat.reduceBEq, Nat.reduceLT, Nat.reduceLeDiff, Nat.reduceAdd, Nat.reduceSub, reduceIte]
  simp only [findI_any, any_contains, EV, Nat.reduceEqDiff, Nat.reduceBEq, Nat.reduceLT, Nat.reduceLeDiff, Nat.reduceAdd, Nat.reduceSub, reduceIte, evRE, retVC, cellV', evR, nfz, nfzs, nfzss, List.contains_nil, List.contains_cons, Bool.or_false, or_true]
def m196 : MC :=
 (.seq (.reg [Xb 4 (.asg .fb)]) (.seq (.seq (.reg [Xm 7 0, Xn 8 7, Xq 9 (.mov (.i 0))]) (.block 0 (.loop [0, 1, 7, 8, 9] (.seq (.reg [Xq 10 (.bin false .lss (.t 9) (.t 8))]) (.seq (.cond (.t 10) .skip (.exit 0)) (.seq (.block 1 (.seq (.reg [Xi 11 1 7 9, Xl 12 1 11, Xa 6 12]) (.seq (.reg [Xm 13 6, Xm 14 1, Xq 15 (.bin false .eql (.t 13) (.t 14))]) (.cond (.t 15) (.seq (.reg [Xb 4 (.asg .tb)]) .ret)
 .skip)))) (.reg [Xq 16 (.bin false .add (.t 9) (.i 1)), Xm 9 16]))))))) (.seq (.reg [Xb 4 (.asg .fb)]) .ret)))
theorem d196 (l : List Int) (n : Int) (hl : l.length < 9223372036854775807) : Does Go.Proofs.Tryz.prog 196 [.fsl 1 (l.map iv), .v (.int .i64 n)] false (.v (.bool (l.contains n))) [.dead, .dead] := by
  refine does_intro (mc := m196) (N := 17) (rs := [4]) (fx := []) 2 rfl (by decide +kernel) ?_
  simp only [m196, EV, Nat.reduceEqDiff, Nat.reduceBEq, Nat.reduceLT, Nat.reduceLeDiff, Nat.reduceAdd, Nat.reduceSub, reduceIte]
  refine awp_loop (fun i : Nat => i ≤ l.length ∧ ∀ j (hj : j < l.length), j < i → (l[j] == n) = false) (fun i => stl [(0, .fsl 1 (l.map iv)), (1, .v (.int .i64 n)), (7, .fsl 1 (l.map iv)), (8, .v (.int .i64 (l.length : Int))), (9, .v (.int .i64 (i : Int)))]) (fun i => l.length - i) 0 ⟨Nat.zero_le _, fun j hj h => absurd h (by omega)⟩ ?_ ?_
  · simp only [EV, Nat.reduceEqDiff, Nat.reduceBEq, Nat.reduceLT, Nat.reduceLeDiff, Nat.reduceAdd, Nat.reduceSub, reduceIte]
    rfl
  · rintro i ⟨hi, hno⟩
    simp only [EV, Nat.reduceEqDiff, Nat.reduceBEq, Nat.reduceLT, Nat.reduceLeDiff, Nat.reduceAdd, Nat.reduceSub, reduceIte]
    refine cK_cut (fun h => ?_) (fun h => ?_)
    · have h1 : i < l.length := by simpa using h
      have h2 : (i : Int) < (l.length : Int) := by omega
      simp only [nth_map h1, h2, iv, EV, Nat.reduceEqDiff, Nat.reduceBEq, Nat.reduceLT, Nat.reduceLeDiff, Nat.reduceAdd, Nat.reduceSub, reduceIte]
      refine cK_cut (fun h => ?_) (fun h => ?_)
      · have e : l.contains n = true := by
          rw [List.contains_iff_mem]
          have : l[i] = n := by simpa using h
          rw [← this]; exact List.getElem_mem h1
        simp only [EV, Nat.reduceEqDiff, Nat.reduceBEq, Nat.reduceLT, Nat.reduceLeDiff, Nat.reduceAdd, Nat.reduceSub, reduceIte]
        simp only [e, EV, Nat.reduceEqDiff, Nat.reduceBEq, Nat.reduceLT, Nat.reduceLeDiff, Nat.reduceAdd, Nat.reduceSub, reduceIte, evRE, retVC, cellV', evR, nfz, nfzs, nfzss, List.contains_nil, List.contains_cons, Bool.or_false, or_true]
      · simp only [EV, Nat.reduceEqDiff, Nat.reduceBEq, Nat.reduceLT, Nat.reduceLeDiff, Nat.reduceAdd, Nat.reduceSub, reduceIte]
        rw [w64 _ (by omega)]
        refine ⟨i + 1, ⟨by omega, ?_⟩, by omega, rfl⟩
        intro j hj hji
        by_cases e : j = i
        · subst e; exact h
        · exact hno j hj (by omega)
    · have h1 : i = l.length := by have : ¬ (i : Int) < l.length := by simpa using h
                                   omega
      subst h1
      have e : l.contains n = false := by
        rw [Bool.eq_false_iff]
        intro hc
        rw [List.contains_iff_mem] at hc
        obtain ⟨j, hj, hjn⟩ := List.mem_iff_getElem.1 hc
        have := hno j hj hj
        simp [hjn] at this
      simp only [EV, Nat.reduceEqDiff, Nat.reduceBEq, Nat.reduceLT, Nat.reduceLeDiff, Nat.reduceAdd, Nat.reduceSub, reduceIte]
      simp only [e, EV, Nat.reduceEqDiff, Nat.reduceBEq, Nat.reduceLT, Nat.reduceLeDiff, Nat.reduceAdd, Nat.reduceSub, reduceIte, evRE, retVC, cellV', evR, nfz, nfzs, nfzss, List.contains_nil, List.contains_cons, Bool.or_false, or_true]
def m162 : MC :=
 (.seq (.reg [Xb 2 (.asg (.nils 3 1))]) (.seq (.reg [Xb 3 (.bsl 3 1 []), Xm 4 0, Xb 5 (.app false 3 1 8 (.t 3) (.t 4)), Xa 2 5]) .ret))
theorem d162 (l : List Int) (hl : (l.length : Int) ≤ 1048576) : Does Go.Proofs.Tryz.prog 162 [.fsl 1 (l.map iv)] false (.usl 3 1 (l.map iv)) [.dead] := by
  refine does_intro (mc := m162) (N := 6) (rs := [2]) (fx := []) 1 rfl (by decide +kernel) ?_
  simp only [m162, EV, Nat.reduceEqDiff, Nat.reduceBEq, Nat.reduceLT, Nat.reduceLeDiff, Nat.reduceAdd, Nat.reduceSub, reduceIte]
  refine ⟨.inl trivial, by omega, by omega, ?_⟩
  simp only [iv_nfz, EV, Nat.reduceEqDiff, Nat.reduceBEq, Nat.reduceLT, Nat.reduceLeDiff, Nat.reduceAdd, Nat.reduceSub, reduceIte, evRE, retVC, cellV', evR, nfz, nfzs, nfzss, List.contains_nil, List.contains_cons, Bool.or_false, or_true]
def m232 : MC :=
 (.seq (.reg [Xb 2 (.asg (.nils 3 1))]) (.seq (.seq (.reg [Xm 3 0, Xq 4 (.isnil false (.t 3))]) (.cond (.t 4) (.seq (.reg [Xb 2 (.asg (.nils 3 1))]) .ret) .skip)) (.seq (.reg [Xb 5 (.bsl 3 1 []), Xm 6 0, Xb 7 (.app false 3 1 8 (.t 5) (.t 6)), Xa 2 7]) .ret)))
theorem d232 (l : List Int) (hl : (l.length : Int) ≤ 1048576) : Does Go.Proofs.Tryz.prog 232 [.fsl 1 (l.map iv)] false (.usl 3 1 (l.map iv)) [.dead] := by
  refine does_intro (mc := m232) (N := 8) (rs := [2]) (fx := []) 1 rfl (by decide +kernel) ?_
  simp only [m232, EV, Nat.reduceEqDiff, Nat.reduceBEq, Nat.reduceLT, Nat.reduceLeDiff, Nat.reduceAdd, Nat.reduceSub, reduceIte]
  refine ⟨fun h b => ?_, fun h => ⟨.inl trivial, by omega, by omega, ?_⟩⟩
  · have h0 : l = [] := by simpa using h
    subst h0
    cases b
    · simp only [List.map_nil, EV, Nat.reduceEqDiff, Nat.reduceBEq, Nat.reduceLT, Nat.reduceLeDiff, Nat.reduceAdd, Nat.reduceSub, reduceIte]
      refine ⟨.inl trivial, by omega, ?_⟩
      simp only [EV, Nat.reduceEqDiff, Nat.reduceBEq, Nat.reduceLT, Nat.reduceLeDiff, Nat.reduceAdd, Nat.reduceSub, reduceIte, evRE, retVC, cellV', evR, nfz, nfzs, nfzss, List.contains_nil, List.contains_cons, Bool.or_false, or_true]
    · simp only [List.map_nil, EV, Nat.reduceEqDiff, Nat.reduceBEq, Nat.reduceLT, Nat.reduceLeDiff, Nat.reduceAdd, Nat.reduceSub, reduceIte]
      simp only [EV, Nat.reduceEqDiff, Nat.reduceBEq, Nat.reduceLT, Nat.reduceLeDiff, Nat.reduceAdd, Nat.reduceSub, reduceIte, evRE, retVC, cellV', evR, nfz, nfzs, nfzss, List.contains_nil, List.contains_cons, Bool.or_false, or_true]
  · simp only [iv_nfz, EV, Nat.reduceEqDiff, Nat.reduceBEq, Nat.reduceLT, Nat.reduceLeDiff, Nat.reduceAdd, Nat.reduceSub, reduceIte, evRE, retVC, cellV', evR, nfz, nfzs, nfzss, List.contains_nil, List.contains_cons, Bool.or_false, or_true]
def cut (l : List Int) (n : Int) : Nat := (l.takeWhile fun x => decide (x < n)).length
theorem cut_at {n : Int} : ∀ {l : List Int} {k : Nat}, k ≤ l.length → (∀ j (h : j < l.length), j < k → l[j] < n) → (∀ h : k < l.length, ¬ l[k] < n) → cut l n = k
  | [], k, h0, _, _ => by simp at h0; simp [cut, h0]
  | x :: l, 0, h0, h1, h2 => by
    have : ¬ x < n := h2 (by simp)
    simp [cut, List.takeWhile_cons, this]
  | x :: l, k + 1, h0, h1, h2 => by
    have hx : x < n := h1 0 (by simp) (by omega)
    have ih := cut_at (n := n) (l := l) (k := k) (by simpa using h0) (fun j hj hjk => by have := h1 (j + 1) (by simpa using hj) (by omega); simpa using this) (fun h => by have := h2 (by simpa using h); simpa using this)
    unfold cut at ih ⊢
    rw [List.takeWhile_cons, if_pos (by simpa using hx), List.length_cons, ih]
def putUp (l : List Int) (n : Int) : List Int := if l[cut l n]? = some n then l else (l.take (cut l n) ++ [n]) ++ l.drop (cut l n)
theorem cut_spec (l : List Int) (n : Int) : cut l n ≤ l.length ∧ (∀ x ∈ l.take (cut l n), x < n) ∧ (∀ h : cut l n < l.length, ¬ l[cut l n] < n) := by
  induction l with
  | nil => simp [cut]
  | cons x l ih =>
    unfold cut at ih ⊢
    rw [List.takeWhile_cons]
    by_cases hx : x < n
    · rw [if_pos (by simpa using hx)]
      simp only [List.length_cons, List.take_succ_cons, List.mem_cons, List.getElem_cons_succ]
      refine ⟨by omega, ?_, fun h => ih.2.2 (by omega)⟩
      rintro y (rfl | hy)
      · exact hx
      · exact ih.2.1 y hy
    · rw [if_neg (by simpa using hx)]
      simp [hx]
theorem putUp_spec {l : List Int} {n : Int} (h : l.Pairwise (· < ·)) : (putUp l n).Pairwise (· < ·) ∧ (∀ x, x ∈ putUp l n ↔ x = n ∨ x ∈ l) ∧ (n ∉ l → (putUp l n).length = l.length + 1) := by
  obtain ⟨c1, c2, c3⟩ := cut_spec l n
  unfold putUp
  split
  · rename_i hc
    have hm : n ∈ l := List.mem_of_getElem? hc
    exact ⟨h, fun x => ⟨.inr, fun h => h.elim (fun e => e ▸ hm) id⟩, fun hn => absurd hm hn⟩
  · rename_i hc
    have hd : ∀ x ∈ l.drop (cut l n), n < x := by
      intro x hx
      rcases Nat.lt_or_ge (cut l n) l.length with hlt | hge
      · have h0 := c3 hlt
        have e : l[cut l n] ≠ n := by intro e; exact hc (by rw [List.getElem?_eq_getElem hlt, e])
        have hp : (l.drop (cut l n)).Pairwise (· < ·) := h.sublist (List.drop_sublist _ _)
        rw [List.drop_eq_getElem_cons hlt] at hx hp
        rcases List.mem_cons.1 hx with rfl | hx
        · omega
        · have := (List.pairwise_cons.1 hp).1 x hx; omega
      · rw [List.drop_eq_nil_of_le hge] at hx; simp at hx
    have hmem : ∀ x, x ∈ l ↔ x ∈ l.take (cut l n) ∨ x ∈ l.drop (cut l n) := by
      intro x
      rw [← List.mem_append, List.take_append_drop]
    refine ⟨?_, ?_, ?_⟩
    · rw [List.append_assoc, List.pairwise_append]
      refine ⟨h.sublist (List.take_sublist _ _), ?_, ?_⟩
      · rw [List.singleton_append, List.pairwise_cons]
        exact ⟨hd, h.sublist (List.drop_sublist _ _)⟩
      · intro a ha b hb
        have h1 := c2 a ha
        rw [List.singleton_append, List.mem_cons] at hb
        rcases hb with rfl | hb
        · exact h1
        · have := hd b hb; omega
    · intro x
      rw [hmem x]
      simp only [List.mem_append, List.mem_singleton]
      constructor
      · rintro ((h | h) | h)
        · exact .inr (.inl h)
        · exact .inl h
        · exact .inr (.inr h)
      · rintro (h | h | h)
        · exact .inl (.inr h)
        · exact .inl (.inl h)
        · exact .inr h
    · intro _
      simp only [List.length_append, List.length_take, List.length_drop, List.length_singleton]
      omega
def m234 : MC :=
 (.seq (.reg [Xb 4 (.asg (.nils 3 1))]) (.seq (.reg [Xb 5 (.asg (.i 0))]) (.seq (.block 0 (.loop [0, 1, 5] (.seq (.seq (.reg [Xm 7 5, Xm 8 0, Xn 9 8, Xq 10 (.bin false .lss (.t 7) (.t 9)), Xm 11 10, Xt 12 11 (.mov (.t 0)), Xt 13 11 (.mov (.t 5)), Xt 14 11 (.iad 1 (.t 12) (.t 13)), Xt 15 11 (.load false 1 (.t 14)), Xt 16 11 (.mov (.t 1)), Xt 17 11 (.bin false .lss (.t 15) (.t 16)), Xq 18 (.pick (.t
 11) (.t 17) .fb)]) (.cond (.t 18) .skip (.exit 0))) (.block 1 (.reg [Xm 19 5, Xq 20 (.bin false .add (.t 19) (.i 1)), Xa 5 20]))))) (.seq (.seq (.reg [Xm 21 5, Xm 22 0, Xn 23 22, Xq 24 (.bin false .lss (.t 21) (.t 23)), Xm 25 24, Xt 26 25 (.mov (.t 0)), Xt 27 25 (.mov (.t 5)), Xt 28 25 (.iad 1 (.t 26) (.t 27)), Xt 29 25 (.load false 1 (.t 28)), Xt 30 25 (.mov (.t 1)), Xt 31 25 (.bin false .eql (.t
 29) (.t 30)), Xq 32 (.pick (.t 25) (.t 31) .fb)]) (.cond (.t 32) (.seq (.reg [Xm 33 0, Xa 4 33]) .ret) .skip)) (.seq (.reg [Xb 34 (.bsl 3 1 []), Xm 35 0, Xm 36 5, Xq 37 (.slc false 1 (.t 35) none (some (.t 36))), Xb 38 (.app false 3 1 8 (.t 34) (.t 37)), Xa 6 38]) (.seq (.reg [Xm 39 6, Xm 40 1, Xb 41 (.bsl 3 1 [.t 40]), Xb 42 (.app true 3 1 8 (.t 39) (.t 41)), Xa 6 42]) (.seq (.reg [Xm 43 6, Xm 44
 0, Xm 45 5, Xq 46 (.slc false 1 (.t 44) (some (.t 45)) none), Xb 47 (.app false 3 1 8 (.t 43) (.t 46)), Xa 4 47]) .ret)))))))
set_option maxRecDepth 100000 in
theorem d234 (l : List Int) (n : Int) (hl : (l.length : Int) ≤ 1048576) : Does Go.Proofs.Tryz.prog 234 [.usl 3 1 (l.map iv), .v (.int .i64 n)] false (.usl 3 1 ((putUp l n).map iv)) [.dead, .dead] := by
  refine does_intro (mc := m234) (N := 48) (rs := [4]) (fx := []) 2 rfl (by decide +kernel) ?_
  simp only [m234, EV, Nat.reduceEqDiff, Nat.reduceBEq, Nat.reduceLT, Nat.reduceLeDiff, Nat.reduceAdd, Nat.reduceSub, reduceIte]
  refine awp_loop (fun k : Nat => k ≤ l.length ∧ ∀ j (h : j < l.length), j < k → l[j] < n) (fun k => stl [(0, .usl 3 1 (l.map iv)), (1, .v (.int .i64 n)), (5, .v (.int .i64 (k : Int)))]) (fun k => l.length - k) 0 ⟨Nat.zero_le _, fun j hj h => absurd h (by omega)⟩ ?_ ?_
  · simp only [EV, Nat.reduceEqDiff, Nat.reduceBEq, Nat.reduceLT, Nat.reduceLeDiff, Nat.reduceAdd, Nat.reduceSub, reduceIte]
    rfl
  · rintro k ⟨hk, hlt⟩
    simp only [EV, Nat.reduceEqDiff, Nat.reduceBEq, Nat.reduceLT, Nat.reduceLeDiff, Nat.reduceAdd, Nat.reduceSub, reduceIte]
    refine gK_cut (fun h => ?_) (fun h => ?_)
    · have h1 : k < l.length := by simpa using h
      have h2 : (k : Int) < (l.length : Int) := by omega
      simp only [decide_true, nth_map h1, h1, h2, iv, EV, Nat.reduceEqDiff, Nat.reduceBEq, Nat.reduceLT, Nat.reduceLeDiff, Nat.reduceAdd, Nat.reduceSub, reduceIte]
      refine cK_cut (fun h3 => ?_) (fun h3 => ?_)
      · have h4 : l[k] < n := by simpa using h3
        simp only [EV, Nat.reduceEqDiff, Nat.reduceBEq, Nat.reduceLT, Nat.reduceLeDiff, Nat.reduceAdd, Nat.reduceSub, reduceIte]
        rw [w64 _ (by omega)]
        refine ⟨k + 1, ⟨h1, ?_⟩, by omega, rfl⟩
        intro j hj hjk
        by_cases e : j = k
        · subst e; exact h4
        · exact hlt j hj (by omega)
      · have h4 : ¬ l[k] < n := by simpa using h3
        have hc : cut l n = k := cut_at hk hlt fun _ => h4
        have h1' : decide ((k : Int) < (l.length : Int)) = true := by simpa using h2
        simp only [decide_true, nth_map h1, h1, h2, iv, EV, Nat.reduceEqDiff, Nat.reduceBEq, Nat.reduceLT, Nat.reduceLeDiff, Nat.reduceAdd, Nat.reduceSub, reduceIte]
        refine cK_cut (fun h5 => ?_) (fun h5 => ?_)
        · have e : putUp l n = l := by
            unfold putUp
            rw [hc, List.getElem?_eq_getElem h1, if_pos (by simpa using h5)]
          simp only [EV, Nat.reduceEqDiff, Nat.reduceBEq, Nat.reduceLT, Nat.reduceLeDiff, Nat.reduceAdd, Nat.reduceSub, reduceIte]
          simp only [e, iv_nfz, EV, Nat.reduceEqDiff, Nat.reduceBEq, Nat.reduceLT, Nat.reduceLeDiff, Nat.reduceAdd, Nat.reduceSub, reduceIte, evRE, retVC, cellV', evR, nfz, nfzs, nfzss, List.contains_nil, List.contains_cons, Bool.or_false, or_true]
        · have e : putUp l n = (l.take k ++ [n]) ++ l.drop k := by
            unfold putUp
            rw [hc, List.getElem?_eq_getElem h1, if_neg (by simpa using h5)]
          have el : List.map iv (putUp l n) = (l.map iv).take k ++ [[AV.v (.int .i64 n)]] ++ ((l.map iv).drop k).take (l.length - k) := by
            have ed : List.take (l.length - k) (List.drop k (l.map iv)) = List.drop k (l.map iv) := List.take_of_length_le (by simp)
            rw [e, List.map_append, List.map_append, List.map_take, List.map_drop, ed]
            rfl
          simp only [EV, Nat.reduceEqDiff, Nat.reduceBEq, Nat.reduceLT, Nat.reduceLeDiff, Nat.reduceAdd, Nat.reduceSub, reduceIte]
          refine ⟨by omega, by omega, iv_stor0, by omega, by omega, by simp; omega, by simp; omega, by omega, by omega, iv_stor, by simp; omega, by simp; omega, ?_⟩
          rw [← el]
          simp only [iv_nfz, EV, Nat.reduceEqDiff, Nat.reduceBEq, Nat.reduceLT, Nat.reduceLeDiff, Nat.reduceAdd, Nat.reduceSub, reduceIte, evRE, retVC, cellV', evR, nfz, nfzs, nfzss, List.contains_nil, List.contains_cons, Bool.or_false, or_true]
    · have h1 : k = l.length := by have : ¬ (k : Int) < l.length := by simpa using h
                                   omega
      subst h1
      have hc : cut l n = l.length := cut_at hk hlt fun h => absurd h (by omega)
      have e : putUp l n = (l.take l.length ++ [n]) ++ l.drop l.length := by
        unfold putUp
        rw [hc, List.getElem?_eq_none (by omega), if_neg (by simp)]
      have el : List.map iv (putUp l n) = l.map iv ++ [[AV.v (.int .i64 n)]] ++ ((l.map iv).drop l.length).take (l.length - l.length) := by
        rw [e, List.map_append, List.map_append, List.take_length, List.map_drop, Nat.sub_self, List.take_zero, List.drop_eq_nil_of_le (by simp)]
        rfl
      simp only [h, EV, Nat.reduceEqDiff, Nat.reduceBEq, Nat.reduceLT, Nat.reduceLeDiff, Nat.reduceAdd, Nat.reduceSub, reduceIte]
      refine ⟨by omega, by omega, iv_stor1, by omega, by omega, by omega, by omega, by omega, by omega, iv_stor, by simp; omega, by simp; omega, ?_⟩
      rw [← el]
      simp only [iv_nfz, EV, Nat.reduceEqDiff, Nat.reduceBEq, Nat.reduceLT, Nat.reduceLeDiff, Nat.reduceAdd, Nat.reduceSub, reduceIte, evRE, retVC, cellV', evR, nfz, nfzs, nfzss, List.contains_nil, List.contains_cons, Bool.or_false, or_true]
end Go.AM
namespace Go.AM
set_option linter.unusedVariables false
set_option linter.unusedSimpArgs false
def bv (n : Int) : List AV := [.v (.int .u8 n)]
structure Cur where
  code : List Int
  pos : Int
  seed : Int
def Cur.z (c : Cur) : List AV := [.fsl 1 (c.code.map bv), .v (.int .i64 c.pos), .v (.int .u64 c.seed)]
def Cur.ok (c : Cur) (n : Int) : Prop := (c.code.length : Int) ≤ 1048576 ∧ (∀ b ∈ c.code, 0 ≤ b ∧ b ≤ 255) ∧ 0 ≤ c.pos ∧ c.pos ≤ n
theorem Cur.ok.up {c : Cur} {n m : Int} (h : c.ok n) (hm : n ≤ m) : c.ok m := ⟨h.1, h.2.1, h.2.2.1, by have := h.2.2.2; omega⟩
def andK (kd : IntKind) (a b : Int) : Int := kd.wrap (BitVec.ofInt kd.bits a &&& BitVec.ofInt kd.bits b).toNat
def shrK (kd : IntKind) (a b : Int) : Int := a.fdiv (2 ^ (min b.toNat kd.bits))
theorem evB2 :
    (∀ (kd ky : IntKind) (a b : Int) (K : AV → Prop), (binV .shr (.v (.int kd a)) (.v (.int ky b)) K = (0 ≤ b ∧ K (.v (.int kd (shrK kd a b)))))) ∧
    (∀ (kd : IntKind) (a b : Int) (K : AV → Prop), (binV .and (.v (.int kd a)) (.v (.int kd b)) K = K (.v (.int kd (andK kd a b))))) := by
  refine ⟨?_, ?_⟩ <;> intros <;> simp [binV, binC, binR, andK, shrK]
theorem andK_255 (a : Int) : 0 ≤ andK .u64 a 255 ∧ andK .u64 a 255 ≤ 255 := by
  have h2 : (BitVec.ofInt IntKind.u64.bits 255).toNat = 255 := by decide
  have e : (BitVec.ofInt IntKind.u64.bits a &&& BitVec.ofInt IntKind.u64.bits 255).toNat ≤ 255 := by
    rw [BitVec.toNat_and, h2]
    exact Nat.and_le_right
  have w : ∀ n : Nat, n ≤ 255 → IntKind.u64.wrap (n : Int) = (n : Int) := by
    intro n h1
    simp [IntKind.wrap, IntKind.bits, IntKind.signed]
    omega
  unfold andK
  rw [w _ e]
  omega
theorem evN (n : Nat) (p : List (Nat × Nat)) (i k : Nat) (K : AV → Prop) : nilchkV (.ref n p i k) K = K (.ref n p i k) := rfl
def m138 : MC :=
 (.seq (.reg [Xb 2 (.asg (.i 0))]) (.seq (.reg [Xb 3 (.asg (.i 0))]) (.join [0, 3] (.seq (.dreg [Xm 4 0, Xq 5 (.nilchk (.t 4)), Xf 6 1 5, Xl 7 1 6, Xm 8 0, Xq 9 (.nilchk (.t 8)), Xf 10 0 9, Xl 11 1 10, Xn 12 11, Xq 13 (.bin false .lss (.t 7) (.t 12))]) (.cond (.t 13) (.dreg [Xm 14 0, Xq 15 (.nilchk (.t 14)), Xf 16 0 15, Xl 17 1 16, Xm 18 0, Xq 19 (.nilchk (.t 18)), Xf 20 1 19, Xl 21 1 20, Xi 22 1
 17 21, Xl 23 1 22, Xq 24 (.conv .i64 (.t 23)), Xm 3 24]) .skip)) (.seq (.reg [Xm 25 0, Xq 26 (.nilchk (.t 25)), Xf 27 1 26, Xl 28 1 27, Xq 29 (.bin false .add (.t 28) (.i 1)), Xq 30 (.nilchk (.t 25)), Xf 31 1 30, Xz (.store 1 (.t 31) (.t 29))]) (.seq (.reg [Xm 32 0, Xm 33 0, Xq 34 (.nilchk (.t 33)), Xf 35 2 34, Xl 36 1 35, Xq 37 (.bin false .mul (.t 36) (.c (.int .u64 6364136223846793005))), Xm 38
 3, Xq 39 (.conv .u64 (.t 38)), Xq 40 (.bin false .add (.t 37) (.t 39)), Xq 41 (.bin false .add (.t 40) (.c (.int .u64 1442695040888963407))), Xq 42 (.nilchk (.t 32)), Xf 43 2 42, Xz (.store 1 (.t 43) (.t 41))]) (.seq (.seq (.dreg [Xm 44 0, Xq 45 (.nilchk (.t 44)), Xf 46 1 45, Xl 47 1 46, Xm 48 0, Xq 49 (.nilchk (.t 48)), Xf 50 0 49, Xl 51 1 50, Xn 52 51, Xq 53 (.bin false .leq (.t 47) (.t 52))])
 (.cond (.t 53) (.seq (.reg [Xm 54 3, Xa 2 54]) .ret) .skip)) (.seq (.reg [Xm 55 0, Xq 56 (.nilchk (.t 55)), Xf 57 2 56, Xl 58 1 57, Xq 59 (.bin false .shr (.t 58) (.c (.int .u64 40))), Xq 60 (.bin false .and (.t 59) (.c (.int .u64 255))), Xq 61 (.conv .i64 (.t 60)), Xa 2 61]) .ret)))))))
set_option maxRecDepth 100000 in
theorem d138 (c : Cur) (n : Int) (hc : c.ok n) (hn : n ≤ 1152921504606846976) :
    DoesE Go.Proofs.Tryz.prog 138 [.box 87 c.z] false (fun r o => ∃ (v : Int) (c' : Cur), r = .v (.int .i64 v) ∧ o = [.box 87 c'.z] ∧ 0 ≤ v ∧ v ≤ 255 ∧ c'.ok (n + 1)) := by
  obtain ⟨h1, h2, h3, h4⟩ := hc
  refine doesE_intro (mc := m138) (N := 62) (rs := [2]) (fx := [0]) 1 rfl (by decide +kernel) ?_
  simp only [m138, EV, Nat.reduceEqDiff, Nat.reduceBEq, Nat.reduceLT, Nat.reduceLeDiff, Nat.reduceAdd, Nat.reduceSub, reduceIte]
  refine awp_join (fun v : Int => 0 ≤ v ∧ v ≤ 255) (fun v => stl [(0, .box 87 c.z), (3, .v (.int .i64 v))]) ?_ ?_
  · simp only [Cur.z, evN, EV, Nat.reduceEqDiff, Nat.reduceBEq, Nat.reduceLT, Nat.reduceLeDiff, Nat.reduceAdd, Nat.reduceSub, reduceIte]
    refine cK_cut (fun h => ?_) (fun h => ?_)
    · have g1 : c.pos.toNat < c.code.length := by have : c.pos < (c.code.length : Int) := by simpa using h
                                                  omega
      have g2 : c.pos < (c.code.length : Int) := by omega
      have gb := h2 _ (List.getElem_mem g1)
      have w := w64 c.code[c.pos.toNat] (by omega)
      simp only [h3, g2, nth_map g1, bv, w, evN, EV, Nat.reduceEqDiff, Nat.reduceBEq, Nat.reduceLT, Nat.reduceLeDiff, Nat.reduceAdd, Nat.reduceSub, reduceIte]
      exact ⟨_, gb, rfl⟩
    · simp only [evN, EV, Nat.reduceEqDiff, Nat.reduceBEq, Nat.reduceLT, Nat.reduceLeDiff, Nat.reduceAdd, Nat.reduceSub, reduceIte]
      exact ⟨0, by omega, rfl⟩
  · rintro v ⟨v0, v1⟩
    have w1 := w64 (c.pos + 1) (by omega)
    simp only [Cur.z, evN, evB2, w1, EV, Nat.reduceEqDiff, Nat.reduceBEq, Nat.reduceLT, Nat.reduceLeDiff, Nat.reduceAdd, Nat.reduceSub, reduceIte]
    refine cK_cut (fun h => ?_) (fun h => ?_)
    · simp only [evN, evB2, EV, Nat.reduceEqDiff, Nat.reduceBEq, Nat.reduceLT, Nat.reduceLeDiff, Nat.reduceAdd, Nat.reduceSub, reduceIte]
      simp only [EV, Nat.reduceEqDiff, Nat.reduceBEq, Nat.reduceLT, Nat.reduceLeDiff, Nat.reduceAdd, Nat.reduceSub, reduceIte, evRE, retVC, cellV', evR, nfz, nfzs, nfzss, List.contains_nil, List.contains_cons, Bool.or_false, or_true]
      exact ⟨v, ⟨c.code, c.pos + 1, _⟩, rfl, rfl, v0, v1, h1, h2, by simp only; omega, by simp only; omega⟩
    · simp only [evN, evB2, EV, Nat.reduceEqDiff, Nat.reduceBEq, Nat.reduceLT, Nat.reduceLeDiff, Nat.reduceAdd, Nat.reduceSub, reduceIte]
      refine ⟨by omega, ?_⟩
      have ab := andK_255 (shrK .u64 (IntKind.u64.wrap (IntKind.u64.wrap (IntKind.u64.wrap (c.seed * 6364136223846793005) + IntKind.u64.wrap v) + 1442695040888963407)) 40)
      rw [w64 _ (by omega)]
      simp only [EV, Nat.reduceEqDiff, Nat.reduceBEq, Nat.reduceLT, Nat.reduceLeDiff, Nat.reduceAdd, Nat.reduceSub, reduceIte, evRE, retVC, cellV', evR, nfz, nfzs, nfzss, List.contains_nil, List.contains_cons, Bool.or_false, or_true]
      exact ⟨_, ⟨c.code, c.pos + 1, _⟩, rfl, rfl, ab.1, ab.2, h1, h2, by simp only; omega, by simp only; omega⟩
def Draws (f : Nat) (args : List AV) (c : Cur) (n m : Int) (Q : AV → Prop) : Prop :=
  DoesE Go.Proofs.Tryz.prog f (.box 87 c.z :: args) false fun r o => ∃ c' : Cur, o = .box 87 c'.z :: args.map (fun _ => AV.dead) ∧ c'.ok (n + m) ∧ Q r
theorem Draws.call {f : Nat} {args : List AV} {c : Cur} {n m : Int} {Q : AV → Prop} (h : Draws f args c n m Q) {O : AV → List AV} (hO : ∀ out, O out = out :: args.map fun _ => AV.dead) {S : AV → AV → Prop}
    (k : ∀ (r : AV) (c' : Cur), c'.ok (n + m) → Q r → S (.box 87 c'.z) r) : callK2 Go.Proofs.Tryz.prog f (.box 87 c.z :: args) false O (.box 87 c.z) S := by
  refine callE2_i (T := fun r out => ∃ c' : Cur, out = .box 87 c'.z ∧ c'.ok (n + m) ∧ Q r) h ?_ ?_
  · rintro r o ⟨c', rfl, h1, h2⟩
    exact ⟨.box 87 c'.z, ⟨c', rfl, h1, h2⟩, (hO _).symm⟩
  · rintro r out ⟨c', rfl, h1, h2⟩
    exact ⟨rfl, rfl, k r c' h1 h2⟩
theorem p138 (c : Cur) (n : Int) (hc : c.ok n) (hn : n ≤ 1152921504606846976) : Draws 138 [] c n 1 fun r => ∃ v : Int, r = .v (.int .i64 v) ∧ 0 ≤ v ∧ v ≤ 255 := by
  have h := d138 c n hc hn
  refine ⟨h.1, fun w Fz xs os h1 h2 h3 h4 => (h.2 w Fz xs os h1 h2 h3 h4).mono ?_⟩
  rintro e w' ⟨res, outs, ⟨v, c', rfl, rfl, g1, g2, g3⟩, hh⟩
  exact ⟨_, _, ⟨c', rfl, g3, v, rfl, g1, g2⟩, hh⟩
def m70 : MC :=
 (.seq (.reg [Xb 4 (.asg (.i 0))]) (.seq (.seq (.reg [Xm 6 1, Xq 7 (.bin false .leq (.t 6) (.i 1))]) (.cond (.t 7) (.seq (.reg [Xb 4 (.asg (.i 0))]) .ret) .skip)) (.seq (.reg [Xm 8 0, Xb 9 (.call (.fn 138) false [.io (.t 8)]), Xa 5 9]) (.join [0, 1, 5] (.seq (.reg [Xm 10 1, Xq 11 (.bin false .gtr (.t 10) (.i 200))]) (.cond (.t 11) (.reg [Xm 12 5, Xq 13 (.bin false .mul (.t 12) (.i 256)), Xm 14 0,
 Xb 15 (.call (.fn 138) false [.io (.t 14)]), Xq 16 (.bin false .add (.t 13) (.t 15)), Xa 5 16]) .skip)) (.seq (.reg [Xm 17 5, Xm 18 1, Xq 19 (.bin false .rem (.t 17) (.t 18)), Xa 4 19]) .ret)))))
set_option maxRecDepth 100000 in
theorem p70 (c : Cur) (n k : Int) (hc : c.ok n) (hn : n ≤ 1152921504606846) (hk : k ≤ 1048577) : Draws 70 [.v (.int .i64 k)] c n 2 fun r => ∃ v : Int, r = .v (.int .i64 v) ∧ 0 ≤ v ∧ (1 < k → v < k) ∧ (k ≤ 1 → v = 0) := by
  refine doesE_intro (mc := m70) (N := 20) (rs := [4]) (fx := [0]) 2 rfl (by decide +kernel) ?_
  simp only [m70, EV, Nat.reduceEqDiff, Nat.reduceBEq, Nat.reduceLT, Nat.reduceLeDiff, Nat.reduceAdd, Nat.reduceSub, reduceIte]
  refine cK_cut (fun h => ?_) (fun h => ?_)
  · have hk1 : k ≤ 1 := by simpa using h
    simp only [EV, Nat.reduceEqDiff, Nat.reduceBEq, Nat.reduceLT, Nat.reduceLeDiff, Nat.reduceAdd, Nat.reduceSub, reduceIte]
    simp only [EV, Nat.reduceEqDiff, Nat.reduceBEq, Nat.reduceLT, Nat.reduceLeDiff, Nat.reduceAdd, Nat.reduceSub, reduceIte, evRE, retVC, cellV', evR, nfz, nfzs, nfzss, List.contains_nil, List.contains_cons, Bool.or_false, or_true]
    exact ⟨c, rfl, hc.up (by omega), 0, rfl, Int.le_refl _, fun h => absurd h (by omega), fun _ => rfl⟩
  have hk1 : 1 < k := by have : ¬ k ≤ 1 := by simpa using h
                         omega
  clear h
  simp only [EV, Nat.reduceEqDiff, Nat.reduceBEq, Nat.reduceLT, Nat.reduceLeDiff, Nat.reduceAdd, Nat.reduceSub, reduceIte]
  refine (p138 c n hc (by omega)).call (fun _ => rfl) ?_
  rintro _ c1 hc1 ⟨v, rfl, v0, v1⟩
  simp only [EV, Nat.reduceEqDiff, Nat.reduceBEq, Nat.reduceLT, Nat.reduceLeDiff, Nat.reduceAdd, Nat.reduceSub, reduceIte]
  refine awp_join (fun p : Int × Cur => 0 ≤ p.1 ∧ p.1 ≤ 65535 ∧ p.2.ok (n + 2)) (fun p => stl [(0, .box 87 p.2.z), (1, .v (.int .i64 k)), (5, .v (.int .i64 p.1))]) ?_ ?_
  · simp only [EV, Nat.reduceEqDiff, Nat.reduceBEq, Nat.reduceLT, Nat.reduceLeDiff, Nat.reduceAdd, Nat.reduceSub, reduceIte]
    refine cK_cut (fun h => ?_) (fun h => ?_)
    · simp only [EV, Nat.reduceEqDiff, Nat.reduceBEq, Nat.reduceLT, Nat.reduceLeDiff, Nat.reduceAdd, Nat.reduceSub, reduceIte]
      refine (p138 c1 (n + 1) hc1 (by omega)).call (fun _ => rfl) ?_
      rintro _ c2 hc2 ⟨u, rfl, u0, u1⟩
      simp only [EV, Nat.reduceEqDiff, Nat.reduceBEq, Nat.reduceLT, Nat.reduceLeDiff, Nat.reduceAdd, Nat.reduceSub, reduceIte]
      rw [w64 (v * 256) (by omega), w64 _ (by omega)]
      exact ⟨(v * 256 + u, c2), ⟨by simp only; omega, by simp only; omega, hc2.up (by omega)⟩, rfl⟩
    · simp only [EV, Nat.reduceEqDiff, Nat.reduceBEq, Nat.reduceLT, Nat.reduceLeDiff, Nat.reduceAdd, Nat.reduceSub, reduceIte]
      exact ⟨(v, c1), ⟨v0, by simp only; omega, hc1.up (by omega)⟩, rfl⟩
  · rintro ⟨v, c'⟩ ⟨g0, g1, g2⟩
    simp only at g0 g1 g2
    have em : v.tmod k = v % k := Int.tmod_eq_emod_of_nonneg g0
    have e0 := Int.emod_nonneg v (show k ≠ 0 by omega)
    have e1 := Int.emod_lt_of_pos v (show 0 < k by omega)
    simp only [EV, Nat.reduceEqDiff, Nat.reduceBEq, Nat.reduceLT, Nat.reduceLeDiff, Nat.reduceAdd, Nat.reduceSub, reduceIte]
    refine ⟨by omega, ?_⟩
    simp only [EV, Nat.reduceEqDiff, Nat.reduceBEq, Nat.reduceLT, Nat.reduceLeDiff, Nat.reduceAdd, Nat.reduceSub, reduceIte, evRE, retVC, cellV', evR, nfz, nfzs, nfzss, List.contains_nil, List.contains_cons, Bool.or_false, or_true]
    exact ⟨c', rfl, g2, _, rfl, by omega, fun _ => by omega, fun h => by omega⟩
def m76 : MC :=
 (.seq (.reg [Xb 4 (.asg .fb)]) (.seq (.reg [Xm 5 0, Xm 6 1, Xb 7 (.call (.fn 70) false [.io (.t 5), .lend (.t 6)]), Xq 8 (.bin false .eql (.t 7) (.i 0)), Xa 4 8]) .ret))
theorem p76 (c : Cur) (n k : Int) (hc : c.ok n) (hn : n ≤ 1152921504606846) (hk : k ≤ 1048577) : Draws 76 [.v (.int .i64 k)] c n 2 fun r => ∃ b : Bool, r = .v (.bool b) := by
  refine doesE_intro (mc := m76) (N := 9) (rs := [4]) (fx := [0]) 2 rfl (by decide +kernel) ?_
  simp only [m76, EV, Nat.reduceEqDiff, Nat.reduceBEq, Nat.reduceLT, Nat.reduceLeDiff, Nat.reduceAdd, Nat.reduceSub, reduceIte]
  refine (p70 c n k hc hn hk).call (fun _ => rfl) ?_
  rintro _ c' hc' ⟨v, rfl, _⟩
  simp only [EV, Nat.reduceEqDiff, Nat.reduceBEq, Nat.reduceLT, Nat.reduceLeDiff, Nat.reduceAdd, Nat.reduceSub, reduceIte]
  simp only [EV, Nat.reduceEqDiff, Nat.reduceBEq, Nat.reduceLT, Nat.reduceLeDiff, Nat.reduceAdd, Nat.reduceSub, reduceIte, evRE, retVC, cellV', evR, nfz, nfzs, nfzss, List.contains_nil, List.contains_cons, Bool.or_false, or_true]
  exact ⟨c', rfl, hc', _, rfl⟩
def m124 : MC :=
 (.seq (.reg [Xb 4 (.asg (.z #[]))]) (.seq (.reg [Xm 5 1, Xm 6 0, Xm 7 1, Xn 8 7, Xb 9 (.call (.fn 70) false [.io (.t 6), .lend (.t 8)]), Xi 10 1 5 9, Xl 11 1 10, Xa 4 11]) .ret))
theorem p124 (c : Cur) (n : Int) (l : List ByteArray) (hc : c.ok n) (hn : n ≤ 1152921504606846) (h0 : 0 < l.length) (hk : (l.length : Int) ≤ 1048577) :
    Draws 124 [.fsl 1 (l.map fun s => [.v (.string s)])] c n 2 fun r => ∃ s ∈ l, r = .v (.string s) := by
  refine doesE_intro (mc := m124) (N := 12) (rs := [4]) (fx := [0]) 2 rfl (by decide +kernel) ?_
  simp only [m124, EV, Nat.reduceEqDiff, Nat.reduceBEq, Nat.reduceLT, Nat.reduceLeDiff, Nat.reduceAdd, Nat.reduceSub, reduceIte]
  refine (p70 c n l.length hc hn hk).call (fun _ => rfl) ?_
  rintro _ c' hc' ⟨v, rfl, v0, v1, v2⟩
  have hv : v < (l.length : Int) := by
    by_cases h : 1 < (l.length : Int)
    · exact v1 h
    · have := v2 (by omega); omega
  have hn' : v.toNat < l.length := by omega
  simp only [v0, hv, nth_map hn', EV, Nat.reduceEqDiff, Nat.reduceBEq, Nat.reduceLT, Nat.reduceLeDiff, Nat.reduceAdd, Nat.reduceSub, reduceIte]
  simp only [EV, Nat.reduceEqDiff, Nat.reduceBEq, Nat.reduceLT, Nat.reduceLeDiff, Nat.reduceAdd, Nat.reduceSub, reduceIte, evRE, retVC, cellV', evR, nfz, nfzs, nfzss, List.contains_nil, List.contains_cons, Bool.or_false, or_true]
  exact ⟨c', rfl, hc', _, List.getElem_mem hn', rfl⟩
def m75 : MC :=
 (.seq (.reg [Xb 4 (.asg (.i 0))]) (.seq (.seq (.reg [Xm 5 0, Xm 6 1, Xq 7 (.bin false .gtr (.t 5) (.t 6))]) (.cond (.t 7) (.seq (.reg [Xm 8 0, Xa 4 8]) .ret) .skip)) (.seq (.reg [Xm 9 1, Xa 4 9]) .ret)))
theorem d75 (a b : Int) : Does Go.Proofs.Tryz.prog 75 [.v (.int .i64 a), .v (.int .i64 b)] false (.v (.int .i64 (max a b))) [.dead, .dead] := by
  refine does_intro (mc := m75) (N := 10) (rs := [4]) (fx := []) 2 rfl (by decide +kernel) ?_
  simp only [m75, EV, Nat.reduceEqDiff, Nat.reduceBEq, Nat.reduceLT, Nat.reduceLeDiff, Nat.reduceAdd, Nat.reduceSub, reduceIte]
  refine cK_cut (fun h => ?_) (fun h => ?_)
  · have e : max a b = a := by have : b < a := by simpa using h
                               omega
    simp only [EV, Nat.reduceEqDiff, Nat.reduceBEq, Nat.reduceLT, Nat.reduceLeDiff, Nat.reduceAdd, Nat.reduceSub, reduceIte]
    simp only [e, EV, Nat.reduceEqDiff, Nat.reduceBEq, Nat.reduceLT, Nat.reduceLeDiff, Nat.reduceAdd, Nat.reduceSub, reduceIte, evRE, retVC, cellV', evR, nfz, nfzs, nfzss, List.contains_nil, List.contains_cons, Bool.or_false, or_true]
  · have e : max a b = b := by have : ¬ b < a := by simpa using h
                               omega
    simp only [EV, Nat.reduceEqDiff, Nat.reduceBEq, Nat.reduceLT, Nat.reduceLeDiff, Nat.reduceAdd, Nat.reduceSub, reduceIte]
    simp only [e, EV, Nat.reduceEqDiff, Nat.reduceBEq, Nat.reduceLT, Nat.reduceLeDiff, Nat.reduceAdd, Nat.reduceSub, reduceIte, evRE, retVC, cellV', evR, nfz, nfzs, nfzss, List.contains_nil, List.contains_cons, Bool.or_false, or_true]
end Go.AM
namespace Go.AM
set_option linter.unusedVariables false
set_option linter.unusedSimpArgs false
def m183 : MC :=
 (.seq (.reg [Xb 2 (.asg (.z #[]))]) (.seq (.seq (.reg [Xm 3 0, Xq 4 (.bin false .lss (.t 3) (.i 10))]) (.cond (.t 4) (.seq (.reg [Xm 5 0, Xq 6 (.bin false .add (.i 48) (.t 5)), Xq 7 (.conv .u8 (.t 6)), Xb 8 (.bsl 5 1 [.t 7]), Xq 9 (.b2s (.t 8)), Xa 2 9]) .ret) .skip)) (.seq (.mixt [] [0, 2] [] [] [] [] (.step 0 (Xm 10 0) (.step 1 (Xq 11 (.bin false .quo (.t 10) (.i 10))) (.step 3 (Xm 13 0) (.step
 4 (Xq 14 (.bin false .rem (.t 13) (.i 10))) (.step 5 (Xq 15 (.bin false .add (.i 48) (.t 14))) (.alt (.step 2 (Xb 12 (.call (.fn 183) false [.lend (.t 11)])) (.step 6 (Xq 16 (.conv .u8 (.t 15))) (.step 7 (Xb 17 (.bsl 5 1 [.t 16])) (.step 8 (Xq 18 (.b2s (.t 17))) (.step 9 (Xq 19 (.bin false .add (.t 12) (.t 18))) (.step 10 (Xa 2 19) .nil)))))) (.step 6 (Xq 16 (.conv .u8 (.t 15))) (.alt (.step 2 (Xb
 12 (.call (.fn 183) false [.lend (.t 11)])) (.step 7 (Xb 17 (.bsl 5 1 [.t 16])) (.step 8 (Xq 18 (.b2s (.t 17))) (.step 9 (Xq 19 (.bin false .add (.t 12) (.t 18))) (.step 10 (Xa 2 19) .nil))))) (.step 7 (Xb 17 (.bsl 5 1 [.t 16])) (.alt (.step 2 (Xb 12 (.call (.fn 183) false [.lend (.t 11)])) (.step 8 (Xq 18 (.b2s (.t 17))) (.step 9 (Xq 19 (.bin false .add (.t 12) (.t 18))) (.step 10 (Xa 2 19)
 .nil)))) (.step 8 (Xq 18 (.b2s (.t 17))) (.step 2 (Xb 12 (.call (.fn 183) false [.lend (.t 11)])) (.step 9 (Xq 19 (.bin false .add (.t 12) (.t 18))) (.step 10 (Xa 2 19) .nil))))))))))))))) .ret)))
set_option maxHeartbeats 1000000 in
set_option maxRecDepth 100000 in
theorem d183 : ∀ (f : Nat) (n : Int), 0 ≤ n → n < f → n ≤ 1000000 → DoesE Go.Proofs.Tryz.prog 183 [.v (.int .i64 n)] false fun r o => ∃ s : ByteArray, r = .v (.string s) ∧ (s.size : Int) ≤ n + 1 ∧ o = [.dead]
  | 0, n, h0, h1, _ => by omega
  | f + 1, n, h0, h1, h2 => by
    refine doesE_intro (mc := m183) (N := 20) (rs := [2]) (fx := []) 1 rfl (by decide +kernel) ?_
    simp only [m183, EV, Nat.reduceEqDiff, Nat.reduceBEq, Nat.reduceLT, Nat.reduceLeDiff, Nat.reduceAdd, Nat.reduceSub, reduceIte]
    refine cK_cut (fun h => ?_) (fun h => ?_)
    · have h3 : n < 10 := by simpa using h
      simp only [EV, Nat.reduceEqDiff, Nat.reduceBEq, Nat.reduceLT, Nat.reduceLeDiff, Nat.reduceAdd, Nat.reduceSub, reduceIte]
      simp only [EV, Nat.reduceEqDiff, Nat.reduceBEq, Nat.reduceLT, Nat.reduceLeDiff, Nat.reduceAdd, Nat.reduceSub, reduceIte, evRE, retVC, cellV', evR, nfz, nfzs, nfzss, List.contains_nil, List.contains_cons, Bool.or_false, or_true]
      have h9 : (strA [IntKind.u8.wrap (IntKind.i64.wrap (48 + n))]).size = 1 := rfl
      exact ⟨_, rfl, by rw [h9]; omega⟩
    · have h3 : ¬ n < 10 := by simpa using h
      have ed : n.tdiv 10 = n / 10 := Int.tdiv_eq_ediv_of_nonneg (by omega)
      have ih := d183 f (n / 10) (by omega) (by omega) (by omega)
      have h9 : ∀ x : Int, (strA [x]).size = 1 := fun _ => rfl
      have fin : ∀ {K : AV → Prop}, (∀ s : ByteArray, (s.size : Int) ≤ n / 10 + 1 → K (.v (.string s))) → callK Go.Proofs.Tryz.prog 183 [.v (.int .i64 (n / 10))] false [.dead] K := fun hk =>
        callE_i (S := fun r => ∃ s : ByteArray, r = .v (.string s) ∧ (s.size : Int) ≤ n / 10 + 1) ih (by rintro r o ⟨s, g1, g2, g3⟩; exact ⟨⟨s, g1, g2⟩, g3⟩) (by rintro r ⟨s, rfl, g2⟩; exact hk s g2)
      simp only [ed, w64 (n / 10) (by omega), EV, Nat.reduceEqDiff, Nat.reduceBEq, Nat.reduceLT, Nat.reduceLeDiff, Nat.reduceAdd, Nat.reduceSub, reduceIte]
      refine ⟨by omega, by omega, ?_, ?_, ?_, ?_⟩
      all_goals refine fin fun s hs => ?_
      all_goals simp only [EV, Nat.reduceEqDiff, Nat.reduceBEq, Nat.reduceLT, Nat.reduceLeDiff, Nat.reduceAdd, Nat.reduceSub, reduceIte]
      all_goals refine ⟨by rw [h9]; omega, ?_⟩
      all_goals simp only [EV, Nat.reduceEqDiff, Nat.reduceBEq, Nat.reduceLT, Nat.reduceLeDiff, Nat.reduceAdd, Nat.reduceSub, reduceIte, evRE, retVC, cellV', evR, nfz, nfzs, nfzss, List.contains_nil, List.contains_cons, Bool.or_false, or_true]
      all_goals exact ⟨_, rfl, by rw [ByteArray.size_append, h9]; omega⟩
theorem base_len3 : baseTs.length = 3 := rfl
theorem n183 {n : Int} (h0 : 0 ≤ n) (h1 : n ≤ 1000000) {K : AV → Prop} (k : ∀ s : ByteArray, (s.size : Int) ≤ n + 1 → K (.v (.string s))) : callK Go.Proofs.Tryz.prog 183 [.v (.int .i64 n)] false [.dead] K :=
  callE_i (S := fun r => ∃ s : ByteArray, r = .v (.string s) ∧ (s.size : Int) ≤ n + 1) (d183 (n.toNat + 1) n h0 (by omega) h1) (by rintro r o ⟨s, g1, g2, g3⟩; exact ⟨⟨s, g1, g2⟩, g3⟩) (by rintro r ⟨s, rfl, g2⟩; exact k s g2)
end Go.AM
namespace Go.AM
set_option linter.unusedVariables false
set_option linter.unusedSimpArgs false
structure TyD (n : Int) (t : Ty) : Prop where
  few : t.fields.length ≤ 3
  names : ∀ f ∈ t.fields, 0 < (f.name.size : Int) ∧ (f.name.size : Int) ≤ 40
  owner : (t.owner.size : Int) ≤ 40
  name : (t.name.size : Int) ≤ 40
  ptr : t.kind = 6 → 0 ≤ t.base ∧ t.base < n
theorem base_tyD (n : Int) : ∀ t ∈ baseTs, TyD n t := by
  intro t ht
  simp only [baseTs, List.mem_cons, List.not_mem_nil, or_false] at ht
  rcases ht with rfl | rfl | rfl <;> exact ⟨by simp, by simp, by decide, by decide, fun h => absurd h (by decide)⟩
def m123 : MC :=
 (.seq (.reg [Xb 2 (.asg (.nils 40 6))]) (.seq (.reg [Xb 10 (.call (.fn 182) false []), Xa 3 10]) (.seq (.reg [Xm 11 0, Xb 12 (.call (.fn 70) false [.io (.t 11), .lend (.i 7)]), Xq 13 (.bin false .add (.i 3) (.t 12)), Xa 4 13]) (.seq (.block 0 (.loop [0, 3, 4, 10, 90] (.seq (.seq (.reg [Xm 14 3, Xn 15 14, Xm 16 4, Xq 17 (.bin false .lss (.t 15) (.t 16))]) (.cond (.t 17) .skip (.exit 0))) (.block 1
 (.seq (.reg [Xm 18 0, Xb 19 (.call (.fn 70) false [.io (.t 18), .lend (.i 3)]), Xq 20 (.bin false .add (.i 4) (.t 19)), Xb 21 (.build [0, 2] [0, 2] [1, 1] [.i, .i, .i, .s 97 3, .z, .z] [.t 20, .i (-1)]), Xb 5 (.alloc 40 [.i, .i, .i, .s 97 3, .z, .z]), Xz (.store 6 (.t 5) (.t 21))]) (.join [0, 3, 4, 5, 10, 90] (.seq (.reg [Xm 22 0, Xb 23 (.call (.fn 76) false [.io (.t 22), .lend (.i 2)])]) (.cond
 (.t 23) (.seq (.reg [Xm 24 0, Xb 25 (.bsl 9 1 [.z #[65], .z #[66]]), Xb 26 (.call (.fn 124) false [.io (.t 24), .give (.t 25)]), Xf 27 4 5, Xz (.store 1 (.t 27) (.t 26))]) (.reg [Xm 28 3, Xn 29 28, Xb 30 (.call (.fn 183) false [.lend (.t 29)]), Xq 31 (.bin false .add (.z #[84]) (.t 30)), Xf 32 5 5, Xz (.store 1 (.t 32) (.t 31))])) .skip)) (.join [0, 3, 4, 5, 10, 90] (.seq (.reg [Xf 33 0 5, Xl 34 1
 33]) (.block 2 (.seq (.reg [Xq 42 (.bin false .eql (.t 34) (.i 4)), Xa 41 42]) (.cond (.t 41) (.seq (.reg [Xm 43 0, Xb 44 (.call (.fn 70) false [.io (.t 43), .lend (.i 5)]), Xq 45 (.bin false .add (.i 1) (.t 44)), Xf 46 1 5, Xz (.store 1 (.t 46) (.t 45))]) (.reg [Xm 47 0, Xm 48 3, Xn 49 48, Xb 50 (.call (.fn 70) false [.io (.t 47), .lend (.t 49)]), Xf 51 2 5, Xz (.store 1 (.t 51) (.t 50))])) (.seq
 (.reg [Xq 53 (.bin false .eql (.t 34) (.i 5)), Xa 52 53]) (.cond (.t 52) (.join [0, 3, 4, 5, 10, 90] (.seq (.reg [Xm 54 0, Xm 55 3, Xn 56 55, Xb 57 (.call (.fn 70) false [.io (.t 54), .lend (.t 56)]), Xa 6 57]) (.seq (.reg [Xm 58 3, Xm 59 6, Xi 60 6 58 59, Xf 61 0 60, Xl 62 1 61, Xq 63 (.bin false .eql (.t 62) (.i 5))]) (.cond (.t 63) (.reg [Xm 64 6, Xf 65 2 5, Xz (.store 1 (.t 65) (.t 64))])
 .skip))) (.seq (.reg [Xm 66 0, Xb 67 (.call (.fn 70) false [.io (.t 66), .lend (.i 4)]), Xa 7 67]) (.block 3 (.loop [0, 3, 4, 5, 7, 10, 90] (.seq (.seq (.reg [Xm 68 7, Xq 69 (.bin false .gtr (.t 68) (.i 0))]) (.cond (.t 69) .skip (.exit 3))) (.seq (.block 4 (.mixt [] [0, 3, 4, 5, 7, 10, 90] [] [] [] [] (.step 0 (Xf 72 3 5) (.step 2 (Xm 74 7) (.step 5 (Xm 77 0) (.step 7 (Xm 79 0) (.step 8 (Xm 80 3)
 (.step 9 (Xn 81 80) (.alt (.step 1 (Xl 73 1 72) (.step 3 (Xb 75 (.call (.fn 183) false [.lend (.t 74)])) (.step 4 (Xq 76 (.bin false .add (.z #[102]) (.t 75))) (.step 6 (Xb 78 (.call (.fn 70) false [.io (.t 77), .lend (.i 3)])) (.step 10 (Xb 82 (.call (.fn 70) false [.io (.t 79), .lend (.t 81)])) (.step 11 (Xb 83 (.build [0, 1, 2] [0, 1, 2] [1, 1, 1] [.z, .i, .i] [.t 76, .t 78, .t 82])) (.step 12
 (Xb 84 (.bsl 97 3 [.t 83])) (.step 13 (Xb 85 (.app true 97 3 32 (.t 73) (.t 84))) (.step 14 (Xf 86 3 5) (.step 15 (Xz (.store 1 (.t 86) (.t 85))) .nil)))))))))) (.step 3 (Xb 75 (.call (.fn 183) false [.lend (.t 74)])) (.step 4 (Xq 76 (.bin false .add (.z #[102]) (.t 75))) (.alt (.step 1 (Xl 73 1 72) (.step 6 (Xb 78 (.call (.fn 70) false [.io (.t 77), .lend (.i 3)])) (.step 10 (Xb 82 (.call (.fn
 70) false [.io (.t 79), .lend (.t 81)])) (.step 11 (Xb 83 (.build [0, 1, 2] [0, 1, 2] [1, 1, 1] [.z, .i, .i] [.t 76, .t 78, .t 82])) (.step 12 (Xb 84 (.bsl 97 3 [.t 83])) (.step 13 (Xb 85 (.app true 97 3 32 (.t 73) (.t 84))) (.step 14 (Xf 86 3 5) (.step 15 (Xz (.store 1 (.t 86) (.t 85))) .nil)))))))) (.step 6 (Xb 78 (.call (.fn 70) false [.io (.t 77), .lend (.i 3)])) (.alt (.step 1 (Xl 73 1 72)
 (.step 10 (Xb 82 (.call (.fn 70) false [.io (.t 79), .lend (.t 81)])) (.step 11 (Xb 83 (.build [0, 1, 2] [0, 1, 2] [1, 1, 1] [.z, .i, .i] [.t 76, .t 78, .t 82])) (.step 12 (Xb 84 (.bsl 97 3 [.t 83])) (.step 13 (Xb 85 (.app true 97 3 32 (.t 73) (.t 84))) (.step 14 (Xf 86 3 5) (.step 15 (Xz (.store 1 (.t 86) (.t 85))) .nil))))))) (.step 10 (Xb 82 (.call (.fn 70) false [.io (.t 79), .lend (.t 81)]))
 (.alt (.step 1 (Xl 73 1 72) (.step 11 (Xb 83 (.build [0, 1, 2] [0, 1, 2] [1, 1, 1] [.z, .i, .i] [.t 76, .t 78, .t 82])) (.step 12 (Xb 84 (.bsl 97 3 [.t 83])) (.step 13 (Xb 85 (.app true 97 3 32 (.t 73) (.t 84))) (.step 14 (Xf 86 3 5) (.step 15 (Xz (.store 1 (.t 86) (.t 85))) .nil)))))) (.step 11 (Xb 83 (.build [0, 1, 2] [0, 1, 2] [1, 1, 1] [.z, .i, .i] [.t 76, .t 78, .t 82])) (.alt (.step 1 (Xl 73
 1 72) (.step 12 (Xb 84 (.bsl 97 3 [.t 83])) (.step 13 (Xb 85 (.app true 97 3 32 (.t 73) (.t 84))) (.step 14 (Xf 86 3 5) (.step 15 (Xz (.store 1 (.t 86) (.t 85))) .nil))))) (.step 12 (Xb 84 (.bsl 97 3 [.t 83])) (.step 1 (Xl 73 1 72) (.step 13 (Xb 85 (.app true 97 3 32 (.t 73) (.t 84))) (.step 14 (Xf 86 3 5) (.step 15 (Xz (.store 1 (.t 86) (.t 85))) .nil))))))))))))))))))))))) (.reg [Xm 70 7, Xq 71
 (.bin false .sub (.t 70) (.i 1)), Xa 7 71]))))))) (.reg [Xm 35 0, Xm 36 4, Xq 37 (.bin false .sub (.t 36) (.i 3)), Xb 38 (.call (.fn 70) false [.io (.t 35), .lend (.t 37)]), Xq 39 (.bin false .add (.i 3) (.t 38)), Xf 40 2 5, Xz (.store 1 (.t 40) (.t 39))]))))))) (.reg [Xm 87 3, XL 88 6 5, Xb 89 (.bsl 40 6 [.t 88]), Xb 90 (.app true 40 6 80 (.t 87) (.t 89)), Xa 3 90])))))))) (.seq (.seq (.reg [Xm
 91 3, Xn 92 91, Xq 93 (.mov (.i 0))]) (.block 5 (.loop [0, 3, 10, 90, 91, 92, 93] (.seq (.reg [Xq 94 (.bin false .lss (.t 93) (.t 92))]) (.seq (.cond (.t 94) .skip (.exit 5)) (.join [0, 3, 10, 90, 91, 92, 93] (.block 6 (.seq (.reg [Xm 95 93, Xi 96 6 91 93, XL 97 6 96, Xb 9 (.alloc 40 [.i, .i, .i, .s 97 3, .z, .z]), Xa 8 95, Xz (.storek 6 (.t 9) (.t 97))]) (.seq (.reg [Xf 98 0 9, Xl 99 1 98, Xq 100
 (.bin false .eql (.t 99) (.i 6)), Xm 101 100, Xt 102 101 (.mov (.t 3)), Xt 103 101 (.fad 2 (.t 9)), Xt 104 101 (.load false 1 (.t 103)), Xt 105 101 (.iad 6 (.t 102) (.t 104)), Xt 106 101 (.fad 0 (.t 105)), Xt 107 101 (.load false 1 (.t 106)), Xt 108 101 (.bin false .eql (.t 107) (.i 6)), Xq 109 (.pick (.t 101) (.t 108) .fb)]) (.cond (.t 109) (.seq (.reg [Xm 110 3, Xm 111 8, Xi 112 6 110 111, Xf
 113 0 112, Xz (.store 1 (.t 113) (.i 5))]) (.reg [Xm 114 3, Xm 115 8, Xi 116 6 114 115, Xf 117 2 116, Xz (.store 1 (.t 117) (.i (-1)))])) .skip)))) (.reg [Xq 118 (.bin false .add (.t 93) (.i 1)), Xm 93 118]))))))) (.seq (.reg [Xm 119 3, Xa 2 119]) .ret))))))
set_option maxHeartbeats 4000000 in
set_option maxRecDepth 100000 in
theorem p123 (c : Cur) (n : Int) (hc : c.ok n) (hn : n ≤ 115292150460) : Draws 123 [] c n 600 fun r => ∃ l : List Ty, r = .usl 40 6 (l.map Ty.o) ∧ 3 ≤ l.length ∧ l.length ≤ 9 ∧ ∀ t ∈ l, TyD l.length t := by
  refine doesE_intro (mc := m123) (N := 120) (rs := [2]) (fx := [0]) 1 rfl (by decide +kernel) ?_
  simp only [m123, EV, Nat.reduceEqDiff, Nat.reduceBEq, Nat.reduceLT, Nat.reduceLeDiff, Nat.reduceAdd, Nat.reduceSub, reduceIte]
  refine callK_i d182 ?_
  simp only [EV, Nat.reduceEqDiff, Nat.reduceBEq, Nat.reduceLT, Nat.reduceLeDiff, Nat.reduceAdd, Nat.reduceSub, reduceIte]
  refine (p70 c n 7 hc (by omega) (by omega)).call (fun _ => rfl) ?_
  rintro _ c1 hc1 ⟨v, rfl, v0, v1, _⟩
  have v2 := v1 (by omega)
  have hw : IntKind.i64.wrap (3 + v) = 3 + v := w64 _ (by omega)
  have hv : ∃ m : Nat, 3 + v = (m : Int) := ⟨(3 + v).toNat, by omega⟩
  obtain ⟨m, hm⟩ := hv
  have hm3 : 3 ≤ m := by omega
  have hm9 : m ≤ 9 := by omega
  have hwm : IntKind.i64.wrap (m : Int) = m := w64 _ (by omega)
  simp only [hm, hwm, EV, Nat.reduceEqDiff, Nat.reduceBEq, Nat.reduceLT, Nat.reduceLeDiff, Nat.reduceAdd, Nat.reduceSub, reduceIte]
  refine awp_loop (fun p : List Ty × Cur => 3 ≤ p.1.length ∧ p.1.length ≤ m ∧ (∀ t ∈ p.1, TyD m t) ∧ p.2.ok (n + 2 + 60 * p.1.length)) (fun p => stl [(0, .box 87 p.2.z), (3, .usl 40 6 (p.1.map Ty.o)), (4, .v (.int .i64 (m : Int))), (10, .dead), (90, .dead)]) (fun p => m - p.1.length) (baseTs, c1) ⟨by simp only [base_len3]; omega, by simp only [base_len3]; omega, base_tyD _, hc1.up (by simp only [base_len3]; omega)⟩ ?_ ?_
  · simp only [EV, Nat.reduceEqDiff, Nat.reduceBEq, Nat.reduceLT, Nat.reduceLeDiff, Nat.reduceAdd, Nat.reduceSub, reduceIte]
  · rintro ⟨l, c⟩ ⟨l3, lm, lD, hc⟩
    simp only at l3 lm lD hc
    simp only [EV, Nat.reduceEqDiff, Nat.reduceBEq, Nat.reduceLT, Nat.reduceLeDiff, Nat.reduceAdd, Nat.reduceSub, reduceIte]
    refine cK_cut (fun h => ?_) (fun h => ?_)
    · have hlm : l.length < m := by have : (l.length : Int) < (m : Int) := by simpa using h
                                    omega
      clear h
      simp only [EV, Nat.reduceEqDiff, Nat.reduceBEq, Nat.reduceLT, Nat.reduceLeDiff, Nat.reduceAdd, Nat.reduceSub, reduceIte]
      refine (p70 c _ 3 hc (by omega) (by omega)).call (fun _ => rfl) ?_
      rintro _ c2 hc2 ⟨kd, rfl, k0, k1, _⟩
      have k2 := k1 (by omega)
      have hwk : IntKind.i64.wrap (4 + kd) = 4 + kd := w64 _ (by omega)
      have hck : ∃ q : Int, 4 + kd = q := ⟨_, rfl⟩
      obtain ⟨q, hq⟩ := hck
      have hwq : IntKind.i64.wrap q = q := w64 _ (by omega)
      simp only [hq, hwq, EV, Nat.reduceEqDiff, Nat.reduceBEq, Nat.reduceLT, Nat.reduceLeDiff, Nat.reduceAdd, Nat.reduceSub, reduceIte]
      refine awp_join (fun p : Ty × Cur => (∃ o m : ByteArray, p.1 = ⟨q, 0, -1, [], o, m⟩ ∧ (o.size : Int) ≤ 40 ∧ (m.size : Int) ≤ 40) ∧ p.2.ok (n + 2 + 60 * l.length + 6)) (fun p => stl [(0, .box 87 p.2.z), (3, .usl 40 6 (l.map Ty.o)), (4, .v (.int .i64 (m : Int))), (5, .box 40 p.1.o), (10, .dead), (90, .dead)]) ?_ ?_
      · simp only [EV, Nat.reduceEqDiff, Nat.reduceBEq, Nat.reduceLT, Nat.reduceLeDiff, Nat.reduceAdd, Nat.reduceSub, reduceIte]
        refine (p76 c2 _ 2 hc2 (by omega) (by omega)).call (fun _ => rfl) ?_
        rintro _ c3 hc3 ⟨b, rfl⟩
        simp only [EV, Nat.reduceEqDiff, Nat.reduceBEq, Nat.reduceLT, Nat.reduceLeDiff, Nat.reduceAdd, Nat.reduceSub, reduceIte]
        cases b
        · simp only [EV, Nat.reduceEqDiff, Nat.reduceBEq, Nat.reduceLT, Nat.reduceLeDiff, Nat.reduceAdd, Nat.reduceSub, reduceIte]
          exact ⟨(⟨q, 0, -1, [], ⟨#[]⟩, ⟨#[]⟩⟩, c3), ⟨⟨_, _, rfl, by decide, by decide⟩, hc3.up (by omega)⟩, rfl⟩
        · simp only [EV, Nat.reduceEqDiff, Nat.reduceBEq, Nat.reduceLT, Nat.reduceLeDiff, Nat.reduceAdd, Nat.reduceSub, reduceIte]
          refine (p124 c3 _ [⟨#[65]⟩, ⟨#[66]⟩] hc3 (by omega) (by decide) (by decide)).call (fun _ => rfl) ?_
          rintro _ c4 hc4 ⟨s, hs, rfl⟩
          have hs1 : (s.size : Int) ≤ 40 := by
            simp only [List.mem_cons, List.not_mem_nil, or_false] at hs
            rcases hs with rfl | rfl <;> decide
          simp only [EV, Nat.reduceEqDiff, Nat.reduceBEq, Nat.reduceLT, Nat.reduceLeDiff, Nat.reduceAdd, Nat.reduceSub, reduceIte]
          refine n183 (by omega) (by omega) fun nm hnm => ?_
          simp only [EV, Nat.reduceEqDiff, Nat.reduceBEq, Nat.reduceLT, Nat.reduceLeDiff, Nat.reduceAdd, Nat.reduceSub, reduceIte]
          have h84 : ((⟨#[84]⟩ : ByteArray).size : Nat) = 1 := rfl
          refine ⟨by rw [h84]; omega, (⟨q, 0, -1, [], s, ⟨#[84]⟩ ++ nm⟩, c4), ⟨⟨_, _, rfl, hs1, by rw [ByteArray.size_append, h84]; omega⟩, hc4.up (by omega)⟩, rfl⟩
      rintro ⟨t, c5⟩ ⟨⟨o, mm, rfl, ho, hmm⟩, hc5⟩
      simp only at hc5
      simp only [Ty.o, List.map_nil, EV, Nat.reduceEqDiff, Nat.reduceBEq, Nat.reduceLT, Nat.reduceLeDiff, Nat.reduceAdd, Nat.reduceSub, reduceIte]
      refine awp_join (fun p : Ty × Cur => TyD m p.1 ∧ p.2.ok (n + 2 + 60 * l.length + 50)) (fun p => stl [(0, .box 87 p.2.z), (3, .usl 40 6 (l.map Ty.o)), (4, .v (.int .i64 (m : Int))), (5, .box 40 p.1.o), (10, .dead), (90, .dead)]) ?_ ?_
      · simp only [EV, Nat.reduceEqDiff, Nat.reduceBEq, Nat.reduceLT, Nat.reduceLeDiff, Nat.reduceAdd, Nat.reduceSub, reduceIte]
        rcases e4 : (q == 4) with _ | _
        rotate_left
        · have q4 : q = 4 := by simpa using e4
          simp only [e4, EV, Nat.reduceEqDiff, Nat.reduceBEq, Nat.reduceLT, Nat.reduceLeDiff, Nat.reduceAdd, Nat.reduceSub, reduceIte]
          refine (p70 c5 _ 5 hc5 (by omega) (by omega)).call (fun _ => rfl) ?_
          rintro _ c6 hc6 ⟨u, rfl, u0, u1, _⟩
          simp only [EV, Nat.reduceEqDiff, Nat.reduceBEq, Nat.reduceLT, Nat.reduceLeDiff, Nat.reduceAdd, Nat.reduceSub, reduceIte]
          refine (p70 c6 _ l.length hc6 (by omega) (by omega)).call (fun _ => rfl) ?_
          rintro _ c7 hc7 ⟨u2, rfl, _⟩
          simp only [EV, Nat.reduceEqDiff, Nat.reduceBEq, Nat.reduceLT, Nat.reduceLeDiff, Nat.reduceAdd, Nat.reduceSub, reduceIte]
          exact ⟨(⟨q, IntKind.i64.wrap (1 + u), u2, [], o, mm⟩, c7), ⟨⟨by simp, by simp, ho, hmm, fun h => by simp only at h; omega⟩, hc7.up (by omega)⟩, rfl⟩
        rcases e5 : (q == 5) with _ | _
        · have q6 : q = 6 := by
            have h4 : ¬ q = 4 := by simpa using e4
            have h5 : ¬ q = 5 := by simpa using e5
            omega
          simp only [e4, e5, EV, Nat.reduceEqDiff, Nat.reduceBEq, Nat.reduceLT, Nat.reduceLeDiff, Nat.reduceAdd, Nat.reduceSub, reduceIte]
          rw [w64 ((m : Int) - 3) (by omega)]
          refine (p70 c5 _ ((m : Int) - 3) hc5 (by omega) (by omega)).call (fun _ => rfl) ?_
          rintro _ c6 hc6 ⟨u, rfl, u0, u1, u2⟩
          have hu : 3 + u < (m : Int) := by
            by_cases h : 1 < (m : Int) - 3
            · have := u1 h; omega
            · have := u2 (by omega); omega
          simp only [EV, Nat.reduceEqDiff, Nat.reduceBEq, Nat.reduceLT, Nat.reduceLeDiff, Nat.reduceAdd, Nat.reduceSub, reduceIte]
          rw [w64 (3 + u) (by omega)]
          exact ⟨(⟨q, 0, 3 + u, [], o, mm⟩, c6), ⟨⟨by simp, by simp, ho, hmm, fun _ => ⟨by simp only; omega, hu⟩⟩, hc6.up (by omega)⟩, rfl⟩
        · have q5 : ¬ q = 6 := by have : q = 5 := by simpa using e5
                                  omega
          simp only [e4, e5, EV, Nat.reduceEqDiff, Nat.reduceBEq, Nat.reduceLT, Nat.reduceLeDiff, Nat.reduceAdd, Nat.reduceSub, reduceIte]
          refine awp_join (fun p : Int × Cur => p.2.ok (n + 2 + 60 * l.length + 8)) (fun p => stl [(0, .box 87 p.2.z), (3, .usl 40 6 (l.map Ty.o)), (4, .v (.int .i64 (m : Int))), (5, .box 40 (Ty.o ⟨q, 0, p.1, [], o, mm⟩)), (10, .dead), (90, .dead)]) ?_ ?_
          · simp only [EV, Nat.reduceEqDiff, Nat.reduceBEq, Nat.reduceLT, Nat.reduceLeDiff, Nat.reduceAdd, Nat.reduceSub, reduceIte]
            refine (p70 c5 _ l.length hc5 (by omega) (by omega)).call (fun _ => rfl) ?_
            rintro _ c6 hc6 ⟨u, rfl, u0, u1, _⟩
            have hu := u1 (by omega)
            have hun : u.toNat < l.length := by omega
            simp only [u0, hu, hun, nth_map hun, Ty.o, EV, Nat.reduceEqDiff, Nat.reduceBEq, Nat.reduceLT, Nat.reduceLeDiff, Nat.reduceAdd, Nat.reduceSub, reduceIte]
            rcases e : (l[u.toNat].kind == 5) with _ | _
            · simp only [Ty.o, EV, Nat.reduceEqDiff, Nat.reduceBEq, Nat.reduceLT, Nat.reduceLeDiff, Nat.reduceAdd, Nat.reduceSub, reduceIte]
              exact ⟨(-1, c6), hc6.up (by omega), rfl⟩
            · simp only [Ty.o, EV, Nat.reduceEqDiff, Nat.reduceBEq, Nat.reduceLT, Nat.reduceLeDiff, Nat.reduceAdd, Nat.reduceSub, reduceIte]
              exact ⟨(u, c6), hc6.up (by omega), rfl⟩
          rintro ⟨b, c6⟩ hc6
          simp only at hc6
          simp only [Ty.o, List.map_nil, EV, Nat.reduceEqDiff, Nat.reduceBEq, Nat.reduceLT, Nat.reduceLeDiff, Nat.reduceAdd, Nat.reduceSub, reduceIte]
          refine (p70 c6 _ 4 hc6 (by omega) (by omega)).call (fun _ => rfl) ?_
          rintro _ c7 hc7 ⟨k, rfl, k0, k1, _⟩
          have k3 := k1 (by omega)
          simp only [EV, Nat.reduceEqDiff, Nat.reduceBEq, Nat.reduceLT, Nat.reduceLeDiff, Nat.reduceAdd, Nat.reduceSub, reduceIte]
          refine awp_loop (fun p : List Fd × Int × Cur => (p.1.length : Int) + p.2.1 ≤ 3 ∧ 0 ≤ p.2.1 ∧ (∀ f ∈ p.1, 0 < (f.name.size : Int) ∧ (f.name.size : Int) ≤ 40) ∧ p.2.2.ok (n + 2 + 60 * l.length + 10 + 6 * p.1.length)) (fun p => stl [(0, .box 87 p.2.2.z), (3, .usl 40 6 (l.map Ty.o)), (4, .v (.int .i64 (m : Int))), (5, .box 40 (Ty.o ⟨q, 0, b, p.1, o, mm⟩)), (7, .v (.int .i64 p.2.1)), (10, .dead), (90, .dead)]) (fun p => p.2.1.toNat) ([], k, c7) ⟨by simp; omega, k0, by simp, hc7.up (by simp; omega)⟩ ?_ ?_
          · simp only [Ty.o, List.map_nil, EV, Nat.reduceEqDiff, Nat.reduceBEq, Nat.reduceLT, Nat.reduceLeDiff, Nat.reduceAdd, Nat.reduceSub, reduceIte]
          · rintro ⟨fs, k, c8⟩ ⟨g1, g2, g3, g4⟩
            simp only at g1 g2 g3 g4
            simp only [Ty.o, EV, Nat.reduceEqDiff, Nat.reduceBEq, Nat.reduceLT, Nat.reduceLeDiff, Nat.reduceAdd, Nat.reduceSub, reduceIte]
            refine cK_cut (fun h => ?_) (fun h => ?_)
            · have hk : 0 < k := by simpa using h
              clear h
              have h102 : ((⟨#[102]⟩ : ByteArray).size : Nat) = 1 := rfl
              have wk := w64 (k - 1) (by omega)
              simp only [wk, EV, Nat.reduceEqDiff, Nat.reduceBEq, Nat.reduceLT, Nat.reduceLeDiff, Nat.reduceAdd, Nat.reduceSub, reduceIte]
              have ld : ∀ (nm : ByteArray) (u v : Int) (c' : Cur), (nm.size : Int) ≤ k + 1 → c'.ok (n + 2 + 60 * l.length + 10 + 6 * fs.length + 2 + 2) →
                  (((fs ++ [(⟨⟨#[102]⟩ ++ nm, u, v⟩ : Fd)]).length : Int) + (k - 1) ≤ 3 ∧ 0 ≤ k - 1 ∧ (∀ f ∈ fs ++ [(⟨⟨#[102]⟩ ++ nm, u, v⟩ : Fd)], 0 < (f.name.size : Int) ∧ (f.name.size : Int) ≤ 40) ∧ c'.ok (n + 2 + 60 * l.length + 10 + 6 * (fs ++ [(⟨⟨#[102]⟩ ++ nm, u, v⟩ : Fd)]).length)) := by
                intro nm u v c' hnm hc'
                refine ⟨by simp; omega, by omega, ?_, hc'.up (by simp; omega)⟩
                intro f hf
                rcases List.mem_append.1 hf with hf | hf
                · exact g3 f hf
                · rw [List.mem_singleton] at hf
                  rw [hf]
                  simp only [ByteArray.size_append, h102]; omega
              have lm1 : ∀ (nm : ByteArray) (u v : Int), List.map Fd.o fs ++ [[AV.v (.string (⟨#[102]⟩ ++ nm)), AV.v (.int .i64 u), AV.v (.int .i64 v)]] = List.map Fd.o (fs ++ [⟨⟨#[102]⟩ ++ nm, u, v⟩]) := fun nm u v => by rw [List.map_append]; rfl
              refine ⟨?_, ?_⟩
              · refine n183 (by omega) (by omega) fun nm hnm => ?_
                simp only [EV, Nat.reduceEqDiff, Nat.reduceBEq, Nat.reduceLT, Nat.reduceLeDiff, Nat.reduceAdd, Nat.reduceSub, reduceIte]
                refine ⟨by rw [h102]; omega, ?_⟩
                refine (p70 c8 _ 3 g4 (by omega) (by omega)).call (fun _ => rfl) ?_
                rintro _ c9 hc9 ⟨u, rfl, _⟩
                simp only [EV, Nat.reduceEqDiff, Nat.reduceBEq, Nat.reduceLT, Nat.reduceLeDiff, Nat.reduceAdd, Nat.reduceSub, reduceIte]
                refine (p70 c9 _ l.length hc9 (by omega) (by omega)).call (fun _ => rfl) ?_
                rintro _ c10 hc10 ⟨v, rfl, _⟩
                simp only [wk, EV, Nat.reduceEqDiff, Nat.reduceBEq, Nat.reduceLT, Nat.reduceLeDiff, Nat.reduceAdd, Nat.reduceSub, reduceIte]
                refine ⟨by omega, by omega, (fs ++ [⟨⟨#[102]⟩ ++ nm, u, v⟩], k - 1, c10), ld nm u v c10 hnm hc10, by simp only; omega, ?_⟩
                simp only [lm1]
              · refine n183 (by omega) (by omega) fun nm hnm => ?_
                simp only [EV, Nat.reduceEqDiff, Nat.reduceBEq, Nat.reduceLT, Nat.reduceLeDiff, Nat.reduceAdd, Nat.reduceSub, reduceIte]
                refine ⟨by rw [h102]; omega, ?_⟩
                refine ⟨?_, ?_⟩
                · refine (p70 c8 _ 3 g4 (by omega) (by omega)).call (fun _ => rfl) ?_
                  rintro _ c9 hc9 ⟨u, rfl, _⟩
                  simp only [EV, Nat.reduceEqDiff, Nat.reduceBEq, Nat.reduceLT, Nat.reduceLeDiff, Nat.reduceAdd, Nat.reduceSub, reduceIte]
                  refine (p70 c9 _ l.length hc9 (by omega) (by omega)).call (fun _ => rfl) ?_
                  rintro _ c10 hc10 ⟨v, rfl, _⟩
                  simp only [wk, EV, Nat.reduceEqDiff, Nat.reduceBEq, Nat.reduceLT, Nat.reduceLeDiff, Nat.reduceAdd, Nat.reduceSub, reduceIte]
                  refine ⟨by omega, by omega, (fs ++ [⟨⟨#[102]⟩ ++ nm, u, v⟩], k - 1, c10), ld nm u v c10 hnm hc10, by simp only; omega, ?_⟩
                  simp only [lm1]
                · refine (p70 c8 _ 3 g4 (by omega) (by omega)).call (fun _ => rfl) ?_
                  rintro _ c9 hc9 ⟨u, rfl, _⟩
                  simp only [EV, Nat.reduceEqDiff, Nat.reduceBEq, Nat.reduceLT, Nat.reduceLeDiff, Nat.reduceAdd, Nat.reduceSub, reduceIte]
                  refine ⟨?_, ?_⟩
                  · refine (p70 c9 _ l.length hc9 (by omega) (by omega)).call (fun _ => rfl) ?_
                    rintro _ c10 hc10 ⟨v, rfl, _⟩
                    simp only [wk, EV, Nat.reduceEqDiff, Nat.reduceBEq, Nat.reduceLT, Nat.reduceLeDiff, Nat.reduceAdd, Nat.reduceSub, reduceIte]
                    refine ⟨by omega, by omega, (fs ++ [⟨⟨#[102]⟩ ++ nm, u, v⟩], k - 1, c10), ld nm u v c10 hnm hc10, by simp only; omega, ?_⟩
                    simp only [lm1]
                  · refine (p70 c9 _ l.length hc9 (by omega) (by omega)).call (fun _ => rfl) ?_
                    rintro _ c10 hc10 ⟨v, rfl, _⟩
                    simp only [wk, EV, Nat.reduceEqDiff, Nat.reduceBEq, Nat.reduceLT, Nat.reduceLeDiff, Nat.reduceAdd, Nat.reduceSub, reduceIte]
                    refine ⟨by omega, by omega, (fs ++ [⟨⟨#[102]⟩ ++ nm, u, v⟩], k - 1, c10), ld nm u v c10 hnm hc10, by simp only; omega, ?_⟩
                    simp only [lm1]
            · simp only [EV, Nat.reduceEqDiff, Nat.reduceBEq, Nat.reduceLT, Nat.reduceLeDiff, Nat.reduceAdd, Nat.reduceSub, reduceIte]
              exact ⟨(⟨q, 0, b, fs, o, mm⟩, c8), ⟨⟨by simp only; omega, g3, ho, hmm, fun h => absurd h q5⟩, g4.up (by omega)⟩, rfl⟩
      · rintro ⟨t, c6⟩ ⟨hD, hc6⟩
        simp only at hD hc6
        simp only [Ty.o, EV, Nat.reduceEqDiff, Nat.reduceBEq, Nat.reduceLT, Nat.reduceLeDiff, Nat.reduceAdd, Nat.reduceSub, reduceIte]
        refine ⟨by omega, by omega, (l ++ [t], c6), ⟨by simp; omega, by simp; omega, ?_, hc6.up (by simp; omega)⟩, by simp; omega, ?_⟩
        · intro s hs
          rcases List.mem_append.1 hs with hs | hs
          · exact lD s hs
          · rw [List.mem_singleton] at hs; rw [hs]; exact hD
        · rw [List.map_append]
          rfl
    · have hlm : l.length = m := by have : ¬ (l.length : Int) < (m : Int) := by simpa using h
                                    omega
      simp only [EV, Nat.reduceEqDiff, Nat.reduceBEq, Nat.reduceLT, Nat.reduceLeDiff, Nat.reduceAdd, Nat.reduceSub, reduceIte]
      refine awp_loop (fun p : List Ty × Nat => p.1.length = m ∧ p.2 ≤ m ∧ ∀ t ∈ p.1, TyD m t) (fun p => stl [(0, .box 87 c.z), (3, .usl 40 6 (p.1.map Ty.o)), (10, .dead), (90, .dead), (91, .sref 3 [] 0 m), (92, .v (.int .i64 (m : Int))), (93, .v (.int .i64 (p.2 : Int)))]) (fun p => m - p.2) (l, 0) ⟨hlm, Nat.zero_le _, lD⟩ ?_ ?_
      · simp only [hlm, EV, Nat.reduceEqDiff, Nat.reduceBEq, Nat.reduceLT, Nat.reduceLeDiff, Nat.reduceAdd, Nat.reduceSub, reduceIte]
        rfl
      · rintro ⟨l, i⟩ ⟨hlm, him, lD⟩
        simp only at hlm him lD
        simp only [EV, Nat.reduceEqDiff, Nat.reduceBEq, Nat.reduceLT, Nat.reduceLeDiff, Nat.reduceAdd, Nat.reduceSub, reduceIte]
        refine cK_cut (fun h => ?_) (fun h => ?_)
        · have hi : i < m := by have : (i : Int) < (m : Int) := by simpa using h
                                omega
          have hil : i < l.length := by omega
          have hi2 : (i : Int) < (m : Int) := by omega
          have hD := lD _ (List.getElem_mem hil)
          clear h
          refine awp_join (fun l : List Ty => l.length = m ∧ ∀ t ∈ l, TyD m t) (fun l => stl [(0, .box 87 c.z), (3, .usl 40 6 (l.map Ty.o)), (10, .dead), (90, .dead), (91, .sref 3 [] 0 m), (92, .v (.int .i64 (m : Int))), (93, .v (.int .i64 (i : Int)))]) ?_ ?_
          · simp only [hlm, hi, hi2, hil, nth_map hil, Ty.o, EV, Nat.reduceEqDiff, Nat.reduceBEq, Nat.reduceLT, Nat.reduceLeDiff, Nat.reduceAdd, Nat.reduceSub, reduceIte]
            have same : ∃ a : List Ty, (a.length = m ∧ ∀ t ∈ a, TyD m t) ∧ List.map Ty.o l = List.map Ty.o a := ⟨l, ⟨hlm, lD⟩, rfl⟩
            rcases e6 : (l[i].kind == 6) with _ | _
            · simp only [EV, Nat.reduceEqDiff, Nat.reduceBEq, Nat.reduceLT, Nat.reduceLeDiff, Nat.reduceAdd, Nat.reduceSub, reduceIte]
              exact ⟨l, ⟨hlm, lD⟩, rfl⟩
            · have hp := hD.ptr (by simpa using e6)
              have hb : l[i].base.toNat < l.length := by omega
              have hb1 : l[i].base.toNat < m := by omega
              have h4 : i < (l.map Ty.o).length := by simp; exact hil
              simp only [e6, hlm, hi, hi2, hil, hb, hb1, hp.1, hp.2, nth_map hb, Ty.o, EV, Nat.reduceEqDiff, Nat.reduceBEq, Nat.reduceLT, Nat.reduceLeDiff, Nat.reduceAdd, Nat.reduceSub, reduceIte]
              rcases e7 : (l[l[i].base.toNat].kind == 6) with _ | _
              · simp only [EV, Nat.reduceEqDiff, Nat.reduceBEq, Nat.reduceLT, Nat.reduceLeDiff, Nat.reduceAdd, Nat.reduceSub, reduceIte]
                exact ⟨l, ⟨hlm, lD⟩, rfl⟩
              · simp only [hlm, hi, hi2, hil, nth_map hil, nth_set h4, List.getElem?_set_self h4, h4, modify_set, Ty.o, EV, Nat.reduceEqDiff, Nat.reduceBEq, Nat.reduceLT, Nat.reduceLeDiff, Nat.reduceAdd, Nat.reduceSub, reduceIte]
                refine ⟨l.set i ⟨5, l[i].long, -1, l[i].fields, l[i].owner, l[i].name⟩, ⟨by rw [List.length_set]; exact hlm, ?_⟩, ?_⟩
                · intro t ht
                  rcases List.mem_or_eq_of_mem_set ht with h | h
                  · exact lD t h
                  · rw [h]
                    exact ⟨hD.few, hD.names, hD.owner, hD.name, fun h => absurd h (show ¬ (5 : Int) = 6 by decide)⟩
                · rw [List.map_set]
                  rfl
          · rintro l ⟨hlm, lD⟩
            simp only [EV, Nat.reduceEqDiff, Nat.reduceBEq, Nat.reduceLT, Nat.reduceLeDiff, Nat.reduceAdd, Nat.reduceSub, reduceIte]
            rw [w64 _ (by omega)]
            exact ⟨(l, i + 1), ⟨hlm, hi, lD⟩, by simp only; omega, rfl⟩
        · simp only [EV, Nat.reduceEqDiff, Nat.reduceBEq, Nat.reduceLT, Nat.reduceLeDiff, Nat.reduceAdd, Nat.reduceSub, reduceIte]
          simp only [EV, Nat.reduceEqDiff, Nat.reduceBEq, Nat.reduceLT, Nat.reduceLeDiff, Nat.reduceAdd, Nat.reduceSub, reduceIte, evRE, retVC, cellV', evR, nfz, nfzs, nfzss, List.contains_nil, List.contains_cons, Bool.or_false, or_true]
          exact ⟨⟨c, rfl, hc.up (by omega), l, rfl, by omega, by omega, by rw [hlm]; exact lD⟩, Or.inr (Ty.nfz l)⟩
end Go.AM
namespace Go.AM
set_option linter.unusedVariables false
set_option linter.unusedSimpArgs false
theorem modify_get {l : List (List AV)} {i : Nat} {a : List AV} {f : List AV → List AV} (h : l[i]? = some a) : l.modify i f = l.set i (f a) := by
  apply List.ext_getElem?
  intro j
  rw [List.getElem?_modify]
  by_cases hj : i = j
  · subst hj
    have hi : i < l.length := by
      rcases Nat.lt_or_ge i l.length with h1 | h1
      · exact h1
      · rw [List.getElem?_eq_none h1] at h; cases h
    have hl : l[i] = a := by rw [List.getElem?_eq_getElem hi] at h; exact Option.some.inj h
    simp [hi, hl]
  · simp [hj, List.getElem?_set_ne hj]
def Ty.dr (t : Ty) : Prop := t.fields.length ≤ 3 ∧ (∀ f ∈ t.fields, 0 < (f.name.size : Int) ∧ (f.name.size : Int) ≤ 40) ∧ (t.owner.size : Int) ≤ 40 ∧ (t.name.size : Int) ≤ 40
theorem Ty.dr.sm {t : Ty} (h : t.dr) : t.sm := by
  obtain ⟨h1, h2, h3, h4⟩ := h
  exact ⟨trivial, trivial, trivial, ⟨by omega, fun f hf => ⟨by have := (h2 f hf).2; omega, trivial, trivial⟩⟩, by omega, by omega⟩
theorem TyD.dr {n : Int} {t : Ty} (h : TyD n t) : t.dr := ⟨h.few, h.names, h.owner, h.name⟩
theorem set_dr (l : List Ty) {k : Nat} (h : k < l.length) (t : Ty) (ht : t.dr) (hs : ∀ s ∈ l, s.dr) (hl : l.length ≤ 9) : ∃ a : List Ty, (a.length ≤ 9 ∧ ∀ s ∈ a, s.dr) ∧ (l.map Ty.o).set k t.o = a.map Ty.o :=
  ⟨l.set k t, ⟨by rw [List.length_set]; exact hl, fun s hm => (List.mem_or_eq_of_mem_set hm).elim (hs s) (fun e => e ▸ ht)⟩, by rw [List.map_set]⟩
def m53 : MC :=
 (.seq (.reg [Xb 2 (.asg (.nils 40 6))]) (.seq (.reg [Xm 5 0, Xb 6 (.call (.fn 123) false [.io (.t 5)]), Xa 3 6]) (.seq (.reg [Xm 7 0, Xm 8 3, Xn 9 8, Xb 10 (.call (.fn 70) false [.io (.t 7), .lend (.t 9)]), Xa 4 10]) (.join [0, 3, 6, 63, 65, 66] (.seq (.reg [Xm 11 0, Xb 12 (.call (.fn 70) false [.io (.t 11), .lend (.i 30)])]) (.block 0 (.seq (.reg [Xq 14 (.bin false .eql (.t 12) (.i 0)), Xa 13
 14]) (.cond (.t 13) (.reg [Xm 15 3, Xm 16 4, Xi 17 6 15 16, Xf 18 1 17, Xl 19 1 18, Xq 20 (.bin false .add (.t 19) (.i 1)), Xi 21 6 15 16, Xf 22 1 21, Xz (.store 1 (.t 22) (.t 20))]) (.seq (.reg [Xq 24 (.bin false .eql (.t 12) (.i 1)), Xa 23 24]) (.cond (.t 23) (.reg [Xm 25 3, Xm 26 4, Xm 27 0, Xb 28 (.bsl 9 1 [.z #[], .z #[73, 78, 84], .z #[84, 51]]), Xb 29 (.call (.fn 124) false [.io (.t 27),
 .give (.t 28)]), Xi 30 6 25 26, Xf 31 5 30, Xz (.store 1 (.t 31) (.t 29))]) (.seq (.reg [Xq 33 (.bin false .eql (.t 12) (.i 2)), Xa 32 33]) (.cond (.t 32) (.seq (.reg [Xm 34 3, Xm 35 4, Xi 36 6 34 35, Xf 37 3 36, Xl 38 1 37, Xn 39 38, Xq 40 (.bin false .gtr (.t 39) (.i 0))]) (.cond (.t 40) (.mixt [4] [0, 3, 6, 63, 65, 66] [] [] [1] [Xm 42 4] (.step 0 (Xm 41 3) (.step 2 (Xi 43 6 41 42) (.step 3 (Xf
 44 3 43) (.step 5 (Xm 46 0) (.step 6 (Xm 47 3) (.step 7 (Xn 48 47) (.step 8 (Xq 49 (.bin false .add (.t 48) (.i 1))) (.alt (.step 4 (Xl 45 1 44) (.step 9 (Xb 50 (.call (.fn 70) false [.io (.t 46), .lend (.t 49)])) (.step 10 (Xq 51 (.iad 3 (.t 45) (.i 0))) (.step 11 (Xf 52 2 51) (.step 12 (Xz (.store 1 (.t 52) (.t 50))) .nil))))) (.step 9 (Xb 50 (.call (.fn 70) false [.io (.t 46), .lend (.t 49)]))
 (.step 4 (Xl 45 1 44) (.step 10 (Xq 51 (.iad 3 (.t 45) (.i 0))) (.step 11 (Xf 52 2 51) (.step 12 (Xz (.store 1 (.t 52) (.t 50))) .nil)))))))))))))) .skip)) (.seq (.reg [Xq 54 (.bin false .eql (.t 12) (.i 3)), Xa 53 54]) (.cond (.t 53) (.reg [Xm 55 3, Xm 56 4, Xm 57 0, Xb 58 (.call (.fn 70) false [.io (.t 57), .lend (.i 8)]), Xi 59 6 55 56, Xf 60 0 59, Xz (.store 1 (.t 60) (.t 58))]) (.seq (.reg
 [Xq 62 (.bin false .eql (.t 12) (.i 4)), Xa 61 62]) (.cond (.t 61) (.reg [Xm 63 3, Xm 64 0, Xb 65 (.call (.fn 70) false [.io (.t 64), .lend (.i 4)]), Xq 66 (.slc false 6 (.t 63) none (some (.t 65))), Xa 3 66]) .skip)))))))))))) (.seq (.reg [Xm 67 3, Xa 2 67]) .ret)))))
set_option maxHeartbeats 4000000 in
set_option maxRecDepth 100000 in
theorem q53 (c : Cur) (n : Int) (hc : c.ok n) (hn : n ≤ 115292150460) : Draws 53 [] c n 620 fun r => ∃ l : List Ty, r = .usl 40 6 (l.map Ty.o) ∧ l.length ≤ 9 ∧ ∀ t ∈ l, t.dr := by
  refine doesE_intro (mc := m53) (N := 68) (rs := [2]) (fx := [0]) 1 rfl (by decide +kernel) ?_
  simp only [m53, EV, Nat.reduceEqDiff, Nat.reduceBEq, Nat.reduceLT, Nat.reduceLeDiff, Nat.reduceAdd, Nat.reduceSub, reduceIte]
  refine (p123 c n hc hn).call (fun _ => rfl) ?_
  rintro _ c1 hc1 ⟨l, rfl, l3, l9, lD⟩
  have hs : ∀ t ∈ l, t.dr := fun t ht => (lD t ht).dr
  simp only [EV, Nat.reduceEqDiff, Nat.reduceBEq, Nat.reduceLT, Nat.reduceLeDiff, Nat.reduceAdd, Nat.reduceSub, reduceIte]
  refine (p70 c1 _ l.length hc1 (by omega) (by omega)).call (fun _ => rfl) ?_
  rintro _ c2 hc2 ⟨k, rfl, k0, k1, _⟩
  have kl := k1 (by omega)
  have kn : k.toNat < l.length := by omega
  simp only [EV, Nat.reduceEqDiff, Nat.reduceBEq, Nat.reduceLT, Nat.reduceLeDiff, Nat.reduceAdd, Nat.reduceSub, reduceIte]
  refine awp_join (fun p : List Ty × Cur × AV => (p.1.length ≤ 9 ∧ ∀ t ∈ p.1, t.dr) ∧ p.2.1.ok (n + 610)) (fun p => stl [(0, .box 87 p.2.1.z), (3, .usl 40 6 (p.1.map Ty.o)), (6, .dead), (63, .dead), (65, p.2.2), (66, .dead)]) ?_ ?_
  · simp only [EV, Nat.reduceEqDiff, Nat.reduceBEq, Nat.reduceLT, Nat.reduceLeDiff, Nat.reduceAdd, Nat.reduceSub, reduceIte]
    refine (p70 c2 _ 30 hc2 (by omega) (by omega)).call (fun _ => rfl) ?_
    rintro _ c3 hc3 ⟨q, rfl, q0, q1, _⟩
    have hk := hs _ (List.getElem_mem kn)
    have h4 : k.toNat < (l.map Ty.o).length := by simp; exact kn
    simp only [EV, Nat.reduceEqDiff, Nat.reduceBEq, Nat.reduceLT, Nat.reduceLeDiff, Nat.reduceAdd, Nat.reduceSub, reduceIte]
    rcases e0 : (q == 0) with _ | _
    rotate_left
    · simp only [e0, k0, kl, kn, nth_map kn, nth_set h4, List.getElem?_set_self h4, h4, modify_set, Ty.o, EV, Nat.reduceEqDiff, Nat.reduceBEq, Nat.reduceLT, Nat.reduceLeDiff, Nat.reduceAdd, Nat.reduceSub, reduceIte]
      obtain ⟨a, ha, he⟩ := set_dr l kn ⟨l[k.toNat].kind, IntKind.i64.wrap (l[k.toNat].long + 1), l[k.toNat].base, l[k.toNat].fields, l[k.toNat].owner, l[k.toNat].name⟩ (by unfold Ty.dr at hk ⊢; exact hk) hs l9
      exact ⟨(a, c3, .dead), ⟨ha, hc3.up (by omega)⟩, by rw [← he]; rfl⟩
    rcases e1 : (q == 1) with _ | _
    rotate_left
    · simp only [e0, e1, EV, Nat.reduceEqDiff, Nat.reduceBEq, Nat.reduceLT, Nat.reduceLeDiff, Nat.reduceAdd, Nat.reduceSub, reduceIte]
      refine (p124 c3 _ [⟨#[]⟩, ⟨#[73, 78, 84]⟩, ⟨#[84, 51]⟩] hc3 (by omega) (by decide) (by decide)).call (fun _ => rfl) ?_
      rintro _ c4 hc4 ⟨s, hs', rfl⟩
      simp only [e0, k0, kl, kn, nth_map kn, nth_set h4, List.getElem?_set_self h4, h4, modify_set, Ty.o, EV, Nat.reduceEqDiff, Nat.reduceBEq, Nat.reduceLT, Nat.reduceLeDiff, Nat.reduceAdd, Nat.reduceSub, reduceIte]
      have hs1 : (s.size : Int) ≤ 40 := by
        simp only [List.mem_cons, List.not_mem_nil, or_false] at hs'
        rcases hs' with rfl | rfl | rfl <;> decide
      obtain ⟨a, ha, he⟩ := set_dr l kn ⟨l[k.toNat].kind, l[k.toNat].long, l[k.toNat].base, l[k.toNat].fields, l[k.toNat].owner, s⟩ (by unfold Ty.dr at hk ⊢; exact ⟨hk.1, hk.2.1, hk.2.2.1, hs1⟩) hs l9
      exact ⟨(a, c4, .dead), ⟨ha, hc4.up (by omega)⟩, by rw [← he]; rfl⟩
    rcases e2 : (q == 2) with _ | _
    rotate_left
    · simp only [e0, e1, e2, k0, kl, kn, nth_map kn, Ty.o, EV, Nat.reduceEqDiff, Nat.reduceBEq, Nat.reduceLT, Nat.reduceLeDiff, Nat.reduceAdd, Nat.reduceSub, reduceIte]
      rcases f0 : decide (0 < (l[k.toNat].fields.length : Int)) with _ | _
      · simp only [EV, Nat.reduceEqDiff, Nat.reduceBEq, Nat.reduceLT, Nat.reduceLeDiff, Nat.reduceAdd, Nat.reduceSub, reduceIte]
        exact ⟨(l, c3, .dead), ⟨⟨l9, hs⟩, hc3.up (by omega)⟩, rfl⟩
      · have f1 : 0 < l[k.toNat].fields.length := by have : 0 < (l[k.toNat].fields.length : Int) := by simpa using f0
                                                     omega
        have wl := w64 ((l.length : Int) + 1) (by omega)
        have hg : (l.map Ty.o)[k.toNat]? = some [.v (.int .i64 l[k.toNat].kind), .v (.int .i64 l[k.toNat].long), .v (.int .i64 l[k.toNat].base), .usl 97 3 (l[k.toNat].fields.map Fd.o), .v (.string l[k.toNat].owner), .v (.string l[k.toNat].name)] := by simp [kn, Ty.o]
        have f2 : (0 : Int) < (l[k.toNat].fields.length : Int) := by omega
        have f4 : 0 < (l[k.toNat].fields.map Fd.o).length := by simp; exact f1
        simp only [f0, k0, kl, kn, nth_map kn, wl, Ty.o, EV, Nat.reduceEqDiff, Nat.reduceBEq, Nat.reduceLT, Nat.reduceLeDiff, Nat.reduceAdd, Nat.reduceSub, reduceIte]
        refine ⟨?_, ?_⟩
        · refine (p70 c3 _ ((l.length : Int) + 1) hc3 (by omega) (by omega)).call (fun _ => rfl) ?_
          rintro _ c4 hc4 ⟨u, rfl, _⟩
          simp only [hg, modify_get hg, f1, f2, f4, k0, kl, kn, nth_map kn, nth_map f1, nth_set h4, List.getElem?_set_self h4, h4, modify_set, Ty.o, Fd.o, EV, Nat.reduceEqDiff, Nat.reduceBEq, Nat.reduceLT, Nat.reduceLeDiff, Nat.reduceAdd, Nat.reduceSub, reduceIte]
          refine ⟨by omega, ?_⟩
          obtain ⟨a, ha, he⟩ := set_dr l kn ⟨l[k.toNat].kind, l[k.toNat].long, l[k.toNat].base, l[k.toNat].fields.set 0 ⟨l[k.toNat].fields[0].name, l[k.toNat].fields[0].mark, u⟩, l[k.toNat].owner, l[k.toNat].name⟩ (by
            unfold Ty.dr at hk ⊢
            refine ⟨by simpa using hk.1, fun f hf => ?_, hk.2.2.1, hk.2.2.2⟩
            rcases List.mem_or_eq_of_mem_set hf with h | h
            · exact hk.2.1 f h
            · rw [h]
              exact hk.2.1 l[k.toNat].fields[0] (List.getElem_mem f1)) hs l9
          refine ⟨(a, c4, .dead), ⟨ha, hc4.up (by omega)⟩, ?_⟩
          simp only [← he, Ty.o, List.map_set]
          rfl
        · refine (p70 c3 _ ((l.length : Int) + 1) hc3 (by omega) (by omega)).call (fun _ => rfl) ?_
          rintro _ c4 hc4 ⟨u, rfl, _⟩
          simp only [hg, modify_get hg, f1, f2, f4, k0, kl, kn, nth_map kn, nth_map f1, nth_set h4, List.getElem?_set_self h4, h4, modify_set, Ty.o, Fd.o, EV, Nat.reduceEqDiff, Nat.reduceBEq, Nat.reduceLT, Nat.reduceLeDiff, Nat.reduceAdd, Nat.reduceSub, reduceIte]
          refine ⟨by omega, ?_⟩
          obtain ⟨a, ha, he⟩ := set_dr l kn ⟨l[k.toNat].kind, l[k.toNat].long, l[k.toNat].base, l[k.toNat].fields.set 0 ⟨l[k.toNat].fields[0].name, l[k.toNat].fields[0].mark, u⟩, l[k.toNat].owner, l[k.toNat].name⟩ (by
            unfold Ty.dr at hk ⊢
            refine ⟨by simpa using hk.1, fun f hf => ?_, hk.2.2.1, hk.2.2.2⟩
            rcases List.mem_or_eq_of_mem_set hf with h | h
            · exact hk.2.1 f h
            · rw [h]
              exact hk.2.1 l[k.toNat].fields[0] (List.getElem_mem f1)) hs l9
          refine ⟨(a, c4, .dead), ⟨ha, hc4.up (by omega)⟩, ?_⟩
          simp only [← he, Ty.o, List.map_set]
          rfl
    rcases e3 : (q == 3) with _ | _
    rotate_left
    · simp only [e0, e1, e2, e3, EV, Nat.reduceEqDiff, Nat.reduceBEq, Nat.reduceLT, Nat.reduceLeDiff, Nat.reduceAdd, Nat.reduceSub, reduceIte]
      refine (p70 c3 _ 8 hc3 (by omega) (by omega)).call (fun _ => rfl) ?_
      rintro _ c4 hc4 ⟨u, rfl, _⟩
      simp only [e0, k0, kl, kn, nth_map kn, nth_set h4, List.getElem?_set_self h4, h4, modify_set, Ty.o, EV, Nat.reduceEqDiff, Nat.reduceBEq, Nat.reduceLT, Nat.reduceLeDiff, Nat.reduceAdd, Nat.reduceSub, reduceIte]
      obtain ⟨a, ha, he⟩ := set_dr l kn ⟨u, l[k.toNat].long, l[k.toNat].base, l[k.toNat].fields, l[k.toNat].owner, l[k.toNat].name⟩ (by unfold Ty.dr at hk ⊢; exact hk) hs l9
      exact ⟨(a, c4, .dead), ⟨ha, hc4.up (by omega)⟩, by rw [← he]; rfl⟩
    rcases e4' : (q == 4) with _ | _
    rotate_left
    · simp only [e0, e1, e2, e3, e4', EV, Nat.reduceEqDiff, Nat.reduceBEq, Nat.reduceLT, Nat.reduceLeDiff, Nat.reduceAdd, Nat.reduceSub, reduceIte]
      refine (p70 c3 _ 4 hc3 (by omega) (by omega)).call (fun _ => rfl) ?_
      rintro _ c4 hc4 ⟨u, rfl, u0, u1, _⟩
      have u4 := u1 (by omega)
      simp only [EV, Nat.reduceEqDiff, Nat.reduceBEq, Nat.reduceLT, Nat.reduceLeDiff, Nat.reduceAdd, Nat.reduceSub, reduceIte]
      refine ⟨by omega, u0, by omega, (l.take u.toNat, c4, .v (.int .i64 u)), ⟨⟨by simp; omega, fun t ht => hs t (List.mem_of_mem_take ht)⟩, hc4.up (by omega)⟩, ?_⟩
      rw [← List.map_take]
    · simp only [e0, e1, e2, e3, e4', EV, Nat.reduceEqDiff, Nat.reduceBEq, Nat.reduceLT, Nat.reduceLeDiff, Nat.reduceAdd, Nat.reduceSub, reduceIte]
      exact ⟨(l, c3, .dead), ⟨⟨l9, hs⟩, hc3.up (by omega)⟩, rfl⟩
  · rintro ⟨l, c, x65⟩ ⟨⟨l9, hs⟩, hc⟩
    simp only at l9 hs hc
    simp only [EV, Nat.reduceEqDiff, Nat.reduceBEq, Nat.reduceLT, Nat.reduceLeDiff, Nat.reduceAdd, Nat.reduceSub, reduceIte]
    simp only [Ty.nfz, EV, Nat.reduceEqDiff, Nat.reduceBEq, Nat.reduceLT, Nat.reduceLeDiff, Nat.reduceAdd, Nat.reduceSub, reduceIte, evRE, retVC, cellV', evR, nfz, nfzs, nfzss, List.contains_nil, List.contains_cons, Bool.or_false, or_true]
    exact ⟨c, rfl, hc.up (by omega), l, rfl, l9, hs⟩
end Go.AM
namespace Go.AM
set_option linter.unusedVariables false
set_option linter.unusedSimpArgs false
def m140 : MC :=
 (.seq (.reg [Xb 4 (.asg (.i 0))]) (.seq (.reg [Xm 5 1, Xm 6 0, Xm 7 1, Xn 8 7, Xb 9 (.call (.fn 70) false [.io (.t 6), .lend (.t 8)]), Xi 10 1 5 9, Xl 11 1 10, Xa 4 11]) .ret))
theorem p140 (c : Cur) (n : Int) (l : List Int) (hc : c.ok n) (hn : n ≤ 1152921504606846) (h0 : 0 < l.length) (hk : (l.length : Int) ≤ 1048577) :
    Draws 140 [.fsl 1 (l.map iv)] c n 2 fun r => ∃ s ∈ l, r = .v (.int .i64 s) := by
  refine doesE_intro (mc := m140) (N := 12) (rs := [4]) (fx := [0]) 2 rfl (by decide +kernel) ?_
  simp only [m140, EV, Nat.reduceEqDiff, Nat.reduceBEq, Nat.reduceLT, Nat.reduceLeDiff, Nat.reduceAdd, Nat.reduceSub, reduceIte]
  refine (p70 c n l.length hc hn hk).call (fun _ => rfl) ?_
  rintro _ c' hc' ⟨v, rfl, v0, v1, v2⟩
  have hv : v < (l.length : Int) := by
    by_cases h : 1 < (l.length : Int)
    · exact v1 h
    · have := v2 (by omega); omega
  have hn' : v.toNat < l.length := by omega
  simp only [v0, hv, nth_map hn', iv, EV, Nat.reduceEqDiff, Nat.reduceBEq, Nat.reduceLT, Nat.reduceLeDiff, Nat.reduceAdd, Nat.reduceSub, reduceIte]
  simp only [EV, Nat.reduceEqDiff, Nat.reduceBEq, Nat.reduceLT, Nat.reduceLeDiff, Nat.reduceAdd, Nat.reduceSub, reduceIte, evRE, retVC, cellV', evR, nfz, nfzs, nfzss, List.contains_nil, List.contains_cons, Bool.or_false, or_true]
  exact ⟨c', rfl, hc', _, List.getElem_mem hn', rfl⟩
def m202 : MC :=
 (.seq (.reg [Xb 2 (.asg (.i 0))]) (.seq (.reg [Xm 3 0, Xb 4 (.bsl 3 1 [.i 0, .i 1, .i (-1), .i 63, .i (-64), .i 64, .i 127, .i 128, .i (-300), .i 8191, .i 8192, .i 1000000, .i 1000000000, .i (-1000000000)]), Xb 5 (.call (.fn 140) false [.io (.t 3), .give (.t 4)]), Xa 2 5]) .ret))
theorem p202 (c : Cur) (n : Int) (hc : c.ok n) (hn : n ≤ 1152921504606846) :
    Draws 202 [] c n 2 fun r => ∃ s : Int, -1000000000 ≤ s ∧ s ≤ 1000000000 ∧ r = .v (.int .i64 s) := by
  refine doesE_intro (mc := m202) (N := 6) (rs := [2]) (fx := [0]) 1 rfl (by decide +kernel) ?_
  simp only [m202, EV, Nat.reduceEqDiff, Nat.reduceBEq, Nat.reduceLT, Nat.reduceLeDiff, Nat.reduceAdd, Nat.reduceSub, reduceIte]
  refine (p140 c n [0, 1, -1, 63, -64, 64, 127, 128, -300, 8191, 8192, 1000000, 1000000000, -1000000000] hc (by omega) (by decide) (by decide)).call (fun _ => rfl) ?_
  rintro _ c' hc' ⟨v, hv, rfl⟩
  have hb : -1000000000 ≤ v ∧ v ≤ 1000000000 := by
    simp only [List.mem_cons, List.not_mem_nil, or_false] at hv
    omega
  simp only [EV, Nat.reduceEqDiff, Nat.reduceBEq, Nat.reduceLT, Nat.reduceLeDiff, Nat.reduceAdd, Nat.reduceSub, reduceIte]
  simp only [EV, Nat.reduceEqDiff, Nat.reduceBEq, Nat.reduceLT, Nat.reduceLeDiff, Nat.reduceAdd, Nat.reduceSub, reduceIte, evRE, retVC, cellV', evR, nfz, nfzs, nfzss, List.contains_nil, List.contains_cons, Bool.or_false, or_true]
  exact ⟨c', rfl, hc', v, hb.1, hb.2, rfl⟩
end Go.AM
namespace Go.AM
set_option linter.unusedVariables false
set_option linter.unusedSimpArgs false
def Par.dr (p : Par) : Prop := (p.name.size : Int) ≤ 40
def Ob.dr (o : Ob) : Prop := (o.name.size : Int) ≤ 40 ∧ o.params.length ≤ 3 ∧ (∀ p ∈ o.params, p.dr) ∧ -1000000000 ≤ o.value ∧ o.value ≤ 1000000000
def Scope.dr (s : Scope) : Prop := (s.name.size : Int) ≤ 40 ∧ (s.imports.length ≤ 1 ∧ ∀ i ∈ s.imports, (i.s.size : Int) ≤ 40) ∧ (s.types.length ≤ 9 ∧ ∀ t ∈ s.types, t.dr) ∧ (s.objects.length ≤ 5 ∧ ∀ o ∈ s.objects, o.dr) ∧ (s.uses.length ≤ 2 ∧ ∀ u ∈ s.uses, (u.mod.size : Int) ≤ 40 ∧ (u.name.size : Int) ≤ 40)
theorem Par.dr.sm {p : Par} (h : p.dr) : p.sm := by
  unfold Par.dr at h
  exact ⟨by omega, trivial, trivial⟩
theorem Ob.dr.sm {o : Ob} (h : o.dr) : o.sm := by
  obtain ⟨h1, h2, h3, -⟩ := h
  exact ⟨by omega, trivial, trivial, trivial, trivial, by omega, fun p hp => (h3 p hp).sm⟩
theorem Scope.dr.sm {s : Scope} (h : s.dr) : s.sm := by
  obtain ⟨h1, ⟨h2, h3⟩, ⟨h4, h5⟩, ⟨h6, h7⟩, h8, h9⟩ := h
  exact ⟨by omega, ⟨by omega, fun i hi => by have := h3 i hi; show (i.s.size : Int) ≤ 1048576; omega⟩, ⟨by omega, fun t ht => (h5 t ht).sm⟩, ⟨by omega, fun o ho => (h7 o ho).sm⟩, by omega, fun u hu => ⟨by have := (h9 u hu).1; omega, by have := (h9 u hu).2; omega⟩⟩
def m139 : MC :=
 (.seq (.reg [Xb 2 (.alloc 45 [.z, .s 9 1, .s 40 6, .s 52 6, .s 155 2])]) (.seq (.reg [Xm 7 0, Xb 8 (.bsl 9 1 [.z #[65], .z #[66], .z #[77]]), Xb 9 (.call (.fn 124) false [.io (.t 7), .give (.t 8)]), Xm 10 0, Xb 11 (.call (.fn 123) false [.io (.t 10)]), Xb 12 (.build [0, 2] [0, 2] [1, 1] [.z, .s 9 1, .s 40 6, .s 52 6, .s 155 2] [.t 9, .t 11]), Xb 3 (.alloc 45 [.z, .s 9 1, .s 40 6, .s 52 6, .s 155
 2]), Xz (.store 5 (.t 3) (.t 12))]) (.join [0, 2, 3] (.seq (.reg [Xm 13 0, Xb 14 (.call (.fn 76) false [.io (.t 13), .lend (.i 3)])]) (.cond (.t 14) (.seq (.reg [Xb 15 (.bsl 9 1 [.z #[66, 97, 115, 101]]), Xf 16 1 3, Xz (.store 1 (.t 16) (.t 15))]) (.reg [Xb 17 (.build [0, 1] [0, 1] [1, 1] [.z, .z] [.z #[66, 97, 115, 101], .z #[120]]), Xb 18 (.bsl 155 2 [.t 17]), Xf 19 4 3, Xz (.store 1 (.t 19) (.t
 18))])) .skip)) (.seq (.seq (.reg [Xm 20 0, Xb 21 (.call (.fn 70) false [.io (.t 20), .lend (.i 6)]), Xa 4 21]) (.block 0 (.loop [0, 2, 3, 4] (.seq (.seq (.reg [Xm 22 4, Xq 23 (.bin false .gtr (.t 22) (.i 0))]) (.cond (.t 23) .skip (.exit 0))) (.join [0, 2, 3, 4] (.block 1 (.seq (.reg [Xm 26 4, Xb 27 (.call (.fn 183) false [.lend (.t 26)]), Xq 28 (.bin false .add (.z #[111]) (.t 27)), Xm 29 0, Xb
 30 (.call (.fn 70) false [.io (.t 29), .lend (.i 4)]), Xq 31 (.bin false .add (.i 1) (.t 30)), Xm 32 0, Xb 33 (.call (.fn 70) false [.io (.t 32), .lend (.i 2)]), Xb 34 (.build [0, 1, 2] [0, 1, 2] [1, 1, 1] [.z, .i, .i, .i, .i, .s 54 3] [.t 28, .t 31, .t 33]), Xb 5 (.alloc 52 [.z, .i, .i, .i, .i, .s 54 3]), Xz (.store 6 (.t 5) (.t 34))]) (.join [0, 2, 3, 4, 5] (.seq (.reg [Xf 35 1 5, Xl 36 1 35, Xq
 37 (.bin false .neq (.t 36) (.i 1))]) (.cond (.t 37) (.reg [Xm 38 0, Xf 39 2 3, Xl 40 1 39, Xn 41 40, Xb 42 (.call (.fn 70) false [.io (.t 38), .lend (.t 41)]), Xf 43 3 5, Xz (.store 1 (.t 43) (.t 42))]) .skip)) (.join [0, 2, 3, 4, 5] (.seq (.reg [Xf 44 1 5, Xl 45 1 44]) (.block 2 (.seq (.reg [Xq 47 (.bin false .eql (.t 45) (.i 1)), Xa 46 47]) (.cond (.t 46) (.reg [Xm 48 0, Xb 49 (.call (.fn 202)
 false [.io (.t 48)]), Xf 50 4 5, Xz (.store 1 (.t 50) (.t 49))]) (.seq (.reg [Xq 52 (.bin false .eql (.t 45) (.i 3)), Xa 51 52]) (.cond (.t 51) (.reg [Xm 53 0, Xb 54 (.call (.fn 70) false [.io (.t 53), .lend (.i 3)]), Xf 55 2 5, Xz (.store 1 (.t 55) (.t 54))]) (.seq (.reg [Xq 57 (.bin false .eql (.t 45) (.i 4)), Xa 56 57]) (.cond (.t 56) (.seq (.reg [Xm 58 0, Xf 59 2 3, Xl 60 1 59, Xn 61 60, Xq 62
 (.bin false .add (.t 61) (.i 1)), Xb 63 (.call (.fn 70) false [.io (.t 58), .lend (.t 62)]), Xq 64 (.bin false .sub (.t 63) (.i 1)), Xf 65 3 5, Xz (.store 1 (.t 65) (.t 64))]) (.seq (.reg [Xm 66 0, Xb 67 (.call (.fn 70) false [.io (.t 66), .lend (.i 3)]), Xa 6 67]) (.block 3 (.loop [0, 2, 3, 4, 5, 6] (.seq (.seq (.reg [Xm 68 6, Xq 69 (.bin false .gtr (.t 68) (.i 0))]) (.cond (.t 69) .skip (.exit
 3))) (.seq (.block 4 (.mixt [] [0, 2, 3, 4, 5, 6] [] [] [] [] (.step 0 (Xf 72 5 5) (.step 2 (Xm 74 6) (.step 5 (Xm 77 0) (.step 7 (Xm 79 0) (.step 8 (Xf 80 2 3) (.alt (.alt (.step 1 (Xl 73 1 72) (.alt (.step 3 (Xb 75 (.call (.fn 183) false [.lend (.t 74)])) (.step 4 (Xq 76 (.bin false .add (.z #[112]) (.t 75))) (.alt (.step 6 (Xb 78 (.call (.fn 76) false [.io (.t 77), .lend (.i 2)])) (.step 9 (Xl
 81 1 80) (.step 10 (Xn 82 81) (.step 11 (Xb 83 (.call (.fn 70) false [.io (.t 79), .lend (.t 82)])) (.step 12 (Xb 84 (.build [0, 1, 2] [0, 1, 2] [1, 1, 1] [.z, .b, .i] [.t 76, .t 78, .t 83])) (.step 13 (Xb 85 (.bsl 54 3 [.t 84])) (.step 14 (Xb 86 (.app true 54 3 32 (.t 73) (.t 85))) (.step 15 (Xf 87 5 5) (.step 16 (Xz (.store 1 (.t 87) (.t 86))) .nil))))))))) (.step 9 (Xl 81 1 80) (.step 10 (Xn 82
 81) (.step 6 (Xb 78 (.call (.fn 76) false [.io (.t 77), .lend (.i 2)])) (.step 11 (Xb 83 (.call (.fn 70) false [.io (.t 79), .lend (.t 82)])) (.step 12 (Xb 84 (.build [0, 1, 2] [0, 1, 2] [1, 1, 1] [.z, .b, .i] [.t 76, .t 78, .t 83])) (.step 13 (Xb 85 (.bsl 54 3 [.t 84])) (.step 14 (Xb 86 (.app true 54 3 32 (.t 73) (.t 85))) (.step 15 (Xf 87 5 5) (.step 16 (Xz (.store 1 (.t 87) (.t 86)))
 .nil)))))))))))) (.step 9 (Xl 81 1 80) (.step 10 (Xn 82 81) (.step 3 (Xb 75 (.call (.fn 183) false [.lend (.t 74)])) (.step 4 (Xq 76 (.bin false .add (.z #[112]) (.t 75))) (.step 6 (Xb 78 (.call (.fn 76) false [.io (.t 77), .lend (.i 2)])) (.step 11 (Xb 83 (.call (.fn 70) false [.io (.t 79), .lend (.t 82)])) (.step 12 (Xb 84 (.build [0, 1, 2] [0, 1, 2] [1, 1, 1] [.z, .b, .i] [.t 76, .t 78, .t
 83])) (.step 13 (Xb 85 (.bsl 54 3 [.t 84])) (.step 14 (Xb 86 (.app true 54 3 32 (.t 73) (.t 85))) (.step 15 (Xf 87 5 5) (.step 16 (Xz (.store 1 (.t 87) (.t 86))) .nil))))))))))))) (.step 3 (Xb 75 (.call (.fn 183) false [.lend (.t 74)])) (.step 4 (Xq 76 (.bin false .add (.z #[112]) (.t 75))) (.alt (.alt (.step 1 (Xl 73 1 72) (.alt (.step 6 (Xb 78 (.call (.fn 76) false [.io (.t 77), .lend (.i 2)]))
 (.step 9 (Xl 81 1 80) (.step 10 (Xn 82 81) (.step 11 (Xb 83 (.call (.fn 70) false [.io (.t 79), .lend (.t 82)])) (.step 12 (Xb 84 (.build [0, 1, 2] [0, 1, 2] [1, 1, 1] [.z, .b, .i] [.t 76, .t 78, .t 83])) (.step 13 (Xb 85 (.bsl 54 3 [.t 84])) (.step 14 (Xb 86 (.app true 54 3 32 (.t 73) (.t 85))) (.step 15 (Xf 87 5 5) (.step 16 (Xz (.store 1 (.t 87) (.t 86))) .nil))))))))) (.step 9 (Xl 81 1 80)
 (.step 10 (Xn 82 81) (.step 6 (Xb 78 (.call (.fn 76) false [.io (.t 77), .lend (.i 2)])) (.step 11 (Xb 83 (.call (.fn 70) false [.io (.t 79), .lend (.t 82)])) (.step 12 (Xb 84 (.build [0, 1, 2] [0, 1, 2] [1, 1, 1] [.z, .b, .i] [.t 76, .t 78, .t 83])) (.step 13 (Xb 85 (.bsl 54 3 [.t 84])) (.step 14 (Xb 86 (.app true 54 3 32 (.t 73) (.t 85))) (.step 15 (Xf 87 5 5) (.step 16 (Xz (.store 1 (.t 87) (.t
 86))) .nil))))))))))) (.step 6 (Xb 78 (.call (.fn 76) false [.io (.t 77), .lend (.i 2)])) (.alt (.step 1 (Xl 73 1 72) (.step 9 (Xl 81 1 80) (.step 10 (Xn 82 81) (.step 11 (Xb 83 (.call (.fn 70) false [.io (.t 79), .lend (.t 82)])) (.step 12 (Xb 84 (.build [0, 1, 2] [0, 1, 2] [1, 1, 1] [.z, .b, .i] [.t 76, .t 78, .t 83])) (.step 13 (Xb 85 (.bsl 54 3 [.t 84])) (.step 14 (Xb 86 (.app true 54 3 32 (.t
 73) (.t 85))) (.step 15 (Xf 87 5 5) (.step 16 (Xz (.store 1 (.t 87) (.t 86))) .nil))))))))) (.step 9 (Xl 81 1 80) (.step 10 (Xn 82 81) (.alt (.step 1 (Xl 73 1 72) (.step 11 (Xb 83 (.call (.fn 70) false [.io (.t 79), .lend (.t 82)])) (.step 12 (Xb 84 (.build [0, 1, 2] [0, 1, 2] [1, 1, 1] [.z, .b, .i] [.t 76, .t 78, .t 83])) (.step 13 (Xb 85 (.bsl 54 3 [.t 84])) (.step 14 (Xb 86 (.app true 54 3 32
 (.t 73) (.t 85))) (.step 15 (Xf 87 5 5) (.step 16 (Xz (.store 1 (.t 87) (.t 86))) .nil))))))) (.step 11 (Xb 83 (.call (.fn 70) false [.io (.t 79), .lend (.t 82)])) (.alt (.step 1 (Xl 73 1 72) (.step 12 (Xb 84 (.build [0, 1, 2] [0, 1, 2] [1, 1, 1] [.z, .b, .i] [.t 76, .t 78, .t 83])) (.step 13 (Xb 85 (.bsl 54 3 [.t 84])) (.step 14 (Xb 86 (.app true 54 3 32 (.t 73) (.t 85))) (.step 15 (Xf 87 5 5)
 (.step 16 (Xz (.store 1 (.t 87) (.t 86))) .nil)))))) (.step 12 (Xb 84 (.build [0, 1, 2] [0, 1, 2] [1, 1, 1] [.z, .b, .i] [.t 76, .t 78, .t 83])) (.alt (.step 1 (Xl 73 1 72) (.step 13 (Xb 85 (.bsl 54 3 [.t 84])) (.step 14 (Xb 86 (.app true 54 3 32 (.t 73) (.t 85))) (.step 15 (Xf 87 5 5) (.step 16 (Xz (.store 1 (.t 87) (.t 86))) .nil))))) (.step 13 (Xb 85 (.bsl 54 3 [.t 84])) (.step 1 (Xl 73 1 72)
 (.step 14 (Xb 86 (.app true 54 3 32 (.t 73) (.t 85))) (.step 15 (Xf 87 5 5) (.step 16 (Xz (.store 1 (.t 87) (.t 86))) .nil))))))))))))))) (.step 9 (Xl 81 1 80) (.step 10 (Xn 82 81) (.alt (.step 1 (Xl 73 1 72) (.step 6 (Xb 78 (.call (.fn 76) false [.io (.t 77), .lend (.i 2)])) (.step 11 (Xb 83 (.call (.fn 70) false [.io (.t 79), .lend (.t 82)])) (.step 12 (Xb 84 (.build [0, 1, 2] [0, 1, 2] [1, 1,
 1] [.z, .b, .i] [.t 76, .t 78, .t 83])) (.step 13 (Xb 85 (.bsl 54 3 [.t 84])) (.step 14 (Xb 86 (.app true 54 3 32 (.t 73) (.t 85))) (.step 15 (Xf 87 5 5) (.step 16 (Xz (.store 1 (.t 87) (.t 86))) .nil)))))))) (.step 6 (Xb 78 (.call (.fn 76) false [.io (.t 77), .lend (.i 2)])) (.alt (.step 1 (Xl 73 1 72) (.step 11 (Xb 83 (.call (.fn 70) false [.io (.t 79), .lend (.t 82)])) (.step 12 (Xb 84 (.build
 [0, 1, 2] [0, 1, 2] [1, 1, 1] [.z, .b, .i] [.t 76, .t 78, .t 83])) (.step 13 (Xb 85 (.bsl 54 3 [.t 84])) (.step 14 (Xb 86 (.app true 54 3 32 (.t 73) (.t 85))) (.step 15 (Xf 87 5 5) (.step 16 (Xz (.store 1 (.t 87) (.t 86))) .nil))))))) (.step 11 (Xb 83 (.call (.fn 70) false [.io (.t 79), .lend (.t 82)])) (.alt (.step 1 (Xl 73 1 72) (.step 12 (Xb 84 (.build [0, 1, 2] [0, 1, 2] [1, 1, 1] [.z, .b, .i]
 [.t 76, .t 78, .t 83])) (.step 13 (Xb 85 (.bsl 54 3 [.t 84])) (.step 14 (Xb 86 (.app true 54 3 32 (.t 73) (.t 85))) (.step 15 (Xf 87 5 5) (.step 16 (Xz (.store 1 (.t 87) (.t 86))) .nil)))))) (.step 12 (Xb 84 (.build [0, 1, 2] [0, 1, 2] [1, 1, 1] [.z, .b, .i] [.t 76, .t 78, .t 83])) (.alt (.step 1 (Xl 73 1 72) (.step 13 (Xb 85 (.bsl 54 3 [.t 84])) (.step 14 (Xb 86 (.app true 54 3 32 (.t 73) (.t
 85))) (.step 15 (Xf 87 5 5) (.step 16 (Xz (.store 1 (.t 87) (.t 86))) .nil))))) (.step 13 (Xb 85 (.bsl 54 3 [.t 84])) (.step 1 (Xl 73 1 72) (.step 14 (Xb 86 (.app true 54 3 32 (.t 73) (.t 85))) (.step 15 (Xf 87 5 5) (.step 16 (Xz (.store 1 (.t 87) (.t 86))) .nil)))))))))))))))))) (.step 9 (Xl 81 1 80) (.step 10 (Xn 82 81) (.alt (.step 1 (Xl 73 1 72) (.step 3 (Xb 75 (.call (.fn 183) false [.lend
 (.t 74)])) (.step 4 (Xq 76 (.bin false .add (.z #[112]) (.t 75))) (.step 6 (Xb 78 (.call (.fn 76) false [.io (.t 77), .lend (.i 2)])) (.step 11 (Xb 83 (.call (.fn 70) false [.io (.t 79), .lend (.t 82)])) (.step 12 (Xb 84 (.build [0, 1, 2] [0, 1, 2] [1, 1, 1] [.z, .b, .i] [.t 76, .t 78, .t 83])) (.step 13 (Xb 85 (.bsl 54 3 [.t 84])) (.step 14 (Xb 86 (.app true 54 3 32 (.t 73) (.t 85))) (.step 15
 (Xf 87 5 5) (.step 16 (Xz (.store 1 (.t 87) (.t 86))) .nil)))))))))) (.step 3 (Xb 75 (.call (.fn 183) false [.lend (.t 74)])) (.step 4 (Xq 76 (.bin false .add (.z #[112]) (.t 75))) (.alt (.step 1 (Xl 73 1 72) (.step 6 (Xb 78 (.call (.fn 76) false [.io (.t 77), .lend (.i 2)])) (.step 11 (Xb 83 (.call (.fn 70) false [.io (.t 79), .lend (.t 82)])) (.step 12 (Xb 84 (.build [0, 1, 2] [0, 1, 2] [1, 1,
 1] [.z, .b, .i] [.t 76, .t 78, .t 83])) (.step 13 (Xb 85 (.bsl 54 3 [.t 84])) (.step 14 (Xb 86 (.app true 54 3 32 (.t 73) (.t 85))) (.step 15 (Xf 87 5 5) (.step 16 (Xz (.store 1 (.t 87) (.t 86))) .nil)))))))) (.step 6 (Xb 78 (.call (.fn 76) false [.io (.t 77), .lend (.i 2)])) (.alt (.step 1 (Xl 73 1 72) (.step 11 (Xb 83 (.call (.fn 70) false [.io (.t 79), .lend (.t 82)])) (.step 12 (Xb 84 (.build
 [0, 1, 2] [0, 1, 2] [1, 1, 1] [.z, .b, .i] [.t 76, .t 78, .t 83])) (.step 13 (Xb 85 (.bsl 54 3 [.t 84])) (.step 14 (Xb 86 (.app true 54 3 32 (.t 73) (.t 85))) (.step 15 (Xf 87 5 5) (.step 16 (Xz (.store 1 (.t 87) (.t 86))) .nil))))))) (.step 11 (Xb 83 (.call (.fn 70) false [.io (.t 79), .lend (.t 82)])) (.alt (.step 1 (Xl 73 1 72) (.step 12 (Xb 84 (.build [0, 1, 2] [0, 1, 2] [1, 1, 1] [.z, .b, .i]
 [.t 76, .t 78, .t 83])) (.step 13 (Xb 85 (.bsl 54 3 [.t 84])) (.step 14 (Xb 86 (.app true 54 3 32 (.t 73) (.t 85))) (.step 15 (Xf 87 5 5) (.step 16 (Xz (.store 1 (.t 87) (.t 86))) .nil)))))) (.step 12 (Xb 84 (.build [0, 1, 2] [0, 1, 2] [1, 1, 1] [.z, .b, .i] [.t 76, .t 78, .t 83])) (.alt (.step 1 (Xl 73 1 72) (.step 13 (Xb 85 (.bsl 54 3 [.t 84])) (.step 14 (Xb 86 (.app true 54 3 32 (.t 73) (.t
 85))) (.step 15 (Xf 87 5 5) (.step 16 (Xz (.store 1 (.t 87) (.t 86))) .nil))))) (.step 13 (Xb 85 (.bsl 54 3 [.t 84])) (.step 1 (Xl 73 1 72) (.step 14 (Xb 86 (.app true 54 3 32 (.t 73) (.t 85))) (.step 15 (Xf 87 5 5) (.step 16 (Xz (.store 1 (.t 87) (.t 86))) .nil))))))))))))))))))))))))) (.reg [Xm 70 6, Xq 71 (.bin false .sub (.t 70) (.i 1)), Xa 6 71]))))))) .skip)))))))) (.reg [Xf 88 3 3, Xl 89 1
 88, XL 90 6 5, Xb 91 (.bsl 52 6 [.t 90]), Xb 92 (.app true 52 6 72 (.t 89) (.t 91)), Xf 93 3 3, Xz (.store 1 (.t 93) (.t 92))]))))) (.reg [Xm 24 4, Xq 25 (.bin false .sub (.t 24) (.i 1)), Xa 4 25])))))) (.seq (.reg [XL 94 5 3, Xz (.store 5 (.t 2) (.t 94))]) .ret)))))
set_option maxHeartbeats 4000000 in
set_option maxRecDepth 100000 in
theorem p139 (c : Cur) (n : Int) (hc : c.ok n) (hn : n ≤ 100000000000) : Draws 139 [] c n 900 fun r => ∃ s : Scope, r = .agg s.o ∧ 3 ≤ s.types.length ∧ s.dr ∧ s.uses.length ≤ 1 := by
  refine doesM_intro (mc := m139) (N := 95) (rs := [.c 2 45 true 5]) (fx := [0]) 1 rfl (by decide +kernel) ?_
  simp only [m139, EV, Nat.reduceEqDiff, Nat.reduceBEq, Nat.reduceLT, Nat.reduceLeDiff, Nat.reduceAdd, Nat.reduceSub, reduceIte]
  refine (p124 c n [⟨#[65]⟩, ⟨#[66]⟩, ⟨#[77]⟩] hc (by omega) (by decide) (by decide)).call (fun _ => rfl) ?_
  rintro _ c1 hc1 ⟨nm, hnm, rfl⟩
  have hnm1 : (nm.size : Int) ≤ 40 := by
    simp only [List.mem_cons, List.not_mem_nil, or_false] at hnm
    rcases hnm with rfl | rfl | rfl <;> decide
  simp only [EV, Nat.reduceEqDiff, Nat.reduceBEq, Nat.reduceLT, Nat.reduceLeDiff, Nat.reduceAdd, Nat.reduceSub, reduceIte]
  refine (p123 c1 _ hc1 (by omega)).call (fun _ => rfl) ?_
  rintro _ c2 hc2 ⟨l, rfl, l3, l9, lD⟩
  have lS : ∀ t ∈ l, t.dr := fun t ht => (lD t ht).dr
  simp only [EV, Nat.reduceEqDiff, Nat.reduceBEq, Nat.reduceLT, Nat.reduceLeDiff, Nat.reduceAdd, Nat.reduceSub, reduceIte]
  refine awp_join (fun p : List Str × List Us × Cur => (p.1.length ≤ 1 ∧ ∀ i ∈ p.1, (i.s.size : Int) ≤ 40) ∧ (p.2.1.length ≤ 1 ∧ ∀ u ∈ p.2.1, (u.mod.size : Int) ≤ 40 ∧ (u.name.size : Int) ≤ 40) ∧ p.2.2.ok (n + 604)) (fun p => stl [(0, .box 87 p.2.2.z), (2, .box 45 Scope.zr), (3, .box 45 (Scope.o ⟨nm, p.1, l, [], p.2.1⟩))]) ?_ ?_
  · simp only [EV, Nat.reduceEqDiff, Nat.reduceBEq, Nat.reduceLT, Nat.reduceLeDiff, Nat.reduceAdd, Nat.reduceSub, reduceIte]
    refine (p76 c2 _ 3 hc2 (by omega) (by omega)).call (fun _ => rfl) ?_
    rintro _ c3 hc3 ⟨b, rfl⟩
    cases b
    · simp only [EV, Nat.reduceEqDiff, Nat.reduceBEq, Nat.reduceLT, Nat.reduceLeDiff, Nat.reduceAdd, Nat.reduceSub, reduceIte]
      exact ⟨([], [], c3), ⟨⟨by simp, by simp⟩, ⟨by simp, by simp⟩, hc3.up (by omega)⟩, rfl⟩
    · simp only [EV, Nat.reduceEqDiff, Nat.reduceBEq, Nat.reduceLT, Nat.reduceLeDiff, Nat.reduceAdd, Nat.reduceSub, reduceIte]
      exact ⟨([⟨⟨#[66, 97, 115, 101]⟩⟩], [⟨⟨#[66, 97, 115, 101]⟩, ⟨#[120]⟩⟩], c3), ⟨⟨by simp, fun i hi => by rw [List.mem_singleton] at hi; rw [hi]; decide⟩, ⟨by simp, fun i hi => by rw [List.mem_singleton] at hi; rw [hi]; exact ⟨by decide, by decide⟩⟩, hc3.up (by omega)⟩, rfl⟩
  rintro ⟨im, us, c3⟩ ⟨him, hus, hc3⟩
  simp only at him hus hc3
  simp only [Scope.o, List.map_nil, EV, Nat.reduceEqDiff, Nat.reduceBEq, Nat.reduceLT, Nat.reduceLeDiff, Nat.reduceAdd, Nat.reduceSub, reduceIte]
  refine (p70 c3 _ 6 hc3 (by omega) (by omega)).call (fun _ => rfl) ?_
  rintro _ c4 hc4 ⟨m, rfl, m0, m1, _⟩
  have m6 := m1 (by omega)
  simp only [EV, Nat.reduceEqDiff, Nat.reduceBEq, Nat.reduceLT, Nat.reduceLeDiff, Nat.reduceAdd, Nat.reduceSub, reduceIte]
  refine awp_loop (fun p : List Ob × Int × Cur => (p.1.length : Int) + p.2.1 ≤ 5 ∧ 0 ≤ p.2.1 ∧ (∀ o ∈ p.1, o.dr) ∧ p.2.2.ok (n + 610 + 30 * p.1.length)) (fun p => stl [(0, .box 87 p.2.2.z), (2, .box 45 Scope.zr), (3, .box 45 (Scope.o ⟨nm, im, l, p.1, us⟩)), (4, .v (.int .i64 p.2.1))]) (fun p => p.2.1.toNat) ([], m, c4) ⟨by simp; omega, m0, by simp, hc4.up (by simp; omega)⟩ ?_ ?_
  · simp only [Scope.o, List.map_nil, EV, Nat.reduceEqDiff, Nat.reduceBEq, Nat.reduceLT, Nat.reduceLeDiff, Nat.reduceAdd, Nat.reduceSub, reduceIte]
  rintro ⟨os, k, c5⟩ ⟨g1, g2, g3, hc5⟩
  simp only at g1 g2 g3 hc5
  simp only [Scope.o, EV, Nat.reduceEqDiff, Nat.reduceBEq, Nat.reduceLT, Nat.reduceLeDiff, Nat.reduceAdd, Nat.reduceSub, reduceIte]
  refine cK_cut (fun h => ?_) (fun h => ?_)
  · have hk : 0 < k := by simpa using h
    clear h
    refine awp_join (fun p : Ob × Cur => p.1.dr ∧ p.2.ok (n + 610 + 30 * os.length + 29)) (fun p => stl [(0, .box 87 p.2.z), (2, .box 45 Scope.zr), (3, .box 45 (Scope.o ⟨nm, im, l, os ++ [p.1], us⟩)), (4, .v (.int .i64 k))]) ?_ ?_
    · simp only [EV, Nat.reduceEqDiff, Nat.reduceBEq, Nat.reduceLT, Nat.reduceLeDiff, Nat.reduceAdd, Nat.reduceSub, reduceIte]
      refine n183 (by omega) (by omega) fun on hon => ?_
      simp only [EV, Nat.reduceEqDiff, Nat.reduceBEq, Nat.reduceLT, Nat.reduceLeDiff, Nat.reduceAdd, Nat.reduceSub, reduceIte]
      have h111 : ((⟨#[111]⟩ : ByteArray).size : Nat) = 1 := rfl
      refine ⟨by rw [h111]; omega, ?_⟩
      have hon1 : ((⟨#[111]⟩ ++ on : ByteArray).size : Int) ≤ 40 := by
        rw [ByteArray.size_append, h111]; omega
      generalize (⟨#[111]⟩ ++ on : ByteArray) = onm at hon1
      refine (p70 c5 _ 4 hc5 (by omega) (by omega)).call (fun _ => rfl) ?_
      rintro _ c6 hc6 ⟨kd, rfl, k0, k1, _⟩
      have k4 := k1 (by omega)
      have hwk : IntKind.i64.wrap (1 + kd) = 1 + kd := w64 _ (by omega)
      obtain ⟨q, hq⟩ : ∃ q : Int, 1 + kd = q := ⟨_, rfl⟩
      have hwq : IntKind.i64.wrap q = q := w64 _ (by omega)
      simp only [hq, hwq, EV, Nat.reduceEqDiff, Nat.reduceBEq, Nat.reduceLT, Nat.reduceLeDiff, Nat.reduceAdd, Nat.reduceSub, reduceIte]
      refine (p70 c6 _ 2 hc6 (by omega) (by omega)).call (fun _ => rfl) ?_
      rintro _ c7 hc7 ⟨mk, rfl, _⟩
      simp only [EV, Nat.reduceEqDiff, Nat.reduceBEq, Nat.reduceLT, Nat.reduceLeDiff, Nat.reduceAdd, Nat.reduceSub, reduceIte]
      refine awp_join (fun p : Int × Cur => p.2.ok (n + 610 + 30 * os.length + 8)) (fun p => stl [(0, .box 87 p.2.z), (2, .box 45 Scope.zr), (3, .box 45 (Scope.o ⟨nm, im, l, os, us⟩)), (4, .v (.int .i64 k)), (5, .box 52 (Ob.o ⟨onm, q, mk, p.1, 0, []⟩))]) ?_ ?_
      · simp only [EV, Nat.reduceEqDiff, Nat.reduceBEq, Nat.reduceLT, Nat.reduceLeDiff, Nat.reduceAdd, Nat.reduceSub, reduceIte]
        have hne : (q != 1) = !(q == 1) := rfl
        rw [hne]
        rcases e1 : (q == 1) with _ | _
        · simp only [Bool.not_false, Scope.o, EV, Nat.reduceEqDiff, Nat.reduceBEq, Nat.reduceLT, Nat.reduceLeDiff, Nat.reduceAdd, Nat.reduceSub, reduceIte]
          refine (p70 c7 _ l.length hc7 (by omega) (by omega)).call (fun _ => rfl) ?_
          rintro _ c8 hc8 ⟨ty, rfl, _⟩
          simp only [Ob.o, List.map_nil, EV, Nat.reduceEqDiff, Nat.reduceBEq, Nat.reduceLT, Nat.reduceLeDiff, Nat.reduceAdd, Nat.reduceSub, reduceIte]
          exact ⟨(ty, c8), hc8.up (by omega), rfl⟩
        · simp only [Bool.not_true, Scope.o, EV, Nat.reduceEqDiff, Nat.reduceBEq, Nat.reduceLT, Nat.reduceLeDiff, Nat.reduceAdd, Nat.reduceSub, reduceIte]
          exact ⟨(0, c7), hc7.up (by omega), rfl⟩
      rintro ⟨ty, c8⟩ hc8
      simp only at hc8
      simp only [Ob.o, List.map_nil, EV, Nat.reduceEqDiff, Nat.reduceBEq, Nat.reduceLT, Nat.reduceLeDiff, Nat.reduceAdd, Nat.reduceSub, reduceIte]
      refine awp_join (fun p : Ob × Cur => p.1.dr ∧ p.2.ok (n + 610 + 30 * os.length + 29)) (fun p => stl [(0, .box 87 p.2.z), (2, .box 45 Scope.zr), (3, .box 45 (Scope.o ⟨nm, im, l, os, us⟩)), (4, .v (.int .i64 k)), (5, .box 52 p.1.o)]) ?_ ?_
      · simp only [EV, Nat.reduceEqDiff, Nat.reduceBEq, Nat.reduceLT, Nat.reduceLeDiff, Nat.reduceAdd, Nat.reduceSub, reduceIte]
        rcases e1 : (q == 1) with _ | _
        rotate_left
        · simp only [e1, EV, Nat.reduceEqDiff, Nat.reduceBEq, Nat.reduceLT, Nat.reduceLeDiff, Nat.reduceAdd, Nat.reduceSub, reduceIte]
          refine (p202 c8 _ hc8 (by omega)).call (fun _ => rfl) ?_
          rintro _ c9 hc9 ⟨w, w0, w1, rfl⟩
          simp only [Ob.o, List.map_nil, EV, Nat.reduceEqDiff, Nat.reduceBEq, Nat.reduceLT, Nat.reduceLeDiff, Nat.reduceAdd, Nat.reduceSub, reduceIte]
          exact ⟨(⟨onm, q, mk, ty, w, []⟩, c9), ⟨⟨hon1, by simp, by simp, w0, w1⟩, hc9.up (by omega)⟩, rfl⟩
        rcases e3 : (q == 3) with _ | _
        rotate_left
        · simp only [e1, e3, EV, Nat.reduceEqDiff, Nat.reduceBEq, Nat.reduceLT, Nat.reduceLeDiff, Nat.reduceAdd, Nat.reduceSub, reduceIte]
          refine (p70 c8 _ 3 hc8 (by omega) (by omega)).call (fun _ => rfl) ?_
          rintro _ c9 hc9 ⟨w, rfl, _⟩
          simp only [Ob.o, List.map_nil, EV, Nat.reduceEqDiff, Nat.reduceBEq, Nat.reduceLT, Nat.reduceLeDiff, Nat.reduceAdd, Nat.reduceSub, reduceIte]
          exact ⟨(⟨onm, q, w, ty, 0, []⟩, c9), ⟨⟨hon1, by simp, by simp, by simp only; decide, by simp only; decide⟩, hc9.up (by omega)⟩, rfl⟩
        rcases e4 : (q == 4) with _ | _
        · simp only [e1, e3, e4, EV, Nat.reduceEqDiff, Nat.reduceBEq, Nat.reduceLT, Nat.reduceLeDiff, Nat.reduceAdd, Nat.reduceSub, reduceIte]
          exact ⟨(⟨onm, q, mk, ty, 0, []⟩, c8), ⟨⟨hon1, by simp, by simp, by simp only; decide, by simp only; decide⟩, hc8.up (by omega)⟩, rfl⟩
        have wl := w64 ((l.length : Int) + 1) (by omega)
        simp only [e1, e3, e4, wl, Scope.o, EV, Nat.reduceEqDiff, Nat.reduceBEq, Nat.reduceLT, Nat.reduceLeDiff, Nat.reduceAdd, Nat.reduceSub, reduceIte]
        refine (p70 c8 _ ((l.length : Int) + 1) hc8 (by omega) (by omega)).call (fun _ => rfl) ?_
        rintro _ c9 hc9 ⟨w, rfl, _⟩
        simp only [Ob.o, List.map_nil, EV, Nat.reduceEqDiff, Nat.reduceBEq, Nat.reduceLT, Nat.reduceLeDiff, Nat.reduceAdd, Nat.reduceSub, reduceIte]
        refine (p70 c9 _ 3 hc9 (by omega) (by omega)).call (fun _ => rfl) ?_
        rintro _ c10 hc10 ⟨k2, rfl, k20, k21, _⟩
        have k23 := k21 (by omega)
        simp only [EV, Nat.reduceEqDiff, Nat.reduceBEq, Nat.reduceLT, Nat.reduceLeDiff, Nat.reduceAdd, Nat.reduceSub, reduceIte]
        generalize IntKind.i64.wrap (w - 1) = rt
        refine awp_loop (fun p : List Par × Int × Cur => (p.1.length : Int) + p.2.1 ≤ 2 ∧ 0 ≤ p.2.1 ∧ (∀ f ∈ p.1, f.dr) ∧ p.2.2.ok (n + 610 + 30 * os.length + 14 + 6 * p.1.length)) (fun p => stl [(0, .box 87 p.2.2.z), (2, .box 45 Scope.zr), (3, .box 45 (Scope.o ⟨nm, im, l, os, us⟩)), (4, .v (.int .i64 k)), (5, .box 52 (Ob.o ⟨onm, q, mk, rt, 0, p.1⟩)), (6, .v (.int .i64 p.2.1))]) (fun p => p.2.1.toNat) ([], k2, c10) ⟨by simp; omega, k20, by simp, hc10.up (by simp; omega)⟩ ?_ ?_
        · simp only [Ob.o, List.map_nil, Scope.o, EV, Nat.reduceEqDiff, Nat.reduceBEq, Nat.reduceLT, Nat.reduceLeDiff, Nat.reduceAdd, Nat.reduceSub, reduceIte]
        rintro ⟨ps, k3, c11⟩ ⟨r1, r2, r3, hc11⟩
        simp only at r1 r2 r3 hc11
        simp only [Ob.o, Scope.o, EV, Nat.reduceEqDiff, Nat.reduceBEq, Nat.reduceLT, Nat.reduceLeDiff, Nat.reduceAdd, Nat.reduceSub, reduceIte]
        refine cK_cut (fun h => ?_) (fun h => ?_)
        · have hk3 : 0 < k3 := by simpa using h
          clear h
          have h112 : ((⟨#[112]⟩ : ByteArray).size : Nat) = 1 := rfl
          have wk := w64 (k3 - 1) (by omega)
          simp only [wk, EV, Nat.reduceEqDiff, Nat.reduceBEq, Nat.reduceLT, Nat.reduceLeDiff, Nat.reduceAdd, Nat.reduceSub, reduceIte]
          have ld : ∀ (pn : ByteArray) (u : Bool) (v : Int) (c' : Cur), (pn.size : Int) ≤ k3 + 1 → c'.ok (n + 610 + 30 * os.length + 14 + 6 * ps.length + 2 + 2) →
              (((ps ++ [(⟨⟨#[112]⟩ ++ pn, u, v⟩ : Par)]).length : Int) + (k3 - 1) ≤ 2 ∧ 0 ≤ k3 - 1 ∧ (∀ f ∈ ps ++ [(⟨⟨#[112]⟩ ++ pn, u, v⟩ : Par)], f.dr) ∧ c'.ok (n + 610 + 30 * os.length + 14 + 6 * (ps ++ [(⟨⟨#[112]⟩ ++ pn, u, v⟩ : Par)]).length)) := by
            intro pn u v c' hpn hc'
            refine ⟨by simp; omega, by omega, ?_, hc'.up (by simp; omega)⟩
            intro f hf
            rcases List.mem_append.1 hf with hf | hf
            · exact r3 f hf
            · rw [List.mem_singleton] at hf
              rw [hf]
              simp only [Par.dr, ByteArray.size_append, h112]; omega
          have lm1 : ∀ (pn : ByteArray) (u : Bool) (v : Int), List.map Par.o ps ++ [[AV.v (.string (⟨#[112]⟩ ++ pn)), AV.v (.bool u), AV.v (.int .i64 v)]] = List.map Par.o (ps ++ [⟨⟨#[112]⟩ ++ pn, u, v⟩]) := fun pn u v => by rw [List.map_append]; rfl
          repeat' first
            | (refine n183 (by omega) (by omega) fun pn hpn => ?_; simp only [EV, Nat.reduceEqDiff, Nat.reduceBEq, Nat.reduceLT, Nat.reduceLeDiff, Nat.reduceAdd, Nat.reduceSub, reduceIte]; refine ⟨by rw [h112]; omega, ?_⟩)
            | (refine (p76 c11 _ 2 hc11 (by omega) (by omega)).call (fun _ => rfl) ?_; rintro _ c12 hc12 ⟨u, rfl⟩; simp only [EV, Nat.reduceEqDiff, Nat.reduceBEq, Nat.reduceLT, Nat.reduceLeDiff, Nat.reduceAdd, Nat.reduceSub, reduceIte])
            | (refine (p70 c12 _ l.length hc12 (by omega) (by omega)).call (fun _ => rfl) ?_; rintro _ c13 hc13 ⟨v, rfl, _⟩; simp only [wk, Ob.o, lm1, EV, Nat.reduceEqDiff, Nat.reduceBEq, Nat.reduceLT, Nat.reduceLeDiff, Nat.reduceAdd, Nat.reduceSub, reduceIte])
            | exact ⟨by omega, by omega, (ps ++ [⟨⟨#[112]⟩ ++ pn, u, v⟩], k3 - 1, c13), ld pn u v c13 hpn hc13, by simp only; omega, rfl⟩
            | refine And.intro ?_ ?_
        · simp only [EV, Nat.reduceEqDiff, Nat.reduceBEq, Nat.reduceLT, Nat.reduceLeDiff, Nat.reduceAdd, Nat.reduceSub, reduceIte]
          exact ⟨(⟨onm, q, mk, rt, 0, ps⟩, c11), ⟨⟨hon1, by simp only; omega, r3, by simp only; decide, by simp only; decide⟩, hc11.up (by omega)⟩, rfl⟩
      rintro ⟨o, c9⟩ ⟨ho, hc9⟩
      simp only at ho hc9
      simp only [Ob.o, Scope.o, EV, Nat.reduceEqDiff, Nat.reduceBEq, Nat.reduceLT, Nat.reduceLeDiff, Nat.reduceAdd, Nat.reduceSub, reduceIte]
      refine ⟨by omega, by omega, (o, c9), ⟨ho, hc9⟩, ?_⟩
      simp only [Scope.o, List.map_append, List.map_cons, List.map_nil, Ob.o]
    rintro ⟨o, c6⟩ ⟨ho, hc6⟩
    simp only at ho hc6
    have wk := w64 (k - 1) (by omega)
    simp only [Scope.o, wk, EV, Nat.reduceEqDiff, Nat.reduceBEq, Nat.reduceLT, Nat.reduceLeDiff, Nat.reduceAdd, Nat.reduceSub, reduceIte]
    refine ⟨(os ++ [o], k - 1, c6), ⟨by simp only [List.length_append, List.length_singleton]; omega, by simp only; omega, ?_, hc6.up (by simp only [List.length_append, List.length_singleton]; omega)⟩, by simp only; omega, rfl⟩
    intro x hx
    rcases List.mem_append.1 hx with hx | hx
    · exact g3 x hx
    · rw [List.mem_singleton] at hx; rw [hx]; exact ho
  · simp only [EV, Nat.reduceEqDiff, Nat.reduceBEq, Nat.reduceLT, Nat.reduceLeDiff, Nat.reduceAdd, Nat.reduceSub, reduceIte]
    simp only [Str.nfz, Ty.nfz, Ob.nfz, Us.nfz, pbeq, evRM, EV, Nat.reduceEqDiff, Nat.reduceBEq, Nat.reduceLT, Nat.reduceLeDiff, Nat.reduceAdd, Nat.reduceSub, reduceIte, evRE, retVC, cellV', evR, nfz, nfzs, nfzss, List.contains_nil, List.contains_cons, Bool.or_false, or_true]
    refine ⟨by decide, by decide, ?_⟩
    exact ⟨⟨c5, rfl, hc5.up (by omega), ⟨nm, im, l, os, us⟩, rfl, l3, ⟨hnm1, him, ⟨l9, lS⟩, ⟨by simp only; omega, g3⟩, by have := hus.1; simp only; omega, hus.2⟩, hus.1⟩, Or.inr (by decide)⟩
end Go.AM
namespace Go.AM
set_option linter.unusedVariables false
set_option linter.unusedSimpArgs false
theorem Ob.dr.typ {o : Ob} (h : o.dr) (t : Int) : Ob.dr ⟨o.name, o.kind, o.mark, t, o.value, o.params⟩ := h
def m74 : MC :=
 (.seq (.reg [Xb 2 (.alloc 45 [.z, .s 9 1, .s 40 6, .s 52 6, .s 155 2])]) (.seq (.reg [Xm 4 0, Xb 5 (.call (.fn 139) false [.io (.t 4)]), Xb 3 (.alloc 45 [.z, .s 9 1, .s 40 6, .s 52 6, .s 155 2]), Xz (.store 5 (.t 3) (.t 5))]) (.join [0, 2, 3] (.seq (.reg [Xm 6 0, Xb 7 (.call (.fn 70) false [.io (.t 6), .lend (.i 30)])]) (.block 0 (.seq (.reg [Xq 9 (.bin false .eql (.t 7) (.i 0)), Xa 8 9]) (.cond
 (.t 8) (.reg [Xm 10 0, Xb 11 (.bsl 9 1 [.z #[], .z #[49], .z #[66, 97, 115, 101]]), Xb 12 (.call (.fn 124) false [.io (.t 10), .give (.t 11)]), Xf 13 0 3, Xz (.store 1 (.t 13) (.t 12))]) (.seq (.reg [Xq 15 (.bin false .eql (.t 7) (.i 1)), Xa 14 15]) (.cond (.t 14) (.seq (.reg [Xf 16 3 3, Xl 17 1 16, Xn 18 17, Xq 19 (.bin false .gtr (.t 18) (.i 0))]) (.cond (.t 19) (.mixt [] [0, 2, 3] [] [] [] []
 (.step 0 (Xf 20 3 3) (.step 2 (Xm 22 0) (.alt (.step 1 (Xl 21 1 20) (.step 3 (Xb 23 (.bsl 3 1 [.i (-1), .i 24, .i 0])) (.step 4 (Xb 24 (.call (.fn 140) false [.io (.t 22), .give (.t 23)])) (.step 5 (Xq 25 (.iad 6 (.t 21) (.i 0))) (.step 6 (Xf 26 3 25) (.step 7 (Xz (.store 1 (.t 26) (.t 24))) .nil)))))) (.step 3 (Xb 23 (.bsl 3 1 [.i (-1), .i 24, .i 0])) (.alt (.step 1 (Xl 21 1 20) (.step 4 (Xb 24
 (.call (.fn 140) false [.io (.t 22), .give (.t 23)])) (.step 5 (Xq 25 (.iad 6 (.t 21) (.i 0))) (.step 6 (Xf 26 3 25) (.step 7 (Xz (.store 1 (.t 26) (.t 24))) .nil))))) (.step 4 (Xb 24 (.call (.fn 140) false [.io (.t 22), .give (.t 23)])) (.step 1 (Xl 21 1 20) (.step 5 (Xq 25 (.iad 6 (.t 21) (.i 0))) (.step 6 (Xf 26 3 25) (.step 7 (Xz (.store 1 (.t 26) (.t 24))) .nil))))))))))) .skip)) (.seq (.reg
 [Xq 28 (.bin false .eql (.t 7) (.i 2)), Xa 27 28]) (.cond (.t 27) (.reg [Xf 29 4 3, Xl 30 1 29, Xb 31 (.build [0, 1] [0, 1] [1, 1] [.z, .z] [.z #[67], .z #[120]]), Xb 32 (.bsl 155 2 [.t 31]), Xb 33 (.app true 155 2 32 (.t 30) (.t 32)), Xf 34 4 3, Xz (.store 1 (.t 34) (.t 33))]) (.seq (.reg [Xq 36 (.bin false .eql (.t 7) (.i 3)), Xa 35 36]) (.cond (.t 35) (.reg [Xm 37 0, Xb 38 (.call (.fn 53) false
 [.io (.t 37)]), Xf 39 2 3, Xz (.store 1 (.t 39) (.t 38))]) .skip)))))))))) (.seq (.reg [XL 40 5 3, Xz (.store 5 (.t 2) (.t 40))]) .ret))))
set_option maxHeartbeats 4000000 in
set_option maxRecDepth 100000 in
theorem p74 (c : Cur) (n : Int) (hc : c.ok n) (hn : n ≤ 10000000000) : Draws 74 [] c n 2000 fun r => ∃ s : Scope, r = .agg s.o ∧ s.dr := by
  refine doesM_intro (mc := m74) (N := 41) (rs := [.c 2 45 true 5]) (fx := [0]) 1 rfl (by decide +kernel) ?_
  simp only [m74, EV, Nat.reduceEqDiff, Nat.reduceBEq, Nat.reduceLT, Nat.reduceLeDiff, Nat.reduceAdd, Nat.reduceSub, reduceIte]
  refine (p139 c n hc (by omega)).call (fun _ => rfl) ?_
  rintro _ c1 hc1 ⟨⟨nm, im, l, os, us⟩, rfl, l3, hS, hu1⟩
  simp only at l3 hS hu1
  obtain ⟨s1, s2, s3, s4, s5⟩ := hS
  simp only at s1 s2 s3 s4 s5
  simp only [Scope.o, EV, Nat.reduceEqDiff, Nat.reduceBEq, Nat.reduceLT, Nat.reduceLeDiff, Nat.reduceAdd, Nat.reduceSub, reduceIte]
  refine awp_join (fun p : Scope × Cur => p.1.dr ∧ p.2.ok (n + 1600)) (fun p => stl [(0, .box 87 p.2.z), (2, .box 45 Scope.zr), (3, .box 45 p.1.o)]) ?_ ?_
  · simp only [EV, Nat.reduceEqDiff, Nat.reduceBEq, Nat.reduceLT, Nat.reduceLeDiff, Nat.reduceAdd, Nat.reduceSub, reduceIte]
    refine (p70 c1 _ 30 hc1 (by omega) (by omega)).call (fun _ => rfl) ?_
    rintro _ c2 hc2 ⟨q, rfl, _⟩
    simp only [EV, Nat.reduceEqDiff, Nat.reduceBEq, Nat.reduceLT, Nat.reduceLeDiff, Nat.reduceAdd, Nat.reduceSub, reduceIte]
    rcases e0 : (q == 0) with _ | _
    rotate_left
    · simp only [e0, EV, Nat.reduceEqDiff, Nat.reduceBEq, Nat.reduceLT, Nat.reduceLeDiff, Nat.reduceAdd, Nat.reduceSub, reduceIte]
      refine (p124 c2 _ [⟨#[]⟩, ⟨#[49]⟩, ⟨#[66, 97, 115, 101]⟩] hc2 (by omega) (by decide) (by decide)).call (fun _ => rfl) ?_
      rintro _ c3 hc3 ⟨s, hs', rfl⟩
      have hs1 : (s.size : Int) ≤ 40 := by
        simp only [List.mem_cons, List.not_mem_nil, or_false] at hs'
        rcases hs' with rfl | rfl | rfl <;> decide
      simp only [EV, Nat.reduceEqDiff, Nat.reduceBEq, Nat.reduceLT, Nat.reduceLeDiff, Nat.reduceAdd, Nat.reduceSub, reduceIte]
      exact ⟨(⟨s, im, l, os, us⟩, c3), ⟨⟨hs1, s2, s3, s4, s5⟩, hc3.up (by omega)⟩, rfl⟩
    rcases e1 : (q == 1) with _ | _
    rotate_left
    · simp only [e0, e1, EV, Nat.reduceEqDiff, Nat.reduceBEq, Nat.reduceLT, Nat.reduceLeDiff, Nat.reduceAdd, Nat.reduceSub, reduceIte]
      rcases f0 : decide (0 < (os.length : Int)) with _ | _
      · simp only [EV, Nat.reduceEqDiff, Nat.reduceBEq, Nat.reduceLT, Nat.reduceLeDiff, Nat.reduceAdd, Nat.reduceSub, reduceIte]
        exact ⟨(⟨nm, im, l, os, us⟩, c2), ⟨⟨s1, s2, s3, s4, s5⟩, hc2.up (by omega)⟩, rfl⟩
      · have f1 : 0 < os.length := by have : 0 < (os.length : Int) := by simpa using f0
                                      omega
        have f2 : (0 : Int) < (os.length : Int) := by omega
        have f4 : 0 < (os.map Ob.o).length := by simp; exact f1
        simp only [f0, f2, EV, Nat.reduceEqDiff, Nat.reduceBEq, Nat.reduceLT, Nat.reduceLeDiff, Nat.reduceAdd, Nat.reduceSub, reduceIte]
        have fin : ∀ (c3 : Cur) (v : Int), c3.ok (n + 900 + 2 + 2) → ∃ a : Scope × Cur, (a.1.dr ∧ a.2.ok (n + 1600)) ∧ stl [(0, AV.box 87 c3.z), (2, .box 45 Scope.zr), (3, .box 45 [AV.v (.string nm), .usl 9 1 (im.map Str.o), .usl 40 6 (l.map Ty.o), .usl 52 6 ((os.map Ob.o).set 0 (Ob.o ⟨os[0].name, os[0].kind, os[0].mark, v, os[0].value, os[0].params⟩)), .usl 155 2 (us.map Us.o)])] = stl [(0, .box 87 a.2.z), (2, .box 45 Scope.zr), (3, .box 45 a.1.o)] := by
          intro c3 v hc3
          refine ⟨(⟨nm, im, l, os.set 0 ⟨os[0].name, os[0].kind, os[0].mark, v, os[0].value, os[0].params⟩, us⟩, c3), ⟨⟨s1, s2, s3, ⟨by rw [List.length_set]; exact s4.1, fun o ho => ?_⟩, s5⟩, hc3.up (by omega)⟩, ?_⟩
          · rcases List.mem_or_eq_of_mem_set ho with h | h
            · exact s4.2 o h
            · rw [h]; exact (s4.2 _ (List.getElem_mem f1)).typ v
          · simp only [Scope.o, List.map_set]
        have h1 : (os.map Ob.o)[0]? = some (Ob.o os[0]) := by simp [f1]
        repeat' first
          | (refine (p140 c2 _ [-1, 24, 0] hc2 (by omega) (by decide) (by decide)).call (fun _ => rfl) ?_; rintro _ c3 hc3 ⟨v, _, rfl⟩; simp only [f0, f2, f1, f4, nth_map f1, nth_set f4, List.getElem?_set_self f4, h1, modify_get h1, modify_set, Ob.o, EV, Nat.reduceEqDiff, Nat.reduceBEq, Nat.reduceLT, Nat.reduceLeDiff, Nat.reduceAdd, Nat.reduceSub, reduceIte])
          | exact fin c3 v hc3
          | exact ⟨by omega, fin c3 v hc3⟩
          | exact ⟨by omega, by omega, fin c3 v hc3⟩
          | refine And.intro ?_ ?_
    rcases e2 : (q == 2) with _ | _
    rotate_left
    · simp only [e0, e1, e2, EV, Nat.reduceEqDiff, Nat.reduceBEq, Nat.reduceLT, Nat.reduceLeDiff, Nat.reduceAdd, Nat.reduceSub, reduceIte]
      refine ⟨by omega, by omega, (⟨nm, im, l, os, us ++ [⟨⟨#[67]⟩, ⟨#[120]⟩⟩]⟩, c2), ⟨⟨s1, s2, s3, s4, ⟨by simp; omega, ?_⟩⟩, hc2.up (by omega)⟩, ?_⟩
      · intro u hu
        rcases List.mem_append.1 hu with h | h
        · exact s5.2 u h
        · rw [List.mem_singleton] at h; rw [h]; exact ⟨by decide, by decide⟩
      · simp only [Scope.o, List.map_append]
        rfl
    rcases e3 : (q == 3) with _ | _
    rotate_left
    · simp only [e0, e1, e2, e3, EV, Nat.reduceEqDiff, Nat.reduceBEq, Nat.reduceLT, Nat.reduceLeDiff, Nat.reduceAdd, Nat.reduceSub, reduceIte]
      refine (q53 c2 _ hc2 (by omega)).call (fun _ => rfl) ?_
      rintro _ c3 hc3 ⟨l', rfl, l9, hs⟩
      simp only [EV, Nat.reduceEqDiff, Nat.reduceBEq, Nat.reduceLT, Nat.reduceLeDiff, Nat.reduceAdd, Nat.reduceSub, reduceIte]
      exact ⟨(⟨nm, im, l', os, us⟩, c3), ⟨⟨s1, s2, ⟨l9, hs⟩, s4, s5⟩, hc3.up (by omega)⟩, rfl⟩
    · simp only [e0, e1, e2, e3, EV, Nat.reduceEqDiff, Nat.reduceBEq, Nat.reduceLT, Nat.reduceLeDiff, Nat.reduceAdd, Nat.reduceSub, reduceIte]
      exact ⟨(⟨nm, im, l, os, us⟩, c2), ⟨⟨s1, s2, s3, s4, s5⟩, hc2.up (by omega)⟩, rfl⟩
  rintro ⟨s, c2⟩ ⟨hs, hc2⟩
  simp only at hs hc2
  simp only [Scope.o, EV, Nat.reduceEqDiff, Nat.reduceBEq, Nat.reduceLT, Nat.reduceLeDiff, Nat.reduceAdd, Nat.reduceSub, reduceIte]
  simp only [Str.nfz, Ty.nfz, Ob.nfz, Us.nfz, pbeq, evRM, EV, Nat.reduceEqDiff, Nat.reduceBEq, Nat.reduceLT, Nat.reduceLeDiff, Nat.reduceAdd, Nat.reduceSub, reduceIte, evRE, retVC, cellV', evR, nfz, nfzs, nfzss, List.contains_nil, List.contains_cons, Bool.or_false, or_true]
  refine ⟨by decide, by decide, ?_⟩
  exact ⟨⟨c2, rfl, hc2.up (by omega), s, rfl, hs⟩, Or.inr (by decide)⟩
end Go.AM
