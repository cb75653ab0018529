/- Contracts of functions of the given program, for the law FnCalls: what they return and what they write, under the bounds that each theorem states. -/
import Derived.Test.YtmacgaechjiecaaGreatG4
import Derived.RangeFuncBox
import Derived.RangeFuncLeaves
import Derived.RangeFuncNested
import Derived.Shelf.Abstract
import Derived.WalkKit
import Derived.OwnWalkIn
import Derived.TacticsInMore
import Derived.LoopNIn
import Derived.LoopIn
import Derived.Deep.RegionHeld3
namespace Go.AM
set_option linter.unusedVariables false
set_option linter.unusedSimpArgs false
theorem line_contains_rec {l : List Ty} (ht : tabOk l = true) {n b : Int} (h : isRec l n = true) : (lineL l n).contains b = ((n == b) || (lineL l (baseAt l n)).contains b) := by
  rw [lineL_rec ht h, List.contains_cons, Bool.beq_comm]
def m57 : MC :=
 (.seq (.reg [Xb 6 (.asg .fb)]) (.seq (.block 0 (.loop [0, 1, 2] (.seq (.seq (.reg [Xm 7 1, Xq 8 (.bin false .geq (.t 7) (.i 0)), Xm 9 8, Xt 10 9 (.mov (.t 1)), Xt 11 9 (.mov (.t 2)), Xt 12 9 (.bin false .neq (.t 10) (.t 11)), Xq 13 (.pick (.t 9) (.t 12) .fb)]) (.cond (.t 13) .skip (.exit 0))) (.block 1 (.reg [Xm 14 0, Xm 15 1, Xi 16 6 14 15, Xf 17 2 16, Xl 18 1 17, Xa 1 18]))))) (.seq (.reg [Xm 19
 1, Xm 20 2, Xq 21 (.bin false .eql (.t 19) (.t 20)), Xa 6 21]) .ret)))
set_option maxRecDepth 100000 in
theorem d57 (l : List Ty) (a0 b : Int) (hl : (l.length : Int) ≤ 1048576) (ht : tabOk l = true) (h0 : isL l a0) (hb : 0 ≤ b) : Does Go.Proofs.Tryz.prog 57 [.fsl 6 (l.map Ty.z), .v (.int .i64 a0), .v (.int .i64 b)] false (.v (.bool ((lineL l a0).contains b))) [.dead, .dead, .dead] := by
  refine does_intro (mc := m57) (N := 22) (rs := [6]) (fx := []) 3 rfl (by decide +kernel) ?_
  simp only [m57, EV, Nat.reduceEqDiff, Nat.reduceBEq, Nat.reduceLT, Nat.reduceLeDiff, Nat.reduceAdd, Nat.reduceSub, reduceIte]
  refine awp_loop (fun a : Int => isL l a ∧ (lineL l a0).contains b = (lineL l a).contains b) (fun a => stl [(0, .fsl 6 (l.map Ty.z)), (1, .v (.int .i64 a)), (2, .v (.int .i64 b))]) (fun a => (lineL l a).length) a0 ⟨h0, rfl⟩ ?_ ?_
  · simp only [EV, Nat.reduceEqDiff, Nat.reduceBEq, Nat.reduceLT, Nat.reduceLeDiff, Nat.reduceAdd, Nat.reduceSub, reduceIte]
  · rintro a ⟨ha, he⟩
    simp only [EV, Nat.reduceEqDiff, Nat.reduceBEq, Nat.reduceLT, Nat.reduceLeDiff, Nat.reduceAdd, Nat.reduceSub, reduceIte]
    refine gK_cut (fun h => ?_) (fun h => ?_)
    · have hr : isRec l a = true := ha.resolve_left (by have : 0 ≤ a := by simpa using h
                                                        omega)
      obtain ⟨g0, g1, gn, _⟩ := isRec_in hr
      have hlr := lineL_rec ht hr
      have hbs := (isRec_base (tabOk_tys ht) hr).1
      have hc := line_contains_rec (b := b) ht hr
      simp only [h, bne, EV, Nat.reduceEqDiff, Nat.reduceBEq, Nat.reduceLT, Nat.reduceLeDiff, Nat.reduceAdd, Nat.reduceSub, reduceIte]
      rcases e : (a == b) with _ | _
      · simp only [Bool.not_false, g0, g1, nth_map gn, Ty.z, EV, Nat.reduceEqDiff, Nat.reduceBEq, Nat.reduceLT, Nat.reduceLeDiff, Nat.reduceAdd, Nat.reduceSub, reduceIte]
        refine ⟨baseAt l a, ⟨hbs, ?_⟩, by rw [hlr]; simp, ?_⟩
        · rw [he, hc, e, Bool.false_or]
        · rw [baseAt_eq gn]
      · have e2 : (lineL l a0).contains b = true := by rw [he, hc, e, Bool.true_or]
        simp only [Bool.not_true, e, EV, Nat.reduceEqDiff, Nat.reduceBEq, Nat.reduceLT, Nat.reduceLeDiff, Nat.reduceAdd, Nat.reduceSub, reduceIte]
        simp only [e2, EV, Nat.reduceEqDiff, Nat.reduceBEq, Nat.reduceLT, Nat.reduceLeDiff, Nat.reduceAdd, Nat.reduceSub, reduceIte, evRE, retVC, cellV', evR, nfz, nfzs, nfzss, List.contains_nil, List.contains_cons, Bool.or_false, or_true]
    · have hn : a < 0 := by have : ¬ 0 ≤ a := by simpa using h
                            omega
      have e1 : (a == b) = false := by simp; omega
      have e2 : (lineL l a0).contains b = false := by rw [he, lineL_neg hn]; rfl
      simp only [h, EV, Nat.reduceEqDiff, Nat.reduceBEq, Nat.reduceLT, Nat.reduceLeDiff, Nat.reduceAdd, Nat.reduceSub, reduceIte]
      simp only [e1, e2, EV, Nat.reduceEqDiff, Nat.reduceBEq, Nat.reduceLT, Nat.reduceLeDiff, Nat.reduceAdd, Nat.reduceSub, reduceIte, evRE, retVC, cellV', evR, nfz, nfzs, nfzss, List.contains_nil, List.contains_cons, Bool.or_false, or_true]
def m60 : MC :=
 (.seq (.reg [Xb 6 (.asg .fb)]) (.seq (.block 0 (.loop [0, 1, 2] (.seq (.seq (.reg [Xm 7 1, Xq 8 (.bin false .geq (.t 7) (.i 0))]) (.cond (.t 8) .skip (.exit 0))) (.seq (.block 1 (.seq (.reg [Xm 14 1, Xm 15 2, Xq 16 (.bin false .eql (.t 14) (.t 15))]) (.cond (.t 16) (.seq (.reg [Xb 6 (.asg .tb)]) .ret) .skip))) (.reg [Xm 9 0, Xm 10 1, Xi 11 6 9 10, Xf 12 2 11, Xl 13 1 12, Xa 1 13]))))) (.seq (.reg
 [Xb 6 (.asg .fb)]) .ret)))
set_option maxRecDepth 100000 in
theorem d60 (l : List Ty) (a0 b : Int) (hl : (l.length : Int) ≤ 1048576) (ht : tabOk l = true) (h0 : isL l a0) : Does Go.Proofs.Tryz.prog 60 [.fsl 6 (l.map Ty.z), .v (.int .i64 a0), .v (.int .i64 b)] false (.v (.bool ((lineL l a0).contains b))) [.dead, .dead, .dead] := by
  refine does_intro (mc := m60) (N := 17) (rs := [6]) (fx := []) 3 rfl (by decide +kernel) ?_
  simp only [m60, EV, Nat.reduceEqDiff, Nat.reduceBEq, Nat.reduceLT, Nat.reduceLeDiff, Nat.reduceAdd, Nat.reduceSub, reduceIte]
  refine awp_loop (fun a : Int => isL l a ∧ (lineL l a0).contains b = (lineL l a).contains b) (fun a => stl [(0, .fsl 6 (l.map Ty.z)), (1, .v (.int .i64 a)), (2, .v (.int .i64 b))]) (fun a => (lineL l a).length) a0 ⟨h0, rfl⟩ ?_ ?_
  · simp only [EV, Nat.reduceEqDiff, Nat.reduceBEq, Nat.reduceLT, Nat.reduceLeDiff, Nat.reduceAdd, Nat.reduceSub, reduceIte]
  · rintro a ⟨ha, he⟩
    simp only [EV, Nat.reduceEqDiff, Nat.reduceBEq, Nat.reduceLT, Nat.reduceLeDiff, Nat.reduceAdd, Nat.reduceSub, reduceIte]
    refine cK_cut (fun h => ?_) (fun h => ?_)
    · have hr : isRec l a = true := ha.resolve_left (by have : 0 ≤ a := by simpa using h
                                                        omega)
      obtain ⟨g0, g1, gn, _⟩ := isRec_in hr
      have hlr := lineL_rec ht hr
      have hbs := (isRec_base (tabOk_tys ht) hr).1
      have hc := line_contains_rec (b := b) ht hr
      simp only [h, EV, Nat.reduceEqDiff, Nat.reduceBEq, Nat.reduceLT, Nat.reduceLeDiff, Nat.reduceAdd, Nat.reduceSub, reduceIte]
      rcases e : (a == b) with _ | _
      · simp only [g0, g1, nth_map gn, Ty.z, EV, Nat.reduceEqDiff, Nat.reduceBEq, Nat.reduceLT, Nat.reduceLeDiff, Nat.reduceAdd, Nat.reduceSub, reduceIte]
        refine ⟨baseAt l a, ⟨hbs, ?_⟩, by rw [hlr]; simp, ?_⟩
        · rw [he, hc, e, Bool.false_or]
        · rw [baseAt_eq gn]
      · have e2 : (lineL l a0).contains b = true := by rw [he, hc, e, Bool.true_or]
        simp only [EV, Nat.reduceEqDiff, Nat.reduceBEq, Nat.reduceLT, Nat.reduceLeDiff, Nat.reduceAdd, Nat.reduceSub, reduceIte]
        simp only [e2, EV, Nat.reduceEqDiff, Nat.reduceBEq, Nat.reduceLT, Nat.reduceLeDiff, Nat.reduceAdd, Nat.reduceSub, reduceIte, evRE, retVC, cellV', evR, nfz, nfzs, nfzss, List.contains_nil, List.contains_cons, Bool.or_false, or_true]
    · have hn : a < 0 := by have : ¬ 0 ≤ a := by simpa using h
                            omega
      have e2 : (lineL l a0).contains b = false := by rw [he, lineL_neg hn]; rfl
      simp only [h, EV, Nat.reduceEqDiff, Nat.reduceBEq, Nat.reduceLT, Nat.reduceLeDiff, Nat.reduceAdd, Nat.reduceSub, reduceIte]
      simp only [e2, EV, Nat.reduceEqDiff, Nat.reduceBEq, Nat.reduceLT, Nat.reduceLeDiff, Nat.reduceAdd, Nat.reduceSub, reduceIte, evRE, retVC, cellV', evR, nfz, nfzs, nfzss, List.contains_nil, List.contains_cons, Bool.or_false, or_true]
noncomputable def mayT (l : List Ty) (x y : Int) (a b : Ty) : Bool :=
  if (x == y) = true then true else if (a.kind == b.kind) = false then false
  else if (a.kind == 5) = true then (lineL l y).contains x
  else if (a.kind == 6) = true then (a.base == b.base) || (isRec l a.base && (isRec l b.base && (lineL l b.base).contains a.base))
  else if (a.kind == 4) = true then (a.long == b.long) && (a.base == b.base) else false
noncomputable def mayL (l : List Ty) (x y : Int) : Bool := match l[x.toNat]?, l[y.toNat]? with
  | some a, some b => mayT l x y a b
  | _, _ => false
def m66 : MC :=
 (.seq (.reg [Xb 6 (.asg .fb)]) (.join [0, 1, 2, 7, 8] (.mixt [0, 1, 2] [0, 1, 2, 7, 8] [] [0, 1, 2] [0, 1, 2, 3, 4, 5, 6, 7] [Xm 9 0, Xm 10 1, Xi 11 6 9 10, XL 12 6 11, Xm 13 0, Xm 14 2, Xi 15 6 13 14, XL 16 6 15] (.alt (.step 8 (Xb 7 (.alloc 40 [.i, .i, .i, .s 97 3, .z, .z])) (.step 9 (Xb 8 (.alloc 40 [.i, .i, .i, .s 97 3, .z, .z])) (.step 10 (Xz (.store 6 (.t 7) (.t 12))) (.step 11 (Xz (.store 6
 (.t 8) (.t 16))) .nil)))) (.step 9 (Xb 8 (.alloc 40 [.i, .i, .i, .s 97 3, .z, .z])) (.step 8 (Xb 7 (.alloc 40 [.i, .i, .i, .s 97 3, .z, .z])) (.step 10 (Xz (.store 6 (.t 7) (.t 12))) (.step 11 (Xz (.store 6 (.t 8) (.t 16))) .nil)))))) (.seq (.block 0 (.seq (.reg [Xm 18 1, Xm 19 2, Xq 20 (.bin false .eql (.t 18) (.t 19)), Xa 17 20]) (.cond (.t 17) (.seq (.reg [Xb 6 (.asg .tb)]) .ret) (.seq (.reg
 [Xf 22 0 7, Xl 23 1 22, Xf 24 0 8, Xl 25 1 24, Xq 26 (.bin false .neq (.t 23) (.t 25)), Xa 21 26]) (.cond (.t 21) (.seq (.reg [Xb 6 (.asg .fb)]) .ret) .skip))))) (.seq (.seq (.reg [Xf 27 0 7, Xl 28 1 27]) (.block 1 (.seq (.reg [Xq 30 (.bin false .eql (.t 28) (.i 5)), Xa 29 30]) (.cond (.t 29) (.seq (.reg [Xm 31 0, Xm 32 2, Xm 33 1, Xb 34 (.call (.fn 57) false [.lend (.t 31), .lend (.t 32), .lend
 (.t 33)]), Xa 6 34]) .ret) (.seq (.reg [Xq 36 (.bin false .eql (.t 28) (.i 6)), Xa 35 36]) (.cond (.t 35) (.seq (.reg [Xf 37 2 7, Xl 38 1 37, Xf 39 2 8, Xl 40 1 39, Xq 41 (.bin false .eql (.t 38) (.t 40)), Xm 42 41, Xu 43 42 (.mov (.t 0)), Xu 44 42 (.fad 2 (.t 7)), Xu 45 42 (.load false 1 (.t 44)), XU 46 42 (.call (.fn 56) false [.lend (.t 43), .lend (.t 45)]), Xu 47 42 (.mov (.t 46)), Xt 48 47
 (.mov (.t 0)), Xt 49 47 (.fad 2 (.t 8)), Xt 50 47 (.load false 1 (.t 49)), XT 51 47 (.call (.fn 56) false [.lend (.t 48), .lend (.t 50)]), Xu 52 42 (.pick (.t 47) (.t 51) .fb), Xu 53 42 (.mov (.t 52)), Xt 54 53 (.mov (.t 0)), Xt 55 53 (.fad 2 (.t 8)), Xt 56 53 (.load false 1 (.t 55)), Xt 57 53 (.fad 2 (.t 7)), Xt 58 53 (.load false 1 (.t 57)), XT 59 53 (.call (.fn 57) false [.lend (.t 54), .lend
 (.t 56), .lend (.t 58)]), Xu 60 42 (.pick (.t 53) (.t 59) .fb), Xq 61 (.pick (.t 42) .tb (.t 60)), Xa 6 61]) .ret) (.seq (.reg [Xq 63 (.bin false .eql (.t 28) (.i 4)), Xa 62 63]) (.cond (.t 62) (.seq (.reg [Xf 64 1 7, Xl 65 1 64, Xf 66 1 8, Xl 67 1 66, Xq 68 (.bin false .eql (.t 65) (.t 67)), Xm 69 68, Xt 70 69 (.fad 2 (.t 7)), Xt 71 69 (.load false 1 (.t 70)), Xt 72 69 (.fad 2 (.t 8)), Xt 73 69
 (.load false 1 (.t 72)), Xt 74 69 (.bin false .eql (.t 71) (.t 73)), Xq 75 (.pick (.t 69) (.t 74) .fb), Xa 6 75]) .ret) .skip)))))))) (.seq (.reg [Xb 6 (.asg .fb)]) .ret)))))
set_option maxHeartbeats 1000000 in
set_option maxRecDepth 100000 in
theorem d66 (l : List Ty) (x y : Int) (hl : (l.length : Int) ≤ 1048576) (ht : tabOk l = true) (hx : 0 ≤ x ∧ x < (l.length : Int)) (hy : 0 ≤ y ∧ y < (l.length : Int)) :
    Does Go.Proofs.Tryz.prog 66 [.fsl 6 (l.map Ty.z), .v (.int .i64 x), .v (.int .i64 y)] false (.v (.bool (mayL l x y))) [.dead, .dead, .dead] := by
  have hxn : x.toNat < l.length := by omega
  have hyn : y.toNat < l.length := by omega
  have em : mayL l x y = mayT l x y l[x.toNat] l[y.toNat] := by simp [mayL, hxn, hyn]
  rw [em]
  refine does_intro (mc := m66) (N := 76) (rs := [6]) (fx := []) 3 rfl (by decide +kernel) ?_
  simp only [m66, EV, Nat.reduceEqDiff, Nat.reduceBEq, Nat.reduceLT, Nat.reduceLeDiff, Nat.reduceAdd, Nat.reduceSub, reduceIte]
  refine awp_join (fun _ : Unit => True) (fun _ => stl [(0, .fsl 6 (l.map Ty.z)), (1, .v (.int .i64 x)), (2, .v (.int .i64 y)), (7, .box 40 l[x.toNat].z), (8, .box 40 l[y.toNat].z)]) ?_ ?_
  · simp only [hx.1, hx.2, hy.1, hy.2, nth_map hxn, nth_map hyn, Ty.z, EV, Nat.reduceEqDiff, Nat.reduceBEq, Nat.reduceLT, Nat.reduceLeDiff, Nat.reduceAdd, Nat.reduceSub, reduceIte]
    exact ⟨(), trivial⟩
  rintro _ _
  have Gx := tysOk_good (tabOk_tys ht) hxn
  have Gy := tysOk_good (tabOk_tys ht) hyn
  have hkx : l[x.toNat].kind = kd l x := by simp [kd, hxn]
  have hky : l[y.toNat].kind = kd l y := by simp [kd, hyn]
  have hnx : isNum l x = true := isNum_in.2 hx
  have hny : isNum l y = true := isNum_in.2 hy
  rcases e1 : (x == y) with _ | _
  rotate_left
  · have e : mayT l x y l[x.toNat] l[y.toNat] = true := by unfold mayT; rw [if_pos e1]
    simp only [e1, Ty.z, EV, Nat.reduceEqDiff, Nat.reduceBEq, Nat.reduceLT, Nat.reduceLeDiff, Nat.reduceAdd, Nat.reduceSub, reduceIte]
    simp only [e, EV, Nat.reduceEqDiff, Nat.reduceBEq, Nat.reduceLT, Nat.reduceLeDiff, Nat.reduceAdd, Nat.reduceSub, reduceIte, evRE, retVC, cellV', evR, nfz, nfzs, nfzss, List.contains_nil, List.contains_cons, Bool.or_false, or_true]
  rcases e2 : (l[x.toNat].kind == l[y.toNat].kind) with _ | _
  · have e : mayT l x y l[x.toNat] l[y.toNat] = false := by unfold mayT; rw [e1, e2]; rfl
    simp only [e1, e2, bne, Bool.not_false, Ty.z, EV, Nat.reduceEqDiff, Nat.reduceBEq, Nat.reduceLT, Nat.reduceLeDiff, Nat.reduceAdd, Nat.reduceSub, reduceIte]
    simp only [e, EV, Nat.reduceEqDiff, Nat.reduceBEq, Nat.reduceLT, Nat.reduceLeDiff, Nat.reduceAdd, Nat.reduceSub, reduceIte, evRE, retVC, cellV', evR, nfz, nfzs, nfzss, List.contains_nil, List.contains_cons, Bool.or_false, or_true]
  rcases e5 : (l[x.toNat].kind == 5) with _ | _
  rotate_left
  · have e : mayT l x y l[x.toNat] l[y.toNat] = (lineL l y).contains x := by unfold mayT; rw [e1, e2, e5]; rfl
    have k5 : l[x.toNat].kind = 5 := by simpa using e5
    have k2 : l[x.toNat].kind = l[y.toNat].kind := by simpa using e2
    have hr : isRec l y = true := by
      simp only [isRec, hny, Bool.true_and, beq_iff_eq]; omega
    simp only [e1, e2, e5, bne, Bool.not_true, Ty.z, EV, Nat.reduceEqDiff, Nat.reduceBEq, Nat.reduceLT, Nat.reduceLeDiff, Nat.reduceAdd, Nat.reduceSub, reduceIte]
    refine callK_i (d57 l y x hl ht (.inr hr) hx.1) ?_
    simp only [EV, Nat.reduceEqDiff, Nat.reduceBEq, Nat.reduceLT, Nat.reduceLeDiff, Nat.reduceAdd, Nat.reduceSub, reduceIte]
    simp only [e, EV, Nat.reduceEqDiff, Nat.reduceBEq, Nat.reduceLT, Nat.reduceLeDiff, Nat.reduceAdd, Nat.reduceSub, reduceIte, evRE, retVC, cellV', evR, nfz, nfzs, nfzss, List.contains_nil, List.contains_cons, Bool.or_false, or_true]
  rcases e6 : (l[x.toNat].kind == 6) with _ | _
  rotate_left
  · have e : mayT l x y l[x.toNat] l[y.toNat] = ((l[x.toNat].base == l[y.toNat].base) || (isRec l l[x.toNat].base && (isRec l l[y.toNat].base && (lineL l l[y.toNat].base).contains l[x.toNat].base))) := by unfold mayT; rw [e1, e2, e5, e6]; rfl
    rw [e]
    simp only [e1, e2, e5, e6, bne, Bool.not_true, Ty.z, EV, Nat.reduceEqDiff, Nat.reduceBEq, Nat.reduceLT, Nat.reduceLeDiff, Nat.reduceAdd, Nat.reduceSub, reduceIte]
    rcases b1 : (l[x.toNat].base == l[y.toNat].base) with _ | _
    rotate_left
    · simp only [b1, EV, Nat.reduceEqDiff, Nat.reduceBEq, Nat.reduceLT, Nat.reduceLeDiff, Nat.reduceAdd, Nat.reduceSub, reduceIte]
      simp only [b1, Bool.true_or, EV, Nat.reduceEqDiff, Nat.reduceBEq, Nat.reduceLT, Nat.reduceLeDiff, Nat.reduceAdd, Nat.reduceSub, reduceIte, evRE, retVC, cellV', evR, nfz, nfzs, nfzss, List.contains_nil, List.contains_cons, Bool.or_false, or_true]
    simp only [b1, Ty.z, EV, Nat.reduceEqDiff, Nat.reduceBEq, Nat.reduceLT, Nat.reduceLeDiff, Nat.reduceAdd, Nat.reduceSub, reduceIte]
    refine callK_i (d56 l _ hl) ?_
    simp only [Ty.z, EV, Nat.reduceEqDiff, Nat.reduceBEq, Nat.reduceLT, Nat.reduceLeDiff, Nat.reduceAdd, Nat.reduceSub, reduceIte]
    rcases b2 : isRec l l[x.toNat].base with _ | _
    · simp only [EV, Nat.reduceEqDiff, Nat.reduceBEq, Nat.reduceLT, Nat.reduceLeDiff, Nat.reduceAdd, Nat.reduceSub, reduceIte]
      simp only [b1, b2, Bool.false_or, Bool.false_and, EV, Nat.reduceEqDiff, Nat.reduceBEq, Nat.reduceLT, Nat.reduceLeDiff, Nat.reduceAdd, Nat.reduceSub, reduceIte, evRE, retVC, cellV', evR, nfz, nfzs, nfzss, List.contains_nil, List.contains_cons, Bool.or_false, or_true]
    simp only [Ty.z, EV, Nat.reduceEqDiff, Nat.reduceBEq, Nat.reduceLT, Nat.reduceLeDiff, Nat.reduceAdd, Nat.reduceSub, reduceIte]
    refine callK_i (d56 l _ hl) ?_
    simp only [Ty.z, EV, Nat.reduceEqDiff, Nat.reduceBEq, Nat.reduceLT, Nat.reduceLeDiff, Nat.reduceAdd, Nat.reduceSub, reduceIte]
    rcases b3 : isRec l l[y.toNat].base with _ | _
    · simp only [EV, Nat.reduceEqDiff, Nat.reduceBEq, Nat.reduceLT, Nat.reduceLeDiff, Nat.reduceAdd, Nat.reduceSub, reduceIte]
      simp only [b1, b2, b3, Bool.false_or, Bool.false_and, Bool.true_and, EV, Nat.reduceEqDiff, Nat.reduceBEq, Nat.reduceLT, Nat.reduceLeDiff, Nat.reduceAdd, Nat.reduceSub, reduceIte, evRE, retVC, cellV', evR, nfz, nfzs, nfzss, List.contains_nil, List.contains_cons, Bool.or_false, or_true]
    simp only [Ty.z, EV, Nat.reduceEqDiff, Nat.reduceBEq, Nat.reduceLT, Nat.reduceLeDiff, Nat.reduceAdd, Nat.reduceSub, reduceIte]
    refine callK_i (d57 l _ _ hl ht (.inr b3) (isRec_in b2).1) ?_
    simp only [EV, Nat.reduceEqDiff, Nat.reduceBEq, Nat.reduceLT, Nat.reduceLeDiff, Nat.reduceAdd, Nat.reduceSub, reduceIte]
    simp only [b1, b2, b3, Bool.false_or, Bool.true_and, EV, Nat.reduceEqDiff, Nat.reduceBEq, Nat.reduceLT, Nat.reduceLeDiff, Nat.reduceAdd, Nat.reduceSub, reduceIte, evRE, retVC, cellV', evR, nfz, nfzs, nfzss, List.contains_nil, List.contains_cons, Bool.or_false, or_true]
  rcases e4 : (l[x.toNat].kind == 4) with _ | _
  · have e : mayT l x y l[x.toNat] l[y.toNat] = false := by unfold mayT; rw [e1, e2, e5, e6, e4]; rfl
    simp only [e1, e2, e5, e6, e4, bne, Bool.not_true, Ty.z, EV, Nat.reduceEqDiff, Nat.reduceBEq, Nat.reduceLT, Nat.reduceLeDiff, Nat.reduceAdd, Nat.reduceSub, reduceIte]
    simp only [e, EV, Nat.reduceEqDiff, Nat.reduceBEq, Nat.reduceLT, Nat.reduceLeDiff, Nat.reduceAdd, Nat.reduceSub, reduceIte, evRE, retVC, cellV', evR, nfz, nfzs, nfzss, List.contains_nil, List.contains_cons, Bool.or_false, or_true]
  · have e : mayT l x y l[x.toNat] l[y.toNat] = ((l[x.toNat].long == l[y.toNat].long) && (l[x.toNat].base == l[y.toNat].base)) := by unfold mayT; rw [e1, e2, e5, e6, e4]; rfl
    rw [e]
    simp only [e1, e2, e5, e6, e4, bne, Bool.not_true, Ty.z, EV, Nat.reduceEqDiff, Nat.reduceBEq, Nat.reduceLT, Nat.reduceLeDiff, Nat.reduceAdd, Nat.reduceSub, reduceIte]
    rcases b1 : (l[x.toNat].long == l[y.toNat].long) with _ | _
    · simp only [EV, Nat.reduceEqDiff, Nat.reduceBEq, Nat.reduceLT, Nat.reduceLeDiff, Nat.reduceAdd, Nat.reduceSub, reduceIte]
      simp only [b1, Bool.false_and, EV, Nat.reduceEqDiff, Nat.reduceBEq, Nat.reduceLT, Nat.reduceLeDiff, Nat.reduceAdd, Nat.reduceSub, reduceIte, evRE, retVC, cellV', evR, nfz, nfzs, nfzss, List.contains_nil, List.contains_cons, Bool.or_false, or_true]
    · simp only [EV, Nat.reduceEqDiff, Nat.reduceBEq, Nat.reduceLT, Nat.reduceLeDiff, Nat.reduceAdd, Nat.reduceSub, reduceIte]
      simp only [b1, Bool.true_and, EV, Nat.reduceEqDiff, Nat.reduceBEq, Nat.reduceLT, Nat.reduceLeDiff, Nat.reduceAdd, Nat.reduceSub, reduceIte, evRE, retVC, cellV', evR, nfz, nfzs, nfzss, List.contains_nil, List.contains_cons, Bool.or_false, or_true]
def m73 : MC :=
 (.seq (.reg [Xb 6 (.asg .fb)]) (.join [0, 1, 2, 7, 8] (.mixt [0, 1, 2] [0, 1, 2, 7, 8] [] [0, 1, 2] [0, 1, 2, 3, 4, 5, 6, 7] [Xm 9 0, Xm 10 1, Xi 11 6 9 10, XL 12 6 11, Xm 13 0, Xm 14 2, Xi 15 6 13 14, XL 16 6 15] (.alt (.step 8 (Xb 7 (.alloc 40 [.i, .i, .i, .s 97 3, .z, .z])) (.step 9 (Xb 8 (.alloc 40 [.i, .i, .i, .s 97 3, .z, .z])) (.step 10 (Xz (.store 6 (.t 7) (.t 12))) (.step 11 (Xz (.store 6
 (.t 8) (.t 16))) .nil)))) (.step 9 (Xb 8 (.alloc 40 [.i, .i, .i, .s 97 3, .z, .z])) (.step 8 (Xb 7 (.alloc 40 [.i, .i, .i, .s 97 3, .z, .z])) (.step 10 (Xz (.store 6 (.t 7) (.t 12))) (.step 11 (Xz (.store 6 (.t 8) (.t 16))) .nil)))))) (.seq (.block 0 (.seq (.reg [Xm 18 1, Xm 19 2, Xq 20 (.bin false .eql (.t 18) (.t 19)), Xa 17 20]) (.cond (.t 17) (.seq (.reg [Xb 6 (.asg .tb)]) .ret) (.seq (.reg
 [Xf 22 0 7, Xl 23 1 22, Xf 24 0 8, Xl 25 1 24, Xq 26 (.bin false .neq (.t 23) (.t 25)), Xa 21 26]) (.cond (.t 21) (.seq (.reg [Xb 6 (.asg .fb)]) .ret) (.seq (.reg [Xf 28 0 7, Xl 29 1 28, Xq 30 (.bin false .eql (.t 29) (.i 5)), Xa 27 30]) (.cond (.t 27) (.seq (.reg [Xm 31 0, Xm 32 2, Xm 33 1, Xb 34 (.call (.fn 60) false [.lend (.t 31), .lend (.t 32), .lend (.t 33)]), Xa 6 34]) .ret) (.seq (.reg [Xf
 36 0 7, Xl 37 1 36, Xq 38 (.bin false .eql (.t 37) (.i 6)), Xa 35 38]) (.cond (.t 35) (.seq (.reg [Xf 39 2 7, Xl 40 1 39, Xf 41 2 8, Xl 42 1 41, Xq 43 (.bin false .eql (.t 40) (.t 42)), Xm 44 43, Xu 45 44 (.mov (.t 0)), Xu 46 44 (.fad 2 (.t 7)), Xu 47 44 (.load false 1 (.t 46)), Xu 48 44 (.iad 6 (.t 45) (.t 47)), Xu 49 44 (.fad 0 (.t 48)), Xu 50 44 (.load false 1 (.t 49)), Xu 51 44 (.bin false
 .eql (.t 50) (.i 5)), Xu 52 44 (.mov (.t 51)), Xt 53 52 (.mov (.t 0)), Xt 54 52 (.fad 2 (.t 8)), Xt 55 52 (.load false 1 (.t 54)), Xt 56 52 (.iad 6 (.t 53) (.t 55)), Xt 57 52 (.fad 0 (.t 56)), Xt 58 52 (.load false 1 (.t 57)), Xt 59 52 (.bin false .eql (.t 58) (.i 5)), Xu 60 44 (.pick (.t 52) (.t 59) .fb), Xu 61 44 (.mov (.t 60)), Xt 62 61 (.mov (.t 0)), Xt 63 61 (.fad 2 (.t 8)), Xt 64 61 (.load
 false 1 (.t 63)), Xt 65 61 (.fad 2 (.t 7)), Xt 66 61 (.load false 1 (.t 65)), XT 67 61 (.call (.fn 60) false [.lend (.t 62), .lend (.t 64), .lend (.t 66)]), Xu 68 44 (.pick (.t 61) (.t 67) .fb), Xq 69 (.pick (.t 44) .tb (.t 68)), Xa 6 69]) .ret) (.seq (.reg [Xf 71 0 7, Xl 72 1 71, Xq 73 (.bin false .eql (.t 72) (.i 4)), Xa 70 73]) (.cond (.t 70) (.seq (.reg [Xf 74 1 7, Xl 75 1 74, Xf 76 1 8, Xl 77
 1 76, Xq 78 (.bin false .eql (.t 75) (.t 77)), Xm 79 78, Xt 80 79 (.fad 2 (.t 7)), Xt 81 79 (.load false 1 (.t 80)), Xt 82 79 (.fad 2 (.t 8)), Xt 83 79 (.load false 1 (.t 82)), Xt 84 79 (.bin false .eql (.t 81) (.t 83)), Xq 85 (.pick (.t 79) (.t 84) .fb), Xa 6 85]) .ret) .skip))))))))))) (.seq (.reg [Xb 6 (.asg .fb)]) .ret))))
set_option maxHeartbeats 1000000 in
set_option maxRecDepth 100000 in
theorem d73 (l : List Ty) (x y : Int) (hl : (l.length : Int) ≤ 1048576) (ht : tabOk l = true) (hx : 0 ≤ x ∧ x < (l.length : Int)) (hy : 0 ≤ y ∧ y < (l.length : Int)) :
    Does Go.Proofs.Tryz.prog 73 [.fsl 6 (l.map Ty.z), .v (.int .i64 x), .v (.int .i64 y)] false (.v (.bool (mayL l x y))) [.dead, .dead, .dead] := by
  have hxn : x.toNat < l.length := by omega
  have hyn : y.toNat < l.length := by omega
  have em : mayL l x y = mayT l x y l[x.toNat] l[y.toNat] := by simp [mayL, hxn, hyn]
  rw [em]
  refine does_intro (mc := m73) (N := 86) (rs := [6]) (fx := []) 3 rfl (by decide +kernel) ?_
  simp only [m73, EV, Nat.reduceEqDiff, Nat.reduceBEq, Nat.reduceLT, Nat.reduceLeDiff, Nat.reduceAdd, Nat.reduceSub, reduceIte]
  refine awp_join (fun _ : Unit => True) (fun _ => stl [(0, .fsl 6 (l.map Ty.z)), (1, .v (.int .i64 x)), (2, .v (.int .i64 y)), (7, .box 40 l[x.toNat].z), (8, .box 40 l[y.toNat].z)]) ?_ ?_
  · simp only [hx.1, hx.2, hy.1, hy.2, nth_map hxn, nth_map hyn, Ty.z, EV, Nat.reduceEqDiff, Nat.reduceBEq, Nat.reduceLT, Nat.reduceLeDiff, Nat.reduceAdd, Nat.reduceSub, reduceIte]
    exact ⟨(), trivial⟩
  rintro _ _
  have Gx := tysOk_good (tabOk_tys ht) hxn
  have Gy := tysOk_good (tabOk_tys ht) hyn
  have hkx : l[x.toNat].kind = kd l x := by simp [kd, hxn]
  have hky : l[y.toNat].kind = kd l y := by simp [kd, hyn]
  have hnx : isNum l x = true := isNum_in.2 hx
  have hny : isNum l y = true := isNum_in.2 hy
  rcases e1 : (x == y) with _ | _
  rotate_left
  · have e : mayT l x y l[x.toNat] l[y.toNat] = true := by unfold mayT; rw [if_pos e1]
    simp only [e1, Ty.z, EV, Nat.reduceEqDiff, Nat.reduceBEq, Nat.reduceLT, Nat.reduceLeDiff, Nat.reduceAdd, Nat.reduceSub, reduceIte]
    simp only [e, EV, Nat.reduceEqDiff, Nat.reduceBEq, Nat.reduceLT, Nat.reduceLeDiff, Nat.reduceAdd, Nat.reduceSub, reduceIte, evRE, retVC, cellV', evR, nfz, nfzs, nfzss, List.contains_nil, List.contains_cons, Bool.or_false, or_true]
  rcases e2 : (l[x.toNat].kind == l[y.toNat].kind) with _ | _
  · have e : mayT l x y l[x.toNat] l[y.toNat] = false := by unfold mayT; rw [e1, e2]; rfl
    simp only [e1, e2, bne, Bool.not_false, Ty.z, EV, Nat.reduceEqDiff, Nat.reduceBEq, Nat.reduceLT, Nat.reduceLeDiff, Nat.reduceAdd, Nat.reduceSub, reduceIte]
    simp only [e, EV, Nat.reduceEqDiff, Nat.reduceBEq, Nat.reduceLT, Nat.reduceLeDiff, Nat.reduceAdd, Nat.reduceSub, reduceIte, evRE, retVC, cellV', evR, nfz, nfzs, nfzss, List.contains_nil, List.contains_cons, Bool.or_false, or_true]
  rcases e5 : (l[x.toNat].kind == 5) with _ | _
  rotate_left
  · have e : mayT l x y l[x.toNat] l[y.toNat] = (lineL l y).contains x := by unfold mayT; rw [e1, e2, e5]; rfl
    have k5 : l[x.toNat].kind = 5 := by simpa using e5
    have k2 : l[x.toNat].kind = l[y.toNat].kind := by simpa using e2
    have hr : isRec l y = true := by
      simp only [isRec, hny, Bool.true_and, beq_iff_eq]; omega
    simp only [e1, e2, e5, bne, Bool.not_true, Ty.z, EV, Nat.reduceEqDiff, Nat.reduceBEq, Nat.reduceLT, Nat.reduceLeDiff, Nat.reduceAdd, Nat.reduceSub, reduceIte]
    refine callK_i (d60 l y x hl ht (.inr hr)) ?_
    simp only [EV, Nat.reduceEqDiff, Nat.reduceBEq, Nat.reduceLT, Nat.reduceLeDiff, Nat.reduceAdd, Nat.reduceSub, reduceIte]
    simp only [e, EV, Nat.reduceEqDiff, Nat.reduceBEq, Nat.reduceLT, Nat.reduceLeDiff, Nat.reduceAdd, Nat.reduceSub, reduceIte, evRE, retVC, cellV', evR, nfz, nfzs, nfzss, List.contains_nil, List.contains_cons, Bool.or_false, or_true]
  rcases e6 : (l[x.toNat].kind == 6) with _ | _
  rotate_left
  · have e : mayT l x y l[x.toNat] l[y.toNat] = ((l[x.toNat].base == l[y.toNat].base) || (isRec l l[x.toNat].base && (isRec l l[y.toNat].base && (lineL l l[y.toNat].base).contains l[x.toNat].base))) := by unfold mayT; rw [e1, e2, e5, e6]; rfl
    have k6 : l[x.toNat].kind = 6 := by simpa using e6
    have k2 : l[x.toNat].kind = l[y.toNat].kind := by simpa using e2
    have px := (Gx.ptr k6).1
    have py := (Gy.ptr (by omega)).1
    obtain ⟨p0, p1, pn, pk⟩ := isNum_lt px
    obtain ⟨r0, r1, rn, rk'⟩ := isNum_lt py
    have ix : isRec l l[x.toNat].base = (l[l[x.toNat].base.toNat].kind == 5) := by simp only [isRec, px, pk, Bool.true_and]
    have iy : isRec l l[y.toNat].base = (l[l[y.toNat].base.toNat].kind == 5) := by simp only [isRec, py, rk', Bool.true_and]
    rw [e]
    simp only [e1, e2, e5, e6, bne, Bool.not_true, Ty.z, EV, Nat.reduceEqDiff, Nat.reduceBEq, Nat.reduceLT, Nat.reduceLeDiff, Nat.reduceAdd, Nat.reduceSub, reduceIte]
    rcases b1 : (l[x.toNat].base == l[y.toNat].base) with _ | _
    rotate_left
    · simp only [b1, EV, Nat.reduceEqDiff, Nat.reduceBEq, Nat.reduceLT, Nat.reduceLeDiff, Nat.reduceAdd, Nat.reduceSub, reduceIte]
      simp only [b1, Bool.true_or, EV, Nat.reduceEqDiff, Nat.reduceBEq, Nat.reduceLT, Nat.reduceLeDiff, Nat.reduceAdd, Nat.reduceSub, reduceIte, evRE, retVC, cellV', evR, nfz, nfzs, nfzss, List.contains_nil, List.contains_cons, Bool.or_false, or_true]
    simp only [b1, p0, p1, nth_map pn, Ty.z, EV, Nat.reduceEqDiff, Nat.reduceBEq, Nat.reduceLT, Nat.reduceLeDiff, Nat.reduceAdd, Nat.reduceSub, reduceIte]
    rw [← ix]
    rcases b2 : isRec l l[x.toNat].base with _ | _
    · simp only [EV, Nat.reduceEqDiff, Nat.reduceBEq, Nat.reduceLT, Nat.reduceLeDiff, Nat.reduceAdd, Nat.reduceSub, reduceIte]
      simp only [b1, b2, Bool.false_or, Bool.false_and, EV, Nat.reduceEqDiff, Nat.reduceBEq, Nat.reduceLT, Nat.reduceLeDiff, Nat.reduceAdd, Nat.reduceSub, reduceIte, evRE, retVC, cellV', evR, nfz, nfzs, nfzss, List.contains_nil, List.contains_cons, Bool.or_false, or_true]
    simp only [r0, r1, nth_map rn, Ty.z, EV, Nat.reduceEqDiff, Nat.reduceBEq, Nat.reduceLT, Nat.reduceLeDiff, Nat.reduceAdd, Nat.reduceSub, reduceIte]
    rw [← iy]
    rcases b3 : isRec l l[y.toNat].base with _ | _
    · simp only [EV, Nat.reduceEqDiff, Nat.reduceBEq, Nat.reduceLT, Nat.reduceLeDiff, Nat.reduceAdd, Nat.reduceSub, reduceIte]
      simp only [b1, b2, b3, Bool.false_or, Bool.false_and, Bool.true_and, EV, Nat.reduceEqDiff, Nat.reduceBEq, Nat.reduceLT, Nat.reduceLeDiff, Nat.reduceAdd, Nat.reduceSub, reduceIte, evRE, retVC, cellV', evR, nfz, nfzs, nfzss, List.contains_nil, List.contains_cons, Bool.or_false, or_true]
    simp only [Ty.z, EV, Nat.reduceEqDiff, Nat.reduceBEq, Nat.reduceLT, Nat.reduceLeDiff, Nat.reduceAdd, Nat.reduceSub, reduceIte]
    refine callK_i (d60 l _ _ hl ht (.inr b3)) ?_
    simp only [EV, Nat.reduceEqDiff, Nat.reduceBEq, Nat.reduceLT, Nat.reduceLeDiff, Nat.reduceAdd, Nat.reduceSub, reduceIte]
    simp only [b1, b2, b3, Bool.false_or, Bool.true_and, EV, Nat.reduceEqDiff, Nat.reduceBEq, Nat.reduceLT, Nat.reduceLeDiff, Nat.reduceAdd, Nat.reduceSub, reduceIte, evRE, retVC, cellV', evR, nfz, nfzs, nfzss, List.contains_nil, List.contains_cons, Bool.or_false, or_true]
  rcases e4 : (l[x.toNat].kind == 4) with _ | _
  · have e : mayT l x y l[x.toNat] l[y.toNat] = false := by unfold mayT; rw [e1, e2, e5, e6, e4]; rfl
    simp only [e1, e2, e5, e6, e4, bne, Bool.not_true, Ty.z, EV, Nat.reduceEqDiff, Nat.reduceBEq, Nat.reduceLT, Nat.reduceLeDiff, Nat.reduceAdd, Nat.reduceSub, reduceIte]
    simp only [e, EV, Nat.reduceEqDiff, Nat.reduceBEq, Nat.reduceLT, Nat.reduceLeDiff, Nat.reduceAdd, Nat.reduceSub, reduceIte, evRE, retVC, cellV', evR, nfz, nfzs, nfzss, List.contains_nil, List.contains_cons, Bool.or_false, or_true]
  · have e : mayT l x y l[x.toNat] l[y.toNat] = ((l[x.toNat].long == l[y.toNat].long) && (l[x.toNat].base == l[y.toNat].base)) := by unfold mayT; rw [e1, e2, e5, e6, e4]; rfl
    rw [e]
    simp only [e1, e2, e5, e6, e4, bne, Bool.not_true, Ty.z, EV, Nat.reduceEqDiff, Nat.reduceBEq, Nat.reduceLT, Nat.reduceLeDiff, Nat.reduceAdd, Nat.reduceSub, reduceIte]
    rcases b1 : (l[x.toNat].long == l[y.toNat].long) with _ | _
    · simp only [EV, Nat.reduceEqDiff, Nat.reduceBEq, Nat.reduceLT, Nat.reduceLeDiff, Nat.reduceAdd, Nat.reduceSub, reduceIte]
      simp only [b1, Bool.false_and, EV, Nat.reduceEqDiff, Nat.reduceBEq, Nat.reduceLT, Nat.reduceLeDiff, Nat.reduceAdd, Nat.reduceSub, reduceIte, evRE, retVC, cellV', evR, nfz, nfzs, nfzss, List.contains_nil, List.contains_cons, Bool.or_false, or_true]
    · simp only [EV, Nat.reduceEqDiff, Nat.reduceBEq, Nat.reduceLT, Nat.reduceLeDiff, Nat.reduceAdd, Nat.reduceSub, reduceIte]
      simp only [b1, Bool.true_and, EV, Nat.reduceEqDiff, Nat.reduceBEq, Nat.reduceLT, Nat.reduceLeDiff, Nat.reduceAdd, Nat.reduceSub, reduceIte, evRE, retVC, cellV', evR, nfz, nfzs, nfzss, List.contains_nil, List.contains_cons, Bool.or_false, or_true]
noncomputable def numsOk (l : List Ty) (x y : Int) : Bool := tabOk l && (isNum l x && isNum l y)
def m19 : MC :=
 (.seq (.reg [Xb 6 (.asg .fb), Xb 7 (.asg .fb)]) (.seq (.seq (.reg [Xm 8 0, Xb 9 (.call (.fn 55) false [.lend (.t 8)]), Xq 10 (.un .not (.t 9)), Xm 11 10, Xu 12 11 (.mov (.t 0)), Xu 13 11 (.mov (.t 1)), XU 14 11 (.call (.fn 61) false [.lend (.t 12), .lend (.t 13)]), Xu 15 11 (.un .not (.t 14)), Xq 16 (.pick (.t 11) .tb (.t 15)), Xm 17 16, Xu 18 17 (.mov (.t 0)), Xu 19 17 (.mov (.t 2)), XU 20 17
 (.call (.fn 61) false [.lend (.t 18), .lend (.t 19)]), Xu 21 17 (.un .not (.t 20)), Xq 22 (.pick (.t 17) .tb (.t 21))]) (.cond (.t 22) (.seq (.reg [Xb 6 (.asg .fb), Xb 7 (.asg .fb)]) .ret) .skip)) (.seq (.reg [Xm 23 0, Xm 24 1, Xm 25 2, Xb 26 (.call (.fn 66) false [.lend (.t 23), .lend (.t 24), .lend (.t 25)]), Xa 6 26, Xb 7 (.asg .tb)]) .ret)))
set_option maxRecDepth 100000 in
theorem d19 (l : List Ty) (x y : Int) (hl : (l.length : Int) ≤ 1048576) (hs : ∀ s ∈ l, s.sm) : Does Go.Proofs.Tryz.prog 19 [.fsl 6 (l.map Ty.z), .v (.int .i64 x), .v (.int .i64 y)] false (.tup [.v (.bool (numsOk l x y && mayL l x y)), .v (.bool (numsOk l x y))]) [.dead, .dead, .dead] := by
  refine does_intro (mc := m19) (N := 27) (rs := [6, 7]) (fx := []) 3 rfl (by decide +kernel) ?_
  simp only [m19, EV, Nat.reduceEqDiff, Nat.reduceBEq, Nat.reduceLT, Nat.reduceLeDiff, Nat.reduceAdd, Nat.reduceSub, reduceIte]
  refine callK_i (d55 l hl hs) ?_
  simp only [EV, Nat.reduceEqDiff, Nat.reduceBEq, Nat.reduceLT, Nat.reduceLeDiff, Nat.reduceAdd, Nat.reduceSub, reduceIte]
  rcases ht : tabOk l with _ | _
  · simp only [Bool.not_false, EV, Nat.reduceEqDiff, Nat.reduceBEq, Nat.reduceLT, Nat.reduceLeDiff, Nat.reduceAdd, Nat.reduceSub, reduceIte]
    simp only [numsOk, ht, Bool.false_and, EV, Nat.reduceEqDiff, Nat.reduceBEq, Nat.reduceLT, Nat.reduceLeDiff, Nat.reduceAdd, Nat.reduceSub, reduceIte, evRE, retVC, cellV', evR, nfz, nfzs, nfzss, List.contains_nil, List.contains_cons, Bool.or_false, or_true]
  simp only [Bool.not_true, EV, Nat.reduceEqDiff, Nat.reduceBEq, Nat.reduceLT, Nat.reduceLeDiff, Nat.reduceAdd, Nat.reduceSub, reduceIte]
  refine callK_i (d61 l x hl) ?_
  simp only [EV, Nat.reduceEqDiff, Nat.reduceBEq, Nat.reduceLT, Nat.reduceLeDiff, Nat.reduceAdd, Nat.reduceSub, reduceIte]
  rcases hx : isNum l x with _ | _
  · simp only [Bool.not_false, EV, Nat.reduceEqDiff, Nat.reduceBEq, Nat.reduceLT, Nat.reduceLeDiff, Nat.reduceAdd, Nat.reduceSub, reduceIte]
    simp only [numsOk, ht, hx, Bool.false_and, Bool.true_and, EV, Nat.reduceEqDiff, Nat.reduceBEq, Nat.reduceLT, Nat.reduceLeDiff, Nat.reduceAdd, Nat.reduceSub, reduceIte, evRE, retVC, cellV', evR, nfz, nfzs, nfzss, List.contains_nil, List.contains_cons, Bool.or_false, or_true]
  simp only [Bool.not_true, EV, Nat.reduceEqDiff, Nat.reduceBEq, Nat.reduceLT, Nat.reduceLeDiff, Nat.reduceAdd, Nat.reduceSub, reduceIte]
  refine callK_i (d61 l y hl) ?_
  simp only [EV, Nat.reduceEqDiff, Nat.reduceBEq, Nat.reduceLT, Nat.reduceLeDiff, Nat.reduceAdd, Nat.reduceSub, reduceIte]
  rcases hy : isNum l y with _ | _
  · simp only [Bool.not_false, EV, Nat.reduceEqDiff, Nat.reduceBEq, Nat.reduceLT, Nat.reduceLeDiff, Nat.reduceAdd, Nat.reduceSub, reduceIte]
    simp only [numsOk, ht, hx, hy, Bool.false_and, Bool.true_and, EV, Nat.reduceEqDiff, Nat.reduceBEq, Nat.reduceLT, Nat.reduceLeDiff, Nat.reduceAdd, Nat.reduceSub, reduceIte, evRE, retVC, cellV', evR, nfz, nfzs, nfzss, List.contains_nil, List.contains_cons, Bool.or_false, or_true]
  simp only [Bool.not_true, EV, Nat.reduceEqDiff, Nat.reduceBEq, Nat.reduceLT, Nat.reduceLeDiff, Nat.reduceAdd, Nat.reduceSub, reduceIte]
  refine callK_i (d66 l x y hl ht (isNum_in.1 hx) (isNum_in.1 hy)) ?_
  simp only [EV, Nat.reduceEqDiff, Nat.reduceBEq, Nat.reduceLT, Nat.reduceLeDiff, Nat.reduceAdd, Nat.reduceSub, reduceIte]
  simp only [numsOk, ht, hx, hy, Bool.true_and, EV, Nat.reduceEqDiff, Nat.reduceBEq, Nat.reduceLT, Nat.reduceLeDiff, Nat.reduceAdd, Nat.reduceSub, reduceIte, evRE, retVC, cellV', evR, nfz, nfzs, nfzss, List.contains_nil, List.contains_cons, Bool.or_false, or_true]
def m71 : MC :=
 (.seq (.reg [Xb 4 (.asg .fb)]) (.seq (.reg [Xm 5 0, Xb 6 (.call (.fn 58) false [.lend (.t 5)]), Xm 7 6, Xt 8 7 (.mov (.t 1)), Xt 9 7 (.mov (.t 0)), Xt 10 7 (.len false (.t 9)), Xt 11 7 (.bin false .sub (.t 10) (.i 1)), XT 12 7 (.call (.fn 72) false [.lend (.t 8), .lend (.i 0), .lend (.t 11)]), Xq 13 (.pick (.t 7) (.t 12) .fb), Xa 4 13]) .ret))
theorem d71 (l : List Ty) (n : Int) (hl : (l.length : Int) ≤ 1048576) (hs : ∀ s ∈ l, s.sm) : Does Go.Proofs.Tryz.prog 71 [.fsl 6 (l.map Ty.z), .v (.int .i64 n)] false (.v (.bool (tabOk l && isNum l n))) [.dead, .dead] := by
  refine does_intro (mc := m71) (N := 14) (rs := [4]) (fx := []) 2 rfl (by decide +kernel) ?_
  simp only [m71, EV, Nat.reduceEqDiff, Nat.reduceBEq, Nat.reduceLT, Nat.reduceLeDiff, Nat.reduceAdd, Nat.reduceSub, reduceIte]
  refine callK_i (d58 l hl hs) ?_
  simp only [EV, Nat.reduceEqDiff, Nat.reduceBEq, Nat.reduceLT, Nat.reduceLeDiff, Nat.reduceAdd, Nat.reduceSub, reduceIte]
  rcases ht : tabOk l with _ | _
  · simp only [EV, Nat.reduceEqDiff, Nat.reduceBEq, Nat.reduceLT, Nat.reduceLeDiff, Nat.reduceAdd, Nat.reduceSub, reduceIte]
    simp only [Bool.false_and, EV, Nat.reduceEqDiff, Nat.reduceBEq, Nat.reduceLT, Nat.reduceLeDiff, Nat.reduceAdd, Nat.reduceSub, reduceIte, evRE, retVC, cellV', evR, nfz, nfzs, nfzss, List.contains_nil, List.contains_cons, Bool.or_false, or_true]
  simp only [EV, Nat.reduceEqDiff, Nat.reduceBEq, Nat.reduceLT, Nat.reduceLeDiff, Nat.reduceAdd, Nat.reduceSub, reduceIte]
  rw [w64 _ (by omega)]
  refine callK_i (d72 _ _ _) ?_
  simp only [EV, Nat.reduceEqDiff, Nat.reduceBEq, Nat.reduceLT, Nat.reduceLeDiff, Nat.reduceAdd, Nat.reduceSub, reduceIte]
  have e : (decide (0 ≤ n) && decide (n ≤ (l.length : Int) - 1)) = isNum l n := rfl
  simp only [e, Bool.true_and, EV, Nat.reduceEqDiff, Nat.reduceBEq, Nat.reduceLT, Nat.reduceLeDiff, Nat.reduceAdd, Nat.reduceSub, reduceIte, evRE, retVC, cellV', evR, nfz, nfzs, nfzss, List.contains_nil, List.contains_cons, Bool.or_false, or_true]
def m23 : MC :=
 (.seq (.reg [Xb 6 (.asg .fb), Xb 7 (.asg .fb)]) (.seq (.seq (.reg [Xm 8 0, Xm 9 1, Xb 10 (.call (.fn 71) false [.lend (.t 8), .lend (.t 9)]), Xq 11 (.un .not (.t 10)), Xm 12 11, Xu 13 12 (.mov (.t 2)), Xu 14 12 (.mov (.t 0)), Xu 15 12 (.len false (.t 14)), Xu 16 12 (.bin false .sub (.t 15) (.i 1)), XU 17 12 (.call (.fn 72) false [.lend (.t 13), .lend (.i 0), .lend (.t 16)]), Xu 18 12 (.un .not (.t
 17)), Xq 19 (.pick (.t 12) .tb (.t 18))]) (.cond (.t 19) (.seq (.reg [Xb 6 (.asg .fb), Xb 7 (.asg .fb)]) .ret) .skip)) (.seq (.reg [Xm 20 0, Xm 21 1, Xm 22 2, Xb 23 (.call (.fn 73) false [.lend (.t 20), .lend (.t 21), .lend (.t 22)]), Xa 6 23, Xb 7 (.asg .tb)]) .ret)))
set_option maxRecDepth 100000 in
theorem d23 (l : List Ty) (x y : Int) (hl : (l.length : Int) ≤ 1048576) (hs : ∀ s ∈ l, s.sm) : Does Go.Proofs.Tryz.prog 23 [.fsl 6 (l.map Ty.z), .v (.int .i64 x), .v (.int .i64 y)] false (.tup [.v (.bool (numsOk l x y && mayL l x y)), .v (.bool (numsOk l x y))]) [.dead, .dead, .dead] := by
  refine does_intro (mc := m23) (N := 24) (rs := [6, 7]) (fx := []) 3 rfl (by decide +kernel) ?_
  simp only [m23, EV, Nat.reduceEqDiff, Nat.reduceBEq, Nat.reduceLT, Nat.reduceLeDiff, Nat.reduceAdd, Nat.reduceSub, reduceIte]
  refine callK_i (d71 l x hl hs) ?_
  simp only [EV, Nat.reduceEqDiff, Nat.reduceBEq, Nat.reduceLT, Nat.reduceLeDiff, Nat.reduceAdd, Nat.reduceSub, reduceIte]
  rcases hx : (tabOk l && isNum l x) with _ | _
  · have e : numsOk l x y = false := by unfold numsOk; rw [← Bool.and_assoc, hx, Bool.false_and]
    simp only [Bool.not_false, EV, Nat.reduceEqDiff, Nat.reduceBEq, Nat.reduceLT, Nat.reduceLeDiff, Nat.reduceAdd, Nat.reduceSub, reduceIte]
    simp only [e, Bool.false_and, EV, Nat.reduceEqDiff, Nat.reduceBEq, Nat.reduceLT, Nat.reduceLeDiff, Nat.reduceAdd, Nat.reduceSub, reduceIte, evRE, retVC, cellV', evR, nfz, nfzs, nfzss, List.contains_nil, List.contains_cons, Bool.or_false, or_true]
  have e : numsOk l x y = isNum l y := by unfold numsOk; rw [← Bool.and_assoc, hx, Bool.true_and]
  have hx' := hx
  simp only [Bool.and_eq_true] at hx'
  simp only [Bool.not_true, EV, Nat.reduceEqDiff, Nat.reduceBEq, Nat.reduceLT, Nat.reduceLeDiff, Nat.reduceAdd, Nat.reduceSub, reduceIte]
  rw [w64 _ (by omega)]
  refine callK_i (d72 _ _ _) ?_
  have e3 : (decide (0 ≤ y) && decide (y ≤ (l.length : Int) - 1)) = isNum l y := rfl
  simp only [e3, EV, Nat.reduceEqDiff, Nat.reduceBEq, Nat.reduceLT, Nat.reduceLeDiff, Nat.reduceAdd, Nat.reduceSub, reduceIte]
  rcases hy : isNum l y with _ | _
  · simp only [Bool.not_false, EV, Nat.reduceEqDiff, Nat.reduceBEq, Nat.reduceLT, Nat.reduceLeDiff, Nat.reduceAdd, Nat.reduceSub, reduceIte]
    simp only [e, hy, Bool.false_and, EV, Nat.reduceEqDiff, Nat.reduceBEq, Nat.reduceLT, Nat.reduceLeDiff, Nat.reduceAdd, Nat.reduceSub, reduceIte, evRE, retVC, cellV', evR, nfz, nfzs, nfzss, List.contains_nil, List.contains_cons, Bool.or_false, or_true]
  simp only [Bool.not_true, EV, Nat.reduceEqDiff, Nat.reduceBEq, Nat.reduceLT, Nat.reduceLeDiff, Nat.reduceAdd, Nat.reduceSub, reduceIte]
  refine callK_i (d73 l x y hl hx'.1 (isNum_in.1 hx'.2) (isNum_in.1 hy)) ?_
  simp only [EV, Nat.reduceEqDiff, Nat.reduceBEq, Nat.reduceLT, Nat.reduceLeDiff, Nat.reduceAdd, Nat.reduceSub, reduceIte]
  simp only [e, hy, Bool.true_and, EV, Nat.reduceEqDiff, Nat.reduceBEq, Nat.reduceLT, Nat.reduceLeDiff, Nat.reduceAdd, Nat.reduceSub, reduceIte, evRE, retVC, cellV', evR, nfz, nfzs, nfzss, List.contains_nil, List.contains_cons, Bool.or_false, or_true]
end Go.AM
namespace Go.AM
set_option linter.unusedVariables false
set_option linter.unusedSimpArgs false
noncomputable def parFit (l : List Ty) (p : Par) (k : Int) : Bool := p.typ == k || (!p.byvar && mayL l p.typ k)
noncomputable def fitTo (l : List Ty) (ps : List Par) (ks : List Int) (n : Nat) : Prop := ∀ i (h : i < ps.length) (g : i < ks.length), i < n → parFit l ps[i] ks[i] = true
open Classical in
noncomputable def fitL (l : List Ty) (ps : List Par) (ks : List Int) : Bool := decide (ps.length = ks.length ∧ fitTo l ps ks ps.length)
theorem fitTo_succ {l : List Ty} {ps : List Par} {ks : List Int} {i : Nat} (h : i < ps.length) (g : i < ks.length) (h1 : fitTo l ps ks i) (h2 : parFit l ps[i] ks[i] = true) : fitTo l ps ks (i + 1) := by
  intro j hj gj hji
  by_cases e : j = i
  · subst e; exact h2
  · exact h1 j hj gj (by omega)
theorem fitL_no {l : List Ty} {ps : List Par} {ks : List Int} {i : Nat} (h : i < ps.length) (g : i < ks.length) (h2 : parFit l ps[i] ks[i] = false) : fitL l ps ks = false := by
  simp only [fitL, decide_eq_false_iff_not]
  rintro ⟨_, h1⟩
  have := h1 i h g h
  rw [h2] at this; cases this
theorem fitL_ne {l : List Ty} {ps : List Par} {ks : List Int} (h : ¬ ps.length = ks.length) : fitL l ps ks = false := by simp [fitL, h]
theorem fitL_yes {l : List Ty} {ps : List Par} {ks : List Int} (h : ps.length = ks.length) (h1 : fitTo l ps ks ps.length) : fitL l ps ks = true := by simp [fitL, h]; rw [← h]; exact h1
def m81 : MC :=
 (.seq (.reg [Xb 6 (.asg .fb)]) (.seq (.seq (.reg [Xm 10 0, Xn 11 10, Xm 12 1, Xn 13 12, Xq 14 (.bin false .neq (.t 11) (.t 13))]) (.cond (.t 14) (.seq (.reg [Xb 6 (.asg .fb)]) .ret) .skip)) (.seq (.seq (.reg [Xm 15 0, Xn 16 15, Xq 17 (.mov (.i 0))]) (.block 0 (.loop [0, 1, 2, 15, 16, 17] (.seq (.reg [Xq 18 (.bin false .lss (.t 17) (.t 16))]) (.seq (.cond (.t 18) .skip (.exit 0)) (.seq (.block 1
 (.seq (.reg [Xm 19 17, Xi 20 3 15 17, XL 21 3 20, Xb 8 (.alloc 54 [.z, .b, .i]), Xa 7 19, Xz (.store 3 (.t 8) (.t 21))]) (.seq (.reg [Xm 22 1, Xm 23 7, Xi 24 1 22 23, Xl 25 1 24, Xa 9 25]) (.seq (.reg [Xm 26 2, XL 27 3 8, Xm 28 9, Xb 29 (.call (.t 26) false [.lend (.t 27), .lend (.t 28)]), Xq 30 (.un .not (.t 29))]) (.cond (.t 30) (.seq (.reg [Xb 6 (.asg .fb)]) .ret) .skip))))) (.reg [Xq 31 (.bin
 false .add (.t 17) (.i 1)), Xm 17 31]))))))) (.seq (.reg [Xb 6 (.asg .tb)]) .ret))))
set_option maxRecDepth 100000 in
theorem d81 (l : List Ty) (ps : List Par) (ks : List Int) (hp : (ps.length : Int) ≤ 1048576) (hk : (ks.length : Int) ≤ 1048576) (f : Nat) (caps : List AV) (hp' : plains caps = true) (hb : bares caps = true) (hkk : ∀ K, killVs K caps = caps) (hf : ∀ (st : St), frzBs st caps = caps)
    (hq : ∀ p ∈ ps, ∀ k ∈ ks, Does Go.Proofs.Tryz.prog f (.agg p.z :: .v (.int .i64 k) :: caps) false (.v (.bool (parFit l p k))) (.dead :: .dead :: caps.map fun _ => .dead)) :
    Does Go.Proofs.Tryz.prog 81 [.fsl 3 (ps.map Par.z), .fsl 1 (ks.map iv), .clo f caps] false (.v (.bool (fitL l ps ks))) [.dead, .dead, .dead] := by
  refine does_intro (mc := m81) (N := 32) (rs := [6]) (fx := []) 3 rfl (by decide +kernel) ?_
  simp only [m81, EV, Nat.reduceEqDiff, Nat.reduceBEq, Nat.reduceLT, Nat.reduceLeDiff, Nat.reduceAdd, Nat.reduceSub, reduceIte]
  refine cK_cut (fun h => ?_) (fun h => ?_)
  · have h1 : ¬ ps.length = ks.length := by intro e; simp [e] at h
    simp only [EV, Nat.reduceEqDiff, Nat.reduceBEq, Nat.reduceLT, Nat.reduceLeDiff, Nat.reduceAdd, Nat.reduceSub, reduceIte]
    simp only [fitL_ne h1, EV, Nat.reduceEqDiff, Nat.reduceBEq, Nat.reduceLT, Nat.reduceLeDiff, Nat.reduceAdd, Nat.reduceSub, reduceIte, evRE, retVC, cellV', evR, nfz, nfzs, nfzss, List.contains_nil, List.contains_cons, Bool.or_false, or_true]
  have hl : ps.length = ks.length := by have : ((ps.length : Int) = ks.length) := by simpa using h
                                        omega
  clear h
  simp only [EV, Nat.reduceEqDiff, Nat.reduceBEq, Nat.reduceLT, Nat.reduceLeDiff, Nat.reduceAdd, Nat.reduceSub, reduceIte]
  refine awp_loop (fun i : Nat => i ≤ ps.length ∧ fitTo l ps ks i) (fun i => stl [(0, .fsl 3 (ps.map Par.z)), (1, .fsl 1 (ks.map iv)), (2, .clo f caps), (15, .fsl 3 (ps.map Par.z)), (16, .v (.int .i64 (ps.length : Int))), (17, .v (.int .i64 (i : Int)))]) (fun i => ps.length - i) 0 ⟨Nat.zero_le _, fun j hj _ h => absurd h (by omega)⟩ ?_ ?_
  · simp only [hp', hb, hkk, EV, Nat.reduceEqDiff, Nat.reduceBEq, Nat.reduceLT, Nat.reduceLeDiff, Nat.reduceAdd, Nat.reduceSub, reduceIte]
    rfl
  rintro i ⟨hi, hok⟩
  rcases h : decide ((i : Int) < (ps.length : Int)) with _ | _
  rotate_left
  · have h1 : i < ps.length := by simpa using h
    have h2 : (i : Int) < (ps.length : Int) := by omega
    have g1 : i < ks.length := by omega
    have g2 : (i : Int) < (ks.length : Int) := by omega
    have dq := hq _ (List.getElem_mem h1) _ (List.getElem_mem g1)
    simp only [Par.z] at dq
    simp only [h, EV, Nat.reduceEqDiff, Nat.reduceBEq, Nat.reduceLT, Nat.reduceLeDiff, Nat.reduceAdd, Nat.reduceSub, reduceIte]
    simp only [ParE, nth_map h1, h2, nth_map g1, g2, iv, hp', hb, hkk, Par.z, EV, Nat.reduceEqDiff, Nat.reduceBEq, Nat.reduceLT, Nat.reduceLeDiff, Nat.reduceAdd, Nat.reduceSub, reduceIte]
    refine callK_i dq ?_
    simp only [EV, Nat.reduceEqDiff, Nat.reduceBEq, Nat.reduceLT, Nat.reduceLeDiff, Nat.reduceAdd, Nat.reduceSub, reduceIte]
    rcases e1 : parFit l ps[i] ks[i] with _ | _
    · simp only [Bool.not_false, EV, Nat.reduceEqDiff, Nat.reduceBEq, Nat.reduceLT, Nat.reduceLeDiff, Nat.reduceAdd, Nat.reduceSub, reduceIte]
      simp only [fitL_no h1 g1 e1, EV, Nat.reduceEqDiff, Nat.reduceBEq, Nat.reduceLT, Nat.reduceLeDiff, Nat.reduceAdd, Nat.reduceSub, reduceIte, evRE, retVC, cellV', evR, nfz, nfzs, nfzss, List.contains_nil, List.contains_cons, Bool.or_false, or_true]
    · simp only [Bool.not_true, hp', hb, hkk, EV, Nat.reduceEqDiff, Nat.reduceBEq, Nat.reduceLT, Nat.reduceLeDiff, Nat.reduceAdd, Nat.reduceSub, reduceIte]
      rw [w64 _ (by omega)]
      exact ⟨i + 1, ⟨h1, fitTo_succ h1 g1 hok e1⟩, by omega, rfl⟩
  have h1 : i = ps.length := by have : ¬ (i : Int) < ps.length := by simpa using h
                                omega
  subst h1
  simp only [h, EV, Nat.reduceEqDiff, Nat.reduceBEq, Nat.reduceLT, Nat.reduceLeDiff, Nat.reduceAdd, Nat.reduceSub, reduceIte]
  simp only [fitL_yes hl hok, EV, Nat.reduceEqDiff, Nat.reduceBEq, Nat.reduceLT, Nat.reduceLeDiff, Nat.reduceAdd, Nat.reduceSub, reduceIte, evRE, retVC, cellV', evR, nfz, nfzs, nfzss, List.contains_nil, List.contains_cons, Bool.or_false, or_true]
def m84 : MC :=
 (.seq (.reg [Xb 6 (.asg .fb)]) (.seq (.seq (.reg [Xm 9 0, Xn 10 9, Xq 11 (.mov (.i 0))]) (.block 0 (.loop [0, 1, 2, 9, 10, 11] (.seq (.reg [Xq 12 (.bin false .lss (.t 11) (.t 10))]) (.seq (.cond (.t 12) .skip (.exit 0)) (.seq (.block 1 (.seq (.reg [Xi 13 1 9 11, Xl 14 1 13, Xa 8 14]) (.seq (.reg [Xm 15 8, Xm 16 1, Xm 17 2, Xb 18 (.call (.fn 72) false [.lend (.t 15), .lend (.t 16), .lend (.t 17)]),
 Xq 19 (.un .not (.t 18))]) (.cond (.t 19) (.seq (.reg [Xb 6 (.asg .fb)]) .ret) .skip)))) (.reg [Xq 20 (.bin false .add (.t 11) (.i 1)), Xm 11 20]))))))) (.seq (.reg [Xb 6 (.asg .tb)]) .ret)))
theorem d84 (l : List Int) (a b : Int) (hl : (l.length : Int) ≤ 1048576) : Does Go.Proofs.Tryz.prog 84 [.fsl 1 (l.map iv), .v (.int .i64 a), .v (.int .i64 b)] false (.v (.bool (!(l.any fun k => !(decide (a ≤ k) && decide (k ≤ b)))))) [.dead, .dead, .dead] := by
  refine does_intro (mc := m84) (N := 21) (rs := [6]) (fx := []) 3 rfl (by decide +kernel) ?_
  simp only [m84, EV, Nat.reduceEqDiff, Nat.reduceBEq, Nat.reduceLT, Nat.reduceLeDiff, Nat.reduceAdd, Nat.reduceSub, reduceIte]
  refine awp_loop (fun i : Nat => i ≤ l.length ∧ ((l.take i).any fun k => !(decide (a ≤ k) && decide (k ≤ b))) = false) (fun i => stl [(0, .fsl 1 (l.map iv)), (1, .v (.int .i64 a)), (2, .v (.int .i64 b)), (9, .fsl 1 (l.map iv)), (10, .v (.int .i64 (l.length : Int))), (11, .v (.int .i64 (i : Int)))]) (fun i => l.length - i) 0 ⟨Nat.zero_le _, by simp⟩ ?_ ?_
  · simp only [EV, Nat.reduceEqDiff, Nat.reduceBEq, Nat.reduceLT, Nat.reduceLeDiff, Nat.reduceAdd, Nat.reduceSub, reduceIte]
    rfl
  rintro i ⟨hi, hno⟩
  rcases h : decide ((i : Int) < (l.length : Int)) with _ | _
  rotate_left
  · have h1 : i < l.length := by simpa using h
    have h2 : (i : Int) < (l.length : Int) := by omega
    simp only [h, EV, Nat.reduceEqDiff, Nat.reduceBEq, Nat.reduceLT, Nat.reduceLeDiff, Nat.reduceAdd, Nat.reduceSub, reduceIte]
    simp only [nth_map h1, h2, iv, EV, Nat.reduceEqDiff, Nat.reduceBEq, Nat.reduceLT, Nat.reduceLeDiff, Nat.reduceAdd, Nat.reduceSub, reduceIte]
    refine callK_i (d72 l[i] a b) ?_
    simp only [EV, Nat.reduceEqDiff, Nat.reduceBEq, Nat.reduceLT, Nat.reduceLeDiff, Nat.reduceAdd, Nat.reduceSub, reduceIte]
    rcases e1 : (decide (a ≤ l[i]) && decide (l[i] ≤ b)) with _ | _
    · have e2 : (l.any fun k => !(decide (a ≤ k) && decide (k ≤ b))) = true := List.any_eq_true.2 ⟨_, List.getElem_mem h1, by rw [e1]; rfl⟩
      simp only [Bool.not_false, EV, Nat.reduceEqDiff, Nat.reduceBEq, Nat.reduceLT, Nat.reduceLeDiff, Nat.reduceAdd, Nat.reduceSub, reduceIte]
      simp only [e2, Bool.not_true, EV, Nat.reduceEqDiff, Nat.reduceBEq, Nat.reduceLT, Nat.reduceLeDiff, Nat.reduceAdd, Nat.reduceSub, reduceIte, evRE, retVC, cellV', evR, nfz, nfzs, nfzss, List.contains_nil, List.contains_cons, Bool.or_false, or_true]
    · simp only [Bool.not_true, EV, Nat.reduceEqDiff, Nat.reduceBEq, Nat.reduceLT, Nat.reduceLeDiff, Nat.reduceAdd, Nat.reduceSub, reduceIte]
      rw [w64 _ (by omega)]
      exact ⟨i + 1, ⟨h1, by rw [List.take_succ_eq_append_getElem h1, List.any_append, hno]; simp only [List.any_cons, List.any_nil, e1, Bool.not_true, Bool.or_self]⟩, by omega, rfl⟩
  have h1 : i = l.length := by have : ¬ (i : Int) < l.length := by simpa using h
                               omega
  subst h1
  rw [List.take_length] at hno
  simp only [h, EV, Nat.reduceEqDiff, Nat.reduceBEq, Nat.reduceLT, Nat.reduceLeDiff, Nat.reduceAdd, Nat.reduceSub, reduceIte]
  simp only [hno, Bool.not_false, EV, Nat.reduceEqDiff, Nat.reduceBEq, Nat.reduceLT, Nat.reduceLeDiff, Nat.reduceAdd, Nat.reduceSub, reduceIte, evRE, retVC, cellV', evR, nfz, nfzs, nfzss, List.contains_nil, List.contains_cons, Bool.or_false, or_true]
def m80 : MC :=
 (.seq (.reg [Xb 3 (.asg .fb)]) (.seq (.reg [Xf 4 2 1, Xl 5 1 4, Xm 6 0, Xb 7 (.call (.fn 61) false [.lend (.t 5), .lend (.t 6)]), Xq 8 (.un .not (.t 7)), Xa 3 8]) .ret))
theorem d80 (s : Scope) (n : Int) (hl : (s.types.length : Int) ≤ 1048576) : Does Go.Proofs.Tryz.prog 80 [.v (.int .i64 n), .fptr s.z] false (.v (.bool (!isNum s.types n))) [.dead, .dead] := by
  refine does_intro (mc := m80) (N := 9) (rs := [3]) (fx := []) 2 rfl (by decide +kernel) ?_
  simp only [m80, Scope.z, EV, Nat.reduceEqDiff, Nat.reduceBEq, Nat.reduceLT, Nat.reduceLeDiff, Nat.reduceAdd, Nat.reduceSub, reduceIte]
  refine callK_i (d61 s.types n hl) ?_
  simp only [EV, Nat.reduceEqDiff, Nat.reduceBEq, Nat.reduceLT, Nat.reduceLeDiff, Nat.reduceAdd, Nat.reduceSub, reduceIte]
  simp only [EV, Nat.reduceEqDiff, Nat.reduceBEq, Nat.reduceLT, Nat.reduceLeDiff, Nat.reduceAdd, Nat.reduceSub, reduceIte, evRE, retVC, cellV', evR, nfz, nfzs, nfzss, List.contains_nil, List.contains_cons, Bool.or_false, or_true]
def m82 : MC :=
 (.seq (.reg [Xb 3 (.box 54 (.t 0)), Xb 5 (.asg .fb)]) (.seq (.reg [Xf 6 2 3, Xl 7 1 6, Xm 8 1, Xq 9 (.bin false .eql (.t 7) (.t 8)), Xm 10 9, Xu 11 10 (.fad 1 (.t 3)), Xu 12 10 (.load false 1 (.t 11)), Xu 13 10 (.un .not (.t 12)), Xu 14 10 (.mov (.t 13)), Xt 15 14 (.fad 2 (.t 2)), Xt 16 14 (.load false 1 (.t 15)), Xt 17 14 (.fad 2 (.t 3)), Xt 18 14 (.load false 1 (.t 17)), Xt 19 14 (.mov (.t 1)),
 XT 20 14 (.call (.fn 66) false [.lend (.t 16), .lend (.t 18), .lend (.t 19)]), Xu 21 10 (.pick (.t 14) (.t 20) .fb), Xq 22 (.pick (.t 10) .tb (.t 21)), Xa 5 22]) .ret))
set_option maxRecDepth 100000 in
theorem d82 (s : Scope) (p : Par) (n : Int) (hl : (s.types.length : Int) ≤ 1048576) (ht : tabOk s.types = true) (hx : isNum s.types p.typ = true) (hy : isNum s.types n = true) : Does Go.Proofs.Tryz.prog 82 [.agg p.z, .v (.int .i64 n), .fptr s.z] false (.v (.bool (parFit s.types p n))) [.dead, .dead, .dead] := by
  refine does_intro (mc := m82) (N := 23) (rs := [5]) (fx := []) 3 rfl (by decide +kernel) ?_
  simp only [m82, Par.z, Scope.z, EV, Nat.reduceEqDiff, Nat.reduceBEq, Nat.reduceLT, Nat.reduceLeDiff, Nat.reduceAdd, Nat.reduceSub, reduceIte]
  rcases e1 : (p.typ == n) with _ | _
  · simp only [Par.z, Scope.z, EV, Nat.reduceEqDiff, Nat.reduceBEq, Nat.reduceLT, Nat.reduceLeDiff, Nat.reduceAdd, Nat.reduceSub, reduceIte]
    rcases e2 : p.byvar with _ | _
    · simp only [Bool.not_false, Par.z, Scope.z, EV, Nat.reduceEqDiff, Nat.reduceBEq, Nat.reduceLT, Nat.reduceLeDiff, Nat.reduceAdd, Nat.reduceSub, reduceIte]
      refine callK_i (d66 s.types p.typ n hl ht (isNum_in.1 hx) (isNum_in.1 hy)) ?_
      simp only [EV, Nat.reduceEqDiff, Nat.reduceBEq, Nat.reduceLT, Nat.reduceLeDiff, Nat.reduceAdd, Nat.reduceSub, reduceIte]
      simp only [parFit, e1, e2, Bool.not_false, Bool.false_or, Bool.true_and, EV, Nat.reduceEqDiff, Nat.reduceBEq, Nat.reduceLT, Nat.reduceLeDiff, Nat.reduceAdd, Nat.reduceSub, reduceIte, evRE, retVC, cellV', evR, nfz, nfzs, nfzss, List.contains_nil, List.contains_cons, Bool.or_false, or_true]
    · simp only [Bool.not_true, Par.z, Scope.z, EV, Nat.reduceEqDiff, Nat.reduceBEq, Nat.reduceLT, Nat.reduceLeDiff, Nat.reduceAdd, Nat.reduceSub, reduceIte]
      simp only [parFit, e1, e2, Bool.not_true, Bool.false_or, Bool.false_and, EV, Nat.reduceEqDiff, Nat.reduceBEq, Nat.reduceLT, Nat.reduceLeDiff, Nat.reduceAdd, Nat.reduceSub, reduceIte, evRE, retVC, cellV', evR, nfz, nfzs, nfzss, List.contains_nil, List.contains_cons, Bool.or_false, or_true]
  · simp only [Par.z, Scope.z, EV, Nat.reduceEqDiff, Nat.reduceBEq, Nat.reduceLT, Nat.reduceLeDiff, Nat.reduceAdd, Nat.reduceSub, reduceIte]
    simp only [parFit, e1, Bool.true_or, EV, Nat.reduceEqDiff, Nat.reduceBEq, Nat.reduceLT, Nat.reduceLeDiff, Nat.reduceAdd, Nat.reduceSub, reduceIte, evRE, retVC, cellV', evR, nfz, nfzs, nfzss, List.contains_nil, List.contains_cons, Bool.or_false, or_true]
end Go.AM
namespace Go.AM
set_option linter.unusedVariables false
set_option linter.unusedSimpArgs false
def kdAt (s : Scope) (n : Int) : Int := match s.objects[n.toNat]? with
  | some o => o.kind
  | none => 0
def psAt (s : Scope) (n : Int) : List Par := match s.objects[n.toNat]? with
  | some o => o.params
  | none => []
noncomputable def mcOk (s : Scope) (n : Int) (ks : List Int) : Bool :=
  scOk s && ((decide (0 ≤ n) && decide (n ≤ (s.objects.length : Int) - 1)) && (kdAt s n == 4 && (!(decide (4 < (ks.length : Int))) && !(ks.any fun k => !isNum s.types k))))
theorem pars_num {l : List Ty} {ps : List Par} (h : parsOk l ps = true) : ∀ p ∈ ps, isNum l p.typ = true := by
  intro p hp
  obtain ⟨i, hi, rfl⟩ := List.mem_iff_getElem.1 hp
  simp only [parsOk, decide_eq_true_eq] at h
  have := h i hi hi
  simp only [parAt, Bool.and_eq_true] at this
  exact this.2.1
theorem may_self {l : List Ty} {x : Int} (h : isNum l x = true) : mayL l x x = true := by
  obtain ⟨h0, h1⟩ := isNum_in.1 h
  have hn : x.toNat < l.length := by omega
  simp [mayL, mayT, hn]
def m25 : MC :=
 (.seq (.reg [Xb 3 (.box 45 (.t 0)), Xb 6 (.asg .fb), Xb 7 (.asg .fb)]) (.seq (.seq (.reg [Xb 8 (.call (.fn 77) false [.lend (.t 3)]), Xq 9 (.un .not (.t 8)), Xm 10 9, Xu 11 10 (.mov (.t 1)), Xu 12 10 (.fad 3 (.t 3)), Xu 13 10 (.load false 1 (.t 12)), Xu 14 10 (.len false (.t 13)), Xu 15 10 (.bin false .sub (.t 14) (.i 1)), XU 16 10 (.call (.fn 78) false [.lend (.t 11), .lend (.i 0), .lend (.t
 15)]), Xu 17 10 (.un .not (.t 16)), Xq 18 (.pick (.t 10) .tb (.t 17)), Xm 19 18, Xu 20 19 (.fad 3 (.t 3)), Xu 21 19 (.load false 1 (.t 20)), Xu 22 19 (.mov (.t 1)), Xu 23 19 (.iad 6 (.t 21) (.t 22)), Xu 24 19 (.fad 1 (.t 23)), Xu 25 19 (.load false 1 (.t 24)), Xu 26 19 (.bin false .neq (.t 25) (.i 4)), Xq 27 (.pick (.t 19) .tb (.t 26)), Xm 28 27, Xu 29 28 (.mov (.t 2)), Xu 30 28 (.len false (.t
 29)), Xu 31 28 (.bin false .gtr (.t 30) (.i 4)), Xq 32 (.pick (.t 28) .tb (.t 31)), Xm 33 32, Xu 34 33 (.mov (.t 2)), Xu 35 33 (.mkf 80 [.t 3]), XU 36 33 (.call (.fn 79) false [.lend (.t 34), .lend (.t 35)]), Xq 37 (.pick (.t 33) .tb (.t 36))]) (.cond (.t 37) (.seq (.reg [Xb 6 (.asg .fb), Xb 7 (.asg .fb)]) .ret) .skip)) (.seq (.reg [Xf 38 3 3, Xl 39 1 38, Xm 40 1, Xi 41 6 39 40, Xf 42 5 41, Xl 43
 1 42, Xm 44 2, Xq 45 (.mkf 82 [.t 3]), Xb 46 (.call (.fn 81) false [.lend (.t 43), .lend (.t 44), .lend (.t 45)]), Xa 6 46, Xb 7 (.asg .tb)]) .ret)))
set_option maxHeartbeats 1000000 in
set_option maxRecDepth 100000 in
theorem d25 (s : Scope) (n : Int) (ks : List Int) (hs : s.sm) (hk : (ks.length : Int) ≤ 1048576) :
    Does Go.Proofs.Tryz.prog 25 [.agg s.z, .v (.int .i64 n), .fsl 1 (ks.map iv)] false (.tup [.v (.bool (mcOk s n ks && fitL s.types (psAt s n) ks)), .v (.bool (mcOk s n ks))]) [.dead, .dead, .dead] := by
  have hs' := hs
  unfold Scope.sm at hs'
  obtain ⟨z1, z2, z3, z4, z5⟩ := hs'
  have wl := w64 ((s.objects.length : Int) - 1) (by omega)
  have dis := d77 s hs
  simp only [Scope.z] at dis
  refine does_intro (mc := m25) (N := 47) (rs := [6, 7]) (fx := []) 3 rfl (by decide +kernel) ?_
  simp only [m25, Scope.z, EV, Nat.reduceEqDiff, Nat.reduceBEq, Nat.reduceLT, Nat.reduceLeDiff, Nat.reduceAdd, Nat.reduceSub, reduceIte]
  refine callK_i dis ?_
  simp only [EV, Nat.reduceEqDiff, Nat.reduceBEq, Nat.reduceLT, Nat.reduceLeDiff, Nat.reduceAdd, Nat.reduceSub, reduceIte]
  rcases e1 : scOk s with _ | _
  · simp only [Bool.not_false, EV, Nat.reduceEqDiff, Nat.reduceBEq, Nat.reduceLT, Nat.reduceLeDiff, Nat.reduceAdd, Nat.reduceSub, reduceIte]
    simp only [mcOk, e1, Bool.false_and, EV, Nat.reduceEqDiff, Nat.reduceBEq, Nat.reduceLT, Nat.reduceLeDiff, Nat.reduceAdd, Nat.reduceSub, reduceIte, evRE, retVC, cellV', evR, nfz, nfzs, nfzss, List.contains_nil, List.contains_cons, Bool.or_false, or_true]
  simp only [Bool.not_true, wl, Scope.z, EV, Nat.reduceEqDiff, Nat.reduceBEq, Nat.reduceLT, Nat.reduceLeDiff, Nat.reduceAdd, Nat.reduceSub, reduceIte]
  refine callK_i (d78 n 0 ((s.objects.length : Int) - 1)) ?_
  simp only [EV, Nat.reduceEqDiff, Nat.reduceBEq, Nat.reduceLT, Nat.reduceLeDiff, Nat.reduceAdd, Nat.reduceSub, reduceIte]
  rcases e2 : (decide (0 ≤ n) && decide (n ≤ (s.objects.length : Int) - 1)) with _ | _
  · simp only [Bool.not_false, EV, Nat.reduceEqDiff, Nat.reduceBEq, Nat.reduceLT, Nat.reduceLeDiff, Nat.reduceAdd, Nat.reduceSub, reduceIte]
    simp only [mcOk, e2, Bool.false_and, Bool.and_false, EV, Nat.reduceEqDiff, Nat.reduceBEq, Nat.reduceLT, Nat.reduceLeDiff, Nat.reduceAdd, Nat.reduceSub, reduceIte, evRE, retVC, cellV', evR, nfz, nfzs, nfzss, List.contains_nil, List.contains_cons, Bool.or_false, or_true]
  have e2' := e2
  simp only [Bool.and_eq_true, decide_eq_true_eq] at e2'
  have n0 : 0 ≤ n := e2'.1
  have n1 : n.toNat < s.objects.length := by omega
  have n2 : n < (s.objects.length : Int) := by omega
  have hkd : kdAt s n = s.objects[n.toNat].kind := by simp [kdAt, n1]
  have hps : psAt s n = s.objects[n.toNat].params := by simp [psAt, n1]
  simp only [Bool.not_true, n0, n2, n1, nth_map n1, Ob.z, Scope.z, EV, Nat.reduceEqDiff, Nat.reduceBEq, Nat.reduceLT, Nat.reduceLeDiff, Nat.reduceAdd, Nat.reduceSub, reduceIte]
  have hne : (s.objects[n.toNat].kind != 4) = !(s.objects[n.toNat].kind == 4) := rfl
  rw [hne]
  rcases e3 : (s.objects[n.toNat].kind == 4) with _ | _
  · simp only [Bool.not_false, EV, Nat.reduceEqDiff, Nat.reduceBEq, Nat.reduceLT, Nat.reduceLeDiff, Nat.reduceAdd, Nat.reduceSub, reduceIte]
    simp only [mcOk, hkd, e3, Bool.false_and, Bool.and_false, EV, Nat.reduceEqDiff, Nat.reduceBEq, Nat.reduceLT, Nat.reduceLeDiff, Nat.reduceAdd, Nat.reduceSub, reduceIte, evRE, retVC, cellV', evR, nfz, nfzs, nfzss, List.contains_nil, List.contains_cons, Bool.or_false, or_true]
  simp only [Bool.not_true, EV, Nat.reduceEqDiff, Nat.reduceBEq, Nat.reduceLT, Nat.reduceLeDiff, Nat.reduceAdd, Nat.reduceSub, reduceIte]
  rcases e4 : decide (4 < (ks.length : Int)) with _ | _
  rotate_left
  · simp only [EV, Nat.reduceEqDiff, Nat.reduceBEq, Nat.reduceLT, Nat.reduceLeDiff, Nat.reduceAdd, Nat.reduceSub, reduceIte]
    simp only [mcOk, e4, Bool.not_true, Bool.false_and, Bool.and_false, EV, Nat.reduceEqDiff, Nat.reduceBEq, Nat.reduceLT, Nat.reduceLeDiff, Nat.reduceAdd, Nat.reduceSub, reduceIte, evRE, retVC, cellV', evR, nfz, nfzs, nfzss, List.contains_nil, List.contains_cons, Bool.or_false, or_true]
  simp only [Scope.z, EV, Nat.reduceEqDiff, Nat.reduceBEq, Nat.reduceLT, Nat.reduceLeDiff, Nat.reduceAdd, Nat.reduceSub, reduceIte]
  have dcf := d79 ks (by omega) 80 [.fptr s.z] (fun k => !isNum s.types k) rfl rfl (fun _ => rfl) (fun _ => rfl) (fun k _ => d80 s k z3.1)
  simp only [Scope.z] at dcf
  refine callK_i dcf ?_
  simp only [EV, Nat.reduceEqDiff, Nat.reduceBEq, Nat.reduceLT, Nat.reduceLeDiff, Nat.reduceAdd, Nat.reduceSub, reduceIte]
  rcases e5 : (ks.any fun k => !isNum s.types k) with _ | _
  rotate_left
  · simp only [EV, Nat.reduceEqDiff, Nat.reduceBEq, Nat.reduceLT, Nat.reduceLeDiff, Nat.reduceAdd, Nat.reduceSub, reduceIte]
    simp only [mcOk, e5, Bool.not_true, Bool.and_false, Bool.false_and, EV, Nat.reduceEqDiff, Nat.reduceBEq, Nat.reduceLT, Nat.reduceLeDiff, Nat.reduceAdd, Nat.reduceSub, reduceIte, evRE, retVC, cellV', evR, nfz, nfzs, nfzss, List.contains_nil, List.contains_cons, Bool.or_false, or_true]
  have hok : mcOk s n ks = true := by simp only [mcOk, e1, e2, hkd, e3, e4, e5, Bool.not_false, Bool.and_self]
  have P := scOk_iff.1 e1
  have hnum : ∀ k ∈ ks, isNum s.types k = true := by
    intro k hk'
    rw [List.any_eq_false] at e5
    simpa using e5 k hk'
  have hob := P.obs n.toNat n1 n1
  simp only [obOk, Bool.and_eq_true] at hob
  have hpn := pars_num hob.2.1
  have hpl := (z4.2 _ (List.getElem_mem n1)).2.2.2.2.2.1
  have deq := d81 s.types s.objects[n.toNat].params ks hpl hk 82 [.fptr s.z] rfl rfl (fun _ => rfl) (fun _ => rfl) (fun p hp k hk => d82 s p k z3.1 P.tab (hpn p hp) (hnum k hk))
  simp only [Scope.z] at deq
  simp only [n0, n2, n1, nth_map n1, Ob.z, Scope.z, EV, Nat.reduceEqDiff, Nat.reduceBEq, Nat.reduceLT, Nat.reduceLeDiff, Nat.reduceAdd, Nat.reduceSub, reduceIte]
  refine callK_i deq ?_
  simp only [EV, Nat.reduceEqDiff, Nat.reduceBEq, Nat.reduceLT, Nat.reduceLeDiff, Nat.reduceAdd, Nat.reduceSub, reduceIte]
  simp only [hok, hps, Bool.true_and, EV, Nat.reduceEqDiff, Nat.reduceBEq, Nat.reduceLT, Nat.reduceLeDiff, Nat.reduceAdd, Nat.reduceSub, reduceIte, evRE, retVC, cellV', evR, nfz, nfzs, nfzss, List.contains_nil, List.contains_cons, Bool.or_false, or_true]
def m26 : MC :=
 (.seq (.reg [Xb 3 (.box 45 (.t 0)), Xb 6 (.asg .fb), Xb 7 (.asg .fb)]) (.seq (.seq (.reg [XL 11 5 3, Xb 12 (.call (.fn 83) false [.lend (.t 11)]), Xq 13 (.un .not (.t 12)), Xm 14 13, Xu 15 14 (.mov (.t 1)), Xu 16 14 (.fad 3 (.t 3)), Xu 17 14 (.load false 1 (.t 16)), Xu 18 14 (.len false (.t 17)), Xu 19 14 (.bin false .sub (.t 18) (.i 1)), XU 20 14 (.call (.fn 72) false [.lend (.t 15), .lend (.i
 0), .lend (.t 19)]), Xu 21 14 (.un .not (.t 20)), Xq 22 (.pick (.t 14) .tb (.t 21)), Xm 23 22, Xu 24 23 (.fad 3 (.t 3)), Xu 25 23 (.load false 1 (.t 24)), Xu 26 23 (.mov (.t 1)), Xu 27 23 (.iad 6 (.t 25) (.t 26)), Xu 28 23 (.fad 1 (.t 27)), Xu 29 23 (.load false 1 (.t 28)), Xu 30 23 (.bin false .neq (.t 29) (.i 4)), Xq 31 (.pick (.t 23) .tb (.t 30)), Xm 32 31, Xu 33 32 (.mov (.t 2)), Xu 34 32
 (.len false (.t 33)), Xu 35 32 (.bin false .gtr (.t 34) (.i 4)), Xq 36 (.pick (.t 32) .tb (.t 35)), Xm 37 36, Xu 38 37 (.mov (.t 2)), Xu 39 37 (.fad 2 (.t 3)), Xu 40 37 (.load false 1 (.t 39)), Xu 41 37 (.len false (.t 40)), Xu 42 37 (.bin false .sub (.t 41) (.i 1)), XU 43 37 (.call (.fn 84) false [.lend (.t 38), .lend (.i 0), .lend (.t 42)]), Xu 44 37 (.un .not (.t 43)), Xq 45 (.pick (.t 37) .tb
 (.t 44))]) (.cond (.t 45) (.seq (.reg [Xb 6 (.asg .fb), Xb 7 (.asg .fb)]) .ret) .skip)) (.seq (.reg [Xf 46 3 3, Xl 47 1 46, Xm 48 1, Xi 49 6 47 48, Xf 50 5 49, Xl 51 1 50, Xa 8 51]) (.seq (.seq (.reg [Xm 52 8, Xn 53 52, Xm 54 2, Xn 55 54, Xq 56 (.bin false .neq (.t 53) (.t 55))]) (.cond (.t 56) (.seq (.reg [Xb 6 (.asg .fb), Xb 7 (.asg .tb)]) .ret) .skip)) (.seq (.seq (.reg [Xm 57 8, Xn 58 57, Xq
 59 (.mov (.i 0))]) (.block 0 (.loop [2, 3, 8, 46, 47, 48, 49, 50, 51, 57, 58, 59] (.seq (.reg [Xq 60 (.bin false .lss (.t 59) (.t 58))]) (.seq (.cond (.t 60) .skip (.exit 0)) (.seq (.block 1 (.seq (.reg [Xm 61 59, Xi 62 3 57 59, XL 63 3 62, Xb 10 (.alloc 54 [.z, .b, .i]), Xa 9 61, Xz (.store 3 (.t 10) (.t 63))]) (.seq (.dreg [Xf 64 1 10, Xl 65 1 64, Xm 66 65, Xt 67 66 (.fad 2 (.t 10)), Xt 68 66
 (.load false 1 (.t 67)), Xt 69 66 (.mov (.t 2)), Xt 70 66 (.mov (.t 9)), Xt 71 66 (.iad 1 (.t 69) (.t 70)), Xt 72 66 (.load false 1 (.t 71)), Xt 73 66 (.bin false .neq (.t 68) (.t 72)), Xq 74 (.pick (.t 66) (.t 73) .fb), Xm 75 74, Xu 76 75 (.fad 1 (.t 10)), Xu 77 75 (.load false 1 (.t 76)), Xu 78 75 (.un .not (.t 77)), Xu 79 75 (.mov (.t 78)), Xt 80 79 (.fad 2 (.t 3)), Xt 81 79 (.load false 1 (.t
 80)), Xt 82 79 (.fad 2 (.t 10)), Xt 83 79 (.load false 1 (.t 82)), Xt 84 79 (.mov (.t 2)), Xt 85 79 (.mov (.t 9)), Xt 86 79 (.iad 1 (.t 84) (.t 85)), Xt 87 79 (.load false 1 (.t 86)), XT 88 79 (.call (.fn 73) false [.lend (.t 81), .lend (.t 83), .lend (.t 87)]), Xt 89 79 (.un .not (.t 88)), Xu 90 75 (.pick (.t 79) (.t 89) .fb), Xq 91 (.pick (.t 75) .tb (.t 90))]) (.cond (.t 91) (.seq (.reg [Xb 6
 (.asg .fb), Xb 7 (.asg .tb)]) .ret) .skip)))) (.reg [Xq 92 (.bin false .add (.t 59) (.i 1)), Xm 59 92]))))))) (.seq (.reg [Xb 6 (.asg .tb), Xb 7 (.asg .tb)]) .ret))))))
set_option maxHeartbeats 2000000 in
set_option maxRecDepth 100000 in
theorem d26 (s : Scope) (n : Int) (ks : List Int) (hs : s.sm) (hk : (ks.length : Int) ≤ 1048576) :
    Does Go.Proofs.Tryz.prog 26 [.agg s.z, .v (.int .i64 n), .fsl 1 (ks.map iv)] false (.tup [.v (.bool (mcOk s n ks && fitL s.types (psAt s n) ks)), .v (.bool (mcOk s n ks))]) [.dead, .dead, .dead] := by
  have hs' := hs
  unfold Scope.sm at hs'
  obtain ⟨z1, z2, z3, z4, z5⟩ := hs'
  have wl := w64 ((s.objects.length : Int) - 1) (by omega)
  have wt := w64 ((s.types.length : Int) - 1) (by omega)
  have dis := d83 s hs
  simp only [Scope.z] at dis
  refine does_intro (mc := m26) (N := 93) (rs := [6, 7]) (fx := []) 3 rfl (by decide +kernel) ?_
  simp only [m26, Scope.z, EV, Nat.reduceEqDiff, Nat.reduceBEq, Nat.reduceLT, Nat.reduceLeDiff, Nat.reduceAdd, Nat.reduceSub, reduceIte]
  refine callK_i dis ?_
  simp only [EV, Nat.reduceEqDiff, Nat.reduceBEq, Nat.reduceLT, Nat.reduceLeDiff, Nat.reduceAdd, Nat.reduceSub, reduceIte]
  rcases e1 : scOk s with _ | _
  · simp only [Bool.not_false, EV, Nat.reduceEqDiff, Nat.reduceBEq, Nat.reduceLT, Nat.reduceLeDiff, Nat.reduceAdd, Nat.reduceSub, reduceIte]
    simp only [mcOk, e1, Bool.false_and, EV, Nat.reduceEqDiff, Nat.reduceBEq, Nat.reduceLT, Nat.reduceLeDiff, Nat.reduceAdd, Nat.reduceSub, reduceIte, evRE, retVC, cellV', evR, nfz, nfzs, nfzss, List.contains_nil, List.contains_cons, Bool.or_false, or_true]
  simp only [Bool.not_true, wl, Scope.z, EV, Nat.reduceEqDiff, Nat.reduceBEq, Nat.reduceLT, Nat.reduceLeDiff, Nat.reduceAdd, Nat.reduceSub, reduceIte]
  refine callK_i (d72 n 0 ((s.objects.length : Int) - 1)) ?_
  simp only [EV, Nat.reduceEqDiff, Nat.reduceBEq, Nat.reduceLT, Nat.reduceLeDiff, Nat.reduceAdd, Nat.reduceSub, reduceIte]
  rcases e2 : (decide (0 ≤ n) && decide (n ≤ (s.objects.length : Int) - 1)) with _ | _
  · simp only [Bool.not_false, EV, Nat.reduceEqDiff, Nat.reduceBEq, Nat.reduceLT, Nat.reduceLeDiff, Nat.reduceAdd, Nat.reduceSub, reduceIte]
    simp only [mcOk, e2, Bool.false_and, Bool.and_false, EV, Nat.reduceEqDiff, Nat.reduceBEq, Nat.reduceLT, Nat.reduceLeDiff, Nat.reduceAdd, Nat.reduceSub, reduceIte, evRE, retVC, cellV', evR, nfz, nfzs, nfzss, List.contains_nil, List.contains_cons, Bool.or_false, or_true]
  have e2' := e2
  simp only [Bool.and_eq_true, decide_eq_true_eq] at e2'
  have n0 : 0 ≤ n := e2'.1
  have n1 : n.toNat < s.objects.length := by omega
  have n2 : n < (s.objects.length : Int) := by omega
  have hkd : kdAt s n = s.objects[n.toNat].kind := by simp [kdAt, n1]
  have hps : psAt s n = s.objects[n.toNat].params := by simp [psAt, n1]
  simp only [Bool.not_true, n0, n2, n1, nth_map n1, Ob.z, Scope.z, EV, Nat.reduceEqDiff, Nat.reduceBEq, Nat.reduceLT, Nat.reduceLeDiff, Nat.reduceAdd, Nat.reduceSub, reduceIte]
  have hne : (s.objects[n.toNat].kind != 4) = !(s.objects[n.toNat].kind == 4) := rfl
  rw [hne]
  rcases e3 : (s.objects[n.toNat].kind == 4) with _ | _
  · simp only [Bool.not_false, EV, Nat.reduceEqDiff, Nat.reduceBEq, Nat.reduceLT, Nat.reduceLeDiff, Nat.reduceAdd, Nat.reduceSub, reduceIte]
    simp only [mcOk, hkd, e3, Bool.false_and, Bool.and_false, EV, Nat.reduceEqDiff, Nat.reduceBEq, Nat.reduceLT, Nat.reduceLeDiff, Nat.reduceAdd, Nat.reduceSub, reduceIte, evRE, retVC, cellV', evR, nfz, nfzs, nfzss, List.contains_nil, List.contains_cons, Bool.or_false, or_true]
  simp only [Bool.not_true, EV, Nat.reduceEqDiff, Nat.reduceBEq, Nat.reduceLT, Nat.reduceLeDiff, Nat.reduceAdd, Nat.reduceSub, reduceIte]
  rcases e4 : decide (4 < (ks.length : Int)) with _ | _
  rotate_left
  · simp only [EV, Nat.reduceEqDiff, Nat.reduceBEq, Nat.reduceLT, Nat.reduceLeDiff, Nat.reduceAdd, Nat.reduceSub, reduceIte]
    simp only [mcOk, e4, Bool.not_true, Bool.false_and, Bool.and_false, EV, Nat.reduceEqDiff, Nat.reduceBEq, Nat.reduceLT, Nat.reduceLeDiff, Nat.reduceAdd, Nat.reduceSub, reduceIte, evRE, retVC, cellV', evR, nfz, nfzs, nfzss, List.contains_nil, List.contains_cons, Bool.or_false, or_true]
  simp only [wt, Scope.z, EV, Nat.reduceEqDiff, Nat.reduceBEq, Nat.reduceLT, Nat.reduceLeDiff, Nat.reduceAdd, Nat.reduceSub, reduceIte]
  have dal := d84 ks 0 ((s.types.length : Int) - 1) hk
  have eal : (ks.any fun k => !(decide (0 ≤ k) && decide (k ≤ (s.types.length : Int) - 1))) = (ks.any fun k => !isNum s.types k) := rfl
  rw [eal] at dal
  refine callK_i dal ?_
  simp only [EV, Nat.reduceEqDiff, Nat.reduceBEq, Nat.reduceLT, Nat.reduceLeDiff, Nat.reduceAdd, Nat.reduceSub, reduceIte]
  rcases e5 : (ks.any fun k => !isNum s.types k) with _ | _
  rotate_left
  · simp only [Bool.not_true, Bool.not_false, EV, Nat.reduceEqDiff, Nat.reduceBEq, Nat.reduceLT, Nat.reduceLeDiff, Nat.reduceAdd, Nat.reduceSub, reduceIte]
    simp only [mcOk, e5, Bool.not_true, Bool.and_false, Bool.false_and, EV, Nat.reduceEqDiff, Nat.reduceBEq, Nat.reduceLT, Nat.reduceLeDiff, Nat.reduceAdd, Nat.reduceSub, reduceIte, evRE, retVC, cellV', evR, nfz, nfzs, nfzss, List.contains_nil, List.contains_cons, Bool.or_false, or_true]
  have hok : mcOk s n ks = true := by simp only [mcOk, e1, e2, hkd, e3, e4, e5, Bool.not_false, Bool.and_self]
  have P := scOk_iff.1 e1
  have hnum : ∀ k ∈ ks, isNum s.types k = true := by
    intro k hk'
    rw [List.any_eq_false] at e5
    simpa using e5 k hk'
  have hob := P.obs n.toNat n1 n1
  simp only [obOk, Bool.and_eq_true] at hob
  have hpn := pars_num hob.2.1
  have hpl := (z4.2 _ (List.getElem_mem n1)).2.2.2.2.2.1
  rw [hok, hps]
  simp only [Bool.not_false, Bool.not_true, Scope.z, EV, Nat.reduceEqDiff, Nat.reduceBEq, Nat.reduceLT, Nat.reduceLeDiff, Nat.reduceAdd, Nat.reduceSub, reduceIte]
  simp only [n0, n2, n1, nth_map n1, Ob.z, Scope.z, EV, Nat.reduceEqDiff, Nat.reduceBEq, Nat.reduceLT, Nat.reduceLeDiff, Nat.reduceAdd, Nat.reduceSub, reduceIte]
  refine cK_cut (fun h => ?_) (fun h => ?_)
  · have h1 : ¬ s.objects[n.toNat].params.length = ks.length := by intro e; simp [e] at h
    simp only [EV, Nat.reduceEqDiff, Nat.reduceBEq, Nat.reduceLT, Nat.reduceLeDiff, Nat.reduceAdd, Nat.reduceSub, reduceIte]
    simp only [fitL_ne h1, Bool.true_and, EV, Nat.reduceEqDiff, Nat.reduceBEq, Nat.reduceLT, Nat.reduceLeDiff, Nat.reduceAdd, Nat.reduceSub, reduceIte, evRE, retVC, cellV', evR, nfz, nfzs, nfzss, List.contains_nil, List.contains_cons, Bool.or_false, or_true]
  have hlen : s.objects[n.toNat].params.length = ks.length := by
    have : ((s.objects[n.toNat].params.length : Int) = ks.length) := by simpa using h
    omega
  clear h
  simp only [Scope.z, EV, Nat.reduceEqDiff, Nat.reduceBEq, Nat.reduceLT, Nat.reduceLeDiff, Nat.reduceAdd, Nat.reduceSub, reduceIte]
  refine awp_loop (fun i : Nat => i ≤ s.objects[n.toNat].params.length ∧ fitTo s.types s.objects[n.toNat].params ks i) (fun i => stl [(2, .fsl 1 (ks.map iv)), (3, .box 45 s.z), (8, .fsl 3 (s.objects[n.toNat].params.map Par.z)), (46, .ref 3 [] 0 3), (47, .fsl 6 (s.objects.map Ob.z)), (48, .v (.int .i64 n)), (49, .fptr s.objects[n.toNat].z), (50, .fptr [.fsl 3 (s.objects[n.toNat].params.map Par.z)]), (51, .fsl 3 (s.objects[n.toNat].params.map Par.z)), (57, .fsl 3 (s.objects[n.toNat].params.map Par.z)), (58, .v (.int .i64 (s.objects[n.toNat].params.length : Int))), (59, .v (.int .i64 (i : Int)))]) (fun i => s.objects[n.toNat].params.length - i) 0 ⟨Nat.zero_le _, fun j hj _ h => absurd h (by omega)⟩ ?_ ?_
  · simp only [Ob.z, Scope.z, EV, Nat.reduceEqDiff, Nat.reduceBEq, Nat.reduceLT, Nat.reduceLeDiff, Nat.reduceAdd, Nat.reduceSub, reduceIte]
    rfl
  rintro i ⟨hi, hok'⟩
  rcases h : decide ((i : Int) < (s.objects[n.toNat].params.length : Int)) with _ | _
  rotate_left
  · have h1 : i < s.objects[n.toNat].params.length := by simpa using h
    have h2 : (i : Int) < (s.objects[n.toNat].params.length : Int) := by omega
    have g1 : i < ks.length := by omega
    have g2 : (i : Int) < (ks.length : Int) := by omega
    have hno : parFit s.types s.objects[n.toNat].params[i] ks[i] = false → fitL s.types s.objects[n.toNat].params ks = false := fitL_no h1 g1
    have hpt := hpn _ (List.getElem_mem h1)
    have hkt := hnum _ (List.getElem_mem g1)
    have hself := may_self hpt
    have hst : fitTo s.types s.objects[n.toNat].params ks i → parFit s.types s.objects[n.toNat].params[i] ks[i] = true → fitTo s.types s.objects[n.toNat].params ks (i + 1) := fitTo_succ h1 g1
    simp only [h, Ob.z, Scope.z, EV, Nat.reduceEqDiff, Nat.reduceBEq, Nat.reduceLT, Nat.reduceLeDiff, Nat.reduceAdd, Nat.reduceSub, reduceIte]
    generalize hpe : s.objects[n.toNat].params[i] = p at hno hpt hself hst
    simp only [ParE, nth_map h1, h2, nth_map g1, g1, g2, hpe, iv, Par.z, Scope.z, EV, Nat.reduceEqDiff, Nat.reduceBEq, Nat.reduceLT, Nat.reduceLeDiff, Nat.reduceAdd, Nat.reduceSub, reduceIte]
    rcases eb : p.byvar with _ | _
    · simp only [nth_map g1, g1, g2, iv, eb, Bool.not_false, Par.z, Scope.z, EV, Nat.reduceEqDiff, Nat.reduceBEq, Nat.reduceLT, Nat.reduceLeDiff, Nat.reduceAdd, Nat.reduceSub, reduceIte]
      refine callD_i (d73 s.types p.typ ks[i] z3.1 P.tab (isNum_in.1 hpt) (isNum_in.1 hkt)) rfl ?_
      simp only [EV, Nat.reduceEqDiff, Nat.reduceBEq, Nat.reduceLT, Nat.reduceLeDiff, Nat.reduceAdd, Nat.reduceSub, reduceIte]
      rcases e7 : mayL s.types p.typ ks[i] with _ | _
      · have e8 : (p.typ == ks[i]) = false := by
          by_cases h8 : p.typ = ks[i]
          · rw [← h8, hself] at e7; cases e7
          · simpa using h8
        have e9 : fitL s.types s.objects[n.toNat].params ks = false := hno (by simp only [parFit, eb, e7, e8, Bool.not_false, Bool.and_false, Bool.or_false])
        simp only [Bool.not_false, EV, Nat.reduceEqDiff, Nat.reduceBEq, Nat.reduceLT, Nat.reduceLeDiff, Nat.reduceAdd, Nat.reduceSub, reduceIte]
        simp only [e9, Bool.and_false, EV, Nat.reduceEqDiff, Nat.reduceBEq, Nat.reduceLT, Nat.reduceLeDiff, Nat.reduceAdd, Nat.reduceSub, reduceIte, evRE, retVC, cellV', evR, nfz, nfzs, nfzss, List.contains_nil, List.contains_cons, Bool.or_false, or_true]
      · simp only [Bool.not_true, Ob.z, Scope.z, EV, Nat.reduceEqDiff, Nat.reduceBEq, Nat.reduceLT, Nat.reduceLeDiff, Nat.reduceAdd, Nat.reduceSub, reduceIte]
        rw [w64 _ (by omega)]
        exact ⟨i + 1, ⟨h1, hst hok' (by simp only [parFit, eb, e7, Bool.not_false, Bool.and_self, Bool.or_true])⟩, by omega, rfl⟩
    · simp only [nth_map g1, g1, g2, iv, eb, Bool.not_true, Par.z, Scope.z, EV, Nat.reduceEqDiff, Nat.reduceBEq, Nat.reduceLT, Nat.reduceLeDiff, Nat.reduceAdd, Nat.reduceSub, reduceIte]
      have ebn : (p.typ != ks[i]) = !(p.typ == ks[i]) := rfl
      rw [ebn]
      rcases e7 : (p.typ == ks[i]) with _ | _
      · have e9 : fitL s.types s.objects[n.toNat].params ks = false := hno (by simp only [parFit, eb, e7, Bool.not_true, Bool.false_and, Bool.or_false])
        simp only [Bool.not_false, EV, Nat.reduceEqDiff, Nat.reduceBEq, Nat.reduceLT, Nat.reduceLeDiff, Nat.reduceAdd, Nat.reduceSub, reduceIte]
        simp only [e9, Bool.and_false, EV, Nat.reduceEqDiff, Nat.reduceBEq, Nat.reduceLT, Nat.reduceLeDiff, Nat.reduceAdd, Nat.reduceSub, reduceIte, evRE, retVC, cellV', evR, nfz, nfzs, nfzss, List.contains_nil, List.contains_cons, Bool.or_false, or_true]
      · simp only [Bool.not_true, eb, Par.z, Ob.z, Scope.z, EV, Nat.reduceEqDiff, Nat.reduceBEq, Nat.reduceLT, Nat.reduceLeDiff, Nat.reduceAdd, Nat.reduceSub, reduceIte]
        rw [w64 _ (by omega)]
        exact ⟨i + 1, ⟨h1, hst hok' (by simp only [parFit, e7, Bool.true_or])⟩, by omega, rfl⟩
  have h1 : i = s.objects[n.toNat].params.length := by have : ¬ (i : Int) < s.objects[n.toNat].params.length := by simpa using h
                                                       omega
  subst h1
  simp only [h, EV, Nat.reduceEqDiff, Nat.reduceBEq, Nat.reduceLT, Nat.reduceLeDiff, Nat.reduceAdd, Nat.reduceSub, reduceIte]
  simp only [fitL_yes hlen hok', Bool.true_and, EV, Nat.reduceEqDiff, Nat.reduceBEq, Nat.reduceLT, Nat.reduceLeDiff, Nat.reduceAdd, Nat.reduceSub, reduceIte, evRE, retVC, cellV', evR, nfz, nfzs, nfzss, List.contains_nil, List.contains_cons, Bool.or_false, or_true]
def m6 : MC :=
 (.seq (.reg [Xb 3 (.box 59 (.t 0)), Xb 6 (.asg .fb)]) (.keep [1, 2, 3] (.seq (.seq (.reg [Xm 14 2, Xn 15 14, Xq 16 (.bin false .gtr (.t 15) (.i 1048576))]) (.keep [1, 2, 3, 16] (.cond (.t 16) (.seq (.reg [Xb 6 (.asg .tb)]) .ret) .skip))) (.keep [1, 2, 3] (.seq (.reg [Xb 7 (.asg (.i 1048576))]) (.keep [1, 2, 3, 7] (.seq (.reg [XL 17 5 3, Xm 18 7, Xb 19 (.call (.fn 27) false [.lend (.t 17), .lend
 (.t 18)]), Xa 7 19]) (.keep [1, 2, 3, 7] (.seq (.seq (.reg [Xm 20 7, Xq 21 (.bin false .lss (.t 20) (.i 0))]) (.keep [1, 2, 3, 21] (.cond (.t 21) (.seq (.reg [Xb 6 (.asg .tb)]) .ret) .skip))) (.keep [1, 2, 3] (.seq (.reg [XL 23 5 3, Xb 24 (.call (.fn 28) false [.lend (.t 23)]), Xm 25 1, Xm 26 2, Xb 27 (.call (.fn 29) false [.lend (.t 26)]), Xb 28 (.call (.fn 26) false [.lend (.t 24), .lend (.t
 25), .lend (.t 27)]), Xm 22 28, Xq 29 (.ext 22 0), Xq 30 (.ext 22 1), Xa 8 29, Xa 9 30]) (.keep [1, 2, 3, 8, 9] (.seq (.reg [XL 31 5 3, Xb 32 (.call (.fn 28) false [.lend (.t 31)]), Xb 10 (.alloc 45 [.z, .s 9 1, .s 40 6, .s 52 6, .s 155 2]), Xz (.store 5 (.t 10) (.t 32))]) (.keep [1, 2, 3, 8, 9, 10] (.seq (.reg [Xm 33 2, Xb 34 (.call (.fn 29) false [.lend (.t 33)]), Xa 11 34]) (.keep [1, 2, 3, 8,
 9, 10, 11, 34] (.seq (.reg [XL 36 5 10, Xm 37 1, Xm 38 11, Xb 39 (.call (.fn 25) false [.lend (.t 36), .lend (.t 37), .lend (.t 38)]), Xm 35 39, Xq 40 (.ext 35 0), Xq 41 (.ext 35 1), Xa 12 40, Xa 13 41]) (.keep [2, 3, 8, 9, 10, 11, 12, 13, 34] (.seq (.seq (.reg [Xm 42 12, Xm 43 8, Xq 44 (.bin true .neq (.t 42) (.t 43)), Xm 45 44, Xu 46 45 (.mov (.t 13)), Xu 47 45 (.mov (.t 9)), Xu 48 45 (.bin true
 .neq (.t 46) (.t 47)), Xq 49 (.pick (.t 45) .tb (.t 48))]) (.keep [2, 3, 10, 11, 34, 49] (.cond (.t 49) (.seq (.reg [Xb 6 (.asg .fb)]) .ret) .skip))) (.keep [2, 3, 10, 11, 34] (.seq (.seq (.mixt [] [2, 3, 10, 11, 34, 54] [] [] [] [] (.alt (.step 0 (XL 50 5 10) (.step 1 (XL 51 5 3) (.step 2 (Xb 52 (.call (.fn 28) false [.lend (.t 51)])) (.step 3 (Xb 53 (.call (.fn 30) false [.lend (.t 50), .lend
 (.t 52)])) (.step 4 (Xq 54 (.un .not (.t 53))) .nil))))) (.step 1 (XL 51 5 3) (.alt (.step 0 (XL 50 5 10) (.step 2 (Xb 52 (.call (.fn 28) false [.lend (.t 51)])) (.step 3 (Xb 53 (.call (.fn 30) false [.lend (.t 50), .lend (.t 52)])) (.step 4 (Xq 54 (.un .not (.t 53))) .nil)))) (.step 2 (Xb 52 (.call (.fn 28) false [.lend (.t 51)])) (.step 0 (XL 50 5 10) (.step 3 (Xb 53 (.call (.fn 30) false [.lend
 (.t 50), .lend (.t 52)])) (.step 4 (Xq 54 (.un .not (.t 53))) .nil)))))))) (.keep [2, 11, 34, 54] (.cond (.t 54) (.seq (.reg [Xb 6 (.asg .fb)]) .ret) .skip))) (.keep [2, 11, 34] (.seq (.seq (.reg [Xm 55 11, Xm 56 2, Xb 57 (.call (.fn 29) false [.lend (.t 56)]), Xb 58 (.call (.fn 31) false [.lend (.t 55), .lend (.t 57)]), Xq 59 (.un .not (.t 58))]) (.keep [59] (.cond (.t 59) (.seq (.reg [Xb 6 (.asg
 .fb)]) .ret) .skip))) (.keep [] (.seq (.reg [Xb 6 (.asg .tb)]) .ret)))))))))))))))))))))))))
set_option maxHeartbeats 1000000 in
set_option maxRecDepth 100000 in
theorem d6 (a : Scope) (n : Int) (ks : List Int) (hoa : a.ok) (hk0 : (ks.length : Int) ≤ 9223372036854775807) :
    Does Go.Proofs.Tryz.prog 6 [.agg a.z, .v (.int .i64 n), .fsl 1 (ks.map iv)] false (.v (.bool true)) [.dead, .dead, .dead] := by
  have dsz := d27 a 1048576 (by omega) (by omega) hoa
  simp only [Scope.z] at dsz
  have bs : ∀ b : Bool, (b != b) = false := fun b => by cases b <;> rfl
  refine does_intro (mc := m6) (N := 60) (rs := [6]) (fx := []) 3 rfl (by decide +kernel) ?_
  simp only [m6, Scope.z, EV, Nat.reduceEqDiff, Nat.reduceBEq, Nat.reduceLT, Nat.reduceLeDiff, Nat.reduceAdd, Nat.reduceSub, reduceIte]
  refine cK_cut (fun h => ?_) (fun h => ?_)
  · simp only [EV, Nat.reduceEqDiff, Nat.reduceBEq, Nat.reduceLT, Nat.reduceLeDiff, Nat.reduceAdd, Nat.reduceSub, reduceIte]
    simp only [EV, Nat.reduceEqDiff, Nat.reduceBEq, Nat.reduceLT, Nat.reduceLeDiff, Nat.reduceAdd, Nat.reduceSub, reduceIte, evRE, retVC, cellV', evR, nfz, nfzs, nfzss, List.contains_nil, List.contains_cons, Bool.or_false, or_true]
  have hk : (ks.length : Int) ≤ 1048576 := by have : ¬ 1048576 < (ks.length : Int) := by simpa using h
                                              omega
  clear h
  simp only [Scope.z, EV, Nat.reduceEqDiff, Nat.reduceBEq, Nat.reduceLT, Nat.reduceLeDiff, Nat.reduceAdd, Nat.reduceSub, reduceIte]
  refine callK_i dsz ?_
  simp only [EV, Nat.reduceEqDiff, Nat.reduceBEq, Nat.reduceLT, Nat.reduceLeDiff, Nat.reduceAdd, Nat.reduceSub, reduceIte]
  refine cK_cut (fun h => ?_) (fun h => ?_)
  · simp only [EV, Nat.reduceEqDiff, Nat.reduceBEq, Nat.reduceLT, Nat.reduceLeDiff, Nat.reduceAdd, Nat.reduceSub, reduceIte]
    simp only [EV, Nat.reduceEqDiff, Nat.reduceBEq, Nat.reduceLT, Nat.reduceLeDiff, Nat.reduceAdd, Nat.reduceSub, reduceIte, evRE, retVC, cellV', evR, nfz, nfzs, nfzss, List.contains_nil, List.contains_cons, Bool.or_false, or_true]
  have h0 : 0 ≤ szScope a 1048576 := by simpa using h
  have h1 := szScope_tot a _ h0
  have hx : a.sm := a.sm_of (by omega)
  clear h dsz
  have dto := d28 a hx
  have dsp := d26 a n ks hx hk
  have dim := d25 a n ks hx hk
  have deq := d30 a hx
  generalize (mcOk a n ks && fitL a.types (psAt a n) ks) = R1 at dsp dim
  generalize mcOk a n ks = R2 at dsp dim
  simp only [Scope.z, Scope.o] at dto dsp dim deq
  simp only [Scope.z, EV, Nat.reduceEqDiff, Nat.reduceBEq, Nat.reduceLT, Nat.reduceLeDiff, Nat.reduceAdd, Nat.reduceSub, reduceIte]
  refine callK_i dto ?_
  simp only [Str.frz, Ty.frz, Ob.frz, Us.frz, iv_frz, bs, pbeq, Scope.z, Scope.o, EV, Nat.reduceEqDiff, Nat.reduceBEq, Nat.reduceLT, Nat.reduceLeDiff, Nat.reduceAdd, Nat.reduceSub, reduceIte]
  refine callK_i (d29 ks hk) ?_
  simp only [Str.frz, Ty.frz, Ob.frz, Us.frz, iv_frz, bs, pbeq, Scope.z, Scope.o, EV, Nat.reduceEqDiff, Nat.reduceBEq, Nat.reduceLT, Nat.reduceLeDiff, Nat.reduceAdd, Nat.reduceSub, reduceIte]
  refine callK_i dsp ?_
  simp only [Str.frz, Ty.frz, Ob.frz, Us.frz, iv_frz, bs, pbeq, Scope.z, Scope.o, EV, Nat.reduceEqDiff, Nat.reduceBEq, Nat.reduceLT, Nat.reduceLeDiff, Nat.reduceAdd, Nat.reduceSub, reduceIte]
  refine callK_i dto ?_
  simp only [Str.frz, Ty.frz, Ob.frz, Us.frz, iv_frz, bs, pbeq, Scope.z, Scope.o, EV, Nat.reduceEqDiff, Nat.reduceBEq, Nat.reduceLT, Nat.reduceLeDiff, Nat.reduceAdd, Nat.reduceSub, reduceIte]
  refine callK_i (d29 ks hk) ?_
  simp only [Str.frz, Ty.frz, Ob.frz, Us.frz, iv_frz, bs, pbeq, Scope.z, Scope.o, EV, Nat.reduceEqDiff, Nat.reduceBEq, Nat.reduceLT, Nat.reduceLeDiff, Nat.reduceAdd, Nat.reduceSub, reduceIte]
  refine callK_i dim ?_
  simp only [Str.frz, Ty.frz, Ob.frz, Us.frz, iv_frz, bs, pbeq, Scope.z, Scope.o, EV, Nat.reduceEqDiff, Nat.reduceBEq, Nat.reduceLT, Nat.reduceLeDiff, Nat.reduceAdd, Nat.reduceSub, reduceIte]
  refine ⟨?_, ?_, ?_⟩
  all_goals
    refine callK_i dto ?_
    simp only [Str.frz, Ty.frz, Ob.frz, Us.frz, iv_frz, bs, pbeq, Scope.z, Scope.o, EV, Nat.reduceEqDiff, Nat.reduceBEq, Nat.reduceLT, Nat.reduceLeDiff, Nat.reduceAdd, Nat.reduceSub, reduceIte]
    refine callK_i deq ?_
    simp only [Str.frz, Ty.frz, Ob.frz, Us.frz, iv_frz, bs, pbeq, Scope.z, Scope.o, EV, Nat.reduceEqDiff, Nat.reduceBEq, Nat.reduceLT, Nat.reduceLeDiff, Nat.reduceAdd, Nat.reduceSub, reduceIte]
    refine callK_i (d29 ks hk) ?_
    simp only [Str.frz, Ty.frz, Ob.frz, Us.frz, iv_frz, bs, pbeq, Scope.z, Scope.o, EV, Nat.reduceEqDiff, Nat.reduceBEq, Nat.reduceLT, Nat.reduceLeDiff, Nat.reduceAdd, Nat.reduceSub, reduceIte]
    refine callK_i (d31 ks hk) ?_
    simp only [Str.frz, Ty.frz, Ob.frz, Us.frz, iv_frz, bs, pbeq, Scope.z, Scope.o, EV, Nat.reduceEqDiff, Nat.reduceBEq, Nat.reduceLT, Nat.reduceLeDiff, Nat.reduceAdd, Nat.reduceSub, reduceIte]
    simp only [EV, Nat.reduceEqDiff, Nat.reduceBEq, Nat.reduceLT, Nat.reduceLeDiff, Nat.reduceAdd, Nat.reduceSub, reduceIte, evRE, retVC, cellV', evR, nfz, nfzs, nfzss, List.contains_nil, List.contains_cons, Bool.or_false, or_true]
end Go.AM
namespace Go.AM
set_option linter.unusedVariables false
set_option linter.unusedSimpArgs false
def fdsAt (l : List Ty) (n : Int) : List Fd := match l[n.toNat]? with
  | some t => t.fields
  | none => []
theorem fdsAt_len {l : List Ty} (ht : tysOk l = true) (n : Int) : (fdsAt l n).length ≤ 6 := by
  unfold fdsAt
  split
  · rename_i t h
    obtain ⟨hn, rfl⟩ := List.getElem?_eq_some_iff.1 h
    exact (tysOk_good ht hn).few
  · simp
end Go.AM
namespace Go.Proofs.Backw
open Go Go.RowKit Go.Shelf Go.Proofs
attribute [local go_sem] Oper.semAt_some
set_option linter.unusedVariables false
set_option linter.unusedSimpArgs false
def upto {α : Type} (f : Nat → α) (k : Nat) : List α := (List.range k).map f
theorem upto_succ {α : Type} (f : Nat → α) (k : Nat) : upto f (k + 1) = upto f k ++ [f k] := by simp [upto, List.range_succ]
theorem upto_length {α : Type} (f : Nat → α) (k : Nat) : (upto f k).length = k := by simp [upto]
def Rd (Bs b off len cap : Nat) (zs : List Int) (W : World) : Prop := W.cell? ⟨Bs, 0, none⟩ = some (.slice (some ⟨b, off, none⟩) len cap) ∧ ∀ j, j < len → W.cell? ⟨b, off + j, none⟩ = some (.int .i64 (zs[j]?.getD 0))
set_option maxRecDepth 100000 in
set_option maxHeartbeats 2000000 in
theorem back1_in (F : Fence) (n : Nat) (h7 : F.fn 200) (hro : F.round = none) (hn : 1 ≤ n) (l Bs b off len cap : Nat) (zs : List Int) {α : Type} (encs : α → Array Value) (f : Nat → α)
    (hf : ∀ k j, j + k + 1 = len → encs (f k) = #[.int .i64 (j : Int), .int .i64 (zs[j]?.getD 0)]) (hreach : len * 8 ≤ 140737488351232) (J Jx : List α → World → Prop)
    (hY : ∀ pre x W, J pre W → pre.length < len → YieldAt F (n - 1) Tryz.prog l (encs x) W fun e W' =>
      (e = .returned (.bool true) ∧ J (pre ++ [x]) W' ∧ (Rd Bs b off len cap zs W → Rd Bs b off len cap zs W')) ∨ (e = .returned (.bool false) ∧ Jx (pre ++ [x]) W'))
    (W : World) (hR : Rd Bs b off len cap zs W) (h0 : J [] W) :
    CallsIn F n Tryz.prog 200 #[.func (.yield l) #[] #[], .pointer (some ⟨Bs, 0, none⟩)] W fun e W' => (∃ v, e = .returned v) ∧
      ((∃ ys, ys = upto f len ∧ J ys W') ∨ (∃ pre, (∃ k, k ≤ len ∧ pre = upto f k) ∧ Jx pre W')) := by
  refine callsIn_of_wp Tryz.func200 rfl h7 ?_ hro
  simp only [Tryz.ntmps200, List.size_toArray, List.length_cons, List.length_nil, Nat.reduceAdd, Nat.reduceSub, Array.replicate_succ, Array.replicate_zero, List.push_toArray, List.append_toArray, List.nil_append, List.cons_append]
  have hBs := hR.1
  gi_wp2
  gi_loopw [3] (fun i wr => ∃ k : Nat, k ≤ len ∧ i = .int .i64 ((len : Int) - 1 - (k : Int)) ∧ J (upto f k) wr ∧ Rd Bs b off len cap zs wr)
    (fun i _ => (intOf i + 1).toNat)
  case atStart => exact ⟨0, Nat.zero_le _, by simp, h0, hR⟩
  case round =>
    obtain ⟨k, hk, rfl, hJs, hR1, hR2⟩ := hrel
    by_cases hlt : k < len
    · obtain ⟨j, hj⟩ : ∃ j, j + k + 1 = len := ⟨len - k - 1, by omega⟩
      have hcx := hR2 j (by omega)
      obtain ⟨fn, tmps, assign, body, hy, hRR⟩ := hY _ (f k) wr hJs (by rw [upto_length]; exact hlt)
      rw [hf k j hj] at hy
      have hi : (len : Int) - 1 - (k : Int) = (j : Int) := by omega
      rw [hi]
      have hjl : j < len := by omega
      gi_wp2
      refine hRR.mono ?_
      rintro e W3 (⟨rfl, hJ3, hk3⟩ | ⟨rfl, hJx3⟩)
      · gi_wp2
        go_roundw
        case rel => exact ⟨k + 1, by omega, by simp; omega, by rw [upto_succ]; exact hJ3, hk3 ⟨hR1, hR2⟩⟩
        case measure => simp [intOf]
      · gi_wp2
        refine bodyPost_ret (results_none rfl _ _ _) rfl ?_
        exact ⟨⟨_, rfl⟩, .inr ⟨_, ⟨k + 1, by omega, (upto_succ _ _).symm⟩, hJx3⟩⟩
    · obtain rfl : k = len := by omega
      have hi : (k : Int) - 1 - (k : Int) = -1 := by omega
      rw [hi]
      gi_wp2
      go_end0
      exact ⟨⟨_, rfl⟩, .inl ⟨_, rfl, hJs⟩⟩
set_option maxHeartbeats 1000000 in
theorem back_in (F : Fence) (n : Nat) (h5 : F.fn 132) (hro : F.round = none) (a : Option Addr) (len cap : Nat) (w : World) :
    CallsIn F n Tryz.prog 132 #[.slice a len cap] w fun e w' => e = .returned (.func (.func 200) #[] #[.pointer (some ⟨w.heap.size, 0, none⟩)]) ∧ w' = w.alloc (.cells #[.slice a len cap] 46) := by
  refine callsIn_of_wp Tryz.func132 rfl h5 ?_ hro
  simp only [Tryz.ntmps132, List.size_toArray, List.length_cons, List.length_nil, Nat.reduceAdd, Nat.reduceSub, Array.replicate_succ, Array.replicate_zero, List.push_toArray, List.append_toArray, List.nil_append, List.cons_append]
  gi_wp2
  go_ret
  exact ⟨rfl, rfl⟩
theorem back_stops (F : Fence) (n : Nat) (h7 : F.fn 200) (hro : F.round = none) (hn : 1 ≤ n) (Bs b off len cap : Nat) (zs : List Int) {α : Type} (encs : α → Array Value) (f : Nat → α)
    (hf : ∀ k j, j + k + 1 = len → encs (f k) = #[.int .i64 (j : Int), .int .i64 (zs[j]?.getD 0)]) (hreach : len * 8 ≤ 140737488351232) (w : World) (hBs : Bs < w.heap.size) (hb : b < w.heap.size) (hR : Rd Bs b off len cap zs w) :
    SeqStopsK F n Tryz.prog 200 #[.pointer (some ⟨Bs, 0, none⟩)] encs (fun A B => Rd Bs b off len cap zs A → Rd Bs b off len cap zs B) (fun ys => ys = upto f len) (fun _ => True) len w := fun l J Jx W hW _ _ hY h0 => by
  have hR' : Rd Bs b off len cap zs W := ⟨(hW.cell (p := ⟨Bs, 0, none⟩) hBs).trans hR.1, fun j hj => (hW.cell (p := ⟨b, off + j, none⟩) hb).trans (hR.2 j hj)⟩
  refine (back1_in F n h7 hro hn l Bs b off len cap zs encs f hf hreach J Jx hY W hR' h0).mono ?_
  rintro e W' ⟨he, ⟨ys, rfl, hj⟩ | ⟨pre, _, hj⟩⟩
  · exact ⟨he, .inl ⟨_, rfl, hj⟩⟩
  · exact ⟨he, .inr ⟨_, trivial, hj⟩⟩
end Go.Proofs.Backw
namespace Go.Proofs.AllF
open Go Go.AM Go.RowKit Go.Shelf Go.Proofs Go.Proofs.Backw
attribute [local go_sem] Oper.semAt_some
set_option linter.unusedVariables false
set_option linter.unusedSimpArgs false
theorem rows_iv {w : World} {Fz : Nat → Prop} : ∀ {zs : List Int} {xs : List Value} {o : List Nat}, RepRows w Fz 1 (zs.map iv) xs o → xs = zs.map (fun k => Value.int .i64 k) ∧ o = []
  | [], xs, o, h => by simpa [RepRows] using h
  | z :: zs, xs, o, h => by
    simp only [List.map_cons, RepRows] at h
    obtain ⟨x1, x2, o1, o2, rfl, rfl, _, hr, hrs⟩ := h
    obtain ⟨rfl, rfl⟩ := rows_iv hrs
    simp only [iv, RepRow, RepC] at hr
    obtain ⟨x, xs', o3, o4, rfl, rfl, ⟨rfl, _, rfl⟩, rfl, rfl⟩ := hr
    exact ⟨rfl, rfl⟩
theorem keepW {w w' : World} {Fz : Nat → Prop} {av : AV} {x : Value} (hlt : ∀ b, Fz b → b < w.heap.size) (hE : Ext w w' []) (h : RepC w Fz av x []) : RepC w' Fz av x [] :=
  h.keep _ _ _ ⟨fun b hb => ⟨hb, hE.blk b (hlt b hb) (by simp)⟩, fun b hb => by simp at hb⟩
def InT (l : List Ty) : Type := { x : Int × Int // 0 ≤ x.2 ∧ x.2.toNat < l.length }
def flds (l : List Ty) (pre : List (InT l)) : List Go.AM.Fd := pre.flatMap fun x => fdsAt l x.1.2
theorem flds_snoc (l : List Ty) (pre : List (InT l)) (x : InT l) : flds l (pre ++ [x]) = flds l pre ++ fdsAt l x.1.2 := by simp [flds]
theorem flds_len {l : List Ty} (ht : tysOk l = true) : ∀ pre : List (InT l), (flds l pre).length ≤ 6 * pre.length
  | [] => by simp [flds]
  | x :: pre => by
    have h1 := flds_len ht pre
    have h2 := fdsAt_len ht x.1.2
    simp only [flds, List.flatMap_cons, List.length_append, List.length_cons] at h1 ⊢
    omega
theorem rows_fd {w : World} {Fz : Nat → Prop} : ∀ {fs : List Go.AM.Fd} {xs : List Value} {o : List Nat}, RepRows w Fz 3 (fs.map Go.AM.Fd.o) xs o → o = []
  | [], xs, o, h => by simp only [List.map_nil, RepRows] at h; exact h.2
  | f :: fs, xs, o, h => by
    simp only [List.map_cons, RepRows] at h
    obtain ⟨x1, x2, o1, o2, rfl, rfl, _, hr, hrs⟩ := h
    rw [rows_fd hrs, List.append_nil]
    simp only [Go.AM.Fd.o, RepRow, RepC] at hr
    obtain ⟨_, _, _, _, rfl, rfl, ⟨_, _, rfl⟩, _, _, _, _, rfl, rfl, ⟨_, _, rfl⟩, _, _, _, _, rfl, rfl, ⟨_, _, rfl⟩, _, rfl⟩ := hr
    rfl
theorem own_cells {w : World} {Fz : Nat → Prop} {fs : List Go.AM.Fd} {x : Value} {o : List Nat} (h : RepC w Fz (.box 38 [.usl 97 3 (fs.map Go.AM.Fd.o)]) x o) : ∀ b ∈ o, ∃ cur e p, w.heap[b]? = some (.cells cur e p) := by
  simp only [RepC, RepRow] at h
  obtain ⟨g, xs, o', rfl, rfl, hg, y, ys, o1, o2, rfl, rfl, hu, rfl, rfl⟩ := h
  intro b hb
  rcases List.mem_cons.1 hb with rfl | hb
  · exact ⟨_, _, _, hg⟩
  · simp only [List.append_nil] at hb
    rcases hu with ⟨_, _, rfl⟩ | ⟨g2, h2, c, cur, vs, o3, _, rfl, hg2, _, _, hr, _⟩
    · simp at hb
    · rw [rows_fd hr] at hb
      simp only [List.mem_singleton] at hb
      subst hb
      exact ⟨_, _, _, hg2⟩
def noF : Nat → Prop := fun _ => False
def LI (B : Nat) (w6 : World) (l : List Ty) (pre : List (InT l)) (W : World) : Prop := ∃ o5, RepC W noF (.box 38 [.usl 97 3 ((flds l pre).map Go.AM.Fd.o)]) (.pointer (some ⟨B + 1 + 1, 0, none⟩)) o5 ∧ o5.Nodup ∧
  (∀ b ∈ o5, (b = B + 1 + 1 ∨ b = B + 1 ∨ w6.heap.size ≤ b) ∧ b < W.heap.size) ∧ Ext w6 W [B + 1 + 1, B + 1]
theorem LI_own (B : Nat) (w6 : World) (l : List Ty) : OwnFrom w6.heap.size (LI B w6 l) := by
  rintro s W W' row ⟨o5, h1, h2, h3, h4⟩ hg hr
  have hsame : ∀ b, b < W.heap.size → (∀ r, row = some r → b ≠ r) → W'.heap[b]? = W.heap[b]? := fun b hb hn => hg.block b hb (by intro e; exact hn b e.symm rfl)
  refine ⟨o5, h1.keep _ _ _ ⟨fun b hb => hb.elim, fun b hb => hsame b (h3 b hb).2 ?_⟩, h2, fun b hb => ⟨(h3 b hb).1, Nat.lt_of_lt_of_le (h3 b hb).2 hg.size⟩, ⟨hg.os.trans h4.os, hg.tape.trans h4.tape, hg.output.trans h4.output, Nat.le_trans h4.size hg.size, fun b hb hn => (hsame b (Nat.lt_of_lt_of_le hb h4.size) ?_).trans (h4.blk b hb hn)⟩⟩
  · rintro r e rfl
    obtain ⟨_, o, ho, hc⟩ := hr b e
    obtain ⟨cur, e', p, hcur⟩ := own_cells h1 b hb
    rw [hcur] at ho
    cases ho
    simp [Obj.isCells] at hc
  · rintro r e rfl
    have := (hr b e).1
    omega
theorem Rd_of {Bs b off len cap : Nat} {zs : List Int} {W W' : World} (h1 : W'.heap[Bs]? = W.heap[Bs]?) (h2 : W'.heap[b]? = W.heap[b]?) (h : Rd Bs b off len cap zs W) : Rd Bs b off len cap zs W' := by
  refine ⟨?_, fun j hj => ?_⟩
  · rw [World.cell?_of_block (w := W) h1]; exact h.1
  · rw [World.cell?_of_block (w := W) h2]; exact h.2 j hj
def bCtx (W : World) (F0 : Nat → Prop) (o5 : List Nat) (v5 : Value) : Ctx := { w0 := W, Fz := F0, own0 := o5, fx := fun e => if e = 5 then some v5 else none }
def bSt (l : List Ty) (fs : List Go.AM.Fd) (k : Int) : St := stl [(2, .fptr [.fsl 6 (l.map Ty.z)]), (5, .box 38 [.usl 97 3 (fs.map Go.AM.Fd.o)]), (7, .v (.int .i64 k))]
theorem bSim' {l : List Ty} {fs : List Go.AM.Fd} {k : Int} {W : World} {F0 : Nat → Prop} {o5 : List Nat} {a : Act} (hd : a.defers = []) (hn : a.tmps.size = 23) (h2 : RepC W F0 (.fptr [.fsl 6 (l.map Ty.z)]) (tmOf a 2) []) (h5 : RepC W noF (.box 38 [.usl 97 3 (fs.map Go.AM.Fd.o)]) (tmOf a 5) o5)
    (h7 : tmOf a 7 = .int .i64 k) (hnd : o5.Nodup) (hlt : ∀ b ∈ o5, b < W.heap.size ∧ ¬ F0 b) (hF : ∀ b, F0 b → b < W.heap.size) : Sim (bCtx W F0 o5 (tmOf a 5)) 23 (bSt l fs k) a W := by
  refine ⟨hd, ⟨hn, fun k v h => ?_⟩, fun k => if k = 5 then o5 else [], Ext.refl _ _, fun k' => ?_, fun k => ?_, fun j k hjk b hb => ?_, by simp, by simp, ?_⟩
  · simp only [bCtx] at h
    split at h
    · rename_i e; subst e; exact Option.some.inj h
    · cases h
  · have hfz : ∀ b, F0 b → frz (bCtx W F0 o5 (tmOf a 5)) W (owned (fun k => if k = 5 then o5 else []) []) b := by
      intro b hb
      refine ⟨hF b hb, .inr (.inl hb), ?_⟩
      rintro (⟨k, hk⟩ | hk)
      · simp only at hk
        split at hk
        · exact (hlt b hk).2 hb
        · simp at hk
      · simp at hk
    by_cases e2 : k' = 2
    · subst e2
      exact (h2.keep (w' := W) (Fz' := frz (bCtx W F0 o5 (tmOf a 5)) W (owned (fun k => if k = 5 then o5 else []) [])) _ _ _ ⟨fun b hb => ⟨hfz b hb, rfl⟩, fun _ _ => rfl⟩).toV
    by_cases e5 : k' = 5
    · subst e5
      exact (h5.keep (w' := W) (Fz' := frz (bCtx W F0 o5 (tmOf a 5)) W (owned (fun k => if k = 5 then o5 else []) [])) _ _ _ ⟨fun b hb => hb.elim, fun _ _ => rfl⟩).toV
    by_cases e7 : k' = 7
    · subst e7
      rw [h7]
      simp [bSt, stl, RepV, RepC, Value.oneCell']
    · simp [bSt, stl, e2, e5, e7, RepV]
  · by_cases e : k = 5
    · simp [e, hnd]
    · simp [e]
  · by_cases e : j = 5
    · have hk : k ≠ 5 := fun h => hjk (e.trans h.symm)
      simp [hk]
    · simp [e] at hb
  · rintro b (⟨k, hk⟩ | hk)
    · simp only at hk
      split at hk
      · exact ⟨.inl hk, (hlt b hk).1⟩
      · simp at hk
    · simp at hk
theorem bSim {l : List Ty} {fs : List Go.AM.Fd} {k : Int} {W : World} {F0 : Nat → Prop} {o5 : List Nat} {a : Act} {v2 v5 : Value} (hd : a.defers = []) (hn : a.tmps.size = 23) (e2 : tmOf a 2 = v2) (e5 : tmOf a 5 = v5) (h7 : tmOf a 7 = .int .i64 k) (h2 : RepC W F0 (.fptr [.fsl 6 (l.map Ty.z)]) v2 []) (h5 : RepC W noF (.box 38 [.usl 97 3 (fs.map Go.AM.Fd.o)]) v5 o5)
    (hnd : o5.Nodup) (hlt : ∀ b ∈ o5, b < W.heap.size ∧ ¬ F0 b) (hF : ∀ b, F0 b → b < W.heap.size) : Sim (bCtx W F0 o5 v5) 23 (bSt l fs k) a W := by
  subst e2 e5
  exact bSim' hd hn h2 h5 h7 hnd hlt hF
end Go.Proofs.AllF
namespace Go.AM
set_option linter.unusedVariables false
set_option linter.unusedSimpArgs false
def m13 : MC :=
 (.seq (.reg [Xb 4 (.asg .fb)]) (.seq (.reg [Xm 5 0, Xn 6 5, Xq 7 (.bin false .gtr (.t 6) (.i 1048576)), Xm 8 7, Xu 9 8 (.mov (.t 1)), Xu 10 8 (.len false (.t 9)), Xu 11 8 (.mov (.t 0)), Xu 12 8 (.len false (.t 11)), Xu 13 8 (.bin false .sub (.i 1048576) (.t 12)), Xu 14 8 (.bin false .gtr (.t 10) (.t 13)), Xq 15 (.pick (.t 8) .tb (.t 14)), Xa 4 15]) .ret))
theorem d13 (a b : List Int) (ha : (a.length : Int) ≤ 9223372036854775807) (hb : (b.length : Int) ≤ 9223372036854775807) : Does Go.Proofs.Tryz.prog 13 [.fsl 1 (a.map bv), .fsl 1 (b.map bv)] false (.v (.bool (decide (1048576 < (a.length : Int)) || decide (1048576 - (a.length : Int) < (b.length : Int))))) [.dead, .dead] := by
  refine does_intro (mc := m13) (N := 16) (rs := [4]) (fx := []) 2 rfl (by decide +kernel) ?_
  simp only [m13, EV, Nat.reduceEqDiff, Nat.reduceBEq, Nat.reduceLT, Nat.reduceLeDiff, Nat.reduceAdd, Nat.reduceSub, reduceIte]
  rcases e : decide (1048576 < (a.length : Int)) with _ | _
  · have h : ¬ 1048576 < (a.length : Int) := by simpa using e
    have w := w64 (1048576 - (a.length : Int)) (by omega)
    simp only [w, EV, Nat.reduceEqDiff, Nat.reduceBEq, Nat.reduceLT, Nat.reduceLeDiff, Nat.reduceAdd, Nat.reduceSub, reduceIte]
    simp only [Bool.false_or, EV, Nat.reduceEqDiff, Nat.reduceBEq, Nat.reduceLT, Nat.reduceLeDiff, Nat.reduceAdd, Nat.reduceSub, reduceIte, evRE, retVC, cellV', evR, nfz, nfzs, nfzss, List.contains_nil, List.contains_cons, Bool.or_false, or_true]
  · simp only [EV, Nat.reduceEqDiff, Nat.reduceBEq, Nat.reduceLT, Nat.reduceLeDiff, Nat.reduceAdd, Nat.reduceSub, reduceIte]
    simp only [Bool.true_or, EV, Nat.reduceEqDiff, Nat.reduceBEq, Nat.reduceLT, Nat.reduceLeDiff, Nat.reduceAdd, Nat.reduceSub, reduceIte, evRE, retVC, cellV', evR, nfz, nfzs, nfzss, List.contains_nil, List.contains_cons, Bool.or_false, or_true]
end Go.AM
namespace Go.AM
set_option linter.unusedVariables false
set_option linter.unusedSimpArgs false
theorem line_suf {l : List Ty} (ht : tabOk l = true) : ∀ (k : Nat) (a b : Int), (lineL l a).length < k → isRec l a = true → b ∈ lineL l a → ∃ pre, lineL l a = pre ++ lineL l b
  | 0, a, b, h, _, _ => absurd h (by omega)
  | k + 1, a, b, h, hr, hm => by
    have hlr := lineL_rec ht hr
    rw [hlr] at hm
    rcases List.mem_cons.1 hm with rfl | hm
    · exact ⟨[], rfl⟩
    · rcases (isRec_base (tabOk_tys ht) hr).1 with hb | hb
      · rw [lineL_neg hb] at hm; simp at hm
      · rw [hlr, List.length_cons] at h
        obtain ⟨pre, hp⟩ := line_suf ht k (baseAt l a) b (by omega) hb hm
        exact ⟨a :: pre, by rw [hlr, hp]; rfl⟩
end Go.AM
namespace Go.AM
set_option linter.unusedVariables false
set_option linter.unusedSimpArgs false
theorem may_trans {l : List Ty} (ht : tabOk l = true) {a b c : Int} (ha : isNum l a = true) (hb : isNum l b = true) (hc : isNum l c = true) (hk : isRec l a = true) (h1 : mayL l a b = true) (h2 : mayL l b c = true) : mayL l a c = true := by
  obtain ⟨a0, a1⟩ := isNum_in.1 ha
  obtain ⟨b0, b1⟩ := isNum_in.1 hb
  obtain ⟨c0, c1⟩ := isNum_in.1 hc
  have an : a.toNat < l.length := by omega
  have bn : b.toNat < l.length := by omega
  have cn : c.toNat < l.length := by omega
  obtain ⟨_, _, _, ak⟩ := isRec_in hk
  have e1 : mayL l a b = mayT l a b l[a.toNat] l[b.toNat] := by simp [mayL, an, bn]
  have e2 : mayL l b c = mayT l b c l[b.toNat] l[c.toNat] := by simp [mayL, bn, cn]
  have e3 : mayL l a c = mayT l a c l[a.toNat] l[c.toNat] := by simp [mayL, an, cn]
  by_cases hab : a = b
  · rw [hab]; exact h2
  by_cases hbc : b = c
  · rw [← hbc]; exact h1
  have hab' : (a == b) = false := by simpa using hab
  have hbc' : (b == c) = false := by simpa using hbc
  have ak' : l[a.toNat].kind = 5 := by simpa using ak
  rw [e1] at h1
  rw [e2] at h2
  unfold mayT at h1 h2
  rw [hab'] at h1
  rw [hbc'] at h2
  have h5 : ((5 : Int) == 5) = true := rfl
  have ft : (false = true) = False := by simp
  have tf : (true = false) = False := by simp
  by_cases bk : l[b.toNat].kind = 5
  rotate_left
  · have : ((5 : Int) == l[b.toNat].kind) = false := by simp; omega
    rw [ak', this] at h1
    simp at h1
  by_cases ck : l[c.toNat].kind = 5
  rotate_left
  · have : ((5 : Int) == l[c.toNat].kind) = false := by simp; omega
    rw [bk, this] at h2
    simp at h2
  rw [ak', bk] at h1
  rw [bk, ck] at h2
  simp only [h5, ft, tf, if_false, if_true] at h1 h2
  have br : isRec l b = true := by
    simp only [isRec, hb, Bool.true_and, beq_iff_eq, kd]
    simp [bn, bk]
  have cr : isRec l c = true := by
    simp only [isRec, hc, Bool.true_and, beq_iff_eq, kd]
    simp [cn, ck]
  obtain ⟨pre, hp⟩ := line_suf ht _ c b (Nat.lt_succ_self _) cr (List.contains_iff_mem.1 h2)
  have h3 : (lineL l c).contains a = true := List.contains_iff_mem.2 (by rw [hp]; exact List.mem_append_right _ (List.contains_iff_mem.1 h1))
  rw [e3]
  unfold mayT
  rw [ak', ck, h3]
  simp only [h5, tf, if_false, if_true, ite_self]
theorem fit_self {l : List Ty} (ps : List Par) : fitL l ps (ps.map Par.typ) = true := by
  simp only [fitL, decide_eq_true_eq]
  refine ⟨by simp, fun i h g _ => ?_⟩
  simp [parFit]
theorem fit_var {l : List Ty} {ps : List Par} {ks : List Int} (h : fitL l ps ks = true) : ks.length = ps.length ∧ ∀ i (h : i < ps.length) (g : i < ks.length), ps[i].byvar = true → ks[i] = ps[i].typ := by
  simp only [fitL, decide_eq_true_eq] at h
  refine ⟨h.1.symm, fun i hi gi hv => ?_⟩
  have := h.2 i hi gi hi
  simp only [parFit, hv, Bool.not_true, Bool.false_and, Bool.or_false, beq_iff_eq] at this
  exact this.symm
end Go.AM
namespace Go.AM
set_option linter.unusedVariables false
set_option linter.unusedSimpArgs false
def capS (t : Ty) (s : Int) : Int := min 1000000001 (if (t.kind == 4) = true then s * t.long else s)
def sumZ (g : Int → Int) : List Int → Int
  | [] => 0
  | k :: ks => g k + sumZ g ks
def oneT (t : Ty) (g : Int → Int) : Int :=
  if (t.kind == 1) = true then 4 else if (t.kind == 2 || t.kind == 3) = true then 1 else if (t.kind == 6) = true then 8 else capS t (sumZ g (prt false t))
def szN (l : List Ty) : Nat → Int → Int
  | 0, _ => 0
  | f + 1, n => match l[n.toNat]? with
    | some t => oneT t (szN l f)
    | none => 0
def sz (l : List Ty) (n : Int) : Int := szN l (l.length + 1) n
theorem sumZ_congr {g g' : Int → Int} : ∀ {ks : List Int}, (∀ k ∈ ks, g k = g' k) → sumZ g ks = sumZ g' ks
  | [], _ => rfl
  | k :: ks, h => by rw [sumZ, sumZ, h k (by simp), sumZ_congr fun k hk => h k (by simp [hk])]
theorem oneT_congr {t : Ty} {g g' : Int → Int} (h : ∀ k ∈ prt false t, g k = g' k) : oneT t g = oneT t g' := by
  unfold oneT; rw [sumZ_congr h]
theorem szN_irr {l : List Ty} (ht : tabOk l = true) : ∀ (f f' : Nat) (n : Int), 0 ≤ n → n < (l.length : Int) → rk l n < f → rk l n < f' → szN l f n = szN l f' n
  | 0, _, n, _, _, h, _ => absurd h (by omega)
  | f + 1, 0, n, _, _, _, h => absurd h (by omega)
  | f + 1, f' + 1, n, h0, h1, h, h' => by
    have hn : n.toNat < l.length := by omega
    simp only [szN, List.getElem?_eq_getElem hn]
    refine oneT_congr fun k hk => ?_
    rw [← kids_at hn] at hk
    have hki := kids_ok (tabOk_tys ht) h0 h1 hk
    have hlt := rk_lt ht h0 h1 hk
    exact szN_irr ht f f' k hki.1 hki.2 (by omega) (by omega)
theorem sz_eq {l : List Ty} (ht : tabOk l = true) {n : Int} (h0 : 0 ≤ n) (h1 : n < (l.length : Int)) {hn : n.toNat < l.length} : sz l n = oneT l[n.toNat] (sz l) := by
  have hr := rk_le l n
  show szN l (l.length + 1) n = _
  rw [szN_irr ht _ (l.length + 2) n h0 h1 (by omega) (by omega)]
  simp only [szN, List.getElem?_eq_getElem hn]
  rfl
theorem sumZ_nn {g : Int → Int} : ∀ {ks : List Int}, (∀ k ∈ ks, 0 ≤ g k) → 0 ≤ sumZ g ks
  | [], _ => by simp [sumZ]
  | k :: ks, h => by have := h k (by simp); have := sumZ_nn (ks := ks) fun k hk => h k (by simp [hk]); simp only [sumZ]; omega
theorem sumZ_le {g : Int → Int} {B : Int} : ∀ {ks : List Int}, (∀ k ∈ ks, g k ≤ B) → sumZ g ks ≤ B * ks.length
  | [], _ => by simp [sumZ]
  | k :: ks, h => by
    have h1 := h k (by simp)
    have h2 := sumZ_le (ks := ks) fun k hk => h k (by simp [hk])
    simp only [sumZ, List.length_cons]
    rw [Int.natCast_add, Int.mul_add]
    omega
theorem szN_nn {l : List Ty} (ht : tysOk l = true) : ∀ (f : Nat) (n : Int), 0 ≤ szN l f n ∧ szN l f n ≤ 1000000001
  | 0, n => by simp [szN]
  | f + 1, n => by
    unfold szN
    split
    · rename_i t e
      obtain ⟨hn, rfl⟩ := List.getElem?_eq_some_iff.1 e
      unfold oneT
      split
      · omega
      split
      · omega
      split
      · omega
      · have h1 : 0 ≤ sumZ (szN l f) (prt false l[n.toNat]) := sumZ_nn fun k _ => (szN_nn ht f k).1
        unfold capS
        split
        · rename_i hk
          have hl := (tysOk_good ht hn).arr (by simpa using hk)
          have : 0 ≤ sumZ (szN l f) (prt false l[n.toNat]) * l[n.toNat].long := Int.mul_nonneg h1 (by omega)
          omega
        · omega
    · omega
theorem sz_nn {l : List Ty} (ht : tysOk l = true) (n : Int) : 0 ≤ sz l n ∧ sz l n ≤ 1000000001 := szN_nn ht _ _
def getS (s : List Int) (k : Int) : Int := s[k.toNat]?.getD 0
end Go.AM
namespace Go.AM
set_option linter.unusedVariables false
set_option linter.unusedSimpArgs false
theorem getS_at {s : List Int} {j : Nat} (h : j < s.length) : getS s (j : Int) = s[j] := by simp [getS, h]
theorem getS_set {s : List Int} {i j : Nat} {v : Int} (hi : i < s.length) : getS (s.set i v) (j : Int) = if j = i then v else getS s (j : Int) := by
  simp only [getS, Int.toNat_natCast]
  by_cases e : j = i
  · subst e; simp [hi]
  · rw [if_neg e, List.getElem?_set_ne (fun h => e h.symm)]
end Go.AM
namespace Go.AM
set_option linter.unusedVariables false
set_option linter.unusedSimpArgs false
theorem sumZ_app {g : Int → Int} : ∀ {a b : List Int}, sumZ g (a ++ b) = sumZ g a + sumZ g b
  | [], b => by simp [sumZ]
  | x :: a, b => by simp only [List.cons_append, sumZ, sumZ_app (a := a)]; omega
end Go.AM
namespace Go.Proofs.Sizes
open Go Go.AM Go.RowKit Go.Shelf Go.Proofs
set_option linter.unusedVariables false
set_option linter.unusedSimpArgs false
theorem row_at {w : World} {Fz : Nat → Prop} {sz : Nat} : ∀ {rows : List (List AV)} {xs : List Value} {o : List Nat} {g h : Nat} {i : Nat} (hi : i < rows.length), RepRows w Fz sz rows xs o → At w g h xs → ∃ x1 o1, RepRow w Fz rows[i] x1 o1 ∧ rows[i].length = sz ∧ At w g (h + i * sz) x1
  | [], xs, o, g, h, i, hi, _, _ => absurd hi (by simp)
  | r :: rows, xs, o, g, h, i, hi, hr, ha => by
    simp only [RepRows] at hr
    obtain ⟨x1, x2, o1, o2, rfl, rfl, hl, h1, h2⟩ := hr
    have hx : x1.length = sz := by rw [← hl]; exact h1.length
    cases i with
    | zero => exact ⟨x1, o1, h1, hl, fun j u hj => by simpa using ha j u (by rw [List.getElem?_append_left (List.getElem?_eq_some_iff.1 hj).1]; exact hj)⟩
    | succ i =>
      have ha2 : At w g (h + sz) x2 := fun j u hj => by
        have := ha (sz + j) u (by rw [List.getElem?_append_right (by omega), hx, Nat.add_sub_cancel_left]; exact hj)
        rwa [← Nat.add_assoc] at this
      obtain ⟨y, oy, q1, q2, q3⟩ := row_at (rows := rows) (i := i) (by simpa using hi) h2 ha2
      refine ⟨y, oy, q1, q2, ?_⟩
      have e : h + (i + 1) * sz = h + sz + i * sz := by rw [Nat.succ_mul]; omega
      rw [e]
      exact q3
structure Mem (Bo Bl Bf g gl hl cap c : Nat) (Fz : Nat → Prop) (l : List Ty) (s : List Int) (W : World) : Prop where
  o : W.cell? ⟨Bo, 0, none⟩ = some (.slice (some ⟨g, 0, none⟩) l.length c)
  lb : W.cell? ⟨Bl, 0, none⟩ = some (.slice (some ⟨gl, hl, none⟩) l.length cap)
  f : W.cell? ⟨Bf, 0, none⟩ = some (.func (.func 130) #[] #[.pointer (some ⟨Bo, 0, none⟩), .pointer (some ⟨Bl, 0, none⟩), .pointer (some ⟨Bf, 0, none⟩)])
  vals : W.heap[g]? = some (.cells (s.map (Value.int .i64)).toArray 3 (0, 0))
  len : s.length = l.length
  rep : RepC W Fz (.fsl 6 (l.map Ty.z)) (.slice (some ⟨gl, hl, none⟩) l.length cap) []
  fz : ∀ b, Fz b → b < W.heap.size ∧ b ≠ g
  ne : Bo ≠ g ∧ Bl ≠ g ∧ Bf ≠ g
theorem Mem.at {Bo Bl Bf g gl hl cap c : Nat} {Fz : Nat → Prop} {l : List Ty} {s : List Int} {W : World} (M : Mem Bo Bl Bf g gl hl cap c Fz l s W) {j : Nat} (hj : j < l.length) : W.cell? ⟨g, j, none⟩ = some (.int .i64 (getS s j)) := by
  rw [cell_of_cells M.vals]
  have : j < s.length := by rw [M.len]; exact hj
  simp [getS_at this, this]
theorem Mem.row {Bo Bl Bf g gl hl cap c : Nat} {Fz : Nat → Prop} {l : List Ty} {s : List Int} {W : World} (M : Mem Bo Bl Bf g gl hl cap c Fz l s W) {n : Nat} (hn : n < l.length) :
    ∃ fv, RepC W Fz (.fsl 3 (l[n].fields.map Fd.z)) fv [] ∧ W.cell? ⟨gl, hl + n * 6, none⟩ = some (.int .i64 l[n].kind) ∧ W.cell? ⟨gl, hl + n * 6 + 1, none⟩ = some (.int .i64 l[n].long) ∧ W.cell? ⟨gl, hl + n * 6 + 2, none⟩ = some (.int .i64 l[n].base) ∧
      W.cell? ⟨gl, hl + n * 6 + 3, none⟩ = some fv ∧ W.cell? ⟨gl, hl + n * 6 + 4, none⟩ = some (.string l[n].owner) ∧ W.cell? ⟨gl, hl + n * 6 + 5, none⟩ = some (.string l[n].name) := by
  have hr := M.rep
  simp only [RepC] at hr
  obtain ⟨_, A, cc, he, _, hr⟩ := hr
  rcases hr with hr | ⟨g2, h2, xs, rfl, _, hrs, hat⟩
  · have : l = [] := List.map_eq_nil_iff.1 hr
    subst this
    simp at hn
  · simp only [Value.slice.injEq, Option.some.injEq, Addr.mk.injEq] at he
    obtain ⟨⟨rfl, rfl, _⟩, _, rfl⟩ := he
    obtain ⟨x1, o1, q1, _, q3⟩ := row_at (i := n) (by simpa using hn) hrs hat
    simp only [List.getElem_map, Ty.z, RepRow] at q1
    obtain ⟨_, _, _, _, rfl, rfl, ⟨rfl, _, rfl⟩, _, _, _, _, rfl, rfl, ⟨rfl, _, rfl⟩, _, _, _, _, rfl, rfl, ⟨rfl, _, rfl⟩, fv, _, _, _, rfl, rfl, hf, _, _, _, _, rfl, rfl, ⟨rfl, _, rfl⟩, _, _, _, _, rfl, rfl, ⟨rfl, _, rfl⟩, rfl, rfl⟩ := q1
    have hf0 : ∀ {o : List Nat}, RepC W Fz (.fsl 3 (l[n].fields.map Fd.z)) fv o → o = [] := fun h => by simp only [RepC] at h; exact h.1
    refine ⟨fv, ?_, q3 0 _ rfl, q3 1 _ rfl, q3 2 _ rfl, q3 3 _ rfl, q3 4 _ rfl, q3 5 _ rfl⟩
    have := hf0 hf
    subst this
    exact hf
end Go.Proofs.Sizes
namespace Go.Proofs.Sizes
open Go Go.AM Go.RowKit Go.Shelf Go.Proofs
attribute [local go_sem] Oper.semAt_some
set_option linter.unusedVariables false
set_option linter.unusedSimpArgs false
def Som (l : List Ty) (s : List Int) : Prop := ∀ j : Nat, j < l.length → getS s (j : Int) = sz l (j : Int) ∨ getS s (j : Int) = -1
def Mor (l : List Ty) (s s' : List Int) : Prop := ∀ j : Nat, j < l.length → getS s (j : Int) = sz l (j : Int) → getS s' (j : Int) = sz l (j : Int)
theorem Mem.ext {Bo Bl Bf g gl hl cap c : Nat} {Fz : Nat → Prop} {l : List Ty} {s : List Int} {W W' : World} (M : Mem Bo Bl Bf g gl hl cap c Fz l s W) (hE : Ext W W' []) : Mem Bo Bl Bf g gl hl cap c Fz l s W' := by
  have hb : ∀ {p : Addr} {v : Value}, W.cell? p = some v → W'.cell? p = some v := fun {p v} h => (World.cell?_of_block (hE.blk _ (World.block_lt_of_cell? W _ h) (by simp))).trans h
  exact ⟨hb M.o, hb M.lb, hb M.f, (hE.blk _ (Array.getElem?_eq_some_iff.1 M.vals).1 (by simp)).trans M.vals, M.len, M.rep.keep _ _ _ ⟨fun b h => ⟨h, hE.blk b (M.fz b h).1 (by simp)⟩, fun b h => by simp at h⟩,
    fun b h => ⟨Nat.lt_of_lt_of_le (M.fz b h).1 hE.size, (M.fz b h).2⟩, M.ne⟩
theorem Mem.put {Bo Bl Bf g gl hl cap c : Nat} {Fz : Nat → Prop} {l : List Ty} {s : List Int} {W : World} (M : Mem Bo Bl Bf g gl hl cap c Fz l s W) {n : Nat} (hn : n < l.length) (v : Int) : Mem Bo Bl Bf g gl hl cap c Fz l (s.set n v) (W.setCell ⟨g, n, none⟩ (.int .i64 v)) ∧ Ext W (W.setCell ⟨g, n, none⟩ (.int .i64 v)) [g] := by
  have hg := (Array.getElem?_eq_some_iff.1 M.vals).1
  have hh : (W.setCell ⟨g, n, none⟩ (.int .i64 v)).heap[g]? = some (.cells ((s.set n v).map (Value.int .i64)).toArray 3 (0, 0)) := by
    simp [World.setCell, Array.getElem?_modify, M.vals, List.map_set]
  have hE : Ext W (W.setCell ⟨g, n, none⟩ (.int .i64 v)) [g] :=
    ⟨rfl, rfl, rfl, by simp [World.setCell], fun b hb hn => Below.heap_setCell _ _ _ b (by simpa using hn)⟩
  have hb : ∀ {p : Addr} {u : Value}, p.block ≠ g → W.cell? p = some u → (W.setCell ⟨g, n, none⟩ (.int .i64 v)).cell? p = some u := fun {p u} hne h => (World.cell?_of_block (hE.blk _ (World.block_lt_of_cell? W _ h) (by simpa using hne))).trans h
  exact ⟨⟨hb M.ne.1 M.o, hb M.ne.2.1 M.lb, hb M.ne.2.2 M.f, hh, by rw [List.length_set]; exact M.len, M.rep.keep _ _ _ ⟨fun b h => ⟨h, hE.blk b (M.fz b h).1 (by simpa using (M.fz b h).2)⟩, fun b h => by simp at h⟩,
    fun b h => ⟨Nat.lt_of_lt_of_le (M.fz b h).1 hE.size, (M.fz b h).2⟩, M.ne⟩, hE⟩
set_option maxRecDepth 100000 in
set_option maxHeartbeats 4000000 in
theorem c130 {Bo Bl Bf g gl hl cap c : Nat} {Fz : Nat → Prop} {l : List Ty} (ht : tabOk l = true) (hsm0 : ∀ t ∈ l, t.sm) (hll : l.length ≤ 24) (hcc : l.length ≤ cap) (hc : l.length ≤ c) : ∀ (k n : Nat), n < l.length → rk l (n : Int) < k → ∀ (W : World) (s : List Int), Mem Bo Bl Bf g gl hl cap c Fz l s W → Som l s →
    Calls Tryz.prog 130 #[.int .i64 (n : Int), .pointer (some ⟨Bo, 0, none⟩), .pointer (some ⟨Bl, 0, none⟩), .pointer (some ⟨Bf, 0, none⟩)] W fun e W' => e = .returned (.int .i64 (sz l (n : Int))) ∧ ∃ s', Mem Bo Bl Bf g gl hl cap c Fz l s' W' ∧ Som l s' ∧ getS s' (n : Int) = sz l (n : Int) ∧ Mor l s s' ∧ Ext W W' [g]
  | 0, n, _, h, _, _, _, _ => absurd h (by omega)
  | k + 1, n, hn, hk, W, s, M, hS => by
    have ih := c130 (cap := cap) (c := c) (Bo := Bo) (Bl := Bl) (Bf := Bf) (g := g) (gl := gl) (hl := hl) (Fz := Fz) ht hsm0 hll hcc hc k
    refine callsIn_wide (n := 9).1 (callsIn_of_wp Tryz.func130 rfl trivial ?_ rfl)
    simp only [Tryz.ntmps130, List.size_toArray, List.length_cons, List.length_nil, Nat.reduceAdd, Nat.reduceSub, Array.replicate_succ, Array.replicate_zero, List.push_toArray, List.append_toArray, List.nil_append, List.cons_append]
    have m1 := M.o
    have m2 := M.at hn
    rcases hS n hn with h0 | h0
    · have hnn := (sz_nn (tabOk_tys ht) (n : Int)).1
      rw [h0] at m2
      gi_wp2
      refine bodyPost_ret (results_tmp rfl _ _ _) rfl ?_
      exact ⟨rfl, s, M, hS, h0, fun j _ h => h, Ext.refl _ _⟩
    · rw [h0] at m2
      have m3 := M.lb
      obtain ⟨fv, f0, r0, r1, r2, r3, r4, r5⟩ := M.row hn
      have f0' := f0
      simp only [RepC] at f0'
      obtain ⟨_, Af, cf, rfl, hcf, hAf⟩ := f0'
      have G := tysOk_good (tabOk_tys ht) hn
      have hse : sz l (n : Int) = oneT l[n] (sz l) := by
        have := sz_eq (l := l) ht (n := (n : Int)) (Int.natCast_nonneg n) (by omega) (hn := by simpa using hn)
        simpa using this
      obtain ⟨W1, hW1⟩ : ∃ W1, W.alloc (Obj.cells #[Value.int .i64 l[n].kind, Value.int .i64 l[n].long, Value.int .i64 l[n].base, Value.slice Af (List.map Fd.z l[n].fields).length cf, Value.string l[n].owner, Value.string l[n].name] 40) = W1 := ⟨_, rfl⟩
      have hE1 : Ext W W1 [] := by rw [← hW1]; exact Ext.alloc _ _ _
      have M1 := M.ext hE1
      have hb1 : W1.heap[W.heap.size]? = some (Obj.cells #[Value.int .i64 l[n].kind, Value.int .i64 l[n].long, Value.int .i64 l[n].base, Value.slice Af (List.map Fd.z l[n].fields).length cf, Value.string l[n].owner, Value.string l[n].name] 40) := by rw [← hW1]; exact World.alloc_heap_new _ _
      have k0 : W1.cell? ⟨W.heap.size, 0, none⟩ = some (.int .i64 l[n].kind) := by rw [cell_of_cells hb1]; rfl
      have k1 : W1.cell? ⟨W.heap.size, 1, none⟩ = some (.int .i64 l[n].long) := by rw [cell_of_cells hb1]; rfl
      have k2 : W1.cell? ⟨W.heap.size, 2, none⟩ = some (.int .i64 l[n].base) := by rw [cell_of_cells hb1]; rfl
      have k3 : W1.cell? ⟨W.heap.size, 3, none⟩ = some (.slice Af l[n].fields.length cf) := by rw [cell_of_cells hb1]; simp
      have k4 : W1.cell? ⟨W.heap.size, 4, none⟩ = some (.string l[n].owner) := by rw [cell_of_cells hb1]; rfl
      have k5 : W1.cell? ⟨W.heap.size, 5, none⟩ = some (.string l[n].name) := by rw [cell_of_cells hb1]; rfl
      have n1 := M1.o
      have n2 := M1.at hn
      rw [h0] at n2
      have n3 := M1.f
      have n4 : W1.frozen? ⟨g, n, none⟩ = false := by simp [World.frozen?, M1.vals]
      have hE1g : Ext W W1 [g] := hE1.mono (by simp)
      have hlt1 : W.heap.size < W1.heap.size := (Array.getElem?_eq_some_iff.1 hb1).1
      have hne1 : W.heap.size ∉ [g] := by have := (Array.getElem?_eq_some_iff.1 M.vals).1; simp; omega
      simp only [List.length_map] at hW1
      have fin : ∀ (v : Int) (W2 : World) (s2 : List Int), v = sz l (n : Int) → Mem Bo Bl Bf g gl hl cap c Fz l s2 W2 → Som l s2 → Mor l s s2 → Ext W W2 [g] →
          ∃ s', Mem Bo Bl Bf g gl hl cap c Fz l s' (W2.setCell ⟨g, n, none⟩ (.int .i64 v)) ∧ Som l s' ∧ getS s' (n : Int) = sz l (n : Int) ∧ Mor l s s' ∧ Ext W (W2.setCell ⟨g, n, none⟩ (.int .i64 v)) [g] := by
        intro v W2 s2 hv M2 hS2 hM2 hE2
        obtain ⟨q1, q2⟩ := M2.put hn v
        have hn2 : n < s2.length := by rw [M2.len]; exact hn
        refine ⟨_, q1, fun j hj => ?_, ?_, fun j hj h => ?_, hE2.trans q2 fun b hb _ => hb⟩
        · rw [getS_set hn2]
          split
          · rename_i e; rw [e]; exact .inl hv
          · exact hS2 j hj
        · rw [getS_set hn2, if_pos rfl]; exact hv
        · rw [getS_set hn2]
          split
          · rename_i e; rw [e]; exact hv
          · exact hM2 j hj h
      have one := G.one
      have hsm := hsm0 _ (List.getElem_mem hn)
      have hcase : l[n].kind = 1 ∨ l[n].kind = 2 ∨ l[n].kind = 3 ∨ l[n].kind = 6 ∨ l[n].kind = 4 ∨ l[n].kind = 5 := by omega
      rcases hcase with hg | hg | hg | hg | hg | hg
      · have hv : sz l (n : Int) = 4 := by rw [hse]; simp [oneT, hg]
        rw [hg] at r0 k0 hW1
        obtain ⟨s', F1, F2, F3, F4, F5⟩ := fin (min 4 1000000001) W1 s (by rw [hv]; rfl) M1 hS (fun j _ h => h) hE1g
        obtain ⟨W2, hW2⟩ : ∃ W2, W1.setCell ⟨g, n, none⟩ (.int .i64 (min 4 1000000001)) = W2 := ⟨_, rfl⟩
        rw [hW2] at F1 F5
        have p1 := F1.o
        have p2 := F1.at hn
        rw [F3] at p2
        clear hv hse
        gi_wp2
        refine bodyPost_ret (results_tmp rfl _ _ _) rfl ?_
        exact ⟨rfl, s', F1, F2, F3, F4, F5⟩
      · have hv : sz l (n : Int) = 1 := by rw [hse]; simp [oneT, hg]
        rw [hg] at r0 k0 hW1
        obtain ⟨s', F1, F2, F3, F4, F5⟩ := fin (min 1 1000000001) W1 s (by rw [hv]; rfl) M1 hS (fun j _ h => h) hE1g
        obtain ⟨W2, hW2⟩ : ∃ W2, W1.setCell ⟨g, n, none⟩ (.int .i64 (min 1 1000000001)) = W2 := ⟨_, rfl⟩
        rw [hW2] at F1 F5
        have p1 := F1.o
        have p2 := F1.at hn
        rw [F3] at p2
        clear hv hse
        gi_wp2
        refine bodyPost_ret (results_tmp rfl _ _ _) rfl ?_
        exact ⟨rfl, s', F1, F2, F3, F4, F5⟩
      · have hv : sz l (n : Int) = 1 := by rw [hse]; simp [oneT, hg]
        rw [hg] at r0 k0 hW1
        obtain ⟨s', F1, F2, F3, F4, F5⟩ := fin (min 1 1000000001) W1 s (by rw [hv]; rfl) M1 hS (fun j _ h => h) hE1g
        obtain ⟨W2, hW2⟩ : ∃ W2, W1.setCell ⟨g, n, none⟩ (.int .i64 (min 1 1000000001)) = W2 := ⟨_, rfl⟩
        rw [hW2] at F1 F5
        have p1 := F1.o
        have p2 := F1.at hn
        rw [F3] at p2
        clear hv hse
        gi_wp2
        refine bodyPost_ret (results_tmp rfl _ _ _) rfl ?_
        exact ⟨rfl, s', F1, F2, F3, F4, F5⟩
      · have hv : sz l (n : Int) = 8 := by rw [hse]; simp [oneT, hg]
        rw [hg] at r0 k0 hW1
        obtain ⟨s', F1, F2, F3, F4, F5⟩ := fin (min 8 1000000001) W1 s (by rw [hv]; rfl) M1 hS (fun j _ h => h) hE1g
        obtain ⟨W2, hW2⟩ : ∃ W2, W1.setCell ⟨g, n, none⟩ (.int .i64 (min 8 1000000001)) = W2 := ⟨_, rfl⟩
        rw [hW2] at F1 F5
        have p1 := F1.o
        have p2 := F1.at hn
        rw [F3] at p2
        clear hv hse
        gi_wp2
        refine bodyPost_ret (results_tmp rfl _ _ _) rfl ?_
        exact ⟨rfl, s', F1, F2, F3, F4, F5⟩
      · obtain ⟨a1, a2, a3⟩ := G.arr hg
        obtain ⟨b0, b1⟩ := isNum_in.1 a1
        obtain ⟨m, hm⟩ : ∃ m : Nat, l[n].base = (m : Int) := ⟨l[n].base.toNat, by omega⟩
        have hml : m < l.length := by omega
        have hmk : rk l (m : Int) < k := by
          have : (m : Int) ∈ kids l false (n : Int) := by
            rw [kids_at (n := (n : Int)) (by simpa using hn)]
            simp [prt, hg, hm]
          have := rk_lt ht (Int.natCast_nonneg n) (by omega) this
          omega
        have hcall : ∀ W', Ext W1 W' [] → _ := fun W' hE' => ih m hml hmk W' s (M1.ext hE') hS
        rw [hg] at r0 k0 hW1
        rw [hm] at r2 k2 hW1
        gi_wp2
        refine wpIn_wide.2 ?_
        go_region_held3 (fun w => w.cell? ⟨W.heap.size, 1, none⟩ = some (.int .i64 l[n].long) ∧ w.cell? ⟨W.heap.size, 2, none⟩ = some (.int .i64 (m : Int)) ∧ w.cell? ⟨Bf, 0, none⟩ = some (.func (.func 130) #[] #[.pointer (some ⟨Bo, 0, none⟩), .pointer (some ⟨Bl, 0, none⟩), .pointer (some ⟨Bf, 0, none⟩)])) (first | exact ⟨k1, k2, n3⟩ | exact ⟨by assumption, by assumption, by assumption⟩) (first | (go_at_call 130; refine (hcall _ (Ext.drew _ _)).mono ?_; rintro e W2 ⟨rfl, s2, M2, S2, g2, Mo2, E2⟩; have c1 : W2.cell? ⟨W.heap.size, 1, none⟩ = some (.int .i64 l[n].long) := (World.cell?_of_block (E2.blk W.heap.size hlt1 hne1)).trans k1; have c2 : W2.cell? ⟨W.heap.size, 2, none⟩ = some (.int .i64 (m : Int)) := (World.cell?_of_block (E2.blk W.heap.size hlt1 hne1)).trans k2; have c3 := M2.f))
        have hv : min (l[n].long * sz l (m : Int)) 1000000001 = sz l (n : Int) := by
          have hp : prt false l[n] = [(m : Int)] := by
            simp [prt, hg, hm, G.none (by rw [hg]; omega)]
          rw [hse]
          unfold oneT capS
          rw [hg, hp]
          simp only [sumZ, show ((4 : Int) == 1) = false from rfl, show ((4 : Int) == 2) = false from rfl, show ((4 : Int) == 3) = false from rfl, show ((4 : Int) == 6) = false from rfl, show ((4 : Int) == 4) = true from rfl, Bool.or_self, Bool.false_eq_true, if_false, if_true, Int.add_zero]
          rw [Int.mul_comm, Int.min_comm]
        have hb := sz_nn (tabOk_tys ht) (m : Int)
        have hw1 : l[n].long * sz l (m : Int) ≤ 1000 * sz l (m : Int) := Int.mul_le_mul_of_nonneg_right a3 hb.1
        have hw0 : 0 ≤ l[n].long * sz l (m : Int) := Int.mul_nonneg (by omega) hb.1
        have hw := w64 (l[n].long * sz l (m : Int)) (by omega)
        simp only [hw]
        obtain ⟨s', F1, F2, F3, F4, F5⟩ := fin (min (l[n].long * sz l (m : Int)) 1000000001) W2 s2 hv M2 S2 Mo2 (hE1g.trans ((Ext.drew W1 [g]).trans E2 fun b hb _ => hb) fun b hb _ => hb)
        obtain ⟨W3, hW3⟩ : ∃ W3, W2.setCell ⟨g, n, none⟩ (.int .i64 (min (l[n].long * sz l (m : Int)) 1000000001)) = W3 := ⟨_, rfl⟩
        rw [hW3] at F1 F5
        have p1 := F1.o
        have p2 := F1.at hn
        rw [F3] at p2
        have o1 := M2.o
        have o2 := M2.at hn
        have o3 : W2.frozen? ⟨g, n, none⟩ = false := by simp [World.frozen?, M2.vals]
        clear hv hse hw hw0 hw1
        gi_wp2
        refine bodyPost_ret (results_tmp rfl _ _ _) rfl ?_
        exact ⟨rfl, s', F1, F2, F3, F4, F5⟩
      · have hk6 : ∀ i (h : i < (prt false l[n]).length), ∃ m : Nat, (prt false l[n])[i] = (m : Int) ∧ m < l.length ∧ rk l (m : Int) < k := by
          intro i h
          have hm : (prt false l[n])[i] ∈ kids l false (n : Int) := by
            rw [kids_at (n := (n : Int)) (by simpa using hn)]
            simp only [Int.toNat_natCast]
            exact List.getElem_mem h
          obtain ⟨b0, b1⟩ := kids_ok (tabOk_tys ht) (Int.natCast_nonneg n) (by omega) hm
          have hlt := rk_lt ht (Int.natCast_nonneg n) (by omega) hm
          exact ⟨(prt false l[n])[i].toNat, by omega, by omega, by rw [Int.toNat_of_nonneg b0]; omega⟩
        have h7 := prt_len (tabOk_tys ht) false hn
        have hv : min (sumZ (sz l) (prt false l[n])) 1000000001 = sz l (n : Int) := by
          rw [hse]
          unfold oneT capS
          rw [hg]
          simp only [show ((5 : Int) == 1) = false from rfl, show ((5 : Int) == 2) = false from rfl, show ((5 : Int) == 3) = false from rfl, show ((5 : Int) == 6) = false from rfl, show ((5 : Int) == 4) = false from rfl, Bool.or_self, Bool.false_eq_true, if_false]
          rw [Int.min_comm]
        have h136 := (d131 l[n] false hsm).2 W1 Fz [.agg #[Value.int .i64 l[n].kind, Value.int .i64 l[n].long, Value.int .i64 l[n].base, Value.slice Af (List.map Fd.z l[n].fields).length cf, Value.string l[n].owner, Value.string l[n].name], .bool false] [] (by
          have f1 : RepC W1 Fz (.fsl 3 (l[n].fields.map Fd.z)) (Value.slice Af (List.map Fd.z l[n].fields).length cf) [] := f0.keep _ _ _ ⟨fun b h => ⟨h, hE1.blk b (M.fz b h).1 (by simp)⟩, fun b h => by simp at h⟩
          refine ⟨_, _, [], [], rfl, rfl, ⟨[Value.int .i64 l[n].kind, Value.int .i64 l[n].long, Value.int .i64 l[n].base, Value.slice Af (List.map Fd.z l[n].fields).length cf, Value.string l[n].owner, Value.string l[n].name], rfl, ?_⟩, _, _, [], [], rfl, rfl, by simp [RepV, RepC, Value.oneCell'], rfl, rfl⟩
          exact ⟨_, _, [], [], rfl, rfl, by simp [RepV, RepC, Value.oneCell'], _, _, [], [], rfl, rfl, by simp [RepV, RepC, Value.oneCell'], _, _, [], [], rfl, rfl, by simp [RepV, RepC, Value.oneCell'], _, _, [], [], rfl, rfl, f1.toV, _, _, [], [], rfl, rfl, by simp [RepV, RepC, Value.oneCell'], _, _, [], [], rfl, rfl, by simp [RepV, RepC, Value.oneCell'], rfl, rfl⟩) List.nodup_nil (by simp) (fun b hb => (M1.fz b hb).1)
        rw [hg] at r0 k0 hW1 h136
        generalize hps : prt false l[n] = ps at h136 hk6 h7 hv
        clear hse
        gi_wp2
        simp only [List.length_map] at h136
        refine ⟨trivial, (callsIn_wide.2 h136).mono ?_⟩
        rintro e Wp ⟨x, ox, oo, rfl, hEp, hx, _, _, hold⟩
        have Mp := M1.ext hEp
        have hgW := (Array.getElem?_eq_some_iff.1 M1.vals).1
        obtain ⟨A, cp, rfl, hA⟩ : ∃ A cp, x = .slice A ps.length cp ∧ (0 < ps.length → ps.length ≤ cp ∧ ∃ gp hp, A = some ⟨gp, hp, none⟩ ∧ W1.heap.size ≤ gp ∧ gp < Wp.heap.size ∧ ∀ i (h : i < ps.length), Wp.cell? ⟨gp, hp + i, none⟩ = some (.int .i64 ps[i])) := by
          simp only [RepV, RepC] at hx
          rcases hx with ⟨rfl, hx, _⟩ | ⟨gp, hp, cp, cur, vs, o', rfl, rfl, _, hc, _, hrw, hat⟩
          · have : ps = [] := List.map_eq_nil_iff.1 hx
            subst this
            exact ⟨none, 0, rfl, fun h => absurd h (by simp)⟩
          · obtain ⟨rfl, rfl⟩ := AllF.rows_iv hrw
            have hgp := hold gp (by simp)
            refine ⟨some ⟨gp, hp * 1, none⟩, cp, by rw [List.length_map], fun _ => ⟨by simpa using hc, gp, hp * 1, rfl, by rcases hgp.1 with h | h; simp at h; exact h, hgp.2, fun i h => hat i _ (by simp [h])⟩⟩
        gi_wp2
        gi_loopw [7, 46] (fun a b wr => ∃ (i : Nat) (s2 : List Int), i ≤ ps.length ∧ b = .int .i64 (i : Int) ∧ a = .int .i64 (sumZ (sz l) (ps.take i)) ∧ Mem Bo Bl Bf g gl hl cap c Fz l s2 wr ∧ Som l s2 ∧ Mor l s s2 ∧ Ext W wr [g] ∧ Ext Wp wr [g])
          (fun a b _ => ps.length - (intOf b).toNat)
        case atStart => exact ⟨0, s, Nat.zero_le _, rfl, rfl, Mp, hS, fun j _ h => h, hE1g.trans (hEp.mono (by simp)) (fun b hb _ => hb), Ext.refl _ _⟩
        case round =>
          obtain ⟨i, s2, hi, rfl, rfl, Ms, Ss, Mo, EW, EP⟩ := hrel
          by_cases hlt : i < ps.length
          · obtain ⟨hc', gp, hp, rfl, hg1, hg2, hat⟩ := hA (by omega)
            have hcx : wr.cell? ⟨gp, hp + i, none⟩ = some (.int .i64 ps[i]) := (World.cell?_of_block (EP.blk gp hg2 (by simp; omega))).trans (hat i hlt)
            obtain ⟨m, hm, hml, hmk⟩ := hk6 i hlt
            rw [hm] at hcx
            have hf := Ms.f
            have hb := sz_nn (tabOk_tys ht) (m : Int)
            have hs1 : sumZ (sz l) (ps.take (i + 1)) = sumZ (sz l) (ps.take i) + sz l (m : Int) := by
              rw [List.take_succ_eq_append_getElem hlt, sumZ_app, hm]; simp [sumZ]
            have hs2 : 0 ≤ sumZ (sz l) (ps.take i) ∧ sumZ (sz l) (ps.take i) ≤ 7000000007 := by
              have q1 := sumZ_nn (g := sz l) (ks := ps.take i) fun k _ => (sz_nn (tabOk_tys ht) k).1
              have q2 := sumZ_le (g := sz l) (B := 1000000001) (ks := ps.take i) fun k _ => (sz_nn (tabOk_tys ht) k).2
              simp only [List.length_take] at q2
              omega
            gi_wp2
            refine ⟨trivial, (callsIn_wide.2 (ih m hml hmk wr s2 Ms Ss)).mono ?_⟩
            rintro e W3 ⟨rfl, s3, M3, S3, g3, Mo3, E3⟩
            gi_wp2
            exact ⟨⟨i + 1, s3, hlt, by simp, by rw [hs1], M3, S3, fun j hj h => Mo3 j hj (Mo j hj h), EW.trans E3 fun b hb _ => hb, EP.trans E3 fun b hb _ => hb⟩, by simp [intOf]; omega⟩
          · obtain rfl : i = ps.length := by omega
            simp only [List.take_length]
            obtain ⟨s', F1, F2, F3, F4, F5⟩ := fin (min (sumZ (sz l) ps) 1000000001) wr s2 hv Ms Ss Mo EW
            obtain ⟨W4, hW4⟩ : ∃ W4, wr.setCell ⟨g, n, none⟩ (.int .i64 (min (sumZ (sz l) ps) 1000000001)) = W4 := ⟨_, rfl⟩
            rw [hW4] at F1 F5
            have p1 := F1.o
            have p2 := F1.at hn
            rw [F3] at p2
            have o1 := Ms.o
            have o2 := Ms.at hn
            have o3 : wr.frozen? ⟨g, n, none⟩ = false := by simp [World.frozen?, Ms.vals]
            clear hv
            gi_wp2
            refine bodyPost_ret (results_tmp rfl _ _ _) rfl ?_
            exact ⟨rfl, s', F1, F2, F3, F4, F5⟩
end Go.Proofs.Sizes
namespace Go.AM
set_option linter.unusedVariables false
set_option linter.unusedSimpArgs false
def m3 : MC :=
 (.seq (.reg [Xb 4 (.asg .fb)]) (.keep [0, 1] (.seq (.seq (.reg [Xm 29 0, Xm 30 1, Xb 31 (.call (.fn 13) false [.lend (.t 29), .lend (.t 30)])]) (.keep [0, 1, 31] (.cond (.t 31) (.seq (.reg [Xb 4 (.asg .tb)]) .ret) .skip))) (.keep [0, 1] (.seq (.reg [Xm 33 0, Xb 34 (.call (.fn 14) true [.lend (.t 33)]), Xm 32 34, Xq 35 (.ext 32 0), Xq 36 (.ext 32 1), Xq 37 (.ext 32 2), Xm 5 35, Xa 6 36, Xa 7 37])
 (.keep [1, 5, 6, 7, 32, 34, 35] (.seq (.reg [Xm 39 5, Xm 40 6, Xm 41 7, Xb 42 (.call (.fn 15) false [.lend (.t 39), .lend (.t 40), .lend (.t 41)]), Xm 38 42, Xq 43 (.ext 38 0), Xq 44 (.ext 38 1), Xa 8 43, Xa 9 44]) (.keep [1, 5, 6, 7, 8, 9, 32, 34, 35] (.seq (.reg [Xm 46 5, Xm 47 6, Xm 48 7, Xb 49 (.call (.fn 16) false [.lend (.t 46), .lend (.t 47), .lend (.t 48)]), Xm 45 49, Xq 50 (.ext 45 0), Xq
 51 (.ext 45 1), Xa 10 50, Xa 11 51]) (.keep [1, 5, 6, 7, 8, 9, 10, 11, 32, 34, 35] (.seq (.seq (.reg [Xm 52 9, Xm 53 11, Xq 54 (.bin true .neq (.t 52) (.t 53)), Xm 55 54, Xu 56 55 (.mov (.t 8)), Xu 57 55 (.mov (.t 10)), Xu 58 55 (.bin true .neq (.t 56) (.t 57)), Xq 59 (.pick (.t 55) .tb (.t 58))]) (.keep [1, 5, 6, 7, 8, 9, 32, 34, 35, 59] (.cond (.t 59) (.seq (.reg [Xb 4 (.asg .fb)]) .ret)
 .skip))) (.keep [1, 5, 6, 7, 8, 9, 32, 34, 35] (.join [1] (.seq (.reg [Xm 60 9, Xm 61 60, Xt 62 61 (.mov (.t 8)), Xq 63 (.pick (.t 61) (.t 62) .fb)]) (.keep [1, 5, 6, 7, 32, 34, 35, 63] (.cond (.t 63) (.seq (.reg [Xm 65 5, Xm 66 6, Xb 67 (.call (.fn 17) false [.lend (.t 65), .lend (.t 66)]), Xm 64 67, Xq 68 (.ext 64 0), Xq 69 (.ext 64 1), Xa 12 68, Xa 13 69]) (.keep [1, 5, 6, 7, 12, 13, 32, 34,
 35] (.seq (.reg [Xm 71 5, Xm 72 7, Xb 73 (.call (.fn 17) false [.lend (.t 71), .lend (.t 72)]), Xm 70 73, Xq 74 (.ext 70 0), Xq 75 (.ext 70 1), Xa 14 74, Xa 15 75]) (.keep [1, 5, 6, 7, 12, 13, 14, 15, 32, 34, 35] (.seq (.seq (.reg [Xm 76 13, Xm 77 76, Xt 78 77 (.mov (.t 15)), Xt 79 77 (.un .not (.t 78)), Xt 80 77 (.mov (.t 79)), Xu 81 80 (.mov (.t 12)), Xu 82 80 (.mov (.t 14)), Xu 83 80 (.bin
 false .lss (.t 81) (.t 82)), Xt 84 77 (.pick (.t 80) .tb (.t 83)), Xq 85 (.pick (.t 77) (.t 84) .fb)]) (.keep [1, 5, 6, 7, 32, 34, 35, 85] (.cond (.t 85) (.seq (.reg [Xb 4 (.asg .fb)]) .ret) .skip))) (.keep [1, 5, 6, 7, 32, 34, 35] (.seq (.reg [Xm 87 5, Xm 88 6, Xb 89 (.call (.fn 18) false [.lend (.t 87), .lend (.t 88)]), Xa 86 89, Xq 90 (.ext 86 0), Xq 91 (.ext 86 1), Xa 16 90, Xa 17 91]) (.keep
 [1, 5, 6, 7, 16, 17, 32, 34, 35, 86, 89, 90] (.seq (.reg [Xm 93 5, Xm 94 7, Xb 95 (.call (.fn 18) false [.lend (.t 93), .lend (.t 94)]), Xa 92 95, Xq 96 (.ext 92 0), Xq 97 (.ext 92 1), Xa 18 96, Xa 19 97]) (.keep [1, 5, 6, 7, 16, 17, 18, 19, 32, 34, 35, 86, 89, 90, 92, 95, 96] (.seq (.seq (.reg [Xm 98 17, Xm 99 98, Xt 100 99 (.mov (.t 19)), Xt 101 99 (.un .not (.t 100)), Xt 102 99 (.mov (.t 101)),
 Xu 103 102 (.mov (.t 18)), Xu 104 102 (.len false (.t 103)), Xu 105 102 (.mov (.t 16)), Xu 106 102 (.len false (.t 105)), Xu 107 102 (.bin false .gtr (.t 104) (.t 106)), Xt 108 99 (.pick (.t 102) .tb (.t 107)), Xq 109 (.pick (.t 99) (.t 108) .fb)]) (.keep [1, 5, 6, 7, 16, 17, 18, 32, 34, 35, 86, 89, 90, 92, 95, 96, 109] (.cond (.t 109) (.seq (.reg [Xb 4 (.asg .fb)]) .ret) .skip))) (.keep [1, 5, 6,
 7, 16, 17, 18, 32, 34, 35, 86, 89, 90, 92, 95, 96] (.seq (.seq (.reg [Xb 20 (.asg (.i 0))]) (.keep [1, 5, 6, 7, 16, 17, 18, 20, 32, 34, 35, 86, 89, 90, 92, 95, 96] (.block 0 (.loop [1, 5, 6, 7, 16, 17, 18, 20, 32, 34, 35, 86, 89, 90, 92, 95, 96] (.seq (.seq (.reg [Xm 110 17, Xm 111 110, Xt 112 111 (.mov (.t 20)), Xt 113 111 (.mov (.t 18)), Xt 114 111 (.len false (.t 113)), Xt 115 111 (.bin false
 .lss (.t 112) (.t 114)), Xq 116 (.pick (.t 111) (.t 115) .fb)]) (.keep [1, 5, 6, 7, 16, 17, 18, 20, 32, 34, 35, 86, 89, 90, 92, 95, 96, 116] (.cond (.t 116) .skip (.exit 0)))) (.keep [1, 5, 6, 7, 16, 17, 18, 20, 32, 34, 35, 86, 89, 90, 92, 95, 96] (.seq (.block 1 (.seq (.dreg [Xm 119 16, Xm 120 20, Xi 121 3 119 120, XL 122 3 121, Xm 123 18, Xm 124 20, Xi 125 3 123 124, XL 126 3 125, Xq 127 (.eqa
 true [1, 0, 0] (.t 122) (.t 126))]) (.keep [1, 5, 6, 7, 16, 17, 18, 20, 32, 34, 35, 86, 89, 90, 92, 95, 96, 127] (.cond (.t 127) (.seq (.reg [Xb 4 (.asg .fb)]) .ret) .skip)))) (.keep [1, 5, 6, 7, 16, 17, 18, 20, 32, 34, 35, 86, 89, 90, 92, 95, 96] (.reg [Xm 117 20, Xq 118 (.bin false .add (.t 117) (.i 1)), Xa 20 118]))))))))) (.keep [1, 5, 6, 7, 32, 34, 35] (.seq (.reg [Xm 129 5, Xm 130 7, Xm 131
 6, Xb 132 (.call (.fn 19) false [.lend (.t 129), .lend (.t 130), .lend (.t 131)]), Xm 128 132, Xq 133 (.ext 128 0), Xq 134 (.ext 128 1), Xa 21 133, Xa 22 134]) (.keep [1, 21, 22] (.seq (.reg [Xm 135 22, Xq 136 (.un .not (.t 135)), Xm 137 136, Xu 138 137 (.mov (.t 21)), Xu 139 137 (.un .not (.t 138)), Xq 140 (.pick (.t 137) .tb (.t 139))]) (.keep [1, 140] (.cond (.t 140) (.seq (.reg [Xb 4 (.asg
 .fb)]) .ret) .skip))))))))))))))))))) .skip))) (.seq (.reg [Xm 142 1, Xb 143 (.call (.fn 20) true [.lend (.t 142)]), Xm 141 143, Xq 144 (.ext 141 0), Xq 145 (.ext 141 1), Xm 23 144, Xa 24 145]) (.keep [23, 24, 141, 143, 144] (.seq (.reg [Xm 147 23, Xm 148 24, Xb 149 (.call (.fn 18) false [.lend (.t 147), .lend (.t 148)]), Xa 146 149, Xq 150 (.ext 146 0), Xq 151 (.ext 146 1), Xa 25 150, Xa 26 151])
 (.keep [23, 24, 25, 26, 141, 143, 144, 146, 149, 150] (.seq (.reg [Xm 153 23, Xm 154 24, Xb 155 (.call (.fn 21) false [.lend (.t 153), .lend (.t 154)]), Xa 152 155, Xq 156 (.ext 152 0), Xq 157 (.ext 152 1), Xa 27 156, Xa 28 157]) (.keep [25, 26, 27, 28, 146, 149, 150, 152, 155, 156] (.seq (.reg [Xm 158 26, Xm 159 28, Xq 160 (.bin true .eql (.t 158) (.t 159)), Xm 161 160, Xt 162 161 (.mov (.t 25)),
 Xt 163 161 (.len false (.t 162)), Xt 164 161 (.mov (.t 27)), Xt 165 161 (.len false (.t 164)), Xt 166 161 (.bin false .eql (.t 163) (.t 165)), Xq 167 (.pick (.t 161) (.t 166) .fb), Xa 4 167]) .ret))))))))))))))))))))
end Go.AM
namespace Go.AM
set_option linter.unusedVariables false
set_option linter.unusedSimpArgs false
def m5 : MC :=
 (.seq (.reg [Xb 4 (.asg .fb)]) (.keep [0, 1] (.seq (.seq (.reg [Xm 26 0, Xm 27 1, Xb 28 (.call (.fn 13) false [.lend (.t 26), .lend (.t 27)])]) (.keep [0, 1, 28] (.cond (.t 28) (.seq (.reg [Xb 4 (.asg .tb)]) .ret) .skip))) (.keep [0, 1] (.seq (.reg [Xm 30 0, Xb 31 (.call (.fn 24) true [.lend (.t 30)]), Xa 29 31, Xq 32 (.ext 29 0), Xq 33 (.ext 29 1), Xq 34 (.ext 29 2), Xb 5 (.alloc 45 [.z, .s 9 1,
 .s 40 6, .s 52 6, .s 155 2]), Xz (.store 5 (.t 5) (.t 32)), Xa 6 33, Xa 7 34]) (.keep [1, 5, 6, 7, 29, 31, 34] (.seq (.reg [XL 36 5 5, Xm 37 6, Xm 38 7, Xb 39 (.call (.fn 25) false [.lend (.t 36), .lend (.t 37), .lend (.t 38)]), Xm 35 39, Xq 40 (.ext 35 0), Xq 41 (.ext 35 1), Xa 8 40, Xa 9 41]) (.keep [1, 5, 6, 7, 8, 9, 29, 31, 34] (.seq (.reg [XL 43 5 5, Xm 44 6, Xm 45 7, Xb 46 (.call (.fn 26)
 false [.lend (.t 43), .lend (.t 44), .lend (.t 45)]), Xm 42 46, Xq 47 (.ext 42 0), Xq 48 (.ext 42 1), Xa 10 47, Xa 11 48]) (.keep [1, 5, 6, 7, 8, 9, 10, 11, 29, 31, 34] (.seq (.seq (.reg [Xm 49 9, Xm 50 11, Xq 51 (.bin true .neq (.t 49) (.t 50)), Xm 52 51, Xu 53 52 (.mov (.t 8)), Xu 54 52 (.mov (.t 10)), Xu 55 52 (.bin true .neq (.t 53) (.t 54)), Xq 56 (.pick (.t 52) .tb (.t 55))]) (.keep [1, 5,
 6, 7, 8, 9, 29, 31, 34, 56] (.cond (.t 56) (.seq (.reg [Xb 4 (.asg .fb)]) .ret) .skip))) (.keep [1, 5, 6, 7, 8, 9, 29, 31, 34] (.join [1] (.seq (.reg [Xm 57 9, Xm 58 57, Xt 59 58 (.mov (.t 6)), Xt 60 58 (.bin false .geq (.t 59) (.i 0)), Xq 61 (.pick (.t 58) (.t 60) .fb), Xm 62 61, Xt 63 62 (.mov (.t 6)), Xt 64 62 (.fad 3 (.t 5)), Xt 65 62 (.load false 1 (.t 64)), Xt 66 62 (.len false (.t 65)), Xt
 67 62 (.bin false .lss (.t 63) (.t 66)), Xq 68 (.pick (.t 62) (.t 67) .fb)]) (.keep [1, 5, 6, 7, 8, 29, 31, 34, 68] (.cond (.t 68) (.seq (.reg [Xb 12 (.asg (.nils 3 1))]) (.keep [1, 5, 6, 7, 8, 12, 29, 31, 34, 84] (.seq (.seq (.reg [Xf 69 3 5, Xl 70 1 69, Xm 71 6, Xi 72 6 70 71, Xf 73 5 72, Xl 74 1 73, Xn 75 74, Xq 76 (.mov (.i 0))]) (.keep [1, 5, 6, 7, 8, 12, 29, 31, 34, 69, 70, 71, 72, 73, 74,
 75, 76, 84] (.block 0 (.loop [1, 5, 6, 7, 8, 12, 29, 31, 34, 69, 70, 71, 72, 73, 74, 75, 76, 84] (.seq (.reg [Xq 77 (.bin false .lss (.t 76) (.t 75))]) (.keep [1, 5, 6, 7, 8, 12, 29, 31, 34, 69, 70, 71, 72, 73, 74, 75, 76, 77, 84] (.seq (.cond (.t 77) .skip (.exit 0)) (.keep [1, 5, 6, 7, 8, 12, 29, 31, 34, 69, 70, 71, 72, 73, 74, 75, 76, 84] (.seq (.block 1 (.seq (.reg [Xi 78 3 74 76, XL 79 3 78,
 Xb 14 (.alloc 54 [.z, .b, .i]), Xz (.store 3 (.t 14) (.t 79))]) (.keep [1, 5, 6, 7, 8, 12, 14, 29, 31, 34, 69, 70, 71, 72, 73, 74, 75, 76, 84] (.reg [Xm 80 12, Xf 81 2 14, Xl 82 1 81, Xb 83 (.bsl 3 1 [.t 82]), Xb 84 (.app true 3 1 8 (.t 80) (.t 83)), Xa 12 84])))) (.keep [1, 5, 6, 7, 8, 12, 29, 31, 34, 69, 70, 71, 72, 73, 74, 75, 76, 84] (.reg [Xq 85 (.bin false .add (.t 76) (.i 1)), Xm 76
 85]))))))))))) (.keep [1, 5, 6, 7, 8, 12, 29, 31, 34, 84] (.seq (.reg [XL 87 5 5, Xm 88 6, Xm 89 12, Xb 90 (.call (.fn 25) false [.lend (.t 87), .lend (.t 88), .lend (.t 89)]), Xm 86 90, Xq 91 (.ext 86 0), Xq 92 (.ext 86 1), Xa 15 91, Xa 16 92]) (.keep [1, 5, 6, 7, 8, 12, 15, 16, 29, 31, 34, 84] (.seq (.seq (.reg [Xm 93 16, Xq 94 (.un .not (.t 93)), Xm 95 94, Xu 96 95 (.mov (.t 15)), Xu 97 95 (.un
 .not (.t 96)), Xq 98 (.pick (.t 95) .tb (.t 97)), Xm 99 98, Xu 100 99 (.mov (.t 8)), Xu 101 99 (.mov (.t 100)), Xt 102 101 (.mov (.t 7)), Xt 103 101 (.len false (.t 102)), Xt 104 101 (.mov (.t 12)), Xt 105 101 (.len false (.t 104)), Xt 106 101 (.bin false .neq (.t 103) (.t 105)), Xu 107 99 (.pick (.t 101) (.t 106) .fb), Xq 108 (.pick (.t 99) .tb (.t 107))]) (.keep [1, 5, 6, 7, 8, 29, 31, 34, 108]
 (.cond (.t 108) (.seq (.reg [Xb 4 (.asg .fb)]) .ret) .skip))) (.keep [1, 5, 6, 7, 8, 29, 31, 34] (.seq (.reg [Xf 109 3 5, Xl 110 1 109, Xm 111 6, Xi 112 6 110 111, Xf 113 5 112, Xl 114 1 113, Xn 115 114, Xq 116 (.mov (.i 0))]) (.keep [1, 5, 7, 8, 29, 31, 34, 109, 110, 111, 112, 113, 114, 115, 116] (.block 2 (.loop [1, 5, 7, 8, 29, 31, 34, 109, 110, 111, 112, 113, 114, 115, 116] (.seq (.reg [Xq 117
 (.bin false .lss (.t 116) (.t 115))]) (.keep [1, 5, 7, 8, 29, 31, 34, 109, 110, 111, 112, 113, 114, 115, 116, 117] (.seq (.cond (.t 117) .skip (.exit 2)) (.keep [1, 5, 7, 8, 29, 31, 34, 109, 110, 111, 112, 113, 114, 115, 116] (.seq (.block 3 (.seq (.reg [Xm 118 116, Xi 119 3 114 116, XL 120 3 119, Xb 18 (.alloc 54 [.z, .b, .i]), Xa 17 118, Xz (.store 3 (.t 18) (.t 120))]) (.keep [1, 5, 7, 8, 17,
 18, 29, 31, 34, 109, 110, 111, 112, 113, 114, 115, 116] (.seq (.dreg [Xm 121 8, Xm 122 121, Xt 123 122 (.fad 1 (.t 18)), Xt 124 122 (.load false 1 (.t 123)), Xq 125 (.pick (.t 122) (.t 124) .fb), Xm 126 125, Xt 127 126 (.mov (.t 17)), Xt 128 126 (.mov (.t 7)), Xt 129 126 (.len false (.t 128)), Xt 130 126 (.bin false .lss (.t 127) (.t 129)), Xq 131 (.pick (.t 126) (.t 130) .fb), Xm 132 131, Xt 133
 132 (.mov (.t 7)), Xt 134 132 (.mov (.t 17)), Xt 135 132 (.iad 1 (.t 133) (.t 134)), Xt 136 132 (.load false 1 (.t 135)), Xt 137 132 (.fad 2 (.t 18)), Xt 138 132 (.load false 1 (.t 137)), Xt 139 132 (.bin false .neq (.t 136) (.t 138)), Xq 140 (.pick (.t 132) (.t 139) .fb)]) (.keep [1, 5, 7, 8, 29, 31, 34, 109, 110, 111, 112, 113, 114, 115, 116, 140] (.cond (.t 140) (.seq (.reg [Xb 4 (.asg .fb)])
 .ret) .skip)))))) (.keep [1, 5, 7, 8, 29, 31, 34, 109, 110, 111, 112, 113, 114, 115, 116] (.reg [Xq 141 (.bin false .add (.t 116) (.i 1)), Xm 116 141]))))))))))))))))))) .skip))) (.seq (.reg [Xm 143 1, Xb 144 (.call (.fn 22) true [.lend (.t 143)]), Xm 142 144, Xq 145 (.ext 142 0), Xq 146 (.ext 142 1), Xq 147 (.ext 142 2), Xm 19 145, Xa 20 146, Xa 21 147]) (.keep [19, 20, 21, 142, 144, 145] (.seq
 (.reg [Xm 149 19, Xm 150 20, Xm 151 21, Xb 152 (.call (.fn 19) false [.lend (.t 149), .lend (.t 150), .lend (.t 151)]), Xm 148 152, Xq 153 (.ext 148 0), Xq 154 (.ext 148 1), Xa 22 153, Xa 23 154]) (.keep [19, 20, 21, 22, 23, 142, 144, 145] (.seq (.reg [Xm 156 19, Xm 157 20, Xm 158 21, Xb 159 (.call (.fn 23) false [.lend (.t 156), .lend (.t 157), .lend (.t 158)]), Xm 155 159, Xq 160 (.ext 155 0),
 Xq 161 (.ext 155 1), Xa 24 160, Xa 25 161]) (.keep [22, 23, 24, 25] (.seq (.reg [Xm 162 23, Xm 163 25, Xq 164 (.bin true .eql (.t 162) (.t 163)), Xm 165 164, Xt 166 165 (.mov (.t 22)), Xt 167 165 (.mov (.t 24)), Xt 168 165 (.bin true .eql (.t 166) (.t 167)), Xq 169 (.pick (.t 165) (.t 168) .fb), Xa 4 169]) .ret))))))))))))))))))))
set_option maxHeartbeats 16000000 in
set_option maxRecDepth 100000 in
theorem d5 (code more : List Int) (hc : (code.length : Int) ≤ 9223372036854775807) (hm : (more.length : Int) ≤ 9223372036854775807) (hcb : ∀ b ∈ code, 0 ≤ b ∧ b ≤ 255) (hmb : ∀ b ∈ more, 0 ≤ b ∧ b ≤ 255) :
    Does Go.Proofs.Tryz.prog 5 [.fsl 1 (code.map bv), .fsl 1 (more.map bv)] false (.v (.bool true)) [.dead, .dead] := by
  have bs : ∀ b : Bool, (b != b) = false := fun b => by cases b <;> rfl
  have be : ∀ b : Bool, (b == b) = true := fun b => by cases b <;> rfl
  refine does_intro (mc := m5) (N := 170) (rs := [4]) (fx := []) 2 rfl (by decide +kernel) ?_
  simp only [m5, EV, Nat.reduceEqDiff, Nat.reduceBEq, Nat.reduceLT, Nat.reduceLeDiff, Nat.reduceAdd, Nat.reduceSub, reduceIte]
  refine callK_i (d13 code more hc hm) ?_
  simp only [EV, Nat.reduceEqDiff, Nat.reduceBEq, Nat.reduceLT, Nat.reduceLeDiff, Nat.reduceAdd, Nat.reduceSub, reduceIte]
  refine cK_cut (fun h => ?_) (fun h => ?_)
  · simp only [EV, Nat.reduceEqDiff, Nat.reduceBEq, Nat.reduceLT, Nat.reduceLeDiff, Nat.reduceAdd, Nat.reduceSub, reduceIte]
    simp only [EV, Nat.reduceEqDiff, Nat.reduceBEq, Nat.reduceLT, Nat.reduceLeDiff, Nat.reduceAdd, Nat.reduceSub, reduceIte, evRE, retVC, cellV', evR, nfz, nfzs, nfzss, List.contains_nil, List.contains_cons, Bool.or_false, or_true]
  have h1 : (code.length : Int) ≤ 1048576 ∧ (more.length : Int) ≤ 1048576 := by
    simp only [Bool.or_eq_false_iff, decide_eq_false_iff_not] at h
    omega
  clear h
  simp only [EV, Nat.reduceEqDiff, Nat.reduceBEq, Nat.reduceLT, Nat.reduceLeDiff, Nat.reduceAdd, Nat.reduceSub, reduceIte]
  refine callE_i (p24 code h1.1 hcb) (fun r o h => ⟨h.2, h.1⟩) ?_
  rintro _ ⟨s, n, ks, rfl, hS, hk3⟩
  have dI := d25 s n ks hS.sm (by omega)
  have dS := d26 s n ks hS.sm (by omega)
  simp only [Scope.z] at dI dS
  simp only [Scope.z, pbeq, iv_frz, EV, Nat.reduceEqDiff, Nat.reduceBEq, Nat.reduceLT, Nat.reduceLeDiff, Nat.reduceAdd, Nat.reduceSub, reduceIte]
  refine callK_i dI ?_
  simp only [pbeq, iv_frz, EV, Nat.reduceEqDiff, Nat.reduceBEq, Nat.reduceLT, Nat.reduceLeDiff, Nat.reduceAdd, Nat.reduceSub, reduceIte]
  refine callK_i dS ?_
  simp only [bs, pbeq, iv_frz, EV, Nat.reduceEqDiff, Nat.reduceBEq, Nat.reduceLT, Nat.reduceLeDiff, Nat.reduceAdd, Nat.reduceSub, reduceIte]
  refine awp_join (fun _ : Unit => True) (fun _ => stl [(1, .fsl 1 (more.map bv))]) ?_ ?_
  · simp only [EV, Nat.reduceEqDiff, Nat.reduceBEq, Nat.reduceLT, Nat.reduceLeDiff, Nat.reduceAdd, Nat.reduceSub, reduceIte]
    rcases e : mcOk s n ks with _ | _
    · simp only [Bool.false_and, EV, Nat.reduceEqDiff, Nat.reduceBEq, Nat.reduceLT, Nat.reduceLeDiff, Nat.reduceAdd, Nat.reduceSub, reduceIte]
      exact ⟨(), trivial⟩
    have e' := e
    simp only [mcOk, Bool.and_eq_true, decide_eq_true_eq] at e'
    obtain ⟨hsc, ⟨n0, n9⟩, hkd, hk4, hkn⟩ := e'
    have n2 : n < (s.objects.length : Int) := by omega
    have n1 : n.toNat < s.objects.length := by omega
    have f0 : decide (0 ≤ n) = true := by simpa using n0
    have f1 : decide (n < (s.objects.length : Int)) = true := by simpa using n2
    simp only [f0, f1, Bool.true_and, EV, Nat.reduceEqDiff, Nat.reduceBEq, Nat.reduceLT, Nat.reduceLeDiff, Nat.reduceAdd, Nat.reduceSub, reduceIte]
    simp only [n0, n2, n1, nth_map n1, Ob.z, EV, Nat.reduceEqDiff, Nat.reduceBEq, Nat.reduceLT, Nat.reduceLeDiff, Nat.reduceAdd, Nat.reduceSub, reduceIte]
    have P := scOk_iff.1 hsc
    have hob := P.obs n.toNat n1 n1
    simp only [obOk, Bool.and_eq_true] at hob
    have hpn := pars_num hob.2.1
    obtain ⟨s1, s2, s3, s4, s5⟩ := id hS
    have hpl := (s4.2 _ (List.getElem_mem n1)).2.1
    have hps : psAt s n = s.objects[n.toNat].params := by simp [psAt, n1]
    rw [hps]
    have hown : mcOk s n (s.objects[n.toNat].params.map Par.typ) = true := by
      have q1 : decide (n ≤ (s.objects.length : Int) - 1) = true := by simp; omega
      have q2 : decide (4 < ((s.objects[n.toNat].params.map Par.typ).length : Int)) = false := by simp; omega
      have q3 : ((s.objects[n.toNat].params.map Par.typ).any fun k => !isNum s.types k) = false := by
        rw [List.any_eq_false]
        intro k hk
        obtain ⟨p, hp, rfl⟩ := List.mem_map.1 hk
        simp [hpn p hp]
      simp only [mcOk, hsc, f0, q1, hkd, q2, q3, Bool.and_self, Bool.not_false]
    have dO := d25 s n (s.objects[n.toNat].params.map Par.typ) hS.sm (by simp; omega)
    rw [hown, hps, fit_self] at dO
    have hfv : ∀ (h : fitL s.types s.objects[n.toNat].params ks = true), ks.length = s.objects[n.toNat].params.length ∧ ∀ i (h : i < s.objects[n.toNat].params.length) (g : i < ks.length), s.objects[n.toNat].params[i].byvar = true → ks[i] = s.objects[n.toNat].params[i].typ := fun h => fit_var h
    generalize hft : fitL s.types s.objects[n.toNat].params ks = ft at hfv ⊢
    clear dI dS hob hpn hown hft
    simp only [Bool.and_self, Scope.z] at dO
    generalize hps2 : s.objects[n.toNat].params = ps at hfv hpl dO ⊢
    have hps3 := hps2
    clear hps hps2
    refine awp_loop (fun p : List Int => p.length ≤ ps.length ∧ p = (ps.map Par.typ).take p.length) (fun p => stl [(1, .fsl 1 (more.map bv)), (5, .box 45 s.z), (6, .v (.int .i64 n)), (7, .usl 3 1 (ks.map iv)), (8, .v (.bool ft)), (12, .usl 3 1 (p.map iv)), (29, .tup [.agg s.z, .v (.int .i64 n), .dead]), (31, .dead), (34, .dead), (69, .ref 5 [] 0 3), (70, .fsl 6 (s.objects.map Ob.z)), (71, .v (.int .i64 n)), (72, .fptr [.v (.string s.objects[n.toNat].name), .v (.int .i64 s.objects[n.toNat].kind), .v (.int .i64 s.objects[n.toNat].mark), .v (.int .i64 s.objects[n.toNat].typ), .v (.int .i64 s.objects[n.toNat].value), .fsl 3 (ps.map Par.z)]), (73, .fptr [.fsl 3 (ps.map Par.z)]), (74, .fsl 3 (ps.map Par.z)), (75, .v (.int .i64 (ps.length : Int))), (76, .v (.int .i64 (p.length : Int))), (84, .dead)]) (fun p => ps.length - p.length) [] ⟨Nat.zero_le _, rfl⟩ ?_ ?_
    · simp only [Scope.z, EV, Nat.reduceEqDiff, Nat.reduceBEq, Nat.reduceLT, Nat.reduceLeDiff, Nat.reduceAdd, Nat.reduceSub, reduceIte]
      rfl
    · rintro own ⟨g1, g2⟩
      simp only [Scope.z, EV, Nat.reduceEqDiff, Nat.reduceBEq, Nat.reduceLT, Nat.reduceLeDiff, Nat.reduceAdd, Nat.reduceSub, reduceIte]
      refine cK_cut (fun h => ?_) (fun h => ?_)
      · have hk1 : own.length < ps.length := by have : (own.length : Int) < (ps.length : Int) := by simpa using h
                                                omega
        have hk2 : (own.length : Int) < (ps.length : Int) := by omega
        clear h
        have wk := w64 ((own.length : Int) + 1) (by omega)
        simp only [hk1, hk2, nth_map hk1, Par.z, wk, EV, Nat.reduceEqDiff, Nat.reduceBEq, Nat.reduceLT, Nat.reduceLeDiff, Nat.reduceAdd, Nat.reduceSub, reduceIte]
        refine ⟨by omega, by omega, own ++ [ps[own.length].typ], ⟨by simp; omega, ?_⟩, by simp; omega, ?_⟩
        · rw [List.length_append, List.length_singleton, List.take_succ_eq_append_getElem (by simp; exact hk1), ← g2]
          simp
        · simp only [List.map_append, List.length_append, List.length_singleton, List.map_cons, List.map_nil, iv, Int.natCast_add]
          rfl
      · have hk1 : own.length = ps.length := by have : ¬ (own.length : Int) < (ps.length : Int) := by simpa using h
                                                omega
        have hown : own = ps.map Par.typ := by
          rw [g2, hk1, ← List.length_map (f := Par.typ), List.take_length]
        rw [← hown] at dO
        clear h g1 g2 hown
        simp only [iv_frz, EV, Nat.reduceEqDiff, Nat.reduceBEq, Nat.reduceLT, Nat.reduceLeDiff, Nat.reduceAdd, Nat.reduceSub, reduceIte]
        refine callK_i dO ?_
        simp only [pbeq, iv_frz, Bool.not_true, EV, Nat.reduceEqDiff, Nat.reduceBEq, Nat.reduceLT, Nat.reduceLeDiff, Nat.reduceAdd, Nat.reduceSub, reduceIte]
        rcases ft with _ | _
        · simp only [n0, n2, n1, nth_map n1, Ob.z, EV, Nat.reduceEqDiff, Nat.reduceBEq, Nat.reduceLT, Nat.reduceLeDiff, Nat.reduceAdd, Nat.reduceSub, reduceIte]
          refine awp_loop (fun i : Nat => i ≤ ps.length) (fun i => stl [(1, .fsl 1 (more.map bv)), (5, .box 45 s.z), (7, .usl 3 1 (ks.map iv)), (8, .v (.bool false)), (29, .tup [.agg s.z, .v (.int .i64 n), .dead]), (31, .dead), (34, .dead), (109, .ref 5 [] 0 3), (110, .fsl 6 (s.objects.map Ob.z)), (111, .v (.int .i64 n)), (112, .fptr [.v (.string s.objects[n.toNat].name), .v (.int .i64 s.objects[n.toNat].kind), .v (.int .i64 s.objects[n.toNat].mark), .v (.int .i64 s.objects[n.toNat].typ), .v (.int .i64 s.objects[n.toNat].value), .fsl 3 (ps.map Par.z)]), (113, .fptr [.fsl 3 (ps.map Par.z)]), (114, .fsl 3 (ps.map Par.z)), (115, .v (.int .i64 (ps.length : Int))), (116, .v (.int .i64 (i : Int)))]) (fun i => ps.length - i) 0 (Nat.zero_le _) ?_ ?_
          · simp only [Scope.z, hps3, EV, Nat.reduceEqDiff, Nat.reduceBEq, Nat.reduceLT, Nat.reduceLeDiff, Nat.reduceAdd, Nat.reduceSub, reduceIte]
            rfl
          · intro i hi
            simp only [Scope.z, EV, Nat.reduceEqDiff, Nat.reduceBEq, Nat.reduceLT, Nat.reduceLeDiff, Nat.reduceAdd, Nat.reduceSub, reduceIte]
            refine cK_cut (fun h => ?_) (fun h => ?_)
            · have hi1 : i < ps.length := by have : (i : Int) < (ps.length : Int) := by simpa using h
                                             omega
              have hi2 : (i : Int) < (ps.length : Int) := by omega
              clear h
              have wi := w64 ((i : Int) + 1) (by omega)
              simp only [hi1, hi2, nth_map hi1, Par.z, wi, EV, Nat.reduceEqDiff, Nat.reduceBEq, Nat.reduceLT, Nat.reduceLeDiff, Nat.reduceAdd, Nat.reduceSub, reduceIte]
              exact ⟨i + 1, by omega, by omega, rfl⟩
            · simp only [EV, Nat.reduceEqDiff, Nat.reduceBEq, Nat.reduceLT, Nat.reduceLeDiff, Nat.reduceAdd, Nat.reduceSub, reduceIte]
              exact ⟨(), trivial⟩
        · obtain ⟨fl, fv⟩ := hfv rfl
          have hne : ((ks.length : Int) != (own.length : Int)) = false := by simp; omega
          simp only [hne, EV, Nat.reduceEqDiff, Nat.reduceBEq, Nat.reduceLT, Nat.reduceLeDiff, Nat.reduceAdd, Nat.reduceSub, reduceIte]
          simp only [n0, n2, n1, nth_map n1, Ob.z, EV, Nat.reduceEqDiff, Nat.reduceBEq, Nat.reduceLT, Nat.reduceLeDiff, Nat.reduceAdd, Nat.reduceSub, reduceIte]
          refine awp_loop (fun i : Nat => i ≤ ps.length) (fun i => stl [(1, .fsl 1 (more.map bv)), (5, .box 45 s.z), (7, .usl 3 1 (ks.map iv)), (8, .v (.bool true)), (29, .tup [.agg s.z, .v (.int .i64 n), .dead]), (31, .dead), (34, .dead), (109, .ref 5 [] 0 3), (110, .fsl 6 (s.objects.map Ob.z)), (111, .v (.int .i64 n)), (112, .fptr [.v (.string s.objects[n.toNat].name), .v (.int .i64 s.objects[n.toNat].kind), .v (.int .i64 s.objects[n.toNat].mark), .v (.int .i64 s.objects[n.toNat].typ), .v (.int .i64 s.objects[n.toNat].value), .fsl 3 (ps.map Par.z)]), (113, .fptr [.fsl 3 (ps.map Par.z)]), (114, .fsl 3 (ps.map Par.z)), (115, .v (.int .i64 (ps.length : Int))), (116, .v (.int .i64 (i : Int)))]) (fun i => ps.length - i) 0 (Nat.zero_le _) ?_ ?_
          · simp only [Scope.z, hps3, EV, Nat.reduceEqDiff, Nat.reduceBEq, Nat.reduceLT, Nat.reduceLeDiff, Nat.reduceAdd, Nat.reduceSub, reduceIte]
            rfl
          · intro i hi
            simp only [Scope.z, EV, Nat.reduceEqDiff, Nat.reduceBEq, Nat.reduceLT, Nat.reduceLeDiff, Nat.reduceAdd, Nat.reduceSub, reduceIte]
            refine cK_cut (fun h => ?_) (fun h => ?_)
            · have hi1 : i < ps.length := by have : (i : Int) < (ps.length : Int) := by simpa using h
                                             omega
              have hi2 : (i : Int) < (ps.length : Int) := by omega
              clear h
              have wi := w64 ((i : Int) + 1) (by omega)
              simp only [hi1, hi2, nth_map hi1, Par.z, wi, EV, Nat.reduceEqDiff, Nat.reduceBEq, Nat.reduceLT, Nat.reduceLeDiff, Nat.reduceAdd, Nat.reduceSub, reduceIte]
              rcases ev : ps[i].byvar with _ | _
              · simp only [wi, EV, Nat.reduceEqDiff, Nat.reduceBEq, Nat.reduceLT, Nat.reduceLeDiff, Nat.reduceAdd, Nat.reduceSub, reduceIte]
                exact ⟨i + 1, by omega, by omega, rfl⟩
              · have k1 : i < ks.length := by omega
                have k2 : (i : Int) < (ks.length : Int) := by omega
                have k3 : decide ((i : Int) < (ks.length : Int)) = true := by simpa using k2
                have k4 := fv i hi1 k1 ev
                have k5 : (ks[i] != ps[i].typ) = false := by simp [k4]
                simp only [k3, EV, Nat.reduceEqDiff, Nat.reduceBEq, Nat.reduceLT, Nat.reduceLeDiff, Nat.reduceAdd, Nat.reduceSub, reduceIte]
                simp only [k1, k2, nth_map k1, iv, k5, wi, EV, Nat.reduceEqDiff, Nat.reduceBEq, Nat.reduceLT, Nat.reduceLeDiff, Nat.reduceAdd, Nat.reduceSub, reduceIte]
                exact ⟨i + 1, by omega, by omega, rfl⟩
            · simp only [EV, Nat.reduceEqDiff, Nat.reduceBEq, Nat.reduceLT, Nat.reduceLeDiff, Nat.reduceAdd, Nat.reduceSub, reduceIte]
              exact ⟨(), trivial⟩
  rintro _ _
  simp only [EV, Nat.reduceEqDiff, Nat.reduceBEq, Nat.reduceLT, Nat.reduceLeDiff, Nat.reduceAdd, Nat.reduceSub, reduceIte]
  refine callE_i (p22 more h1.2 hmb) (fun r o h => ⟨h.2, h.1⟩) ?_
  rintro _ ⟨l, a, b, rfl, l9, hd⟩
  have hl : (l.length : Int) ≤ 1048576 := by omega
  have hs : ∀ t ∈ l, t.sm := fun t ht => (hd t ht).sm
  have d1 := d19 l a b hl hs
  have d2 := d23 l a b hl hs
  generalize (numsOk l a b && mayL l a b) = r1 at d1 d2
  generalize numsOk l a b = r2 at d1 d2
  simp only [pbeq, EV, Nat.reduceEqDiff, Nat.reduceBEq, Nat.reduceLT, Nat.reduceLeDiff, Nat.reduceAdd, Nat.reduceSub, reduceIte]
  refine callK_i d1 ?_
  simp only [pbeq, EV, Nat.reduceEqDiff, Nat.reduceBEq, Nat.reduceLT, Nat.reduceLeDiff, Nat.reduceAdd, Nat.reduceSub, reduceIte]
  refine callK_i d2 ?_
  simp only [be, pbeq, EV, Nat.reduceEqDiff, Nat.reduceBEq, Nat.reduceLT, Nat.reduceLeDiff, Nat.reduceAdd, Nat.reduceSub, reduceIte]
  simp only [EV, Nat.reduceEqDiff, Nat.reduceBEq, Nat.reduceLT, Nat.reduceLeDiff, Nat.reduceAdd, Nat.reduceSub, reduceIte, evRE, retVC, cellV', evR, nfz, nfzs, nfzss, List.contains_nil, List.contains_cons, Bool.or_false, or_true]
end Go.AM
