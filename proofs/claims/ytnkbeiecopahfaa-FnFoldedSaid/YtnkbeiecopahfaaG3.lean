/- Contracts of functions of the given program, for the law FnFolded: what they return and what they write, under the bounds that each theorem states. -/
import Derived.Test.YtnkbeiecopahfaaG2
namespace Go.AM
set_option linter.unusedVariables false
set_option linter.unusedSimpArgs false
theorem foldL_ok {K : List Known} {e : List Step} (he : e.length ≤ 301) (hs : ∀ s ∈ e, s.ok) : (foldL K e).length ≤ 301 ∧ ∀ s ∈ foldL K e, s.ok := by
  have hw := whole_iff.1 (evalOf_ok K e).2
  unfold foldL
  split
  · exact ⟨by simp, by simp⟩
  split
  · exact ⟨he, hs⟩
  split
  · refine ⟨by simp, fun s h => ?_⟩
    simp only [List.mem_cons, List.not_mem_nil, or_false] at h
    rcases h with rfl | rfl
    · exact step_ok (by decide) (by decide) (by omega) (by omega) emp_le emp_le
    · exact step_ok (by decide) (by decide) (by decide) (by decide) emp_le emp_le
  · refine ⟨by simp, fun s h => ?_⟩
    simp only [List.mem_cons, List.not_mem_nil, or_false] at h
    rw [h]
    exact step_ok (by decide) (by decide) (by omega) (by omega) emp_le emp_le
theorem eval_eq (b : Bool) (x y : Int) : (if b = true then [AV.v (.int .i64 x), .v (.int .i64 y), .v (.bool true)] else [.v (.int .i64 0), .v (.int .i64 0), .v (.bool false)]) = [AV.v (.int .i64 (if b = true then x else 0)), .v (.int .i64 (if b = true then y else 0)), .v (.bool b)] := by
  cases b <;> rfl
def m5 : MC :=
 (.seq (.reg [Xb 4 (.asg .fb)]) (.seq (.reg [Xm 5 0, Xn 6 5, Xq 7 (.bin false .gtr (.t 6) (.i 1048576)), Xm 8 7, Xu 9 8 (.mov (.t 1)), Xu 10 8 (.len false (.t 9)), Xu 11 8 (.mov (.t 0)), Xu 12 8 (.len false (.t 11)), Xu 13 8 (.bin false .sub (.i 1048576) (.t 12)), Xu 14 8 (.bin false .gtr (.t 10) (.t 13)), Xq 15 (.pick (.t 8) .tb (.t 14)), Xa 4 15]) .ret))
theorem d5 (a b : List Int) (ha : (a.length : Int) ≤ 9223372036854775807) (hb : (b.length : Int) ≤ 9223372036854775807) : Does Go.Proofs.Try.prog 5 [.fsl 1 (a.map bv), .fsl 1 (b.map bv)] false (.v (.bool (decide (1048576 < (a.length : Int)) || decide (1048576 - (a.length : Int) < (b.length : Int))))) [.dead, .dead] := by
  refine does_intro (mc := m5) (N := 16) (rs := [4]) (fx := []) 2 rfl (by decide +kernel) ?_
  simp only [m5, EV, Nat.reduceEqDiff, Nat.reduceBEq, Nat.reduceLT, Nat.reduceLeDiff, Nat.reduceAdd, Nat.reduceSub, reduceIte]
  rcases e : decide (1048576 < (a.length : Int)) with _ | _
  · have h : ¬ 1048576 < (a.length : Int) := by simpa using e
    have w := w64 (1048576 - (a.length : Int)) (by omega)
    simp only [w, EV, Nat.reduceEqDiff, Nat.reduceBEq, Nat.reduceLT, Nat.reduceLeDiff, Nat.reduceAdd, Nat.reduceSub, reduceIte]
    simp only [Bool.false_or, EV, Nat.reduceEqDiff, Nat.reduceBEq, Nat.reduceLT, Nat.reduceLeDiff, Nat.reduceAdd, Nat.reduceSub, reduceIte, evRE, retVC, cellV', evR, nfz, nfzs, nfzss, List.contains_nil, List.contains_cons, Bool.or_false, or_true]
  · simp only [EV, Nat.reduceEqDiff, Nat.reduceBEq, Nat.reduceLT, Nat.reduceLeDiff, Nat.reduceAdd, Nat.reduceSub, reduceIte]
    simp only [Bool.true_or, EV, Nat.reduceEqDiff, Nat.reduceBEq, Nat.reduceLT, Nat.reduceLeDiff, Nat.reduceAdd, Nat.reduceSub, reduceIte, evRE, retVC, cellV', evR, nfz, nfzs, nfzss, List.contains_nil, List.contains_cons, Bool.or_false, or_true]
def m4 : MC :=
 (.seq (.reg [Xb 4 (.asg .fb)]) (.keep [0, 1] (.seq (.seq (.reg [Xm 27 0, Xm 28 1, Xb 29 (.call (.fn 5) false [.lend (.t 27), .lend (.t 28)])]) (.keep [0, 1, 29] (.cond (.t 29) (.seq (.reg [Xb 4 (.asg .tb)]) .ret) .skip))) (.keep [0, 1] (.seq (.reg [Xm 31 0, Xb 32 (.call (.fn 12) true [.lend (.t 31)]), Xa 30 32, Xq 33 (.ext 30 0), Xq 34 (.ext 30 1), Xa 5 33, Xa 6 34]) (.keep [1, 5, 6, 30, 32, 33,
 34] (.seq (.reg [Xm 36 5, Xm 37 6, Xb 38 (.call (.fn 13) false [.lend (.t 36), .lend (.t 37)]), Xa 35 38, Xq 39 (.ext 35 0), Xq 40 (.ext 35 1), Xa 7 39, Xa 8 40]) (.keep [1, 5, 6, 7, 8, 30, 32, 33, 34, 35, 38, 39] (.seq (.reg [Xm 42 5, Xm 43 6, Xb 44 (.call (.fn 14) false [.lend (.t 42), .lend (.t 43)]), Xa 41 44, Xq 45 (.ext 41 0), Xq 46 (.ext 41 1), Xa 9 45, Xa 10 46]) (.keep [1, 5, 6, 7, 8, 9,
 10, 30, 32, 33, 34, 35, 38, 39, 41, 44, 45] (.seq (.seq (.reg [Xm 47 8, Xm 48 10, Xq 49 (.bin true .neq (.t 47) (.t 48)), Xm 50 49, Xu 51 50 (.mov (.t 7)), Xu 52 50 (.mov (.t 9)), XU 53 50 (.call (.fn 15) false [.lend (.t 51), .lend (.t 52)]), Xu 54 50 (.un .not (.t 53)), Xq 55 (.pick (.t 50) .tb (.t 54))]) (.keep [1, 5, 6, 7, 8, 30, 32, 33, 34, 35, 38, 39, 55] (.cond (.t 55) (.seq (.reg [Xb 4
 (.asg .fb)]) .ret) .skip))) (.keep [1, 5, 6, 7, 8, 30, 32, 33, 34, 35, 38, 39] (.join [1] (.seq (.reg [Xm 56 8]) (.keep [1, 5, 6, 7, 30, 32, 33, 34, 35, 38, 39, 56] (.cond (.t 56) (.seq (.reg [Xm 58 5, Xm 59 6, Xb 60 (.call (.fn 7) false [.lend (.t 58), .lend (.t 59)]), Xm 57 60, Xq 61 (.ext 57 0), Xq 62 (.ext 57 1), Xq 63 (.ext 57 2), Xa 11 61, Xa 12 62, Xa 13 63]) (.keep [1, 6, 7, 11, 12, 13,
 30, 32, 34, 35, 38, 39] (.seq (.reg [Xm 65 7, Xb 66 (.call (.fn 7) false [.lend (.t 65), .lend (.nils 34 3)]), Xm 64 66, Xq 67 (.ext 64 0), Xq 68 (.ext 64 1), Xq 69 (.ext 64 2), Xa 14 67, Xa 15 68, Xa 16 69]) (.keep [1, 6, 7, 11, 12, 13, 14, 15, 16, 30, 32, 34, 35, 38, 39] (.seq (.reg [Xm 71 7, Xm 72 6, Xb 73 (.call (.fn 13) false [.lend (.t 71), .lend (.t 72)]), Xa 70 73, Xq 74 (.ext 70 0), Xq 75
 (.ext 70 1), Xa 17 74, Xa 18 75]) (.keep [1, 7, 11, 12, 13, 14, 15, 16, 17, 18, 35, 38, 39, 70, 73, 74] (.seq (.reg [Xm 76 7, Xb 77 (.call (.fn 16) false [.lend (.t 76)]), Xq 78 (.un .not (.t 77)), Xm 79 78, Xu 80 79 (.mov (.t 13)), Xu 81 79 (.un .not (.t 80)), Xq 82 (.pick (.t 79) .tb (.t 81)), Xm 83 82, Xu 84 83 (.mov (.t 16)), Xu 85 83 (.un .not (.t 84)), Xq 86 (.pick (.t 83) .tb (.t 85)), Xm
 87 86, Xu 88 87 (.mov (.t 12)), Xu 89 87 (.bin false .eql (.t 88) (.i 0)), Xu 90 87 (.mov (.t 89)), Xt 91 90 (.mov (.t 15)), Xt 92 90 (.bin false .neq (.t 91) (.i 0)), Xt 93 90 (.mov (.t 92)), Xu 94 93 (.mov (.t 11)), Xu 95 93 (.mov (.t 14)), Xu 96 93 (.bin false .neq (.t 94) (.t 95)), Xt 97 90 (.pick (.t 93) .tb (.t 96)), Xt 98 90 (.mov (.t 97)), Xu 99 98 (.mov (.t 7)), Xu 100 98 (.len false (.t
 99)), Xu 101 98 (.bin false .gtr (.t 100) (.i 2)), Xt 102 90 (.pick (.t 98) .tb (.t 101)), Xu 103 87 (.pick (.t 90) (.t 102) .fb), Xq 104 (.pick (.t 87) .tb (.t 103)), Xm 105 104, Xu 106 105 (.mov (.t 18)), Xu 107 105 (.un .not (.t 106)), Xq 108 (.pick (.t 105) .tb (.t 107)), Xm 109 108, Xu 110 109 (.mov (.t 17)), Xu 111 109 (.mov (.t 7)), XU 112 109 (.call (.fn 15) false [.lend (.t 110), .lend
 (.t 111)]), Xu 113 109 (.un .not (.t 112)), Xq 114 (.pick (.t 109) .tb (.t 113))]) (.keep [1, 114] (.cond (.t 114) (.seq (.reg [Xb 4 (.asg .fb)]) .ret) .skip))))))))) .skip))) (.seq (.reg [Xm 116 1, Xb 117 (.call (.fn 6) true [.lend (.t 116)]), Xa 115 117, Xq 118 (.ext 115 0), Xq 119 (.ext 115 1), Xa 19 118, Xa 20 119]) (.keep [19, 20, 115, 117, 118, 119] (.seq (.reg [Xm 121 19, Xm 122 20, Xb 123
 (.call (.fn 7) false [.lend (.t 121), .lend (.t 122)]), Xm 120 123, Xq 124 (.ext 120 0), Xq 125 (.ext 120 1), Xq 126 (.ext 120 2), Xa 21 124, Xa 22 125, Xa 23 126]) (.keep [19, 20, 21, 22, 23, 115, 117, 118, 119] (.seq (.reg [Xm 128 19, Xm 129 20, Xb 130 (.call (.fn 8) false [.lend (.t 128), .lend (.t 129)]), Xm 127 130, Xq 131 (.ext 127 0), Xq 132 (.ext 127 1), Xq 133 (.ext 127 2), Xa 24 131, Xa
 25 132, Xa 26 133]) (.keep [21, 22, 23, 24, 25, 26] (.seq (.reg [Xm 134 23, Xm 135 26, Xq 136 (.bin true .eql (.t 134) (.t 135)), Xm 137 136, Xt 138 137 (.mov (.t 21)), Xt 139 137 (.mov (.t 24)), Xt 140 137 (.bin false .eql (.t 138) (.t 139)), Xq 141 (.pick (.t 137) (.t 140) .fb), Xm 142 141, Xt 143 142 (.mov (.t 22)), Xt 144 142 (.mov (.t 25)), Xt 145 142 (.bin false .eql (.t 143) (.t 144)), Xq
 146 (.pick (.t 142) (.t 145) .fb), Xa 4 146]) .ret))))))))))))))))))))
set_option maxHeartbeats 8000000 in
set_option maxRecDepth 100000 in
theorem d4 (code more : List Int) (hc : (code.length : Int) ≤ 9223372036854775807) (hm : (more.length : Int) ≤ 9223372036854775807) (hcb : ∀ b ∈ code, 0 ≤ b ∧ b ≤ 255) (hmb : ∀ b ∈ more, 0 ≤ b ∧ b ≤ 255) :
    Does Go.Proofs.Try.prog 4 [.fsl 1 (code.map bv), .fsl 1 (more.map bv)] false (.v (.bool true)) [.dead, .dead] := by
  have bs : ∀ b : Bool, (b != b) = false := fun b => by cases b <;> rfl
  have be : ∀ b : Bool, (b == b) = true := fun b => by cases b <;> rfl
  refine does_intro (mc := m4) (N := 147) (rs := [4]) (fx := []) 2 rfl (by decide +kernel) ?_
  simp only [m4, EV, Nat.reduceEqDiff, Nat.reduceBEq, Nat.reduceLT, Nat.reduceLeDiff, Nat.reduceAdd, Nat.reduceSub, reduceIte]
  refine callK_i (d5 code more hc hm) ?_
  simp only [EV, Nat.reduceEqDiff, Nat.reduceBEq, Nat.reduceLT, Nat.reduceLeDiff, Nat.reduceAdd, Nat.reduceSub, reduceIte]
  refine cK_cut (fun h => ?_) (fun h => ?_)
  · simp only [EV, Nat.reduceEqDiff, Nat.reduceBEq, Nat.reduceLT, Nat.reduceLeDiff, Nat.reduceAdd, Nat.reduceSub, reduceIte]
    simp only [EV, Nat.reduceEqDiff, Nat.reduceBEq, Nat.reduceLT, Nat.reduceLeDiff, Nat.reduceAdd, Nat.reduceSub, reduceIte, evRE, retVC, cellV', evR, nfz, nfzs, nfzss, List.contains_nil, List.contains_cons, Bool.or_false, or_true]
  have h1 : (code.length : Int) ≤ 1048576 ∧ (more.length : Int) ≤ 1048576 := by
    simp only [Bool.or_eq_false_iff, decide_eq_false_iff_not] at h
    omega
  clear h
  simp only [EV, Nat.reduceEqDiff, Nat.reduceBEq, Nat.reduceLT, Nat.reduceLeDiff, Nat.reduceAdd, Nat.reduceSub, reduceIte]
  refine callE_i (p12 code h1.1 hcb) (fun r o h => ⟨h.2, h.1⟩) ?_
  rintro _ ⟨e, K, rfl, ⟨he, hs⟩, hK⟩
  have dI := d13 e K (by omega) hs (by omega)
  have dS := d14 e K (by omega) hs (by omega)
  obtain ⟨fl, fo⟩ := foldL_ok (K := K) he hs
  have dT := d15 (foldL K e) (by omega)
  simp only [Step.frz, Known.frz, pbeq, EV, Nat.reduceEqDiff, Nat.reduceBEq, Nat.reduceLT, Nat.reduceLeDiff, Nat.reduceAdd, Nat.reduceSub, reduceIte]
  refine callK_i dI ?_
  simp only [Step.frz, Known.frz, pbeq, EV, Nat.reduceEqDiff, Nat.reduceBEq, Nat.reduceLT, Nat.reduceLeDiff, Nat.reduceAdd, Nat.reduceSub, reduceIte]
  refine callK_i dS ?_
  simp only [bs, Step.frz, Known.frz, pbeq, EV, Nat.reduceEqDiff, Nat.reduceBEq, Nat.reduceLT, Nat.reduceLeDiff, Nat.reduceAdd, Nat.reduceSub, reduceIte]
  refine callK_i dT ?_
  simp only [Bool.not_true, pbeq, EV, Nat.reduceEqDiff, Nat.reduceBEq, Nat.reduceLT, Nat.reduceLeDiff, Nat.reduceAdd, Nat.reduceSub, reduceIte]
  refine awp_join (fun _ : Unit => True) (fun _ => stl [(1, .fsl 1 (more.map bv))]) ?_ ?_
  · simp only [EV, Nat.reduceEqDiff, Nat.reduceBEq, Nat.reduceLT, Nat.reduceLeDiff, Nat.reduceAdd, Nat.reduceSub, reduceIte]
    rcases eb : foldB K e with _ | _
    · simp only [EV, Nat.reduceEqDiff, Nat.reduceBEq, Nat.reduceLT, Nat.reduceLeDiff, Nat.reduceAdd, Nat.reduceSub, reduceIte]
      exact ⟨(), trivial⟩
    obtain ⟨g1, g2, g3, g4⟩ := fold_law eb
    have eb' : (exprOk e && knOk K) = true := eb
    have dE := d7 e K (by omega) hs (by omega)
    have dF := d7 (foldL K e) [] (by omega) fo (by simp)
    have dA := d13 (foldL K e) K (by omega) fo (by omega)
    have dG := d16 (foldL K e) (by omega) fo
    have ef : (exprOk (foldL K e) && knOk []) = true := by rw [g1]; rfl
    rw [if_pos eb'] at dE
    rw [if_pos ef, List.map_nil] at dF
    rw [g3, g4] at dA
    rw [g1] at dG
    generalize foldL K e = f at *
    simp only [Step.frz, Known.frz, pbeq, EV, Nat.reduceEqDiff, Nat.reduceBEq, Nat.reduceLT, Nat.reduceLeDiff, Nat.reduceAdd, Nat.reduceSub, reduceIte]
    refine callK_i dE ?_
    simp only [Step.frz, Known.frz, pbeq, EV, Nat.reduceEqDiff, Nat.reduceBEq, Nat.reduceLT, Nat.reduceLeDiff, Nat.reduceAdd, Nat.reduceSub, reduceIte]
    refine callK_i dF ?_
    simp only [Step.frz, Known.frz, pbeq, EV, Nat.reduceEqDiff, Nat.reduceBEq, Nat.reduceLT, Nat.reduceLeDiff, Nat.reduceAdd, Nat.reduceSub, reduceIte]
    refine callK_i dA ?_
    simp only [Step.frz, Known.frz, pbeq, EV, Nat.reduceEqDiff, Nat.reduceBEq, Nat.reduceLT, Nat.reduceLeDiff, Nat.reduceAdd, Nat.reduceSub, reduceIte]
    refine callK_i dG ?_
    simp only [Bool.not_true, Step.frz, Known.frz, pbeq, EV, Nat.reduceEqDiff, Nat.reduceBEq, Nat.reduceLT, Nat.reduceLeDiff, Nat.reduceAdd, Nat.reduceSub, reduceIte]
    have bn : ∀ x : Int, (x != x) = false := fun x => by simp
    rcases e0 : ((evalOf K e).2 == 0) with _ | _
    · simp only [e0, Step.frz, pbeq, EV, Nat.reduceEqDiff, Nat.reduceBEq, Nat.reduceLT, Nat.reduceLeDiff, Nat.reduceAdd, Nat.reduceSub, reduceIte]
      refine callK_i dT ?_
      simp only [Bool.not_true, EV, Nat.reduceEqDiff, Nat.reduceBEq, Nat.reduceLT, Nat.reduceLeDiff, Nat.reduceAdd, Nat.reduceSub, reduceIte]
      exact ⟨(), trivial⟩
    · obtain ⟨v, l2⟩ := g2 (by simpa using e0)
      have l3 : decide ((2 : Int) < (f.length : Int)) = false := by simp; omega
      simp only [e0, v, bn, l3, Step.frz, pbeq, EV, Nat.reduceEqDiff, Nat.reduceBEq, Nat.reduceLT, Nat.reduceLeDiff, Nat.reduceAdd, Nat.reduceSub, reduceIte]
      refine callK_i dT ?_
      simp only [Bool.not_true, EV, Nat.reduceEqDiff, Nat.reduceBEq, Nat.reduceLT, Nat.reduceLeDiff, Nat.reduceAdd, Nat.reduceSub, reduceIte]
      exact ⟨(), trivial⟩
  rintro _ _
  simp only [EV, Nat.reduceEqDiff, Nat.reduceBEq, Nat.reduceLT, Nat.reduceLeDiff, Nat.reduceAdd, Nat.reduceSub, reduceIte]
  refine callE_i (p6 more h1.2 hmb) (fun r o h => ⟨h.2, h.1⟩) ?_
  rintro _ ⟨d, k, rfl, ⟨hd, hds⟩, hk⟩
  have d1 := d7 d k (by omega) hds (by omega)
  have d2 := d8 d k (by omega) hds (by omega)
  rw [eval_eq] at d1 d2
  simp only [Step.frz, Known.frz, pbeq, EV, Nat.reduceEqDiff, Nat.reduceBEq, Nat.reduceLT, Nat.reduceLeDiff, Nat.reduceAdd, Nat.reduceSub, reduceIte]
  refine callK_i d1 ?_
  simp only [Step.frz, Known.frz, pbeq, EV, Nat.reduceEqDiff, Nat.reduceBEq, Nat.reduceLT, Nat.reduceLeDiff, Nat.reduceAdd, Nat.reduceSub, reduceIte]
  refine callK_i d2 ?_
  have bi : ∀ x : Int, (x == x) = true := fun x => by simp
  simp only [be, bi, pbeq, EV, Nat.reduceEqDiff, Nat.reduceBEq, Nat.reduceLT, Nat.reduceLeDiff, Nat.reduceAdd, Nat.reduceSub, reduceIte]
  simp only [EV, Nat.reduceEqDiff, Nat.reduceBEq, Nat.reduceLT, Nat.reduceLeDiff, Nat.reduceAdd, Nat.reduceSub, reduceIte, evRE, retVC, cellV', evR, nfz, nfzs, nfzss, List.contains_nil, List.contains_cons, Bool.or_false, or_true]
end Go.AM
