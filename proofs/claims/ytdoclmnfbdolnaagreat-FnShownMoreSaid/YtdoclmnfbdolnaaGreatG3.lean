/- Contracts of functions of the given program, for the law FnShownMore: what they return and what they write, under the bounds that each theorem states. -/
import Derived.Test.YtdoclmnfbdolnaaGreatG2
import Derived.Shelf.Lay
import Derived.Shelf.Sort.Plain
import Derived.Ground.Names2Prog
import Derived.Shelf.Slices.CompactI
import Derived.Shelf.Slices.In.SortNone
namespace Go.AM
set_option linter.unusedVariables false
set_option linter.unusedSimpArgs false
theorem fdNm_comm (x o : Fd) : (x.name.toList == o.name.toList) = fdNm x o := by
  unfold fdNm
  rw [Bool.beq_comm]
theorem any_take {α : Type} {q : α → Bool} {l : List α} {k : Nat} (h : k < l.length) (h1 : (l.take k).any q = false) (h2 : q l[k] = false) : (l.take (k + 1)).any q = false := by
  rw [List.take_succ_eq_append_getElem h, List.any_append, h1]
  simp [h2]
theorem any_at {α : Type} {q : α → Bool} {l : List α} {k : Nat} (h : k < l.length) (h2 : q l[k] = true) : l.any q = true := by
  rw [List.any_eq_true]; exact ⟨l[k], List.getElem_mem h, h2⟩
theorem fdAt_no {l : List Ty} {fs : List Fd} {i : Nat} {h : i < fs.length} (g : (nameOk fs[i].name = false ∧ nil' fs[i].name = false) ∨ (nil' fs[i].name = true ∧ (fs[i].mark == 0) = false) ∨ (decide (0 ≤ fs[i].mark) && decide (fs[i].mark ≤ 2)) = false ∨ isNum l fs[i].typ = false) : fdAt l fs i h = false := by
  unfold fdAt
  rcases g with ⟨g, g2⟩ | ⟨g, g2⟩ | g | g
  · simp only [g, g2, Bool.false_eq_true, if_false, Bool.false_and, Bool.and_false]
  · simp only [g, g2, if_true, Bool.and_false]
  · simp only [g, Bool.false_and]
  · simp only [g, Bool.false_and, Bool.and_false]
def m287 : MC :=
 (.seq (.reg [Xb 4 (.asg .fb)]) (.seq (.seq (.reg [Xm 9 1, Xn 10 9, Xq 11 (.mov (.i 0))]) (.block 0 (.loop [0, 1, 9, 10, 11] (.seq (.reg [Xq 12 (.bin false .lss (.t 11) (.t 10))]) (.seq (.cond (.t 12) .skip (.exit 0)) (.seq (.block 1 (.seq (.reg [Xm 13 11, Xi 14 3 9 11, XL 15 3 14, Xb 6 (.alloc 138 [.z, .i, .i]), Xa 5 13, Xz (.store 3 (.t 6) (.t 15))]) (.seq (.seq (.reg [Xf 16 0 6, Xl 17 1 16, Xb
 18 (.call (.fn 123) false [.lend (.t 17)]), Xq 19 (.un .not (.t 18)), Xm 20 19, Xt 21 20 (.fad 0 (.t 6)), Xt 22 20 (.load false 1 (.t 21)), Xt 23 20 (.bin false .neq (.t 22) (.z #[])), Xt 24 20 (.mov (.t 23)), Xu 25 24 (.fad 1 (.t 6)), Xu 26 24 (.load false 1 (.t 25)), Xu 27 24 (.bin false .neq (.t 26) (.i 0)), Xt 28 20 (.pick (.t 24) .tb (.t 27)), Xq 29 (.pick (.t 20) (.t 28) .fb), Xm 30 29, Xu
 31 30 (.fad 1 (.t 6)), Xu 32 30 (.load false 1 (.t 31)), XU 33 30 (.call (.fn 172) false [.lend (.t 32), .lend (.i 0), .lend (.i 2)]), Xu 34 30 (.un .not (.t 33)), Xq 35 (.pick (.t 30) .tb (.t 34)), Xm 36 35, Xu 37 36 (.fad 2 (.t 6)), Xu 38 36 (.load false 1 (.t 37)), Xu 39 36 (.mov (.t 0)), Xu 40 36 (.len false (.t 39)), Xu 41 36 (.bin false .sub (.t 40) (.i 1)), XU 42 36 (.call (.fn 172) false
 [.lend (.t 38), .lend (.i 0), .lend (.t 41)]), Xu 43 36 (.un .not (.t 42)), Xq 44 (.pick (.t 36) .tb (.t 43))]) (.cond (.t 44) (.seq (.reg [Xb 4 (.asg .fb)]) .ret) .skip)) (.seq (.reg [Xm 45 1, Xm 46 5, Xq 47 (.slc false 3 (.t 45) none (some (.t 46))), Xn 48 47, Xq 49 (.mov (.i 0))]) (.block 2 (.loop [0, 1, 6, 9, 10, 11, 45, 46, 47, 48, 49] (.seq (.reg [Xq 50 (.bin false .lss (.t 49) (.t 48))])
 (.seq (.cond (.t 50) .skip (.exit 2)) (.seq (.block 3 (.seq (.reg [Xi 51 3 47 49, XL 52 3 51, Xb 8 (.alloc 138 [.z, .i, .i]), Xz (.store 3 (.t 8) (.t 52))]) (.seq (.reg [Xf 53 0 6, Xl 54 1 53, Xq 55 (.bin false .neq (.t 54) (.z #[])), Xm 56 55, Xt 57 56 (.fad 0 (.t 6)), Xt 58 56 (.load false 1 (.t 57)), Xt 59 56 (.fad 0 (.t 8)), Xt 60 56 (.load false 1 (.t 59)), Xt 61 56 (.bin false .eql (.t 58)
 (.t 60)), Xq 62 (.pick (.t 56) (.t 61) .fb)]) (.cond (.t 62) (.seq (.reg [Xb 4 (.asg .fb)]) .ret) .skip)))) (.reg [Xq 63 (.bin false .add (.t 49) (.i 1)), Xm 49 63])))))))))) (.reg [Xq 64 (.bin false .add (.t 11) (.i 1)), Xm 11 64]))))))) (.seq (.reg [Xm 65 1, Xn 66 65, Xq 67 (.bin false .leq (.t 66) (.i 6)), Xa 4 67]) .ret)))
set_option maxHeartbeats 1000000 in
set_option maxRecDepth 100000 in
theorem d287 (l : List Ty) (fs : List Fd) (hl : (l.length : Int) ≤ 1048576) (hf : (fs.length : Int) ≤ 1048576) (hs : ∀ s ∈ fs, s.sm) :
    Does Go.Proofs.Tryz.prog 287 [.fsl 6 (l.map Ty.z), .fsl 3 (fs.map Fd.z)] false (.v (.bool (fdsOk l fs))) [.dead, .dead] := by
  refine does_intro (mc := m287) (N := 68) (rs := [4]) (fx := []) 2 rfl (by decide +kernel) ?_
  simp only [m287, EV, Nat.reduceEqDiff, Nat.reduceBEq, Nat.reduceLT, Nat.reduceLeDiff, Nat.reduceAdd, Nat.reduceSub, reduceIte]
  refine awp_loop (fun i : Nat => i ≤ fs.length ∧ fdTo l fs i) (fun i => stl [(0, .fsl 6 (l.map Ty.z)), (1, .fsl 3 (fs.map Fd.z)), (9, .fsl 3 (fs.map Fd.z)), (10, .v (.int .i64 (fs.length : Int))), (11, .v (.int .i64 (i : Int)))]) (fun i => fs.length - i) 0 ⟨Nat.zero_le _, fun j hj h => absurd h (by omega)⟩ ?_ ?_
  · simp only [EV, Nat.reduceEqDiff, Nat.reduceBEq, Nat.reduceLT, Nat.reduceLeDiff, Nat.reduceAdd, Nat.reduceSub, reduceIte]
    rfl
  · rintro i ⟨hi, hok⟩
    simp only [EV, Nat.reduceEqDiff, Nat.reduceBEq, Nat.reduceLT, Nat.reduceLeDiff, Nat.reduceAdd, Nat.reduceSub, reduceIte]
    refine cK_cut (fun h => ?_) (fun h => ?_)
    · have h1 : i < fs.length := by simpa using h
      have h2 : (i : Int) < (fs.length : Int) := by omega
      have hso := hs fs[i] (List.getElem_mem h1)
      simp only [Fd.sm] at hso
      clear h
      have p9 : fdAt l fs i h1 = false → fdsOk l fs = false := fdsOk_no h1
      have ht : (fs.take i).length = i := by simp; omega
      have en : (fs[i].name.toList == (⟨#[]⟩ : ByteArray).toList) = nil' fs[i].name := rfl
      have eb : (fs[i].name.toList != (⟨#[]⟩ : ByteArray).toList) = !nil' fs[i].name := rfl
      have rest : nameOk fs[i].name = true ∨ (nil' fs[i].name = true ∧ (fs[i].mark == 0) = true) → (decide (0 ≤ fs[i].mark) && decide (fs[i].mark ≤ 2)) = true → isNum l fs[i].typ = true →
          (nil' fs[i].name = true ∨ (fs.take i).any (fdNm fs[i]) = false) → fdAt l fs i h1 = true := by
        intro q1 q2 q3 q4
        simp only [fdAt, q2, q3, Bool.true_and]
        rcases e3 : nil' fs[i].name with _ | _
        · rw [e3] at q1 q4
          simp only [Bool.false_eq_true, false_and, false_or, or_false] at q1 q4
          simp only [Bool.false_eq_true, if_false, q1, q4, Bool.not_false, Bool.and_self]
        · have := nil_name e3
          rw [this] at q1
          simp only [Bool.false_eq_true, false_or] at q1
          simp only [if_true, q1.2]
      simp only [FdE, nth_map h1, h2, Fd.z, EV, Nat.reduceEqDiff, Nat.reduceBEq, Nat.reduceLT, Nat.reduceLeDiff, Nat.reduceAdd, Nat.reduceSub, reduceIte]
      refine callK_i (d123 _ (by omega)) ?_
      simp only [eb, EV, Nat.reduceEqDiff, Nat.reduceBEq, Nat.reduceLT, Nat.reduceLeDiff, Nat.reduceAdd, Nat.reduceSub, reduceIte]
      have hw : IntKind.i64.wrap ((l.length : Int) - 1) = (l.length : Int) - 1 := w64 _ (by omega)
      repeat' (first
    | (refine gK_cut (fun h => ?_) (fun h => ?_) <;> simp only [h, eb, hw, EV, Nat.reduceEqDiff, Nat.reduceBEq, Nat.reduceLT, Nat.reduceLeDiff, Nat.reduceAdd, Nat.reduceSub, reduceIte])
    | (refine cK_cut (fun h => ?_) (fun h => ?_) <;> simp only [h, eb, hw, EV, Nat.reduceEqDiff, Nat.reduceBEq, Nat.reduceLT, Nat.reduceLeDiff, Nat.reduceAdd, Nat.reduceSub, reduceIte])
    | (refine callK_i (d172 _ _ _) ?_ <;> simp only [h, eb, hw, EV, Nat.reduceEqDiff, Nat.reduceBEq, Nat.reduceLT, Nat.reduceLeDiff, Nat.reduceAdd, Nat.reduceSub, reduceIte]))
      all_goals simp only [en, bne, Bool.not_eq_true', Bool.not_eq_false'] at *
      all_goals first
        | (have e : fdsOk l fs = false := p9 (fdAt_no (by
             first
               | (left; exact ⟨by assumption, by assumption⟩)
               | (right; left; exact ⟨by assumption, by assumption⟩)
               | (right; right; left; assumption)
               | (right; right; right; unfold isNum; assumption)))
           simp only [e, EV, Nat.reduceEqDiff, Nat.reduceBEq, Nat.reduceLT, Nat.reduceLeDiff, Nat.reduceAdd, Nat.reduceSub, reduceIte, evRE, retVC, cellV', evR, nfz, nfzs, nfzss, List.contains_nil, List.contains_cons, Bool.or_false, or_true]
           done)
        | skip
      all_goals refine ⟨by omega, by omega, ?_⟩
      all_goals have q1 : nameOk fs[i].name = true ∨ (nil' fs[i].name = true ∧ (fs[i].mark == 0) = true) := (by first | exact Or.inl (by assumption) | exact Or.inr ⟨by assumption, by assumption⟩)
      all_goals have q2 : (decide (0 ≤ fs[i].mark) && decide (fs[i].mark ≤ 2)) = true := by assumption
      all_goals have q3 : isNum l fs[i].typ = true := by unfold isNum; assumption
      all_goals have q9 := rest q1 q2 q3
      all_goals clear rest q1 q2 q3
      all_goals simp only [← List.map_take]
      all_goals refine awp_loop (fun k : Nat => k ≤ i ∧ (nil' fs[i].name = true ∨ ((fs.take i).take k).any (fdNm fs[i]) = false)) (fun k => stl [(0, .fsl 6 (l.map Ty.z)), (1, .fsl 3 (fs.map Fd.z)), (6, .box 138 fs[i].z), (9, .fsl 3 (fs.map Fd.z)), (10, .v (.int .i64 (fs.length : Int))), (11, .v (.int .i64 (i : Int))), (45, .fsl 3 (fs.map Fd.z)), (46, .v (.int .i64 (i : Int))), (47, .fsl 3 ((fs.take i).map Fd.z)), (48, .v (.int .i64 (i : Int))), (49, .v (.int .i64 (k : Int)))]) (fun k => i - k) 0 ⟨Nat.zero_le _, by simp⟩ ?_ ?_
      all_goals first
        | (simp only [Fd.z, EV, Nat.reduceEqDiff, Nat.reduceBEq, Nat.reduceLT, Nat.reduceLeDiff, Nat.reduceAdd, Nat.reduceSub, reduceIte]
           rw [ht]
           rfl)
        | skip
      all_goals rintro k ⟨hk, hno⟩
      all_goals simp only [Fd.z, EV, Nat.reduceEqDiff, Nat.reduceBEq, Nat.reduceLT, Nat.reduceLeDiff, Nat.reduceAdd, Nat.reduceSub, reduceIte]
      · refine cK_cut (fun h => ?_) (fun h => ?_)
        · have k3 : k < i := by have : (k : Int) < i := by simpa using h
                                omega
          have k1 : k < (fs.take i).length := by rw [ht]; exact k3
          have k2 : (k : Int) < i := by omega
          clear h
          simp only [FdE, nth_map k1, k2, k3, ht, Fd.z, EV, Nat.reduceEqDiff, Nat.reduceBEq, Nat.reduceLT, Nat.reduceLeDiff, Nat.reduceAdd, Nat.reduceSub, reduceIte]
          refine gK_cut (fun h => ?_) (fun h => ?_)
          · have e3 : nil' fs[i].name = false := by unfold nil'; simpa [bne] using h
            have hno' : ((fs.take i).take k).any (fdNm fs[i]) = false := by
              rcases hno with hno | hno
              · rw [e3] at hno; cases hno
              · exact hno
            simp only [h, FdE, nth_map k1, k2, k3, ht, Fd.z, EV, Nat.reduceEqDiff, Nat.reduceBEq, Nat.reduceLT, Nat.reduceLeDiff, Nat.reduceAdd, Nat.reduceSub, reduceIte]
            rw [fdNm_comm]
            rcases e5 : fdNm fs[i] (fs.take i)[k] with _ | _
            · simp only [EV, Nat.reduceEqDiff, Nat.reduceBEq, Nat.reduceLT, Nat.reduceLeDiff, Nat.reduceAdd, Nat.reduceSub, reduceIte]
              rw [w64 _ (by omega)]
              exact ⟨k + 1, ⟨k3, Or.inr (any_take k1 hno' e5)⟩, by omega, rfl⟩
            · have e4 := any_at k1 e5
              have e : fdsOk l fs = false := p9 (by
                unfold fdAt
                rw [e3, e4]
                simp only [Bool.false_eq_true, if_false, Bool.not_true, Bool.and_false])
              simp only [EV, Nat.reduceEqDiff, Nat.reduceBEq, Nat.reduceLT, Nat.reduceLeDiff, Nat.reduceAdd, Nat.reduceSub, reduceIte]
              simp only [e, EV, Nat.reduceEqDiff, Nat.reduceBEq, Nat.reduceLT, Nat.reduceLeDiff, Nat.reduceAdd, Nat.reduceSub, reduceIte, evRE, retVC, cellV', evR, nfz, nfzs, nfzss, List.contains_nil, List.contains_cons, Bool.or_false, or_true]
          · have e3 : nil' fs[i].name = true := by unfold nil'; simpa [bne] using h
            simp only [h, EV, Nat.reduceEqDiff, Nat.reduceBEq, Nat.reduceLT, Nat.reduceLeDiff, Nat.reduceAdd, Nat.reduceSub, reduceIte]
            rw [w64 _ (by omega)]
            exact ⟨k + 1, ⟨k3, Or.inl e3⟩, by omega, rfl⟩
        · have k1 : k = i := by have : ¬ (k : Int) < i := by simpa using h
                                omega
          subst k1
          have hq : fdAt l fs k h1 = true := q9 (by
            rcases hno with hno | hno
            · exact Or.inl hno
            · rw [List.take_take, Nat.min_self] at hno
              exact Or.inr hno)
          simp only [EV, Nat.reduceEqDiff, Nat.reduceBEq, Nat.reduceLT, Nat.reduceLeDiff, Nat.reduceAdd, Nat.reduceSub, reduceIte]
          rw [w64 _ (by omega)]
          exact ⟨k + 1, ⟨h1, fdTo_succ h1 hok hq⟩, by omega, rfl⟩
      · refine cK_cut (fun h => ?_) (fun h => ?_)
        · have k3 : k < i := by have : (k : Int) < i := by simpa using h
                                omega
          have k1 : k < (fs.take i).length := by rw [ht]; exact k3
          have k2 : (k : Int) < i := by omega
          clear h
          simp only [FdE, nth_map k1, k2, k3, ht, Fd.z, EV, Nat.reduceEqDiff, Nat.reduceBEq, Nat.reduceLT, Nat.reduceLeDiff, Nat.reduceAdd, Nat.reduceSub, reduceIte]
          refine gK_cut (fun h => ?_) (fun h => ?_)
          · have e3 : nil' fs[i].name = false := by unfold nil'; simpa [bne] using h
            have hno' : ((fs.take i).take k).any (fdNm fs[i]) = false := by
              rcases hno with hno | hno
              · rw [e3] at hno; cases hno
              · exact hno
            simp only [h, FdE, nth_map k1, k2, k3, ht, Fd.z, EV, Nat.reduceEqDiff, Nat.reduceBEq, Nat.reduceLT, Nat.reduceLeDiff, Nat.reduceAdd, Nat.reduceSub, reduceIte]
            rw [fdNm_comm]
            rcases e5 : fdNm fs[i] (fs.take i)[k] with _ | _
            · simp only [EV, Nat.reduceEqDiff, Nat.reduceBEq, Nat.reduceLT, Nat.reduceLeDiff, Nat.reduceAdd, Nat.reduceSub, reduceIte]
              rw [w64 _ (by omega)]
              exact ⟨k + 1, ⟨k3, Or.inr (any_take k1 hno' e5)⟩, by omega, rfl⟩
            · have e4 := any_at k1 e5
              have e : fdsOk l fs = false := p9 (by
                unfold fdAt
                rw [e3, e4]
                simp only [Bool.false_eq_true, if_false, Bool.not_true, Bool.and_false])
              simp only [EV, Nat.reduceEqDiff, Nat.reduceBEq, Nat.reduceLT, Nat.reduceLeDiff, Nat.reduceAdd, Nat.reduceSub, reduceIte]
              simp only [e, EV, Nat.reduceEqDiff, Nat.reduceBEq, Nat.reduceLT, Nat.reduceLeDiff, Nat.reduceAdd, Nat.reduceSub, reduceIte, evRE, retVC, cellV', evR, nfz, nfzs, nfzss, List.contains_nil, List.contains_cons, Bool.or_false, or_true]
          · have e3 : nil' fs[i].name = true := by unfold nil'; simpa [bne] using h
            simp only [h, EV, Nat.reduceEqDiff, Nat.reduceBEq, Nat.reduceLT, Nat.reduceLeDiff, Nat.reduceAdd, Nat.reduceSub, reduceIte]
            rw [w64 _ (by omega)]
            exact ⟨k + 1, ⟨k3, Or.inl e3⟩, by omega, rfl⟩
        · have k1 : k = i := by have : ¬ (k : Int) < i := by simpa using h
                                omega
          subst k1
          have hq : fdAt l fs k h1 = true := q9 (by
            rcases hno with hno | hno
            · exact Or.inl hno
            · rw [List.take_take, Nat.min_self] at hno
              exact Or.inr hno)
          simp only [EV, Nat.reduceEqDiff, Nat.reduceBEq, Nat.reduceLT, Nat.reduceLeDiff, Nat.reduceAdd, Nat.reduceSub, reduceIte]
          rw [w64 _ (by omega)]
          exact ⟨k + 1, ⟨h1, fdTo_succ h1 hok hq⟩, by omega, rfl⟩
    · have h1 : i = fs.length := by have : ¬ (i : Int) < fs.length := by simpa using h
                                    omega
      subst h1
      simp only [EV, Nat.reduceEqDiff, Nat.reduceBEq, Nat.reduceLT, Nat.reduceLeDiff, Nat.reduceAdd, Nat.reduceSub, reduceIte]
      simp only [fdsOk_yes hok, EV, Nat.reduceEqDiff, Nat.reduceBEq, Nat.reduceLT, Nat.reduceLeDiff, Nat.reduceAdd, Nat.reduceSub, reduceIte, evRE, retVC, cellV', evR, nfz, nfzs, nfzss, List.contains_nil, List.contains_cons, Bool.or_false, or_true]
end Go.AM
namespace Go.AM
set_option linter.unusedVariables false
set_option linter.unusedSimpArgs false
noncomputable def tyOk (l : List Ty) (t : Ty) : Bool :=
  named t && (!((!(t.kind == 5)) && decide (0 < (t.fields.length : Int))) &&
  (if (t.kind == 4) = true then (decide (1 ≤ t.long) && decide (t.long ≤ 1000)) && isNum l t.base
  else if (t.kind == 5) = true then ((t.long == 0) && ((t.base == -1) || isRec l t.base)) && fdsOk l t.fields
  else if (t.kind == 6) = true then (t.long == 0) && (isRec l t.base || (isNum l t.base && kd l t.base == 4))
  else false))
def m228 : MC :=
 (.seq (.reg [Xb 3 (.box 129 (.t 1)), Xb 4 (.asg .fb)]) (.seq (.seq (.reg [XL 5 6 3, Xb 6 (.call (.fn 272) false [.lend (.t 5)]), Xq 7 (.un .not (.t 6)), Xm 8 7, Xu 9 8 (.fad 0 (.t 3)), Xu 10 8 (.load false 1 (.t 9)), Xu 11 8 (.bin false .neq (.t 10) (.i 5)), Xu 12 8 (.mov (.t 11)), Xt 13 12 (.fad 3 (.t 3)), Xt 14 12 (.load false 1 (.t 13)), Xt 15 12 (.len false (.t 14)), Xt 16 12 (.bin false .gtr
 (.t 15) (.i 0)), Xu 17 8 (.pick (.t 12) (.t 16) .fb), Xq 18 (.pick (.t 8) .tb (.t 17))]) (.cond (.t 18) (.seq (.reg [Xb 4 (.asg .fb)]) .ret) .skip)) (.seq (.seq (.reg [Xf 19 0 3, Xl 20 1 19]) (.block 0 (.seq (.reg [Xq 22 (.bin false .eql (.t 20) (.i 4)), Xa 21 22]) (.cond (.t 21) (.seq (.reg [Xf 23 1 3, Xl 24 1 23, Xb 25 (.call (.fn 171) false [.lend (.t 24), .lend (.i 1), .lend (.i 1000)]), Xm 26
 25, Xt 27 26 (.mov (.t 0)), Xt 28 26 (.fad 2 (.t 3)), Xt 29 26 (.load false 1 (.t 28)), XT 30 26 (.call (.fn 95) false [.lend (.t 27), .lend (.t 29)]), Xq 31 (.pick (.t 26) (.t 30) .fb), Xa 4 31]) .ret) (.seq (.reg [Xq 33 (.bin false .eql (.t 20) (.i 5)), Xa 32 33]) (.cond (.t 32) (.seq (.reg [Xf 34 1 3, Xl 35 1 34, Xq 36 (.bin false .eql (.t 35) (.i 0)), Xm 37 36, Xt 38 37 (.fad 2 (.t 3)), Xt 39
 37 (.load false 1 (.t 38)), Xt 40 37 (.bin false .eql (.t 39) (.i (-1))), Xt 41 37 (.mov (.t 40)), Xu 42 41 (.mov (.t 0)), Xu 43 41 (.fad 2 (.t 3)), Xu 44 41 (.load false 1 (.t 43)), XU 45 41 (.call (.fn 273) false [.lend (.t 42), .lend (.t 44)]), Xt 46 37 (.pick (.t 41) .tb (.t 45)), Xq 47 (.pick (.t 37) (.t 46) .fb), Xm 48 47, Xt 49 48 (.mov (.t 0)), Xt 50 48 (.fad 3 (.t 3)), Xt 51 48 (.load
 false 1 (.t 50)), XT 52 48 (.call (.fn 274) false [.lend (.t 49), .lend (.t 51)]), Xq 53 (.pick (.t 48) (.t 52) .fb), Xa 4 53]) .ret) (.seq (.reg [Xq 55 (.bin false .eql (.t 20) (.i 6)), Xa 54 55]) (.cond (.t 54) (.seq (.reg [Xf 56 1 3, Xl 57 1 56, Xq 58 (.bin false .eql (.t 57) (.i 0)), Xm 59 58, Xt 60 59 (.mov (.t 0)), Xt 61 59 (.fad 2 (.t 3)), Xt 62 59 (.load false 1 (.t 61)), XT 63 59 (.call
 (.fn 273) false [.lend (.t 60), .lend (.t 62)]), Xt 64 59 (.mov (.t 63)), Xu 65 64 (.mov (.t 0)), Xu 66 64 (.fad 2 (.t 3)), Xu 67 64 (.load false 1 (.t 66)), XU 68 64 (.call (.fn 95) false [.lend (.t 65), .lend (.t 67)]), Xu 69 64 (.mov (.t 68)), Xt 70 69 (.mov (.t 0)), Xt 71 69 (.fad 2 (.t 3)), Xt 72 69 (.load false 1 (.t 71)), Xt 73 69 (.iad 6 (.t 70) (.t 72)), Xt 74 69 (.fad 0 (.t 73)), Xt 75
 69 (.load false 1 (.t 74)), Xt 76 69 (.bin false .eql (.t 75) (.i 4)), Xu 77 64 (.pick (.t 69) (.t 76) .fb), Xt 78 59 (.pick (.t 64) .tb (.t 77)), Xq 79 (.pick (.t 59) (.t 78) .fb), Xa 4 79]) .ret) .skip)))))))) (.seq (.reg [Xb 4 (.asg .fb)]) .ret))))
set_option maxHeartbeats 1000000 in
set_option maxRecDepth 100000 in
theorem d228 (l : List Ty) (t : Ty) (hl : (l.length : Int) ≤ 1048576) (ht : t.sm) :
    Does Go.Proofs.Tryz.prog 228 [.fsl 6 (l.map Ty.z), .agg t.z] false (.v (.bool (tyOk l t))) [.dead, .dead] := by
  have ht0 := ht
  unfold Ty.sm at ht
  have d7 := d274 l t.fields hl ht.2.2.2.1.1 ht.2.2.2.1.2
  have d6 := d272 t ht0
  have hz : t.z = [.v (.int .i64 t.kind), .v (.int .i64 t.long), .v (.int .i64 t.base), .fsl 3 (t.fields.map Fd.z), .v (.string t.owner), .v (.string t.name)] := rfl
  rw [hz] at d6
  refine does_intro (mc := m228) (N := 80) (rs := [4]) (fx := []) 2 rfl (by decide +kernel) ?_
  simp only [m228, hz, EV, Nat.reduceEqDiff, Nat.reduceBEq, Nat.reduceLT, Nat.reduceLeDiff, Nat.reduceAdd, Nat.reduceSub, reduceIte]
  refine callK_i d6 ?_
  simp only [EV, Nat.reduceEqDiff, Nat.reduceBEq, Nat.reduceLT, Nat.reduceLeDiff, Nat.reduceAdd, Nat.reduceSub, reduceIte]
  repeat' (first
    | (refine gK_cut (fun h => ?_) (fun h => ?_) <;> simp only [h, bne, EV, Nat.reduceEqDiff, Nat.reduceBEq, Nat.reduceLT, Nat.reduceLeDiff, Nat.reduceAdd, Nat.reduceSub, reduceIte])
    | (refine cK_cut (fun h => ?_) (fun h => ?_) <;> simp only [h, bne, EV, Nat.reduceEqDiff, Nat.reduceBEq, Nat.reduceLT, Nat.reduceLeDiff, Nat.reduceAdd, Nat.reduceSub, reduceIte])
    | (refine callK_i d7 ?_ <;> simp only [h, bne, EV, Nat.reduceEqDiff, Nat.reduceBEq, Nat.reduceLT, Nat.reduceLeDiff, Nat.reduceAdd, Nat.reduceSub, reduceIte])
    | (refine callK_i (d171 _ _ _) ?_ <;> simp only [h, bne, EV, Nat.reduceEqDiff, Nat.reduceBEq, Nat.reduceLT, Nat.reduceLeDiff, Nat.reduceAdd, Nat.reduceSub, reduceIte])
    | (refine callK_i (d95 l _ hl) ?_ <;> simp only [h, bne, EV, Nat.reduceEqDiff, Nat.reduceBEq, Nat.reduceLT, Nat.reduceLeDiff, Nat.reduceAdd, Nat.reduceSub, reduceIte])
    | (refine callK_i (d273 l _ hl) ?_ <;> simp only [h, bne, EV, Nat.reduceEqDiff, Nat.reduceBEq, Nat.reduceLT, Nat.reduceLeDiff, Nat.reduceAdd, Nat.reduceSub, reduceIte]))
  all_goals simp only [Bool.not_eq_true', Bool.not_eq_false'] at *
  all_goals first
    | exact absurd ((‹(t.kind == 5) = false›).symm.trans ‹(t.kind == 5) = true›) Bool.false_ne_true
    | (simp only [tyOk, *, Bool.not_true, Bool.not_false, Bool.true_and, Bool.false_and, Bool.and_true, Bool.and_false, Bool.true_or, Bool.false_or, Bool.or_false, Bool.or_true, Bool.false_eq_true, if_true, if_false, EV, Nat.reduceEqDiff, Nat.reduceBEq, Nat.reduceLT, Nat.reduceLeDiff, Nat.reduceAdd, Nat.reduceSub, reduceIte, evRE, retVC, cellV', evR, nfz, nfzs, nfzss, List.contains_nil, List.contains_cons, Bool.or_false, or_true]
       done)
    | (obtain ⟨h0, h1, hn, hk⟩ := isNum_lt ‹isNum l t.base = true›
       simp only [h0, h1, nth_map hn, Ty.z, EV, Nat.reduceEqDiff, Nat.reduceBEq, Nat.reduceLT, Nat.reduceLeDiff, Nat.reduceAdd, Nat.reduceSub, reduceIte]
       simp only [tyOk, *, Bool.not_true, Bool.not_false, Bool.true_and, Bool.false_and, Bool.and_true, Bool.and_false, Bool.true_or, Bool.false_or, Bool.or_false, Bool.or_true, Bool.false_eq_true, if_true, if_false, EV, Nat.reduceEqDiff, Nat.reduceBEq, Nat.reduceLT, Nat.reduceLeDiff, Nat.reduceAdd, Nat.reduceSub, reduceIte, evRE, retVC, cellV', evR, nfz, nfzs, nfzss, List.contains_nil, List.contains_cons, Bool.or_false, or_true]
       done)
end Go.AM
namespace Go.AM
set_option linter.unusedVariables false
set_option linter.unusedSimpArgs false
theorem kindIn_same (l : List Ty) (n a : Int) : kindIn l n a a = (isNum l n && kd l n == a) := by
  unfold kindIn; rw [Bool.or_self]
theorem kindIn_two (l : List Ty) (n a b : Int) : kindIn l n a b = ((isNum l n && kd l n == a) || (isNum l n && kd l n == b)) := by
  unfold kindIn; rw [Bool.and_or_distrib_left]
noncomputable def tyRest (l : List Ty) (t : Ty) : Bool :=
  if (t.kind == 4) = true then (decide (1 ≤ t.long) && decide (t.long ≤ 1000)) && isNum l t.base
  else if (t.kind == 5) = true then ((t.long == 0) && ((t.base == -1) || kindIn l t.base 5 5)) && fdsOk l t.fields
  else if (t.kind == 6) = true then (t.long == 0) && kindIn l t.base 5 4
  else false
noncomputable def tyHead (t : Ty) : Bool := named t && !((!(t.kind == 5)) && decide (0 < (t.fields.length : Int)))
theorem tyOk_eq (l : List Ty) (t : Ty) : tyOk l t = (tyHead t && tyRest l t) := by
  unfold tyOk tyHead tyRest
  rw [kindIn_same, kindIn_two]
  exact (Bool.and_assoc _ _ _).symm
def m247 : MC :=
 (.seq (.reg [Xb 3 (.box 129 (.t 1)), Xb 4 (.asg .fb)]) (.join [0, 3, 5] (.reg [Xf 6 5 3, Xl 7 1 6, Xb 8 (.call (.fn 123) false [.lend (.t 7)]), Xm 9 8, Xt 10 9 (.fad 4 (.t 3)), Xt 11 9 (.load false 1 (.t 10)), XT 12 9 (.call (.fn 123) false [.lend (.t 11)]), Xq 13 (.pick (.t 9) (.t 12) .fb), Xa 5 13]) (.seq (.join [0, 3, 36] (.reg [Xm 14 5, Xq 15 (.un .not (.t 14)), Xm 16 15, Xt 17 16 (.fad 5 (.t
 3)), Xt 18 16 (.load false 1 (.t 17)), Xt 19 16 (.bin false .neq (.t 18) (.z #[])), Xt 20 16 (.mov (.t 19)), Xu 21 20 (.fad 4 (.t 3)), Xu 22 20 (.load false 1 (.t 21)), Xu 23 20 (.bin false .neq (.t 22) (.z #[])), Xt 24 16 (.pick (.t 20) .tb (.t 23)), Xq 25 (.pick (.t 16) (.t 24) .fb), Xm 26 25, Xu 27 26 (.fad 0 (.t 3)), Xu 28 26 (.load false 1 (.t 27)), Xu 29 26 (.bin false .neq (.t 28) (.i 5)),
 Xu 30 26 (.mov (.t 29)), Xt 31 30 (.fad 3 (.t 3)), Xt 32 30 (.load false 1 (.t 31)), Xt 33 30 (.len false (.t 32)), Xt 34 30 (.bin false .gtr (.t 33) (.i 0)), Xu 35 26 (.pick (.t 30) (.t 34) .fb), Xq 36 (.pick (.t 26) .tb (.t 35))]) (.cond (.t 36) (.seq (.reg [Xb 4 (.asg .fb)]) .ret) .skip)) (.seq (.seq (.reg [Xf 37 0 3, Xl 38 1 37]) (.block 0 (.seq (.reg [Xq 40 (.bin false .eql (.t 38) (.i 4)),
 Xa 39 40]) (.cond (.t 39) (.seq (.reg [Xf 41 1 3, Xl 42 1 41, Xb 43 (.call (.fn 172) false [.lend (.t 42), .lend (.i 1), .lend (.i 1000)]), Xm 44 43, Xt 45 44 (.fad 2 (.t 3)), Xt 46 44 (.load false 1 (.t 45)), Xt 47 44 (.mov (.t 0)), Xt 48 44 (.len false (.t 47)), Xt 49 44 (.bin false .sub (.t 48) (.i 1)), XT 50 44 (.call (.fn 172) false [.lend (.t 46), .lend (.i 0), .lend (.t 49)]), Xq 51 (.pick
 (.t 44) (.t 50) .fb), Xa 4 51]) .ret) (.seq (.reg [Xq 53 (.bin false .eql (.t 38) (.i 5)), Xa 52 53]) (.cond (.t 52) (.seq (.reg [Xf 54 1 3, Xl 55 1 54, Xq 56 (.bin false .eql (.t 55) (.i 0)), Xm 57 56, Xt 58 57 (.fad 2 (.t 3)), Xt 59 57 (.load false 1 (.t 58)), Xt 60 57 (.bin false .eql (.t 59) (.i (-1))), Xt 61 57 (.mov (.t 60)), Xu 62 61 (.mov (.t 0)), Xu 63 61 (.fad 2 (.t 3)), Xu 64 61 (.load
 false 1 (.t 63)), XU 65 61 (.call (.fn 286) false [.lend (.t 62), .lend (.t 64), .lend (.i 5), .lend (.i 5)]), Xt 66 57 (.pick (.t 61) .tb (.t 65)), Xq 67 (.pick (.t 57) (.t 66) .fb), Xm 68 67, Xt 69 68 (.mov (.t 0)), Xt 70 68 (.fad 3 (.t 3)), Xt 71 68 (.load false 1 (.t 70)), XT 72 68 (.call (.fn 287) false [.lend (.t 69), .lend (.t 71)]), Xq 73 (.pick (.t 68) (.t 72) .fb), Xa 4 73]) .ret)
 .skip)))))) (.seq (.reg [Xf 74 0 3, Xl 75 1 74, Xq 76 (.bin false .eql (.t 75) (.i 6)), Xm 77 76, Xt 78 77 (.fad 1 (.t 3)), Xt 79 77 (.load false 1 (.t 78)), Xt 80 77 (.bin false .eql (.t 79) (.i 0)), Xq 81 (.pick (.t 77) (.t 80) .fb), Xm 82 81, Xt 83 82 (.mov (.t 0)), Xt 84 82 (.fad 2 (.t 3)), Xt 85 82 (.load false 1 (.t 84)), XT 86 82 (.call (.fn 286) false [.lend (.t 83), .lend (.t 85), .lend
 (.i 5), .lend (.i 4)]), Xq 87 (.pick (.t 82) (.t 86) .fb), Xa 4 87]) .ret)))))
set_option maxHeartbeats 1000000 in
set_option maxRecDepth 100000 in
theorem d247 (l : List Ty) (t : Ty) (hl : (l.length : Int) ≤ 1048576) (ht : t.sm) :
    Does Go.Proofs.Tryz.prog 247 [.fsl 6 (l.map Ty.z), .agg t.z] false (.v (.bool (tyOk l t))) [.dead, .dead] := by
  have ht0 := ht
  unfold Ty.sm at ht
  have d7 := d287 l t.fields hl ht.2.2.2.1.1 ht.2.2.2.1.2
  have hw : IntKind.i64.wrap ((l.length : Int) - 1) = (l.length : Int) - 1 := w64 _ (by omega)
  refine does_intro (mc := m247) (N := 88) (rs := [4]) (fx := []) 2 rfl (by decide +kernel) ?_
  simp only [m247, Ty.z, EV, Nat.reduceEqDiff, Nat.reduceBEq, Nat.reduceLT, Nat.reduceLeDiff, Nat.reduceAdd, Nat.reduceSub, reduceIte]
  refine awp_join (fun _ : Unit => True) (fun _ => stl [(0, .fsl 6 (l.map Ty.z)), (3, .box 129 t.z), (5, .v (.bool (nameOk t.name && nameOk t.owner)))]) ?_ ?_
  · simp only [EV, Nat.reduceEqDiff, Nat.reduceBEq, Nat.reduceLT, Nat.reduceLeDiff, Nat.reduceAdd, Nat.reduceSub, reduceIte]
    refine callK_i (d123 _ (by omega)) ?_
    simp only [EV, Nat.reduceEqDiff, Nat.reduceBEq, Nat.reduceLT, Nat.reduceLeDiff, Nat.reduceAdd, Nat.reduceSub, reduceIte]
    rcases e1 : nameOk t.name with _ | _
    · simp only [e1, Ty.z, EV, Nat.reduceEqDiff, Nat.reduceBEq, Nat.reduceLT, Nat.reduceLeDiff, Nat.reduceAdd, Nat.reduceSub, reduceIte]
      first | exact ⟨(), rfl⟩ | exact ⟨(), trivial⟩
    · simp only [e1, Ty.z, EV, Nat.reduceEqDiff, Nat.reduceBEq, Nat.reduceLT, Nat.reduceLeDiff, Nat.reduceAdd, Nat.reduceSub, reduceIte]
      refine callK_i (d123 _ (by omega)) ?_
      simp only [e1, Ty.z, EV, Nat.reduceEqDiff, Nat.reduceBEq, Nat.reduceLT, Nat.reduceLeDiff, Nat.reduceAdd, Nat.reduceSub, reduceIte]
      first | exact ⟨(), rfl⟩ | exact ⟨(), trivial⟩
  rintro _ _
  simp only [Ty.z, EV, Nat.reduceEqDiff, Nat.reduceBEq, Nat.reduceLT, Nat.reduceLeDiff, Nat.reduceAdd, Nat.reduceSub, reduceIte]
  refine awp_join (fun _ : Unit => True) (fun _ => stl [(0, .fsl 6 (l.map Ty.z)), (3, .box 129 t.z), (36, .v (.bool (!tyHead t)))]) ?_ ?_
  · simp only [EV, Nat.reduceEqDiff, Nat.reduceBEq, Nat.reduceLT, Nat.reduceLeDiff, Nat.reduceAdd, Nat.reduceSub, reduceIte]
    rcases q : (nameOk t.name && nameOk t.owner) with _ | _ <;> rcases e5 : (t.kind == 5) with _ | _ <;> rcases e0 : decide (0 < (t.fields.length : Int)) with _ | _ <;> rcases en : (t.name.toList == (⟨#[]⟩ : ByteArray).toList) with _ | _ <;> rcases eo : (t.owner.toList == (⟨#[]⟩ : ByteArray).toList) with _ | _
    all_goals simp only [q, e5, e0, en, eo, bne, tyHead, named, Bool.not_not, Bool.not_true, Bool.not_false, Bool.true_and, Bool.false_and, Bool.and_true, Bool.and_false, Bool.true_or, Bool.false_or, Bool.or_false, Bool.or_true, Bool.and_self, Ty.z, EV, Nat.reduceEqDiff, Nat.reduceBEq, Nat.reduceLT, Nat.reduceLeDiff, Nat.reduceAdd, Nat.reduceSub, reduceIte]
    all_goals first | exact ⟨(), rfl⟩ | exact ⟨(), trivial⟩
  rintro _ _
  simp only [Ty.z, EV, Nat.reduceEqDiff, Nat.reduceBEq, Nat.reduceLT, Nat.reduceLeDiff, Nat.reduceAdd, Nat.reduceSub, reduceIte]
  rcases q : tyHead t with _ | _
  · have e : tyOk l t = false := by rw [tyOk_eq, q, Bool.false_and]
    simp only [Bool.not_false, EV, Nat.reduceEqDiff, Nat.reduceBEq, Nat.reduceLT, Nat.reduceLeDiff, Nat.reduceAdd, Nat.reduceSub, reduceIte]
    simp only [e, EV, Nat.reduceEqDiff, Nat.reduceBEq, Nat.reduceLT, Nat.reduceLeDiff, Nat.reduceAdd, Nat.reduceSub, reduceIte, evRE, retVC, cellV', evR, nfz, nfzs, nfzss, List.contains_nil, List.contains_cons, Bool.or_false, or_true]
  have e : tyOk l t = tyRest l t := by rw [tyOk_eq, q, Bool.true_and]
  have hnum : (decide (0 ≤ t.base) && decide (t.base ≤ (l.length : Int) - 1)) = isNum l t.base := rfl
  simp only [Bool.not_true, EV, Nat.reduceEqDiff, Nat.reduceBEq, Nat.reduceLT, Nat.reduceLeDiff, Nat.reduceAdd, Nat.reduceSub, reduceIte]
  repeat' (first
    | (refine gK_cut (fun h => ?_) (fun h => ?_) <;> simp only [h, bne, hw, EV, Nat.reduceEqDiff, Nat.reduceBEq, Nat.reduceLT, Nat.reduceLeDiff, Nat.reduceAdd, Nat.reduceSub, reduceIte])
    | (refine cK_cut (fun h => ?_) (fun h => ?_) <;> simp only [h, bne, hw, EV, Nat.reduceEqDiff, Nat.reduceBEq, Nat.reduceLT, Nat.reduceLeDiff, Nat.reduceAdd, Nat.reduceSub, reduceIte])
    | (refine callK_i d7 ?_ <;> simp only [h, bne, hw, EV, Nat.reduceEqDiff, Nat.reduceBEq, Nat.reduceLT, Nat.reduceLeDiff, Nat.reduceAdd, Nat.reduceSub, reduceIte])
    | (refine callK_i (d172 _ _ _) ?_ <;> simp only [h, bne, hw, EV, Nat.reduceEqDiff, Nat.reduceBEq, Nat.reduceLT, Nat.reduceLeDiff, Nat.reduceAdd, Nat.reduceSub, reduceIte])
    | (refine callK_i (d286 l _ _ _ hl) ?_ <;> simp only [h, bne, hw, EV, Nat.reduceEqDiff, Nat.reduceBEq, Nat.reduceLT, Nat.reduceLeDiff, Nat.reduceAdd, Nat.reduceSub, reduceIte]))
  all_goals (try simp only [Bool.not_eq_true', Bool.not_eq_false'] at *)
  all_goals first
    | exact absurd ((‹(t.kind == 5) = false›).symm.trans ‹(t.kind == 5) = true›) Bool.false_ne_true
    | (simp only [e, tyRest, *, Bool.not_true, Bool.not_false, Bool.true_and, Bool.false_and, Bool.and_true, Bool.and_false, Bool.true_or, Bool.false_or, Bool.or_false, Bool.or_true, Bool.false_eq_true, if_true, if_false, EV, Nat.reduceEqDiff, Nat.reduceBEq, Nat.reduceLT, Nat.reduceLeDiff, Nat.reduceAdd, Nat.reduceSub, reduceIte, evRE, retVC, cellV', evR, nfz, nfzs, nfzss, List.contains_nil, List.contains_cons, Bool.or_false, or_true]
       done)
end Go.AM
namespace Go.AM
set_option linter.unusedVariables false
set_option linter.unusedSimpArgs false
def unlAt (l : List Str) (i : Nat) (h : i < l.length) : Prop := nameOk l[i].s = true ∧ (l.take i).any (eqSt l[i].s) = false
def unlTo (l : List Str) (n : Nat) : Prop := ∀ i (h : i < l.length), i < n → unlAt l i h
open Classical in
noncomputable def unl (l : List Str) : Bool := decide (unlTo l l.length)
theorem unlTo_succ {l : List Str} {i : Nat} (h : i < l.length) (h1 : unlTo l i) (h2 : unlAt l i h) : unlTo l (i + 1) := by
  intro j hj hji
  by_cases e : j = i
  · subst e; exact h2
  · exact h1 j hj (by omega)
theorem unl_no {l : List Str} {i : Nat} (h : i < l.length) (h2 : ¬ unlAt l i h) : unl l = false := by
  simp only [unl, decide_eq_false_iff_not]
  exact fun h1 => h2 (h1 i h h)
theorem unl_yes {l : List Str} (h : unlTo l l.length) : unl l = true := by simp [unl, h]
theorem unl_iff {l : List Str} : unl l = true ↔ unlTo l l.length := by simp [unl]
def m144 : MC :=
 (.seq (.reg [Xb 2 (.asg .fb)]) (.seq (.seq (.reg [Xm 5 0, Xn 6 5, Xq 7 (.mov (.i 0))]) (.block 0 (.loop [0, 5, 6, 7] (.seq (.reg [Xq 8 (.bin false .lss (.t 7) (.t 6))]) (.seq (.cond (.t 8) .skip (.exit 0)) (.seq (.block 1 (.seq (.reg [Xm 9 7, Xi 10 1 5 7, Xl 11 1 10, Xa 3 9, Xa 4 11]) (.seq (.reg [Xm 12 4, Xb 13 (.call (.fn 143) false [.lend (.t 12)]), Xq 14 (.un .not (.t 13)), Xm 15 14, Xu 16 15
 (.mov (.t 0)), Xu 17 15 (.mov (.t 3)), Xu 18 15 (.slc false 1 (.t 16) none (some (.t 17))), Xu 19 15 (.mov (.t 4)), XU 20 15 (.call (.fn 147) false [.lend (.t 18), .lend (.t 19)]), Xq 21 (.pick (.t 15) .tb (.t 20))]) (.cond (.t 21) (.seq (.reg [Xb 2 (.asg .fb)]) .ret) .skip)))) (.reg [Xq 22 (.bin false .add (.t 7) (.i 1)), Xm 7 22]))))))) (.seq (.reg [Xb 2 (.asg .tb)]) .ret)))
set_option maxRecDepth 100000 in
theorem d144 (l : List Str) (hl : (l.length : Int) ≤ 1048576000) (hs : ∀ s ∈ l, (s.s.size : Int) ≤ 1048576) : Does Go.Proofs.Tryz.prog 144 [.fsl 1 (l.map Str.z)] false (.v (.bool (unl l))) [.dead] := by
  refine does_intro (mc := m144) (N := 23) (rs := [2]) (fx := []) 1 rfl (by decide +kernel) ?_
  simp only [m144, EV, Nat.reduceEqDiff, Nat.reduceBEq, Nat.reduceLT, Nat.reduceLeDiff, Nat.reduceAdd, Nat.reduceSub, reduceIte]
  refine awp_loop (fun i : Nat => i ≤ l.length ∧ unlTo l i) (fun i => stl [(0, .fsl 1 (l.map Str.z)), (5, .fsl 1 (l.map Str.z)), (6, .v (.int .i64 (l.length : Int))), (7, .v (.int .i64 (i : Int)))]) (fun i => l.length - i) 0 ⟨Nat.zero_le _, fun j hj h => absurd h (by omega)⟩ ?_ ?_
  · simp only [EV, Nat.reduceEqDiff, Nat.reduceBEq, Nat.reduceLT, Nat.reduceLeDiff, Nat.reduceAdd, Nat.reduceSub, reduceIte]
    rfl
  · rintro i ⟨hi, hok⟩
    simp only [EV, Nat.reduceEqDiff, Nat.reduceBEq, Nat.reduceLT, Nat.reduceLeDiff, Nat.reduceAdd, Nat.reduceSub, reduceIte]
    refine cK_cut (fun h => ?_) (fun h => ?_)
    · have h1 : i < l.length := by simpa using h
      have h2 : (i : Int) < (l.length : Int) := by omega
      have hsz := hs _ (List.getElem_mem h1)
      clear h
      simp only [nth_map h1, h2, Str.z, EV, Nat.reduceEqDiff, Nat.reduceBEq, Nat.reduceLT, Nat.reduceLeDiff, Nat.reduceAdd, Nat.reduceSub, reduceIte]
      refine callK_i (d143 l[i].s (by omega)) ?_
      simp only [EV, Nat.reduceEqDiff, Nat.reduceBEq, Nat.reduceLT, Nat.reduceLeDiff, Nat.reduceAdd, Nat.reduceSub, reduceIte]
      rcases e1 : nameOk l[i].s with _ | _
      · have e : unl l = false := unl_no h1 (by rintro ⟨g, _⟩; rw [e1] at g; cases g)
        simp only [Bool.not_false, EV, Nat.reduceEqDiff, Nat.reduceBEq, Nat.reduceLT, Nat.reduceLeDiff, Nat.reduceAdd, Nat.reduceSub, reduceIte]
        simp only [e, EV, Nat.reduceEqDiff, Nat.reduceBEq, Nat.reduceLT, Nat.reduceLeDiff, Nat.reduceAdd, Nat.reduceSub, reduceIte, evRE, retVC, cellV', evR, nfz, nfzs, nfzss, List.contains_nil, List.contains_cons, Bool.or_false, or_true]
      simp only [Bool.not_true, EV, Nat.reduceEqDiff, Nat.reduceBEq, Nat.reduceLT, Nat.reduceLeDiff, Nat.reduceAdd, Nat.reduceSub, reduceIte]
      refine ⟨by omega, by omega, ?_⟩
      have ht : List.take (i : Int).toNat (List.map Str.z l) = List.map Str.z (l.take i) := by rw [Int.toNat_natCast, List.map_take]
      simp only [Int.toNat_natCast] at ht
      rw [ht]
      refine callK_i (d147 (l.take i) l[i].s (by simp; omega)) ?_
      simp only [EV, Nat.reduceEqDiff, Nat.reduceBEq, Nat.reduceLT, Nat.reduceLeDiff, Nat.reduceAdd, Nat.reduceSub, reduceIte]
      rcases e2 : (l.take i).any (eqSt l[i].s) with _ | _
      · simp only [EV, Nat.reduceEqDiff, Nat.reduceBEq, Nat.reduceLT, Nat.reduceLeDiff, Nat.reduceAdd, Nat.reduceSub, reduceIte]
        rw [w64 _ (by omega)]
        exact ⟨i + 1, ⟨h1, unlTo_succ h1 hok ⟨e1, e2⟩⟩, by omega, rfl⟩
      · have e : unl l = false := unl_no h1 (by rintro ⟨_, g⟩; rw [e2] at g; cases g)
        simp only [EV, Nat.reduceEqDiff, Nat.reduceBEq, Nat.reduceLT, Nat.reduceLeDiff, Nat.reduceAdd, Nat.reduceSub, reduceIte]
        simp only [e, EV, Nat.reduceEqDiff, Nat.reduceBEq, Nat.reduceLT, Nat.reduceLeDiff, Nat.reduceAdd, Nat.reduceSub, reduceIte, evRE, retVC, cellV', evR, nfz, nfzs, nfzss, List.contains_nil, List.contains_cons, Bool.or_false, or_true]
    · have h1 : i = l.length := by have : ¬ (i : Int) < l.length := by simpa using h
                                   omega
      subst h1
      simp only [EV, Nat.reduceEqDiff, Nat.reduceBEq, Nat.reduceLT, Nat.reduceLeDiff, Nat.reduceAdd, Nat.reduceSub, reduceIte]
      simp only [unl_yes hok, EV, Nat.reduceEqDiff, Nat.reduceBEq, Nat.reduceLT, Nat.reduceLeDiff, Nat.reduceAdd, Nat.reduceSub, reduceIte, evRE, retVC, cellV', evR, nfz, nfzs, nfzss, List.contains_nil, List.contains_cons, Bool.or_false, or_true]
def m212 : MC :=
 (.seq (.reg [Xb 2 (.asg .fb)]) (.seq (.reg [Xm 3 0, Xb 4 (.call (.fn 171) false [.lend (.t 3), .lend (.i (-1000000000)), .lend (.i 1000000000)]), Xa 2 4]) .ret))
theorem d212 (n : Int) : Does Go.Proofs.Tryz.prog 212 [.v (.int .i64 n)] false (.v (.bool (decide (-1000000000 ≤ n) && decide (n ≤ 1000000000)))) [.dead] := by
  refine does_intro (mc := m212) (N := 5) (rs := [2]) (fx := []) 1 rfl (by decide +kernel) ?_
  simp only [m212, EV, Nat.reduceEqDiff, Nat.reduceBEq, Nat.reduceLT, Nat.reduceLeDiff, Nat.reduceAdd, Nat.reduceSub, reduceIte]
  refine callK_i (d171 n (-1000000000) 1000000000) ?_
  simp only [EV, Nat.reduceEqDiff, Nat.reduceBEq, Nat.reduceLT, Nat.reduceLeDiff, Nat.reduceAdd, Nat.reduceSub, reduceIte]
  simp only [EV, Nat.reduceEqDiff, Nat.reduceBEq, Nat.reduceLT, Nat.reduceLeDiff, Nat.reduceAdd, Nat.reduceSub, reduceIte, evRE, retVC, cellV', evR, nfz, nfzs, nfzss, List.contains_nil, List.contains_cons, Bool.or_false, or_true]
def m139 : MC :=
 (.seq (.reg [Xb 4 (.asg .fb)]) (.seq (.seq (.reg [Xm 7 0, Xn 8 7, Xq 9 (.mov (.i 0))]) (.block 0 (.loop [0, 1, 7, 8, 9] (.seq (.reg [Xq 10 (.bin false .lss (.t 9) (.t 8))]) (.seq (.cond (.t 10) .skip (.exit 0)) (.seq (.block 1 (.seq (.reg [Xi 11 1 7 9, Xl 12 1 11, Xa 6 12]) (.seq (.reg [Xm 13 6, Xm 14 1, Xq 15 (.bin false .eql (.t 13) (.t 14))]) (.cond (.t 15) (.seq (.reg [Xb 4 (.asg .tb)]) .ret)
 .skip)))) (.reg [Xq 16 (.bin false .add (.t 9) (.i 1)), Xm 9 16]))))))) (.seq (.reg [Xb 4 (.asg .fb)]) .ret)))
theorem d139 (l : List Str) (v : ByteArray) (hl : l.length < 9223372036854775807) : Does Go.Proofs.Tryz.prog 139 [.fsl 1 (l.map Str.z), .v (.string v)] false (.v (.bool (l.any (eqSt v)))) [.dead, .dead] := by
  refine does_intro (mc := m139) (N := 17) (rs := [4]) (fx := []) 2 rfl (by decide +kernel) ?_
  simp only [m139, EV, Nat.reduceEqDiff, Nat.reduceBEq, Nat.reduceLT, Nat.reduceLeDiff, Nat.reduceAdd, Nat.reduceSub, reduceIte]
  refine awp_loop (fun i : Nat => i ≤ l.length ∧ (l.take i).any (eqSt v) = false) (fun i => stl [(0, .fsl 1 (l.map Str.z)), (1, .v (.string v)), (7, .fsl 1 (l.map Str.z)), (8, .v (.int .i64 (l.length : Int))), (9, .v (.int .i64 (i : Int)))]) (fun i => l.length - i) 0 ⟨Nat.zero_le _, by simp⟩ ?_ ?_
  · simp only [EV, Nat.reduceEqDiff, Nat.reduceBEq, Nat.reduceLT, Nat.reduceLeDiff, Nat.reduceAdd, Nat.reduceSub, reduceIte]
    rfl
  · rintro i ⟨hi, hno⟩
    simp only [EV, Nat.reduceEqDiff, Nat.reduceBEq, Nat.reduceLT, Nat.reduceLeDiff, Nat.reduceAdd, Nat.reduceSub, reduceIte]
    refine cK_cut (fun h => ?_) (fun h => ?_)
    · have h1 : i < l.length := by simpa using h
      have h2 : (i : Int) < (l.length : Int) := by omega
      clear h
      simp only [nth_map h1, h2, Str.z, EV, Nat.reduceEqDiff, Nat.reduceBEq, Nat.reduceLT, Nat.reduceLeDiff, Nat.reduceAdd, Nat.reduceSub, reduceIte]
      have ec : (l[i].s.toList == v.toList) = eqSt v l[i] := Bool.beq_comm
      rw [ec]
      rcases e : eqSt v l[i] with _ | _
      · simp only [EV, Nat.reduceEqDiff, Nat.reduceBEq, Nat.reduceLT, Nat.reduceLeDiff, Nat.reduceAdd, Nat.reduceSub, reduceIte]
        rw [w64 _ (by omega)]
        exact ⟨i + 1, ⟨h1, by rw [List.take_succ_eq_append_getElem h1, List.any_append, hno]; simp [e]⟩, by omega, rfl⟩
      · have e2 : l.any (eqSt v) = true := List.any_eq_true.2 ⟨_, List.getElem_mem h1, e⟩
        simp only [EV, Nat.reduceEqDiff, Nat.reduceBEq, Nat.reduceLT, Nat.reduceLeDiff, Nat.reduceAdd, Nat.reduceSub, reduceIte]
        simp only [e2, EV, Nat.reduceEqDiff, Nat.reduceBEq, Nat.reduceLT, Nat.reduceLeDiff, Nat.reduceAdd, Nat.reduceSub, reduceIte, evRE, retVC, cellV', evR, nfz, nfzs, nfzss, List.contains_nil, List.contains_cons, Bool.or_false, or_true]
    · have h1 : i = l.length := by have : ¬ (i : Int) < l.length := by simpa using h
                                   omega
      subst h1
      rw [List.take_length] at hno
      simp only [EV, Nat.reduceEqDiff, Nat.reduceBEq, Nat.reduceLT, Nat.reduceLeDiff, Nat.reduceAdd, Nat.reduceSub, reduceIte]
      simp only [hno, EV, Nat.reduceEqDiff, Nat.reduceBEq, Nat.reduceLT, Nat.reduceLeDiff, Nat.reduceAdd, Nat.reduceSub, reduceIte, evRE, retVC, cellV', evR, nfz, nfzs, nfzss, List.contains_nil, List.contains_cons, Bool.or_false, or_true]
end Go.AM
namespace Go.AM
set_option linter.unusedVariables false
set_option linter.unusedSimpArgs false
def parNm (p q : Par) : Bool := q.name.toList == p.name.toList
noncomputable def parAt (l : List Ty) (ps : List Par) (i : Nat) (h : i < ps.length) : Bool := nameOk ps[i].name && (isNum l ps[i].typ && !((ps.take i).any (parNm ps[i])))
def parTo (l : List Ty) (ps : List Par) (n : Nat) : Prop := ∀ i (h : i < ps.length), i < n → parAt l ps i h = true
open Classical in
noncomputable def parsOk (l : List Ty) (ps : List Par) : Bool := decide (parTo l ps ps.length)
theorem parTo_succ {l : List Ty} {ps : List Par} {i : Nat} (h : i < ps.length) (h1 : parTo l ps i) (h2 : parAt l ps i h = true) : parTo l ps (i + 1) := by
  intro j hj hji
  by_cases e : j = i
  · subst e; exact h2
  · exact h1 j hj (by omega)
theorem parsOk_no {l : List Ty} {ps : List Par} {i : Nat} (h : i < ps.length) (h2 : parAt l ps i h = false) : parsOk l ps = false := by
  simp only [parsOk, decide_eq_false_iff_not]
  intro h1
  have := h1 i h h
  rw [h2] at this; cases this
theorem parsOk_yes {l : List Ty} {ps : List Par} (h : parTo l ps ps.length) : parsOk l ps = true := by simp [parsOk, h]
theorem parsOk_nil (l : List Ty) : parsOk l [] = true := parsOk_yes (fun i h _ => by simp at h)
def obPre (o : Ob) : Bool := (decide (0 ≤ o.mark) && decide (o.mark ≤ 2)) && (!(o.mark == 2) || o.kind == 3) && decide ((o.params.length : Int) ≤ 4) && (o.kind == 4 || !(decide (0 < (o.params.length : Int))))
def wholeB (n : Int) : Bool := decide (-1000000000 ≤ n) && decide (n ≤ 1000000000)
noncomputable def obKd (l : List Ty) (o : Ob) : Bool :=
  if (o.kind == 1) = true then o.typ == 0 && wholeB o.value
  else if (o.kind == 2 || o.kind == 3) = true then isNum l o.typ && o.value == 0
  else if (o.kind == 4) = true then (o.typ == -1 || isNum l o.typ) && o.value == 0 else false
theorem evP (c : List AV) (K : AV → Prop) : nilchkV (.fptr c) K = K (.fptr c) := rfl
noncomputable def obOk (l : List Ty) (o : Ob) : Bool := obPre o && (parsOk l o.params && obKd l o)
def m211 : MC :=
 (.seq (.reg [Xb 2 (.box 182 (.t 0)), Xb 3 (.asg .fb)]) (.seq (.reg [Xf 4 0 2, Xl 5 1 4, Xf 6 0 1, Xl 7 1 6, Xq 8 (.bin false .eql (.t 5) (.t 7)), Xa 3 8]) .ret))
theorem d211 (q p : Par) : Does Go.Proofs.Tryz.prog 211 [.agg q.z, .fptr p.z] false (.v (.bool (parNm p q))) [.dead, .dead] := by
  refine does_intro (mc := m211) (N := 9) (rs := [3]) (fx := []) 2 rfl (by decide +kernel) ?_
  simp only [m211, Par.z, EV, Nat.reduceEqDiff, Nat.reduceBEq, Nat.reduceLT, Nat.reduceLeDiff, Nat.reduceAdd, Nat.reduceSub, reduceIte]
  simp only [parNm, EV, Nat.reduceEqDiff, Nat.reduceBEq, Nat.reduceLT, Nat.reduceLeDiff, Nat.reduceAdd, Nat.reduceSub, reduceIte, evRE, retVC, cellV', evR, nfz, nfzs, nfzss, List.contains_nil, List.contains_cons, Bool.or_false, or_true]
def m146 : MC :=
 (.seq (.reg [Xb 3 (.box 69 (.t 1)), Xb 4 (.asg .fb)]) (.join [0, 3] (.seq (.reg [Xf 7 2 3, Xl 8 1 7, Xb 9 (.call (.fn 171) false [.lend (.t 8), .lend (.i 0), .lend (.i 2)]), Xq 10 (.un .not (.t 9)), Xm 11 10, Xu 12 11 (.fad 2 (.t 3)), Xu 13 11 (.load false 1 (.t 12)), Xu 14 11 (.bin false .eql (.t 13) (.i 2)), Xu 15 11 (.mov (.t 14)), Xt 16 15 (.fad 1 (.t 3)), Xt 17 15 (.load false 1 (.t 16)), Xt
 18 15 (.bin false .neq (.t 17) (.i 3)), Xu 19 11 (.pick (.t 15) (.t 18) .fb), Xq 20 (.pick (.t 11) .tb (.t 19)), Xm 21 20, Xu 22 21 (.fad 5 (.t 3)), Xu 23 21 (.load false 1 (.t 22)), Xu 24 21 (.len false (.t 23)), Xu 25 21 (.bin false .gtr (.t 24) (.i 4)), Xq 26 (.pick (.t 21) .tb (.t 25)), Xm 27 26, Xu 28 27 (.fad 1 (.t 3)), Xu 29 27 (.load false 1 (.t 28)), Xu 30 27 (.bin false .neq (.t 29) (.i
 4)), Xu 31 27 (.mov (.t 30)), Xt 32 31 (.fad 5 (.t 3)), Xt 33 31 (.load false 1 (.t 32)), Xt 34 31 (.len false (.t 33)), Xt 35 31 (.bin false .gtr (.t 34) (.i 0)), Xu 36 27 (.pick (.t 31) (.t 35) .fb), Xq 37 (.pick (.t 27) .tb (.t 36))]) (.cond (.t 37) (.seq (.reg [Xb 4 (.asg .fb)]) .ret) .skip)) (.seq (.seq (.reg [Xf 38 5 3, Xl 39 1 38, Xn 40 39, Xq 41 (.mov (.i 0))]) (.block 0 (.loop [0, 3, 38,
 39, 40, 41] (.seq (.reg [Xq 42 (.bin false .lss (.t 41) (.t 40))]) (.seq (.cond (.t 42) .skip (.exit 0)) (.seq (.block 1 (.seq (.reg [Xm 43 41, Xi 44 3 39 41, XL 45 3 44, Xb 6 (.alloc 182 [.z, .b, .i]), Xa 5 43, Xz (.store 3 (.t 6) (.t 45))]) (.seq (.dreg [Xf 46 0 6, Xl 47 1 46, Xb 48 (.call (.fn 143) false [.lend (.t 47)]), Xq 49 (.un .not (.t 48)), Xm 50 49, Xu 51 50 (.mov (.t 0)), Xu 52 50
 (.nilchk (.t 51)), Xu 53 50 (.fad 2 (.t 52)), Xu 54 50 (.load false 1 (.t 53)), Xu 55 50 (.fad 2 (.t 6)), Xu 56 50 (.load false 1 (.t 55)), XU 57 50 (.call (.fn 95) false [.lend (.t 54), .lend (.t 56)]), Xu 58 50 (.un .not (.t 57)), Xq 59 (.pick (.t 50) .tb (.t 58)), Xm 60 59, Xu 61 60 (.fad 5 (.t 3)), Xu 62 60 (.load false 1 (.t 61)), Xu 63 60 (.mov (.t 5)), Xu 64 60 (.slc false 3 (.t 62) none
 (some (.t 63))), Xu 65 60 (.mkf 211 [.t 6]), XU 66 60 (.call (.fn 210) false [.lend (.t 64), .lend (.t 65)]), Xq 67 (.pick (.t 60) .tb (.t 66))]) (.cond (.t 67) (.seq (.reg [Xb 4 (.asg .fb)]) .ret) .skip)))) (.reg [Xq 68 (.bin false .add (.t 41) (.i 1)), Xm 41 68]))))))) (.join [] (.seq (.reg [Xf 69 1 3, Xl 70 1 69]) (.block 2 (.seq (.reg [Xq 72 (.bin false .eql (.t 70) (.i 1)), Xa 71 72]) (.cond
 (.t 71) (.seq (.reg [Xf 73 3 3, Xl 74 1 73, Xq 75 (.bin false .eql (.t 74) (.i 0)), Xm 76 75, Xt 77 76 (.fad 4 (.t 3)), Xt 78 76 (.load false 1 (.t 77)), XT 79 76 (.call (.fn 212) false [.lend (.t 78)]), Xq 80 (.pick (.t 76) (.t 79) .fb), Xa 4 80]) .ret) (.join [0, 3, 70, 81] (.seq (.reg [Xq 82 (.bin false .eql (.t 70) (.i 2)), Xa 81 82]) (.cond (.t 81) .skip (.reg [Xq 83 (.bin false .eql (.t 70)
 (.i 3)), Xa 81 83]))) (.cond (.t 81) (.seq (.dreg [Xm 84 0, Xq 85 (.nilchk (.t 84)), Xf 86 2 85, Xl 87 1 86, Xf 88 3 3, Xl 89 1 88, Xb 90 (.call (.fn 95) false [.lend (.t 87), .lend (.t 89)]), Xm 91 90, Xt 92 91 (.fad 4 (.t 3)), Xt 93 91 (.load false 1 (.t 92)), Xt 94 91 (.bin false .eql (.t 93) (.i 0)), Xq 95 (.pick (.t 91) (.t 94) .fb), Xm 4 95]) .ret) (.seq (.reg [Xq 97 (.bin false .eql (.t 70)
 (.i 4)), Xa 96 97]) (.cond (.t 96) (.seq (.dreg [Xf 98 3 3, Xl 99 1 98, Xq 100 (.bin false .eql (.t 99) (.i (-1))), Xm 101 100, Xu 102 101 (.mov (.t 0)), Xu 103 101 (.nilchk (.t 102)), Xu 104 101 (.fad 2 (.t 103)), Xu 105 101 (.load false 1 (.t 104)), Xu 106 101 (.fad 3 (.t 3)), Xu 107 101 (.load false 1 (.t 106)), XU 108 101 (.call (.fn 95) false [.lend (.t 105), .lend (.t 107)]), Xq 109 (.pick
 (.t 101) .tb (.t 108)), Xm 110 109, Xt 111 110 (.fad 4 (.t 3)), Xt 112 110 (.load false 1 (.t 111)), Xt 113 110 (.bin false .eql (.t 112) (.i 0)), Xq 114 (.pick (.t 110) (.t 113) .fb), Xm 4 114]) .ret) .skip)))))))) (.seq (.reg [Xb 4 (.asg .fb)]) .ret)))))
set_option maxHeartbeats 4000000 in
set_option maxRecDepth 100000 in
theorem d146 (s : Scope) (o : Ob) (hs : s.sm) (ho : o.sm) : Does Go.Proofs.Tryz.prog 146 [.fptr s.z, .agg o.z] false (.v (.bool (obOk s.types o))) [.dead, .dead] := by
  refine does_intro (mc := m146) (N := 115) (rs := [4]) (fx := []) 2 rfl (by decide +kernel) ?_
  simp only [m146, Ob.z, EV, Nat.reduceEqDiff, Nat.reduceBEq, Nat.reduceLT, Nat.reduceLeDiff, Nat.reduceAdd, Nat.reduceSub, reduceIte]
  refine awp_join (fun _ : Unit => obPre o = true) (fun _ => stl [(0, .fptr s.z), (3, .box 69 o.z)]) ?_ ?_
  · simp only [EV, Nat.reduceEqDiff, Nat.reduceBEq, Nat.reduceLT, Nat.reduceLeDiff, Nat.reduceAdd, Nat.reduceSub, reduceIte]
    refine callK_i (d171 o.mark 0 2) ?_
    simp only [EV, Nat.reduceEqDiff, Nat.reduceBEq, Nat.reduceLT, Nat.reduceLeDiff, Nat.reduceAdd, Nat.reduceSub, reduceIte]
    repeat' (first
    | (refine gK_cut (fun h => ?_) (fun h => ?_) <;> simp only [h, EV, Nat.reduceEqDiff, Nat.reduceBEq, Nat.reduceLT, Nat.reduceLeDiff, Nat.reduceAdd, Nat.reduceSub, reduceIte])
    | (refine cK_cut (fun h => ?_) (fun h => ?_) <;> simp only [h, EV, Nat.reduceEqDiff, Nat.reduceBEq, Nat.reduceLT, Nat.reduceLeDiff, Nat.reduceAdd, Nat.reduceSub, reduceIte]))
    all_goals first
      | (have e : obPre o = false := by
           simp_all [obPre] <;> omega
         simp only [obOk, e, Bool.false_and, EV, Nat.reduceEqDiff, Nat.reduceBEq, Nat.reduceLT, Nat.reduceLeDiff, Nat.reduceAdd, Nat.reduceSub, reduceIte, evRE, retVC, cellV', evR, nfz, nfzs, nfzss, List.contains_nil, List.contains_cons, Bool.or_false, or_true]
         done)
      | (have e : obPre o = true := by
           simp_all [obPre] <;> omega
         exact ⟨(), e, rfl⟩)
  · rintro _ hpre
    have hpl : o.params.length ≤ 4 := by
      simp only [obPre, Bool.and_eq_true, decide_eq_true_eq] at hpre
      omega
    simp only [Ob.z, Scope.z, EV, Nat.reduceEqDiff, Nat.reduceBEq, Nat.reduceLT, Nat.reduceLeDiff, Nat.reduceAdd, Nat.reduceSub, reduceIte]
    refine awp_loop (fun i : Nat => i ≤ o.params.length ∧ parTo s.types o.params i) (fun i => stl [(0, .fptr s.z), (3, .box 69 o.z), (38, .ref 3 [] 0 5), (39, .fsl 3 (o.params.map Par.z)), (40, .v (.int .i64 (o.params.length : Int))), (41, .v (.int .i64 (i : Int)))]) (fun i => o.params.length - i) 0 ⟨Nat.zero_le _, fun j hj h => absurd h (by omega)⟩ ?_ ?_
    · simp only [Ob.z, Scope.z, EV, Nat.reduceEqDiff, Nat.reduceBEq, Nat.reduceLT, Nat.reduceLeDiff, Nat.reduceAdd, Nat.reduceSub, reduceIte]
      rfl
    rintro i ⟨hi, hok⟩
    simp only [Ob.z, Scope.z, EV, Nat.reduceEqDiff, Nat.reduceBEq, Nat.reduceLT, Nat.reduceLeDiff, Nat.reduceAdd, Nat.reduceSub, reduceIte]
    refine cK_cut (fun h => ?_) (fun h => ?_)
    · have h1 : i < o.params.length := by simpa using h
      have h2 : (i : Int) < (o.params.length : Int) := by omega
      have hno : parAt s.types o.params i h1 = false → obOk s.types o = false := fun e => by simp only [obOk, parsOk_no h1 e, Bool.false_and, Bool.and_false]
      unfold Ob.sm at ho
      unfold Scope.sm at hs
      have hps := ho.2.2.2.2.2.2 _ (List.getElem_mem h1)
      unfold Par.sm at hps
      clear h
      simp only [ParE, nth_map h1, h2, Par.z, Ob.z, Scope.z, EV, Nat.reduceEqDiff, Nat.reduceBEq, Nat.reduceLT, Nat.reduceLeDiff, Nat.reduceAdd, Nat.reduceSub, reduceIte]
      refine callD_i (d143 o.params[i].name (by omega)) rfl ?_
      simp only [EV, Nat.reduceEqDiff, Nat.reduceBEq, Nat.reduceLT, Nat.reduceLeDiff, Nat.reduceAdd, Nat.reduceSub, reduceIte]
      rcases e1 : nameOk o.params[i].name with _ | _
      · have e : obOk s.types o = false := hno (by simp only [parAt, e1, Bool.false_and])
        simp only [Bool.not_false, EV, Nat.reduceEqDiff, Nat.reduceBEq, Nat.reduceLT, Nat.reduceLeDiff, Nat.reduceAdd, Nat.reduceSub, reduceIte]
        simp only [e, EV, Nat.reduceEqDiff, Nat.reduceBEq, Nat.reduceLT, Nat.reduceLeDiff, Nat.reduceAdd, Nat.reduceSub, reduceIte, evRE, retVC, cellV', evR, nfz, nfzs, nfzss, List.contains_nil, List.contains_cons, Bool.or_false, or_true]
      simp only [evP, Bool.not_true, Par.z, Ob.z, Scope.z, EV, Nat.reduceEqDiff, Nat.reduceBEq, Nat.reduceLT, Nat.reduceLeDiff, Nat.reduceAdd, Nat.reduceSub, reduceIte]
      refine callD_i (d95 s.types o.params[i].typ hs.2.2.1.1) rfl ?_
      simp only [EV, Nat.reduceEqDiff, Nat.reduceBEq, Nat.reduceLT, Nat.reduceLeDiff, Nat.reduceAdd, Nat.reduceSub, reduceIte]
      rcases e2 : isNum s.types o.params[i].typ with _ | _
      · have e : obOk s.types o = false := hno (by simp only [parAt, e1, e2, Bool.true_and, Bool.false_and])
        simp only [Bool.not_false, EV, Nat.reduceEqDiff, Nat.reduceBEq, Nat.reduceLT, Nat.reduceLeDiff, Nat.reduceAdd, Nat.reduceSub, reduceIte]
        simp only [e, EV, Nat.reduceEqDiff, Nat.reduceBEq, Nat.reduceLT, Nat.reduceLeDiff, Nat.reduceAdd, Nat.reduceSub, reduceIte, evRE, retVC, cellV', evR, nfz, nfzs, nfzss, List.contains_nil, List.contains_cons, Bool.or_false, or_true]
      simp only [Bool.not_true, ParE, nth_map h1, h2, Par.z, Ob.z, Scope.z, EV, Nat.reduceEqDiff, Nat.reduceBEq, Nat.reduceLT, Nat.reduceLeDiff, Nat.reduceAdd, Nat.reduceSub, reduceIte]
      refine ⟨by omega, by omega, ?_⟩
      rw [← List.map_take]
      refine callD_i (d210 (o.params.take i) (by simp; omega) 211 [.fptr o.params[i].z] (parNm o.params[i]) rfl rfl (fun _ => rfl) (fun _ => rfl) (fun q _ => d211 q o.params[i])) rfl ?_
      simp only [EV, Nat.reduceEqDiff, Nat.reduceBEq, Nat.reduceLT, Nat.reduceLeDiff, Nat.reduceAdd, Nat.reduceSub, reduceIte]
      rcases e3 : (o.params.take i).any (parNm o.params[i]) with _ | _
      · simp only [EV, Nat.reduceEqDiff, Nat.reduceBEq, Nat.reduceLT, Nat.reduceLeDiff, Nat.reduceAdd, Nat.reduceSub, reduceIte]
        rw [w64 _ (by omega)]
        exact ⟨i + 1, ⟨h1, parTo_succ h1 hok (by simp only [parAt, e1, e2, e3, Bool.not_false, Bool.and_self])⟩, by omega, rfl⟩
      · have e : obOk s.types o = false := hno (by simp only [parAt, e1, e2, e3, Bool.not_true, Bool.and_false])
        simp only [EV, Nat.reduceEqDiff, Nat.reduceBEq, Nat.reduceLT, Nat.reduceLeDiff, Nat.reduceAdd, Nat.reduceSub, reduceIte]
        simp only [e, EV, Nat.reduceEqDiff, Nat.reduceBEq, Nat.reduceLT, Nat.reduceLeDiff, Nat.reduceAdd, Nat.reduceSub, reduceIte, evRE, retVC, cellV', evR, nfz, nfzs, nfzss, List.contains_nil, List.contains_cons, Bool.or_false, or_true]
    · have h1 : i = o.params.length := by have : ¬ (i : Int) < o.params.length := by simpa using h
                                          omega
      subst h1
      have hv : obOk s.types o = obKd s.types o := by simp only [obOk, hpre, parsOk_yes hok, Bool.true_and]
      unfold Scope.sm at hs
      clear h
      rw [hv]
      simp only [Ob.z, Scope.z, EV, Nat.reduceEqDiff, Nat.reduceBEq, Nat.reduceLT, Nat.reduceLeDiff, Nat.reduceAdd, Nat.reduceSub, reduceIte]
      refine awp_join (fun _ : Unit => obKd s.types o = false) (fun _ => stl []) ?_ ?_
      · simp only [Ob.z, Scope.z, EV, Nat.reduceEqDiff, Nat.reduceBEq, Nat.reduceLT, Nat.reduceLeDiff, Nat.reduceAdd, Nat.reduceSub, reduceIte]
        rcases k1 : (o.kind == 1) with _ | _
        rotate_left
        · simp only [k1, Ob.z, Scope.z, EV, Nat.reduceEqDiff, Nat.reduceBEq, Nat.reduceLT, Nat.reduceLeDiff, Nat.reduceAdd, Nat.reduceSub, reduceIte]
          rcases t0 : (o.typ == 0) with _ | _
          · simp only [Ob.z, Scope.z, EV, Nat.reduceEqDiff, Nat.reduceBEq, Nat.reduceLT, Nat.reduceLeDiff, Nat.reduceAdd, Nat.reduceSub, reduceIte]
            simp only [obKd, k1, t0, if_true, Bool.false_and, EV, Nat.reduceEqDiff, Nat.reduceBEq, Nat.reduceLT, Nat.reduceLeDiff, Nat.reduceAdd, Nat.reduceSub, reduceIte, evRE, retVC, cellV', evR, nfz, nfzs, nfzss, List.contains_nil, List.contains_cons, Bool.or_false, or_true]
          · simp only [Ob.z, Scope.z, EV, Nat.reduceEqDiff, Nat.reduceBEq, Nat.reduceLT, Nat.reduceLeDiff, Nat.reduceAdd, Nat.reduceSub, reduceIte]
            refine callK_i (d212 o.value) ?_
            simp only [EV, Nat.reduceEqDiff, Nat.reduceBEq, Nat.reduceLT, Nat.reduceLeDiff, Nat.reduceAdd, Nat.reduceSub, reduceIte]
            simp only [obKd, wholeB, k1, t0, if_true, Bool.true_and, EV, Nat.reduceEqDiff, Nat.reduceBEq, Nat.reduceLT, Nat.reduceLeDiff, Nat.reduceAdd, Nat.reduceSub, reduceIte, evRE, retVC, cellV', evR, nfz, nfzs, nfzss, List.contains_nil, List.contains_cons, Bool.or_false, or_true]
        simp only [k1, Ob.z, Scope.z, EV, Nat.reduceEqDiff, Nat.reduceBEq, Nat.reduceLT, Nat.reduceLeDiff, Nat.reduceAdd, Nat.reduceSub, reduceIte]
        refine awp_join (fun b : Bool => b = (o.kind == 2 || o.kind == 3)) (fun b => stl [(0, .fptr s.z), (3, .box 69 o.z), (70, .v (.int .i64 o.kind)), (81, .v (.bool b))]) ?_ ?_
        · simp only [Ob.z, Scope.z, EV, Nat.reduceEqDiff, Nat.reduceBEq, Nat.reduceLT, Nat.reduceLeDiff, Nat.reduceAdd, Nat.reduceSub, reduceIte]
          rcases k2 : (o.kind == 2) with _ | _
          · simp only [k2, EV, Nat.reduceEqDiff, Nat.reduceBEq, Nat.reduceLT, Nat.reduceLeDiff, Nat.reduceAdd, Nat.reduceSub, reduceIte]
            exact ⟨_, (Bool.false_or _).symm, rfl⟩
          · simp only [k2, EV, Nat.reduceEqDiff, Nat.reduceBEq, Nat.reduceLT, Nat.reduceLeDiff, Nat.reduceAdd, Nat.reduceSub, reduceIte]
            exact ⟨true, rfl, rfl⟩
        rintro b rfl
        rcases k2 : (o.kind == 2 || o.kind == 3) with _ | _
        rotate_left
        · simp only [evP, Ob.z, Scope.z, EV, Nat.reduceEqDiff, Nat.reduceBEq, Nat.reduceLT, Nat.reduceLeDiff, Nat.reduceAdd, Nat.reduceSub, reduceIte]
          refine callD_i (d95 s.types o.typ hs.2.2.1.1) rfl ?_
          simp only [EV, Nat.reduceEqDiff, Nat.reduceBEq, Nat.reduceLT, Nat.reduceLeDiff, Nat.reduceAdd, Nat.reduceSub, reduceIte]
          rcases e4 : isNum s.types o.typ with _ | _
          · simp only [Ob.z, Scope.z, EV, Nat.reduceEqDiff, Nat.reduceBEq, Nat.reduceLT, Nat.reduceLeDiff, Nat.reduceAdd, Nat.reduceSub, reduceIte]
            simp only [obKd, k1, k2, e4, if_true, Bool.false_eq_true, if_false, Bool.false_and, EV, Nat.reduceEqDiff, Nat.reduceBEq, Nat.reduceLT, Nat.reduceLeDiff, Nat.reduceAdd, Nat.reduceSub, reduceIte, evRE, retVC, cellV', evR, nfz, nfzs, nfzss, List.contains_nil, List.contains_cons, Bool.or_false, or_true]
          · simp only [Ob.z, Scope.z, EV, Nat.reduceEqDiff, Nat.reduceBEq, Nat.reduceLT, Nat.reduceLeDiff, Nat.reduceAdd, Nat.reduceSub, reduceIte]
            simp only [obKd, k1, k2, e4, if_true, Bool.false_eq_true, if_false, Bool.true_and, EV, Nat.reduceEqDiff, Nat.reduceBEq, Nat.reduceLT, Nat.reduceLeDiff, Nat.reduceAdd, Nat.reduceSub, reduceIte, evRE, retVC, cellV', evR, nfz, nfzs, nfzss, List.contains_nil, List.contains_cons, Bool.or_false, or_true]
        simp only [Ob.z, Scope.z, EV, Nat.reduceEqDiff, Nat.reduceBEq, Nat.reduceLT, Nat.reduceLeDiff, Nat.reduceAdd, Nat.reduceSub, reduceIte]
        rcases k4 : (o.kind == 4) with _ | _
        · have e5 : obKd s.types o = false := by simp only [obKd, k1, k2, k4, Bool.false_eq_true, if_false]
          simp only [Ob.z, Scope.z, EV, Nat.reduceEqDiff, Nat.reduceBEq, Nat.reduceLT, Nat.reduceLeDiff, Nat.reduceAdd, Nat.reduceSub, reduceIte]
          first | exact ⟨(), e5⟩ | exact ⟨(), e5, rfl⟩ | exact e5
        simp only [Ob.z, Scope.z, EV, Nat.reduceEqDiff, Nat.reduceBEq, Nat.reduceLT, Nat.reduceLeDiff, Nat.reduceAdd, Nat.reduceSub, reduceIte]
        rcases t1 : (o.typ == -1) with _ | _
        · simp only [evP, Ob.z, Scope.z, EV, Nat.reduceEqDiff, Nat.reduceBEq, Nat.reduceLT, Nat.reduceLeDiff, Nat.reduceAdd, Nat.reduceSub, reduceIte]
          refine callD_i (d95 s.types o.typ hs.2.2.1.1) rfl ?_
          simp only [EV, Nat.reduceEqDiff, Nat.reduceBEq, Nat.reduceLT, Nat.reduceLeDiff, Nat.reduceAdd, Nat.reduceSub, reduceIte]
          rcases e4 : isNum s.types o.typ with _ | _
          · simp only [Ob.z, Scope.z, EV, Nat.reduceEqDiff, Nat.reduceBEq, Nat.reduceLT, Nat.reduceLeDiff, Nat.reduceAdd, Nat.reduceSub, reduceIte]
            simp only [obKd, k1, k2, k4, t1, e4, if_true, Bool.false_eq_true, if_false, Bool.false_or, Bool.false_and, EV, Nat.reduceEqDiff, Nat.reduceBEq, Nat.reduceLT, Nat.reduceLeDiff, Nat.reduceAdd, Nat.reduceSub, reduceIte, evRE, retVC, cellV', evR, nfz, nfzs, nfzss, List.contains_nil, List.contains_cons, Bool.or_false, or_true]
          · simp only [Ob.z, Scope.z, EV, Nat.reduceEqDiff, Nat.reduceBEq, Nat.reduceLT, Nat.reduceLeDiff, Nat.reduceAdd, Nat.reduceSub, reduceIte]
            simp only [obKd, k1, k2, k4, t1, e4, if_true, Bool.false_eq_true, if_false, Bool.false_or, Bool.true_and, EV, Nat.reduceEqDiff, Nat.reduceBEq, Nat.reduceLT, Nat.reduceLeDiff, Nat.reduceAdd, Nat.reduceSub, reduceIte, evRE, retVC, cellV', evR, nfz, nfzs, nfzss, List.contains_nil, List.contains_cons, Bool.or_false, or_true]
        · simp only [evP, Ob.z, Scope.z, EV, Nat.reduceEqDiff, Nat.reduceBEq, Nat.reduceLT, Nat.reduceLeDiff, Nat.reduceAdd, Nat.reduceSub, reduceIte]
          simp only [obKd, k1, k2, k4, t1, if_true, Bool.false_eq_true, if_false, Bool.true_or, Bool.true_and, EV, Nat.reduceEqDiff, Nat.reduceBEq, Nat.reduceLT, Nat.reduceLeDiff, Nat.reduceAdd, Nat.reduceSub, reduceIte, evRE, retVC, cellV', evR, nfz, nfzs, nfzss, List.contains_nil, List.contains_cons, Bool.or_false, or_true]
      · rintro _ e5
        simp only [EV, Nat.reduceEqDiff, Nat.reduceBEq, Nat.reduceLT, Nat.reduceLeDiff, Nat.reduceAdd, Nat.reduceSub, reduceIte]
        simp only [e5, EV, Nat.reduceEqDiff, Nat.reduceBEq, Nat.reduceLT, Nat.reduceLeDiff, Nat.reduceAdd, Nat.reduceSub, reduceIte, evRE, retVC, cellV', evR, nfz, nfzs, nfzss, List.contains_nil, List.contains_cons, Bool.or_false, or_true]
end Go.AM
namespace Go.AM
set_option linter.unusedVariables false
set_option linter.unusedSimpArgs false
def m205 : MC :=
 (.seq (.reg [Xb 4 (.asg .fb)]) (.seq (.seq (.reg [Xm 9 1, Xn 10 9, Xq 11 (.mov (.i 0))]) (.block 0 (.loop [0, 1, 9, 10, 11] (.seq (.reg [Xq 12 (.bin false .lss (.t 11) (.t 10))]) (.seq (.cond (.t 12) .skip (.exit 0)) (.seq (.block 1 (.seq (.reg [Xm 13 11, Xi 14 3 9 11, XL 15 3 14, Xb 6 (.alloc 182 [.z, .b, .i]), Xa 5 13, Xz (.store 3 (.t 6) (.t 15))]) (.seq (.seq (.reg [Xf 16 0 6, Xl 17 1 16, Xb
 18 (.call (.fn 123) false [.lend (.t 17)]), Xq 19 (.un .not (.t 18)), Xm 20 19, Xu 21 20 (.fad 2 (.t 6)), Xu 22 20 (.load false 1 (.t 21)), Xu 23 20 (.mov (.t 0)), Xu 24 20 (.len false (.t 23)), Xu 25 20 (.bin false .sub (.t 24) (.i 1)), XU 26 20 (.call (.fn 172) false [.lend (.t 22), .lend (.i 0), .lend (.t 25)]), Xu 27 20 (.un .not (.t 26)), Xq 28 (.pick (.t 20) .tb (.t 27))]) (.cond (.t 28)
 (.seq (.reg [Xb 4 (.asg .fb)]) .ret) .skip)) (.seq (.reg [Xm 29 1, Xm 30 5, Xq 31 (.slc false 3 (.t 29) none (some (.t 30))), Xn 32 31, Xq 33 (.mov (.i 0))]) (.block 2 (.loop [0, 1, 6, 9, 10, 11, 29, 30, 31, 32, 33] (.seq (.reg [Xq 34 (.bin false .lss (.t 33) (.t 32))]) (.seq (.cond (.t 34) .skip (.exit 2)) (.seq (.block 3 (.seq (.reg [Xi 35 3 31 33, XL 36 3 35, Xb 8 (.alloc 182 [.z, .b, .i]), Xz
 (.store 3 (.t 8) (.t 36))]) (.seq (.reg [Xf 37 0 6, Xl 38 1 37, Xf 39 0 8, Xl 40 1 39, Xq 41 (.bin false .eql (.t 38) (.t 40))]) (.cond (.t 41) (.seq (.reg [Xb 4 (.asg .fb)]) .ret) .skip)))) (.reg [Xq 42 (.bin false .add (.t 33) (.i 1)), Xm 33 42])))))))))) (.reg [Xq 43 (.bin false .add (.t 11) (.i 1)), Xm 11 43]))))))) (.seq (.reg [Xm 44 1, Xn 45 44, Xq 46 (.bin false .leq (.t 45) (.i 4)), Xa 4
 46]) .ret)))
set_option maxHeartbeats 1000000 in
set_option maxRecDepth 100000 in
theorem d205 (l : List Ty) (ps : List Par) (hl : (l.length : Int) ≤ 1048576) (hp : (ps.length : Int) ≤ 1048576) (hs : ∀ s ∈ ps, s.sm) :
    Does Go.Proofs.Tryz.prog 205 [.fsl 6 (l.map Ty.z), .fsl 3 (ps.map Par.z)] false (.v (.bool (parsOk l ps && decide ((ps.length : Int) ≤ 4)))) [.dead, .dead] := by
  refine does_intro (mc := m205) (N := 47) (rs := [4]) (fx := []) 2 rfl (by decide +kernel) ?_
  simp only [m205, EV, Nat.reduceEqDiff, Nat.reduceBEq, Nat.reduceLT, Nat.reduceLeDiff, Nat.reduceAdd, Nat.reduceSub, reduceIte]
  refine awp_loop (fun i : Nat => i ≤ ps.length ∧ parTo l ps i) (fun i => stl [(0, .fsl 6 (l.map Ty.z)), (1, .fsl 3 (ps.map Par.z)), (9, .fsl 3 (ps.map Par.z)), (10, .v (.int .i64 (ps.length : Int))), (11, .v (.int .i64 (i : Int)))]) (fun i => ps.length - i) 0 ⟨Nat.zero_le _, fun j hj h => absurd h (by omega)⟩ ?_ ?_
  · simp only [EV, Nat.reduceEqDiff, Nat.reduceBEq, Nat.reduceLT, Nat.reduceLeDiff, Nat.reduceAdd, Nat.reduceSub, reduceIte]
    rfl
  rintro i ⟨hi, hok⟩
  simp only [EV, Nat.reduceEqDiff, Nat.reduceBEq, Nat.reduceLT, Nat.reduceLeDiff, Nat.reduceAdd, Nat.reduceSub, reduceIte]
  refine cK_cut (fun h => ?_) (fun h => ?_)
  rotate_left
  · have h1 : i = ps.length := by have : ¬ (i : Int) < ps.length := by simpa using h
                                  omega
    subst h1
    simp only [EV, Nat.reduceEqDiff, Nat.reduceBEq, Nat.reduceLT, Nat.reduceLeDiff, Nat.reduceAdd, Nat.reduceSub, reduceIte]
    simp only [parsOk_yes hok, Bool.true_and, EV, Nat.reduceEqDiff, Nat.reduceBEq, Nat.reduceLT, Nat.reduceLeDiff, Nat.reduceAdd, Nat.reduceSub, reduceIte, evRE, retVC, cellV', evR, nfz, nfzs, nfzss, List.contains_nil, List.contains_cons, Bool.or_false, or_true]
  have h1 : i < ps.length := by simpa using h
  have h2 : (i : Int) < (ps.length : Int) := by omega
  have hno : parAt l ps i h1 = false → parsOk l ps = false := parsOk_no h1
  have hps := hs _ (List.getElem_mem h1)
  unfold Par.sm at hps
  have wl := w64 ((l.length : Int) - 1) (by omega)
  clear h
  simp only [ParE, nth_map h1, h2, Par.z, EV, Nat.reduceEqDiff, Nat.reduceBEq, Nat.reduceLT, Nat.reduceLeDiff, Nat.reduceAdd, Nat.reduceSub, reduceIte]
  refine callK_i (d123 ps[i].name (by omega)) ?_
  simp only [EV, Nat.reduceEqDiff, Nat.reduceBEq, Nat.reduceLT, Nat.reduceLeDiff, Nat.reduceAdd, Nat.reduceSub, reduceIte]
  rcases e1 : nameOk ps[i].name with _ | _
  · have e : parsOk l ps = false := hno (by simp only [parAt, e1, Bool.false_and])
    simp only [Bool.not_false, EV, Nat.reduceEqDiff, Nat.reduceBEq, Nat.reduceLT, Nat.reduceLeDiff, Nat.reduceAdd, Nat.reduceSub, reduceIte]
    simp only [e, Bool.false_and, EV, Nat.reduceEqDiff, Nat.reduceBEq, Nat.reduceLT, Nat.reduceLeDiff, Nat.reduceAdd, Nat.reduceSub, reduceIte, evRE, retVC, cellV', evR, nfz, nfzs, nfzss, List.contains_nil, List.contains_cons, Bool.or_false, or_true]
  simp only [Bool.not_true, wl, EV, Nat.reduceEqDiff, Nat.reduceBEq, Nat.reduceLT, Nat.reduceLeDiff, Nat.reduceAdd, Nat.reduceSub, reduceIte]
  refine callK_i (d172 ps[i].typ 0 ((l.length : Int) - 1)) ?_
  have en : (decide (0 ≤ ps[i].typ) && decide (ps[i].typ ≤ (l.length : Int) - 1)) = isNum l ps[i].typ := rfl
  rw [en]
  simp only [EV, Nat.reduceEqDiff, Nat.reduceBEq, Nat.reduceLT, Nat.reduceLeDiff, Nat.reduceAdd, Nat.reduceSub, reduceIte]
  rcases e2 : isNum l ps[i].typ with _ | _
  · have e : parsOk l ps = false := hno (by simp only [parAt, e1, e2, Bool.false_and, Bool.true_and])
    simp only [Bool.not_false, EV, Nat.reduceEqDiff, Nat.reduceBEq, Nat.reduceLT, Nat.reduceLeDiff, Nat.reduceAdd, Nat.reduceSub, reduceIte]
    simp only [e, Bool.false_and, EV, Nat.reduceEqDiff, Nat.reduceBEq, Nat.reduceLT, Nat.reduceLeDiff, Nat.reduceAdd, Nat.reduceSub, reduceIte, evRE, retVC, cellV', evR, nfz, nfzs, nfzss, List.contains_nil, List.contains_cons, Bool.or_false, or_true]
  simp only [Bool.not_true, EV, Nat.reduceEqDiff, Nat.reduceBEq, Nat.reduceLT, Nat.reduceLeDiff, Nat.reduceAdd, Nat.reduceSub, reduceIte]
  refine ⟨by omega, by omega, ?_⟩
  rw [← List.map_take]
  have hlt : (ps.take i).length = i := by simp; omega
  simp only [hlt, EV, Nat.reduceEqDiff, Nat.reduceBEq, Nat.reduceLT, Nat.reduceLeDiff, Nat.reduceAdd, Nat.reduceSub, reduceIte]
  refine awp_loop (fun j : Nat => j ≤ i ∧ ((ps.take i).take j).any (parNm ps[i]) = false) (fun j => stl [(0, .fsl 6 (l.map Ty.z)), (1, .fsl 3 (ps.map Par.z)), (6, .box 182 ps[i].z), (9, .fsl 3 (ps.map Par.z)), (10, .v (.int .i64 (ps.length : Int))), (11, .v (.int .i64 (i : Int))), (29, .fsl 3 (ps.map Par.z)), (30, .v (.int .i64 (i : Int))), (31, .fsl 3 ((ps.take i).map Par.z)), (32, .v (.int .i64 (i : Int))), (33, .v (.int .i64 (j : Int)))]) (fun j => i - j) 0 ⟨Nat.zero_le _, by simp⟩ ?_ ?_
  · simp only [Par.z, EV, Nat.reduceEqDiff, Nat.reduceBEq, Nat.reduceLT, Nat.reduceLeDiff, Nat.reduceAdd, Nat.reduceSub, reduceIte]
    rfl
  rintro j ⟨hj, hnj⟩
  simp only [EV, Nat.reduceEqDiff, Nat.reduceBEq, Nat.reduceLT, Nat.reduceLeDiff, Nat.reduceAdd, Nat.reduceSub, reduceIte]
  refine cK_cut (fun h => ?_) (fun h => ?_)
  · have j1 : j < i := by simpa using h
    have j2 : (j : Int) < (i : Int) := by omega
    have j3 : j < (ps.take i).length := by omega
    have j4 : (j : Int) < ((ps.take i).length : Int) := by omega
    clear h
    simp only [ParE, j1, j2, j3, j4, nth_map j3, hlt, Par.z, EV, Nat.reduceEqDiff, Nat.reduceBEq, Nat.reduceLT, Nat.reduceLeDiff, Nat.reduceAdd, Nat.reduceSub, reduceIte]
    have ec : (ps[i].name.toList == (ps.take i)[j].name.toList) = parNm ps[i] (ps.take i)[j] := Bool.beq_comm
    rw [ec]
    rcases e3 : parNm ps[i] (ps.take i)[j] with _ | _
    · simp only [EV, Nat.reduceEqDiff, Nat.reduceBEq, Nat.reduceLT, Nat.reduceLeDiff, Nat.reduceAdd, Nat.reduceSub, reduceIte]
      rw [w64 _ (by omega)]
      exact ⟨j + 1, ⟨j1, by rw [List.take_succ_eq_append_getElem j3, List.any_append, hnj]; simpa using e3⟩, by omega, rfl⟩
    · have e4 : (ps.take i).any (parNm ps[i]) = true := List.any_eq_true.2 ⟨_, List.getElem_mem j3, e3⟩
      have e : parsOk l ps = false := hno (by simp only [parAt, e1, e2, e4, Bool.not_true, Bool.and_false])
      simp only [EV, Nat.reduceEqDiff, Nat.reduceBEq, Nat.reduceLT, Nat.reduceLeDiff, Nat.reduceAdd, Nat.reduceSub, reduceIte]
      simp only [e, Bool.false_and, EV, Nat.reduceEqDiff, Nat.reduceBEq, Nat.reduceLT, Nat.reduceLeDiff, Nat.reduceAdd, Nat.reduceSub, reduceIte, evRE, retVC, cellV', evR, nfz, nfzs, nfzss, List.contains_nil, List.contains_cons, Bool.or_false, or_true]
  · have j1 : j = i := by have : ¬ (j : Int) < (i : Int) := by simpa using h
                          omega
    subst j1
    have e4 : (ps.take j).any (parNm ps[j]) = false := by rw [List.take_of_length_le (by omega)] at hnj; exact hnj
    simp only [EV, Nat.reduceEqDiff, Nat.reduceBEq, Nat.reduceLT, Nat.reduceLeDiff, Nat.reduceAdd, Nat.reduceSub, reduceIte]
    rw [w64 _ (by omega)]
    exact ⟨j + 1, ⟨h1, parTo_succ h1 hok (by simp only [parAt, e1, e2, e4, Bool.not_false, Bool.and_self])⟩, by omega, rfl⟩
noncomputable def obS (l : List Ty) (o : Ob) : Bool :=
  ((decide (0 ≤ o.mark) && decide (o.mark ≤ 2)) && (!(o.mark == 2) || o.kind == 3)) && (((o.kind == 1 || o.value == 0) && (o.kind == 4 || !(decide (0 < (o.params.length : Int))))) &&
    (if (o.kind == 1) = true then o.typ == 0 && wholeB o.value else if (o.kind == 2 || o.kind == 3) = true then isNum l o.typ
     else o.kind == 4 && ((decide (-1 ≤ o.typ) && decide (o.typ ≤ (l.length : Int) - 1)) && (parsOk l o.params && decide ((o.params.length : Int) ≤ 4)))))
theorem obS_eq (l : List Ty) (o : Ob) : obS l o = obOk l o := by
  have hn : isNum l o.typ = (decide (0 ≤ o.typ) && decide (o.typ ≤ (l.length : Int) - 1)) := rfl
  have hm : (decide (-1 ≤ o.typ) && decide (o.typ ≤ (l.length : Int) - 1)) = (o.typ == -1 || isNum l o.typ) := by
    rw [hn]
    by_cases h : o.typ = -1
    · rw [h]; simp; omega
    · have : (o.typ == -1) = false := by simpa using h
      rw [this, Bool.false_or]
      congr 1
      simp; omega
  by_cases hp : o.params = []
  · have hq := parsOk_nil l
    unfold obS obOk obPre obKd
    rw [hm, hp, hq]
    simp only [List.length_nil, Int.natCast_zero, Int.lt_irrefl, decide_false, Bool.not_false, Bool.or_true, Bool.and_true, Bool.true_and]
    by_cases k1 : o.kind = 1
    · simp [k1]
    by_cases k2 : o.kind = 2
    · simp [k2]
      cases (o.value == 0) <;> cases isNum l o.typ <;> simp
    by_cases k3 : o.kind = 3
    · simp [k3]
      cases (o.value == 0) <;> cases isNum l o.typ <;> simp
    by_cases k4 : o.kind = 4
    · simp [k4]
      cases (o.value == 0) <;> simp
    · simp [k1, k2, k3, k4]
  · have h0 : decide (0 < (o.params.length : Int)) = true := by
      have : 0 < o.params.length := List.length_pos_iff.2 hp
      simp; omega
    unfold obS obOk obPre obKd
    rw [hm, h0]
    by_cases k4 : o.kind = 4
    · simp [k4]
      cases (o.value == 0) <;> cases parsOk l o.params <;> simp
      cases decide ((o.params.length : Int) ≤ 4) <;> simp
    · have : (o.kind == 4) = false := by simpa using k4
      simp [this]
def m140 : MC :=
 (.seq (.reg [Xb 3 (.box 69 (.t 1)), Xb 4 (.asg .fb)]) (.seq (.seq (.reg [Xf 5 0 3, Xl 6 1 5, Xb 7 (.call (.fn 123) false [.lend (.t 6)]), Xq 8 (.un .not (.t 7)), Xm 9 8, Xu 10 9 (.fad 2 (.t 3)), Xu 11 9 (.load false 1 (.t 10)), XU 12 9 (.call (.fn 172) false [.lend (.t 11), .lend (.i 0), .lend (.i 2)]), Xu 13 9 (.un .not (.t 12)), Xq 14 (.pick (.t 9) .tb (.t 13)), Xm 15 14, Xu 16 15 (.fad 2 (.t
 3)), Xu 17 15 (.load false 1 (.t 16)), Xu 18 15 (.bin false .eql (.t 17) (.i 2)), Xu 19 15 (.mov (.t 18)), Xt 20 19 (.fad 1 (.t 3)), Xt 21 19 (.load false 1 (.t 20)), Xt 22 19 (.bin false .neq (.t 21) (.i 3)), Xu 23 15 (.pick (.t 19) (.t 22) .fb), Xq 24 (.pick (.t 15) .tb (.t 23))]) (.cond (.t 24) (.seq (.reg [Xb 4 (.asg .fb)]) .ret) .skip)) (.seq (.seq (.reg [Xf 25 1 3, Xl 26 1 25, Xq 27 (.bin
 false .neq (.t 26) (.i 1)), Xm 28 27, Xt 29 28 (.fad 4 (.t 3)), Xt 30 28 (.load false 1 (.t 29)), Xt 31 28 (.bin false .neq (.t 30) (.i 0)), Xq 32 (.pick (.t 28) (.t 31) .fb), Xm 33 32, Xu 34 33 (.fad 1 (.t 3)), Xu 35 33 (.load false 1 (.t 34)), Xu 36 33 (.bin false .neq (.t 35) (.i 4)), Xu 37 33 (.mov (.t 36)), Xt 38 37 (.fad 5 (.t 3)), Xt 39 37 (.load false 1 (.t 38)), Xt 40 37 (.len false (.t
 39)), Xt 41 37 (.bin false .gtr (.t 40) (.i 0)), Xu 42 33 (.pick (.t 37) (.t 41) .fb), Xq 43 (.pick (.t 33) .tb (.t 42))]) (.cond (.t 43) (.seq (.reg [Xb 4 (.asg .fb)]) .ret) .skip)) (.join [0, 3] (.seq (.reg [Xf 44 1 3, Xl 45 1 44]) (.block 0 (.seq (.reg [Xq 47 (.bin false .eql (.t 45) (.i 1)), Xa 46 47]) (.cond (.t 46) (.seq (.reg [Xf 48 3 3, Xl 49 1 48, Xq 50 (.bin false .eql (.t 49) (.i 0)),
 Xm 51 50, Xt 52 51 (.fad 4 (.t 3)), Xt 53 51 (.load false 1 (.t 52)), XT 54 51 (.call (.fn 172) false [.lend (.t 53), .lend (.i (-1000000000)), .lend (.i 1000000000)]), Xq 55 (.pick (.t 51) (.t 54) .fb), Xa 4 55]) .ret) (.join [0, 3, 56] (.seq (.reg [Xq 57 (.bin false .eql (.t 45) (.i 2)), Xa 56 57]) (.cond (.t 56) .skip (.reg [Xq 58 (.bin false .eql (.t 45) (.i 3)), Xa 56 58]))) (.cond (.t 56)
 (.seq (.reg [Xf 59 3 3, Xl 60 1 59, Xm 61 0, Xn 62 61, Xq 63 (.bin false .sub (.t 62) (.i 1)), Xb 64 (.call (.fn 172) false [.lend (.t 60), .lend (.i 0), .lend (.t 63)]), Xa 4 64]) .ret) .skip)))))) (.seq (.reg [Xf 65 1 3, Xl 66 1 65, Xq 67 (.bin false .eql (.t 66) (.i 4)), Xm 68 67, Xt 69 68 (.fad 3 (.t 3)), Xt 70 68 (.load false 1 (.t 69)), Xt 71 68 (.mov (.t 0)), Xt 72 68 (.len false (.t 71)),
 Xt 73 68 (.bin false .sub (.t 72) (.i 1)), XT 74 68 (.call (.fn 172) false [.lend (.t 70), .lend (.i (-1)), .lend (.t 73)]), Xq 75 (.pick (.t 68) (.t 74) .fb), Xm 76 75, Xt 77 76 (.mov (.t 0)), Xt 78 76 (.fad 5 (.t 3)), Xt 79 76 (.load false 1 (.t 78)), XT 80 76 (.call (.fn 205) false [.lend (.t 77), .lend (.t 79)]), Xq 81 (.pick (.t 76) (.t 80) .fb), Xa 4 81]) .ret)))))
set_option maxHeartbeats 4000000 in
set_option maxRecDepth 100000 in
theorem d140 (l : List Ty) (o : Ob) (hl : (l.length : Int) ≤ 1048576) (ho : o.sm) : Does Go.Proofs.Tryz.prog 140 [.fsl 6 (l.map Ty.z), .agg o.z] false (.v (.bool (nameOk o.name && obOk l o))) [.dead, .dead] := by
  have wl := w64 ((l.length : Int) - 1) (by omega)
  rw [← obS_eq]
  unfold Ob.sm at ho
  refine does_intro (mc := m140) (N := 82) (rs := [4]) (fx := []) 2 rfl (by decide +kernel) ?_
  simp only [m140, Ob.z, EV, Nat.reduceEqDiff, Nat.reduceBEq, Nat.reduceLT, Nat.reduceLeDiff, Nat.reduceAdd, Nat.reduceSub, reduceIte]
  refine callK_i (d123 o.name (by omega)) ?_
  simp only [EV, Nat.reduceEqDiff, Nat.reduceBEq, Nat.reduceLT, Nat.reduceLeDiff, Nat.reduceAdd, Nat.reduceSub, reduceIte]
  rcases e1 : nameOk o.name with _ | _
  · simp only [Bool.not_false, EV, Nat.reduceEqDiff, Nat.reduceBEq, Nat.reduceLT, Nat.reduceLeDiff, Nat.reduceAdd, Nat.reduceSub, reduceIte]
    simp only [Bool.false_and, EV, Nat.reduceEqDiff, Nat.reduceBEq, Nat.reduceLT, Nat.reduceLeDiff, Nat.reduceAdd, Nat.reduceSub, reduceIte, evRE, retVC, cellV', evR, nfz, nfzs, nfzss, List.contains_nil, List.contains_cons, Bool.or_false, or_true]
  simp only [Bool.not_true, EV, Nat.reduceEqDiff, Nat.reduceBEq, Nat.reduceLT, Nat.reduceLeDiff, Nat.reduceAdd, Nat.reduceSub, reduceIte]
  refine callK_i (d172 o.mark 0 2) ?_
  simp only [EV, Nat.reduceEqDiff, Nat.reduceBEq, Nat.reduceLT, Nat.reduceLeDiff, Nat.reduceAdd, Nat.reduceSub, reduceIte]
  rcases e2 : (decide (0 ≤ o.mark) && decide (o.mark ≤ 2)) with _ | _
  · simp only [Bool.not_false, EV, Nat.reduceEqDiff, Nat.reduceBEq, Nat.reduceLT, Nat.reduceLeDiff, Nat.reduceAdd, Nat.reduceSub, reduceIte]
    simp only [obS, e2, Bool.false_and, Bool.and_false, EV, Nat.reduceEqDiff, Nat.reduceBEq, Nat.reduceLT, Nat.reduceLeDiff, Nat.reduceAdd, Nat.reduceSub, reduceIte, evRE, retVC, cellV', evR, nfz, nfzs, nfzss, List.contains_nil, List.contains_cons, Bool.or_false, or_true]
  simp only [Bool.not_true, EV, Nat.reduceEqDiff, Nat.reduceBEq, Nat.reduceLT, Nat.reduceLeDiff, Nat.reduceAdd, Nat.reduceSub, reduceIte]
  have hk : o.kind = 1 ∨ o.kind = 2 ∨ o.kind = 3 ∨ o.kind = 4 ∨ (o.kind ≠ 1 ∧ o.kind ≠ 2 ∧ o.kind ≠ 3 ∧ o.kind ≠ 4) := by omega
  have kf : ∃ b1 b2 b3 b4 : Bool, (o.kind == 1) = b1 ∧ (o.kind == 2) = b2 ∧ (o.kind == 3) = b3 ∧ (o.kind == 4) = b4 ∧ (o.kind != 1) = !b1 ∧ (o.kind != 3) = !b3 ∧ (o.kind != 4) = !b4 ∧
      ((b1, b2, b3, b4) = (true, false, false, false) ∨ (b1, b2, b3, b4) = (false, true, false, false) ∨ (b1, b2, b3, b4) = (false, false, true, false) ∨ (b1, b2, b3, b4) = (false, false, false, true) ∨ (b1, b2, b3, b4) = (false, false, false, false)) := by
    refine ⟨_, _, _, _, rfl, rfl, rfl, rfl, rfl, rfl, rfl, ?_⟩
    rcases hk with h | h | h | h | ⟨h1, h2, h3, h4⟩
    · rw [h]; simp
    · rw [h]; simp
    · rw [h]; simp
    · rw [h]; simp
    · simp [h1, h2, h3, h4]
  obtain ⟨b1, b2, b3, b4, f1, f2, f3, f4, n1, n3, n4, hb⟩ := kf
  have g4 : (o.value != 0) = !(o.value == 0) := rfl
  rcases e3 : (o.mark == 2) with _ | _ <;> rcases e4 : (o.value == 0) with _ | _ <;> rcases e5 : decide (0 < (o.params.length : Int)) with _ | _ <;> rcases hb with hb | hb | hb | hb | hb <;> (simp only [Prod.mk.injEq] at hb; obtain ⟨rfl, rfl, rfl, rfl⟩ := hb) <;> simp only [f1, f2, f3, f4, n1, n3, n4, e4, g4, e5, Bool.not_true, Bool.not_false, EV, Nat.reduceEqDiff, Nat.reduceBEq, Nat.reduceLT, Nat.reduceLeDiff, Nat.reduceAdd, Nat.reduceSub, reduceIte]
  all_goals try (simp only [obS, f1, f2, f3, f4, e2, e3, e4, e5, Bool.not_true, Bool.not_false, Bool.or_true, Bool.or_false, Bool.and_true, Bool.and_false, Bool.true_and, Bool.false_and, EV, Nat.reduceEqDiff, Nat.reduceBEq, Nat.reduceLT, Nat.reduceLeDiff, Nat.reduceAdd, Nat.reduceSub, reduceIte, evRE, retVC, cellV', evR, nfz, nfzs, nfzss, List.contains_nil, List.contains_cons, Bool.or_false, or_true]; done)
  all_goals
    refine awp_join (fun _ : Unit => (o.kind == 1) = false ∧ (o.kind == 2 || o.kind == 3) = false) (fun _ => stl [(0, .fsl 6 (l.map Ty.z)), (3, .box 69 o.z)]) ?_ ?_
    · first
        | (simp only [f1, Ob.z, EV, Nat.reduceEqDiff, Nat.reduceBEq, Nat.reduceLT, Nat.reduceLeDiff, Nat.reduceAdd, Nat.reduceSub, reduceIte]
           rcases t0 : (o.typ == 0) with _ | _
           · simp only [Ob.z, EV, Nat.reduceEqDiff, Nat.reduceBEq, Nat.reduceLT, Nat.reduceLeDiff, Nat.reduceAdd, Nat.reduceSub, reduceIte]
             simp only [obS, t0, f1, f2, f3, f4, e2, e3, e4, e5, Bool.not_true, Bool.not_false, Bool.or_true, Bool.true_or, Bool.or_false, Bool.false_or, Bool.and_true, Bool.and_false, Bool.true_and, Bool.false_and, Bool.false_eq_true, if_true, if_false, EV, Nat.reduceEqDiff, Nat.reduceBEq, Nat.reduceLT, Nat.reduceLeDiff, Nat.reduceAdd, Nat.reduceSub, reduceIte, evRE, retVC, cellV', evR, nfz, nfzs, nfzss, List.contains_nil, List.contains_cons, Bool.or_false, or_true]
           · simp only [Ob.z, EV, Nat.reduceEqDiff, Nat.reduceBEq, Nat.reduceLT, Nat.reduceLeDiff, Nat.reduceAdd, Nat.reduceSub, reduceIte]
             refine callK_i (d172 o.value (-1000000000) 1000000000) ?_
             simp only [EV, Nat.reduceEqDiff, Nat.reduceBEq, Nat.reduceLT, Nat.reduceLeDiff, Nat.reduceAdd, Nat.reduceSub, reduceIte]
             simp only [obS, wholeB, t0, f1, f2, f3, f4, e2, e3, e4, e5, Bool.not_true, Bool.not_false, Bool.or_true, Bool.true_or, Bool.or_false, Bool.false_or, Bool.and_true, Bool.and_false, Bool.true_and, Bool.false_and, Bool.false_eq_true, if_true, if_false, EV, Nat.reduceEqDiff, Nat.reduceBEq, Nat.reduceLT, Nat.reduceLeDiff, Nat.reduceAdd, Nat.reduceSub, reduceIte, evRE, retVC, cellV', evR, nfz, nfzs, nfzss, List.contains_nil, List.contains_cons, Bool.or_false, or_true]
           done)
        | (simp only [f1, Ob.z, EV, Nat.reduceEqDiff, Nat.reduceBEq, Nat.reduceLT, Nat.reduceLeDiff, Nat.reduceAdd, Nat.reduceSub, reduceIte]
           refine awp_join (fun b : Bool => b = true) (fun b => stl [(0, .fsl 6 (l.map Ty.z)), (3, .box 69 o.z), (56, .v (.bool b))]) ?_ ?_
           · simp only [f2, f3, Ob.z, EV, Nat.reduceEqDiff, Nat.reduceBEq, Nat.reduceLT, Nat.reduceLeDiff, Nat.reduceAdd, Nat.reduceSub, reduceIte]
             exact ⟨true, rfl, rfl⟩
           rintro _ rfl
           simp only [wl, Ob.z, EV, Nat.reduceEqDiff, Nat.reduceBEq, Nat.reduceLT, Nat.reduceLeDiff, Nat.reduceAdd, Nat.reduceSub, reduceIte]
           refine callK_i (d172 o.typ 0 ((l.length : Int) - 1)) ?_
           have en : (decide (0 ≤ o.typ) && decide (o.typ ≤ (l.length : Int) - 1)) = isNum l o.typ := rfl
           rw [en]
           simp only [EV, Nat.reduceEqDiff, Nat.reduceBEq, Nat.reduceLT, Nat.reduceLeDiff, Nat.reduceAdd, Nat.reduceSub, reduceIte]
           simp only [obS, f1, f2, f3, f4, e2, e3, e4, e5, Bool.not_true, Bool.not_false, Bool.or_true, Bool.true_or, Bool.or_false, Bool.false_or, Bool.and_true, Bool.and_false, Bool.true_and, Bool.false_and, Bool.false_eq_true, if_true, if_false, EV, Nat.reduceEqDiff, Nat.reduceBEq, Nat.reduceLT, Nat.reduceLeDiff, Nat.reduceAdd, Nat.reduceSub, reduceIte, evRE, retVC, cellV', evR, nfz, nfzs, nfzss, List.contains_nil, List.contains_cons, Bool.or_false, or_true]
           done)
        | (simp only [f1, Ob.z, EV, Nat.reduceEqDiff, Nat.reduceBEq, Nat.reduceLT, Nat.reduceLeDiff, Nat.reduceAdd, Nat.reduceSub, reduceIte]
           refine awp_join (fun b : Bool => b = false) (fun b => stl [(0, .fsl 6 (l.map Ty.z)), (3, .box 69 o.z), (56, .v (.bool b))]) ?_ ?_
           · simp only [f2, f3, Ob.z, EV, Nat.reduceEqDiff, Nat.reduceBEq, Nat.reduceLT, Nat.reduceLeDiff, Nat.reduceAdd, Nat.reduceSub, reduceIte]
             exact ⟨false, rfl, rfl⟩
           rintro _ rfl
           simp only [f1, f2, f3, Ob.z, Bool.or_false, EV, Nat.reduceEqDiff, Nat.reduceBEq, Nat.reduceLT, Nat.reduceLeDiff, Nat.reduceAdd, Nat.reduceSub, reduceIte]
           exact ⟨(), trivial⟩)
    · rintro _ ⟨x1, x2⟩
      first
        | (exfalso; simp [f1] at x1; done)
        | (exfalso; simp [f2, f3] at x2; done)
        | (simp only [f4, Ob.z, EV, Nat.reduceEqDiff, Nat.reduceBEq, Nat.reduceLT, Nat.reduceLeDiff, Nat.reduceAdd, Nat.reduceSub, reduceIte]
           simp only [obS, f1, f2, f3, f4, e2, e3, e4, e5, Bool.not_true, Bool.not_false, Bool.or_true, Bool.true_or, Bool.or_false, Bool.false_or, Bool.and_true, Bool.and_false, Bool.true_and, Bool.false_and, Bool.false_eq_true, if_true, if_false, EV, Nat.reduceEqDiff, Nat.reduceBEq, Nat.reduceLT, Nat.reduceLeDiff, Nat.reduceAdd, Nat.reduceSub, reduceIte, evRE, retVC, cellV', evR, nfz, nfzs, nfzss, List.contains_nil, List.contains_cons, Bool.or_false, or_true]
           done)
        | (simp only [f4, wl, Ob.z, EV, Nat.reduceEqDiff, Nat.reduceBEq, Nat.reduceLT, Nat.reduceLeDiff, Nat.reduceAdd, Nat.reduceSub, reduceIte]
           refine callK_i (d172 o.typ (-1) ((l.length : Int) - 1)) ?_
           simp only [EV, Nat.reduceEqDiff, Nat.reduceBEq, Nat.reduceLT, Nat.reduceLeDiff, Nat.reduceAdd, Nat.reduceSub, reduceIte]
           rcases e6 : (decide (-1 ≤ o.typ) && decide (o.typ ≤ (l.length : Int) - 1)) with _ | _
           · simp only [EV, Nat.reduceEqDiff, Nat.reduceBEq, Nat.reduceLT, Nat.reduceLeDiff, Nat.reduceAdd, Nat.reduceSub, reduceIte]
             simp only [obS, e6, f1, f2, f3, f4, e2, e3, e4, e5, Bool.not_true, Bool.not_false, Bool.or_true, Bool.true_or, Bool.or_false, Bool.false_or, Bool.and_true, Bool.and_false, Bool.true_and, Bool.false_and, Bool.false_eq_true, if_true, if_false, EV, Nat.reduceEqDiff, Nat.reduceBEq, Nat.reduceLT, Nat.reduceLeDiff, Nat.reduceAdd, Nat.reduceSub, reduceIte, evRE, retVC, cellV', evR, nfz, nfzs, nfzss, List.contains_nil, List.contains_cons, Bool.or_false, or_true]
           · simp only [Ob.z, EV, Nat.reduceEqDiff, Nat.reduceBEq, Nat.reduceLT, Nat.reduceLeDiff, Nat.reduceAdd, Nat.reduceSub, reduceIte]
             refine callK_i (d205 l o.params hl ho.2.2.2.2.2.1 ho.2.2.2.2.2.2) ?_
             simp only [EV, Nat.reduceEqDiff, Nat.reduceBEq, Nat.reduceLT, Nat.reduceLeDiff, Nat.reduceAdd, Nat.reduceSub, reduceIte]
             simp only [obS, e6, f1, f2, f3, f4, e2, e3, e4, e5, Bool.not_true, Bool.not_false, Bool.or_true, Bool.true_or, Bool.or_false, Bool.false_or, Bool.and_true, Bool.and_false, Bool.true_and, Bool.false_and, Bool.false_eq_true, if_true, if_false, EV, Nat.reduceEqDiff, Nat.reduceBEq, Nat.reduceLT, Nat.reduceLeDiff, Nat.reduceAdd, Nat.reduceSub, reduceIte, evRE, retVC, cellV', evR, nfz, nfzs, nfzss, List.contains_nil, List.contains_cons, Bool.or_false, or_true]
           done)
end Go.AM
namespace Go.AM
set_option linter.unusedVariables false
set_option linter.unusedSimpArgs false
noncomputable def tyAt (l m : List Ty) (i : Nat) (h : i < m.length) : Bool :=
  !(!nil' m[i].name && (m.take i).any (tyNm m[i])) && tyOk l m[i]
def tyTo (l m : List Ty) (n : Nat) : Prop := ∀ i (h : i < m.length), i < n → tyAt l m i h = true
open Classical in
noncomputable def tysOk (l : List Ty) : Bool := (decide (3 ≤ (l.length : Int)) && decide ((l.length : Int) ≤ 24)) && (eqL sameTy (l.take 3) baseTs && decide (tyTo l (l.drop 3) (l.drop 3).length))
theorem tyTo_succ {l m : List Ty} {i : Nat} (h : i < m.length) (h1 : tyTo l m i) (h2 : tyAt l m i h = true) : tyTo l m (i + 1) := by
  intro j hj hji
  by_cases e : j = i
  · subst e; exact h2
  · exact h1 j hj (by omega)
theorem tysOk_no {l : List Ty} {i : Nat} (h : i < (l.drop 3).length) (h2 : tyAt l (l.drop 3) i h = false) : tysOk l = false := by
  have : ¬ tyTo l (l.drop 3) (l.drop 3).length := by
    intro h1
    have := h1 i h h
    rw [h2] at this; cases this
  simp only [tysOk, this, decide_false, Bool.and_false]
theorem tysOk_yes {l : List Ty} (h1 : (decide (3 ≤ (l.length : Int)) && decide ((l.length : Int) ≤ 24)) = true) (h2 : eqL sameTy (l.take 3) baseTs = true) (h : tyTo l (l.drop 3) (l.drop 3).length) : tysOk l = true := by
  simp only [tysOk, h1, h2, h, decide_true, Bool.and_self]
theorem base_len : baseTs.length = 3 := rfl
theorem base_sm : ∀ b ∈ baseTs, b.sm := by
  intro b hb
  have hz : ∀ x : ByteArray, x = ⟨#[]⟩ ∨ x = ⟨#[73, 78, 84]⟩ ∨ x = ⟨#[66, 79, 79, 76]⟩ ∨ x = ⟨#[67, 72, 65, 82]⟩ → (x.size : Int) ≤ 1048576 := by
    rintro x (rfl | rfl | rfl | rfl) <;> decide
  simp only [baseTs, List.mem_cons, List.not_mem_nil, or_false] at hb
  rcases hb with rfl | rfl | rfl <;> exact ⟨trivial, trivial, trivial, ⟨by simp, by simp⟩, hz _ (by simp), hz _ (by simp)⟩
def m169 : MC :=
 (.seq (.reg [Xb 2 (.asg .fb)]) (.seq (.reg [Xb 7 (.call (.fn 215) false []), Xa 3 7]) (.seq (.seq (.reg [Xm 8 0, Xn 9 8, Xm 10 3, Xn 11 10, Xb 12 (.call (.fn 171) false [.lend (.t 9), .lend (.t 11), .lend (.i 24)]), Xq 13 (.un .not (.t 12)), Xm 14 13, Xu 15 14 (.mov (.t 0)), Xu 16 14 (.mov (.t 3)), Xu 17 14 (.len false (.t 16)), Xu 18 14 (.slc false 6 (.t 15) none (some (.t 17))), Xu 19 14 (.mov
 (.t 3)), XU 20 14 (.call (.fn 163) false [.lend (.t 18), .lend (.t 19), .lend (.fn 164)]), Xu 21 14 (.un .not (.t 20)), Xq 22 (.pick (.t 14) .tb (.t 21))]) (.cond (.t 22) (.seq (.reg [Xb 2 (.asg .fb)]) .ret) .skip)) (.seq (.seq (.reg [Xm 23 0, Xm 24 3, Xn 25 24, Xq 26 (.slc false 6 (.t 23) (some (.t 25)) none), Xn 27 26, Xq 28 (.mov (.i 0))]) (.block 0 (.loop [0, 3, 7, 23, 25, 26, 27, 28] (.seq
 (.reg [Xq 29 (.bin false .lss (.t 28) (.t 27))]) (.seq (.cond (.t 29) .skip (.exit 0)) (.seq (.block 1 (.seq (.reg [Xm 30 28, Xi 31 6 26 28, XL 32 6 31, Xb 5 (.alloc 129 [.i, .i, .i, .s 138 3, .z, .z]), Xa 4 30, Xz (.store 6 (.t 5) (.t 32))]) (.seq (.reg [Xf 33 5 5, Xl 34 1 33, Xq 35 (.bin false .neq (.t 34) (.z #[])), Xm 36 35, Xt 37 36 (.mov (.t 0)), Xt 38 36 (.mov (.t 3)), Xt 39 36 (.len false
 (.t 38)), Xt 40 36 (.mov (.t 3)), Xt 41 36 (.len false (.t 40)), Xt 42 36 (.mov (.t 4)), Xt 43 36 (.bin false .add (.t 41) (.t 42)), Xt 44 36 (.slc false 6 (.t 37) (some (.t 39)) (some (.t 43))), Xt 45 36 (.mkf 227 [.t 5]), XT 46 36 (.call (.fn 226) false [.lend (.t 44), .lend (.t 45)]), Xq 47 (.pick (.t 36) (.t 46) .fb), Xa 6 47]) (.seq (.reg [Xm 48 6, Xm 49 48, Xu 50 49 (.mov (.t 0)), Xu 51 49
 (.load true 6 (.t 5)), XU 52 49 (.call (.fn 228) false [.lend (.t 50), .lend (.t 51)]), Xu 53 49 (.un .not (.t 52)), Xq 54 (.pick (.t 49) .tb (.t 53))]) (.cond (.t 54) (.seq (.reg [Xb 2 (.asg .fb)]) .ret) .skip))))) (.reg [Xq 55 (.bin false .add (.t 28) (.i 1)), Xm 28 55]))))))) (.seq (.reg [Xb 2 (.asg .tb)]) .ret)))))
set_option maxHeartbeats 1000000 in
set_option maxRecDepth 100000 in
theorem d169 (l : List Ty) (hl : (l.length : Int) ≤ 1048576) (hs : ∀ s ∈ l, s.sm) : Does Go.Proofs.Tryz.prog 169 [.fsl 6 (l.map Ty.z)] false (.v (.bool (tysOk l))) [.dead] := by
  refine does_intro (mc := m169) (N := 56) (rs := [2]) (fx := []) 1 rfl (by decide +kernel) ?_
  simp only [m169, EV, Nat.reduceEqDiff, Nat.reduceBEq, Nat.reduceLT, Nat.reduceLeDiff, Nat.reduceAdd, Nat.reduceSub, reduceIte]
  refine callK_i d215 ?_
  have h3 : ((3 : Nat) : Int) = 3 := rfl
  simp only [base_len, h3, EV, Nat.reduceEqDiff, Nat.reduceBEq, Nat.reduceLT, Nat.reduceLeDiff, Nat.reduceAdd, Nat.reduceSub, reduceIte]
  refine callK_i (d171 _ _ _) ?_
  simp only [base_len, h3, EV, Nat.reduceEqDiff, Nat.reduceBEq, Nat.reduceLT, Nat.reduceLeDiff, Nat.reduceAdd, Nat.reduceSub, reduceIte]
  rcases e1 : (decide (3 ≤ (l.length : Int)) && decide ((l.length : Int) ≤ 24)) with _ | _
  · have e : tysOk l = false := by simp only [tysOk, e1, Bool.false_and]
    simp only [EV, Nat.reduceEqDiff, Nat.reduceBEq, Nat.reduceLT, Nat.reduceLeDiff, Nat.reduceAdd, Nat.reduceSub, reduceIte]
    simp only [e, Ty.nfz, EV, Nat.reduceEqDiff, Nat.reduceBEq, Nat.reduceLT, Nat.reduceLeDiff, Nat.reduceAdd, Nat.reduceSub, reduceIte, evRE, retVC, cellV', evR, nfz, nfzs, nfzss, List.contains_nil, List.contains_cons, Bool.or_false, or_true]
  have hl3 : 3 ≤ (l.length : Int) ∧ (l.length : Int) ≤ 24 := by simpa using e1
  have ht3 : (l.take 3).length = 3 := by simp; omega
  have hd3 : (l.drop 3).length = l.length - 3 := by simp
  simp only [base_len, h3, Ty.frz, EV, Nat.reduceEqDiff, Nat.reduceBEq, Nat.reduceLT, Nat.reduceLeDiff, Nat.reduceAdd, Nat.reduceSub, reduceIte]
  refine ⟨by omega, by omega, hl3.1, ?_⟩
  have t3 : (3 : Int).toNat = 3 := rfl
  simp only [← List.map_take, t3]
  refine callK_i (d163 (l.take 3) baseTs (by omega) (by rw [base_len]; omega) 164 sameTy (fun a ha b hb => d164 a b (hs a (List.mem_of_mem_take ha)) (base_sm b hb))) ?_
  simp only [base_len, h3, EV, Nat.reduceEqDiff, Nat.reduceBEq, Nat.reduceLT, Nat.reduceLeDiff, Nat.reduceAdd, Nat.reduceSub, reduceIte]
  rcases e2 : eqL sameTy (l.take 3) baseTs with _ | _
  · have e : tysOk l = false := by simp only [tysOk, e1, e2, Bool.false_and, Bool.and_false]
    simp only [EV, Nat.reduceEqDiff, Nat.reduceBEq, Nat.reduceLT, Nat.reduceLeDiff, Nat.reduceAdd, Nat.reduceSub, reduceIte]
    simp only [e, Ty.nfz, EV, Nat.reduceEqDiff, Nat.reduceBEq, Nat.reduceLT, Nat.reduceLeDiff, Nat.reduceAdd, Nat.reduceSub, reduceIte, evRE, retVC, cellV', evR, nfz, nfzs, nfzss, List.contains_nil, List.contains_cons, Bool.or_false, or_true]
  simp only [base_len, h3, EV, Nat.reduceEqDiff, Nat.reduceBEq, Nat.reduceLT, Nat.reduceLeDiff, Nat.reduceAdd, Nat.reduceSub, reduceIte]
  refine ⟨by omega, hl3.1, by omega, ?_⟩
  simp only [← List.map_drop, ← List.map_take, t3]
  have hm : ∃ m, m = l.drop 3 := ⟨_, rfl⟩
  obtain ⟨m, hm⟩ := hm
  have hml : (m.length : Int) = (l.length : Int) - 3 := by rw [hm]; simp; omega
  have hsub : ∀ x ∈ m, x ∈ l := by rw [hm]; exact fun x hx => List.mem_of_mem_drop hx
  have p9 : ∀ i (h : i < m.length), tyAt l m i h = false → tysOk l = false := by
    subst hm; exact fun i h e => tysOk_no h e
  refine awp_loop (fun i : Nat => i ≤ m.length ∧ tyTo l m i) (fun i => stl [(0, .fsl 6 (l.map Ty.z)), (3, .usl 129 6 (baseTs.map Ty.o)), (7, .dead), (23, .fsl 6 (l.map Ty.z)), (25, .v (.int .i64 3)), (26, .fsl 6 (m.map Ty.z)), (27, .v (.int .i64 (m.length : Int))), (28, .v (.int .i64 (i : Int)))]) (fun i => m.length - i) 0 ⟨Nat.zero_le _, fun j hj h => absurd h (by omega)⟩ ?_ ?_
  · have htk : List.take (l.length - 3) m = m := List.take_of_length_le (by omega)
    simp only [← hm, htk, EV, Nat.reduceEqDiff, Nat.reduceBEq, Nat.reduceLT, Nat.reduceLeDiff, Nat.reduceAdd, Nat.reduceSub, reduceIte]
    rfl
  · rintro i ⟨hi, hok⟩
    simp only [EV, Nat.reduceEqDiff, Nat.reduceBEq, Nat.reduceLT, Nat.reduceLeDiff, Nat.reduceAdd, Nat.reduceSub, reduceIte]
    refine cK_cut (fun h => ?_) (fun h => ?_)
    · have h1 : i < m.length := by simpa using h
      have h2 : (i : Int) < (m.length : Int) := by omega
      have hso : m[i].sm := hs m[i] (hsub _ (List.getElem_mem h1))
      clear h
      simp only [TyE, nth_map h1, h2, base_len, h3, Ty.z, EV, Nat.reduceEqDiff, Nat.reduceBEq, Nat.reduceLT, Nat.reduceLeDiff, Nat.reduceAdd, Nat.reduceSub, reduceIte]
      have hw : IntKind.i64.wrap (3 + (i : Int)) = ((3 + i : Nat) : Int) := by rw [w64 _ (by omega)]; omega
      have hdt : List.take (3 + i - 3) (List.drop 3 (l.map Ty.z)) = (m.take i).map Ty.z := by
        rw [hm, Nat.add_sub_cancel_left, ← List.map_drop, ← List.map_take]
      have en : (m[i].name.toList == (⟨#[]⟩ : ByteArray).toList) = nil' m[i].name := rfl
      have hcl : Ty.z m[i] = [.v (.int .i64 m[i].kind), .v (.int .i64 m[i].long), .v (.int .i64 m[i].base), .fsl 3 (m[i].fields.map Fd.z), .v (.string m[i].owner), .v (.string m[i].name)] := rfl
      have d7 := d228 l m[i] hl hso
      have dc := d226 (m.take i) (by simp; omega) 227 [.fptr m[i].z] (tyNm m[i]) rfl rfl (fun _ => rfl) (fun _ => rfl) (fun s _ => d227 s m[i])
      rw [hcl] at d7 dc
      rw [en]
      rcases e3 : nil' m[i].name with _ | _
      · simp only [Bool.not_false, base_len, h3, hw, t3, EV, Nat.reduceEqDiff, Nat.reduceBEq, Nat.reduceLT, Nat.reduceLeDiff, Nat.reduceAdd, Nat.reduceSub, reduceIte]
        refine ⟨by omega, by omega, by omega, ?_⟩
        rw [hdt]
        refine callK_i dc ?_
        simp only [EV, Nat.reduceEqDiff, Nat.reduceBEq, Nat.reduceLT, Nat.reduceLeDiff, Nat.reduceAdd, Nat.reduceSub, reduceIte]
        rcases e4 : (m.take i).any (tyNm m[i]) with _ | _
        · simp only [EV, Nat.reduceEqDiff, Nat.reduceBEq, Nat.reduceLT, Nat.reduceLeDiff, Nat.reduceAdd, Nat.reduceSub, reduceIte]
          refine callK_i d7 ?_
          simp only [EV, Nat.reduceEqDiff, Nat.reduceBEq, Nat.reduceLT, Nat.reduceLeDiff, Nat.reduceAdd, Nat.reduceSub, reduceIte]
          rcases e5 : tyOk l m[i] with _ | _
          · have e : tysOk l = false := p9 i h1 (by simp only [tyAt, e5, Bool.and_false])
            simp only [EV, Nat.reduceEqDiff, Nat.reduceBEq, Nat.reduceLT, Nat.reduceLeDiff, Nat.reduceAdd, Nat.reduceSub, reduceIte]
            simp only [e, Ty.nfz, EV, Nat.reduceEqDiff, Nat.reduceBEq, Nat.reduceLT, Nat.reduceLeDiff, Nat.reduceAdd, Nat.reduceSub, reduceIte, evRE, retVC, cellV', evR, nfz, nfzs, nfzss, List.contains_nil, List.contains_cons, Bool.or_false, or_true]
          · simp only [EV, Nat.reduceEqDiff, Nat.reduceBEq, Nat.reduceLT, Nat.reduceLeDiff, Nat.reduceAdd, Nat.reduceSub, reduceIte]
            rw [w64 _ (by omega)]
            exact ⟨i + 1, ⟨h1, tyTo_succ h1 hok (by simp only [tyAt, e3, e4, e5, Bool.and_false, Bool.not_false, Bool.and_self])⟩, by omega, rfl⟩
        · have e : tysOk l = false := p9 i h1 (by simp only [tyAt, e3, e4, Bool.not_false, Bool.and_self, Bool.not_true, Bool.false_and])
          simp only [EV, Nat.reduceEqDiff, Nat.reduceBEq, Nat.reduceLT, Nat.reduceLeDiff, Nat.reduceAdd, Nat.reduceSub, reduceIte]
          simp only [e, Ty.nfz, EV, Nat.reduceEqDiff, Nat.reduceBEq, Nat.reduceLT, Nat.reduceLeDiff, Nat.reduceAdd, Nat.reduceSub, reduceIte, evRE, retVC, cellV', evR, nfz, nfzs, nfzss, List.contains_nil, List.contains_cons, Bool.or_false, or_true]
      · simp only [Bool.not_true, EV, Nat.reduceEqDiff, Nat.reduceBEq, Nat.reduceLT, Nat.reduceLeDiff, Nat.reduceAdd, Nat.reduceSub, reduceIte]
        refine callK_i d7 ?_
        simp only [EV, Nat.reduceEqDiff, Nat.reduceBEq, Nat.reduceLT, Nat.reduceLeDiff, Nat.reduceAdd, Nat.reduceSub, reduceIte]
        rcases e5 : tyOk l m[i] with _ | _
        · have e : tysOk l = false := p9 i h1 (by simp only [tyAt, e5, Bool.and_false])
          simp only [EV, Nat.reduceEqDiff, Nat.reduceBEq, Nat.reduceLT, Nat.reduceLeDiff, Nat.reduceAdd, Nat.reduceSub, reduceIte]
          simp only [e, Ty.nfz, EV, Nat.reduceEqDiff, Nat.reduceBEq, Nat.reduceLT, Nat.reduceLeDiff, Nat.reduceAdd, Nat.reduceSub, reduceIte, evRE, retVC, cellV', evR, nfz, nfzs, nfzss, List.contains_nil, List.contains_cons, Bool.or_false, or_true]
        · simp only [EV, Nat.reduceEqDiff, Nat.reduceBEq, Nat.reduceLT, Nat.reduceLeDiff, Nat.reduceAdd, Nat.reduceSub, reduceIte]
          rw [w64 _ (by omega)]
          exact ⟨i + 1, ⟨h1, tyTo_succ h1 hok (by simp only [tyAt, e3, e5, Bool.not_true, Bool.false_and, Bool.not_false, Bool.and_self])⟩, by omega, rfl⟩
    · have h1 : i = m.length := by have : ¬ (i : Int) < m.length := by simpa using h
                                   omega
      subst h1
      have e : tysOk l = true := tysOk_yes e1 e2 (by rw [← hm]; exact hok)
      simp only [EV, Nat.reduceEqDiff, Nat.reduceBEq, Nat.reduceLT, Nat.reduceLeDiff, Nat.reduceAdd, Nat.reduceSub, reduceIte]
      simp only [e, Ty.nfz, EV, Nat.reduceEqDiff, Nat.reduceBEq, Nat.reduceLT, Nat.reduceLeDiff, Nat.reduceAdd, Nat.reduceSub, reduceIte, evRE, retVC, cellV', evR, nfz, nfzs, nfzss, List.contains_nil, List.contains_cons, Bool.or_false, or_true]
end Go.AM
namespace Go.AM
set_option linter.unusedVariables false
set_option linter.unusedSimpArgs false
def prt (ptr : Bool) (t : Ty) : List Int := (if (decide (0 ≤ t.base) && (ptr || !(t.kind == 6))) = true then [t.base] else []) ++ t.fields.map Fd.typ
def kids (l : List Ty) (ptr : Bool) (n : Int) : List Int := match l[n.toNat]? with
  | some t => prt ptr t
  | none => []
theorem kids_at {l : List Ty} {ptr : Bool} {n : Int} (h : n.toNat < l.length) : kids l ptr n = prt ptr l[n.toNat] := by simp [kids, h]
inductive Rch (l : List Ty) (ptr : Bool) (fr : List Int) : Int → Prop where
  | base {n : Int} : n ∈ fr → Rch l ptr fr n
  | step {m n : Int} : Rch l ptr fr m → n ∈ kids l ptr m → Rch l ptr fr n
theorem Rch.mono {l : List Ty} {ptr : Bool} {fr fr' : List Int} (h : ∀ n ∈ fr, Rch l ptr fr' n) {n : Int} (hr : Rch l ptr fr n) : Rch l ptr fr' n := by
  induction hr with
  | base hm => exact h _ hm
  | step _ hk ih => exact .step ih hk
def kidsIn (l : List Ty) : Prop := ∀ n : Int, 0 ≤ n → n < l.length → ∀ k ∈ kids l true n, 0 ≤ k ∧ k < (l.length : Int)
theorem kids_sub {l : List Ty} {ptr : Bool} {n k : Int} (h : k ∈ kids l ptr n) : k ∈ kids l true n := by
  cases ptr with
  | true => exact h
  | false =>
    unfold kids at h ⊢
    split
    · rename_i t ht
      rw [ht] at h
      simp only [prt, List.mem_append] at h ⊢
      rcases h with h | h
      · left
        split at h
        · rename_i hc
          rw [if_pos (by simp only [Bool.and_eq_true] at hc ⊢; exact ⟨hc.1, rfl⟩)]
          exact h
        · simp at h
      · exact .inr h
    · rename_i ht; rw [ht] at h; exact h
theorem Rch.inr {l : List Ty} {ptr : Bool} {fr : List Int} (hk : kidsIn l) (hf : ∀ k ∈ fr, 0 ≤ k ∧ k < (l.length : Int)) {n : Int} (h : Rch l ptr fr n) : 0 ≤ n ∧ n < (l.length : Int) := by
  induction h with
  | base hm => exact hf _ hm
  | step _ hm ih => exact hk _ ih.1 ih.2 _ (kids_sub hm)
open Classical in
noncomputable def reachL (l : List Ty) (ptr : Bool) (fr : List Int) : List Int := ((List.range l.length).map Int.ofNat).filter fun n => decide (Rch l ptr fr n)
theorem mem_reachL {l : List Ty} {ptr : Bool} {fr : List Int} {n : Int} : n ∈ reachL l ptr fr ↔ (0 ≤ n ∧ n < (l.length : Int)) ∧ Rch l ptr fr n := by
  simp only [reachL, List.mem_filter, List.mem_map, List.mem_range, decide_eq_true_eq]
  constructor
  · rintro ⟨⟨k, hk, rfl⟩, h⟩
    exact ⟨⟨Int.natCast_nonneg k, by exact Int.ofNat_lt.2 hk⟩, h⟩
  · rintro ⟨⟨h0, h1⟩, h⟩
    exact ⟨⟨n.toNat, by omega, by exact Int.toNat_of_nonneg h0⟩, h⟩
theorem range_up : ∀ n : Nat, ((List.range n).map Int.ofNat).Pairwise (· < ·) := by
  intro n
  rw [List.pairwise_map]
  exact List.Pairwise.imp (fun h => Int.ofNat_lt.2 h) List.pairwise_lt_range
theorem reachL_up (l : List Ty) (ptr : Bool) (fr : List Int) : (reachL l ptr fr).Pairwise (· < ·) := List.Pairwise.filter _ (range_up _)
theorem up_eq : ∀ {a b : List Int}, a.Pairwise (· < ·) → b.Pairwise (· < ·) → (∀ n, n ∈ a ↔ n ∈ b) → a = b
  | [], [], _, _, _ => rfl
  | [], y :: b, _, _, h => by have := (h y).2 (by simp); simp at this
  | x :: a, [], _, _, h => by have := (h x).1 (by simp); simp at this
  | x :: a, y :: b, ha, hb, h => by
    rw [List.pairwise_cons] at ha hb
    have e : x = y := by
      have h1 := (h x).1 (by simp)
      have h2 := (h y).2 (by simp)
      rcases List.mem_cons.1 h1 with h1 | h1
      · exact h1
      · rcases List.mem_cons.1 h2 with h2 | h2
        · exact h2.symm
        · have := ha.1 y h2; have := hb.1 x h1; omega
    subst e
    rw [up_eq ha.2 hb.2 (fun n => ?_)]
    have := h n
    simp only [List.mem_cons] at this
    constructor
    · intro hn
      rcases this.1 (.inr hn) with e | h3
      · have := ha.1 n hn; omega
      · exact h3
    · intro hn
      rcases this.2 (.inr hn) with e | h3
      · have := hb.1 n hn; omega
      · exact h3
theorem up_nodup {a : List Int} (h : a.Pairwise (· < ·)) : a.Nodup := h.imp fun h => by omega
theorem reachL_congr {l : List Ty} {ptr : Bool} {fr fr' : List Int} (h : ∀ n, n ∈ fr ↔ n ∈ fr') : reachL l ptr fr = reachL l ptr fr' := by
  refine up_eq (reachL_up _ _ _) (reachL_up _ _ _) fun n => ?_
  rw [mem_reachL, mem_reachL]
  constructor
  · rintro ⟨h1, h2⟩; exact ⟨h1, h2.mono fun n hn => .base ((h n).1 hn)⟩
  · rintro ⟨h1, h2⟩; exact ⟨h1, h2.mono fun n hn => .base ((h n).2 hn)⟩
theorem reachL_of {l : List Ty} {ptr : Bool} {fr out : List Int} (hk : kidsIn l) (hf : ∀ k ∈ fr, 0 ≤ k ∧ k < (l.length : Int)) (hu : out.Pairwise (· < ·)) (hfr : ∀ n ∈ fr, n ∈ out) (hcl : ∀ n ∈ out, ∀ k ∈ kids l ptr n, k ∈ out) (hr : ∀ n ∈ out, Rch l ptr fr n) : out = reachL l ptr fr := by
  refine up_eq hu (reachL_up _ _ _) fun n => ?_
  rw [mem_reachL]
  constructor
  · intro h; exact ⟨(hr n h).inr hk hf, hr n h⟩
  · rintro ⟨hx, h⟩
    clear hr hu hf hk hx
    induction h with
    | base hm => exact hfr _ hm
    | step _ hm ih => exact hcl _ ih _ hm
theorem sub_len : ∀ {a b : List Int}, a.Nodup → (∀ x ∈ a, x ∈ b) → a.length ≤ b.length
  | [], b, _, _ => Nat.zero_le _
  | x :: a, b, hn, h => by
    rw [List.nodup_cons] at hn
    have hx := h x (by simp)
    have ih := sub_len (b := b.erase x) hn.2 fun y hy => by
      have hne : y ≠ x := by intro e; subst e; exact hn.1 hy
      exact (List.mem_erase_of_ne hne).2 (h y (by simp [hy]))
    have he := List.length_erase_of_mem hx
    have hp : 0 < b.length := List.length_pos_of_mem hx
    simp only [List.length_cons]
    omega
theorem nodup_le {out : List Int} {n : Nat} (hn : out.Nodup) (h : ∀ k ∈ out, 0 ≤ k ∧ k < (n : Int)) : out.length ≤ n := by
  have := sub_len (b := (List.range n).map Int.ofNat) hn fun k hk => by
    obtain ⟨h0, h1⟩ := h k hk
    rw [List.mem_map]
    exact ⟨k.toNat, by rw [List.mem_range]; omega, Int.toNat_of_nonneg h0⟩
  simpa using this
noncomputable def roundAt (l : List Ty) (n : Int) : Bool := (reachL l false (kids l false n)).contains n
noncomputable def tabOk (l : List Ty) : Bool := tysOk l && (List.range l.length).all fun n => !roundAt l (n : Int)
theorem tabOk_tys {l : List Ty} (h : tabOk l = true) : tysOk l = true := by simp only [tabOk, Bool.and_eq_true] at h; exact h.1
theorem tabOk_round {l : List Ty} (h : tabOk l = true) {n : Int} (h0 : 0 ≤ n) (h1 : n < (l.length : Int)) : roundAt l n = false := by
  simp only [tabOk, Bool.and_eq_true, List.all_eq_true, List.mem_range] at h
  have := h.2 n.toNat (by omega)
  rw [Int.toNat_of_nonneg h0] at this
  simpa using this
theorem getElem_drop3 {l : List Ty} {n : Nat} (h3 : 3 ≤ n) (h : n < l.length) : ∃ h' : n - 3 < (l.drop 3).length, (l.drop 3)[n - 3] = l[n] := by
  refine ⟨by simp; omega, ?_⟩
  rw [List.getElem_drop]
  congr 1
  omega
theorem sameTy_base {a b : Ty} (h : sameTy a b = true) : a.kind = b.kind ∧ a.long = b.long ∧ a.base = b.base ∧ a.fields.length = b.fields.length ∧ (a.name.toList == b.name.toList) = true := by
  simp only [sameTy, Bool.and_eq_true, beq_iff_eq] at h
  obtain ⟨h1, h2, h3, h4, h5, h6⟩ := h
  refine ⟨h1, h2, h3, ?_, by rw [h6]; exact beq_self_eq_true _⟩
  simp only [eqL, decide_eq_true_eq] at h4
  exact h4.1
theorem tysOk_ty {l : List Ty} (h : tysOk l = true) {n : Nat} (h3 : 3 ≤ n) (hn : n < l.length) : tyOk l l[n] = true := by
  simp only [tysOk, Bool.and_eq_true, decide_eq_true_eq] at h
  obtain ⟨h', e⟩ := getElem_drop3 h3 hn
  have := h.2.2 (n - 3) h' h'
  simp only [tyAt, Bool.and_eq_true, e] at this
  exact this.2
theorem tysOk_len {l : List Ty} (h : tysOk l = true) : 3 ≤ l.length ∧ l.length ≤ 24 := by
  simp only [tysOk, Bool.and_eq_true, decide_eq_true_eq] at h
  omega
theorem tysOk_base {l : List Ty} (h : tysOk l = true) {n : Nat} (h3 : n < 3) (hn : n < l.length) : l[n].kind = (n : Int) + 1 ∧ l[n].long = 0 ∧ l[n].base = -1 ∧ l[n].fields = [] := by
  simp only [tysOk, Bool.and_eq_true, decide_eq_true_eq, eqL] at h
  obtain ⟨_, ⟨he, ht⟩, _⟩ := h
  have h1 : n < (l.take 3).length := by simp; omega
  have h2 : n < baseTs.length := by rw [base_len]; exact h3
  have hs := ht n h1 h2 (by omega)
  rw [List.getElem_take] at hs
  obtain ⟨q1, q2, q3, q4, _⟩ := sameTy_base hs
  have : n = 0 ∨ n = 1 ∨ n = 2 := by omega
  rcases this with rfl | rfl | rfl <;> exact ⟨q1, q2, q3, List.eq_nil_of_length_eq_zero q4⟩
theorem fdsOk_at {l : List Ty} {fs : List Fd} (h : fdsOk l fs = true) : fs.length ≤ 6 ∧ ∀ f ∈ fs, isNum l f.typ = true := by
  simp only [fdsOk, decide_eq_true_eq] at h
  refine ⟨h.2, fun f hf => ?_⟩
  obtain ⟨i, hi, rfl⟩ := List.mem_iff_getElem.1 hf
  have := h.1 i hi hi
  simp only [fdAt, Bool.and_eq_true] at this
  exact this.2.1
structure TyGood (l : List Ty) (t : Ty) : Prop where
  base : t.base = -1 ∨ isNum l t.base = true
  flds : ∀ f ∈ t.fields, isNum l f.typ = true
  few : t.fields.length ≤ 6
  none : t.kind ≠ 5 → t.fields = []
  rec5 : t.kind = 5 → t.base = -1 ∨ isRec l t.base = true
  arr : t.kind = 4 → isNum l t.base = true ∧ 1 ≤ t.long ∧ t.long ≤ 1000
  ptr : t.kind = 6 → isNum l t.base = true ∧ (kd l t.base = 5 ∨ kd l t.base = 4)
  one : 1 ≤ t.kind ∧ t.kind ≤ 6
  low : t.kind ≤ 3 → t.base = -1
theorem tyOk_good {l : List Ty} {t : Ty} (h : tyOk l t = true) : TyGood l t := by
  simp only [tyOk, Bool.and_eq_true, Bool.not_eq_true', Bool.and_eq_false_iff] at h
  obtain ⟨_, h2, h3⟩ := h
  have hrec : ∀ {n : Int}, isRec l n = true → isNum l n = true := fun h => by simp only [isRec, Bool.and_eq_true] at h; exact h.1
  have hnone : t.kind ≠ 5 → t.fields = [] := by
    intro hk
    rcases h2 with h2 | h2
    · simp at h2; exact absurd h2 hk
    · have : ¬ (0 : Int) < t.fields.length := by simpa using h2
      exact List.eq_nil_of_length_eq_zero (by omega)
  by_cases k4 : t.kind = 4
  · have : (t.kind == 4) = true := by simp [k4]
    rw [if_pos this] at h3
    simp only [Bool.and_eq_true, decide_eq_true_eq] at h3
    have hf := hnone (by omega)
    exact ⟨.inr h3.2, by rw [hf]; simp, by rw [hf]; simp, hnone, by omega, fun _ => ⟨h3.2, h3.1⟩, by omega, by omega, by omega⟩
  have e4 : ¬ (t.kind == 4) = true := by simpa using k4
  rw [if_neg e4] at h3
  by_cases k5 : t.kind = 5
  · have : (t.kind == 5) = true := by simp [k5]
    rw [if_pos this] at h3
    simp only [Bool.and_eq_true, beq_iff_eq, Bool.or_eq_true] at h3
    obtain ⟨⟨_, hb⟩, hf⟩ := h3
    obtain ⟨f1, f2⟩ := fdsOk_at hf
    exact ⟨hb.imp id hrec, f2, f1, hnone, fun _ => hb, by omega, by omega, by omega, by omega⟩
  have e5 : ¬ (t.kind == 5) = true := by simpa using k5
  rw [if_neg e5] at h3
  by_cases k6 : t.kind = 6
  · have : (t.kind == 6) = true := by simp [k6]
    rw [if_pos this] at h3
    simp only [Bool.and_eq_true, beq_iff_eq, Bool.or_eq_true] at h3
    obtain ⟨_, hb⟩ := h3
    have hf := hnone (by omega)
    have hnum : isNum l t.base = true := hb.elim hrec fun h => h.1
    exact ⟨.inr hnum, by rw [hf]; simp, by rw [hf]; simp, hnone, by omega, by omega, fun _ => ⟨hnum, hb.imp (fun h => by simp only [isRec, Bool.and_eq_true, beq_iff_eq] at h; exact h.2) fun h => h.2⟩, by omega, by omega⟩
  have e6 : ¬ (t.kind == 6) = true := by simpa using k6
  rw [if_neg e6] at h3
  cases h3
theorem tysOk_good {l : List Ty} (h : tysOk l = true) {n : Nat} (hn : n < l.length) : TyGood l l[n] := by
  by_cases h3 : 3 ≤ n
  · exact tyOk_good (tysOk_ty h h3 hn)
  · obtain ⟨q1, q2, q3, q4⟩ := tysOk_base h (by omega) hn
    exact ⟨.inl q3, by rw [q4]; simp, by rw [q4]; simp, fun _ => q4, by omega, by omega, by omega, by omega, fun _ => q3⟩
theorem isNum_in {l : List Ty} {n : Int} : isNum l n = true ↔ 0 ≤ n ∧ n < (l.length : Int) := by
  simp only [isNum, Bool.and_eq_true, decide_eq_true_eq]; omega
theorem tysOk_kids {l : List Ty} (h : tysOk l = true) : kidsIn l := by
  intro n h0 h1 k hk
  have hn : n.toNat < l.length := by omega
  have G := tysOk_good h hn
  rw [kids_at hn] at hk
  simp only [prt, List.mem_append, List.mem_map] at hk
  rcases hk with hk | ⟨f, hf, rfl⟩
  · split at hk
    · rename_i hc
      simp only [Bool.and_eq_true, decide_eq_true_eq] at hc
      simp only [List.mem_singleton] at hk
      subst hk
      rcases G.base with hb | hb
      · omega
      · exact isNum_in.1 hb
    · simp at hk
  · exact isNum_in.1 (G.flds f hf)
theorem prt_len {l : List Ty} (h : tysOk l = true) (ptr : Bool) {n : Nat} (hn : n < l.length) : (prt ptr l[n]).length ≤ 7 := by
  have G := tysOk_good h hn
  have := G.few
  simp only [prt, List.length_append, List.length_map]
  split <;> simp <;> omega
theorem kids_ok {l : List Ty} (h : tysOk l = true) {n : Int} {ptr : Bool} {k : Int} (h0 : 0 ≤ n) (h1 : n < l.length) (hk : k ∈ kids l ptr n) : 0 ≤ k ∧ k < (l.length : Int) := tysOk_kids h n h0 h1 k (kids_sub hk)
end Go.AM
namespace Go.AM
set_option linter.unusedVariables false
set_option linter.unusedSimpArgs false
def prtB (ptr : Bool) (t : Ty) : List Int := if (decide (0 ≤ t.base) && (ptr || !(t.kind == 6))) = true then [t.base] else []
theorem prtB_len (ptr : Bool) (t : Ty) : (prtB ptr t).length ≤ 1 := by unfold prtB; split <;> simp
def m176 : MC :=
 (.seq (.reg [Xb 2 (.box 129 (.t 0)), Xb 4 (.asg (.nils 3 1))]) (.seq (.reg [Xb 8 (.bsl 3 1 []), Xa 5 8]) (.join [2, 5, 8, 24, 36] (.seq (.reg [Xf 9 2 2, Xl 10 1 9, Xq 11 (.bin false .geq (.t 10) (.i 0)), Xm 12 11, Xt 13 12 (.mov (.t 1)), Xt 14 12 (.mov (.t 13)), Xu 15 14 (.fad 0 (.t 2)), Xu 16 14 (.load false 1 (.t 15)), Xu 17 14 (.bin false .neq (.t 16) (.i 6)), Xt 18 12 (.pick (.t 14) .tb (.t
 17)), Xq 19 (.pick (.t 12) (.t 18) .fb)]) (.cond (.t 19) (.reg [Xm 20 5, Xf 21 2 2, Xl 22 1 21, Xb 23 (.bsl 3 1 [.t 22]), Xb 24 (.app true 3 1 8 (.t 20) (.t 23)), Xa 5 24]) .skip)) (.seq (.seq (.reg [Xf 25 3 2, Xl 26 1 25, Xn 27 26, Xq 28 (.mov (.i 0))]) (.block 0 (.loop [2, 5, 8, 24, 25, 26, 27, 28, 36] (.seq (.reg [Xq 29 (.bin false .lss (.t 28) (.t 27))]) (.seq (.cond (.t 29) .skip (.exit 0))
 (.seq (.block 1 (.seq (.reg [Xi 30 3 26 28, XL 31 3 30, Xb 7 (.alloc 138 [.z, .i, .i]), Xz (.store 3 (.t 7) (.t 31))]) (.reg [Xm 32 5, Xf 33 2 7, Xl 34 1 33, Xb 35 (.bsl 3 1 [.t 34]), Xb 36 (.app true 3 1 8 (.t 32) (.t 35)), Xa 5 36]))) (.reg [Xq 37 (.bin false .add (.t 28) (.i 1)), Xm 28 37]))))))) (.seq (.reg [Xm 38 5, Xa 4 38]) .ret)))))
set_option maxRecDepth 100000 in
theorem d176 (t : Ty) (ptr : Bool) (ht : t.sm) : Does Go.Proofs.Tryz.prog 176 [.agg t.z, .v (.bool ptr)] false (.usl 3 1 ((prt ptr t).map iv)) [.dead, .dead] := by
  unfold Ty.sm at ht
  have hf := ht.2.2.2.1.1
  refine does_intro (mc := m176) (N := 39) (rs := [4]) (fx := []) 2 rfl (by decide +kernel) ?_
  simp only [m176, Ty.z, EV, Nat.reduceEqDiff, Nat.reduceBEq, Nat.reduceLT, Nat.reduceLeDiff, Nat.reduceAdd, Nat.reduceSub, reduceIte]
  refine awp_join (fun _ : Unit => True) (fun _ => stl [(2, .box 129 t.z), (5, .usl 3 1 ((prtB ptr t).map iv)), (8, .dead), (24, .dead), (36, .dead)]) ?_ ?_
  · have no : (decide (0 ≤ t.base) && (ptr || !(t.kind == 6))) = false → prtB ptr t = [] := fun h => by unfold prtB; rw [h]; rfl
    have yes : (decide (0 ≤ t.base) && (ptr || !(t.kind == 6))) = true → prtB ptr t = [t.base] := fun h => by unfold prtB; rw [h]; rfl
    simp only [EV, Nat.reduceEqDiff, Nat.reduceBEq, Nat.reduceLT, Nat.reduceLeDiff, Nat.reduceAdd, Nat.reduceSub, reduceIte]
    rcases e1 : decide (0 ≤ t.base) with _ | _ <;> rcases ptr with _ | _ <;> rcases e2 : (t.kind == 6) with _ | _
    all_goals simp only [e1, e2, Bool.true_and, Bool.false_and, Bool.true_or, Bool.false_or, Bool.not_true, Bool.not_false, Bool.true_eq_false, Bool.false_eq_true, false_implies, forall_const] at no yes
    all_goals simp only [bne, e1, e2, yes, no, EV, Nat.reduceEqDiff, Nat.reduceBEq, Nat.reduceLT, Nat.reduceLeDiff, Nat.reduceAdd, Nat.reduceSub, reduceIte]
    all_goals first
      | exact ⟨(), trivial⟩
      | exact ⟨(), rfl⟩
      | (refine ⟨by simp only [List.length_nil]; omega, by simp only [List.length_nil]; omega, (), ?_⟩; rfl)
      | (refine ⟨by omega, (), ?_⟩; rfl)
      | trace_state
  rintro _ _
  simp only [Ty.z, EV, Nat.reduceEqDiff, Nat.reduceBEq, Nat.reduceLT, Nat.reduceLeDiff, Nat.reduceAdd, Nat.reduceSub, reduceIte]
  have hbl := prtB_len ptr t
  refine awp_loop (fun i : Nat => i ≤ t.fields.length) (fun i => stl [(2, .box 129 t.z), (5, .usl 3 1 ((prtB ptr t ++ (t.fields.take i).map Fd.typ).map iv)), (8, .dead), (24, .dead), (25, .ref 2 [] 0 3), (26, .fsl 3 (t.fields.map Fd.z)), (27, .v (.int .i64 (t.fields.length : Int))), (28, .v (.int .i64 (i : Int))), (36, .dead)]) (fun i => t.fields.length - i) 0 (Nat.zero_le _) ?_ ?_
  · simp only [List.append_nil, EV, Nat.reduceEqDiff, Nat.reduceBEq, Nat.reduceLT, Nat.reduceLeDiff, Nat.reduceAdd, Nat.reduceSub, reduceIte]
    rfl
  · intro i hi
    simp only [Ty.z, EV, Nat.reduceEqDiff, Nat.reduceBEq, Nat.reduceLT, Nat.reduceLeDiff, Nat.reduceAdd, Nat.reduceSub, reduceIte]
    refine cK_cut (fun h => ?_) (fun h => ?_)
    · have h1 : i < t.fields.length := by simpa using h
      have h2 : (i : Int) < (t.fields.length : Int) := by omega
      clear h
      simp only [FdE, nth_map h1, h1, h2, Fd.z, EV, Nat.reduceEqDiff, Nat.reduceBEq, Nat.reduceLT, Nat.reduceLeDiff, Nat.reduceAdd, Nat.reduceSub, reduceIte]
      rw [w64 _ (by omega)]
      have e : prtB ptr t ++ List.map Fd.typ (List.take (i + 1) t.fields) = (prtB ptr t ++ List.map Fd.typ (List.take i t.fields)) ++ [t.fields[i].typ] := by
        rw [List.take_succ_eq_append_getElem h1, List.map_append, List.append_assoc]; rfl
      refine ⟨by simp; omega, by simp; omega, i + 1, h1, by omega, ?_⟩
      rw [e, List.map_append (l₂ := [t.fields[i].typ])]
      rfl
    · have h1 : i = t.fields.length := by have : ¬ (i : Int) < t.fields.length := by simpa using h
                                          omega
      subst h1
      have e : prtB ptr t ++ List.map Fd.typ (List.take t.fields.length t.fields) = prt ptr t := by rw [List.take_length]; rfl
      rw [e]
      simp only [EV, Nat.reduceEqDiff, Nat.reduceBEq, Nat.reduceLT, Nat.reduceLeDiff, Nat.reduceAdd, Nat.reduceSub, reduceIte]
      simp only [iv_nfz, EV, Nat.reduceEqDiff, Nat.reduceBEq, Nat.reduceLT, Nat.reduceLeDiff, Nat.reduceAdd, Nat.reduceSub, reduceIte, evRE, retVC, cellV', evR, nfz, nfzs, nfzss, List.contains_nil, List.contains_cons, Bool.or_false, or_true]
def m250 : MC :=
 (.seq (.reg [Xb 1 (.box 129 (.t 0)), Xb 2 (.asg (.nils 3 1))]) (.seq (.reg [Xb 3 (.asg (.nils 3 1))]) (.join [1, 3, 18, 30] (.seq (.reg [Xf 6 2 1, Xl 7 1 6, Xq 8 (.bin false .geq (.t 7) (.i 0)), Xm 9 8, Xt 10 9 (.fad 0 (.t 1)), Xt 11 9 (.load false 1 (.t 10)), Xt 12 9 (.bin false .neq (.t 11) (.i 6)), Xq 13 (.pick (.t 9) (.t 12) .fb)]) (.cond (.t 13) (.reg [Xm 14 3, Xf 15 2 1, Xl 16 1 15, Xb 17
 (.bsl 3 1 [.t 16]), Xb 18 (.app true 3 1 8 (.t 14) (.t 17)), Xa 3 18]) .skip)) (.seq (.seq (.reg [Xf 19 3 1, Xl 20 1 19, Xn 21 20, Xq 22 (.mov (.i 0))]) (.block 0 (.loop [1, 3, 18, 19, 20, 21, 22, 30] (.seq (.reg [Xq 23 (.bin false .lss (.t 22) (.t 21))]) (.seq (.cond (.t 23) .skip (.exit 0)) (.seq (.block 1 (.seq (.reg [Xi 24 3 20 22, XL 25 3 24, Xb 5 (.alloc 138 [.z, .i, .i]), Xz (.store 3 (.t
 5) (.t 25))]) (.reg [Xm 26 3, Xf 27 2 5, Xl 28 1 27, Xb 29 (.bsl 3 1 [.t 28]), Xb 30 (.app true 3 1 8 (.t 26) (.t 29)), Xa 3 30]))) (.reg [Xq 31 (.bin false .add (.t 22) (.i 1)), Xm 22 31]))))))) (.seq (.reg [Xm 32 3, Xa 2 32]) .ret)))))
set_option maxRecDepth 100000 in
theorem d250 (t : Ty) (ht : t.sm) : Does Go.Proofs.Tryz.prog 250 [.agg t.z] false (.usl 3 1 ((prt false t).map iv)) [.dead] := by
  unfold Ty.sm at ht
  have hf := ht.2.2.2.1.1
  refine does_intro (mc := m250) (N := 33) (rs := [2]) (fx := []) 1 rfl (by decide +kernel) ?_
  simp only [m250, Ty.z, EV, Nat.reduceEqDiff, Nat.reduceBEq, Nat.reduceLT, Nat.reduceLeDiff, Nat.reduceAdd, Nat.reduceSub, reduceIte]
  refine awp_join (fun _ : Unit => True) (fun _ => stl [(1, .box 129 t.z), (3, .usl 3 1 ((prtB false t).map iv)), (18, .dead), (30, .dead)]) ?_ ?_
  · have no : (decide (0 ≤ t.base) && !(t.kind == 6)) = false → prtB false t = [] := fun h => by unfold prtB; rw [Bool.false_or, h]; rfl
    have yes : (decide (0 ≤ t.base) && !(t.kind == 6)) = true → prtB false t = [t.base] := fun h => by unfold prtB; rw [Bool.false_or, h]; rfl
    simp only [EV, Nat.reduceEqDiff, Nat.reduceBEq, Nat.reduceLT, Nat.reduceLeDiff, Nat.reduceAdd, Nat.reduceSub, reduceIte]
    rcases e1 : decide (0 ≤ t.base) with _ | _ <;> rcases e2 : (t.kind == 6) with _ | _
    all_goals simp only [e1, e2, Bool.true_and, Bool.false_and, Bool.true_or, Bool.false_or, Bool.not_true, Bool.not_false, Bool.true_eq_false, Bool.false_eq_true, false_implies, forall_const] at no yes
    all_goals simp only [bne, e1, e2, yes, no, EV, Nat.reduceEqDiff, Nat.reduceBEq, Nat.reduceLT, Nat.reduceLeDiff, Nat.reduceAdd, Nat.reduceSub, reduceIte]
    all_goals first
      | exact ⟨(), trivial⟩
      | exact ⟨(), rfl⟩
      | (refine ⟨by simp only [List.length_nil]; omega, by simp only [List.length_nil]; omega, (), ?_⟩; rfl)
      | (refine ⟨by omega, (), ?_⟩; rfl)
      | trace_state
  rintro _ _
  simp only [Ty.z, EV, Nat.reduceEqDiff, Nat.reduceBEq, Nat.reduceLT, Nat.reduceLeDiff, Nat.reduceAdd, Nat.reduceSub, reduceIte]
  have hbl := prtB_len false t
  refine awp_loop (fun i : Nat => i ≤ t.fields.length) (fun i => stl [(1, .box 129 t.z), (3, .usl 3 1 ((prtB false t ++ (t.fields.take i).map Fd.typ).map iv)), (18, .dead), (19, .ref 1 [] 0 3), (20, .fsl 3 (t.fields.map Fd.z)), (21, .v (.int .i64 (t.fields.length : Int))), (22, .v (.int .i64 (i : Int))), (30, .dead)]) (fun i => t.fields.length - i) 0 (Nat.zero_le _) ?_ ?_
  · simp only [List.append_nil, EV, Nat.reduceEqDiff, Nat.reduceBEq, Nat.reduceLT, Nat.reduceLeDiff, Nat.reduceAdd, Nat.reduceSub, reduceIte]
    rfl
  · intro i hi
    simp only [Ty.z, EV, Nat.reduceEqDiff, Nat.reduceBEq, Nat.reduceLT, Nat.reduceLeDiff, Nat.reduceAdd, Nat.reduceSub, reduceIte]
    refine cK_cut (fun h => ?_) (fun h => ?_)
    · have h1 : i < t.fields.length := by simpa using h
      have h2 : (i : Int) < (t.fields.length : Int) := by omega
      clear h
      simp only [FdE, nth_map h1, h1, h2, Fd.z, EV, Nat.reduceEqDiff, Nat.reduceBEq, Nat.reduceLT, Nat.reduceLeDiff, Nat.reduceAdd, Nat.reduceSub, reduceIte]
      rw [w64 _ (by omega)]
      have e : prtB false t ++ List.map Fd.typ (List.take (i + 1) t.fields) = (prtB false t ++ List.map Fd.typ (List.take i t.fields)) ++ [t.fields[i].typ] := by
        rw [List.take_succ_eq_append_getElem h1, List.map_append, List.append_assoc]; rfl
      refine ⟨by simp; omega, by simp; omega, i + 1, h1, by omega, ?_⟩
      rw [e, List.map_append (l₂ := [t.fields[i].typ])]
      rfl
    · have h1 : i = t.fields.length := by have : ¬ (i : Int) < t.fields.length := by simpa using h
                                          omega
      subst h1
      have e : prtB false t ++ List.map Fd.typ (List.take t.fields.length t.fields) = prt false t := by rw [List.take_length]; rfl
      rw [e]
      simp only [EV, Nat.reduceEqDiff, Nat.reduceBEq, Nat.reduceLT, Nat.reduceLeDiff, Nat.reduceAdd, Nat.reduceSub, reduceIte]
      simp only [iv_nfz, EV, Nat.reduceEqDiff, Nat.reduceBEq, Nat.reduceLT, Nat.reduceLeDiff, Nat.reduceAdd, Nat.reduceSub, reduceIte, evRE, retVC, cellV', evR, nfz, nfzs, nfzss, List.contains_nil, List.contains_cons, Bool.or_false, or_true]
end Go.AM
set_option linter.unusedVariables false
set_option linter.unusedSimpArgs false
namespace Go.Proofs
open Go.Shelf
shelf_lay Lays.n189 Nm 189 at Tryz as Tryz.laysSort
shelf_lay Lays2.n20 Nm2 20 at Tryz as Tryz.laysCompact
end Go.Proofs
namespace Go.AM
open Go.Sort Go.RowKit
theorem int_cells {w : World} {Fz : Nat → Prop} : ∀ {l : List Int} {xs : List Value} {o : List Nat}, RepRows w Fz 1 (l.map iv) xs o → xs = l.map (Value.int .i64) ∧ o = []
  | [], xs, o, h => by simp only [List.map_nil, RepRows] at h; exact h
  | s :: l, xs, o, h => by
    simp only [List.map_cons, RepRows] at h
    obtain ⟨x1, x2, o1, o2, rfl, rfl, hl, h1, h2⟩ := h
    simp only [iv, RepRow, RepC] at h1
    obtain ⟨x, xs', p1, p2, rfl, rfl, ⟨rfl, _, rfl⟩, rfl, rfl⟩ := h1
    obtain ⟨rfl, rfl⟩ := int_cells h2
    exact ⟨rfl, rfl⟩
theorem cells_int {w : World} {Fz : Nat → Prop} : ∀ (l : List Int), RepRows w Fz 1 (l.map iv) (l.map (Value.int .i64)) []
  | [] => by simp [RepRows]
  | s :: l => by
    simp only [List.map_cons, RepRows]
    exact ⟨[.int .i64 s], _, [], [], rfl, rfl, rfl, by simp only [iv, RepRow, RepC]; exact ⟨_, [], [], [], rfl, rfl, ⟨rfl, rfl, rfl⟩, rfl, rfl⟩, cells_int l⟩
theorem holds_of {w : World} {g h : Nat} {cur : Array Value} {e : Nat} {l : List Int} (hg : w.heap[g]? = some (.cells cur e (0, 0))) (hat : At w g h (l.map (Value.int .i64))) : Holds (Value.int .i64) w g h l.toArray := by
  intro j hj
  have hj' : j < l.length := by simpa using hj
  refine ⟨?_, ?_⟩
  · rw [hat j (Value.int .i64 l[j]) (by simp [hj'])]
    simp [hj']
  · simp [World.frozen?, hg]
theorem put_ext {w : World} {g h n : Nat} {cur : Array Value} {e : Nat} {l m : List Int} {os : Array Obj} (hg : w.heap[g]? = some (.cells cur e (0, 0))) (hat : At w g h (l.map (Value.int .i64))) (hm : m.length = l.length) :
    let w' := grow (putRow (Value.int .i64) (Sort.ahead w n) g h m.toArray) os
    Ext w w' [g] ∧ w'.heap[g]? = some (.cells (putCells (Value.int .i64) h m.toArray cur) e (0, 0)) ∧ (putCells (Value.int .i64) h m.toArray cur).size = cur.size ∧ At w' g h (m.map (Value.int .i64)) ∧ w.heap.size ≤ w'.heap.size := by
  intro w'
  have hlt : g < w.heap.size := by
    rcases Nat.lt_or_ge g w.heap.size with h | h
    · exact h
    · rw [Array.getElem?_eq_none h] at hg; cases hg
  have hb : ∀ b, b < w.heap.size → w'.heap[b]? = (w.heap.modify g (onCells (putCells (Value.int .i64) h m.toArray)))[b]? := by
    intro b hb
    simp only [w', grow, putRow, mapBlock, Sort.ahead]
    rw [Array.getElem?_append_left (by simpa using hb)]
  have hsz : w.heap.size ≤ w'.heap.size := by simp [w', grow, putRow, mapBlock, Sort.ahead]
  have hg' : w'.heap[g]? = some (.cells (putCells (Value.int .i64) h m.toArray cur) e (0, 0)) := by
    rw [hb g hlt, Array.getElem?_modify, if_pos rfl, hg]
    rfl
  refine ⟨⟨rfl, rfl, rfl, hsz, ?_⟩, hg', by simp [putCells], ?_, hsz⟩
  · intro b hb' hn
    rw [hb b hb', Array.getElem?_modify, if_neg (by intro e; exact hn (by simp [e]))]
  · intro j u hj
    have hj' : j < m.length := by
      rcases Nat.lt_or_ge j m.length with h | h
      · exact h
      · simp [h] at hj
    have hc := hat j (Value.int .i64 (l[j]'(by omega))) (by simp [show j < l.length by omega])
    simp only [World.cell?, hg] at hc
    simp only [World.cell?, hg', putCells, Array.getElem?_mapIdx]
    have hc' : cur[h + j]? = some (Value.int .i64 (l[j]'(by omega))) := by simpa using hc
    have hu : u = Value.int .i64 m[j] := by simpa [hj'] using hj.symm
    subst hu
    simp [hc', hj']
def srt (l : List Int) : List Int := l.mergeSort fun x y => decide (x ≤ y)
theorem srt_len (l : List Int) : (srt l).length = l.length := List.length_mergeSort _
theorem srt_mem {l : List Int} {n : Int} : n ∈ srt l ↔ n ∈ l := List.mem_mergeSort
theorem srt_le (l : List Int) : (srt l).Pairwise (· ≤ ·) := by
  have := List.pairwise_mergeSort (le := fun x y : Int => decide (x ≤ y)) (fun a b c h1 h2 => by simp at *; omega) (fun a b => by simp; omega) l
  exact this.imp fun h => by simpa using h
theorem d229 (l : List Int) (hl : (l.length : Int) ≤ 1152921504606846976) : Does Go.Proofs.Tryz.prog 229 [.usl 3 1 (l.map iv)] false (.tup []) [.usl 3 1 ((srt l).map iv)] := by
  refine ⟨by decide +kernel, ?_⟩
  intro w Fz xs os hrep hos hfz hlt
  simp only [RepVs, RepV, RepC] at hrep
  obtain ⟨x, xs', o1, o2, rfl, rfl, hx, rfl, rfl⟩ := hrep
  simp only [List.append_nil] at *
  rcases hx with ⟨rfl, h0, rfl⟩ | ⟨g, h, c, cur, ys, o', rfl, rfl, hg, hc, hsz, hrows, hat⟩
  · have hl0 : l = [] := by simpa using h0
    subst hl0
    refine (Go.Proofs.Any.slices_Sort_int_none Go.Proofs.Tryz.laysSort none 0 w).mono ?_
    rintro e w' ⟨rfl, rfl⟩
    refine ⟨_, [], [], rfl, Ext.refl _ _, by simp [RepV, RepVs], ?_, by simp, by simp⟩
    simp only [RepVs, RepV, RepC]
    exact ⟨_, _, [], [], rfl, rfl, .inl ⟨rfl, by simp [srt], rfl⟩, rfl, rfl⟩
  · obtain ⟨rfl, rfl⟩ := int_cells hrows
    simp only [Nat.mul_one, List.length_map] at *
    have hH := holds_of hg hat
    have hgs : g < w.heap.size := (hfz g (by simp)).2
    refine (Go.Proofs.Any.slices_Sort_int Go.Proofs.Tryz.laysSort g h c l w hH hgs (by omega)).mono ?_
    rintro e' w' ⟨rfl, n, ob, hw⟩
    obtain ⟨hE, hg', hs', hat', hle⟩ := put_ext (n := n) (os := ob) (m := srt l) hg hat (srt_len l)
    rw [show grow (putRow (Value.int .i64) (Sort.ahead w n) g h (srt l).toArray) ob = w' from hw.symm] at hE hg' hat' hle
    refine ⟨_, [], [g], rfl, hE, by simp [RepV, RepVs], ?_, by simp, ?_⟩
    · simp only [RepVs, RepV, RepC]
      refine ⟨_, _, [g], [], rfl, rfl, .inr ⟨g, h, c, _, _, [], ?_, rfl, hg', ?_, ?_, cells_int _, ?_⟩, rfl, rfl⟩
      · simp [srt_len]
      · simpa [srt_len] using hc
      · simpa [hs'] using hsz
      · simpa using hat'
    · intro b hb
      simp only [List.nil_append, List.mem_singleton] at hb
      subst hb
      exact ⟨.inl (by simp), by omega⟩
def cmpct (l : List Int) : List Int := Lib.compact l
theorem cmpct_def (l : List Int) : Lib.compact l = cmpct l := rfl
theorem cmpct_le (l : List Int) : (cmpct l).length ≤ l.length := by
  unfold cmpct Lib.compact Lib.compactUpTo
  rw [List.length_map]
  refine Nat.le_trans (List.length_filter_le _ _) ?_
  simp
theorem d232 (l : List Int) (hl : (l.length : Int) ≤ 1152921504606846976) : Does Go.Proofs.Tryz.prog 232 [.usl 3 1 (l.map iv)] false (.usl 3 1 ((cmpct l).map iv)) [.dead] := by
  refine ⟨by decide +kernel, ?_⟩
  intro w Fz xs os hrep hos hfz hlt
  simp only [RepVs, RepV, RepC] at hrep
  obtain ⟨x, xs', o1, o2, rfl, rfl, hx, rfl, rfl⟩ := hrep
  simp only [List.append_nil] at *
  rcases hx with ⟨rfl, h0, rfl⟩ | ⟨g, h, c, cur, ys, o', rfl, rfl, hg, hc, hsz, hrows, hat⟩
  · have hl0 : l = [] := by simpa using h0
    subst hl0
    refine (Go.Proofs.Any.slices_Compact_int_empty Go.Proofs.Tryz.laysCompact none 0 w).mono ?_
    rintro e w' ⟨rfl, rfl⟩
    refine ⟨_, [], [], rfl, Ext.refl _ _, ?_, ?_, by simp, by simp⟩
    · simp [RepV, RepC, cmpct, Lib.compact, Lib.compactUpTo]
    · simp only [RepVs, RepV]
      exact ⟨_, _, [], [], rfl, rfl, rfl, rfl, rfl⟩
  · obtain ⟨rfl, rfl⟩ := int_cells hrows
    simp only [Nat.mul_one, List.length_map] at *
    have hH := holds_of hg hat
    have hcl := cmpct_le l
    have key := Go.Proofs.Any.slices_Compact_int Go.Proofs.Tryz.laysCompact g h c l w hH (by omega) hc
    simp only [cmpct_def] at key
    refine key.mono ?_
    rintro e' w' ⟨rfl, n, hw⟩
    have hmm : (cmpct l ++ List.replicate (l.length - (cmpct l).length) 0).length = l.length := by simp; omega
    obtain ⟨hE, hg', hs', hat', hle⟩ := put_ext (n := n) (os := #[]) (m := cmpct l ++ List.replicate (l.length - (cmpct l).length) 0) hg hat hmm
    rw [grow_empty, ← hw] at hE hg' hat' hle
    refine ⟨_, [g], [], rfl, hE, ?_, ?_, by simp, ?_⟩
    · simp only [RepV, RepC]
      refine .inr ⟨g, h, c, _, _, [], ?_, rfl, hg', ?_, ?_, cells_int _, ?_⟩
      · simp
      · simp; omega
      · simpa [hs'] using hsz
      · intro j u hj
        simp only [Nat.mul_one]
        refine hat' j u ?_
        rw [List.map_append, List.getElem?_append_left]
        · exact hj
        · rcases Nat.lt_or_ge j ((cmpct l).map (Value.int .i64)).length with h | h
          · exact h
          · rw [List.getElem?_eq_none h] at hj; cases hj
    · simp only [RepVs, RepV]
      exact ⟨_, _, [], [], rfl, rfl, rfl, rfl, rfl⟩
    · intro b hb
      simp only [List.append_nil, List.mem_singleton] at hb
      subst hb
      have := (hfz b (by simp)).2
      exact ⟨.inl (by simp), by omega⟩
end Go.AM
namespace Go.AM
set_option linter.unusedVariables false
set_option linter.unusedSimpArgs false
structure FromInv (l : List Ty) (ptr : Bool) (fr out q : List Int) : Prop where
  up : out.Pairwise (· < ·)
  frm : ∀ n ∈ fr, n ∈ out ∨ n ∈ q
  cl : ∀ n ∈ out, ∀ k ∈ kids l ptr n, k ∈ out ∨ k ∈ q
  ro : ∀ n ∈ out, Rch l ptr fr n
  rq : ∀ n ∈ q, Rch l ptr fr n
  len : q.length ≤ 1048576 + 8 * out.length
def addQ (ptr : Bool) (t : Ty) : List Int := if (ptr && (t.kind == 6)) = true then prt false t ++ [t.base] else prt false t
theorem addQ_mem {l : List Ty} (ht : tysOk l = true) (ptr : Bool) {n : Nat} (hn : n < l.length) (k : Int) : k ∈ addQ ptr l[n] ↔ k ∈ prt ptr l[n] := by
  have G := tysOk_good ht hn
  unfold addQ
  cases ptr with
  | false => simp
  | true =>
    by_cases h6 : l[n].kind = 6
    · have hb := (isNum_in.1 (G.ptr h6).1).1
      simp only [h6, beq_self_eq_true, Bool.and_self, if_true, prt, Bool.not_true, Bool.or_false, Bool.and_false, Bool.false_eq_true, if_false, List.nil_append, Bool.true_or, Bool.and_true, decide_eq_true_eq, hb]
      simp only [List.mem_append]
      exact Or.comm
    · have e6 : (l[n].kind == 6) = false := by simpa using h6
      simp only [e6, Bool.and_false, Bool.false_eq_true, if_false, prt, Bool.not_false, Bool.or_true, Bool.true_or]
theorem addQ_len {l : List Ty} (ht : tysOk l = true) (ptr : Bool) {n : Nat} (hn : n < l.length) : (addQ ptr l[n]).length ≤ 8 := by
  have := prt_len ht false hn
  unfold addQ
  split
  · rw [List.length_append]; simp only [List.length_singleton]; omega
  · omega
theorem FromInv.start {l : List Ty} {ptr : Bool} {fr : List Int} (h : (fr.length : Int) ≤ 1048576) : FromInv l ptr fr [] fr :=
  ⟨List.Pairwise.nil, fun n hn => .inr hn, by simp, by simp, fun n hn => .base hn, by simp; omega⟩
theorem FromInv.small {l : List Ty} {ptr : Bool} {fr out q : List Int} (I : FromInv l ptr fr out q) (ht : tysOk l = true) (hf : ∀ k ∈ fr, 0 ≤ k ∧ k < (l.length : Int)) : out.length ≤ l.length ∧ l.length ≤ 24 :=
  ⟨nodup_le (up_nodup I.up) fun k hk => (I.ro k hk).inr (tysOk_kids ht) hf, (tysOk_len ht).2⟩
theorem FromInv.skip {l : List Ty} {ptr : Bool} {fr out q : List Int} {n : Int} (I : FromInv l ptr fr out (n :: q)) (h : n ∈ out) : FromInv l ptr fr out q := by
  have w : ∀ k, k ∈ out ∨ k ∈ n :: q → k ∈ out ∨ k ∈ q := by
    rintro k (hk | hk)
    · exact .inl hk
    · rcases List.mem_cons.1 hk with rfl | hk
      · exact .inl h
      · exact .inr hk
  have hl := I.len
  simp only [List.length_cons] at hl
  exact ⟨I.up, fun k hk => w k (I.frm k hk), fun m hm k hk => w k (I.cl m hm k hk), I.ro, fun k hk => I.rq k (by simp [hk]), by omega⟩
theorem FromInv.put {l : List Ty} {ptr : Bool} {fr out q : List Int} {n : Int} (I : FromInv l ptr fr out (n :: q)) (ht : tysOk l = true) (h : n ∉ out) (hn : n.toNat < l.length) : FromInv l ptr fr (putUp out n) (q ++ addQ ptr l[n.toNat]) := by
  obtain ⟨p1, p2, p3⟩ := putUp_spec (n := n) I.up
  have hk : ∀ k, k ∈ addQ ptr l[n.toNat] ↔ k ∈ kids l ptr n := by
    intro k; rw [kids_at hn]; exact addQ_mem ht ptr hn k
  have w : ∀ k, k ∈ out ∨ k ∈ n :: q → k ∈ putUp out n ∨ k ∈ q ++ addQ ptr l[n.toNat] := by
    rintro k (hk | hk)
    · exact .inl ((p2 k).2 (.inr hk))
    · rcases List.mem_cons.1 hk with rfl | hk
      · exact .inl ((p2 _).2 (.inl rfl))
      · exact .inr (by simp [hk])
  have hl := I.len
  have ha := addQ_len ht ptr hn
  have h3 := p3 h
  simp only [List.length_cons] at hl
  refine ⟨p1, fun k hk => w k (I.frm k hk), ?_, ?_, ?_, ?_⟩
  · intro m hm k hkm
    rcases (p2 m).1 hm with rfl | hm
    · exact .inr (List.mem_append.2 (.inr ((hk k).2 hkm)))
    · exact w k (I.cl m hm k hkm)
  · intro m hm
    rcases (p2 m).1 hm with rfl | hm
    · exact I.rq _ (by simp)
    · exact I.ro m hm
  · intro m hm
    rcases List.mem_append.1 hm with hm | hm
    · exact I.rq m (by simp [hm])
    · exact .step (I.rq n (by simp)) ((hk m).1 hm)
  · rw [List.length_append, h3]; omega
theorem FromInv.fin {l : List Ty} {ptr : Bool} {fr out : List Int} (I : FromInv l ptr fr out []) (ht : tysOk l = true) (hf : ∀ k ∈ fr, 0 ≤ k ∧ k < (l.length : Int)) : out = reachL l ptr fr :=
  reachL_of (tysOk_kids ht) hf I.up (fun n hn => (I.frm n hn).elim id (by simp)) (fun n hn k hk => (I.cl n hn k hk).elim id (by simp)) I.ro
def m249 : MC :=
 (.seq (.reg [Xb 6 (.asg (.nils 3 1))]) (.seq (.reg [Xb 7 (.asg (.nils 3 1))]) (.seq (.reg [Xm 10 1, Xb 11 (.call (.fn 177) false [.lend (.t 10)]), Xa 8 11]) (.seq (.block 0 (.loop [0, 2, 7, 8, 11, 18, 19, 25, 32, 49] (.seq (.seq (.reg [Xm 12 8, Xn 13 12, Xq 14 (.bin false .gtr (.t 13) (.i 0))]) (.cond (.t 14) .skip (.exit 0))) (.block 1 (.seq (.reg [Xm 15 8, Xq 16 (.iad 1 (.t 15) (.i 0)), Xl 17 1
 16, Xa 9 17]) (.seq (.reg [Xm 18 8, Xq 19 (.slc false 1 (.t 18) (some (.i 1)) none), Xa 8 19]) (.seq (.seq (.reg [Xm 20 7, Xm 21 9, Xb 22 (.call (.fn 248) false [.lend (.t 20), .lend (.t 21)])]) (.cond (.t 22) (.exit 1) .skip)) (.seq (.reg [Xm 23 7, Xm 24 9, Xb 25 (.callm (.fn 288) (.t 23) [.lend (.t 24)]), Xa 7 25]) (.seq (.reg [Xm 26 8, Xm 27 0, Xm 28 9, Xi 29 6 27 28, XL 30 6 29, Xb 31 (.call
 (.fn 250) false [.lend (.t 30)]), Xb 32 (.app true 3 1 8 (.t 26) (.t 31)), Xa 8 32]) (.seq (.reg [Xm 33 2, Xm 34 33, Xt 35 34 (.mov (.t 0)), Xt 36 34 (.mov (.t 9)), Xt 37 34 (.iad 6 (.t 35) (.t 36)), Xt 38 34 (.fad 0 (.t 37)), Xt 39 34 (.load false 1 (.t 38)), Xt 40 34 (.bin false .eql (.t 39) (.i 6)), Xq 41 (.pick (.t 34) (.t 40) .fb)]) (.cond (.t 41) (.reg [Xm 42 8, Xm 43 0, Xm 44 9, Xi 45 6 43
 44, Xf 46 2 45, Xl 47 1 46, Xb 48 (.bsl 3 1 [.t 47]), Xb 49 (.app true 3 1 8 (.t 42) (.t 48)), Xa 8 49]) .skip))))))))))) (.seq (.reg [Xm 50 7, Xa 6 50]) .ret)))))
set_option maxRecDepth 100000 in
theorem d249 (l : List Ty) (fr : List Int) (ptr : Bool) (hl : (l.length : Int) ≤ 1048576) (hs : ∀ s ∈ l, s.sm) (ht : tysOk l = true) (hf : ∀ k ∈ fr, 0 ≤ k ∧ k < (l.length : Int)) (hfl : (fr.length : Int) ≤ 1048576) :
    Does Go.Proofs.Tryz.prog 249 [.fsl 6 (l.map Ty.z), .fsl 1 (fr.map iv), .v (.bool ptr)] false (.usl 3 1 ((reachL l ptr fr).map iv)) [.dead, .dead, .dead] := by
  refine does_intro (mc := m249) (N := 51) (rs := [6]) (fx := []) 3 rfl (by decide +kernel) ?_
  simp only [m249, EV, Nat.reduceEqDiff, Nat.reduceBEq, Nat.reduceLT, Nat.reduceLeDiff, Nat.reduceAdd, Nat.reduceSub, reduceIte]
  refine callK_i (d177 fr hfl) ?_
  simp only [EV, Nat.reduceEqDiff, Nat.reduceBEq, Nat.reduceLT, Nat.reduceLeDiff, Nat.reduceAdd, Nat.reduceSub, reduceIte]
  refine awp_loop (fun p : List Int × List Int => FromInv l ptr fr p.1 p.2) (fun p => stl [(0, .fsl 6 (l.map Ty.z)), (2, .v (.bool ptr)), (7, .usl 3 1 (p.1.map iv)), (8, .usl 3 1 (p.2.map iv)), (11, .dead), (18, .dead), (19, .dead), (25, .dead), (32, .dead), (49, .dead)]) (fun p => 9 * (24 - p.1.length) + p.2.length) ([], fr) (FromInv.start hfl) ?_ ?_
  · simp only [EV, Nat.reduceEqDiff, Nat.reduceBEq, Nat.reduceLT, Nat.reduceLeDiff, Nat.reduceAdd, Nat.reduceSub, reduceIte]
  · rintro ⟨out, q⟩ I
    obtain ⟨ho, h24⟩ := I.small ht hf
    have hql := I.len
    simp only at I ho h24 hql
    simp only [EV, Nat.reduceEqDiff, Nat.reduceBEq, Nat.reduceLT, Nat.reduceLeDiff, Nat.reduceAdd, Nat.reduceSub, reduceIte]
    refine cK_cut (fun h => ?_) (fun h => ?_)
    · have hq0 : 0 < q.length := by have : 0 < (q.length : Int) := by simpa using h
                                    omega
      obtain ⟨n, q', rfl⟩ := List.exists_cons_of_length_pos hq0
      have hni := (I.rq n (by simp)).inr (tysOk_kids ht) hf
      have hn : n.toNat < l.length := by omega
      have nth0 : ∀ (a : List AV) (r : List (List AV)), nth (a :: r) 0 = a := fun _ _ => rfl
      have z0 : (0 : Int) = ((0 : Nat) : Int) := rfl
      clear h
      simp only [List.length_cons] at hql
      have e1 : (1 : Int).toNat = 1 := rfl
      have dl : ∀ r : List Int, List.take (r.length + 1 - 1) (List.map iv r) = List.map iv r := fun r => by rw [Nat.add_sub_cancel]; exact List.take_of_length_le (by simp)
      have hcl : Ty.z l[n.toNat] = [.v (.int .i64 l[n.toNat].kind), .v (.int .i64 l[n.toNat].long), .v (.int .i64 l[n.toNat].base), .fsl 3 (l[n.toNat].fields.map Fd.z), .v (.string l[n.toNat].owner), .v (.string l[n.toNat].name)] := rfl
      have dp := d250 l[n.toNat] (hs _ (List.getElem_mem hn))
      rw [hcl] at dp
      simp only [nth0, iv, hq0, EV, Nat.reduceEqDiff, Nat.reduceBEq, Nat.reduceLT, Nat.reduceLeDiff, Nat.reduceAdd, Nat.reduceSub, reduceIte]
      refine ⟨by omega, by omega, by omega, by omega, by omega, ?_⟩
      rw [iv_frz]
      refine callK_i (d248 out n (by omega)) ?_
      simp only [e1, dl, EV, Nat.reduceEqDiff, Nat.reduceBEq, Nat.reduceLT, Nat.reduceLeDiff, Nat.reduceAdd, Nat.reduceSub, reduceIte]
      rcases hc : out.contains n with _ | _
      · have hno : n ∉ out := fun hm => by rw [← List.contains_iff_mem] at hm; rw [hm] at hc; cases hc
        simp only [e1, dl, EV, Nat.reduceEqDiff, Nat.reduceBEq, Nat.reduceLT, Nat.reduceLeDiff, Nat.reduceAdd, Nat.reduceSub, reduceIte]
        refine callK_i (d288 out n (by omega)) ?_
        simp only [e1, dl, hni.1, hni.2, nth_map hn, Ty.z, EV, Nat.reduceEqDiff, Nat.reduceBEq, Nat.reduceLT, Nat.reduceLeDiff, Nat.reduceAdd, Nat.reduceSub, reduceIte]
        refine callK_i dp ?_
        have hpl := prt_len ht false hn
        have hal := addQ_len ht ptr hn
        have I2 := I.put ht hno hn
        have hm2 : 9 * (24 - (putUp out n).length) + (q' ++ addQ ptr l[n.toNat]).length < 9 * (24 - out.length) + (n :: q').length := by
          have h3 := (putUp_spec (n := n) I.up).2.2 hno
          have h4 := (I2.small ht hf).1
          rw [h3, List.length_append, List.length_cons]
          omega
        rcases ptr with _ | _
        · have e : addQ false l[n.toNat] = prt false l[n.toNat] := rfl
          simp only [e1, dl, hni.1, hni.2, nth_map hn, Ty.z, EV, Nat.reduceEqDiff, Nat.reduceBEq, Nat.reduceLT, Nat.reduceLeDiff, Nat.reduceAdd, Nat.reduceSub, reduceIte]
          refine ⟨by omega, by omega, (putUp out n, q' ++ addQ false l[n.toNat]), I2, hm2, ?_⟩
          rw [e, List.map_append]
        · simp only [e1, dl, hni.1, hni.2, nth_map hn, Ty.z, EV, Nat.reduceEqDiff, Nat.reduceBEq, Nat.reduceLT, Nat.reduceLeDiff, Nat.reduceAdd, Nat.reduceSub, reduceIte]
          refine ⟨by omega, by omega, ?_⟩
          rcases e6 : (l[n.toNat].kind == 6) with _ | _
          · have e : addQ true l[n.toNat] = prt false l[n.toNat] := by unfold addQ; rw [e6]; rfl
            simp only [EV, Nat.reduceEqDiff, Nat.reduceBEq, Nat.reduceLT, Nat.reduceLeDiff, Nat.reduceAdd, Nat.reduceSub, reduceIte]
            refine ⟨(putUp out n, q' ++ addQ true l[n.toNat]), I2, hm2, ?_⟩
            rw [e, List.map_append]
          · have e : addQ true l[n.toNat] = prt false l[n.toNat] ++ [l[n.toNat].base] := by unfold addQ; rw [e6]; rfl
            simp only [e1, dl, hni.1, hni.2, nth_map hn, Ty.z, EV, Nat.reduceEqDiff, Nat.reduceBEq, Nat.reduceLT, Nat.reduceLeDiff, Nat.reduceAdd, Nat.reduceSub, reduceIte]
            refine ⟨by simp; omega, by simp; omega, (putUp out n, q' ++ addQ true l[n.toNat]), I2, hm2, ?_⟩
            have e' : List.map iv (q' ++ addQ true l[n.toNat]) = List.map iv q' ++ List.map iv (prt false l[n.toNat]) ++ [[AV.v (.int .i64 l[n.toNat].base)]] := by
              rw [e, ← List.append_assoc, List.map_append, List.map_append]; rfl
            simp only [e']
      · have hm : n ∈ out := List.contains_iff_mem.1 hc
        simp only [e1, dl, EV, Nat.reduceEqDiff, Nat.reduceBEq, Nat.reduceLT, Nat.reduceLeDiff, Nat.reduceAdd, Nat.reduceSub, reduceIte]
        refine ⟨(out, q'), I.skip hm, by simp only [List.length_cons]; omega, ?_⟩
        rfl
    · have hq : q = [] := by have : ¬ 0 < (q.length : Int) := by simpa using h
                             exact List.eq_nil_of_length_eq_zero (by omega)
      subst hq
      have e := I.fin ht hf
      subst e
      simp only [EV, Nat.reduceEqDiff, Nat.reduceBEq, Nat.reduceLT, Nat.reduceLeDiff, Nat.reduceAdd, Nat.reduceSub, reduceIte]
      simp only [iv_nfz, EV, Nat.reduceEqDiff, Nat.reduceBEq, Nat.reduceLT, Nat.reduceLeDiff, Nat.reduceAdd, Nat.reduceSub, reduceIte, evRE, retVC, cellV', evR, nfz, nfzs, nfzss, List.contains_nil, List.contains_cons, Bool.or_false, or_true]
end Go.AM
namespace Go.AM
set_option linter.unusedVariables false
set_option linter.unusedSimpArgs false
def addAll (out ks : List Int) : List Int := ks.foldl (fun o k => if o.contains k = true then o else o ++ [k]) out
theorem addAll_take {out ks : List Int} {j : Nat} (h : j < ks.length) : addAll out (ks.take (j + 1)) = if (addAll out (ks.take j)).contains ks[j] = true then addAll out (ks.take j) else addAll out (ks.take j) ++ [ks[j]] := by
  unfold addAll
  rw [List.take_succ_eq_append_getElem h, List.foldl_append]; rfl
theorem addAll_spec : ∀ (ks out : List Int), out.Nodup → (addAll out ks).Nodup ∧ (∀ x, x ∈ addAll out ks ↔ x ∈ out ∨ x ∈ ks) ∧ out <+: addAll out ks ∧ (addAll out ks).length ≤ out.length + ks.length
  | [], out, h => ⟨h, by simp [addAll], by simp [addAll], by simp [addAll]⟩
  | k :: ks, out, h => by
    have e : addAll out (k :: ks) = addAll (if out.contains k = true then out else out ++ [k]) ks := rfl
    rw [e]
    rcases hc : out.contains k with _ | _
    · have hno : k ∉ out := fun hm => by rw [← List.contains_iff_mem] at hm; rw [hm] at hc; cases hc
      simp only [Bool.false_eq_true, if_false]
      obtain ⟨a1, a2, a3, a4⟩ := addAll_spec ks (out ++ [k]) (List.nodup_append.2 ⟨h, by simp, fun a ha b hb e => hno (by rw [List.mem_singleton] at hb; rw [← hb, ← e]; exact ha)⟩)
      refine ⟨a1, fun x => ?_, (List.prefix_append _ _).trans a3, by simp at a4 ⊢; omega⟩
      rw [a2]
      simp only [List.mem_append, List.mem_singleton, List.mem_cons, List.not_mem_nil, or_false]
      exact or_assoc
    · have hm : k ∈ out := List.contains_iff_mem.1 hc
      simp only [if_true]
      obtain ⟨a1, a2, a3, a4⟩ := addAll_spec ks out h
      refine ⟨a1, fun x => ?_, a3, by simp; omega⟩
      rw [a2]
      simp only [List.mem_cons]
      constructor
      · rintro (h | h)
        · exact .inl h
        · exact .inr (.inr h)
      · rintro (h | h | h)
        · exact .inl h
        · exact .inl (h ▸ hm)
        · exact .inr h
structure GoInv (l : List Ty) (ptr : Bool) (fr out : List Int) (i : Nat) : Prop where
  nd : out.Nodup
  frm : ∀ n ∈ fr, n ∈ out
  le : i ≤ out.length
  cl : ∀ j (h : j < out.length), j < i → ∀ k ∈ kids l ptr out[j], k ∈ out
  ro : ∀ n ∈ out, Rch l ptr fr n
theorem GoInv.small {l : List Ty} {ptr : Bool} {fr out : List Int} {i : Nat} (I : GoInv l ptr fr out i) (ht : tysOk l = true) (hf : ∀ k ∈ fr, 0 ≤ k ∧ k < (l.length : Int)) : out.length ≤ l.length ∧ l.length ≤ 24 :=
  ⟨nodup_le I.nd fun k hk => (I.ro k hk).inr (tysOk_kids ht) hf, (tysOk_len ht).2⟩
theorem GoInv.step {l : List Ty} {ptr : Bool} {fr out : List Int} {i : Nat} (I : GoInv l ptr fr out i) (h : i < out.length) : GoInv l ptr fr (addAll out (kids l ptr out[i])) (i + 1) := by
  obtain ⟨a1, a2, a3, a4⟩ := addAll_spec (kids l ptr out[i]) out I.nd
  have hle := a3.length_le
  refine ⟨a1, fun n hn => (a2 n).2 (.inl (I.frm n hn)), by omega, ?_, ?_⟩
  · intro j hj hji k hk
    have hjo : j < out.length := by omega
    have e : (addAll out (kids l ptr out[i]))[j] = out[j] := (a3.getElem hjo).symm
    rw [e] at hk
    rw [a2]
    by_cases hjj : j = i
    · subst hjj; exact .inr hk
    · exact .inl (I.cl j hjo (by omega) k hk)
  · intro n hn
    rcases (a2 n).1 hn with h1 | h1
    · exact I.ro n h1
    · exact .step (I.ro _ (List.getElem_mem h)) h1
theorem GoInv.fin {l : List Ty} {ptr : Bool} {fr out : List Int} (I : GoInv l ptr fr out out.length) (ht : tysOk l = true) (hf : ∀ k ∈ fr, 0 ≤ k ∧ k < (l.length : Int)) : srt out = reachL l ptr fr := by
  refine reachL_of (tysOk_kids ht) hf ?_ (fun n hn => srt_mem.2 (I.frm n hn)) ?_ (fun n hn => I.ro n (srt_mem.1 hn))
  · have h1 := srt_le out
    have h2 : (srt out).Nodup := ((List.mergeSort_perm out _).nodup_iff).2 I.nd
    exact (h1.and h2).imp fun h => by omega
  · intro n hn k hk
    obtain ⟨j, hj, rfl⟩ := List.mem_iff_getElem.1 (srt_mem.1 hn)
    exact srt_mem.2 (I.cl j hj hj k hk)
def m231 : MC :=
 (.seq (.reg [Xb 6 (.asg (.nils 3 1))]) (.seq (.reg [Xm 11 1, Xb 12 (.call (.fn 277) false [.lend (.t 11)]), Xa 7 12]) (.seq (.seq (.reg [Xb 8 (.asg (.i 0))]) (.block 0 (.loop [0, 2, 7, 8, 12, 40] (.seq (.seq (.reg [Xm 13 8, Xm 14 7, Xn 15 14, Xq 16 (.bin false .lss (.t 13) (.t 15))]) (.cond (.t 16) .skip (.exit 0))) (.seq (.block 1 (.seq (.reg [Xm 19 0, Xm 20 7, Xm 21 8, Xi 22 1 20 21, Xl 23 1 22,
 Xi 24 6 19 23, XL 25 6 24, Xm 26 2, Xb 27 (.call (.fn 176) false [.lend (.t 25), .lend (.t 26)]), Xn 28 27, Xq 29 (.mov (.i 0))]) (.block 2 (.loop [0, 2, 7, 8, 12, 27, 28, 29, 40] (.seq (.reg [Xq 30 (.bin false .lss (.t 29) (.t 28))]) (.seq (.cond (.t 30) .skip (.exit 2)) (.join [0, 2, 7, 8, 12, 27, 28, 29, 40] (.block 3 (.seq (.reg [Xi 31 1 27 29, Xl 32 1 31, Xa 10 32]) (.seq (.reg [Xm 33 7, Xm
 34 10, Xb 35 (.call (.fn 230) false [.lend (.t 33), .lend (.t 34)]), Xq 36 (.un .not (.t 35))]) (.cond (.t 36) (.reg [Xm 37 7, Xm 38 10, Xb 39 (.bsl 3 1 [.t 38]), Xb 40 (.app true 3 1 8 (.t 37) (.t 39)), Xa 7 40]) .skip)))) (.reg [Xq 41 (.bin false .add (.t 29) (.i 1)), Xm 29 41])))))))) (.reg [Xm 17 8, Xq 18 (.bin false .add (.t 17) (.i 1)), Xa 8 18])))))) (.seq (.reg [Xm 42 7, Xb 43 (.call (.fn
 229) false [.io (.t 42)])]) (.seq (.reg [Xm 44 7, Xa 6 44]) .ret)))))
set_option maxRecDepth 100000 in
theorem d231 (l : List Ty) (fr : List Int) (ptr : Bool) (hl : (l.length : Int) ≤ 1048576) (hs : ∀ s ∈ l, s.sm) (ht : tysOk l = true) (hf : ∀ k ∈ fr, 0 ≤ k ∧ k < (l.length : Int)) (hfn : fr.Nodup) :
    Does Go.Proofs.Tryz.prog 231 [.fsl 6 (l.map Ty.z), .fsl 1 (fr.map iv), .v (.bool ptr)] false (.usl 3 1 ((reachL l ptr fr).map iv)) [.dead, .dead, .dead] := by
  have hfl : (fr.length : Int) ≤ 1048576 := by have := nodup_le hfn hf; omega
  refine does_intro (mc := m231) (N := 45) (rs := [6]) (fx := []) 3 rfl (by decide +kernel) ?_
  simp only [m231, EV, Nat.reduceEqDiff, Nat.reduceBEq, Nat.reduceLT, Nat.reduceLeDiff, Nat.reduceAdd, Nat.reduceSub, reduceIte]
  refine callK_i (d277 fr hfl) ?_
  simp only [EV, Nat.reduceEqDiff, Nat.reduceBEq, Nat.reduceLT, Nat.reduceLeDiff, Nat.reduceAdd, Nat.reduceSub, reduceIte]
  refine awp_loop (fun p : List Int × Nat => GoInv l ptr fr p.1 p.2) (fun p => stl [(0, .fsl 6 (l.map Ty.z)), (2, .v (.bool ptr)), (7, .usl 3 1 (p.1.map iv)), (8, .v (.int .i64 (p.2 : Int))), (12, .dead), (40, .dead)]) (fun p => 24 - p.2) (fr, 0) ⟨hfn, fun n hn => hn, Nat.zero_le _, fun j _ h => absurd h (by omega), fun n hn => .base hn⟩ ?_ ?_
  · simp only [EV, Nat.reduceEqDiff, Nat.reduceBEq, Nat.reduceLT, Nat.reduceLeDiff, Nat.reduceAdd, Nat.reduceSub, reduceIte]
    rfl
  · rintro ⟨out, i⟩ I
    obtain ⟨ho, h24⟩ := I.small ht hf
    have hi := I.le
    simp only at I ho h24 hi
    simp only [EV, Nat.reduceEqDiff, Nat.reduceBEq, Nat.reduceLT, Nat.reduceLeDiff, Nat.reduceAdd, Nat.reduceSub, reduceIte]
    refine cK_cut (fun h => ?_) (fun h => ?_)
    · have h1 : i < out.length := by simpa using h
      have h2 : (i : Int) < (out.length : Int) := by omega
      have hni := (I.ro _ (List.getElem_mem h1)).inr (tysOk_kids ht) hf
      have hn : out[i].toNat < l.length := by omega
      clear h
      have hcl : Ty.z l[out[i].toNat] = [.v (.int .i64 l[out[i].toNat].kind), .v (.int .i64 l[out[i].toNat].long), .v (.int .i64 l[out[i].toNat].base), .fsl 3 (l[out[i].toNat].fields.map Fd.z), .v (.string l[out[i].toNat].owner), .v (.string l[out[i].toNat].name)] := rfl
      have dp := d176 l[out[i].toNat] ptr (hs _ (List.getElem_mem hn))
      rw [hcl] at dp
      simp only [nth_map h1, h1, h2, iv, hni.1, hni.2, nth_map hn, Ty.z, EV, Nat.reduceEqDiff, Nat.reduceBEq, Nat.reduceLT, Nat.reduceLeDiff, Nat.reduceAdd, Nat.reduceSub, reduceIte]
      refine callK_i dp ?_
      have ek : prt ptr l[out[i].toNat] = kids l ptr out[i] := (kids_at hn).symm
      have hpl : (kids l ptr out[i]).length ≤ 7 := by rw [← ek]; exact prt_len ht ptr hn
      have hst := I.step h1
      have hst2 := (hst.small ht hf).1
      rw [ek]
      generalize kids l ptr out[i] = ks at hpl hst hst2 ⊢
      simp only [EV, Nat.reduceEqDiff, Nat.reduceBEq, Nat.reduceLT, Nat.reduceLeDiff, Nat.reduceAdd, Nat.reduceSub, reduceIte]
      refine awp_loop (fun j : Nat => j ≤ ks.length) (fun j => stl [(0, .fsl 6 (l.map Ty.z)), (2, .v (.bool ptr)), (7, .usl 3 1 ((addAll out (ks.take j)).map iv)), (8, .v (.int .i64 (i : Int))), (12, .dead), (27, .usl 3 1 (ks.map iv)), (28, .v (.int .i64 (ks.length : Int))), (29, .v (.int .i64 (j : Int))), (40, .dead)]) (fun j => ks.length - j) 0 (Nat.zero_le _) ?_ ?_
      · simp only [EV, Nat.reduceEqDiff, Nat.reduceBEq, Nat.reduceLT, Nat.reduceLeDiff, Nat.reduceAdd, Nat.reduceSub, reduceIte]
        rfl
      · intro j hj
        simp only [EV, Nat.reduceEqDiff, Nat.reduceBEq, Nat.reduceLT, Nat.reduceLeDiff, Nat.reduceAdd, Nat.reduceSub, reduceIte]
        refine cK_cut (fun h => ?_) (fun h => ?_)
        · have j1 : j < ks.length := by simpa using h
          have j2 : (j : Int) < (ks.length : Int) := by omega
          clear h
          have ha := (addAll_spec (ks.take j) out I.nd).2.2.2
          have hat := addAll_take (out := out) j1
          simp only [List.length_take] at ha
          generalize addAll out (ks.take j) = o1 at ha hat ⊢
          refine awp_join (fun _ : Unit => True) (fun _ => stl [(0, .fsl 6 (l.map Ty.z)), (2, .v (.bool ptr)), (7, .usl 3 1 ((addAll out (ks.take (j + 1))).map iv)), (8, .v (.int .i64 (i : Int))), (12, .dead), (27, .usl 3 1 (ks.map iv)), (28, .v (.int .i64 (ks.length : Int))), (29, .v (.int .i64 (j : Int))), (40, .dead)]) ?_ ?_
          · simp only [nth_map j1, j1, j2, iv, EV, Nat.reduceEqDiff, Nat.reduceBEq, Nat.reduceLT, Nat.reduceLeDiff, Nat.reduceAdd, Nat.reduceSub, reduceIte]
            rw [iv_frz]
            refine callK_i (d230 o1 ks[j] (by omega)) ?_
            simp only [EV, Nat.reduceEqDiff, Nat.reduceBEq, Nat.reduceLT, Nat.reduceLeDiff, Nat.reduceAdd, Nat.reduceSub, reduceIte]
            rcases hc : o1.contains ks[j] with _ | _
            · have e : addAll out (ks.take (j + 1)) = o1 ++ [ks[j]] := by rw [hat, hc]; rfl
              simp only [Bool.not_false, EV, Nat.reduceEqDiff, Nat.reduceBEq, Nat.reduceLT, Nat.reduceLeDiff, Nat.reduceAdd, Nat.reduceSub, reduceIte]
              refine ⟨by omega, by omega, (), ?_⟩
              rw [e, List.map_append]
              rfl
            · have e : addAll out (ks.take (j + 1)) = o1 := by rw [hat, hc]; rfl
              simp only [Bool.not_true, EV, Nat.reduceEqDiff, Nat.reduceBEq, Nat.reduceLT, Nat.reduceLeDiff, Nat.reduceAdd, Nat.reduceSub, reduceIte]
              rw [e]
              exact ⟨(), rfl⟩
          · rintro _ _
            simp only [EV, Nat.reduceEqDiff, Nat.reduceBEq, Nat.reduceLT, Nat.reduceLeDiff, Nat.reduceAdd, Nat.reduceSub, reduceIte]
            rw [w64 _ (by omega)]
            exact ⟨j + 1, j1, by omega, rfl⟩
        · have j1 : j = ks.length := by have : ¬ (j : Int) < ks.length := by simpa using h
                                        omega
          subst j1
          rw [List.take_length]
          simp only [EV, Nat.reduceEqDiff, Nat.reduceBEq, Nat.reduceLT, Nat.reduceLeDiff, Nat.reduceAdd, Nat.reduceSub, reduceIte]
          rw [w64 _ (by omega)]
          exact ⟨(addAll out ks, i + 1), hst, by simp only; omega, rfl⟩
    · have h1 : i = out.length := by have : ¬ (i : Int) < out.length := by simpa using h
                                     omega
      subst h1
      have e := I.fin ht hf
      simp only [EV, Nat.reduceEqDiff, Nat.reduceBEq, Nat.reduceLT, Nat.reduceLeDiff, Nat.reduceAdd, Nat.reduceSub, reduceIte]
      refine callK2_i (d229 out (by omega)) rfl ?_ ?_
      · simp only [srt_len, EV, Nat.reduceEqDiff, Nat.reduceBEq, Nat.reduceLT, Nat.reduceLeDiff, Nat.reduceAdd, Nat.reduceSub, reduceIte]
      · rw [e]
        simp only [EV, Nat.reduceEqDiff, Nat.reduceBEq, Nat.reduceLT, Nat.reduceLeDiff, Nat.reduceAdd, Nat.reduceSub, reduceIte]
        simp only [iv_nfz, EV, Nat.reduceEqDiff, Nat.reduceBEq, Nat.reduceLT, Nat.reduceLeDiff, Nat.reduceAdd, Nat.reduceSub, reduceIte, evRE, retVC, cellV', evR, nfz, nfzs, nfzss, List.contains_nil, List.contains_cons, Bool.or_false, or_true]
theorem cmpct_up {l : List Int} (h : l.Pairwise (· ≤ ·)) : (cmpct l).Pairwise (· < ·) ∧ ∀ n, n ∈ cmpct l ↔ n ∈ l := by
  have hget : ∀ j (hj : j < l.length), l.toArray[j]! = l[j] := fun j hj => by simp [hj]
  have hle : ∀ i j (hi : i < l.length) (hj : j < l.length), i ≤ j → l[i] ≤ l[j] := by
    intro i j hi hj hij
    rcases Nat.lt_or_ge i j with hlt | hge
    · exact List.pairwise_iff_getElem.1 h i j hi hj hlt
    · have : i = j := by omega
      subst this; exact Int.le_refl _
  have key : ∀ m, m ≤ l.length → (Lib.compactUpTo l.toArray m).Pairwise (· < ·) ∧ ∀ n, n ∈ Lib.compactUpTo l.toArray m ↔ ∃ j, ∃ hj : j < l.length, j < m ∧ l[j] = n := by
    intro m
    induction m with
    | zero => intro _; simp [Lib.compactUpTo]
    | succ m ih =>
      intro hm
      obtain ⟨i1, i2⟩ := ih (by omega)
      rw [Lib.compactUpTo_succ]
      by_cases hk : Lib.keeps l.toArray m = true
      · rw [if_pos hk]
        have hkk : m = 0 ∨ l[m] ≠ l[m - 1] := by
          simp only [Lib.keeps, decide_eq_true_eq] at hk
          rcases hk with hk | hk
          · exact .inl hk
          · rw [hget m (by omega), hget (m - 1) (by omega)] at hk; exact .inr hk
        refine ⟨?_, fun n => ?_⟩
        · rw [List.pairwise_append]
          refine ⟨i1, by simp, ?_⟩
          intro a ha b hb
          simp only [List.mem_singleton] at hb
          subst hb
          rw [hget m (by omega)]
          obtain ⟨j, hj, hjm, rfl⟩ := (i2 a).1 ha
          have h1 := hle j (m - 1) hj (by omega) (by omega)
          have h2 := hle (m - 1) m (by omega) (by omega) (by omega)
          rcases hkk with h0 | h0
          · omega
          · omega
        · rw [List.mem_append, i2, List.mem_singleton, hget m (by omega)]
          constructor
          · rintro (⟨j, hj, hjm, e⟩ | e)
            · exact ⟨j, hj, by omega, e⟩
            · exact ⟨m, by omega, by omega, e.symm⟩
          · rintro ⟨j, hj, hjm, e⟩
            by_cases hjj : j = m
            · subst hjj; exact .inr e.symm
            · exact .inl ⟨j, hj, by omega, e⟩
      · rw [if_neg hk, List.append_nil]
        have hkk : 0 < m ∧ l[m] = l[m - 1] := by
          simp only [Lib.keeps, decide_eq_true_eq, not_or, ne_eq, Decidable.not_not] at hk
          rw [hget m (by omega), hget (m - 1) (by omega)] at hk
          exact ⟨by omega, hk.2⟩
        refine ⟨i1, fun n => ?_⟩
        rw [i2]
        constructor
        · rintro ⟨j, hj, hjm, e⟩
          exact ⟨j, hj, by omega, e⟩
        · rintro ⟨j, hj, hjm, e⟩
          by_cases hjj : j = m
          · subst hjj; exact ⟨j - 1, by omega, by omega, by rw [← hkk.2]; exact e⟩
          · exact ⟨j, hj, by omega, e⟩
  have := key l.length (Nat.le_refl _)
  have e : cmpct l = Lib.compactUpTo l.toArray l.length := by unfold cmpct Lib.compact; rfl
  rw [e]
  refine ⟨this.1, fun n => ?_⟩
  rw [this.2]
  constructor
  · rintro ⟨j, hj, _, rfl⟩; exact List.getElem_mem hj
  · intro hn
    obtain ⟨j, hj, rfl⟩ := List.mem_iff_getElem.1 hn
    exact ⟨j, hj, hj, rfl⟩
def m170 : MC :=
 (.seq (.reg [Xb 4 (.asg .fb)]) (.seq (.reg [Xm 6 0, Xm 7 1, Xi 8 6 6 7, XL 9 6 8, Xb 10 (.call (.fn 176) false [.lend (.t 9), .lend .fb]), Xa 5 10]) (.seq (.reg [Xm 11 5, Xb 12 (.call (.fn 229) false [.io (.t 11)])]) (.seq (.reg [Xm 13 0, Xm 14 5, Xb 15 (.callm (.fn 232) (.t 14) []), Xb 16 (.call (.fn 231) false [.lend (.t 13), .lend (.t 15), .lend .fb]), Xm 17 1, Xb 18 (.call (.fn 230) false
 [.lend (.t 16), .lend (.t 17)]), Xa 4 18]) .ret))))
set_option maxRecDepth 100000 in
theorem d170 (l : List Ty) (n : Int) (hl : (l.length : Int) ≤ 1048576) (hs : ∀ s ∈ l, s.sm) (ht : tysOk l = true) (h0 : 0 ≤ n) (h1 : n < l.length) :
    Does Go.Proofs.Tryz.prog 170 [.fsl 6 (l.map Ty.z), .v (.int .i64 n)] false (.v (.bool (roundAt l n))) [.dead, .dead] := by
  have hn : n.toNat < l.length := by omega
  have hcl : Ty.z l[n.toNat] = [.v (.int .i64 l[n.toNat].kind), .v (.int .i64 l[n.toNat].long), .v (.int .i64 l[n.toNat].base), .fsl 3 (l[n.toNat].fields.map Fd.z), .v (.string l[n.toNat].owner), .v (.string l[n.toNat].name)] := rfl
  have dp := d176 l[n.toNat] false (hs _ (List.getElem_mem hn))
  rw [hcl] at dp
  have ek : prt false l[n.toNat] = kids l false n := (kids_at hn).symm
  have hpl : (kids l false n).length ≤ 7 := by rw [← ek]; exact prt_len ht false hn
  have hki : ∀ k ∈ kids l false n, 0 ≤ k ∧ k < (l.length : Int) := fun k hk => kids_ok ht h0 h1 hk
  have hsl := srt_len (kids l false n)
  obtain ⟨c1, c2⟩ := cmpct_up (srt_le (kids l false n))
  have hcm : ∀ k, k ∈ cmpct (srt (kids l false n)) ↔ k ∈ kids l false n := fun k => (c2 k).trans srt_mem
  have hrl := reachL_congr (l := l) (ptr := false) hcm
  refine does_intro (mc := m170) (N := 19) (rs := [4]) (fx := []) 2 rfl (by decide +kernel) ?_
  simp only [m170, h0, h1, nth_map hn, Ty.z, EV, Nat.reduceEqDiff, Nat.reduceBEq, Nat.reduceLT, Nat.reduceLeDiff, Nat.reduceAdd, Nat.reduceSub, reduceIte]
  refine callK_i dp ?_
  rw [ek]
  simp only [EV, Nat.reduceEqDiff, Nat.reduceBEq, Nat.reduceLT, Nat.reduceLeDiff, Nat.reduceAdd, Nat.reduceSub, reduceIte]
  refine callK2_i (d229 (kids l false n) (by omega)) rfl ?_ ?_
  · simp only [srt_len, EV, Nat.reduceEqDiff, Nat.reduceBEq, Nat.reduceLT, Nat.reduceLeDiff, Nat.reduceAdd, Nat.reduceSub, reduceIte]
  simp only [EV, Nat.reduceEqDiff, Nat.reduceBEq, Nat.reduceLT, Nat.reduceLeDiff, Nat.reduceAdd, Nat.reduceSub, reduceIte]
  refine callK_i (d232 (srt (kids l false n)) (by omega)) ?_
  simp only [EV, Nat.reduceEqDiff, Nat.reduceBEq, Nat.reduceLT, Nat.reduceLeDiff, Nat.reduceAdd, Nat.reduceSub, reduceIte]
  rw [iv_frz]
  refine callK_i (d231 l (cmpct (srt (kids l false n))) false hl hs ht (fun k hk => hki k ((hcm k).1 hk)) (up_nodup c1)) ?_
  rw [hrl]
  have hrn := nodup_le (up_nodup (reachL_up l false (kids l false n))) (fun k hk => (mem_reachL.1 hk).1)
  simp only [EV, Nat.reduceEqDiff, Nat.reduceBEq, Nat.reduceLT, Nat.reduceLeDiff, Nat.reduceAdd, Nat.reduceSub, reduceIte]
  rw [iv_frz]
  refine callK_i (d230 (reachL l false (kids l false n)) n (by omega)) ?_
  simp only [EV, Nat.reduceEqDiff, Nat.reduceBEq, Nat.reduceLT, Nat.reduceLeDiff, Nat.reduceAdd, Nat.reduceSub, reduceIte]
  simp only [roundAt, EV, Nat.reduceEqDiff, Nat.reduceBEq, Nat.reduceLT, Nat.reduceLeDiff, Nat.reduceAdd, Nat.reduceSub, reduceIte, evRE, retVC, cellV', evR, nfz, nfzs, nfzss, List.contains_nil, List.contains_cons, Bool.or_false, or_true]
def m207 : MC :=
 (.seq (.reg [Xb 4 (.asg .fb)]) (.seq (.reg [Xm 5 0, Xm 6 0, Xm 7 1, Xi 8 6 6 7, XL 9 6 8, Xb 10 (.call (.fn 250) false [.lend (.t 9)]), Xb 11 (.call (.fn 249) false [.lend (.t 5), .lend (.t 10), .lend .fb]), Xm 12 1, Xb 13 (.call (.fn 248) false [.lend (.t 11), .lend (.t 12)]), Xa 4 13]) .ret))
set_option maxRecDepth 100000 in
theorem d207 (l : List Ty) (n : Int) (hl : (l.length : Int) ≤ 1048576) (hs : ∀ s ∈ l, s.sm) (ht : tysOk l = true) (h0 : 0 ≤ n) (h1 : n < l.length) :
    Does Go.Proofs.Tryz.prog 207 [.fsl 6 (l.map Ty.z), .v (.int .i64 n)] false (.v (.bool (roundAt l n))) [.dead, .dead] := by
  have hn : n.toNat < l.length := by omega
  have hcl : Ty.z l[n.toNat] = [.v (.int .i64 l[n.toNat].kind), .v (.int .i64 l[n.toNat].long), .v (.int .i64 l[n.toNat].base), .fsl 3 (l[n.toNat].fields.map Fd.z), .v (.string l[n.toNat].owner), .v (.string l[n.toNat].name)] := rfl
  have dp := d250 l[n.toNat] (hs _ (List.getElem_mem hn))
  rw [hcl] at dp
  have ek : prt false l[n.toNat] = kids l false n := (kids_at hn).symm
  have hpl : (kids l false n).length ≤ 7 := by rw [← ek]; exact prt_len ht false hn
  have hki : ∀ k ∈ kids l false n, 0 ≤ k ∧ k < (l.length : Int) := fun k hk => kids_ok ht h0 h1 hk
  refine does_intro (mc := m207) (N := 14) (rs := [4]) (fx := []) 2 rfl (by decide +kernel) ?_
  simp only [m207, h0, h1, nth_map hn, Ty.z, EV, Nat.reduceEqDiff, Nat.reduceBEq, Nat.reduceLT, Nat.reduceLeDiff, Nat.reduceAdd, Nat.reduceSub, reduceIte]
  refine callK_i dp ?_
  rw [ek]
  simp only [EV, Nat.reduceEqDiff, Nat.reduceBEq, Nat.reduceLT, Nat.reduceLeDiff, Nat.reduceAdd, Nat.reduceSub, reduceIte]
  rw [iv_frz]
  refine callK_i (d249 l (kids l false n) false hl hs ht hki (by omega)) ?_
  have hrn := nodup_le (up_nodup (reachL_up l false (kids l false n))) (fun k hk => (mem_reachL.1 hk).1)
  simp only [EV, Nat.reduceEqDiff, Nat.reduceBEq, Nat.reduceLT, Nat.reduceLeDiff, Nat.reduceAdd, Nat.reduceSub, reduceIte]
  rw [iv_frz]
  refine callK_i (d248 (reachL l false (kids l false n)) n (by omega)) ?_
  simp only [EV, Nat.reduceEqDiff, Nat.reduceBEq, Nat.reduceLT, Nat.reduceLeDiff, Nat.reduceAdd, Nat.reduceSub, reduceIte]
  simp only [roundAt, EV, Nat.reduceEqDiff, Nat.reduceBEq, Nat.reduceLT, Nat.reduceLeDiff, Nat.reduceAdd, Nat.reduceSub, reduceIte, evRE, retVC, cellV', evR, nfz, nfzs, nfzss, List.contains_nil, List.contains_cons, Bool.or_false, or_true]
end Go.AM
