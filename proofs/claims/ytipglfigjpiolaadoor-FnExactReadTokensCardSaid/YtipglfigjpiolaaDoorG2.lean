/- Contracts of functions of the given program, for the law FnExactReadTokens: what they return and what they write, under the bounds that each theorem states. -/
import Derived.Test.YtipglfigjpiolaaDoorG1
namespace Go.AM
set_option linter.unusedVariables false
set_option linter.unusedSimpArgs false
def eqSv (v x : ByteArray) : Bool := v.toList == x.toList
def m41 : MC :=
 (.seq (.reg [Xb 4 (.asg (.i 0))]) (.seq (.seq (.reg [Xm 6 0, Xn 7 6, Xq 8 (.mov (.i 0))]) (.block 0 (.loop [0, 1, 7, 8] (.seq (.reg [Xq 9 (.bin false .lss (.t 8) (.t 7))]) (.seq (.cond (.t 9) .skip (.exit 0)) (.seq (.block 1 (.seq (.reg [Xm 10 8, Xa 5 10]) (.seq (.reg [Xm 11 1, Xm 12 0, Xm 13 5, Xi 14 1 12 13, Xl 15 1 14, Xq 16 (.bin false .eql (.t 11) (.t 15))]) (.cond (.t 16) (.seq (.reg [Xm 17
 5, Xa 4 17]) .ret) .skip)))) (.reg [Xq 18 (.bin false .add (.t 8) (.i 1)), Xm 8 18]))))))) (.seq (.reg [Xb 4 (.asg (.i (-1)))]) .ret)))
theorem d41 (l : List ByteArray) (v : ByteArray) (hl : l.length < 9223372036854775807) : Does Go.Proofs.Tryd.prog 41 [.fsl 1 (l.map sv), .v (.string v)] false (.v (.int .i64 (findI (eqSv v) l))) [.dead, .dead] := by
  refine does_intro (mc := m41) (N := 19) (rs := [4]) (fx := []) 2 rfl (by decide +kernel) ?_
  simp only [m41, EV, Nat.reduceEqDiff, Nat.reduceBEq, Nat.reduceLT, Nat.reduceLeDiff, Nat.reduceAdd, Nat.reduceSub, reduceIte]
  refine awp_loop (fun i : Nat => i ≤ l.length ∧ ∀ j (hj : j < l.length), j < i → eqSv v l[j] = false) (fun i => stl [(0, .fsl 1 (l.map sv)), (1, .v (.string v)), (7, .v (.int .i64 (l.length : Int))), (8, .v (.int .i64 (i : Int)))]) (fun i => l.length - i) 0 ⟨Nat.zero_le _, fun j hj hji => absurd hji (by omega)⟩ ?_ ?_
  · simp only [EV, Nat.reduceEqDiff, Nat.reduceBEq, Nat.reduceLT, Nat.reduceLeDiff, Nat.reduceAdd, Nat.reduceSub, reduceIte]
    rfl
  · rintro i ⟨hi, hno⟩
    simp only [EV, Nat.reduceEqDiff, Nat.reduceBEq, Nat.reduceLT, Nat.reduceLeDiff, Nat.reduceAdd, Nat.reduceSub, reduceIte]
    refine cK_cut (fun h => ?_) (fun h => ?_)
    · have h1 : i < l.length := by simpa using h
      have h2 : (i : Int) < (l.length : Int) := by omega
      simp only [nth_map h1, h2, sv, Bool.true_xor, Bool.false_xor, EV, Nat.reduceEqDiff, Nat.reduceBEq, Nat.reduceLT, Nat.reduceLeDiff, Nat.reduceAdd, Nat.reduceSub, reduceIte]
      refine cK_cut (fun h => ?_) (fun h => ?_)
      · have hq : eqSv v l[i] = true := h
        simp only [EV, Nat.reduceEqDiff, Nat.reduceBEq, Nat.reduceLT, Nat.reduceLeDiff, Nat.reduceAdd, Nat.reduceSub, reduceIte]
        simp only [findI_at h1 hq hno, EV, Nat.reduceEqDiff, Nat.reduceBEq, Nat.reduceLT, Nat.reduceLeDiff, Nat.reduceAdd, Nat.reduceSub, reduceIte, evRE, retVC, cellV', evR, nfz, nfzs, nfzss, List.contains_nil, List.contains_cons, Bool.or_false, or_true]
      · have hq : eqSv v l[i] = false := h
        simp only [EV, Nat.reduceEqDiff, Nat.reduceBEq, Nat.reduceLT, Nat.reduceLeDiff, Nat.reduceAdd, Nat.reduceSub, reduceIte]
        rw [w64 _ (by omega)]
        refine ⟨i + 1, ⟨by omega, ?_⟩, by omega, rfl⟩
        intro j hj hji
        by_cases e : j = i
        · subst e; exact hq
        · exact hno j hj (by omega)
    · have h1 : i = l.length := by have : ¬ (i : Int) < l.length := by simpa using h
                                   omega
      subst h1
      simp only [EV, Nat.reduceEqDiff, Nat.reduceBEq, Nat.reduceLT, Nat.reduceLeDiff, Nat.reduceAdd, Nat.reduceSub, reduceIte]
      simp only [findI_no (fun j hj => hno j hj hj), EV, Nat.reduceEqDiff, Nat.reduceBEq, Nat.reduceLT, Nat.reduceLeDiff, Nat.reduceAdd, Nat.reduceSub, reduceIte, evRE, retVC, cellV', evR, nfz, nfzs, nfzss, List.contains_nil, List.contains_cons, Bool.or_false, or_true]
def m34 : MC :=
 (.seq (.reg [Xb 4 (.asg .fb)]) (.seq (.reg [Xm 5 0, Xm 6 1, Xb 7 (.call (.fn 41) false [.lend (.t 5), .lend (.t 6)]), Xq 8 (.bin false .geq (.t 7) (.i 0)), Xa 4 8]) .ret))
theorem d34 (l : List ByteArray) (v : ByteArray) (hl : l.length < 9223372036854775807) : Does Go.Proofs.Tryd.prog 34 [.fsl 1 (l.map sv), .v (.string v)] false (.v (.bool (l.any (eqSv v)))) [.dead, .dead] := by
  refine does_intro (mc := m34) (N := 9) (rs := [4]) (fx := []) 2 rfl (by decide +kernel) ?_
  simp only [m34, EV, Nat.reduceEqDiff, Nat.reduceBEq, Nat.reduceLT, Nat.reduceLeDiff, Nat.reduceAdd, Nat.reduceSub, reduceIte]
  refine callK_i (d41 l v hl) ?_
  simp only [EV, Nat.reduceEqDiff, Nat.reduceBEq, Nat.reduceLT, Nat.reduceLeDiff, Nat.reduceAdd, Nat.reduceSub, reduceIte]
  simp only [findI_any, EV, Nat.reduceEqDiff, Nat.reduceBEq, Nat.reduceLT, Nat.reduceLeDiff, Nat.reduceAdd, Nat.reduceSub, reduceIte, evRE, retVC, cellV', evR, nfz, nfzs, nfzss, List.contains_nil, List.contains_cons, Bool.or_false, or_true]
theorem any_eqSv (v : ByteArray) : wordsL.any (eqSv v) = isWordB v := by
  unfold isWordB
  congr 1
  funext x
  unfold eqSv
  rw [Bool.eq_iff_iff, bq_eq, bq_eq]
  exact ⟨fun h => h.symm, fun h => h.symm⟩
theorem word_lett {w : ByteArray} (h : isWordB w = true) : lett (sAt w 0) = true := by
  have : ∀ x ∈ wordsL, lett (sAt x 0) = true := by decide
  unfold isWordB at h
  rw [List.any_eq_true] at h
  obtain ⟨x, hx, e⟩ := h
  rw [← bq_eq.1 e]; exact this x hx
def m29 : MC :=
 (.seq (.reg [Xb 2 (.asg .fb)]) (.seq (.reg [Xb 3 (.bsl 9 1 [.z #[77, 79, 68, 85, 76, 69], .z #[73, 77, 80, 79, 82, 84], .z #[67, 79, 78, 83, 84], .z #[84, 89, 80, 69], .z #[86, 65, 82], .z #[80, 82, 79, 67], .z #[85, 83, 69], .z #[69, 78, 68], .z #[65, 82, 82, 65, 89], .z #[79, 70], .z #[82, 69, 67, 79, 82, 68], .z #[80, 79, 73, 78, 84, 69, 82], .z #[84, 79], .z #[68, 73, 86], .z #[77, 79, 68]]),
 Xm 4 0, Xb 5 (.call (.fn 34) false [.lend (.t 3), .lend (.t 4)]), Xa 2 5]) .ret))
theorem d29 (s : ByteArray) : Does Go.Proofs.Tryd.prog 29 [.v (.string s)] false (.v (.bool (isWordB s))) [.dead] := by
  have dc := d34 wordsL s (by decide)
  rw [any_eqSv] at dc
  refine does_intro (mc := m29) (N := 6) (rs := [2]) (fx := []) 1 rfl (by decide +kernel) ?_
  simp only [m29, EV, Nat.reduceEqDiff, Nat.reduceBEq, Nat.reduceLT, Nat.reduceLeDiff, Nat.reduceAdd, Nat.reduceSub, reduceIte]
  simp only [wordsL, List.map_cons, List.map_nil, sv] at dc
  refine callK_i dc ?_
  simp only [EV, Nat.reduceEqDiff, Nat.reduceBEq, Nat.reduceLT, Nat.reduceLeDiff, Nat.reduceAdd, Nat.reduceSub, reduceIte]
  simp only [EV, Nat.reduceEqDiff, Nat.reduceBEq, Nat.reduceLT, Nat.reduceLeDiff, Nat.reduceAdd, Nat.reduceSub, reduceIte, evRE, retVC, cellV', evR, nfz, nfzs, nfzss, List.contains_nil, List.contains_cons, Bool.or_false, or_true]
def m28 : MC :=
 (.seq (.reg [Xb 2 (.asg (.i 0))]) (.seq (.reg [Xb 3 (.asg (.i 0))]) (.seq (.block 0 (.loop [0, 3] (.seq (.seq (.reg [Xm 4 3, Xm 5 0, Xq 6 (.len true (.t 5)), Xq 7 (.bin false .lss (.t 4) (.t 6)), Xm 8 7, Xt 9 8 (.mov (.t 0)), Xt 10 8 (.mov (.t 3)), Xt 11 8 (.idx (.t 9) (.t 10)), XT 12 8 (.call (.fn 33) false [.lend (.t 11)]), Xt 13 8 (.mov (.t 12)), Xu 14 13 (.mov (.t 0)), Xu 15 13 (.mov (.t 3)),
 Xu 16 13 (.idx (.t 14) (.t 15)), XU 17 13 (.call (.fn 30) false [.lend (.t 16)]), Xt 18 8 (.pick (.t 13) .tb (.t 17)), Xq 19 (.pick (.t 8) (.t 18) .fb)]) (.cond (.t 19) .skip (.exit 0))) (.block 1 (.reg [Xm 20 3, Xq 21 (.bin false .add (.t 20) (.i 1)), Xa 3 21]))))) (.seq (.reg [Xm 22 3, Xa 2 22]) .ret))))
theorem d28 (s : ByteArray) (hs : (s.size : Int) ≤ 1200) : Does Go.Proofs.Tryd.prog 28 [.v (.string s)] false (.v (.int .i64 (wl s 0 : Nat))) [.dead] := by
  generalize hR : wl s 0 = R
  refine does_intro (mc := m28) (N := 23) (rs := [2]) (fx := []) 1 rfl (by decide +kernel) ?_
  simp only [m28, EV, Nat.reduceEqDiff, Nat.reduceBEq, Nat.reduceLT, Nat.reduceLeDiff, Nat.reduceAdd, Nat.reduceSub, reduceIte]
  refine awp_loop (fun i : Nat => i ≤ s.size ∧ R = wl s i) (fun i => stl [(0, .v (.string s)), (3, .v (.int .i64 (i : Int)))]) (fun i => s.size - i) 0 ⟨Nat.zero_le _, hR.symm⟩ ?_ ?_
  · simp only [EV, Nat.reduceEqDiff, Nat.reduceBEq, Nat.reduceLT, Nat.reduceLeDiff, Nat.reduceAdd, Nat.reduceSub, reduceIte]
    rfl
  rintro i ⟨g1, g2⟩
  have wi := w64 ((i : Int) + 1) (by omega)
  have i0 : (0 : Int) ≤ (i : Int) := by omega
  simp only [EV, Nat.reduceEqDiff, Nat.reduceBEq, Nat.reduceLT, Nat.reduceLeDiff, Nat.reduceAdd, Nat.reduceSub, reduceIte]
  rcases e1 : decide ((i : Int) < (s.size : Int)) with _ | _
  · rw [wl_stop (by have : ¬ (i : Int) < s.size := by simpa using e1
                    omega)] at g2
    simp only [e1, EV, Nat.reduceEqDiff, Nat.reduceBEq, Nat.reduceLT, Nat.reduceLeDiff, Nat.reduceAdd, Nat.reduceSub, reduceIte]
    simp only [g2, EV, Nat.reduceEqDiff, Nat.reduceBEq, Nat.reduceLT, Nat.reduceLeDiff, Nat.reduceAdd, Nat.reduceSub, reduceIte, evRE, retVC, cellV', evR, nfz, nfzs, nfzss, List.contains_nil, List.contains_cons, Bool.or_false, or_true]
  have i1 : (i : Int) < s.size := by simpa using e1
  simp only [e1, i0, i1, EV, Nat.reduceEqDiff, Nat.reduceBEq, Nat.reduceLT, Nat.reduceLeDiff, Nat.reduceAdd, Nat.reduceSub, reduceIte]
  refine callK_i (d33 _) ?_
  rcases e2 : lett (sAt s (i : Int)) with _ | _
  · simp only [e2, i0, i1, EV, Nat.reduceEqDiff, Nat.reduceBEq, Nat.reduceLT, Nat.reduceLeDiff, Nat.reduceAdd, Nat.reduceSub, reduceIte]
    refine callK_i (d30 _) ?_
    rcases e3 : digt (sAt s (i : Int)) with _ | _
    · rw [wl_stop (fun h => by have := h.2; simp [aln, e2, e3] at this)] at g2
      simp only [e3, EV, Nat.reduceEqDiff, Nat.reduceBEq, Nat.reduceLT, Nat.reduceLeDiff, Nat.reduceAdd, Nat.reduceSub, reduceIte]
      simp only [g2, EV, Nat.reduceEqDiff, Nat.reduceBEq, Nat.reduceLT, Nat.reduceLeDiff, Nat.reduceAdd, Nat.reduceSub, reduceIte, evRE, retVC, cellV', evR, nfz, nfzs, nfzss, List.contains_nil, List.contains_cons, Bool.or_false, or_true]
    · rw [wl_step (by omega) (by simp [aln, e3])] at g2
      simp only [e3, wi, EV, Nat.reduceEqDiff, Nat.reduceBEq, Nat.reduceLT, Nat.reduceLeDiff, Nat.reduceAdd, Nat.reduceSub, reduceIte]
      exact ⟨i + 1, ⟨by omega, g2⟩, by omega, rfl⟩
  · rw [wl_step (by omega) (by simp [aln, e2])] at g2
    simp only [e2, wi, EV, Nat.reduceEqDiff, Nat.reduceBEq, Nat.reduceLT, Nat.reduceLeDiff, Nat.reduceAdd, Nat.reduceSub, reduceIte]
    exact ⟨i + 1, ⟨by omega, g2⟩, by omega, rfl⟩
def m21 : MC :=
 (.seq (.reg [Xb 2 (.asg (.i 0))]) (.seq (.reg [Xb 3 (.asg (.i 0))]) (.seq (.seq (.reg [Xb 4 (.asg (.i 0))]) (.block 0 (.loop [0, 3, 4] (.seq (.seq (.reg [Xm 5 4, Xq 6 (.bin false .add (.t 5) (.i 1)), Xm 7 0, Xq 8 (.len true (.t 7)), Xq 9 (.bin false .lss (.t 6) (.t 8))]) (.cond (.t 9) .skip (.exit 0))) (.join [0, 3, 4] (.block 1 (.join [0, 3, 4] (.seq (.reg [Xm 12 0, Xm 13 4, Xm 14 4, Xq 15 (.bin
 false .add (.t 14) (.i 2)), Xq 16 (.slc true 1 (.t 12) (some (.t 13)) (some (.t 15)))]) (.block 2 (.seq (.reg [Xq 18 (.bin false .eql (.t 16) (.z #[40, 42])), Xa 17 18]) (.cond (.t 17) (.seq (.reg [Xm 19 3, Xq 20 (.bin false .add (.t 19) (.i 1)), Xa 3 20]) (.reg [Xm 21 4, Xq 22 (.bin false .add (.t 21) (.i 1)), Xa 4 22])) (.seq (.reg [Xq 24 (.bin false .eql (.t 16) (.z #[42, 41])), Xa 23 24])
 (.cond (.t 23) (.seq (.reg [Xm 25 3, Xq 26 (.bin false .sub (.t 25) (.i 1)), Xa 3 26]) (.reg [Xm 27 4, Xq 28 (.bin false .add (.t 27) (.i 1)), Xa 4 28])) .skip)))))) (.seq (.reg [Xm 29 3, Xq 30 (.bin false .eql (.t 29) (.i 0))]) (.cond (.t 30) (.seq (.reg [Xm 31 4, Xq 32 (.bin false .add (.t 31) (.i 1)), Xa 2 32]) .ret) .skip)))) (.reg [Xm 10 4, Xq 11 (.bin false .add (.t 10) (.i 1)), Xa 4
 11])))))) (.seq (.reg [Xb 2 (.asg (.i 0))]) .ret))))
set_option maxHeartbeats 1000000 in
theorem d21 (s : ByteArray) (h2 : 1 < s.size) (hs : (s.size : Int) ≤ 1200) (ho : isOpen s 0 = true) : Does Go.Proofs.Tryd.prog 21 [.v (.string s)] false (.v (.int .i64 (match rem s 0 0 with | some e => (e : Int) | none => 0))) [.dead] := by
  generalize hR : rem s 0 0 = R
  refine does_intro (mc := m21) (N := 33) (rs := [2]) (fx := []) 1 rfl (by decide +kernel) ?_
  simp only [m21, EV, Nat.reduceEqDiff, Nat.reduceBEq, Nat.reduceLT, Nat.reduceLeDiff, Nat.reduceAdd, Nat.reduceSub, reduceIte]
  refine awp_loop (fun p : Nat × Nat => p.1 ≤ s.size ∧ p.2 ≤ p.1 + 1 ∧ (p.2 = 0 → p.1 = 0) ∧ R = rem s p.1 p.2) (fun p => stl [(0, .v (.string s)), (3, .v (.int .i64 (p.2 : Int))), (4, .v (.int .i64 (p.1 : Int)))]) (fun p => s.size - p.1) (0, 0) ⟨by simp only; omega, by simp only; omega, fun _ => rfl, hR.symm⟩ ?_ ?_
  · simp only [EV, Nat.reduceEqDiff, Nat.reduceBEq, Nat.reduceLT, Nat.reduceLeDiff, Nat.reduceAdd, Nat.reduceSub, reduceIte]
    rfl
  rintro ⟨i, d⟩ ⟨g1, g2, g3, g4⟩
  simp only at g1 g2 g3 g4
  have w1 := w64 ((i : Int) + 1) (by omega)
  have w11 := w64 ((i : Int) + 1 + 1) (by omega)
  have w2 := w64 ((i : Int) + 2) (by omega)
  have wd1 := w64 ((d : Int) + 1) (by omega)
  have wd2 := w64 ((d : Int) - 1) (by omega)
  simp only [w1, EV, Nat.reduceEqDiff, Nat.reduceBEq, Nat.reduceLT, Nat.reduceLeDiff, Nat.reduceAdd, Nat.reduceSub, reduceIte]
  refine cK_cut (fun h => ?_) (fun h => ?_)
  · have i2 : (i : Int) + 1 < (s.size : Int) := by simpa using h
    clear h
    have i3 : (i : Int) ≤ (i : Int) + 2 := by omega
    have i4 : (i : Int) + 2 ≤ (s.size : Int) := by omega
    have t0 : ((i : Nat) : Int).toNat = i := rfl
    have t2 : ((i : Nat) + 2 : Int).toNat = i + 2 := rfl
    have eo := open_eq s (i := i) (by omega)
    have es := shut_eq s (i := i) (by omega)
    have i5 : ((i : Int) + 1 + 1) = ((i + 2 : Nat) : Int) := by omega
    have i6 : ((i : Int) + 1) = ((i + 1 : Nat) : Int) := by omega
    rw [rem, if_pos (by omega)] at g4
    refine awp_join (fun p : Nat × Nat => p.1 + 1 ≤ s.size ∧ p.2 ≤ p.1 + 2 ∧ p.2 ≠ 0 ∧ i ≤ p.1 ∧ R = rem s (p.1 + 1) p.2) (fun p => stl [(0, .v (.string s)), (3, .v (.int .i64 (p.2 : Int))), (4, .v (.int .i64 (p.1 : Int)))]) ?_ ?_
    · simp only [EV, Nat.reduceEqDiff, Nat.reduceBEq, Nat.reduceLT, Nat.reduceLeDiff, Nat.reduceAdd, Nat.reduceSub, reduceIte]
      refine awp_join (fun p : Nat × Nat => ((p.1 = i + 1 ∧ p.2 ≠ 0 ∧ (p.2 = d + 1 ∨ p.2 + 1 = d) ∧ R = rem s (i + 2) p.2) ∨ (p.1 = i ∧ p.2 = d ∧ d ≠ 0 ∧ R = rem s (i + 1) d)) ∨ (p.1 = i + 1 ∧ p.2 = 0 ∧ R = some (i + 2))) (fun p => stl [(0, .v (.string s)), (3, .v (.int .i64 (p.2 : Int))), (4, .v (.int .i64 (p.1 : Int)))]) ?_ ?_
      · simp only [w2, i3, i4, t0, t2, eo, EV, Nat.reduceEqDiff, Nat.reduceBEq, Nat.reduceLT, Nat.reduceLeDiff, Nat.reduceAdd, Nat.reduceSub, reduceIte]
        rcases o : isOpen s i with _ | _
        · have hd0 : d ≠ 0 := by
            intro h; have := g3 h; subst this; rw [ho] at o; cases o
          rw [o, if_neg (by simp)] at g4
          simp only [o, es, EV, Nat.reduceEqDiff, Nat.reduceBEq, Nat.reduceLT, Nat.reduceLeDiff, Nat.reduceAdd, Nat.reduceSub, reduceIte]
          rcases q : isShut s i with _ | _
          · rw [q, if_neg (by simp)] at g4
            simp only [w1, w2, wd1, wd2, EV, Nat.reduceEqDiff, Nat.reduceBEq, Nat.reduceLT, Nat.reduceLeDiff, Nat.reduceAdd, Nat.reduceSub, reduceIte]
            exact ⟨(i, d), .inl (.inr ⟨rfl, rfl, hd0, g4⟩), rfl⟩
          · rw [q, if_pos rfl] at g4
            simp only [w1, w2, wd1, wd2, EV, Nat.reduceEqDiff, Nat.reduceBEq, Nat.reduceLT, Nat.reduceLeDiff, Nat.reduceAdd, Nat.reduceSub, reduceIte]
            by_cases hd1 : d = 1
            · rw [if_pos hd1] at g4
              refine ⟨(i + 1, 0), .inr ⟨rfl, rfl, g4⟩, ?_⟩
              rw [hd1]; rfl
            · rw [if_neg hd1] at g4
              refine ⟨(i + 1, d - 1), .inl (.inl ⟨rfl, by simp only; omega, by simp only; omega, g4⟩), ?_⟩
              have : (d : Int) - 1 = ((d - 1 : Nat) : Int) := by omega
              rw [this]
              rfl
        · rw [o, if_pos rfl] at g4
          simp only [o, w1, w2, wd1, wd2, EV, Nat.reduceEqDiff, Nat.reduceBEq, Nat.reduceLT, Nat.reduceLeDiff, Nat.reduceAdd, Nat.reduceSub, reduceIte]
          exact ⟨(i + 1, d + 1), .inl (.inl ⟨rfl, by simp only; omega, .inl rfl, g4⟩), rfl⟩
      · rintro ⟨j, e⟩ hj
        have wj := w64 ((j : Int) + 1) (by simp only at hj; omega)
        simp only [EV, Nat.reduceEqDiff, Nat.reduceBEq, Nat.reduceLT, Nat.reduceLeDiff, Nat.reduceAdd, Nat.reduceSub, reduceIte]
        rcases hj with (⟨j1, j2, j3, j4⟩ | ⟨j1, j2, j3, j4⟩) | ⟨j1, j2, j3⟩
        · simp only at j1 j2 j3 j4
          subst j1
          have z : ((e : Int) == 0) = false := by simp; omega
          simp only [z, wj, EV, Nat.reduceEqDiff, Nat.reduceBEq, Nat.reduceLT, Nat.reduceLeDiff, Nat.reduceAdd, Nat.reduceSub, reduceIte]
          exact ⟨(i + 1, e), ⟨by simp only; omega, by simp only; omega, j2, by simp only; omega, j4⟩, rfl⟩
        · simp only at j1 j2 j3 j4
          subst j1; subst j2
          have z : ((e : Int) == 0) = false := by simp; omega
          simp only [z, wj, EV, Nat.reduceEqDiff, Nat.reduceBEq, Nat.reduceLT, Nat.reduceLeDiff, Nat.reduceAdd, Nat.reduceSub, reduceIte]
          exact ⟨(j, e), ⟨by simp only; omega, by simp only; omega, j3, by simp only; omega, j4⟩, rfl⟩
        · simp only at j1 j2 j3
          subst j1; subst j2
          refine cK_cut (fun _ => ?_) (fun h => absurd h (by decide))
          simp only [wj, EV, Nat.reduceEqDiff, Nat.reduceBEq, Nat.reduceLT, Nat.reduceLeDiff, Nat.reduceAdd, Nat.reduceSub, reduceIte]
          have e2 : ((i + 1 : Nat) : Int) + 1 = ((i + 2 : Nat) : Int) := by omega
          rw [e2]
          simp only [j3, EV, Nat.reduceEqDiff, Nat.reduceBEq, Nat.reduceLT, Nat.reduceLeDiff, Nat.reduceAdd, Nat.reduceSub, reduceIte, evRE, retVC, cellV', evR, nfz, nfzs, nfzss, List.contains_nil, List.contains_cons, Bool.or_false, or_true]
    · rintro ⟨j, e⟩ ⟨j1, j2, j3, j4, j5⟩
      simp only at j1 j2 j3 j4 j5
      have wj := w64 ((j : Int) + 1) (by omega)
      simp only [wj, EV, Nat.reduceEqDiff, Nat.reduceBEq, Nat.reduceLT, Nat.reduceLeDiff, Nat.reduceAdd, Nat.reduceSub, reduceIte]
      exact ⟨(j + 1, e), ⟨j1, by simp only; omega, fun h => absurd h j3, j5⟩, by simp only; omega, rfl⟩
  · have i2 : ¬ i + 1 < s.size := by have : ¬ (i : Int) + 1 < s.size := by simpa using h
                                     omega
    rw [rem, if_neg i2] at g4
    simp only [EV, Nat.reduceEqDiff, Nat.reduceBEq, Nat.reduceLT, Nat.reduceLeDiff, Nat.reduceAdd, Nat.reduceSub, reduceIte]
    simp only [g4, EV, Nat.reduceEqDiff, Nat.reduceBEq, Nat.reduceLT, Nat.reduceLeDiff, Nat.reduceAdd, Nat.reduceSub, reduceIte, evRE, retVC, cellV', evR, nfz, nfzs, nfzss, List.contains_nil, List.contains_cons, Bool.or_false, or_true]
theorem tokN_shift (s : ByteArray) {a : Nat} (ha : a < s.size) : tokN s a = match tokN (s.extract a s.size) 0 with
    | .inl t => .inl { t with pos := (a : Int) }
    | .inr c => .inr c := by
  have hz : (s.extract a s.size).size = s.size - a := by rw [ByteArray.size_extract]; omega
  have e0 := sAt_cut s (a := a) (b := s.size) (i := 0) (by omega) (Nat.le_refl _)
  rw [Nat.add_zero] at e0
  have ew := wl_shift s a (s.size - (a + 0)) 0 (Nat.le_refl _) (by omega)
  rw [Nat.add_zero] at ew
  obtain ⟨w1, w2, _⟩ := wl_in s (s.size - a) a (Nat.le_refl _) (by omega)
  have ex : ∀ n : Nat, a + n ≤ s.size → (s.extract a s.size).extract 0 n = s.extract a (a + n) := by
    intro n hn
    have h1 : ((s.extract a s.size).extract 0 n).size = n := by rw [ByteArray.size_extract, hz]; omega
    have h2 : (s.extract a (a + n)).size = n := by rw [ByteArray.size_extract]; omega
    refine ext_bytes (by rw [h1, h2]) fun i hi => ?_
    rw [h1] at hi
    rw [sAt_cut (s.extract a s.size) (a := 0) (b := n) (i := i) (by omega) (by omega), Nat.zero_add, sAt_cut s (a := a) (b := s.size) (i := i) (by omega) (Nat.le_refl _), sAt_cut s (a := a) (b := a + n) (i := i) (by omega) (by omega)]
  have ex1 := ex 1 (by omega)
  have exw := ex (wl (s.extract a s.size) 0) (by omega)
  rw [ew] at exw
  have ed : wl s a - a = wl (s.extract a s.size) 0 - 0 := by omega
  unfold tokN
  rw [e0, exw, ← ed, Nat.zero_add, ex1]
  by_cases c1 : isSign (sAt s (a : Nat)) = true
  · simp only [if_pos c1]
  by_cases c2 : aln (sAt s (a : Nat)) = false
  · simp only [if_neg c1, if_pos c2]
  by_cases c3 : lett (sAt s (a : Nat)) = true
  · by_cases c4 : isWordB (s.extract a (wl s a)) = true
    · simp only [if_neg c1, if_neg c2, if_pos c3, if_pos c4]
    · by_cases c5 : 10 < wl s a - a
      · simp only [if_neg c1, if_neg c2, if_pos c3, if_neg c4, if_pos c5]
      · simp only [if_neg c1, if_neg c2, if_pos c3, if_neg c4, if_neg c5]
  · rcases numN (s.extract a (wl s a)) with _ | n
    · simp only [if_neg c1, if_neg c2, if_neg c3]
    · simp only [if_neg c1, if_neg c2, if_neg c3]
theorem tokN_size {s : ByteArray} {a : Nat} {t : Tok} (ha : a < s.size) (h : tokN (s.extract a s.size) 0 = .inl t) : a + t.text.size ≤ s.size := by
  have h2 := tokN_shift s ha
  rw [h] at h2
  exact (tokN_in ha h2).2.1
def tok0 : Tok := ⟨0, ⟨#[]⟩, 0, 0⟩
def tokU (u : ByteArray) : Tok × Int × Int := match tokN u 0 with
  | .inl t => (t, (t.text.size : Int), 0)
  | .inr c => (tok0, 0, c)
def m22 : MC :=
 (.seq (.reg [Xb 2 (.alloc 30 [.i, .z, .i, .i]), Xb 3 (.asg (.i 0)), Xb 4 (.asg (.i 0))]) (.seq (.seq (.reg [Xm 9 0, Xq 10 (.idx (.t 9) (.i 0)), Xb 11 (.call (.fn 27) false [.lend (.z #[59, 44, 46, 58, 61, 42, 45, 43, 40, 41]), .lend (.t 10)]), Xq 12 (.bin false .geq (.t 11) (.i 0))]) (.cond (.t 12) (.seq (.reg [Xm 13 0, Xq 14 (.slc true 1 (.t 13) none (some (.i 1))), Xb 15 (.build [0, 1] [0, 1]
 [1, 1] [.i, .z, .i, .i] [.i 4, .t 14]), Xz (.store 4 (.t 2) (.t 15)), Xb 3 (.asg (.i 1)), Xb 4 (.asg (.i 0))]) .ret) .skip)) (.seq (.reg [Xm 16 0, Xb 17 (.call (.fn 28) false [.lend (.t 16)]), Xa 5 17]) (.seq (.reg [Xm 18 0, Xm 19 5, Xq 20 (.slc true 1 (.t 18) none (some (.t 19))), Xb 21 (.build [0, 1] [0, 1] [1, 1] [.i, .z, .i, .i] [.i 1, .t 20]), Xb 6 (.alloc 30 [.i, .z, .i, .i]), Xz (.store 4
 (.t 6) (.t 21))]) (.join [2, 5, 6] (.block 0 (.seq (.reg [Xm 23 5, Xq 24 (.bin false .eql (.t 23) (.i 0)), Xa 22 24]) (.cond (.t 22) (.seq (.reg [Xb 25 (.build [] [] [] [.i, .z, .i, .i] []), Xz (.store 4 (.t 2) (.t 25)), Xb 3 (.asg (.i 0)), Xb 4 (.asg (.i 4))]) .ret) (.seq (.reg [Xf 27 1 6, Xl 28 1 27, Xb 29 (.call (.fn 29) false [.lend (.t 28)]), Xa 26 29]) (.cond (.t 26) (.reg [Xf 30 0 6, Xz
 (.store 1 (.t 30) (.i 2))]) (.seq (.reg [Xm 32 0, Xq 33 (.idx (.t 32) (.i 0)), Xb 34 (.call (.fn 30) false [.lend (.t 33)]), Xa 31 34]) (.cond (.t 31) (.seq (.reg [Xf 36 1 6, Xl 37 1 36, Xb 38 (.call (.fn 31) false [.lend (.t 37)]), Xm 35 38, Xq 39 (.ext 35 0), Xq 40 (.ext 35 1), Xa 7 39, Xa 8 40]) (.seq (.seq (.reg [Xm 41 8, Xq 42 (.un .not (.t 41))]) (.cond (.t 42) (.seq (.reg [Xb 43 (.build []
 [] [] [.i, .z, .i, .i] []), Xz (.store 4 (.t 2) (.t 43)), Xb 3 (.asg (.i 0)), Xb 4 (.asg (.i 3))]) .ret) .skip)) (.reg [Xm 44 7, Xf 45 0 6, Xz (.store 1 (.t 45) (.i 3)), Xf 46 2 6, Xz (.store 1 (.t 46) (.t 44))]))) (.seq (.reg [Xm 48 5, Xq 49 (.bin false .gtr (.t 48) (.i 10)), Xa 47 49]) (.cond (.t 47) (.seq (.reg [Xb 50 (.build [] [] [] [.i, .z, .i, .i] []), Xz (.store 4 (.t 2) (.t 50)), Xb 3
 (.asg (.i 0)), Xb 4 (.asg (.i 3))]) .ret) .skip))))))))) (.seq (.reg [XL 51 4 6, Xm 52 5, Xz (.store 4 (.t 2) (.t 51)), Xa 3 52, Xb 4 (.asg (.i 0))]) .ret))))))
set_option maxHeartbeats 4000000 in
set_option maxRecDepth 100000 in
theorem d22 (u : ByteArray) (hp : 0 < u.size) (hs : (u.size : Int) ≤ 1200) : Does Go.Proofs.Tryd.prog 22 [.v (.string u)] false (.tup [.agg (tokU u).1.z, .v (.int .i64 (tokU u).2.1), .v (.int .i64 (tokU u).2.2)]) [.dead] := by
  have p0 : (0 : Int) < u.size := by omega
  have hr := sAt_b u 0
  have e0 : ((0 : Nat) : Int) = 0 := rfl
  obtain ⟨W1, W2, W3⟩ := wl_in u u.size 0 (by omega) (by omega)
  have nmW := name_word u hp
  rw [e0] at nmW
  have hzw : (u.extract 0 (wl u 0)).size = wl u 0 := by rw [ByteArray.size_extract]; omega
  have hal0 : aln (sAt u 0) = false → wl u 0 = 0 := fun h => wl_stop (fun c => by rw [e0] at c; rw [h] at c; cases c.2)
  have hal1 : aln (sAt u 0) = true → 0 < wl u 0 := fun h => by
    rw [wl_step hp (by rw [e0]; exact h)]
    have := (wl_in u u.size 1 (by omega) (by omega)).1
    show 0 < wl u 1
    omega
  have hw0 : 0 < wl u 0 → sAt (u.extract 0 (wl u 0)) 0 = sAt u 0 := fun h => by
    have := sAt_cut u (a := 0) (b := wl u 0) (i := 0) (by omega) W2
    simpa using this
  have hT : tokN u 0 = if isSign (sAt u 0) = true then .inl ⟨4, u.extract 0 1, 0, 0⟩ else if aln (sAt u 0) = false then .inr 4
      else if lett (sAt u 0) = true then (if isWordB (u.extract 0 (wl u 0)) = true then .inl ⟨2, u.extract 0 (wl u 0), 0, 0⟩ else if 10 < wl u 0 then .inr 3 else .inl ⟨1, u.extract 0 (wl u 0), 0, 0⟩)
      else match numN (u.extract 0 (wl u 0)) with | some n => .inl ⟨3, u.extract 0 (wl u 0), (n : Int), 0⟩ | none => .inr 3 := rfl
  have err_ : ∀ c : Int, tokN u 0 = .inr c → tokU u = (tok0, 0, c) := fun c h => by unfold tokU; rw [h]
  have ok_ : ∀ t : Tok, tokN u 0 = .inl t → tokU u = (t, (t.text.size : Int), 0) := fun t h => by unfold tokU; rw [h]
  refine does_introM (mc := m22) (N := 53) (rs := [.c 2 30 true 4, .t 3, .t 4]) (fx := []) 1 rfl (by decide +kernel) ?_
  simp only [m22, p0, EV, Nat.reduceEqDiff, Nat.reduceBEq, Nat.reduceLT, Nat.reduceLeDiff, Nat.reduceAdd, Nat.reduceSub, reduceIte]
  refine ⟨by omega, callK_i (d27 _ _) ?_⟩
  have hsx := sign_index (sAt u 0) hr.1 hr.2
  simp only [hsx, EV, Nat.reduceEqDiff, Nat.reduceBEq, Nat.reduceLT, Nat.reduceLeDiff, Nat.reduceAdd, Nat.reduceSub, reduceIte]
  rcases e1 : isSign (sAt u 0) with _ | _
  rotate_left
  · rw [e1, if_pos rfl] at hT
    have h1 := ok_ _ hT
    have hz1 : (u.extract 0 1).size = 1 := by rw [ByteArray.size_extract]; omega
    simp only [e1, p0, EV, Nat.reduceEqDiff, Nat.reduceBEq, Nat.reduceLT, Nat.reduceLeDiff, Nat.reduceAdd, Nat.reduceSub, reduceIte]
    repeat (refine And.intro (by omega) ?_)
    simp only [h1, hz1, Tok.z, pbq, evRM, EV, Nat.reduceEqDiff, Nat.reduceBEq, Nat.reduceLT, Nat.reduceLeDiff, Nat.reduceAdd, Nat.reduceSub, reduceIte, evRE, retVC, cellV', evR, nfz, nfzs, nfzss, List.contains_nil, List.contains_cons, Bool.or_false, or_true]
    rfl
  rw [e1, if_neg (by simp)] at hT
  simp only [e1, EV, Nat.reduceEqDiff, Nat.reduceBEq, Nat.reduceLT, Nat.reduceLeDiff, Nat.reduceAdd, Nat.reduceSub, reduceIte]
  refine callK_i (d28 u hs) ?_
  simp only [EV, Nat.reduceEqDiff, Nat.reduceBEq, Nat.reduceLT, Nat.reduceLeDiff, Nat.reduceAdd, Nat.reduceSub, reduceIte]
  repeat (refine And.intro (by omega) ?_)
  have tw : ((wl u 0 : Nat) : Int).toNat = wl u 0 := rfl
  refine awp_join (fun t : Tok => tokN u 0 = .inl t ∧ t.text = u.extract 0 (wl u 0) ∧ t.pos = 0) (fun t => stl [(2, .box 30 tok0.z), (5, .v (.int .i64 (wl u 0 : Nat))), (6, .box 30 t.z)]) ?_ ?_
  · rcases e2 : aln (sAt u 0) with _ | _
    · have hw := hal0 e2
      rw [if_pos e2] at hT
      have h1 := err_ _ hT
      have z : ((wl u 0 : Nat) : Int) == 0 := by rw [hw]; rfl
      simp only [z, EV, Nat.reduceEqDiff, Nat.reduceBEq, Nat.reduceLT, Nat.reduceLeDiff, Nat.reduceAdd, Nat.reduceSub, reduceIte]
      simp only [h1, tok0, Tok.z, pbq, evRM, EV, Nat.reduceEqDiff, Nat.reduceBEq, Nat.reduceLT, Nat.reduceLeDiff, Nat.reduceAdd, Nat.reduceSub, reduceIte, evRE, retVC, cellV', evR, nfz, nfzs, nfzss, List.contains_nil, List.contains_cons, Bool.or_false, or_true]
    have hw := hal1 e2
    have z : (((wl u 0 : Nat) : Int) == 0) = false := by simp; omega
    have hs0 := hw0 hw
    rw [if_neg (by rw [e2]; simp)] at hT
    simp only [z, EV, Nat.reduceEqDiff, Nat.reduceBEq, Nat.reduceLT, Nat.reduceLeDiff, Nat.reduceAdd, Nat.reduceSub, reduceIte]
    refine callK_i (d29 (u.extract 0 (wl u 0))) ?_
    simp only [EV, Nat.reduceEqDiff, Nat.reduceBEq, Nat.reduceLT, Nat.reduceLeDiff, Nat.reduceAdd, Nat.reduceSub, reduceIte]
    rcases e3 : isWordB (u.extract 0 (wl u 0)) with _ | _
    rotate_left
    · have hl := word_lett e3
      rw [hs0] at hl
      rw [if_pos hl, if_pos e3] at hT
      simp only [e3, EV, Nat.reduceEqDiff, Nat.reduceBEq, Nat.reduceLT, Nat.reduceLeDiff, Nat.reduceAdd, Nat.reduceSub, reduceIte]
      exact ⟨_, ⟨hT, rfl, rfl⟩, rfl⟩
    simp only [e3, p0, EV, Nat.reduceEqDiff, Nat.reduceBEq, Nat.reduceLT, Nat.reduceLeDiff, Nat.reduceAdd, Nat.reduceSub, reduceIte]
    repeat (refine And.intro (by omega) ?_)
    refine callK_i (d30 _) ?_
    simp only [EV, Nat.reduceEqDiff, Nat.reduceBEq, Nat.reduceLT, Nat.reduceLeDiff, Nat.reduceAdd, Nat.reduceSub, reduceIte]
    rcases e4 : digt (sAt u 0) with _ | _
    · have hl : lett (sAt u 0) = true := by simpa [aln, e4] using e2
      rw [if_pos hl, if_neg (by rw [e3]; simp)] at hT
      simp only [e4, EV, Nat.reduceEqDiff, Nat.reduceBEq, Nat.reduceLT, Nat.reduceLeDiff, Nat.reduceAdd, Nat.reduceSub, reduceIte]
      rcases e5 : decide ((10 : Int) < (wl u 0 : Nat)) with _ | _
      · rw [if_neg (by have : ¬ (10 : Int) < (wl u 0 : Nat) := by simpa using e5
                       omega)] at hT
        simp only [e5, EV, Nat.reduceEqDiff, Nat.reduceBEq, Nat.reduceLT, Nat.reduceLeDiff, Nat.reduceAdd, Nat.reduceSub, reduceIte]
        exact ⟨_, ⟨hT, rfl, rfl⟩, rfl⟩
      · rw [if_pos (by have : (10 : Int) < (wl u 0 : Nat) := by simpa using e5
                       omega)] at hT
        have h1 := err_ _ hT
        simp only [e5, EV, Nat.reduceEqDiff, Nat.reduceBEq, Nat.reduceLT, Nat.reduceLeDiff, Nat.reduceAdd, Nat.reduceSub, reduceIte]
        simp only [h1, tok0, Tok.z, pbq, evRM, EV, Nat.reduceEqDiff, Nat.reduceBEq, Nat.reduceLT, Nat.reduceLeDiff, Nat.reduceAdd, Nat.reduceSub, reduceIte, evRE, retVC, cellV', evR, nfz, nfzs, nfzss, List.contains_nil, List.contains_cons, Bool.or_false, or_true]
    · have hl : lett (sAt u 0) = false := by
        rcases e6 : lett (sAt u 0) with _ | _
        · rfl
        · rw [lett_digt e6] at e4; cases e4
      rw [if_neg (by rw [hl]; simp)] at hT
      simp only [e4, EV, Nat.reduceEqDiff, Nat.reduceBEq, Nat.reduceLT, Nat.reduceLeDiff, Nat.reduceAdd, Nat.reduceSub, reduceIte]
      refine callK_i (d31 (u.extract 0 (wl u 0)) (by rw [hzw]; omega) (by rw [hzw]; exact hw) (by rw [hs0]; exact e4)) ?_
      rcases e6 : numN (u.extract 0 (wl u 0)) with _ | m
      · rw [e6] at hT
        have h1 := err_ _ hT
        simp only [numR, e6, Option.getD_none, Option.isSome_none, Bool.not_false, EV, Nat.reduceEqDiff, Nat.reduceBEq, Nat.reduceLT, Nat.reduceLeDiff, Nat.reduceAdd, Nat.reduceSub, reduceIte]
        simp only [h1, tok0, Tok.z, pbq, evRM, EV, Nat.reduceEqDiff, Nat.reduceBEq, Nat.reduceLT, Nat.reduceLeDiff, Nat.reduceAdd, Nat.reduceSub, reduceIte, evRE, retVC, cellV', evR, nfz, nfzs, nfzss, List.contains_nil, List.contains_cons, Bool.or_false, or_true]
      · rw [e6] at hT
        simp only [numR, e6, Option.getD_some, Option.isSome_some, Bool.not_true, EV, Nat.reduceEqDiff, Nat.reduceBEq, Nat.reduceLT, Nat.reduceLeDiff, Nat.reduceAdd, Nat.reduceSub, reduceIte]
        exact ⟨_, ⟨hT, rfl, rfl⟩, rfl⟩
  rintro t ⟨q1, q2, q3⟩
  have h1 := ok_ _ q1
  have hz : t.text.size = wl u 0 := by rw [q2]; exact hzw
  simp only [tok0, Tok.z, EV, Nat.reduceEqDiff, Nat.reduceBEq, Nat.reduceLT, Nat.reduceLeDiff, Nat.reduceAdd, Nat.reduceSub, reduceIte]
  simp only [h1, hz, Tok.z, pbq, evRM, EV, Nat.reduceEqDiff, Nat.reduceBEq, Nat.reduceLT, Nat.reduceLeDiff, Nat.reduceAdd, Nat.reduceSub, reduceIte, evRE, retVC, cellV', evR, nfz, nfzs, nfzss, List.contains_nil, List.contains_cons, Bool.or_false, or_true]
end Go.AM
namespace Go.AM
set_option linter.unusedVariables false
set_option linter.unusedSimpArgs false
theorem has_open (s : ByteArray) {i : Nat} (hi : i < s.size) : (decide (((2 : Nat) : Int) ≤ ((s.extract i s.size).size : Int)) && (((s.extract i s.size).extract 0 2).toList == (⟨#[40, 42]⟩ : ByteArray).toList)) = (decide (i + 1 < s.size) && isOpen s i) := by
  have hz : (s.extract i s.size).size = s.size - i := by rw [ByteArray.size_extract]; omega
  rw [hz]
  by_cases c : i + 1 < s.size
  · have e0 := sAt_cut s (a := i) (b := s.size) (i := 0) (by omega) (Nat.le_refl _)
    have e1 := sAt_cut s (a := i) (b := s.size) (i := 0 + 1) (by omega) (Nat.le_refl _)
    have h := open_eq (s.extract i s.size) (i := 0) (by omega)
    rw [Nat.zero_add] at h
    rw [h, decide_eq_true c, decide_eq_true (by omega)]
    unfold isOpen
    rw [e0, e1]
    rfl
  · rw [decide_eq_false c, decide_eq_false (by omega)]; rfl
def m11 : MC :=
 (.seq (.reg [Xb 2 (.asg (.nils 30 4)), Xb 3 (.asg (.i 0)), Xb 4 (.asg (.i 0))]) (.seq (.seq (.reg [Xm 11 0, Xq 12 (.len true (.t 11)), Xq 13 (.bin false .gtr (.t 12) (.i 1200))]) (.cond (.t 13) (.seq (.reg [Xb 2 (.asg (.nils 30 4)), Xb 3 (.asg (.i 1)), Xb 4 (.asg (.i 0))]) .ret) .skip)) (.seq (.reg [Xb 14 (.bsl 30 4 []), Xa 5 14]) (.seq (.seq (.reg [Xb 6 (.asg (.i 0))]) (.block 0 (.loop [0, 5, 6,
 14, 64] (.seq (.seq (.reg [Xm 15 6, Xm 16 0, Xq 17 (.len true (.t 16)), Xq 18 (.bin false .lss (.t 15) (.t 17))]) (.cond (.t 18) .skip (.exit 0))) (.block 1 (.seq (.block 2 (.seq (.reg [Xm 20 0, Xm 21 6, Xq 22 (.idx (.t 20) (.t 21)), Xq 23 (.bin false .eql (.t 22) (.c (.int .u8 32))), Xm 24 23, Xu 25 24 (.mov (.t 0)), Xu 26 24 (.mov (.t 6)), Xu 27 24 (.idx (.t 25) (.t 26)), Xu 28 24 (.bin false
 .eql (.t 27) (.c (.int .u8 10))), Xq 29 (.pick (.t 24) .tb (.t 28)), Xa 19 29]) (.cond (.t 19) (.seq (.reg [Xm 30 6, Xq 31 (.bin false .add (.t 30) (.i 1)), Xa 6 31]) (.exit 1)) (.seq (.reg [Xm 33 0, Xm 34 6, Xq 35 (.slc true 1 (.t 33) (some (.t 34)) none), Xb 36 (.call (.fn 20) false [.lend (.t 35), .lend (.z #[40, 42])]), Xa 32 36]) (.cond (.t 32) (.seq (.reg [Xm 37 0, Xm 38 6, Xq 39 (.slc true
 1 (.t 37) (some (.t 38)) none), Xb 40 (.call (.fn 21) false [.lend (.t 39)]), Xa 7 40]) (.seq (.seq (.reg [Xm 41 7, Xq 42 (.bin false .eql (.t 41) (.i 0))]) (.cond (.t 42) (.seq (.reg [Xm 43 6, Xb 2 (.asg (.nils 30 4)), Xb 3 (.asg (.i 2)), Xa 4 43]) .ret) .skip)) (.seq (.reg [Xm 44 6, Xm 45 7, Xq 46 (.bin false .add (.t 44) (.t 45)), Xa 6 46]) (.exit 1)))) .skip))))) (.seq (.reg [Xm 48 0, Xm 49 6,
 Xq 50 (.slc true 1 (.t 48) (some (.t 49)) none), Xb 51 (.call (.fn 22) false [.lend (.t 50)]), Xm 47 51, Xq 52 (.ext 47 0), Xq 53 (.ext 47 1), Xq 54 (.ext 47 2), Xb 8 (.alloc 30 [.i, .z, .i, .i]), Xz (.store 4 (.t 8) (.t 52)), Xa 9 53, Xa 10 54]) (.seq (.seq (.reg [Xm 55 10, Xq 56 (.bin false .neq (.t 55) (.i 0))]) (.cond (.t 56) (.seq (.reg [Xm 57 10, Xm 58 6, Xb 2 (.asg (.nils 30 4)), Xa 3 57,
 Xa 4 58]) .ret) .skip)) (.seq (.reg [Xm 59 6, Xf 60 3 8, Xz (.store 1 (.t 60) (.t 59))]) (.seq (.reg [Xm 61 5, XL 62 4 8, Xb 63 (.bsl 30 4 [.t 62]), Xb 64 (.app true 30 4 40 (.t 61) (.t 63)), Xa 5 64]) (.reg [Xm 65 6, Xm 66 9, Xq 67 (.bin false .add (.t 65) (.t 66)), Xa 6 67]))))))))))) (.seq (.seq (.reg [Xm 68 5, Xn 69 68, Xq 70 (.bin false .gtr (.t 69) (.i 300))]) (.cond (.t 70) (.seq (.reg [Xb
 2 (.asg (.nils 30 4)), Xb 3 (.asg (.i 5)), Xb 4 (.asg (.i 0))]) .ret) .skip)) (.seq (.reg [Xm 71 5, Xa 2 71, Xb 3 (.asg (.i 0)), Xb 4 (.asg (.i 0))]) .ret))))))
def rt3 (R : List Tok ⊕ (Int × Int)) : List AV := [.usl 30 4 ((rtL R).map Tok.z), .v (.int .i64 (rtC R)), .v (.int .i64 (rtA R))]
set_option maxHeartbeats 4000000 in
set_option maxRecDepth 100000 in
theorem d11 (s : ByteArray) (hs : (s.size : Int) ≤ 9223372036854775807) : Does Go.Proofs.Tryd.prog 11 [.v (.string s)] false (.tup (rt3 (readN s))) [.dead] := by
  refine does_intro (mc := m11) (N := 72) (rs := [2, 3, 4]) (fx := []) 1 rfl (by decide +kernel) ?_
  simp only [m11, EV, Nat.reduceEqDiff, Nat.reduceBEq, Nat.reduceLT, Nat.reduceLeDiff, Nat.reduceAdd, Nat.reduceSub, reduceIte]
  rcases f0 : decide ((1200 : Int) < s.size) with _ | _
  rotate_left
  · have h0 : readN s = .inr (1, 0) := by unfold readN; rw [if_pos (by have : (1200 : Int) < s.size := by simpa using f0
                                                                       omega)]
    simp only [f0, EV, Nat.reduceEqDiff, Nat.reduceBEq, Nat.reduceLT, Nat.reduceLeDiff, Nat.reduceAdd, Nat.reduceSub, reduceIte]
    simp only [h0, rt3, rtL, rtC, rtA, List.map_nil, EV, Nat.reduceEqDiff, Nat.reduceBEq, Nat.reduceLT, Nat.reduceLeDiff, Nat.reduceAdd, Nat.reduceSub, reduceIte, evRE, retVC, cellV', evR, nfz, nfzs, nfzss, List.contains_nil, List.contains_cons, Bool.or_false, or_true]
  have hs2 : (s.size : Int) ≤ 1200 := by have : ¬ (1200 : Int) < s.size := by simpa using f0
                                         omega
  have h0 : readN s = rdT s 0 [] := by unfold readN; rw [if_neg (by omega)]
  rw [h0]
  generalize hR : rdT s 0 [] = R
  simp only [f0, EV, Nat.reduceEqDiff, Nat.reduceBEq, Nat.reduceLT, Nat.reduceLeDiff, Nat.reduceAdd, Nat.reduceSub, reduceIte]
  refine awp_loop (fun p : Nat × List Tok => p.1 ≤ s.size ∧ p.2.length ≤ p.1 ∧ R = rdT s p.1 p.2) (fun p => stl [(0, .v (.string s)), (5, .usl 30 4 (p.2.map Tok.z)), (6, .v (.int .i64 (p.1 : Int))), (14, .dead), (64, .dead)]) (fun p => s.size - p.1) (0, []) ⟨Nat.zero_le _, by simp, hR.symm⟩ ?_ ?_
  · simp only [EV, Nat.reduceEqDiff, Nat.reduceBEq, Nat.reduceLT, Nat.reduceLeDiff, Nat.reduceAdd, Nat.reduceSub, reduceIte]
    rfl
  rintro ⟨i, out⟩ ⟨g1, g2, g3⟩
  simp only at g1 g2 g3
  have i0 : (0 : Int) ≤ (i : Int) := by omega
  have htl : List.take out.length (out.map Tok.z) = out.map Tok.z := List.take_of_length_le (by simp)
  simp only [EV, Nat.reduceEqDiff, Nat.reduceBEq, Nat.reduceLT, Nat.reduceLeDiff, Nat.reduceAdd, Nat.reduceSub, reduceIte]
  rcases f1 : decide ((i : Int) < s.size) with _ | _
  · have hi : ¬ i < s.size := by have : ¬ (i : Int) < s.size := by simpa using f1
                                 omega
    rw [rdT_end hi] at g3
    simp only [f1, htl, Tok.frz, EV, Nat.reduceEqDiff, Nat.reduceBEq, Nat.reduceLT, Nat.reduceLeDiff, Nat.reduceAdd, Nat.reduceSub, reduceIte]
    rcases f2 : decide ((300 : Int) < out.length) with _ | _
    · rw [if_neg (by have : ¬ (300 : Int) < out.length := by simpa using f2
                     omega)] at g3
      simp only [f2, EV, Nat.reduceEqDiff, Nat.reduceBEq, Nat.reduceLT, Nat.reduceLeDiff, Nat.reduceAdd, Nat.reduceSub, reduceIte]
      simp only [g3, rt3, rtL, rtC, rtA, Tok.nfz, EV, Nat.reduceEqDiff, Nat.reduceBEq, Nat.reduceLT, Nat.reduceLeDiff, Nat.reduceAdd, Nat.reduceSub, reduceIte, evRE, retVC, cellV', evR, nfz, nfzs, nfzss, List.contains_nil, List.contains_cons, Bool.or_false, or_true]
    · rw [if_pos (by have : (300 : Int) < out.length := by simpa using f2
                     omega)] at g3
      simp only [f2, EV, Nat.reduceEqDiff, Nat.reduceBEq, Nat.reduceLT, Nat.reduceLeDiff, Nat.reduceAdd, Nat.reduceSub, reduceIte]
      simp only [g3, rt3, rtL, rtC, rtA, List.map_nil, EV, Nat.reduceEqDiff, Nat.reduceBEq, Nat.reduceLT, Nat.reduceLeDiff, Nat.reduceAdd, Nat.reduceSub, reduceIte, evRE, retVC, cellV', evR, nfz, nfzs, nfzss, List.contains_nil, List.contains_cons, Bool.or_false, or_true]
  have hi : i < s.size := by have : (i : Int) < s.size := by simpa using f1
                             omega
  have hiI : (i : Int) < s.size := by omega
  have hile : (i : Int) ≤ s.size := by omega
  have w1 := w64 ((i : Int) + 1) (by omega)
  have hz : (s.extract i s.size).size = s.size - i := by rw [ByteArray.size_extract]; omega
  have ti : ((i : Nat) : Int).toNat = i := rfl
  simp only [f1, i0, hiI, EV, Nat.reduceEqDiff, Nat.reduceBEq, Nat.reduceLT, Nat.reduceLeDiff, Nat.reduceAdd, Nat.reduceSub, reduceIte]
  rcases b1 : (sAt s (i : Int) == 32) with _ | _
  rotate_left
  · have hbl : blank s i = true := by simp [blank, b1]
    rw [rdT_blank hi hbl] at g3
    simp only [b1, w1, EV, Nat.reduceEqDiff, Nat.reduceBEq, Nat.reduceLT, Nat.reduceLeDiff, Nat.reduceAdd, Nat.reduceSub, reduceIte]
    exact ⟨(i + 1, out), ⟨by simp only; omega, by simp only; omega, g3⟩, by simp only; omega, rfl⟩
  rcases b2 : (sAt s (i : Int) == 10) with _ | _
  rotate_left
  · have hbl : blank s i = true := by simp [blank, b2]
    rw [rdT_blank hi hbl] at g3
    simp only [b1, b2, i0, hiI, w1, EV, Nat.reduceEqDiff, Nat.reduceBEq, Nat.reduceLT, Nat.reduceLeDiff, Nat.reduceAdd, Nat.reduceSub, reduceIte]
    exact ⟨(i + 1, out), ⟨by simp only; omega, by simp only; omega, g3⟩, by simp only; omega, rfl⟩
  have hbl : blank s i = false := by simp [blank, b1, b2]
  simp only [b1, b2, i0, hiI, hile, ti, w1, EV, Nat.reduceEqDiff, Nat.reduceBEq, Nat.reduceLT, Nat.reduceLeDiff, Nat.reduceAdd, Nat.reduceSub, reduceIte]
  have hpf := d20 (s.extract i s.size) ⟨#[40, 42]⟩ (by omega) (by decide)
  have e2z : (((⟨#[40, 42]⟩ : ByteArray).size : Nat) : Int) = ((2 : Nat) : Int) := rfl
  have e2n : (⟨#[40, 42]⟩ : ByteArray).size = 2 := rfl
  rw [e2z, e2n, has_open s hi] at hpf
  repeat (refine And.intro (by omega) ?_)
  refine callK_i hpf ?_
  simp only [EV, Nat.reduceEqDiff, Nat.reduceBEq, Nat.reduceLT, Nat.reduceLeDiff, Nat.reduceAdd, Nat.reduceSub, reduceIte]
  rcases o : (decide (i + 1 < s.size) && isOpen s i) with _ | _
  · have hno : ¬ (i + 1 < s.size ∧ isOpen s i = true) := by
      rintro ⟨x, y⟩; rw [decide_eq_true x, y] at o; cases o
    simp only [i0, hile, ti, EV, Nat.reduceEqDiff, Nat.reduceBEq, Nat.reduceLT, Nat.reduceLeDiff, Nat.reduceAdd, Nat.reduceSub, reduceIte]
    repeat (refine And.intro (by omega) ?_)
    refine callK_i (d22 (s.extract i s.size) (by omega) (by omega)) ?_
    have hsh := tokN_shift s hi
    rcases hq : tokN (s.extract i s.size) 0 with t | k
    · rw [hq] at hsh
      simp only at hsh
      have htz := tokN_size hi hq
      have hin := (tokN_in hi hsh).1
      simp only at hin
      rw [rdT_tok hi hbl hno hsh] at g3
      simp only at g3
      have hU : tokU (s.extract i s.size) = (t, (t.text.size : Int), 0) := by unfold tokU; rw [hq]
      have ws := w64 ((i : Int) + (t.text.size : Int)) (by omega)
      have hne0 : ((0 : Int) != 0) = false := by decide
      simp only [hU, htl, ws, Tok.z, EV, Nat.reduceEqDiff, Nat.reduceBEq, Nat.reduceLT, Nat.reduceLeDiff, Nat.reduceAdd, Nat.reduceSub, reduceIte]
      repeat (refine And.intro (by omega) ?_)
      refine ⟨(i + t.text.size, out ++ [{ t with pos := (i : Int) }]), ⟨by simp only; omega, by simp only [List.length_append, List.length_cons, List.length_nil]; omega, g3⟩, by simp only; omega, ?_⟩
      simp only [List.map_append, List.map_cons, List.map_nil, Tok.z]
      first | rfl | skip
    · rw [hq] at hsh
      simp only at hsh
      rw [rdT_bad hi hbl hno hsh] at g3
      have hk := tokN_bad hq
      have hU : tokU (s.extract i s.size) = (tok0, 0, k) := by unfold tokU; rw [hq]
      have hk2 : (k != 0) = true := by simp; omega
      simp only [hU, tok0, Tok.z, hk2, EV, Nat.reduceEqDiff, Nat.reduceBEq, Nat.reduceLT, Nat.reduceLeDiff, Nat.reduceAdd, Nat.reduceSub, reduceIte]
      simp only [g3, rt3, rtL, rtC, rtA, List.map_nil, EV, Nat.reduceEqDiff, Nat.reduceBEq, Nat.reduceLT, Nat.reduceLeDiff, Nat.reduceAdd, Nat.reduceSub, reduceIte, evRE, retVC, cellV', evR, nfz, nfzs, nfzss, List.contains_nil, List.contains_cons, Bool.or_false, or_true]
  · simp only [Bool.and_eq_true, decide_eq_true_eq] at o
    have e0 := sAt_cut s (a := i) (b := s.size) (i := 0) (by omega) (Nat.le_refl _)
    have e1 := sAt_cut s (a := i) (b := s.size) (i := 0 + 1) (by omega) (Nat.le_refl _)
    have ho : isOpen (s.extract i s.size) 0 = true := by
      have := o.2
      unfold isOpen at this ⊢
      rw [e0, e1]; exact this
    have hrs := rem_shift s i (s.size - (i + 0)) 0 0 (Nat.le_refl _)
    rw [Nat.add_zero] at hrs
    simp only [i0, hile, ti, EV, Nat.reduceEqDiff, Nat.reduceBEq, Nat.reduceLT, Nat.reduceLeDiff, Nat.reduceAdd, Nat.reduceSub, reduceIte]
    repeat (refine And.intro (by omega) ?_)
    refine callK_i (d21 (s.extract i s.size) (by omega) (by omega) ho) ?_
    rcases hr : rem (s.extract i s.size) 0 0 with _ | e
    · rw [hr] at hrs
      rw [rdT_none hi hbl o hrs] at g3
      simp only [EV, Nat.reduceEqDiff, Nat.reduceBEq, Nat.reduceLT, Nat.reduceLeDiff, Nat.reduceAdd, Nat.reduceSub, reduceIte]
      simp only [g3, rt3, rtL, rtC, rtA, List.map_nil, EV, Nat.reduceEqDiff, Nat.reduceBEq, Nat.reduceLT, Nat.reduceLeDiff, Nat.reduceAdd, Nat.reduceSub, reduceIte, evRE, retVC, cellV', evR, nfz, nfzs, nfzss, List.contains_nil, List.contains_cons, Bool.or_false, or_true]
    · rw [hr, Option.map_some] at hrs
      rw [rdT_some hi hbl o hrs] at g3
      have he := rem_in s _ _ _ _ (Nat.le_refl _) hrs
      have he2 : ((e : Int) == 0) = false := by simp; omega
      have we := w64 ((i : Int) + (e : Int)) (by omega)
      simp only [he2, we, EV, Nat.reduceEqDiff, Nat.reduceBEq, Nat.reduceLT, Nat.reduceLeDiff, Nat.reduceAdd, Nat.reduceSub, reduceIte]
      exact ⟨(i + e, out), ⟨he.2, by simp only; omega, g3⟩, by simp only; omega, rfl⟩
theorem rtC_B (s : ByteArray) : (rtC (readN s) == 0) = rtB (readN s) := by
  have key : ∀ (k i : Nat) (out : List Tok), s.size - i ≤ k → (rtC (rdT s i out) == 0) = rtB (rdT s i out) := by
    intro k
    induction k with
    | zero =>
      intro i out hk
      rw [rdT_end (by omega)]
      split <;> rfl
    | succ k ih =>
      intro i out hk
      by_cases hi : i < s.size
      · rcases hb : blank s i with _ | _
        · by_cases ho : i + 1 < s.size ∧ isOpen s i = true
          · rcases hr : rem s i 0 with _ | e
            · rw [rdT_none hi hb ho hr]; rfl
            · rw [rdT_some hi hb ho hr]
              have := rem_in s _ _ _ _ (Nat.le_refl _) hr
              exact ih e out (by omega)
          · rcases hq : tokN s i with t | c
            · rw [rdT_tok hi hb ho hq]
              have := (tokN_in hi hq).1
              exact ih _ _ (by omega)
            · rw [rdT_bad hi hb ho hq]
              have := tokN_bad hq
              simp only [rtC, rtB, beq_eq_false_iff_ne]; omega
        · rw [rdT_blank hi hb]; exact ih _ _ (by omega)
      · rw [rdT_end hi]
        split <;> rfl
  unfold readN
  split
  · rfl
  · exact key s.size 0 [] (by omega)
def m5 : MC :=
 (.seq (.reg [Xb 2 (.asg (.nils 30 4)), Xb 3 (.asg (.i 0)), Xb 4 (.asg (.i 0)), Xb 5 (.asg .fb)]) (.seq (.reg [Xm 10 0, Xb 11 (.call (.fn 11) false [.lend (.t 10)]), Xa 9 11, Xq 12 (.ext 9 0), Xq 13 (.ext 9 1), Xq 14 (.ext 9 2), Xa 6 12, Xa 7 13, Xa 8 14]) (.seq (.reg [Xm 15 6, Xm 16 7, Xm 17 8, Xm 18 7, Xq 19 (.bin false .eql (.t 18) (.i 0)), Xa 2 15, Xa 3 16, Xa 4 17, Xa 5 19]) .ret)))
theorem d5 (s : ByteArray) (hs : (s.size : Int) ≤ 9223372036854775807) : Does Go.Proofs.Tryd.prog 5 [.v (.string s)] false (.tup (rtV (readN s))) [.dead] := by
  have dr := d11 s hs
  have hb := rtC_B s
  refine does_intro (mc := m5) (N := 20) (rs := [2, 3, 4, 5]) (fx := []) 1 rfl (by decide +kernel) ?_
  generalize readN s = R at dr hb ⊢
  simp only [m5, EV, Nat.reduceEqDiff, Nat.reduceBEq, Nat.reduceLT, Nat.reduceLeDiff, Nat.reduceAdd, Nat.reduceSub, reduceIte]
  refine callK_i dr ?_
  simp only [rt3, EV, Nat.reduceEqDiff, Nat.reduceBEq, Nat.reduceLT, Nat.reduceLeDiff, Nat.reduceAdd, Nat.reduceSub, reduceIte]
  simp only [hb, rtV, Tok.nfz, EV, Nat.reduceEqDiff, Nat.reduceBEq, Nat.reduceLT, Nat.reduceLeDiff, Nat.reduceAdd, Nat.reduceSub, reduceIte, evRE, retVC, cellV', evR, nfz, nfzs, nfzss, List.contains_nil, List.contains_cons, Bool.or_false, or_true]
end Go.AM
namespace Go.AM
set_option linter.unusedVariables false
set_option linter.unusedSimpArgs false
def m12 : MC :=
 (.seq (.reg [Xb 2 (.box 30 (.t 0)), Xb 3 (.box 30 (.t 1)), Xb 4 (.asg .fb)]) (.seq (.seq (.reg [Xf 5 0 2, Xl 6 1 5, Xf 7 0 3, Xl 8 1 7, Xq 9 (.bin false .neq (.t 6) (.t 8))]) (.cond (.t 9) (.seq (.reg [Xb 4 (.asg .fb)]) .ret) .skip)) (.seq (.seq (.reg [Xf 10 1 2, Xl 11 1 10, Xf 12 1 3, Xl 13 1 12, Xq 14 (.bin false .neq (.t 11) (.t 13))]) (.cond (.t 14) (.seq (.reg [Xb 4 (.asg .fb)]) .ret) .skip))
 (.seq (.seq (.reg [Xf 15 2 2, Xl 16 1 15, Xf 17 2 3, Xl 18 1 17, Xq 19 (.bin false .neq (.t 16) (.t 18))]) (.cond (.t 19) (.seq (.reg [Xb 4 (.asg .fb)]) .ret) .skip)) (.seq (.seq (.reg [Xf 20 3 2, Xl 21 1 20, Xf 22 3 3, Xl 23 1 22, Xq 24 (.bin false .neq (.t 21) (.t 23))]) (.cond (.t 24) (.seq (.reg [Xb 4 (.asg .fb)]) .ret) .skip)) (.seq (.reg [Xb 4 (.asg .tb)]) .ret))))))
theorem d12 (f : Tok) : Does Go.Proofs.Tryd.prog 12 [.agg f.z, .agg f.z] false (.v (.bool true)) [.dead, .dead] := by
  refine does_intro (mc := m12) (N := 25) (rs := [4]) (fx := []) 2 rfl (by decide +kernel) ?_
  simp only [m12, Tok.z, EV, Nat.reduceEqDiff, Nat.reduceBEq, Nat.reduceLT, Nat.reduceLeDiff, Nat.reduceAdd, Nat.reduceSub, reduceIte]
  simp only [EV, Nat.reduceEqDiff, Nat.reduceBEq, Nat.reduceLT, Nat.reduceLeDiff, Nat.reduceAdd, Nat.reduceSub, reduceIte, evRE, retVC, cellV', evR, nfz, nfzs, nfzss, List.contains_nil, List.contains_cons, Bool.or_false, or_true]
def m6 : MC :=
 (.seq (.reg [Xb 4 (.asg .fb)]) (.seq (.seq (.reg [Xm 6 0, Xn 7 6, Xm 8 1, Xn 9 8, Xq 10 (.bin false .neq (.t 7) (.t 9))]) (.cond (.t 10) (.seq (.reg [Xb 4 (.asg .fb)]) .ret) .skip)) (.seq (.seq (.reg [Xb 5 (.asg (.i 0))]) (.block 0 (.loop [0, 1, 5] (.seq (.seq (.reg [Xm 11 5, Xm 12 0, Xn 13 12, Xq 14 (.bin false .lss (.t 11) (.t 13))]) (.cond (.t 14) .skip (.exit 0))) (.seq (.block 1 (.seq (.dreg
 [Xm 17 0, Xm 18 5, Xi 19 4 17 18, XL 20 4 19, Xm 21 1, Xm 22 5, Xi 23 4 21 22, XL 24 4 23, Xb 25 (.call (.fn 12) false [.lend (.t 20), .lend (.t 24)]), Xq 26 (.un .not (.t 25))]) (.cond (.t 26) (.seq (.reg [Xb 4 (.asg .fb)]) .ret) .skip))) (.reg [Xm 15 5, Xq 16 (.bin false .add (.t 15) (.i 1)), Xa 5 16])))))) (.seq (.reg [Xb 4 (.asg .tb)]) .ret))))
theorem d6 (l : List Tok) (hl : l.length < 9223372036854775807) : Does Go.Proofs.Tryd.prog 6 [.fsl 4 (l.map Tok.z), .fsl 4 (l.map Tok.z)] false (.v (.bool true)) [.dead, .dead] := by
  refine does_intro (mc := m6) (N := 27) (rs := [4]) (fx := []) 2 rfl (by decide +kernel) ?_
  simp only [m6, EV, Nat.reduceEqDiff, Nat.reduceBEq, Nat.reduceLT, Nat.reduceLeDiff, Nat.reduceAdd, Nat.reduceSub, reduceIte]
  refine awp_loop (fun i : Nat => i ≤ l.length) (fun i => stl [(0, .fsl 4 (l.map Tok.z)), (1, .fsl 4 (l.map Tok.z)), (5, .v (.int .i64 (i : Int)))]) (fun i => l.length - i) 0 (Nat.zero_le _) ?_ ?_
  · simp only [EV, Nat.reduceEqDiff, Nat.reduceBEq, Nat.reduceLT, Nat.reduceLeDiff, Nat.reduceAdd, Nat.reduceSub, reduceIte]
    rfl
  · intro i hi
    simp only [EV, Nat.reduceEqDiff, Nat.reduceBEq, Nat.reduceLT, Nat.reduceLeDiff, Nat.reduceAdd, Nat.reduceSub, reduceIte]
    refine cK_cut (fun h => ?_) (fun h => ?_)
    · have h1 : i < l.length := by simpa using h
      have h2 : (i : Int) < (l.length : Int) := by omega
      simp only [TokE, nth_map h1, h2, EV, Nat.reduceEqDiff, Nat.reduceBEq, Nat.reduceLT, Nat.reduceLeDiff, Nat.reduceAdd, Nat.reduceSub, reduceIte]
      refine callD_i (d12 l[i]) rfl ?_
      simp only [EV, Nat.reduceEqDiff, Nat.reduceBEq, Nat.reduceLT, Nat.reduceLeDiff, Nat.reduceAdd, Nat.reduceSub, reduceIte]
      refine ⟨i + 1, by omega, by omega, ?_⟩
      rw [w64 _ (by omega)]
      rfl
    · have h1 : i = l.length := by have : ¬ (i : Int) < l.length := by simpa using h
                                   omega
      simp only [EV, Nat.reduceEqDiff, Nat.reduceBEq, Nat.reduceLT, Nat.reduceLeDiff, Nat.reduceAdd, Nat.reduceSub, reduceIte]
      simp only [EV, Nat.reduceEqDiff, Nat.reduceBEq, Nat.reduceLT, Nat.reduceLeDiff, Nat.reduceAdd, Nat.reduceSub, reduceIte, evRE, retVC, cellV', evR, nfz, nfzs, nfzss, List.contains_nil, List.contains_cons, Bool.or_false, or_true]
def mkTok (k : Int) : Tok := ⟨k, mt (k + 1), k + 2, k + 3⟩
def mkTokS : List Tok → Int → List Tok
  | [], _ => []
  | f :: fs, k => mkTok k :: mkTokS fs (k + 4)
theorem mkTokS_len : ∀ (l : List Tok) (k : Int), (mkTokS l k).length = l.length
  | [], _ => rfl
  | f :: fs, k => by simp [mkTokS, mkTokS_len fs]
def m7 : MC :=
 (.seq (.reg [Xb 4 (.asg (.i 0))]) (.seq (.seq (.reg [Xb 5 (.asg (.i 0))]) (.block 0 (.loop [0, 1, 5] (.seq (.seq (.reg [Xm 6 5, Xm 7 0, Xn 8 7, Xq 9 (.bin false .lss (.t 6) (.t 8))]) (.cond (.t 9) .skip (.exit 0))) (.seq (.block 1 (.seq (.reg [Xm 12 0, Xm 13 5, Xm 14 1, Xi 15 4 12 13, Xf 16 0 15, Xz (.store 1 (.t 16) (.t 14))]) (.seq (.reg [Xm 17 1, Xq 18 (.bin false .add (.t 17) (.i 1)), Xa 1
 18]) (.seq (.reg [Xm 19 0, Xm 20 5, Xm 21 1, Xb 22 (.call (.fn 13) false [.lend (.t 21)]), Xi 23 4 19 20, Xf 24 1 23, Xz (.store 1 (.t 24) (.t 22))]) (.seq (.reg [Xm 25 1, Xq 26 (.bin false .add (.t 25) (.i 1)), Xa 1 26]) (.seq (.reg [Xm 27 0, Xm 28 5, Xm 29 1, Xi 30 4 27 28, Xf 31 2 30, Xz (.store 1 (.t 31) (.t 29))]) (.seq (.reg [Xm 32 1, Xq 33 (.bin false .add (.t 32) (.i 1)), Xa 1 33]) (.seq
 (.reg [Xm 34 0, Xm 35 5, Xm 36 1, Xi 37 4 34 35, Xf 38 3 37, Xz (.store 1 (.t 38) (.t 36))]) (.reg [Xm 39 1, Xq 40 (.bin false .add (.t 39) (.i 1)), Xa 1 40]))))))))) (.reg [Xm 10 5, Xq 11 (.bin false .add (.t 10) (.i 1)), Xa 5 11])))))) (.seq (.reg [Xm 41 1, Xa 4 41]) .ret)))
theorem d7 (l : List Tok) (k : Int) (h0 : 0 ≤ k) (h1 : k + 4 * l.length ≤ 4611686018427387904) :
    Does Go.Proofs.Tryd.prog 7 [.usl 30 4 (l.map Tok.z), .v (.int .i64 k)] false (.v (.int .i64 (k + 4 * l.length))) [.usl 30 4 ((mkTokS l k).map Tok.z), .dead] := by
  refine does_intro (mc := m7) (N := 42) (rs := [4]) (fx := [0]) 2 rfl (by decide +kernel) ?_
  simp only [m7, EV, Nat.reduceEqDiff, Nat.reduceBEq, Nat.reduceLT, Nat.reduceLeDiff, Nat.reduceAdd, Nat.reduceSub, reduceIte]
  refine awp_loop (fun p : List Tok × List Tok × Int => p.1 ++ mkTokS p.2.1 p.2.2 = mkTokS l k ∧ p.2.2 + 4 * p.2.1.length = k + 4 * l.length ∧ 0 ≤ p.2.2 ∧ p.1.length + p.2.1.length = l.length)
    (fun p => stl [(0, .usl 30 4 ((p.1 ++ p.2.1).map Tok.z)), (1, .v (.int .i64 p.2.2)), (5, .v (.int .i64 (p.1.length : Int)))]) (fun p => p.2.1.length) ([], l, k) ⟨rfl, rfl, h0, by simp⟩ ?_ ?_
  · simp only [EV, Nat.reduceEqDiff, Nat.reduceBEq, Nat.reduceLT, Nat.reduceLeDiff, Nat.reduceAdd, Nat.reduceSub, reduceIte]
    rfl
  · rintro ⟨pre, post, n⟩ ⟨p0, p1, p2, p3⟩
    cases post with
    | nil =>
      simp only [EV, Nat.reduceEqDiff, Nat.reduceBEq, Nat.reduceLT, Nat.reduceLeDiff, Nat.reduceAdd, Nat.reduceSub, reduceIte]
      refine cK_cut (fun h => ?_) (fun h => ?_)
      · simp at h
      · simp only [EV, Nat.reduceEqDiff, Nat.reduceBEq, Nat.reduceLT, Nat.reduceLeDiff, Nat.reduceAdd, Nat.reduceSub, reduceIte]
        simp only [List.append_nil, mkTokS, List.length_nil] at p0 p1
        have e : n = k + 4 * l.length := by simp at p1; omega
        simp only [p0, ← e, EV, Nat.reduceEqDiff, Nat.reduceBEq, Nat.reduceLT, Nat.reduceLeDiff, Nat.reduceAdd, Nat.reduceSub, reduceIte, evRE, retVC, cellV', evR, nfz, nfzs, nfzss, List.contains_nil, List.contains_cons, Bool.or_false, or_true]
    | cons f post =>
      simp only [EV, Nat.reduceEqDiff, Nat.reduceBEq, Nat.reduceLT, Nat.reduceLeDiff, Nat.reduceAdd, Nat.reduceSub, reduceIte]
      refine cK_cut (fun h => ?_) (fun h => ?_)
      rotate_left
      · simp at h; omega
      simp only at p0 p1 p2 p3
      simp only [List.length_cons] at p1 p3
      have h3 : (pre.length : Int) < ((pre ++ f :: post).length : Int) := by simp; omega
      have h4 : pre.length < ((pre ++ f :: post).map Tok.z).length := by simp
      have e1 : nth ((pre ++ f :: post).map Tok.z) pre.length = f.z := nth_mid
      generalize hR : (pre ++ f :: post).map Tok.z = R at h4 e1 ⊢
      have hRl : R.length = l.length := by rw [← hR]; simp; omega
      have h5 : (pre.length : Int) < (R.length : Int) := by omega
      have w0 := w64 ((pre.length : Int) + 1) (by omega)
      have w1 := w64 (n + 1) (by omega)
      have w2 := w64 (n + 1 + 1) (by omega)
      have w3 := w64 (n + 1 + 1 + 1) (by omega)
      have w4 := w64 (n + 1 + 1 + 1 + 1) (by omega)
      simp only [h4, h5, e1, nth_set h4, List.getElem?_set_self h4, modify_set, Tok.z, w1, w2, w3, w4, w0, EV, Nat.reduceEqDiff, Nat.reduceBEq, Nat.reduceLT, Nat.reduceLeDiff, Nat.reduceAdd, Nat.reduceSub, reduceIte]
      refine callK_i (d13 (n + 1) (by omega) (by omega)) ?_
      simp only [h4, h5, e1, nth_set h4, List.getElem?_set_self h4, modify_set, Tok.z, w1, w2, w3, w4, w0, EV, Nat.reduceEqDiff, Nat.reduceBEq, Nat.reduceLT, Nat.reduceLeDiff, Nat.reduceAdd, Nat.reduceSub, reduceIte]
      refine ⟨(pre ++ [mkTok n], post, n + 4), ⟨?_, ?_, ?_, ?_⟩, ?_, ?_⟩
      · rw [← p0]; simp [mkTokS]
      · simp only; omega
      · simp only; omega
      · simp only [List.length_append, List.length_cons, List.length_nil]; omega
      · simp only; omega
      · have e2 := set_mid (g := Tok.z) (pre := pre) (post := post) (t := f) (mkTok n)
        rw [hR] at e2
        simp only [Tok.z, mkTok] at e2
        simp only [← e2, mkTok, List.length_append, List.length_cons, List.length_nil, Int.add_assoc]
        rfl
def m8 : MC :=
 (.seq (.reg [Xb 4 (.asg (.i 0))]) (.seq (.seq (.reg [Xb 5 (.asg (.i 0))]) (.block 0 (.loop [0, 1, 5] (.seq (.seq (.reg [Xm 6 5, Xm 7 0, Xn 8 7, Xq 9 (.bin false .lss (.t 6) (.t 8))]) (.cond (.t 9) .skip (.exit 0))) (.seq (.block 1 (.seq (.seq (.reg [Xm 12 0, Xm 13 5, Xi 14 4 12 13, Xf 15 0 14, Xl 16 1 15, Xm 17 1, Xq 18 (.bin false .neq (.t 16) (.t 17))]) (.cond (.t 18) (.seq (.reg [Xb 4 (.asg (.i
 (-1)))]) .ret) .skip)) (.seq (.reg [Xm 19 1, Xq 20 (.bin false .add (.t 19) (.i 1)), Xa 1 20]) (.seq (.seq (.dreg [Xm 21 0, Xm 22 5, Xi 23 4 21 22, Xf 24 1 23, Xl 25 1 24, Xm 26 1, Xb 27 (.call (.fn 13) false [.lend (.t 26)]), Xq 28 (.bin false .neq (.t 25) (.t 27))]) (.cond (.t 28) (.seq (.reg [Xb 4 (.asg (.i (-1)))]) .ret) .skip)) (.seq (.reg [Xm 29 1, Xq 30 (.bin false .add (.t 29) (.i 1)), Xa
 1 30]) (.seq (.seq (.reg [Xm 31 0, Xm 32 5, Xi 33 4 31 32, Xf 34 2 33, Xl 35 1 34, Xm 36 1, Xq 37 (.bin false .neq (.t 35) (.t 36))]) (.cond (.t 37) (.seq (.reg [Xb 4 (.asg (.i (-1)))]) .ret) .skip)) (.seq (.reg [Xm 38 1, Xq 39 (.bin false .add (.t 38) (.i 1)), Xa 1 39]) (.seq (.seq (.reg [Xm 40 0, Xm 41 5, Xi 42 4 40 41, Xf 43 3 42, Xl 44 1 43, Xm 45 1, Xq 46 (.bin false .neq (.t 44) (.t 45))])
 (.cond (.t 46) (.seq (.reg [Xb 4 (.asg (.i (-1)))]) .ret) .skip)) (.reg [Xm 47 1, Xq 48 (.bin false .add (.t 47) (.i 1)), Xa 1 48]))))))))) (.reg [Xm 10 5, Xq 11 (.bin false .add (.t 10) (.i 1)), Xa 5 11])))))) (.seq (.reg [Xm 49 1, Xa 4 49]) .ret)))
theorem d8 (l : List Tok) (k : Int) (h0 : 0 ≤ k) (h1 : k + 4 * l.length ≤ 4611686018427387904) :
    Does Go.Proofs.Tryd.prog 8 [.fsl 4 ((mkTokS l k).map Tok.z), .v (.int .i64 k)] false (.v (.int .i64 (k + 4 * l.length))) [.dead, .dead] := by
  have hl : (mkTokS l k).length = l.length := mkTokS_len l k
  generalize hM0 : mkTokS l k = M at hl ⊢
  refine does_intro (mc := m8) (N := 50) (rs := [4]) (fx := []) 2 rfl (by decide +kernel) ?_
  simp only [m8, EV, Nat.reduceEqDiff, Nat.reduceBEq, Nat.reduceLT, Nat.reduceLeDiff, Nat.reduceAdd, Nat.reduceSub, reduceIte]
  refine awp_loop (fun p : List Tok × List Tok × Int => M = p.1 ++ mkTokS p.2.1 p.2.2 ∧ p.2.2 + 4 * p.2.1.length = k + 4 * l.length ∧ 0 ≤ p.2.2 ∧ p.1.length + p.2.1.length = l.length)
    (fun p => stl [(0, .fsl 4 (M.map Tok.z)), (1, .v (.int .i64 p.2.2)), (5, .v (.int .i64 (p.1.length : Int)))]) (fun p => p.2.1.length) ([], l, k) ⟨by rw [← hM0]; rfl, rfl, h0, by simp⟩ ?_ ?_
  · simp only [EV, Nat.reduceEqDiff, Nat.reduceBEq, Nat.reduceLT, Nat.reduceLeDiff, Nat.reduceAdd, Nat.reduceSub, reduceIte]
    rfl
  · rintro ⟨pre, post, n⟩ ⟨p0, p1, p2, p3⟩
    simp only at p0 p1 p2 p3
    cases post with
    | nil =>
      simp only [EV, Nat.reduceEqDiff, Nat.reduceBEq, Nat.reduceLT, Nat.reduceLeDiff, Nat.reduceAdd, Nat.reduceSub, reduceIte]
      refine cK_cut (fun h => ?_) (fun h => ?_)
      · simp at h p3; omega
      · simp only [EV, Nat.reduceEqDiff, Nat.reduceBEq, Nat.reduceLT, Nat.reduceLeDiff, Nat.reduceAdd, Nat.reduceSub, reduceIte]
        have e : n = k + 4 * l.length := by simp at p1; omega
        simp only [← e, EV, Nat.reduceEqDiff, Nat.reduceBEq, Nat.reduceLT, Nat.reduceLeDiff, Nat.reduceAdd, Nat.reduceSub, reduceIte, evRE, retVC, cellV', evR, nfz, nfzs, nfzss, List.contains_nil, List.contains_cons, Bool.or_false, or_true]
    | cons f post =>
      simp only [EV, Nat.reduceEqDiff, Nat.reduceBEq, Nat.reduceLT, Nat.reduceLeDiff, Nat.reduceAdd, Nat.reduceSub, reduceIte]
      simp only [List.length_cons] at p1 p3
      refine cK_cut (fun h => ?_) (fun h => ?_)
      rotate_left
      · simp at h; omega
      have h5 : (pre.length : Int) < (M.length : Int) := by omega
      have e1 : nth (M.map Tok.z) pre.length = Tok.z (mkTok n) := by rw [p0]; exact nth_mid
      have w0 := w64 ((pre.length : Int) + 1) (by omega)
      have w1 := w64 (n + 1) (by omega)
      have w2 := w64 (n + 1 + 1) (by omega)
      have w3 := w64 (n + 2 + 1) (by omega)
      have w4 := w64 (n + 3 + 1) (by omega)
      have q2 : n + 1 + 1 = n + 2 := by omega
      have q3 : n + 2 + 1 = n + 3 := by omega
      have q4 : n + 3 + 1 = n + 4 := by omega
      rw [q2] at w2
      rw [q3] at w3
      rw [q4] at w4
      simp only [h5, e1, Tok.z, mkTok, w1, w2, w3, w4, q2, q3, q4, w0, EV, Nat.reduceEqDiff, Nat.reduceBEq, Nat.reduceLT, Nat.reduceLeDiff, Nat.reduceAdd, Nat.reduceSub, reduceIte]
      refine callD_i (d13 (n + 1) (by omega) (by omega)) rfl ?_
      simp only [h5, e1, Tok.z, mkTok, w1, w2, w3, w4, q2, q3, q4, w0, EV, Nat.reduceEqDiff, Nat.reduceBEq, Nat.reduceLT, Nat.reduceLeDiff, Nat.reduceAdd, Nat.reduceSub, reduceIte]
      refine ⟨(pre ++ [mkTok n], post, n + 4), ⟨?_, ?_, ?_, ?_⟩, ?_, ?_⟩
      · rw [p0]; simp [mkTokS]
      · simp only; omega
      · simp only; omega
      · simp only [List.length_append, List.length_cons, List.length_nil]; omega
      · simp only; omega
      · simp only [List.length_append, List.length_cons, List.length_nil]
        rfl
def m3 : MC :=
 (.seq (.reg [Xb 2 (.asg .fb)]) (.keep [0] (.seq (.seq (.reg [Xm 17 0, Xq 18 (.len true (.t 17)), Xq 19 (.bin false .gtr (.t 18) (.i 1048576))]) (.keep [0, 19] (.cond (.t 19) (.seq (.reg [Xb 2 (.asg .tb)]) .ret) .skip))) (.keep [0] (.seq (.reg [Xm 21 0, Xb 22 (.call (.fn 4) false [.lend (.t 21)]), Xa 20 22, Xq 23 (.ext 20 0), Xq 24 (.ext 20 1), Xq 25 (.ext 20 2), Xq 26 (.ext 20 3), Xa 3 23, Xa 4
 24, Xa 5 25, Xa 6 26]) (.keep [0, 3, 4, 5, 6, 20, 22, 23] (.seq (.reg [Xm 28 0, Xb 29 (.call (.fn 5) false [.lend (.t 28)]), Xa 27 29, Xq 30 (.ext 27 0), Xq 31 (.ext 27 1), Xq 32 (.ext 27 2), Xq 33 (.ext 27 3), Xa 7 30, Xa 8 31, Xa 9 32, Xa 10 33]) (.keep [0, 3, 4, 5, 6, 7, 8, 9, 10, 20, 22, 23, 27, 29, 30] (.seq (.seq (.reg [Xm 34 7, Xm 35 3, Xb 36 (.call (.fn 6) false [.lend (.t 34), .lend (.t
 35)]), Xq 37 (.un .not (.t 36)), Xm 38 37, Xu 39 38 (.mov (.t 8)), Xu 40 38 (.mov (.t 4)), Xu 41 38 (.bin false .neq (.t 39) (.t 40)), Xq 42 (.pick (.t 38) .tb (.t 41)), Xm 43 42, Xu 44 43 (.mov (.t 9)), Xu 45 43 (.mov (.t 5)), Xu 46 43 (.bin false .neq (.t 44) (.t 45)), Xq 47 (.pick (.t 43) .tb (.t 46)), Xm 48 47, Xu 49 48 (.mov (.t 10)), Xu 50 48 (.mov (.t 6)), Xu 51 48 (.bin true .neq (.t 49)
 (.t 50)), Xq 52 (.pick (.t 48) .tb (.t 51))]) (.keep [0, 3, 4, 5, 6, 7, 20, 22, 23, 27, 29, 30, 52] (.cond (.t 52) (.seq (.reg [Xb 2 (.asg .fb)]) .ret) .skip))) (.keep [0, 3, 4, 5, 6, 7, 20, 22, 23, 27, 29, 30] (.seq (.reg [Xb 11 (.asg (.i 1))]) (.keep [0, 3, 4, 5, 6, 7, 11, 20, 22, 23, 27, 29, 30] (.seq (.reg [Xm 53 7, Xm 54 11, Xb 55 (.call (.fn 7) false [.io (.t 53), .lend (.t 54)]), Xa 11 55])
 (.keep [0, 3, 4, 5, 6, 7, 11, 20, 22, 23, 27, 29, 30] (.seq (.reg [Xb 12 (.asg (.i 1))]) (.keep [0, 3, 4, 5, 6, 7, 11, 12, 20, 22, 23, 27, 29, 30] (.seq (.reg [Xm 56 7, Xm 57 12, Xb 58 (.call (.fn 8) false [.lend (.t 56), .lend (.t 57)]), Xa 12 58]) (.keep [0, 3, 4, 5, 6, 7, 11, 12, 20, 22, 23, 27, 29, 30] (.seq (.seq (.reg [Xm 59 12, Xq 60 (.bin false .lss (.t 59) (.i 0))]) (.keep [0, 3, 4, 5, 6,
 7, 11, 12, 20, 22, 23, 27, 29, 30, 60] (.cond (.t 60) (.seq (.reg [Xb 2 (.asg .fb)]) .ret) .skip))) (.keep [0, 3, 4, 5, 6, 7, 11, 12, 20, 22, 23, 27, 29, 30] (.seq (.seq (.reg [Xm 61 12, Xm 62 11, Xq 63 (.bin false .neq (.t 61) (.t 62))]) (.keep [0, 3, 4, 5, 6, 7, 11, 20, 22, 23, 27, 29, 30, 63] (.cond (.t 63) (.seq (.reg [Xb 2 (.asg .fb)]) .ret) .skip))) (.keep [0, 3, 4, 5, 6, 7, 11, 20, 22, 23,
 27, 29, 30] (.seq (.reg [Xm 65 0, Xb 66 (.call (.fn 5) false [.lend (.t 65)]), Xa 64 66, Xq 67 (.ext 64 0), Xq 68 (.ext 64 1), Xq 69 (.ext 64 2), Xq 70 (.ext 64 3), Xa 13 67, Xa 14 68, Xa 15 69, Xa 16 70]) (.keep [3, 4, 5, 6, 7, 11, 13, 14, 15, 16, 20, 22, 23, 27, 29, 30, 64, 66, 67] (.seq (.seq (.reg [Xm 71 13, Xm 72 3, Xb 73 (.call (.fn 6) false [.lend (.t 71), .lend (.t 72)]), Xq 74 (.un .not
 (.t 73)), Xm 75 74, Xu 76 75 (.mov (.t 14)), Xu 77 75 (.mov (.t 4)), Xu 78 75 (.bin false .neq (.t 76) (.t 77)), Xq 79 (.pick (.t 75) .tb (.t 78)), Xm 80 79, Xu 81 80 (.mov (.t 15)), Xu 82 80 (.mov (.t 5)), Xu 83 80 (.bin false .neq (.t 81) (.t 82)), Xq 84 (.pick (.t 80) .tb (.t 83)), Xm 85 84, Xu 86 85 (.mov (.t 16)), Xu 87 85 (.mov (.t 6)), Xu 88 85 (.bin true .neq (.t 86) (.t 87)), Xq 89 (.pick
 (.t 85) .tb (.t 88))]) (.keep [7, 11, 27, 29, 30, 89] (.cond (.t 89) (.seq (.reg [Xb 2 (.asg .fb)]) .ret) .skip))) (.keep [7, 11, 27, 29, 30] (.seq (.reg [Xb 12 (.asg (.i 1))]) (.keep [7, 11, 12, 27, 29, 30] (.seq (.reg [Xm 90 7, Xm 91 12, Xb 92 (.call (.fn 8) false [.lend (.t 90), .lend (.t 91)]), Xa 12 92]) (.keep [11, 12] (.seq (.seq (.reg [Xm 93 12, Xq 94 (.bin false .lss (.t 93) (.i 0))])
 (.keep [11, 12, 94] (.cond (.t 94) (.seq (.reg [Xb 2 (.asg .fb)]) .ret) .skip))) (.keep [11, 12] (.seq (.seq (.reg [Xm 95 12, Xm 96 11, Xq 97 (.bin false .neq (.t 95) (.t 96))]) (.keep [97] (.cond (.t 97) (.seq (.reg [Xb 2 (.asg .fb)]) .ret) .skip))) (.keep [] (.seq (.reg [Xb 2 (.asg .tb)]) .ret)))))))))))))))))))))))))))))))))))
theorem rtL_few (s : ByteArray) : (rtL (readN s)).length ≤ 300 := by
  have key : ∀ (k i : Nat) (out : List Tok), s.size - i ≤ k → (rtL (rdT s i out)).length ≤ 300 := by
    intro k
    induction k with
    | zero =>
      intro i out hk
      rw [rdT_end (by omega)]
      split
      · simp [rtL]
      · simp only [rtL]; omega
    | succ k ih =>
      intro i out hk
      by_cases hi : i < s.size
      · rcases hb : blank s i with _ | _
        · by_cases ho : i + 1 < s.size ∧ isOpen s i = true
          · rcases hr : rem s i 0 with _ | e
            · rw [rdT_none hi hb ho hr]; simp [rtL]
            · rw [rdT_some hi hb ho hr]
              have := rem_in s _ _ _ _ (Nat.le_refl _) hr
              exact ih e out (by omega)
          · rcases hq : tokN s i with t | c
            · rw [rdT_tok hi hb ho hq]
              have := (tokN_in hi hq).1
              exact ih _ _ (by omega)
            · rw [rdT_bad hi hb ho hq]; simp [rtL]
        · rw [rdT_blank hi hb]; exact ih _ _ (by omega)
      · rw [rdT_end hi]
        split
        · simp [rtL]
        · simp only [rtL]; omega
  unfold readN
  split
  · simp [rtL]
  · exact key s.size 0 [] (by omega)
set_option maxHeartbeats 1000000 in
set_option maxRecDepth 100000 in
theorem d3 (b : ByteArray) (hb : (b.size : Int) ≤ 9223372036854775807) : Does Go.Proofs.Tryd.prog 3 [.v (.string b)] false (.v (.bool true)) [.dead] := by
  have ds := d4 b hb
  have di := d5 b hb
  have bs : ∀ b : Bool, (b != b) = false := fun b => by cases b <;> rfl
  have is : ∀ b : Int, (b != b) = false := fun b => by simp
  have hl := rtL_few b
  simp only [rtV] at ds di
  generalize rtL (readN b) = R at ds di hl
  generalize rtC (readN b) = C at ds di
  generalize rtA (readN b) = E at ds di
  generalize rtB (readN b) = ok at ds di
  have dq := d6 R (by omega)
  have dm := d7 R 1 (by omega) (by omega)
  have dh := d8 R 1 (by omega) (by omega)
  have hk2 : decide (1 + 4 * (R.length : Int) < 0) = false := by simp; omega
  refine does_intro (mc := m3) (N := 98) (rs := [2]) (fx := []) 1 rfl (by decide +kernel) ?_
  simp only [m3, EV, Nat.reduceEqDiff, Nat.reduceBEq, Nat.reduceLT, Nat.reduceLeDiff, Nat.reduceAdd, Nat.reduceSub, reduceIte]
  refine cK_cut (fun h => ?_) (fun h => ?_)
  · simp only [EV, Nat.reduceEqDiff, Nat.reduceBEq, Nat.reduceLT, Nat.reduceLeDiff, Nat.reduceAdd, Nat.reduceSub, reduceIte]
    simp only [EV, Nat.reduceEqDiff, Nat.reduceBEq, Nat.reduceLT, Nat.reduceLeDiff, Nat.reduceAdd, Nat.reduceSub, reduceIte, evRE, retVC, cellV', evR, nfz, nfzs, nfzss, List.contains_nil, List.contains_cons, Bool.or_false, or_true]
  clear h
  simp only [EV, Nat.reduceEqDiff, Nat.reduceBEq, Nat.reduceLT, Nat.reduceLeDiff, Nat.reduceAdd, Nat.reduceSub, reduceIte]
  refine callK_i ds ?_
  simp only [Tok.frz, EV, Nat.reduceEqDiff, Nat.reduceBEq, Nat.reduceLT, Nat.reduceLeDiff, Nat.reduceAdd, Nat.reduceSub, reduceIte]
  refine callK_i di ?_
  simp only [Tok.frz, EV, Nat.reduceEqDiff, Nat.reduceBEq, Nat.reduceLT, Nat.reduceLeDiff, Nat.reduceAdd, Nat.reduceSub, reduceIte]
  refine callK_i dq ?_
  simp only [Tok.frz, bs, is, EV, Nat.reduceEqDiff, Nat.reduceBEq, Nat.reduceLT, Nat.reduceLeDiff, Nat.reduceAdd, Nat.reduceSub, reduceIte]
  refine callK2_i dm rfl (by simp [shapeOf, mkTokS_len]) ?_
  simp only [Tok.frz, EV, Nat.reduceEqDiff, Nat.reduceBEq, Nat.reduceLT, Nat.reduceLeDiff, Nat.reduceAdd, Nat.reduceSub, reduceIte]
  refine callK_i dh ?_
  simp only [Tok.frz, hk2, bs, is, EV, Nat.reduceEqDiff, Nat.reduceBEq, Nat.reduceLT, Nat.reduceLeDiff, Nat.reduceAdd, Nat.reduceSub, reduceIte]
  refine callK_i di ?_
  simp only [Tok.frz, EV, Nat.reduceEqDiff, Nat.reduceBEq, Nat.reduceLT, Nat.reduceLeDiff, Nat.reduceAdd, Nat.reduceSub, reduceIte]
  refine callK_i dq ?_
  simp only [Tok.frz, bs, is, EV, Nat.reduceEqDiff, Nat.reduceBEq, Nat.reduceLT, Nat.reduceLeDiff, Nat.reduceAdd, Nat.reduceSub, reduceIte]
  refine callK_i dh ?_
  simp only [Tok.frz, hk2, bs, is, EV, Nat.reduceEqDiff, Nat.reduceBEq, Nat.reduceLT, Nat.reduceLeDiff, Nat.reduceAdd, Nat.reduceSub, reduceIte]
  simp only [EV, Nat.reduceEqDiff, Nat.reduceBEq, Nat.reduceLT, Nat.reduceLeDiff, Nat.reduceAdd, Nat.reduceSub, reduceIte, evRE, retVC, cellV', evR, nfz, nfzs, nfzss, List.contains_nil, List.contains_cons, Bool.or_false, or_true]
end Go.AM
