/- Contracts of functions of the given program, for the law FnExactGoodSources: what they return and what they write, under the bounds that each theorem states. -/
import Derived.Test.YtipglfigjpiolaaGreatDoorG1
import Derived.Defers
import Derived.Recover
import Derived.Tactics
import Derived.Tactics2
import Derived.Laws.Pointers
import Derived.Shelf.Lay
import Derived.Shelf.Sort.Plain
import Derived.Ground.Names2Prog
import Derived.Shelf.Slices.CompactI
import Derived.Shelf.Slices.In.SortNone
namespace Go.AM
set_option linter.unusedVariables false
set_option linter.unusedSimpArgs false
def eqSv (v x : ByteArray) : Bool := v.toList == x.toList
def m63 : MC :=
 (.seq (.reg [Xb 4 (.asg (.i 0))]) (.seq (.seq (.reg [Xm 6 0, Xn 7 6, Xq 8 (.mov (.i 0))]) (.block 0 (.loop [0, 1, 7, 8] (.seq (.reg [Xq 9 (.bin false .lss (.t 8) (.t 7))]) (.seq (.cond (.t 9) .skip (.exit 0)) (.seq (.block 1 (.seq (.reg [Xm 10 8, Xa 5 10]) (.seq (.reg [Xm 11 1, Xm 12 0, Xm 13 5, Xi 14 1 12 13, Xl 15 1 14, Xq 16 (.bin false .eql (.t 11) (.t 15))]) (.cond (.t 16) (.seq (.reg [Xm 17
 5, Xa 4 17]) .ret) .skip)))) (.reg [Xq 18 (.bin false .add (.t 8) (.i 1)), Xm 8 18]))))))) (.seq (.reg [Xb 4 (.asg (.i (-1)))]) .ret)))
theorem d63 (l : List ByteArray) (v : ByteArray) (hl : l.length < 9223372036854775807) : Does Go.Proofs.Tryz.prog 63 [.fsl 1 (l.map sv), .v (.string v)] false (.v (.int .i64 (findI (eqSv v) l))) [.dead, .dead] := by
  refine does_intro (mc := m63) (N := 19) (rs := [4]) (fx := []) 2 rfl (by decide +kernel) ?_
  simp only [m63, EV, Nat.reduceEqDiff, Nat.reduceBEq, Nat.reduceLT, Nat.reduceLeDiff, Nat.reduceAdd, Nat.reduceSub, reduceIte]
  refine awp_loop (fun i : Nat => i ≤ l.length ∧ ∀ j (hj : j < l.length), j < i → eqSv v l[j] = false) (fun i => stl [(0, .fsl 1 (l.map sv)), (1, .v (.string v)), (7, .v (.int .i64 (l.length : Int))), (8, .v (.int .i64 (i : Int)))]) (fun i => l.length - i) 0 ⟨Nat.zero_le _, fun j hj hji => absurd hji (by omega)⟩ ?_ ?_
  · simp only [EV, Nat.reduceEqDiff, Nat.reduceBEq, Nat.reduceLT, Nat.reduceLeDiff, Nat.reduceAdd, Nat.reduceSub, reduceIte]
    rfl
  · rintro i ⟨hi, hno⟩
    simp only [EV, Nat.reduceEqDiff, Nat.reduceBEq, Nat.reduceLT, Nat.reduceLeDiff, Nat.reduceAdd, Nat.reduceSub, reduceIte]
    refine cK_cut (fun h => ?_) (fun h => ?_)
    · have h1 : i < l.length := by simpa using h
      have h2 : (i : Int) < (l.length : Int) := by omega
      simp only [nth_map h1, h2, sv, Bool.true_xor, Bool.false_xor, EV, Nat.reduceEqDiff, Nat.reduceBEq, Nat.reduceLT, Nat.reduceLeDiff, Nat.reduceAdd, Nat.reduceSub, reduceIte]
      refine cK_cut (fun h => ?_) (fun h => ?_)
      · have hq : eqSv v l[i] = true := h
        simp only [EV, Nat.reduceEqDiff, Nat.reduceBEq, Nat.reduceLT, Nat.reduceLeDiff, Nat.reduceAdd, Nat.reduceSub, reduceIte]
        simp only [findI_at h1 hq hno, EV, Nat.reduceEqDiff, Nat.reduceBEq, Nat.reduceLT, Nat.reduceLeDiff, Nat.reduceAdd, Nat.reduceSub, reduceIte, evRE, retVC, cellV', evR, nfz, nfzs, nfzss, List.contains_nil, List.contains_cons, Bool.or_false, or_true]
      · have hq : eqSv v l[i] = false := h
        simp only [EV, Nat.reduceEqDiff, Nat.reduceBEq, Nat.reduceLT, Nat.reduceLeDiff, Nat.reduceAdd, Nat.reduceSub, reduceIte]
        rw [w64 _ (by omega)]
        refine ⟨i + 1, ⟨by omega, ?_⟩, by omega, rfl⟩
        intro j hj hji
        by_cases e : j = i
        · subst e; exact hq
        · exact hno j hj (by omega)
    · have h1 : i = l.length := by have : ¬ (i : Int) < l.length := by simpa using h
                                   omega
      subst h1
      simp only [EV, Nat.reduceEqDiff, Nat.reduceBEq, Nat.reduceLT, Nat.reduceLeDiff, Nat.reduceAdd, Nat.reduceSub, reduceIte]
      simp only [findI_no (fun j hj => hno j hj hj), EV, Nat.reduceEqDiff, Nat.reduceBEq, Nat.reduceLT, Nat.reduceLeDiff, Nat.reduceAdd, Nat.reduceSub, reduceIte, evRE, retVC, cellV', evR, nfz, nfzs, nfzss, List.contains_nil, List.contains_cons, Bool.or_false, or_true]
def m40 : MC :=
 (.seq (.reg [Xb 4 (.asg .fb)]) (.seq (.reg [Xm 5 0, Xm 6 1, Xb 7 (.call (.fn 63) false [.lend (.t 5), .lend (.t 6)]), Xq 8 (.bin false .geq (.t 7) (.i 0)), Xa 4 8]) .ret))
theorem d40 (l : List ByteArray) (v : ByteArray) (hl : l.length < 9223372036854775807) : Does Go.Proofs.Tryz.prog 40 [.fsl 1 (l.map sv), .v (.string v)] false (.v (.bool (l.any (eqSv v)))) [.dead, .dead] := by
  refine does_intro (mc := m40) (N := 9) (rs := [4]) (fx := []) 2 rfl (by decide +kernel) ?_
  simp only [m40, EV, Nat.reduceEqDiff, Nat.reduceBEq, Nat.reduceLT, Nat.reduceLeDiff, Nat.reduceAdd, Nat.reduceSub, reduceIte]
  refine callK_i (d63 l v hl) ?_
  simp only [EV, Nat.reduceEqDiff, Nat.reduceBEq, Nat.reduceLT, Nat.reduceLeDiff, Nat.reduceAdd, Nat.reduceSub, reduceIte]
  simp only [findI_any, EV, Nat.reduceEqDiff, Nat.reduceBEq, Nat.reduceLT, Nat.reduceLeDiff, Nat.reduceAdd, Nat.reduceSub, reduceIte, evRE, retVC, cellV', evR, nfz, nfzs, nfzss, List.contains_nil, List.contains_cons, Bool.or_false, or_true]
theorem any_eqSv (v : ByteArray) : wordsL.any (eqSv v) = isWordB v := by
  unfold isWordB
  congr 1
  funext x
  unfold eqSv
  rw [Bool.eq_iff_iff, bq_eq, bq_eq]
  exact ⟨fun h => h.symm, fun h => h.symm⟩
theorem word_lett {w : ByteArray} (h : isWordB w = true) : lett (sAt w 0) = true := by
  have : ∀ x ∈ wordsL, lett (sAt x 0) = true := by decide
  unfold isWordB at h
  rw [List.any_eq_true] at h
  obtain ⟨x, hx, e⟩ := h
  rw [← bq_eq.1 e]; exact this x hx
def m58 : MC :=
 (.seq (.reg [Xb 2 (.asg .fb)]) (.seq (.reg [Xb 3 (.bsl 9 1 [.z #[77, 79, 68, 85, 76, 69], .z #[73, 77, 80, 79, 82, 84], .z #[67, 79, 78, 83, 84], .z #[84, 89, 80, 69], .z #[86, 65, 82], .z #[80, 82, 79, 67], .z #[85, 83, 69], .z #[69, 78, 68], .z #[65, 82, 82, 65, 89], .z #[79, 70], .z #[82, 69, 67, 79, 82, 68], .z #[80, 79, 73, 78, 84, 69, 82], .z #[84, 79], .z #[68, 73, 86], .z #[77, 79, 68]]),
 Xm 4 0, Xb 5 (.call (.fn 40) false [.lend (.t 3), .lend (.t 4)]), Xa 2 5]) .ret))
theorem d58 (s : ByteArray) : Does Go.Proofs.Tryz.prog 58 [.v (.string s)] false (.v (.bool (isWordB s))) [.dead] := by
  have dc := d40 wordsL s (by decide)
  rw [any_eqSv] at dc
  refine does_intro (mc := m58) (N := 6) (rs := [2]) (fx := []) 1 rfl (by decide +kernel) ?_
  simp only [m58, EV, Nat.reduceEqDiff, Nat.reduceBEq, Nat.reduceLT, Nat.reduceLeDiff, Nat.reduceAdd, Nat.reduceSub, reduceIte]
  simp only [wordsL, List.map_cons, List.map_nil, sv] at dc
  refine callK_i dc ?_
  simp only [EV, Nat.reduceEqDiff, Nat.reduceBEq, Nat.reduceLT, Nat.reduceLeDiff, Nat.reduceAdd, Nat.reduceSub, reduceIte]
  simp only [EV, Nat.reduceEqDiff, Nat.reduceBEq, Nat.reduceLT, Nat.reduceLeDiff, Nat.reduceAdd, Nat.reduceSub, reduceIte, evRE, retVC, cellV', evR, nfz, nfzs, nfzss, List.contains_nil, List.contains_cons, Bool.or_false, or_true]
def m57 : MC :=
 (.seq (.reg [Xb 2 (.asg (.i 0))]) (.seq (.reg [Xb 3 (.asg (.i 0))]) (.seq (.block 0 (.loop [0, 3] (.seq (.seq (.reg [Xm 4 3, Xm 5 0, Xq 6 (.len true (.t 5)), Xq 7 (.bin false .lss (.t 4) (.t 6)), Xm 8 7, Xt 9 8 (.mov (.t 0)), Xt 10 8 (.mov (.t 3)), Xt 11 8 (.idx (.t 9) (.t 10)), XT 12 8 (.call (.fn 67) false [.lend (.t 11)]), Xt 13 8 (.mov (.t 12)), Xu 14 13 (.mov (.t 0)), Xu 15 13 (.mov (.t 3)),
 Xu 16 13 (.idx (.t 14) (.t 15)), XU 17 13 (.call (.fn 59) false [.lend (.t 16)]), Xt 18 8 (.pick (.t 13) .tb (.t 17)), Xq 19 (.pick (.t 8) (.t 18) .fb)]) (.cond (.t 19) .skip (.exit 0))) (.block 1 (.reg [Xm 20 3, Xq 21 (.bin false .add (.t 20) (.i 1)), Xa 3 21]))))) (.seq (.reg [Xm 22 3, Xa 2 22]) .ret))))
theorem d57 (s : ByteArray) (hs : (s.size : Int) ≤ 1200) : Does Go.Proofs.Tryz.prog 57 [.v (.string s)] false (.v (.int .i64 (wl s 0 : Nat))) [.dead] := by
  generalize hR : wl s 0 = R
  refine does_intro (mc := m57) (N := 23) (rs := [2]) (fx := []) 1 rfl (by decide +kernel) ?_
  simp only [m57, EV, Nat.reduceEqDiff, Nat.reduceBEq, Nat.reduceLT, Nat.reduceLeDiff, Nat.reduceAdd, Nat.reduceSub, reduceIte]
  refine awp_loop (fun i : Nat => i ≤ s.size ∧ R = wl s i) (fun i => stl [(0, .v (.string s)), (3, .v (.int .i64 (i : Int)))]) (fun i => s.size - i) 0 ⟨Nat.zero_le _, hR.symm⟩ ?_ ?_
  · simp only [EV, Nat.reduceEqDiff, Nat.reduceBEq, Nat.reduceLT, Nat.reduceLeDiff, Nat.reduceAdd, Nat.reduceSub, reduceIte]
    rfl
  rintro i ⟨g1, g2⟩
  have wi := w64 ((i : Int) + 1) (by omega)
  have i0 : (0 : Int) ≤ (i : Int) := by omega
  simp only [EV, Nat.reduceEqDiff, Nat.reduceBEq, Nat.reduceLT, Nat.reduceLeDiff, Nat.reduceAdd, Nat.reduceSub, reduceIte]
  rcases e1 : decide ((i : Int) < (s.size : Int)) with _ | _
  · rw [wl_stop (by have : ¬ (i : Int) < s.size := by simpa using e1
                    omega)] at g2
    simp only [e1, EV, Nat.reduceEqDiff, Nat.reduceBEq, Nat.reduceLT, Nat.reduceLeDiff, Nat.reduceAdd, Nat.reduceSub, reduceIte]
    simp only [g2, EV, Nat.reduceEqDiff, Nat.reduceBEq, Nat.reduceLT, Nat.reduceLeDiff, Nat.reduceAdd, Nat.reduceSub, reduceIte, evRE, retVC, cellV', evR, nfz, nfzs, nfzss, List.contains_nil, List.contains_cons, Bool.or_false, or_true]
  have i1 : (i : Int) < s.size := by simpa using e1
  simp only [e1, i0, i1, EV, Nat.reduceEqDiff, Nat.reduceBEq, Nat.reduceLT, Nat.reduceLeDiff, Nat.reduceAdd, Nat.reduceSub, reduceIte]
  refine callK_i (d67 _) ?_
  rcases e2 : lett (sAt s (i : Int)) with _ | _
  · simp only [e2, i0, i1, EV, Nat.reduceEqDiff, Nat.reduceBEq, Nat.reduceLT, Nat.reduceLeDiff, Nat.reduceAdd, Nat.reduceSub, reduceIte]
    refine callK_i (d59 _) ?_
    rcases e3 : digt (sAt s (i : Int)) with _ | _
    · rw [wl_stop (fun h => by have := h.2; simp [aln, e2, e3] at this)] at g2
      simp only [e3, EV, Nat.reduceEqDiff, Nat.reduceBEq, Nat.reduceLT, Nat.reduceLeDiff, Nat.reduceAdd, Nat.reduceSub, reduceIte]
      simp only [g2, EV, Nat.reduceEqDiff, Nat.reduceBEq, Nat.reduceLT, Nat.reduceLeDiff, Nat.reduceAdd, Nat.reduceSub, reduceIte, evRE, retVC, cellV', evR, nfz, nfzs, nfzss, List.contains_nil, List.contains_cons, Bool.or_false, or_true]
    · rw [wl_step (by omega) (by simp [aln, e3])] at g2
      simp only [e3, wi, EV, Nat.reduceEqDiff, Nat.reduceBEq, Nat.reduceLT, Nat.reduceLeDiff, Nat.reduceAdd, Nat.reduceSub, reduceIte]
      exact ⟨i + 1, ⟨by omega, g2⟩, by omega, rfl⟩
  · rw [wl_step (by omega) (by simp [aln, e2])] at g2
    simp only [e2, wi, EV, Nat.reduceEqDiff, Nat.reduceBEq, Nat.reduceLT, Nat.reduceLeDiff, Nat.reduceAdd, Nat.reduceSub, reduceIte]
    exact ⟨i + 1, ⟨by omega, g2⟩, by omega, rfl⟩
def m34 : MC :=
 (.seq (.reg [Xb 2 (.asg (.i 0))]) (.seq (.reg [Xb 3 (.asg (.i 0))]) (.seq (.seq (.reg [Xb 4 (.asg (.i 0))]) (.block 0 (.loop [0, 3, 4] (.seq (.seq (.reg [Xm 5 4, Xq 6 (.bin false .add (.t 5) (.i 1)), Xm 7 0, Xq 8 (.len true (.t 7)), Xq 9 (.bin false .lss (.t 6) (.t 8))]) (.cond (.t 9) .skip (.exit 0))) (.join [0, 3, 4] (.block 1 (.join [0, 3, 4] (.seq (.reg [Xm 12 0, Xm 13 4, Xm 14 4, Xq 15 (.bin
 false .add (.t 14) (.i 2)), Xq 16 (.slc true 1 (.t 12) (some (.t 13)) (some (.t 15)))]) (.block 2 (.seq (.reg [Xq 18 (.bin false .eql (.t 16) (.z #[40, 42])), Xa 17 18]) (.cond (.t 17) (.seq (.reg [Xm 19 3, Xq 20 (.bin false .add (.t 19) (.i 1)), Xa 3 20]) (.reg [Xm 21 4, Xq 22 (.bin false .add (.t 21) (.i 1)), Xa 4 22])) (.seq (.reg [Xq 24 (.bin false .eql (.t 16) (.z #[42, 41])), Xa 23 24])
 (.cond (.t 23) (.seq (.reg [Xm 25 3, Xq 26 (.bin false .sub (.t 25) (.i 1)), Xa 3 26]) (.reg [Xm 27 4, Xq 28 (.bin false .add (.t 27) (.i 1)), Xa 4 28])) .skip)))))) (.seq (.reg [Xm 29 3, Xq 30 (.bin false .eql (.t 29) (.i 0))]) (.cond (.t 30) (.seq (.reg [Xm 31 4, Xq 32 (.bin false .add (.t 31) (.i 1)), Xa 2 32]) .ret) .skip)))) (.reg [Xm 10 4, Xq 11 (.bin false .add (.t 10) (.i 1)), Xa 4
 11])))))) (.seq (.reg [Xb 2 (.asg (.i 0))]) .ret))))
set_option maxHeartbeats 1000000 in
theorem d34 (s : ByteArray) (h2 : 1 < s.size) (hs : (s.size : Int) ≤ 1200) (ho : isOpen s 0 = true) : Does Go.Proofs.Tryz.prog 34 [.v (.string s)] false (.v (.int .i64 (match rem s 0 0 with | some e => (e : Int) | none => 0))) [.dead] := by
  generalize hR : rem s 0 0 = R
  refine does_intro (mc := m34) (N := 33) (rs := [2]) (fx := []) 1 rfl (by decide +kernel) ?_
  simp only [m34, EV, Nat.reduceEqDiff, Nat.reduceBEq, Nat.reduceLT, Nat.reduceLeDiff, Nat.reduceAdd, Nat.reduceSub, reduceIte]
  refine awp_loop (fun p : Nat × Nat => p.1 ≤ s.size ∧ p.2 ≤ p.1 + 1 ∧ (p.2 = 0 → p.1 = 0) ∧ R = rem s p.1 p.2) (fun p => stl [(0, .v (.string s)), (3, .v (.int .i64 (p.2 : Int))), (4, .v (.int .i64 (p.1 : Int)))]) (fun p => s.size - p.1) (0, 0) ⟨by simp only; omega, by simp only; omega, fun _ => rfl, hR.symm⟩ ?_ ?_
  · simp only [EV, Nat.reduceEqDiff, Nat.reduceBEq, Nat.reduceLT, Nat.reduceLeDiff, Nat.reduceAdd, Nat.reduceSub, reduceIte]
    rfl
  rintro ⟨i, d⟩ ⟨g1, g2, g3, g4⟩
  simp only at g1 g2 g3 g4
  have w1 := w64 ((i : Int) + 1) (by omega)
  have w11 := w64 ((i : Int) + 1 + 1) (by omega)
  have w2 := w64 ((i : Int) + 2) (by omega)
  have wd1 := w64 ((d : Int) + 1) (by omega)
  have wd2 := w64 ((d : Int) - 1) (by omega)
  simp only [w1, EV, Nat.reduceEqDiff, Nat.reduceBEq, Nat.reduceLT, Nat.reduceLeDiff, Nat.reduceAdd, Nat.reduceSub, reduceIte]
  refine cK_cut (fun h => ?_) (fun h => ?_)
  · have i2 : (i : Int) + 1 < (s.size : Int) := by simpa using h
    clear h
    have i3 : (i : Int) ≤ (i : Int) + 2 := by omega
    have i4 : (i : Int) + 2 ≤ (s.size : Int) := by omega
    have t0 : ((i : Nat) : Int).toNat = i := rfl
    have t2 : ((i : Nat) + 2 : Int).toNat = i + 2 := rfl
    have eo := open_eq s (i := i) (by omega)
    have es := shut_eq s (i := i) (by omega)
    have i5 : ((i : Int) + 1 + 1) = ((i + 2 : Nat) : Int) := by omega
    have i6 : ((i : Int) + 1) = ((i + 1 : Nat) : Int) := by omega
    rw [rem, if_pos (by omega)] at g4
    refine awp_join (fun p : Nat × Nat => p.1 + 1 ≤ s.size ∧ p.2 ≤ p.1 + 2 ∧ p.2 ≠ 0 ∧ i ≤ p.1 ∧ R = rem s (p.1 + 1) p.2) (fun p => stl [(0, .v (.string s)), (3, .v (.int .i64 (p.2 : Int))), (4, .v (.int .i64 (p.1 : Int)))]) ?_ ?_
    · simp only [EV, Nat.reduceEqDiff, Nat.reduceBEq, Nat.reduceLT, Nat.reduceLeDiff, Nat.reduceAdd, Nat.reduceSub, reduceIte]
      refine awp_join (fun p : Nat × Nat => ((p.1 = i + 1 ∧ p.2 ≠ 0 ∧ (p.2 = d + 1 ∨ p.2 + 1 = d) ∧ R = rem s (i + 2) p.2) ∨ (p.1 = i ∧ p.2 = d ∧ d ≠ 0 ∧ R = rem s (i + 1) d)) ∨ (p.1 = i + 1 ∧ p.2 = 0 ∧ R = some (i + 2))) (fun p => stl [(0, .v (.string s)), (3, .v (.int .i64 (p.2 : Int))), (4, .v (.int .i64 (p.1 : Int)))]) ?_ ?_
      · simp only [w2, i3, i4, t0, t2, eo, EV, Nat.reduceEqDiff, Nat.reduceBEq, Nat.reduceLT, Nat.reduceLeDiff, Nat.reduceAdd, Nat.reduceSub, reduceIte]
        rcases o : isOpen s i with _ | _
        · have hd0 : d ≠ 0 := by
            intro h; have := g3 h; subst this; rw [ho] at o; cases o
          rw [o, if_neg (by simp)] at g4
          simp only [o, es, EV, Nat.reduceEqDiff, Nat.reduceBEq, Nat.reduceLT, Nat.reduceLeDiff, Nat.reduceAdd, Nat.reduceSub, reduceIte]
          rcases q : isShut s i with _ | _
          · rw [q, if_neg (by simp)] at g4
            simp only [w1, w2, wd1, wd2, EV, Nat.reduceEqDiff, Nat.reduceBEq, Nat.reduceLT, Nat.reduceLeDiff, Nat.reduceAdd, Nat.reduceSub, reduceIte]
            exact ⟨(i, d), .inl (.inr ⟨rfl, rfl, hd0, g4⟩), rfl⟩
          · rw [q, if_pos rfl] at g4
            simp only [w1, w2, wd1, wd2, EV, Nat.reduceEqDiff, Nat.reduceBEq, Nat.reduceLT, Nat.reduceLeDiff, Nat.reduceAdd, Nat.reduceSub, reduceIte]
            by_cases hd1 : d = 1
            · rw [if_pos hd1] at g4
              refine ⟨(i + 1, 0), .inr ⟨rfl, rfl, g4⟩, ?_⟩
              rw [hd1]; rfl
            · rw [if_neg hd1] at g4
              refine ⟨(i + 1, d - 1), .inl (.inl ⟨rfl, by simp only; omega, by simp only; omega, g4⟩), ?_⟩
              have : (d : Int) - 1 = ((d - 1 : Nat) : Int) := by omega
              rw [this]
              rfl
        · rw [o, if_pos rfl] at g4
          simp only [o, w1, w2, wd1, wd2, EV, Nat.reduceEqDiff, Nat.reduceBEq, Nat.reduceLT, Nat.reduceLeDiff, Nat.reduceAdd, Nat.reduceSub, reduceIte]
          exact ⟨(i + 1, d + 1), .inl (.inl ⟨rfl, by simp only; omega, .inl rfl, g4⟩), rfl⟩
      · rintro ⟨j, e⟩ hj
        have wj := w64 ((j : Int) + 1) (by simp only at hj; omega)
        simp only [EV, Nat.reduceEqDiff, Nat.reduceBEq, Nat.reduceLT, Nat.reduceLeDiff, Nat.reduceAdd, Nat.reduceSub, reduceIte]
        rcases hj with (⟨j1, j2, j3, j4⟩ | ⟨j1, j2, j3, j4⟩) | ⟨j1, j2, j3⟩
        · simp only at j1 j2 j3 j4
          subst j1
          have z : ((e : Int) == 0) = false := by simp; omega
          simp only [z, wj, EV, Nat.reduceEqDiff, Nat.reduceBEq, Nat.reduceLT, Nat.reduceLeDiff, Nat.reduceAdd, Nat.reduceSub, reduceIte]
          exact ⟨(i + 1, e), ⟨by simp only; omega, by simp only; omega, j2, by simp only; omega, j4⟩, rfl⟩
        · simp only at j1 j2 j3 j4
          subst j1; subst j2
          have z : ((e : Int) == 0) = false := by simp; omega
          simp only [z, wj, EV, Nat.reduceEqDiff, Nat.reduceBEq, Nat.reduceLT, Nat.reduceLeDiff, Nat.reduceAdd, Nat.reduceSub, reduceIte]
          exact ⟨(j, e), ⟨by simp only; omega, by simp only; omega, j3, by simp only; omega, j4⟩, rfl⟩
        · simp only at j1 j2 j3
          subst j1; subst j2
          refine cK_cut (fun _ => ?_) (fun h => absurd h (by decide))
          simp only [wj, EV, Nat.reduceEqDiff, Nat.reduceBEq, Nat.reduceLT, Nat.reduceLeDiff, Nat.reduceAdd, Nat.reduceSub, reduceIte]
          have e2 : ((i + 1 : Nat) : Int) + 1 = ((i + 2 : Nat) : Int) := by omega
          rw [e2]
          simp only [j3, EV, Nat.reduceEqDiff, Nat.reduceBEq, Nat.reduceLT, Nat.reduceLeDiff, Nat.reduceAdd, Nat.reduceSub, reduceIte, evRE, retVC, cellV', evR, nfz, nfzs, nfzss, List.contains_nil, List.contains_cons, Bool.or_false, or_true]
    · rintro ⟨j, e⟩ ⟨j1, j2, j3, j4, j5⟩
      simp only at j1 j2 j3 j4 j5
      have wj := w64 ((j : Int) + 1) (by omega)
      simp only [wj, EV, Nat.reduceEqDiff, Nat.reduceBEq, Nat.reduceLT, Nat.reduceLeDiff, Nat.reduceAdd, Nat.reduceSub, reduceIte]
      exact ⟨(j + 1, e), ⟨j1, by simp only; omega, fun h => absurd h j3, j5⟩, by simp only; omega, rfl⟩
  · have i2 : ¬ i + 1 < s.size := by have : ¬ (i : Int) + 1 < s.size := by simpa using h
                                     omega
    rw [rem, if_neg i2] at g4
    simp only [EV, Nat.reduceEqDiff, Nat.reduceBEq, Nat.reduceLT, Nat.reduceLeDiff, Nat.reduceAdd, Nat.reduceSub, reduceIte]
    simp only [g4, EV, Nat.reduceEqDiff, Nat.reduceBEq, Nat.reduceLT, Nat.reduceLeDiff, Nat.reduceAdd, Nat.reduceSub, reduceIte, evRE, retVC, cellV', evR, nfz, nfzs, nfzss, List.contains_nil, List.contains_cons, Bool.or_false, or_true]
theorem tokN_shift (s : ByteArray) {a : Nat} (ha : a < s.size) : tokN s a = match tokN (s.extract a s.size) 0 with
    | .inl t => .inl { t with pos := (a : Int) }
    | .inr c => .inr c := by
  have hz : (s.extract a s.size).size = s.size - a := by rw [ByteArray.size_extract]; omega
  have e0 := sAt_cut s (a := a) (b := s.size) (i := 0) (by omega) (Nat.le_refl _)
  rw [Nat.add_zero] at e0
  have ew := wl_shift s a (s.size - (a + 0)) 0 (Nat.le_refl _) (by omega)
  rw [Nat.add_zero] at ew
  obtain ⟨w1, w2, _⟩ := wl_in s (s.size - a) a (Nat.le_refl _) (by omega)
  have ex : ∀ n : Nat, a + n ≤ s.size → (s.extract a s.size).extract 0 n = s.extract a (a + n) := by
    intro n hn
    have h1 : ((s.extract a s.size).extract 0 n).size = n := by rw [ByteArray.size_extract, hz]; omega
    have h2 : (s.extract a (a + n)).size = n := by rw [ByteArray.size_extract]; omega
    refine ext_bytes (by rw [h1, h2]) fun i hi => ?_
    rw [h1] at hi
    rw [sAt_cut (s.extract a s.size) (a := 0) (b := n) (i := i) (by omega) (by omega), Nat.zero_add, sAt_cut s (a := a) (b := s.size) (i := i) (by omega) (Nat.le_refl _), sAt_cut s (a := a) (b := a + n) (i := i) (by omega) (by omega)]
  have ex1 := ex 1 (by omega)
  have exw := ex (wl (s.extract a s.size) 0) (by omega)
  rw [ew] at exw
  have ed : wl s a - a = wl (s.extract a s.size) 0 - 0 := by omega
  unfold tokN
  rw [e0, exw, ← ed, Nat.zero_add, ex1]
  by_cases c1 : isSign (sAt s (a : Nat)) = true
  · simp only [if_pos c1]
  by_cases c2 : aln (sAt s (a : Nat)) = false
  · simp only [if_neg c1, if_pos c2]
  by_cases c3 : lett (sAt s (a : Nat)) = true
  · by_cases c4 : isWordB (s.extract a (wl s a)) = true
    · simp only [if_neg c1, if_neg c2, if_pos c3, if_pos c4]
    · by_cases c5 : 10 < wl s a - a
      · simp only [if_neg c1, if_neg c2, if_pos c3, if_neg c4, if_pos c5]
      · simp only [if_neg c1, if_neg c2, if_pos c3, if_neg c4, if_neg c5]
  · rcases numN (s.extract a (wl s a)) with _ | n
    · simp only [if_neg c1, if_neg c2, if_neg c3]
    · simp only [if_neg c1, if_neg c2, if_neg c3]
theorem tokN_size {s : ByteArray} {a : Nat} {t : Tok} (ha : a < s.size) (h : tokN (s.extract a s.size) 0 = .inl t) : a + t.text.size ≤ s.size := by
  have h2 := tokN_shift s ha
  rw [h] at h2
  exact (tokN_in ha h2).2.1
def tok0 : Tok := ⟨0, ⟨#[]⟩, 0, 0⟩
def tokU (u : ByteArray) : Tok × Int × Int := match tokN u 0 with
  | .inl t => (t, (t.text.size : Int), 0)
  | .inr c => (tok0, 0, c)
def m35 : MC :=
 (.seq (.reg [Xb 2 (.alloc 74 [.i, .z, .i, .i]), Xb 3 (.asg (.i 0)), Xb 4 (.asg (.i 0))]) (.seq (.seq (.reg [Xm 9 0, Xq 10 (.idx (.t 9) (.i 0)), Xb 11 (.call (.fn 56) false [.lend (.z #[59, 44, 46, 58, 61, 42, 45, 43, 40, 41]), .lend (.t 10)]), Xq 12 (.bin false .geq (.t 11) (.i 0))]) (.cond (.t 12) (.seq (.reg [Xm 13 0, Xq 14 (.slc true 1 (.t 13) none (some (.i 1))), Xb 15 (.build [0, 1] [0, 1]
 [1, 1] [.i, .z, .i, .i] [.i 4, .t 14]), Xz (.store 4 (.t 2) (.t 15)), Xb 3 (.asg (.i 1)), Xb 4 (.asg (.i 0))]) .ret) .skip)) (.seq (.reg [Xm 16 0, Xb 17 (.call (.fn 57) false [.lend (.t 16)]), Xa 5 17]) (.seq (.reg [Xm 18 0, Xm 19 5, Xq 20 (.slc true 1 (.t 18) none (some (.t 19))), Xb 21 (.build [0, 1] [0, 1] [1, 1] [.i, .z, .i, .i] [.i 1, .t 20]), Xb 6 (.alloc 74 [.i, .z, .i, .i]), Xz (.store 4
 (.t 6) (.t 21))]) (.join [2, 5, 6] (.block 0 (.seq (.reg [Xm 23 5, Xq 24 (.bin false .eql (.t 23) (.i 0)), Xa 22 24]) (.cond (.t 22) (.seq (.reg [Xb 25 (.build [] [] [] [.i, .z, .i, .i] []), Xz (.store 4 (.t 2) (.t 25)), Xb 3 (.asg (.i 0)), Xb 4 (.asg (.i 4))]) .ret) (.seq (.reg [Xf 27 1 6, Xl 28 1 27, Xb 29 (.call (.fn 58) false [.lend (.t 28)]), Xa 26 29]) (.cond (.t 26) (.reg [Xf 30 0 6, Xz
 (.store 1 (.t 30) (.i 2))]) (.seq (.reg [Xm 32 0, Xq 33 (.idx (.t 32) (.i 0)), Xb 34 (.call (.fn 59) false [.lend (.t 33)]), Xa 31 34]) (.cond (.t 31) (.seq (.reg [Xf 36 1 6, Xl 37 1 36, Xb 38 (.call (.fn 60) false [.lend (.t 37)]), Xm 35 38, Xq 39 (.ext 35 0), Xq 40 (.ext 35 1), Xa 7 39, Xa 8 40]) (.seq (.seq (.reg [Xm 41 8, Xq 42 (.un .not (.t 41))]) (.cond (.t 42) (.seq (.reg [Xb 43 (.build []
 [] [] [.i, .z, .i, .i] []), Xz (.store 4 (.t 2) (.t 43)), Xb 3 (.asg (.i 0)), Xb 4 (.asg (.i 3))]) .ret) .skip)) (.reg [Xm 44 7, Xf 45 0 6, Xz (.store 1 (.t 45) (.i 3)), Xf 46 2 6, Xz (.store 1 (.t 46) (.t 44))]))) (.seq (.reg [Xm 48 5, Xq 49 (.bin false .gtr (.t 48) (.i 10)), Xa 47 49]) (.cond (.t 47) (.seq (.reg [Xb 50 (.build [] [] [] [.i, .z, .i, .i] []), Xz (.store 4 (.t 2) (.t 50)), Xb 3
 (.asg (.i 0)), Xb 4 (.asg (.i 3))]) .ret) .skip))))))))) (.seq (.reg [XL 51 4 6, Xm 52 5, Xz (.store 4 (.t 2) (.t 51)), Xa 3 52, Xb 4 (.asg (.i 0))]) .ret))))))
set_option maxHeartbeats 4000000 in
set_option maxRecDepth 100000 in
theorem d35 (u : ByteArray) (hp : 0 < u.size) (hs : (u.size : Int) ≤ 1200) : Does Go.Proofs.Tryz.prog 35 [.v (.string u)] false (.tup [.agg (tokU u).1.z, .v (.int .i64 (tokU u).2.1), .v (.int .i64 (tokU u).2.2)]) [.dead] := by
  have p0 : (0 : Int) < u.size := by omega
  have hr := sAt_b u 0
  have e0 : ((0 : Nat) : Int) = 0 := rfl
  obtain ⟨W1, W2, W3⟩ := wl_in u u.size 0 (by omega) (by omega)
  have nmW := name_word u hp
  rw [e0] at nmW
  have hzw : (u.extract 0 (wl u 0)).size = wl u 0 := by rw [ByteArray.size_extract]; omega
  have hal0 : aln (sAt u 0) = false → wl u 0 = 0 := fun h => wl_stop (fun c => by rw [e0] at c; rw [h] at c; cases c.2)
  have hal1 : aln (sAt u 0) = true → 0 < wl u 0 := fun h => by
    rw [wl_step hp (by rw [e0]; exact h)]
    have := (wl_in u u.size 1 (by omega) (by omega)).1
    show 0 < wl u 1
    omega
  have hw0 : 0 < wl u 0 → sAt (u.extract 0 (wl u 0)) 0 = sAt u 0 := fun h => by
    have := sAt_cut u (a := 0) (b := wl u 0) (i := 0) (by omega) W2
    simpa using this
  have hT : tokN u 0 = if isSign (sAt u 0) = true then .inl ⟨4, u.extract 0 1, 0, 0⟩ else if aln (sAt u 0) = false then .inr 4
      else if lett (sAt u 0) = true then (if isWordB (u.extract 0 (wl u 0)) = true then .inl ⟨2, u.extract 0 (wl u 0), 0, 0⟩ else if 10 < wl u 0 then .inr 3 else .inl ⟨1, u.extract 0 (wl u 0), 0, 0⟩)
      else match numN (u.extract 0 (wl u 0)) with | some n => .inl ⟨3, u.extract 0 (wl u 0), (n : Int), 0⟩ | none => .inr 3 := rfl
  have err_ : ∀ c : Int, tokN u 0 = .inr c → tokU u = (tok0, 0, c) := fun c h => by unfold tokU; rw [h]
  have ok_ : ∀ t : Tok, tokN u 0 = .inl t → tokU u = (t, (t.text.size : Int), 0) := fun t h => by unfold tokU; rw [h]
  refine does_introM (mc := m35) (N := 53) (rs := [.c 2 74 true 4, .t 3, .t 4]) (fx := []) 1 rfl (by decide +kernel) ?_
  simp only [m35, p0, EV, Nat.reduceEqDiff, Nat.reduceBEq, Nat.reduceLT, Nat.reduceLeDiff, Nat.reduceAdd, Nat.reduceSub, reduceIte]
  refine ⟨by omega, callK_i (d56 _ _) ?_⟩
  have hsx := sign_index (sAt u 0) hr.1 hr.2
  simp only [hsx, EV, Nat.reduceEqDiff, Nat.reduceBEq, Nat.reduceLT, Nat.reduceLeDiff, Nat.reduceAdd, Nat.reduceSub, reduceIte]
  rcases e1 : isSign (sAt u 0) with _ | _
  rotate_left
  · rw [e1, if_pos rfl] at hT
    have h1 := ok_ _ hT
    have hz1 : (u.extract 0 1).size = 1 := by rw [ByteArray.size_extract]; omega
    simp only [e1, p0, EV, Nat.reduceEqDiff, Nat.reduceBEq, Nat.reduceLT, Nat.reduceLeDiff, Nat.reduceAdd, Nat.reduceSub, reduceIte]
    repeat (refine And.intro (by omega) ?_)
    simp only [h1, hz1, Tok.z, pbq, evRM, EV, Nat.reduceEqDiff, Nat.reduceBEq, Nat.reduceLT, Nat.reduceLeDiff, Nat.reduceAdd, Nat.reduceSub, reduceIte, evRE, retVC, cellV', evR, nfz, nfzs, nfzss, List.contains_nil, List.contains_cons, Bool.or_false, or_true]
    rfl
  rw [e1, if_neg (by simp)] at hT
  simp only [e1, EV, Nat.reduceEqDiff, Nat.reduceBEq, Nat.reduceLT, Nat.reduceLeDiff, Nat.reduceAdd, Nat.reduceSub, reduceIte]
  refine callK_i (d57 u hs) ?_
  simp only [EV, Nat.reduceEqDiff, Nat.reduceBEq, Nat.reduceLT, Nat.reduceLeDiff, Nat.reduceAdd, Nat.reduceSub, reduceIte]
  repeat (refine And.intro (by omega) ?_)
  have tw : ((wl u 0 : Nat) : Int).toNat = wl u 0 := rfl
  refine awp_join (fun t : Tok => tokN u 0 = .inl t ∧ t.text = u.extract 0 (wl u 0) ∧ t.pos = 0) (fun t => stl [(2, .box 74 tok0.z), (5, .v (.int .i64 (wl u 0 : Nat))), (6, .box 74 t.z)]) ?_ ?_
  · rcases e2 : aln (sAt u 0) with _ | _
    · have hw := hal0 e2
      rw [if_pos e2] at hT
      have h1 := err_ _ hT
      have z : ((wl u 0 : Nat) : Int) == 0 := by rw [hw]; rfl
      simp only [z, EV, Nat.reduceEqDiff, Nat.reduceBEq, Nat.reduceLT, Nat.reduceLeDiff, Nat.reduceAdd, Nat.reduceSub, reduceIte]
      simp only [h1, tok0, Tok.z, pbq, evRM, EV, Nat.reduceEqDiff, Nat.reduceBEq, Nat.reduceLT, Nat.reduceLeDiff, Nat.reduceAdd, Nat.reduceSub, reduceIte, evRE, retVC, cellV', evR, nfz, nfzs, nfzss, List.contains_nil, List.contains_cons, Bool.or_false, or_true]
    have hw := hal1 e2
    have z : (((wl u 0 : Nat) : Int) == 0) = false := by simp; omega
    have hs0 := hw0 hw
    rw [if_neg (by rw [e2]; simp)] at hT
    simp only [z, EV, Nat.reduceEqDiff, Nat.reduceBEq, Nat.reduceLT, Nat.reduceLeDiff, Nat.reduceAdd, Nat.reduceSub, reduceIte]
    refine callK_i (d58 (u.extract 0 (wl u 0))) ?_
    simp only [EV, Nat.reduceEqDiff, Nat.reduceBEq, Nat.reduceLT, Nat.reduceLeDiff, Nat.reduceAdd, Nat.reduceSub, reduceIte]
    rcases e3 : isWordB (u.extract 0 (wl u 0)) with _ | _
    rotate_left
    · have hl := word_lett e3
      rw [hs0] at hl
      rw [if_pos hl, if_pos e3] at hT
      simp only [e3, EV, Nat.reduceEqDiff, Nat.reduceBEq, Nat.reduceLT, Nat.reduceLeDiff, Nat.reduceAdd, Nat.reduceSub, reduceIte]
      exact ⟨_, ⟨hT, rfl, rfl⟩, rfl⟩
    simp only [e3, p0, EV, Nat.reduceEqDiff, Nat.reduceBEq, Nat.reduceLT, Nat.reduceLeDiff, Nat.reduceAdd, Nat.reduceSub, reduceIte]
    repeat (refine And.intro (by omega) ?_)
    refine callK_i (d59 _) ?_
    simp only [EV, Nat.reduceEqDiff, Nat.reduceBEq, Nat.reduceLT, Nat.reduceLeDiff, Nat.reduceAdd, Nat.reduceSub, reduceIte]
    rcases e4 : digt (sAt u 0) with _ | _
    · have hl : lett (sAt u 0) = true := by simpa [aln, e4] using e2
      rw [if_pos hl, if_neg (by rw [e3]; simp)] at hT
      simp only [e4, EV, Nat.reduceEqDiff, Nat.reduceBEq, Nat.reduceLT, Nat.reduceLeDiff, Nat.reduceAdd, Nat.reduceSub, reduceIte]
      rcases e5 : decide ((10 : Int) < (wl u 0 : Nat)) with _ | _
      · rw [if_neg (by have : ¬ (10 : Int) < (wl u 0 : Nat) := by simpa using e5
                       omega)] at hT
        simp only [e5, EV, Nat.reduceEqDiff, Nat.reduceBEq, Nat.reduceLT, Nat.reduceLeDiff, Nat.reduceAdd, Nat.reduceSub, reduceIte]
        exact ⟨_, ⟨hT, rfl, rfl⟩, rfl⟩
      · rw [if_pos (by have : (10 : Int) < (wl u 0 : Nat) := by simpa using e5
                       omega)] at hT
        have h1 := err_ _ hT
        simp only [e5, EV, Nat.reduceEqDiff, Nat.reduceBEq, Nat.reduceLT, Nat.reduceLeDiff, Nat.reduceAdd, Nat.reduceSub, reduceIte]
        simp only [h1, tok0, Tok.z, pbq, evRM, EV, Nat.reduceEqDiff, Nat.reduceBEq, Nat.reduceLT, Nat.reduceLeDiff, Nat.reduceAdd, Nat.reduceSub, reduceIte, evRE, retVC, cellV', evR, nfz, nfzs, nfzss, List.contains_nil, List.contains_cons, Bool.or_false, or_true]
    · have hl : lett (sAt u 0) = false := by
        rcases e6 : lett (sAt u 0) with _ | _
        · rfl
        · rw [lett_digt e6] at e4; cases e4
      rw [if_neg (by rw [hl]; simp)] at hT
      simp only [e4, EV, Nat.reduceEqDiff, Nat.reduceBEq, Nat.reduceLT, Nat.reduceLeDiff, Nat.reduceAdd, Nat.reduceSub, reduceIte]
      refine callK_i (d60 (u.extract 0 (wl u 0)) (by rw [hzw]; omega) (by rw [hzw]; exact hw) (by rw [hs0]; exact e4)) ?_
      rcases e6 : numN (u.extract 0 (wl u 0)) with _ | m
      · rw [e6] at hT
        have h1 := err_ _ hT
        simp only [numR, e6, Option.getD_none, Option.isSome_none, Bool.not_false, EV, Nat.reduceEqDiff, Nat.reduceBEq, Nat.reduceLT, Nat.reduceLeDiff, Nat.reduceAdd, Nat.reduceSub, reduceIte]
        simp only [h1, tok0, Tok.z, pbq, evRM, EV, Nat.reduceEqDiff, Nat.reduceBEq, Nat.reduceLT, Nat.reduceLeDiff, Nat.reduceAdd, Nat.reduceSub, reduceIte, evRE, retVC, cellV', evR, nfz, nfzs, nfzss, List.contains_nil, List.contains_cons, Bool.or_false, or_true]
      · rw [e6] at hT
        simp only [numR, e6, Option.getD_some, Option.isSome_some, Bool.not_true, EV, Nat.reduceEqDiff, Nat.reduceBEq, Nat.reduceLT, Nat.reduceLeDiff, Nat.reduceAdd, Nat.reduceSub, reduceIte]
        exact ⟨_, ⟨hT, rfl, rfl⟩, rfl⟩
  rintro t ⟨q1, q2, q3⟩
  have h1 := ok_ _ q1
  have hz : t.text.size = wl u 0 := by rw [q2]; exact hzw
  simp only [tok0, Tok.z, EV, Nat.reduceEqDiff, Nat.reduceBEq, Nat.reduceLT, Nat.reduceLeDiff, Nat.reduceAdd, Nat.reduceSub, reduceIte]
  simp only [h1, hz, Tok.z, pbq, evRM, EV, Nat.reduceEqDiff, Nat.reduceBEq, Nat.reduceLT, Nat.reduceLeDiff, Nat.reduceAdd, Nat.reduceSub, reduceIte, evRE, retVC, cellV', evR, nfz, nfzs, nfzss, List.contains_nil, List.contains_cons, Bool.or_false, or_true]
end Go.AM
namespace Go.AM
set_option linter.unusedVariables false
set_option linter.unusedSimpArgs false
theorem has_open (s : ByteArray) {i : Nat} (hi : i < s.size) : (decide (((2 : Nat) : Int) ≤ ((s.extract i s.size).size : Int)) && (((s.extract i s.size).extract 0 2).toList == (⟨#[40, 42]⟩ : ByteArray).toList)) = (decide (i + 1 < s.size) && isOpen s i) := by
  have hz : (s.extract i s.size).size = s.size - i := by rw [ByteArray.size_extract]; omega
  rw [hz]
  by_cases c : i + 1 < s.size
  · have e0 := sAt_cut s (a := i) (b := s.size) (i := 0) (by omega) (Nat.le_refl _)
    have e1 := sAt_cut s (a := i) (b := s.size) (i := 0 + 1) (by omega) (Nat.le_refl _)
    have h := open_eq (s.extract i s.size) (i := 0) (by omega)
    rw [Nat.zero_add] at h
    rw [h, decide_eq_true c, decide_eq_true (by omega)]
    unfold isOpen
    rw [e0, e1]
    rfl
  · rw [decide_eq_false c, decide_eq_false (by omega)]; rfl
def m19 : MC :=
 (.seq (.reg [Xb 2 (.asg (.nils 74 4)), Xb 3 (.asg (.i 0)), Xb 4 (.asg (.i 0))]) (.seq (.seq (.reg [Xm 11 0, Xq 12 (.len true (.t 11)), Xq 13 (.bin false .gtr (.t 12) (.i 1200))]) (.cond (.t 13) (.seq (.reg [Xb 2 (.asg (.nils 74 4)), Xb 3 (.asg (.i 1)), Xb 4 (.asg (.i 0))]) .ret) .skip)) (.seq (.reg [Xb 14 (.bsl 74 4 []), Xa 5 14]) (.seq (.seq (.reg [Xb 6 (.asg (.i 0))]) (.block 0 (.loop [0, 5, 6,
 14, 64] (.seq (.seq (.reg [Xm 15 6, Xm 16 0, Xq 17 (.len true (.t 16)), Xq 18 (.bin false .lss (.t 15) (.t 17))]) (.cond (.t 18) .skip (.exit 0))) (.block 1 (.seq (.block 2 (.seq (.reg [Xm 20 0, Xm 21 6, Xq 22 (.idx (.t 20) (.t 21)), Xq 23 (.bin false .eql (.t 22) (.c (.int .u8 32))), Xm 24 23, Xu 25 24 (.mov (.t 0)), Xu 26 24 (.mov (.t 6)), Xu 27 24 (.idx (.t 25) (.t 26)), Xu 28 24 (.bin false
 .eql (.t 27) (.c (.int .u8 10))), Xq 29 (.pick (.t 24) .tb (.t 28)), Xa 19 29]) (.cond (.t 19) (.seq (.reg [Xm 30 6, Xq 31 (.bin false .add (.t 30) (.i 1)), Xa 6 31]) (.exit 1)) (.seq (.reg [Xm 33 0, Xm 34 6, Xq 35 (.slc true 1 (.t 33) (some (.t 34)) none), Xb 36 (.call (.fn 33) false [.lend (.t 35), .lend (.z #[40, 42])]), Xa 32 36]) (.cond (.t 32) (.seq (.reg [Xm 37 0, Xm 38 6, Xq 39 (.slc true
 1 (.t 37) (some (.t 38)) none), Xb 40 (.call (.fn 34) false [.lend (.t 39)]), Xa 7 40]) (.seq (.seq (.reg [Xm 41 7, Xq 42 (.bin false .eql (.t 41) (.i 0))]) (.cond (.t 42) (.seq (.reg [Xm 43 6, Xb 2 (.asg (.nils 74 4)), Xb 3 (.asg (.i 2)), Xa 4 43]) .ret) .skip)) (.seq (.reg [Xm 44 6, Xm 45 7, Xq 46 (.bin false .add (.t 44) (.t 45)), Xa 6 46]) (.exit 1)))) .skip))))) (.seq (.reg [Xm 48 0, Xm 49 6,
 Xq 50 (.slc true 1 (.t 48) (some (.t 49)) none), Xb 51 (.call (.fn 35) false [.lend (.t 50)]), Xm 47 51, Xq 52 (.ext 47 0), Xq 53 (.ext 47 1), Xq 54 (.ext 47 2), Xb 8 (.alloc 74 [.i, .z, .i, .i]), Xz (.store 4 (.t 8) (.t 52)), Xa 9 53, Xa 10 54]) (.seq (.seq (.reg [Xm 55 10, Xq 56 (.bin false .neq (.t 55) (.i 0))]) (.cond (.t 56) (.seq (.reg [Xm 57 10, Xm 58 6, Xb 2 (.asg (.nils 74 4)), Xa 3 57,
 Xa 4 58]) .ret) .skip)) (.seq (.reg [Xm 59 6, Xf 60 3 8, Xz (.store 1 (.t 60) (.t 59))]) (.seq (.reg [Xm 61 5, XL 62 4 8, Xb 63 (.bsl 74 4 [.t 62]), Xb 64 (.app true 74 4 40 (.t 61) (.t 63)), Xa 5 64]) (.reg [Xm 65 6, Xm 66 9, Xq 67 (.bin false .add (.t 65) (.t 66)), Xa 6 67]))))))))))) (.seq (.seq (.reg [Xm 68 5, Xn 69 68, Xq 70 (.bin false .gtr (.t 69) (.i 300))]) (.cond (.t 70) (.seq (.reg [Xb
 2 (.asg (.nils 74 4)), Xb 3 (.asg (.i 5)), Xb 4 (.asg (.i 0))]) .ret) .skip)) (.seq (.reg [Xm 71 5, Xa 2 71, Xb 3 (.asg (.i 0)), Xb 4 (.asg (.i 0))]) .ret))))))
def rt3 (R : List Tok ⊕ (Int × Int)) : List AV := [.usl 74 4 ((rtL R).map Tok.z), .v (.int .i64 (rtC R)), .v (.int .i64 (rtA R))]
set_option maxHeartbeats 4000000 in
set_option maxRecDepth 100000 in
theorem d19 (s : ByteArray) (hs : (s.size : Int) ≤ 9223372036854775807) : Does Go.Proofs.Tryz.prog 19 [.v (.string s)] false (.tup (rt3 (readN s))) [.dead] := by
  refine does_intro (mc := m19) (N := 72) (rs := [2, 3, 4]) (fx := []) 1 rfl (by decide +kernel) ?_
  simp only [m19, EV, Nat.reduceEqDiff, Nat.reduceBEq, Nat.reduceLT, Nat.reduceLeDiff, Nat.reduceAdd, Nat.reduceSub, reduceIte]
  rcases f0 : decide ((1200 : Int) < s.size) with _ | _
  rotate_left
  · have h0 : readN s = .inr (1, 0) := by unfold readN; rw [if_pos (by have : (1200 : Int) < s.size := by simpa using f0
                                                                       omega)]
    simp only [f0, EV, Nat.reduceEqDiff, Nat.reduceBEq, Nat.reduceLT, Nat.reduceLeDiff, Nat.reduceAdd, Nat.reduceSub, reduceIte]
    simp only [h0, rt3, rtL, rtC, rtA, List.map_nil, EV, Nat.reduceEqDiff, Nat.reduceBEq, Nat.reduceLT, Nat.reduceLeDiff, Nat.reduceAdd, Nat.reduceSub, reduceIte, evRE, retVC, cellV', evR, nfz, nfzs, nfzss, List.contains_nil, List.contains_cons, Bool.or_false, or_true]
  have hs2 : (s.size : Int) ≤ 1200 := by have : ¬ (1200 : Int) < s.size := by simpa using f0
                                         omega
  have h0 : readN s = rdT s 0 [] := by unfold readN; rw [if_neg (by omega)]
  rw [h0]
  generalize hR : rdT s 0 [] = R
  simp only [f0, EV, Nat.reduceEqDiff, Nat.reduceBEq, Nat.reduceLT, Nat.reduceLeDiff, Nat.reduceAdd, Nat.reduceSub, reduceIte]
  refine awp_loop (fun p : Nat × List Tok => p.1 ≤ s.size ∧ p.2.length ≤ p.1 ∧ R = rdT s p.1 p.2) (fun p => stl [(0, .v (.string s)), (5, .usl 74 4 (p.2.map Tok.z)), (6, .v (.int .i64 (p.1 : Int))), (14, .dead), (64, .dead)]) (fun p => s.size - p.1) (0, []) ⟨Nat.zero_le _, by simp, hR.symm⟩ ?_ ?_
  · simp only [EV, Nat.reduceEqDiff, Nat.reduceBEq, Nat.reduceLT, Nat.reduceLeDiff, Nat.reduceAdd, Nat.reduceSub, reduceIte]
    rfl
  rintro ⟨i, out⟩ ⟨g1, g2, g3⟩
  simp only at g1 g2 g3
  have i0 : (0 : Int) ≤ (i : Int) := by omega
  have htl : List.take out.length (out.map Tok.z) = out.map Tok.z := List.take_of_length_le (by simp)
  simp only [EV, Nat.reduceEqDiff, Nat.reduceBEq, Nat.reduceLT, Nat.reduceLeDiff, Nat.reduceAdd, Nat.reduceSub, reduceIte]
  rcases f1 : decide ((i : Int) < s.size) with _ | _
  · have hi : ¬ i < s.size := by have : ¬ (i : Int) < s.size := by simpa using f1
                                 omega
    rw [rdT_end hi] at g3
    simp only [f1, htl, Tok.frz, EV, Nat.reduceEqDiff, Nat.reduceBEq, Nat.reduceLT, Nat.reduceLeDiff, Nat.reduceAdd, Nat.reduceSub, reduceIte]
    rcases f2 : decide ((300 : Int) < out.length) with _ | _
    · rw [if_neg (by have : ¬ (300 : Int) < out.length := by simpa using f2
                     omega)] at g3
      simp only [f2, EV, Nat.reduceEqDiff, Nat.reduceBEq, Nat.reduceLT, Nat.reduceLeDiff, Nat.reduceAdd, Nat.reduceSub, reduceIte]
      simp only [g3, rt3, rtL, rtC, rtA, Tok.nfz, EV, Nat.reduceEqDiff, Nat.reduceBEq, Nat.reduceLT, Nat.reduceLeDiff, Nat.reduceAdd, Nat.reduceSub, reduceIte, evRE, retVC, cellV', evR, nfz, nfzs, nfzss, List.contains_nil, List.contains_cons, Bool.or_false, or_true]
    · rw [if_pos (by have : (300 : Int) < out.length := by simpa using f2
                     omega)] at g3
      simp only [f2, EV, Nat.reduceEqDiff, Nat.reduceBEq, Nat.reduceLT, Nat.reduceLeDiff, Nat.reduceAdd, Nat.reduceSub, reduceIte]
      simp only [g3, rt3, rtL, rtC, rtA, List.map_nil, EV, Nat.reduceEqDiff, Nat.reduceBEq, Nat.reduceLT, Nat.reduceLeDiff, Nat.reduceAdd, Nat.reduceSub, reduceIte, evRE, retVC, cellV', evR, nfz, nfzs, nfzss, List.contains_nil, List.contains_cons, Bool.or_false, or_true]
  have hi : i < s.size := by have : (i : Int) < s.size := by simpa using f1
                             omega
  have hiI : (i : Int) < s.size := by omega
  have hile : (i : Int) ≤ s.size := by omega
  have w1 := w64 ((i : Int) + 1) (by omega)
  have hz : (s.extract i s.size).size = s.size - i := by rw [ByteArray.size_extract]; omega
  have ti : ((i : Nat) : Int).toNat = i := rfl
  simp only [f1, i0, hiI, EV, Nat.reduceEqDiff, Nat.reduceBEq, Nat.reduceLT, Nat.reduceLeDiff, Nat.reduceAdd, Nat.reduceSub, reduceIte]
  rcases b1 : (sAt s (i : Int) == 32) with _ | _
  rotate_left
  · have hbl : blank s i = true := by simp [blank, b1]
    rw [rdT_blank hi hbl] at g3
    simp only [b1, w1, EV, Nat.reduceEqDiff, Nat.reduceBEq, Nat.reduceLT, Nat.reduceLeDiff, Nat.reduceAdd, Nat.reduceSub, reduceIte]
    exact ⟨(i + 1, out), ⟨by simp only; omega, by simp only; omega, g3⟩, by simp only; omega, rfl⟩
  rcases b2 : (sAt s (i : Int) == 10) with _ | _
  rotate_left
  · have hbl : blank s i = true := by simp [blank, b2]
    rw [rdT_blank hi hbl] at g3
    simp only [b1, b2, i0, hiI, w1, EV, Nat.reduceEqDiff, Nat.reduceBEq, Nat.reduceLT, Nat.reduceLeDiff, Nat.reduceAdd, Nat.reduceSub, reduceIte]
    exact ⟨(i + 1, out), ⟨by simp only; omega, by simp only; omega, g3⟩, by simp only; omega, rfl⟩
  have hbl : blank s i = false := by simp [blank, b1, b2]
  simp only [b1, b2, i0, hiI, hile, ti, w1, EV, Nat.reduceEqDiff, Nat.reduceBEq, Nat.reduceLT, Nat.reduceLeDiff, Nat.reduceAdd, Nat.reduceSub, reduceIte]
  have hpf := d33 (s.extract i s.size) ⟨#[40, 42]⟩ (by omega) (by decide)
  have e2z : (((⟨#[40, 42]⟩ : ByteArray).size : Nat) : Int) = ((2 : Nat) : Int) := rfl
  have e2n : (⟨#[40, 42]⟩ : ByteArray).size = 2 := rfl
  rw [e2z, e2n, has_open s hi] at hpf
  repeat (refine And.intro (by omega) ?_)
  refine callK_i hpf ?_
  simp only [EV, Nat.reduceEqDiff, Nat.reduceBEq, Nat.reduceLT, Nat.reduceLeDiff, Nat.reduceAdd, Nat.reduceSub, reduceIte]
  rcases o : (decide (i + 1 < s.size) && isOpen s i) with _ | _
  · have hno : ¬ (i + 1 < s.size ∧ isOpen s i = true) := by
      rintro ⟨x, y⟩; rw [decide_eq_true x, y] at o; cases o
    simp only [i0, hile, ti, EV, Nat.reduceEqDiff, Nat.reduceBEq, Nat.reduceLT, Nat.reduceLeDiff, Nat.reduceAdd, Nat.reduceSub, reduceIte]
    repeat (refine And.intro (by omega) ?_)
    refine callK_i (d35 (s.extract i s.size) (by omega) (by omega)) ?_
    have hsh := tokN_shift s hi
    rcases hq : tokN (s.extract i s.size) 0 with t | k
    · rw [hq] at hsh
      simp only at hsh
      have htz := tokN_size hi hq
      have hin := (tokN_in hi hsh).1
      simp only at hin
      rw [rdT_tok hi hbl hno hsh] at g3
      simp only at g3
      have hU : tokU (s.extract i s.size) = (t, (t.text.size : Int), 0) := by unfold tokU; rw [hq]
      have ws := w64 ((i : Int) + (t.text.size : Int)) (by omega)
      have hne0 : ((0 : Int) != 0) = false := by decide
      simp only [hU, htl, ws, Tok.z, EV, Nat.reduceEqDiff, Nat.reduceBEq, Nat.reduceLT, Nat.reduceLeDiff, Nat.reduceAdd, Nat.reduceSub, reduceIte]
      repeat (refine And.intro (by omega) ?_)
      refine ⟨(i + t.text.size, out ++ [{ t with pos := (i : Int) }]), ⟨by simp only; omega, by simp only [List.length_append, List.length_cons, List.length_nil]; omega, g3⟩, by simp only; omega, ?_⟩
      simp only [List.map_append, List.map_cons, List.map_nil, Tok.z]
      first | rfl | skip
    · rw [hq] at hsh
      simp only at hsh
      rw [rdT_bad hi hbl hno hsh] at g3
      have hk := tokN_bad hq
      have hU : tokU (s.extract i s.size) = (tok0, 0, k) := by unfold tokU; rw [hq]
      have hk2 : (k != 0) = true := by simp; omega
      simp only [hU, tok0, Tok.z, hk2, EV, Nat.reduceEqDiff, Nat.reduceBEq, Nat.reduceLT, Nat.reduceLeDiff, Nat.reduceAdd, Nat.reduceSub, reduceIte]
      simp only [g3, rt3, rtL, rtC, rtA, List.map_nil, EV, Nat.reduceEqDiff, Nat.reduceBEq, Nat.reduceLT, Nat.reduceLeDiff, Nat.reduceAdd, Nat.reduceSub, reduceIte, evRE, retVC, cellV', evR, nfz, nfzs, nfzss, List.contains_nil, List.contains_cons, Bool.or_false, or_true]
  · simp only [Bool.and_eq_true, decide_eq_true_eq] at o
    have e0 := sAt_cut s (a := i) (b := s.size) (i := 0) (by omega) (Nat.le_refl _)
    have e1 := sAt_cut s (a := i) (b := s.size) (i := 0 + 1) (by omega) (Nat.le_refl _)
    have ho : isOpen (s.extract i s.size) 0 = true := by
      have := o.2
      unfold isOpen at this ⊢
      rw [e0, e1]; exact this
    have hrs := rem_shift s i (s.size - (i + 0)) 0 0 (Nat.le_refl _)
    rw [Nat.add_zero] at hrs
    simp only [i0, hile, ti, EV, Nat.reduceEqDiff, Nat.reduceBEq, Nat.reduceLT, Nat.reduceLeDiff, Nat.reduceAdd, Nat.reduceSub, reduceIte]
    repeat (refine And.intro (by omega) ?_)
    refine callK_i (d34 (s.extract i s.size) (by omega) (by omega) ho) ?_
    rcases hr : rem (s.extract i s.size) 0 0 with _ | e
    · rw [hr] at hrs
      rw [rdT_none hi hbl o hrs] at g3
      simp only [EV, Nat.reduceEqDiff, Nat.reduceBEq, Nat.reduceLT, Nat.reduceLeDiff, Nat.reduceAdd, Nat.reduceSub, reduceIte]
      simp only [g3, rt3, rtL, rtC, rtA, List.map_nil, EV, Nat.reduceEqDiff, Nat.reduceBEq, Nat.reduceLT, Nat.reduceLeDiff, Nat.reduceAdd, Nat.reduceSub, reduceIte, evRE, retVC, cellV', evR, nfz, nfzs, nfzss, List.contains_nil, List.contains_cons, Bool.or_false, or_true]
    · rw [hr, Option.map_some] at hrs
      rw [rdT_some hi hbl o hrs] at g3
      have he := rem_in s _ _ _ _ (Nat.le_refl _) hrs
      have he2 : ((e : Int) == 0) = false := by simp; omega
      have we := w64 ((i : Int) + (e : Int)) (by omega)
      simp only [he2, we, EV, Nat.reduceEqDiff, Nat.reduceBEq, Nat.reduceLT, Nat.reduceLeDiff, Nat.reduceAdd, Nat.reduceSub, reduceIte]
      exact ⟨(i + e, out), ⟨he.2, by simp only; omega, g3⟩, by simp only; omega, rfl⟩
end Go.AM
namespace Go.AM
set_option linter.unusedVariables false
set_option linter.unusedSimpArgs false
def txAt (L : List Tok) (i : Nat) (s : ByteArray) : Bool := match L[i]? with | some t => t.text.toList == s.toList | none => false
def kdAt (L : List Tok) (i : Nat) (k : Int) : Bool := match L[i]? with | some t => t.kind == k | none => false
def sMOD : ByteArray := ⟨#[77, 79, 68, 85, 76, 69]⟩
def sIMP : ByteArray := ⟨#[73, 77, 80, 79, 82, 84]⟩
def sSEM : ByteArray := ⟨#[59]⟩
def sCOM : ByteArray := ⟨#[44]⟩
def nmAt (L : List Tok) (i : Nat) : ByteArray := ((L[i]?).map Tok.text).getD ⟨#[]⟩
theorem kdAt_lt {L : List Tok} {i : Nat} {k : Int} (h : kdAt L i k = true) : i < L.length := by
  unfold kdAt at h
  split at h
  · rename_i t e; exact (List.getElem?_eq_some_iff.1 e).1
  · cases h
def impG (L : List Tok) (i : Nat) (out : List ByteArray) : Option (List ByteArray) :=
  if h : kdAt L i 1 = true then
    if txAt L (i + 1) sCOM = true then impG L (i + 2) (out ++ [nmAt L i])
    else if txAt L (i + 1) sSEM = true then some (out ++ [nmAt L i]) else none
  else none
  termination_by L.length - i
  decreasing_by have := kdAt_lt h; omega
def impP (L : List Tok) : Option (List ByteArray) :=
  if txAt L 0 sMOD = true ∧ kdAt L 1 1 = true ∧ txAt L 2 sSEM = true then
    if txAt L 3 sIMP = true then impG L 4 [] else some []
  else none
def impN (s : ByteArray) : Option (List ByteArray) := match readN s with
  | .inl L => impP L
  | .inr _ => none
end Go.AM
namespace Go.AM
set_option linter.unusedVariables false
set_option linter.unusedSimpArgs false
structure Cmp where
  L : List Tok
  at' : Nat
  nm : ByteArray
  im : List ByteArray
  lg : Int
def Cmp.z (c : Cmp) : List AV := [.usl 74 4 (c.L.map Tok.z), .v (.int .i64 (c.at' : Int)), .v (.int .i64 0), .usl 44 5 [], .v (.string c.nm), .usl 9 1 (c.im.map sv), .usl 199 6 [], .usl 202 6 [], .usl 204 2 [], .v (.int .i64 c.lg), .usl 209 3 []]
def Cmp.b (c : Cmp) : AV := .box 57 c.z
def seesB (L : List Tok) (i : Nat) (kd : Int) (tx : List ByteArray) : Bool := match L[i]? with
  | some t => t.kind == kd && (tx.isEmpty || tx.any (eqSv t.text))
  | none => false
theorem seesB_lt {L : List Tok} {i : Nat} {kd : Int} {tx : List ByteArray} (h : seesB L i kd tx = true) : i < L.length := by
  unfold seesB at h
  split at h
  · rename_i t e; exact (List.getElem?_eq_some_iff.1 e).1
  · cases h
def m61 : MC :=
 (.seq (.reg [Xb 6 (.asg .fb)]) (.seq (.dreg [Xm 7 0, Xq 8 (.nilchk (.t 7)), Xf 9 2 8, Xl 10 1 9, Xq 11 (.bin false .eql (.t 10) (.i 0)), Xm 12 11, Xt 13 12 (.mov (.t 0)), Xt 14 12 (.nilchk (.t 13)), Xt 15 12 (.fad 1 (.t 14)), Xt 16 12 (.load false 1 (.t 15)), Xt 17 12 (.mov (.t 0)), Xt 18 12 (.nilchk (.t 17)), Xt 19 12 (.fad 0 (.t 18)), Xt 20 12 (.load false 1 (.t 19)), Xt 21 12 (.len false (.t
 20)), Xt 22 12 (.bin false .lss (.t 16) (.t 21)), Xq 23 (.pick (.t 12) (.t 22) .fb), Xm 24 23, Xt 25 24 (.mov (.t 0)), Xt 26 24 (.nilchk (.t 25)), Xt 27 24 (.fad 0 (.t 26)), Xt 28 24 (.load false 1 (.t 27)), Xt 29 24 (.mov (.t 0)), Xt 30 24 (.nilchk (.t 29)), Xt 31 24 (.fad 1 (.t 30)), Xt 32 24 (.load false 1 (.t 31)), Xt 33 24 (.iad 4 (.t 28) (.t 32)), Xt 34 24 (.fad 0 (.t 33)), Xt 35 24 (.load
 false 1 (.t 34)), Xt 36 24 (.mov (.t 1)), Xt 37 24 (.bin false .eql (.t 35) (.t 36)), Xq 38 (.pick (.t 24) (.t 37) .fb), Xm 39 38, Xt 40 39 (.mov (.t 2)), Xt 41 39 (.len false (.t 40)), Xt 42 39 (.bin false .eql (.t 41) (.i 0)), Xt 43 39 (.mov (.t 42)), Xu 44 43 (.mov (.t 2)), Xu 45 43 (.mov (.t 0)), Xu 46 43 (.nilchk (.t 45)), Xu 47 43 (.fad 0 (.t 46)), Xu 48 43 (.load false 1 (.t 47)), Xu 49 43
 (.mov (.t 0)), Xu 50 43 (.nilchk (.t 49)), Xu 51 43 (.fad 1 (.t 50)), Xu 52 43 (.load false 1 (.t 51)), Xu 53 43 (.iad 4 (.t 48) (.t 52)), Xu 54 43 (.fad 1 (.t 53)), Xu 55 43 (.load false 1 (.t 54)), XU 56 43 (.call (.fn 40) false [.lend (.t 44), .lend (.t 55)]), Xt 57 39 (.pick (.t 43) .tb (.t 56)), Xq 58 (.pick (.t 39) (.t 57) .fb), Xm 6 58]) .ret))
set_option maxHeartbeats 1000000 in
theorem d61 (c : Cmp) (kd : Int) (tx : List ByteArray) (hL : c.L.length < 4611686018427387904) (htx : tx.length < 9223372036854775807) :
    Does Go.Proofs.Tryz.prog 61 [c.b, .v (.int .i64 kd), .fsl 1 (tx.map sv)] false (.v (.bool (seesB c.L c.at' kd tx))) [c.b, .dead, .dead] := by
  obtain ⟨L, i, nm, im, lg⟩ := c
  simp only at hL ⊢
  refine does_intro (mc := m61) (N := 59) (rs := [6]) (fx := [0]) 3 rfl (by decide +kernel) ?_
  simp only [m61, Cmp.b, Cmp.z, evN, EV, Nat.reduceEqDiff, Nat.reduceBEq, Nat.reduceLT, Nat.reduceLeDiff, Nat.reduceAdd, Nat.reduceSub, reduceIte]
  rcases f0 : decide ((i : Int) < L.length) with _ | _
  · have h1 : ¬ i < L.length := by simpa using f0
    have hn : seesB L i kd tx = false := by unfold seesB; rw [List.getElem?_eq_none (by omega)]
    simp only [f0, h1, hn, Nat.lt_irrefl, evN, EV, Nat.reduceEqDiff, Nat.reduceBEq, Nat.reduceLT, Nat.reduceLeDiff, Nat.reduceAdd, Nat.reduceSub, reduceIte]
    simp only [EV, Nat.reduceEqDiff, Nat.reduceBEq, Nat.reduceLT, Nat.reduceLeDiff, Nat.reduceAdd, Nat.reduceSub, reduceIte, evRE, retVC, cellV', evR, nfz, nfzs, nfzss, List.contains_nil, List.contains_cons, Bool.or_false, or_true]
  · have h1 : i < L.length := by simpa using f0
    have h2 : (i : Int) < L.length := by omega
    have hn : seesB L i kd tx = ((L[i]).kind == kd && (tx.isEmpty || tx.any (eqSv (L[i]).text))) := by unfold seesB; rw [List.getElem?_eq_getElem h1]
    have e1 : nth (L.map Tok.z) i = (L[i]).z := nth_map h1
    rw [hn]
    simp only [f0, h1, h2, e1, Tok.z, evN, EV, Nat.reduceEqDiff, Nat.reduceBEq, Nat.reduceLT, Nat.reduceLeDiff, Nat.reduceAdd, Nat.reduceSub, reduceIte]
    rcases f1 : (L[i]).kind == kd with _ | _
    · simp only [f1, evN, EV, Nat.reduceEqDiff, Nat.reduceBEq, Nat.reduceLT, Nat.reduceLeDiff, Nat.reduceAdd, Nat.reduceSub, reduceIte]
      simp only [EV, Nat.reduceEqDiff, Nat.reduceBEq, Nat.reduceLT, Nat.reduceLeDiff, Nat.reduceAdd, Nat.reduceSub, reduceIte, evRE, retVC, cellV', evR, nfz, nfzs, nfzss, List.contains_nil, List.contains_cons, Bool.or_false, or_true]
    · rcases f2 : ((tx.length : Int) == 0) with _ | _
      · have ht : tx.isEmpty = false := by cases tx <;> simp_all
        simp only [f1, f2, ht, h1, h2, e1, Tok.z, evN, EV, Nat.reduceEqDiff, Nat.reduceBEq, Nat.reduceLT, Nat.reduceLeDiff, Nat.reduceAdd, Nat.reduceSub, reduceIte]
        refine callD_i (d40 tx (L[i]).text htx) rfl ?_
        simp only [evN, EV, Nat.reduceEqDiff, Nat.reduceBEq, Nat.reduceLT, Nat.reduceLeDiff, Nat.reduceAdd, Nat.reduceSub, reduceIte]
        simp only [EV, Nat.reduceEqDiff, Nat.reduceBEq, Nat.reduceLT, Nat.reduceLeDiff, Nat.reduceAdd, Nat.reduceSub, reduceIte, evRE, retVC, cellV', evR, nfz, nfzs, nfzss, List.contains_nil, List.contains_cons, Bool.or_false, or_true]
      · have ht : tx.isEmpty = true := by
          have : tx.length = 0 := by have := f2; simp only [beq_iff_eq] at this; omega
          simpa using List.length_eq_zero_iff.1 this
        simp only [f1, f2, ht, h1, h2, e1, Tok.z, evN, EV, Nat.reduceEqDiff, Nat.reduceBEq, Nat.reduceLT, Nat.reduceLeDiff, Nat.reduceAdd, Nat.reduceSub, reduceIte]
        simp only [EV, Nat.reduceEqDiff, Nat.reduceBEq, Nat.reduceLT, Nat.reduceLeDiff, Nat.reduceAdd, Nat.reduceSub, reduceIte, evRE, retVC, cellV', evR, nfz, nfzs, nfzss, List.contains_nil, List.contains_cons, Bool.or_false, or_true]
theorem frz_svs : ∀ l : List ByteArray, frzRows (l.map sv) = l.map sv
  | [] => by simp [frzRows]
  | s :: l => by simp [frzRows, sv, frzRow, frzL, frz_svs l]
def m38 : MC :=
 (.seq (.reg [Xb 6 (.asg .fb)]) (.seq (.seq (.frz 2 (.reg [Xm 7 0, Xm 8 1, Xm 9 2, Xb 10 (.call (.fn 61) false [.io (.t 7), .lend (.t 8), .lend (.t 9)]), Xq 11 (.un .not (.t 10))])) (.cond (.t 11) (.seq (.reg [Xb 6 (.asg .fb)]) .ret) .skip)) (.seq (.reg [Xm 12 0, Xq 13 (.nilchk (.t 12)), Xf 14 1 13, Xl 15 1 14, Xq 16 (.bin false .add (.t 15) (.i 1)), Xq 17 (.nilchk (.t 12)), Xf 18 1 17, Xz (.store
 1 (.t 18) (.t 16))]) (.seq (.reg [Xb 6 (.asg .tb)]) .ret))))
def Cmp.adv (c : Cmp) : Cmp := { c with at' := c.at' + 1 }
set_option maxHeartbeats 1000000 in
theorem take_core (c : Cmp) (kd : Int) (tx : List ByteArray) (hL : c.L.length < 4611686018427387904) (htx : tx.length < 9223372036854775807) (a : AV) (ha : a = .fsl 1 (tx.map sv) ∨ a = .usl 9 1 (tx.map sv)) :
    Does Go.Proofs.Tryz.prog 38 [c.b, .v (.int .i64 kd), a] false (.v (.bool (seesB c.L c.at' kd tx))) [if seesB c.L c.at' kd tx = true then c.adv.b else c.b, .dead, .dead] := by
  have ds := d61 c kd tx hL htx
  rcases hs : seesB c.L c.at' kd tx with _ | _
  · rw [hs] at ds
    simp only [Cmp.b, Cmp.z] at ds ⊢
    refine does_intro (mc := m38) (N := 19) (rs := [6]) (fx := [0]) 3 rfl (by decide +kernel) ?_
    rcases ha with rfl | rfl
    · simp only [m38, evN, EV, Nat.reduceEqDiff, Nat.reduceBEq, Nat.reduceLT, Nat.reduceLeDiff, Nat.reduceAdd, Nat.reduceSub, reduceIte]
      refine awp_frz_no ?_
      simp only [evN, EV, Nat.reduceEqDiff, Nat.reduceBEq, Nat.reduceLT, Nat.reduceLeDiff, Nat.reduceAdd, Nat.reduceSub, reduceIte]
      refine callK2_i ds rfl rfl ?_
      simp only [evN, EV, Nat.reduceEqDiff, Nat.reduceBEq, Nat.reduceLT, Nat.reduceLeDiff, Nat.reduceAdd, Nat.reduceSub, reduceIte]
      simp only [EV, Nat.reduceEqDiff, Nat.reduceBEq, Nat.reduceLT, Nat.reduceLeDiff, Nat.reduceAdd, Nat.reduceSub, reduceIte, evRE, retVC, cellV', evR, nfz, nfzs, nfzss, List.contains_nil, List.contains_cons, Bool.or_false, or_true]
    · simp only [m38, evN, EV, Nat.reduceEqDiff, Nat.reduceBEq, Nat.reduceLT, Nat.reduceLeDiff, Nat.reduceAdd, Nat.reduceSub, reduceIte]
      refine awp_frz rfl ?_
      simp only [frzS, frz_svs, evN, EV, Nat.reduceEqDiff, Nat.reduceBEq, Nat.reduceLT, Nat.reduceLeDiff, Nat.reduceAdd, Nat.reduceSub, reduceIte]
      refine callK2_i ds rfl rfl ?_
      simp only [frzS, frz_svs, evN, EV, Nat.reduceEqDiff, Nat.reduceBEq, Nat.reduceLT, Nat.reduceLeDiff, Nat.reduceAdd, Nat.reduceSub, reduceIte]
      simp only [frzS, frz_svs, EV, Nat.reduceEqDiff, Nat.reduceBEq, Nat.reduceLT, Nat.reduceLeDiff, Nat.reduceAdd, Nat.reduceSub, reduceIte, evRE, retVC, cellV', evR, nfz, nfzs, nfzss, List.contains_nil, List.contains_cons, Bool.or_false, or_true]
  · rw [hs] at ds
    have hlt := seesB_lt hs
    have w1 := w64 ((c.at' : Int) + 1) (by omega)
    simp only [Cmp.b, Cmp.z, Cmp.adv] at ds ⊢
    refine does_intro (mc := m38) (N := 19) (rs := [6]) (fx := [0]) 3 rfl (by decide +kernel) ?_
    rcases ha with rfl | rfl
    · simp only [m38, evN, EV, Nat.reduceEqDiff, Nat.reduceBEq, Nat.reduceLT, Nat.reduceLeDiff, Nat.reduceAdd, Nat.reduceSub, reduceIte]
      refine awp_frz_no ?_
      simp only [evN, EV, Nat.reduceEqDiff, Nat.reduceBEq, Nat.reduceLT, Nat.reduceLeDiff, Nat.reduceAdd, Nat.reduceSub, reduceIte]
      refine callK2_i ds rfl rfl ?_
      simp only [w1, evN, EV, Nat.reduceEqDiff, Nat.reduceBEq, Nat.reduceLT, Nat.reduceLeDiff, Nat.reduceAdd, Nat.reduceSub, reduceIte]
      simp only [w1, EV, Nat.reduceEqDiff, Nat.reduceBEq, Nat.reduceLT, Nat.reduceLeDiff, Nat.reduceAdd, Nat.reduceSub, reduceIte, evRE, retVC, cellV', evR, nfz, nfzs, nfzss, List.contains_nil, List.contains_cons, Bool.or_false, or_true]
      rfl
    · simp only [m38, evN, EV, Nat.reduceEqDiff, Nat.reduceBEq, Nat.reduceLT, Nat.reduceLeDiff, Nat.reduceAdd, Nat.reduceSub, reduceIte]
      refine awp_frz rfl ?_
      simp only [frzS, frz_svs, evN, EV, Nat.reduceEqDiff, Nat.reduceBEq, Nat.reduceLT, Nat.reduceLeDiff, Nat.reduceAdd, Nat.reduceSub, reduceIte]
      refine callK2_i ds rfl rfl ?_
      simp only [w1, frzS, frz_svs, evN, EV, Nat.reduceEqDiff, Nat.reduceBEq, Nat.reduceLT, Nat.reduceLeDiff, Nat.reduceAdd, Nat.reduceSub, reduceIte]
      simp only [w1, frzS, frz_svs, EV, Nat.reduceEqDiff, Nat.reduceBEq, Nat.reduceLT, Nat.reduceLeDiff, Nat.reduceAdd, Nat.reduceSub, reduceIte, evRE, retVC, cellV', evR, nfz, nfzs, nfzss, List.contains_nil, List.contains_cons, Bool.or_false, or_true]
      rfl
def m62 : MC :=
 (.seq (.reg [Xb 4 (.asg (.i 0))]) (.seq (.seq (.reg [Xm 5 1, Xm 6 0, Xq 7 (.nilchk (.t 6)), Xf 8 0 7, Xf 9 0 8, Xl 10 1 9, Xn 11 10, Xq 12 (.bin false .geq (.t 5) (.t 11))]) (.cond (.t 12) (.seq (.reg [Xm 13 0, Xq 14 (.nilchk (.t 13)), Xf 15 9 14, Xl 16 1 15, Xa 4 16]) .ret) .skip)) (.seq (.reg [Xm 17 0, Xq 18 (.nilchk (.t 17)), Xf 19 0 18, Xf 20 0 19, Xl 21 1 20, Xm 22 1, Xi 23 4 21 22, Xf 24 3
 23, Xl 25 1 24, Xa 4 25]) .ret)))
theorem d62 (c : Cmp) (k : Int) (hk : 0 ≤ k) (hL : c.L.length < 4611686018427387904) :
    ∃ n : Int, Does Go.Proofs.Tryz.prog 62 [c.b, .v (.int .i64 k)] false (.v (.int .i64 n)) [c.b, .dead] := by
  obtain ⟨L, i, nm, im, lg⟩ := c
  simp only at hL
  rcases f0 : decide ((L.length : Int) ≤ k) with _ | _
  · obtain ⟨j, rfl⟩ := Int.eq_ofNat_of_zero_le hk
    have h1 : j < L.length := by simpa using f0
    have h2 : (j : Int) < L.length := by omega
    have e1 : nth (L.map Tok.z) j = (L[j]).z := nth_map h1
    refine ⟨(L[j]).pos, ?_⟩
    refine does_intro (mc := m62) (N := 26) (rs := [4]) (fx := [0]) 2 rfl (by decide +kernel) ?_
    simp only [m62, Cmp.b, Cmp.z, f0, evN, EV, Nat.reduceEqDiff, Nat.reduceBEq, Nat.reduceLT, Nat.reduceLeDiff, Nat.reduceAdd, Nat.reduceSub, reduceIte]
    simp only [f0, h1, h2, e1, Tok.z, evN, EV, Nat.reduceEqDiff, Nat.reduceBEq, Nat.reduceLT, Nat.reduceLeDiff, Nat.reduceAdd, Nat.reduceSub, reduceIte]
    simp only [EV, Nat.reduceEqDiff, Nat.reduceBEq, Nat.reduceLT, Nat.reduceLeDiff, Nat.reduceAdd, Nat.reduceSub, reduceIte, evRE, retVC, cellV', evR, nfz, nfzs, nfzss, List.contains_nil, List.contains_cons, Bool.or_false, or_true]
  · refine ⟨lg, ?_⟩
    refine does_intro (mc := m62) (N := 26) (rs := [4]) (fx := [0]) 2 rfl (by decide +kernel) ?_
    simp only [m62, Cmp.b, Cmp.z, f0, evN, EV, Nat.reduceEqDiff, Nat.reduceBEq, Nat.reduceLT, Nat.reduceLeDiff, Nat.reduceAdd, Nat.reduceSub, reduceIte]
    simp only [EV, Nat.reduceEqDiff, Nat.reduceBEq, Nat.reduceLT, Nat.reduceLeDiff, Nat.reduceAdd, Nat.reduceSub, reduceIte, evRE, retVC, cellV', evR, nfz, nfzs, nfzss, List.contains_nil, List.contains_cons, Bool.or_false, or_true]
end Go.AM
namespace Go.AM
set_option linter.unusedVariables false
set_option linter.unusedSimpArgs false
def flt (code a : Int) : List PanicEntry := [{ v := .iface 59 (.agg #[.int .i64 code, .int .i64 a]), recovered := false }]
def isFlt (ch : List PanicEntry) : Prop := ∃ a, ch = flt 20 a
def m39 : MC :=
 (.seq (.reg [Xm 8 1]) (.cond (.t 8) (.panr [Xm 9 2, Xm 10 0, Xm 11 3, Xb 12 (.call (.fn 62) false [.io (.t 10), .lend (.t 11)]), Xb 13 (.build [0, 1] [0, 1] [1, 1] [.i, .i] [.t 9, .t 12])] 14 59 (.t 13)) .skip))
theorem d39 (c : Cmp) (k : Int) (hk : 0 ≤ k) (hL : c.L.length < 4611686018427387904) :
    DoesBad Go.Proofs.Tryz.prog 39 [c.b, .v (.bool true), .v (.int .i64 20), .v (.int .i64 k)] isFlt [c.b, .dead, .dead, .dead] := by
  obtain ⟨n, dp⟩ := d62 c k hk hL
  unfold DoesBad
  simp only [Cmp.b, Cmp.z] at dp ⊢
  refine doesP_intro (mc := m39) (N := 15) (rs := []) (fx := [0]) 4 rfl (by decide +kernel) ?_
  simp only [m39, evN, evPn, evPa, callpX, callpW, EV, Nat.reduceEqDiff, Nat.reduceBEq, Nat.reduceLT, Nat.reduceLeDiff, Nat.reduceAdd, Nat.reduceSub, reduceIte]
  refine callK2_i dp rfl rfl ?_
  simp only [evN, evPn, evPa, callpX, callpW, EV, Nat.reduceEqDiff, Nat.reduceBEq, Nat.reduceLT, Nat.reduceLeDiff, Nat.reduceAdd, Nat.reduceSub, reduceIte]
  simp only [evPn, evPa, callpX, callpW, EV, Nat.reduceEqDiff, Nat.reduceBEq, Nat.reduceLT, Nat.reduceLeDiff, Nat.reduceAdd, Nat.reduceSub, reduceIte, evRE, retVC, cellV', evR, nfz, nfzs, nfzss, List.contains_nil, List.contains_cons, Bool.or_false, or_true]
  exact ⟨_, rfl⟩
def m37 : MC :=
 (.seq (.reg [Xb 6 (.asg (.z #[]))]) (.join [0] (.seq (.frz 2 (.reg [Xm 7 0, Xq 8 (.nilchk (.t 7)), Xf 9 0 8, Xm 10 1, Xm 11 2, Xb 12 (.call (.fn 38) false [.io (.t 9), .lend (.t 10), .lend (.t 11)]), Xq 13 (.un .not (.t 12))])) (.cond (.t 13) (.regp [Xm 14 0, Xm 15 0, Xq 16 (.nilchk (.t 15)), Xf 17 0 16, Xf 18 1 17, Xl 19 1 18] (some 20) (.fn 39) false [.io (.t 14), .lend .tb, .lend (.i 20), .lend
 (.t 19)] []) .skip)) (.seq (.dreg [Xm 21 0, Xq 22 (.nilchk (.t 21)), Xf 23 0 22, Xf 24 0 23, Xl 25 1 24, Xm 26 0, Xq 27 (.nilchk (.t 26)), Xf 28 0 27, Xf 29 1 28, Xl 30 1 29, Xq 31 (.bin false .sub (.t 30) (.i 1)), Xi 32 4 25 31, Xf 33 1 32, Xl 34 1 33, Xm 6 34]) .ret)))
theorem must_ok (c : Cmp) (kd : Int) (tx : List ByteArray) (hL : c.L.length < 4611686018427387904) (htx : tx.length < 9223372036854775807) (a : AV) (ha : a = .fsl 1 (tx.map sv) ∨ a = .usl 9 1 (tx.map sv))
    (hs : seesB c.L c.at' kd tx = true) : DoesOk Go.Proofs.Tryz.prog 37 [c.b, .v (.int .i64 kd), a] (.v (.string (nmAt c.L c.at'))) [c.adv.b, .dead, .dead] := by
  have dt := take_core c kd tx hL htx (.fsl 1 (tx.map sv)) (.inl rfl)
  rw [hs, if_pos rfl] at dt
  have hlt := seesB_lt hs
  have w1 := w64 (c.at' : Int) (by omega)
  have e2 : ((c.at' : Int) + 1 - 1) = c.at' := by omega
  have e3 : (((c.at' + 1 : Nat) : Int) - 1) = c.at' := by omega
  have e1 : nth (c.L.map Tok.z) c.at' = (c.L[c.at']).z := nth_map hlt
  have e4 : nmAt c.L c.at' = (c.L[c.at']).text := by unfold nmAt; rw [List.getElem?_eq_getElem hlt]; rfl
  have h2 : (c.at' : Int) < c.L.length := by omega
  unfold DoesOk
  simp only [Cmp.b, Cmp.z, Cmp.adv] at dt ⊢
  refine doesP_intro (mc := m37) (N := 35) (rs := [6]) (fx := [0]) 3 rfl (by decide +kernel) ?_
  rcases ha with rfl | rfl
  · simp only [m37, evN, evPn, evPa, callpX, callpW, EV, Nat.reduceEqDiff, Nat.reduceBEq, Nat.reduceLT, Nat.reduceLeDiff, Nat.reduceAdd, Nat.reduceSub, reduceIte]
    refine awp_join (fun _ : Unit => True) (fun _ => stl [(0, c.adv.b)]) ?_ ?_
    · simp only [evN, evPn, evPa, callpX, callpW, EV, Nat.reduceEqDiff, Nat.reduceBEq, Nat.reduceLT, Nat.reduceLeDiff, Nat.reduceAdd, Nat.reduceSub, reduceIte]
      refine awp_frz_no ?_
      simp only [evN, evPn, evPa, callpX, callpW, EV, Nat.reduceEqDiff, Nat.reduceBEq, Nat.reduceLT, Nat.reduceLeDiff, Nat.reduceAdd, Nat.reduceSub, reduceIte]
      refine callK2_i dt rfl rfl ?_
      simp only [evN, evPn, evPa, callpX, callpW, EV, Nat.reduceEqDiff, Nat.reduceBEq, Nat.reduceLT, Nat.reduceLeDiff, Nat.reduceAdd, Nat.reduceSub, reduceIte]
      exact ⟨(), rfl⟩
    · intro _ _
      simp only [Int.toNat_natCast, Cmp.b, Cmp.z, Cmp.adv, w1, e2, e3, e1, hlt, h2, Tok.z, evN, evPn, evPa, callpX, callpW, EV, Nat.reduceEqDiff, Nat.reduceBEq, Nat.reduceLT, Nat.reduceLeDiff, Nat.reduceAdd, Nat.reduceSub, reduceIte]
      simp only [e4, evPn, evPa, callpX, callpW, EV, Nat.reduceEqDiff, Nat.reduceBEq, Nat.reduceLT, Nat.reduceLeDiff, Nat.reduceAdd, Nat.reduceSub, reduceIte, evRE, retVC, cellV', evR, nfz, nfzs, nfzss, List.contains_nil, List.contains_cons, Bool.or_false, or_true]
  · simp only [m37, evN, evPn, evPa, callpX, callpW, EV, Nat.reduceEqDiff, Nat.reduceBEq, Nat.reduceLT, Nat.reduceLeDiff, Nat.reduceAdd, Nat.reduceSub, reduceIte]
    refine awp_join (fun _ : Unit => True) (fun _ => stl [(0, c.adv.b)]) ?_ ?_
    · simp only [evN, evPn, evPa, callpX, callpW, EV, Nat.reduceEqDiff, Nat.reduceBEq, Nat.reduceLT, Nat.reduceLeDiff, Nat.reduceAdd, Nat.reduceSub, reduceIte]
      refine awp_frz rfl ?_
      simp only [frzS, frz_svs, evN, evPn, evPa, callpX, callpW, EV, Nat.reduceEqDiff, Nat.reduceBEq, Nat.reduceLT, Nat.reduceLeDiff, Nat.reduceAdd, Nat.reduceSub, reduceIte]
      refine callK2_i dt rfl rfl ?_
      simp only [frzS, frz_svs, evN, evPn, evPa, callpX, callpW, EV, Nat.reduceEqDiff, Nat.reduceBEq, Nat.reduceLT, Nat.reduceLeDiff, Nat.reduceAdd, Nat.reduceSub, reduceIte]
      exact ⟨(), rfl⟩
    · intro _ _
      simp only [Int.toNat_natCast, Cmp.b, Cmp.z, Cmp.adv, w1, e2, e3, e1, hlt, h2, Tok.z, evN, evPn, evPa, callpX, callpW, EV, Nat.reduceEqDiff, Nat.reduceBEq, Nat.reduceLT, Nat.reduceLeDiff, Nat.reduceAdd, Nat.reduceSub, reduceIte]
      simp only [e4, evPn, evPa, callpX, callpW, EV, Nat.reduceEqDiff, Nat.reduceBEq, Nat.reduceLT, Nat.reduceLeDiff, Nat.reduceAdd, Nat.reduceSub, reduceIte, evRE, retVC, cellV', evR, nfz, nfzs, nfzss, List.contains_nil, List.contains_cons, Bool.or_false, or_true]
theorem must_bad (c : Cmp) (kd : Int) (tx : List ByteArray) (hL : c.L.length < 4611686018427387904) (htx : tx.length < 9223372036854775807) (a : AV) (ha : a = .fsl 1 (tx.map sv) ∨ a = .usl 9 1 (tx.map sv))
    (hs : seesB c.L c.at' kd tx = false) : DoesBad Go.Proofs.Tryz.prog 37 [c.b, .v (.int .i64 kd), a] isFlt [c.b, .dead, .dead] := by
  have dt := take_core c kd tx hL htx (.fsl 1 (tx.map sv)) (.inl rfl)
  rw [hs, if_neg (by simp)] at dt
  have dp := d39 c c.at' (by omega) hL
  simp only [Cmp.b, Cmp.z] at dt dp ⊢
  unfold DoesBad
  refine doesP_intro (mc := m37) (N := 35) (rs := [6]) (fx := [0]) 3 rfl (by decide +kernel) ?_
  rcases ha with rfl | rfl
  · simp only [m37, evN, evPn, evPa, callpX, callpW, EV, Nat.reduceEqDiff, Nat.reduceBEq, Nat.reduceLT, Nat.reduceLeDiff, Nat.reduceAdd, Nat.reduceSub, reduceIte]
    refine awp_join (fun _ : Unit => False) (fun _ => stl []) ?_ (fun _ h => h.elim)
    simp only [evN, evPn, evPa, callpX, callpW, EV, Nat.reduceEqDiff, Nat.reduceBEq, Nat.reduceLT, Nat.reduceLeDiff, Nat.reduceAdd, Nat.reduceSub, reduceIte]
    refine awp_frz_no ?_
    simp only [evN, evPn, evPa, callpX, callpW, EV, Nat.reduceEqDiff, Nat.reduceBEq, Nat.reduceLT, Nat.reduceLeDiff, Nat.reduceAdd, Nat.reduceSub, reduceIte]
    refine callK2_i dt rfl rfl ?_
    simp only [evN, evPn, evPa, callpX, callpW, EV, Nat.reduceEqDiff, Nat.reduceBEq, Nat.reduceLT, Nat.reduceLeDiff, Nat.reduceAdd, Nat.reduceSub, reduceIte]
    refine callp2_bad dp rfl rfl fun ch hch => ?_
    simp only [evN, evPn, evPa, callpX, callpW, EV, Nat.reduceEqDiff, Nat.reduceBEq, Nat.reduceLT, Nat.reduceLeDiff, Nat.reduceAdd, Nat.reduceSub, reduceIte]
    simp only [hch, evPn, evPa, callpX, callpW, EV, Nat.reduceEqDiff, Nat.reduceBEq, Nat.reduceLT, Nat.reduceLeDiff, Nat.reduceAdd, Nat.reduceSub, reduceIte, evRE, retVC, cellV', evR, nfz, nfzs, nfzss, List.contains_nil, List.contains_cons, Bool.or_false, or_true]
  · simp only [m37, evN, evPn, evPa, callpX, callpW, EV, Nat.reduceEqDiff, Nat.reduceBEq, Nat.reduceLT, Nat.reduceLeDiff, Nat.reduceAdd, Nat.reduceSub, reduceIte]
    refine awp_join (fun _ : Unit => False) (fun _ => stl []) ?_ (fun _ h => h.elim)
    simp only [evN, evPn, evPa, callpX, callpW, EV, Nat.reduceEqDiff, Nat.reduceBEq, Nat.reduceLT, Nat.reduceLeDiff, Nat.reduceAdd, Nat.reduceSub, reduceIte]
    refine awp_frz rfl ?_
    simp only [frzS, frz_svs, evN, evPn, evPa, callpX, callpW, EV, Nat.reduceEqDiff, Nat.reduceBEq, Nat.reduceLT, Nat.reduceLeDiff, Nat.reduceAdd, Nat.reduceSub, reduceIte]
    refine callK2_i dt rfl rfl ?_
    simp only [frzS, frz_svs, evN, evPn, evPa, callpX, callpW, EV, Nat.reduceEqDiff, Nat.reduceBEq, Nat.reduceLT, Nat.reduceLeDiff, Nat.reduceAdd, Nat.reduceSub, reduceIte]
    refine callp2_bad dp rfl rfl fun ch hch => ?_
    simp only [frzS, frz_svs, evN, evPn, evPa, callpX, callpW, EV, Nat.reduceEqDiff, Nat.reduceBEq, Nat.reduceLT, Nat.reduceLeDiff, Nat.reduceAdd, Nat.reduceSub, reduceIte]
    simp only [hch, frzS, frz_svs, evPn, evPa, callpX, callpW, EV, Nat.reduceEqDiff, Nat.reduceBEq, Nat.reduceLT, Nat.reduceLeDiff, Nat.reduceAdd, Nat.reduceSub, reduceIte, evRE, retVC, cellV', evR, nfz, nfzs, nfzss, List.contains_nil, List.contains_cons, Bool.or_false, or_true]
end Go.AM
namespace Go.AM
set_option linter.unusedVariables false
set_option linter.unusedSimpArgs false
structure KindOk (L : List Tok) : Prop where
  md : ∀ i, seesB L i 2 [sMOD] = txAt L i sMOD
  imp : ∀ i, seesB L i 2 [sIMP] = txAt L i sIMP
  sem : ∀ i, seesB L i 4 [sSEM] = txAt L i sSEM
  com : ∀ i, seesB L i 4 [sCOM] = txAt L i sCOM
theorem sees_nm {L : List Tok} {i : Nat} : seesB L i 1 [] = kdAt L i 1 := by
  unfold seesB kdAt
  cases L[i]? <;> simp
def m22 : MC :=
 (.seq (.regp [Xm 6 0, Xb 7 (.bsl 9 1 [.z #[77, 79, 68, 85, 76, 69]])] (some 8) (.fn 37) false [.io (.t 6), .lend (.i 2), .give (.t 7)] []) (.seq (.regp [Xm 9 0, Xm 10 0] (some 11) (.fn 37) false [.io (.t 10), .lend (.i 1), .give (.nils 9 1)] [Xq 12 (.nilchk (.t 9)), Xf 13 4 12, Xf 14 0 13, Xz (.store 1 (.t 14) (.t 11))]) (.seq (.regp [Xm 15 0, Xb 16 (.bsl 9 1 [.z #[59]])] (some 17) (.fn 37) false
 [.io (.t 15), .lend (.i 4), .give (.t 16)] []) (.seq (.seq (.reg [Xm 18 0, Xq 19 (.nilchk (.t 18)), Xf 20 0 19, Xb 21 (.bsl 9 1 [.z #[73, 77, 80, 79, 82, 84]]), Xb 22 (.call (.fn 38) false [.io (.t 20), .lend (.i 2), .give (.t 21)]), Xq 23 (.un .not (.t 22))]) (.cond (.t 23) .ret .skip)) (.seq (.seq (.reg [Xb 4 (.asg .tb)]) (.block 0 (.loop [0, 1, 4] (.seq (.seq (.reg [Xm 24 4]) (.cond (.t 24)
 .skip (.exit 0))) (.join [0, 1] (.block 1 (.seq (.regp [Xm 30 0] (some 31) (.fn 37) false [.io (.t 30), .lend (.i 1), .give (.nils 9 1)] [Xa 5 31]) (.join [0, 1, 5] (.seq (.reg [Xm 32 1, Xq 33 (.un .not (.t 32))]) (.cond (.t 33) (.seq (.mix [0] [0, 1, 5] [] [0] [1, 2, 3, 4, 5, 8, 9, 10, 11, 12] [0, 6, 13, 7, 14] [Xm 35 0, Xq 36 (.nilchk (.t 35)), Xf 37 4 36, Xf 38 1 37, Xl 39 1 38, Xm 42 0, Xq 43
 (.nilchk (.t 42)), Xf 44 0 43, Xf 45 1 44, Xl 46 1 45] [Xm 34 0, Xm 40 5, Xq 47 (.bin false .sub (.t 46) (.i 1)), Xb 41 (.call (.fn 40) false [.lend (.t 39), .lend (.t 40)]), Xb 48 (.call (.fn 39) false [.io (.t 34), .lend (.t 41), .lend (.i 31), .lend (.t 47)])]) (.seq (.mix [0, 5] [0, 1, 5] [] [0, 5] [1, 2, 3, 4, 5, 6, 7, 8, 9, 10, 11, 12, 17, 18, 19, 20, 21] [0, 13, 22, 14, 15, 16, 23] [Xm 50
 5, Xm 51 0, Xq 52 (.nilchk (.t 51)), Xf 53 4 52, Xf 54 0 53, Xl 55 1 54, Xq 56 (.bin false .eql (.t 50) (.t 55)), Xm 57 56, Xu 58 57 (.mov (.t 0)), Xu 59 57 (.nilchk (.t 58)), Xu 60 57 (.fad 3 (.t 59)), Xu 61 57 (.load false 1 (.t 60)), Xm 66 0, Xq 67 (.nilchk (.t 66)), Xf 68 0 67, Xf 69 1 68, Xl 70 1 69] [Xm 49 0, Xu 62 57 (.mov (.t 5)), Xq 71 (.bin false .sub (.t 70) (.i 1)), XU 63 57 (.call
 (.fn 41) false [.lend (.t 61), .lend (.t 62)]), Xu 64 57 (.bin false .lss (.t 63) (.i 0)), Xq 65 (.pick (.t 57) .tb (.t 64)), Xb 72 (.call (.fn 39) false [.io (.t 49), .lend (.t 65), .lend (.i 35), .lend (.t 71)])]) (.mix [0] [0, 1, 5] [] [0] [1, 2, 3, 4, 5, 6, 8, 9, 10, 11, 12] [0, 7, 13, 14] [Xm 74 0, Xq 75 (.nilchk (.t 74)), Xf 76 4 75, Xf 77 1 76, Xl 78 1 77, Xn 79 78, Xm 81 0, Xq 82 (.nilchk
 (.t 81)), Xf 83 0 82, Xf 84 1 83, Xl 85 1 84] [Xm 73 0, Xq 80 (.bin false .eql (.t 79) (.i 4)), Xq 86 (.bin false .sub (.t 85) (.i 1)), Xb 87 (.call (.fn 39) false [.io (.t 73), .lend (.t 80), .lend (.i 34), .lend (.t 86)])]))) .skip)) (.reg [Xm 88 0, Xm 89 0, Xq 90 (.nilchk (.t 89)), Xf 91 4 90, Xf 92 1 91, Xl 93 1 92, Xm 94 5, Xb 95 (.bsl 9 1 [.t 94]), Xb 96 (.app true 9 1 16 (.t 93) (.t 95)),
 Xq 97 (.nilchk (.t 88)), Xf 98 4 97, Xf 99 1 98, Xz (.store 1 (.t 99) (.t 96))])))) (.reg [Xm 25 0, Xq 26 (.nilchk (.t 25)), Xf 27 0 26, Xb 28 (.bsl 9 1 [.z #[44]]), Xb 29 (.call (.fn 38) false [.io (.t 27), .lend (.i 4), .give (.t 28)]), Xa 4 29])))))) (.regp [Xm 100 0, Xb 101 (.bsl 9 1 [.z #[59]])] (some 102) (.fn 37) false [.io (.t 100), .lend (.i 4), .give (.t 101)] []))))))
theorem impG_eq (L : List Tok) (i : Nat) (out : List ByteArray) : impG L i out =
  if kdAt L i 1 = true then
    if txAt L (i + 1) sCOM = true then impG L (i + 2) (out ++ [nmAt L i])
    else if txAt L (i + 1) sSEM = true then some (out ++ [nmAt L i]) else none
  else none := by
  rw [impG]
  split <;> rfl
def Cmp.named (c : Cmp) : Cmp := { c.adv.adv with nm := nmAt c.L c.adv.at' }
def Cmp.put (c : Cmp) : Cmp := { c.adv with im := c.im ++ [nmAt c.L c.at'] }
set_option maxHeartbeats 4000000 in
theorem d22 (c : Cmp) (h0 : c.at' = 0) (him : c.im = []) (hk : KindOk c.L) (hL : c.L.length < 1000000) :
    DoesP Go.Proofs.Tryz.prog 22 [c.b, .v (.bool true)] false (fun r o => r = .tup [] ∧ ∃ c' : Cmp, impP c.L = some c'.im ∧ o = [c'.b, .dead]) (fun ch o => isFlt ch ∧ ∃ c' : Cmp, impP c.L = none ∧ o = [c'.b, .dead]) := by
  have hL' : c.L.length < 4611686018427387904 := by omega
  refine doesP_intro (mc := m22) (N := 103) (rs := []) (fx := [0]) 2 rfl (by decide +kernel) ?_
  simp only [m22, Cmp.b, Cmp.z, evN, evPn, evPa, callpX, callpW, EV, Nat.reduceEqDiff, Nat.reduceBEq, Nat.reduceLT, Nat.reduceLeDiff, Nat.reduceAdd, Nat.reduceSub, reduceIte]
  rcases h1 : seesB c.L c.at' 2 [sMOD] with _ | _
  · refine callp2_bad (must_bad c 2 [sMOD] hL' (by decide) _ (.inl rfl) h1) rfl rfl fun ch hch => ?_
    simp only [Cmp.b, Cmp.z, evN, evPn, evPa, callpX, callpW, EV, Nat.reduceEqDiff, Nat.reduceBEq, Nat.reduceLT, Nat.reduceLeDiff, Nat.reduceAdd, Nat.reduceSub, reduceIte]
    refine ⟨hch, c, ?_, rfl⟩
    rw [hk.md, h0] at h1
    unfold impP
    rw [h1]; simp
  refine callp2_ok (must_ok c 2 [sMOD] hL' (by decide) _ (.inl rfl) h1) rfl rfl ?_
  simp only [Cmp.b, Cmp.z, Cmp.adv, evN, evPn, evPa, callpX, callpW, EV, Nat.reduceEqDiff, Nat.reduceBEq, Nat.reduceLT, Nat.reduceLeDiff, Nat.reduceAdd, Nat.reduceSub, reduceIte]
  rcases h2 : seesB c.L c.adv.at' 1 [] with _ | _
  · refine callp2_bad (must_bad c.adv 1 [] hL' (by decide) _ (.inl rfl) h2) rfl rfl fun ch hch => ?_
    simp only [Cmp.b, Cmp.z, Cmp.adv, evN, evPn, evPa, callpX, callpW, EV, Nat.reduceEqDiff, Nat.reduceBEq, Nat.reduceLT, Nat.reduceLeDiff, Nat.reduceAdd, Nat.reduceSub, reduceIte]
    refine ⟨hch, c.adv, ?_, rfl⟩
    rw [sees_nm] at h2
    simp only [Cmp.adv, h0] at h2
    unfold impP
    simp [h2]
  refine callp2_ok (must_ok c.adv 1 [] hL' (by decide) _ (.inl rfl) h2) rfl rfl ?_
  simp only [Cmp.b, Cmp.z, Cmp.adv, evN, evPn, evPa, callpX, callpW, EV, Nat.reduceEqDiff, Nat.reduceBEq, Nat.reduceLT, Nat.reduceLeDiff, Nat.reduceAdd, Nat.reduceSub, reduceIte]
  have i1 := h1
  have i2 := h2
  rw [hk.md, h0] at i1
  rw [sees_nm] at i2
  simp only [Cmp.adv, h0] at i2
  rcases h3 : seesB c.L c.named.at' 4 [sSEM] with _ | _
  · refine callp2_bad (must_bad c.named 4 [sSEM] hL' (by decide) _ (.inl rfl) h3) rfl rfl fun ch hch => ?_
    simp only [Cmp.b, Cmp.z, Cmp.named, Cmp.adv, evN, evPn, evPa, callpX, callpW, EV, Nat.reduceEqDiff, Nat.reduceBEq, Nat.reduceLT, Nat.reduceLeDiff, Nat.reduceAdd, Nat.reduceSub, reduceIte]
    refine ⟨hch, c.named, ?_, rfl⟩
    rw [hk.sem] at h3
    simp only [Cmp.named, Cmp.adv, h0] at h3
    unfold impP
    simp [h3]
  refine callp2_ok (must_ok c.named 4 [sSEM] hL' (by decide) _ (.inl rfl) h3) rfl rfl ?_
  have i3 := h3
  rw [hk.sem] at i3
  simp only [Cmp.named, Cmp.adv, h0] at i3
  have hP : impP c.L = if txAt c.L 3 sIMP = true then impG c.L 4 [] else some [] := by
    unfold impP
    rw [if_pos ⟨i1, i2, i3⟩]
  simp only [Cmp.b, Cmp.z, Cmp.named, Cmp.adv, evN, evPn, evPa, callpX, callpW, EV, Nat.reduceEqDiff, Nat.reduceBEq, Nat.reduceLT, Nat.reduceLeDiff, Nat.reduceAdd, Nat.reduceSub, reduceIte]
  have dt := take_core c.named.adv 2 [sIMP] hL' (by decide) (.fsl 1 ([sIMP].map sv)) (.inl rfl)
  rcases h4 : seesB c.named.adv.L c.named.adv.at' 2 [sIMP] with _ | _
  · rw [h4, if_neg (by simp)] at dt
    refine callK2_i dt rfl rfl ?_
    simp only [Cmp.b, Cmp.z, Cmp.named, Cmp.adv, evN, evPn, evPa, callpX, callpW, EV, Nat.reduceEqDiff, Nat.reduceBEq, Nat.reduceLT, Nat.reduceLeDiff, Nat.reduceAdd, Nat.reduceSub, reduceIte]
    have i4 := h4
    rw [show c.named.adv.L = c.L from rfl, hk.imp] at i4
    simp only [Cmp.named, Cmp.adv, h0] at i4
    simp only [evPn, evPa, callpX, callpW, EV, Nat.reduceEqDiff, Nat.reduceBEq, Nat.reduceLT, Nat.reduceLeDiff, Nat.reduceAdd, Nat.reduceSub, reduceIte, evRE, retVC, cellV', evR, nfz, nfzs, nfzss, List.contains_nil, List.contains_cons, Bool.or_false, or_true]
    refine ⟨c.named.adv, ?_, rfl⟩
    rw [hP, if_neg (by simp [i4])]
    simp only [Cmp.named, Cmp.adv, him]
  rw [h4, if_pos rfl] at dt
  have i4 := h4
  rw [show c.named.adv.L = c.L from rfl, hk.imp] at i4
  simp only [Cmp.named, Cmp.adv, h0] at i4
  rw [if_pos i4] at hP
  refine callK2_i dt rfl rfl ?_
  simp only [Cmp.b, Cmp.z, Cmp.named, Cmp.adv, evN, evPn, evPa, callpX, callpW, EV, Nat.reduceEqDiff, Nat.reduceBEq, Nat.reduceLT, Nat.reduceLeDiff, Nat.reduceAdd, Nat.reduceSub, reduceIte]
  refine awp_loop (fun p : Bool × Cmp => p.2.L = c.L ∧ p.2.im.length ≤ p.2.at' ∧ (if p.1 = true then impG c.L p.2.at' p.2.im else if txAt c.L p.2.at' sSEM = true then some p.2.im else none) = impP c.L)
    (fun p => stl [(0, p.2.b), (1, .v (.bool true)), (4, .v (.bool p.1))]) (fun p => if p.1 = true then c.L.length - p.2.at' + 1 else 0) (true, c.named.adv.adv) ⟨rfl, by simp [Cmp.named, Cmp.adv, him], ?_⟩ ?_ ?_
  · simp only [if_true, hP, Cmp.named, Cmp.adv, h0, him]
  · simp only [Cmp.b, Cmp.z, Cmp.named, Cmp.adv, evN, evPn, evPa, callpX, callpW, EV, Nat.reduceEqDiff, Nat.reduceBEq, Nat.reduceLT, Nat.reduceLeDiff, Nat.reduceAdd, Nat.reduceSub, reduceIte]
  · rintro ⟨more, d⟩ ⟨hd, hlen, hG⟩
    simp only at hd hG hlen
    have hdL : d.L.length < 4611686018427387904 := by rw [hd]; exact hL'
    rcases more with _ | _
    · simp only [Cmp.b, Cmp.z, evN, evPn, evPa, callpX, callpW, EV, Nat.reduceEqDiff, Nat.reduceBEq, Nat.reduceLT, Nat.reduceLeDiff, Nat.reduceAdd, Nat.reduceSub, reduceIte]
      rw [if_neg (by simp)] at hG
      rcases h5 : seesB d.L d.at' 4 [sSEM] with _ | _
      · refine callp2_bad (must_bad d 4 [sSEM] hdL (by decide) _ (.inl rfl) h5) rfl rfl fun ch hch => ?_
        simp only [Cmp.b, Cmp.z, evN, evPn, evPa, callpX, callpW, EV, Nat.reduceEqDiff, Nat.reduceBEq, Nat.reduceLT, Nat.reduceLeDiff, Nat.reduceAdd, Nat.reduceSub, reduceIte]
        refine ⟨hch, d, ?_, rfl⟩
        rw [hd, hk.sem] at h5
        rw [if_neg (by simp [h5])] at hG
        exact hG.symm
      · refine callp2_ok (must_ok d 4 [sSEM] hdL (by decide) _ (.inl rfl) h5) rfl rfl ?_
        simp only [Cmp.b, Cmp.z, Cmp.adv, evN, evPn, evPa, callpX, callpW, EV, Nat.reduceEqDiff, Nat.reduceBEq, Nat.reduceLT, Nat.reduceLeDiff, Nat.reduceAdd, Nat.reduceSub, reduceIte]
        simp only [evPn, evPa, callpX, callpW, EV, Nat.reduceEqDiff, Nat.reduceBEq, Nat.reduceLT, Nat.reduceLeDiff, Nat.reduceAdd, Nat.reduceSub, reduceIte, evRE, retVC, cellV', evR, nfz, nfzs, nfzss, List.contains_nil, List.contains_cons, Bool.or_false, or_true]
        refine ⟨d.adv, ?_, rfl⟩
        rw [hd, hk.sem] at h5
        rw [if_pos h5] at hG
        exact hG.symm
    · rw [if_pos rfl, impG_eq] at hG
      simp only [Cmp.b, Cmp.z, evN, evPn, evPa, callpX, callpW, EV, Nat.reduceEqDiff, Nat.reduceBEq, Nat.reduceLT, Nat.reduceLeDiff, Nat.reduceAdd, Nat.reduceSub, reduceIte]
      refine awp_join (fun _ : Unit => kdAt c.L d.at' 1 = true) (fun _ => stl [(0, d.put.b), (1, .v (.bool true))]) ?_ ?_
      · simp only [Cmp.b, Cmp.z, evN, evPn, evPa, callpX, callpW, EV, Nat.reduceEqDiff, Nat.reduceBEq, Nat.reduceLT, Nat.reduceLeDiff, Nat.reduceAdd, Nat.reduceSub, reduceIte]
        rcases h5 : seesB d.L d.at' 1 [] with _ | _
        · refine callp2_bad (must_bad d 1 [] hdL (by decide) _ (.inl rfl) h5) rfl rfl fun ch hch => ?_
          simp only [Cmp.b, Cmp.z, evN, evPn, evPa, callpX, callpW, EV, Nat.reduceEqDiff, Nat.reduceBEq, Nat.reduceLT, Nat.reduceLeDiff, Nat.reduceAdd, Nat.reduceSub, reduceIte]
          refine ⟨hch, d, ?_, rfl⟩
          rw [hd, sees_nm] at h5
          rw [if_neg (by simp [h5])] at hG
          exact hG.symm
        · refine callp2_ok (must_ok d 1 [] hdL (by decide) _ (.inl rfl) h5) rfl rfl ?_
          rw [hd, sees_nm] at h5
          simp only [Cmp.b, Cmp.z, Cmp.adv, evN, evPn, evPa, callpX, callpW, EV, Nat.reduceEqDiff, Nat.reduceBEq, Nat.reduceLT, Nat.reduceLeDiff, Nat.reduceAdd, Nat.reduceSub, reduceIte]
          refine awp_join (fun _ : Unit => True) (fun _ => stl [(0, d.adv.b), (1, .v (.bool true)), (5, .v (.string (nmAt d.L d.at')))]) ?_ ?_
          · simp only [Cmp.b, Cmp.z, Cmp.adv, evN, evPn, evPa, callpX, callpW, EV, Nat.reduceEqDiff, Nat.reduceBEq, Nat.reduceLT, Nat.reduceLeDiff, Nat.reduceAdd, Nat.reduceSub, reduceIte]
            exact ⟨(), trivial⟩
          · intro _ _
            simp only [Cmp.b, Cmp.z, Cmp.adv, evN, evPn, evPa, callpX, callpW, EV, Nat.reduceEqDiff, Nat.reduceBEq, Nat.reduceLT, Nat.reduceLeDiff, Nat.reduceAdd, Nat.reduceSub, reduceIte]
            have hlt := kdAt_lt h5
            refine ⟨by omega, by omega, (), h5, ?_⟩
            simp only [Cmp.put, Cmp.adv, List.map_append, sv, List.map_cons, List.map_nil]
      · intro _ h5
        have hlt := kdAt_lt h5
        rw [if_pos h5] at hG
        have dt := take_core d.put 4 [sCOM] hdL (by decide) (.fsl 1 ([sCOM].map sv)) (.inl rfl)
        simp only [Cmp.b, Cmp.z, Cmp.put, Cmp.adv, evN, evPn, evPa, callpX, callpW, EV, Nat.reduceEqDiff, Nat.reduceBEq, Nat.reduceLT, Nat.reduceLeDiff, Nat.reduceAdd, Nat.reduceSub, reduceIte]
        rcases h6 : seesB d.put.L d.put.at' 4 [sCOM] with _ | _
        · rw [h6, if_neg (by simp)] at dt
          have i6 := h6
          rw [show d.put.L = c.L from hd, hk.com] at i6
          rw [if_neg (by rw [show d.at' + 1 = d.put.at' from rfl, i6]; simp)] at hG
          refine callK2_i dt rfl rfl ?_
          simp only [Cmp.b, Cmp.z, Cmp.put, Cmp.adv, evN, evPn, evPa, callpX, callpW, EV, Nat.reduceEqDiff, Nat.reduceBEq, Nat.reduceLT, Nat.reduceLeDiff, Nat.reduceAdd, Nat.reduceSub, reduceIte]
          refine ⟨(false, d.put), ⟨hd, by simp [Cmp.put, Cmp.adv]; omega, ?_⟩, by simp, rfl⟩
          rw [if_neg (by simp)]
          rw [← hG, ← hd]
          rfl
        · rw [h6, if_pos rfl] at dt
          have i6 := h6
          rw [show d.put.L = c.L from hd, hk.com] at i6
          rw [if_pos (by rw [show d.at' + 1 = d.put.at' from rfl, i6])] at hG
          refine callK2_i dt rfl rfl ?_
          simp only [Cmp.b, Cmp.z, Cmp.put, Cmp.adv, evN, evPn, evPa, callpX, callpW, EV, Nat.reduceEqDiff, Nat.reduceBEq, Nat.reduceLT, Nat.reduceLeDiff, Nat.reduceAdd, Nat.reduceSub, reduceIte]
          refine ⟨(true, d.put.adv), ⟨hd, by simp [Cmp.put, Cmp.adv]; omega, ?_⟩, ?_, rfl⟩
          · rw [if_pos rfl, ← hG, ← hd]
            rfl
          · simp only [if_true, Cmp.put, Cmp.adv]; omega
end Go.AM
namespace Go.AM
open Go.Proofs
set_option linter.unusedVariables false
set_option linter.unusedSimpArgs false
theorem catch_idle (p : Addr) (w : World) : CallsD Tryz.prog 36 #[.pointer (some p)] .returning w fun e u' w' => e = .returned (.tuple #[]) ∧ u' = .returning ∧ w' = w := by
  refine callsD_of_wpS Tryz.func36 rfl fun c₀ cs hu => ?_
  apply wpS_seq
  apply wpS_region
  simp [wpOpsS, go_sem, recoverD, hu, Tryz.ntmps36, Exit.thenS]
  apply wpS_seq
  apply wpS_region
  simp [wpOpsS, go_sem, recoverD, hu, Tryz.ntmps36, Exit.thenS]
  refine wpS_cond (t := false) (by simp [Act.eval, Array.replicate]) ?_
  simp only [Bool.false_eq_true, if_false]
  refine wpS_of_wp (wp_skip ?_)
  cases c₀
  simp_all [bodyPostS, results, Tryz.results36]
theorem Ext.setCell' (w : World) (a : Addr) (v : Value) : Ext w (w.setCell a v) [a.block] :=
  ⟨rfl, rfl, rfl, by simp [World.setCell], fun b hb hn => Go.RowKit.Below.heap_setCell w a v b (by simpa using hn)⟩
set_option maxHeartbeats 4000000 in
set_option maxRecDepth 100000 in
theorem catch_panicking (b : Nat) (c0 c1 : Value) (e : TypeId) (code at' : Int) (w : World) (hb : w.heap[b]? = some (.cells #[c0, c1] e (0, 0))) :
    CallsD Tryz.prog 36 #[.pointer (some ⟨b, 0, none⟩)] (.panicking (flt code at')) w fun e' u' w' =>
      e' = .returned (.tuple #[]) ∧ u' = .panicking [{ v := .iface 59 (.agg #[.int .i64 code, .int .i64 at']), recovered := true }] ∧
        Ext w w' [b] ∧ w'.heap[b]? = some (.cells #[.int .i64 code, .int .i64 at'] e (0, 0)) := by
  have hlt : b < w.heap.size := (Array.getElem?_eq_some_iff.1 hb).1
  refine callsD_of_wpS Tryz.func36 rfl fun c₀ cs hu => ?_
  apply wpS_seq
  apply wpS_region
  simp [wpOpsS, go_sem, recoverD, hu, flt, Tryz.ntmps36, Exit.thenS]
  apply wpS_of_wp
  generalize hf : Value.iface 59 (Value.agg #[Value.int IntKind.i64 code, Value.int IntKind.i64 at']) = F
  change Code.wp _ _ _ { tmps := #[.pointer (some ⟨b, 0, none⟩), F, undef, undef, F, undef, undef, undef, undef, undef, undef, undef, undef, undef, undef, undef], defers := [] } w
  subst hf
  have hta : ∀ (v : Value) (s : TypeId) (w : World), (Instr.typeAssert (.iface 59 v) s 59 true).run Tryz.prog w = .ok (.tuple #[v, .bool true]) w := by
    intro v s w
    simp [Instr.typeAssert, go_sem, Tryz.underlying59]
  have hb1 : (w.alloc (.cells #[.int .i64 code, .int .i64 at'] 59)).heap[b]? = some (.cells #[c0, c1] e (0, 0)) := by rw [Go.RowKit.Below.heap_alloc _ _ _ hlt]; exact hb
  have hb2 := heap_setCell_same _ b 0 _ e (.int .i64 code) hb1
  have hb3 := heap_setCell_same _ b 1 _ e (.int .i64 at') hb2
  have k0 := cell_of_cells hb1 0
  have k1 := cell_of_cells hb2 1
  have z0 : (w.alloc (.cells #[.int .i64 code, .int .i64 at'] 59)).frozen? ⟨b, 0, none⟩ = false := by simp [World.frozen?, hb1]
  have z1 : ((w.alloc (.cells #[.int .i64 code, .int .i64 at'] 59)).setCell ⟨b, 0, none⟩ (.int .i64 code)).frozen? ⟨b, 1, none⟩ = false := by simp [World.frozen?, hb2]
  simp at k0 k1
  have hne : ¬ b = w.heap.size := by omega
  have hne' : ¬ w.heap.size = b := by omega
  have y0 : w.cell? ⟨b, 0, none⟩ = some c0 := by have := cell_of_cells hb 0; simpa using this
  have y1 : w.cell? ⟨b, 1, none⟩ = some c1 := by have := cell_of_cells hb 1; simpa using this
  have y2 : w.frozen? ⟨b, 0, none⟩ = false := by simp [World.frozen?, hb]
  have y3 : w.frozen? ⟨b, 1, none⟩ = false := by simp [World.frozen?, hb]
  have hc2 := heap_setCell_same _ b 0 _ e (.int .i64 code) hb
  have y4 : (w.setCell ⟨b, 0, none⟩ (.int .i64 code)).cell? ⟨b, 1, none⟩ = some c1 := by have := cell_of_cells hc2 1; simpa using this
  have y5 : (w.setCell ⟨b, 0, none⟩ (.int .i64 code)).frozen? ⟨b, 1, none⟩ = false := by simp [World.frozen?, hc2]
  go_wp2
  have hw : Ext w (((w.setCell ⟨b, 0, none⟩ (.int .i64 code)).setCell ⟨b, 1, none⟩ (.int .i64 at')).alloc (.cells #[.int .i64 code, .int .i64 at'] 59)) [b] :=
    ((Ext.setCell' w ⟨b, 0, none⟩ _).trans (Ext.setCell' _ ⟨b, 1, none⟩ _) (fun _ h _ => h)).trans (Ext.alloc _ [] _) (fun x h _ => by simp at h)
  have hc3 := heap_setCell_same _ b 1 _ e (.int .i64 at') hc2
  have hh : (((w.setCell ⟨b, 0, none⟩ (.int .i64 code)).setCell ⟨b, 1, none⟩ (.int .i64 at')).alloc (.cells #[.int .i64 code, .int .i64 at'] 59)).heap[b]? = some (.cells #[.int .i64 code, .int .i64 at'] e (0, 0)) := by
    rw [Go.RowKit.Below.heap_alloc _ _ _ (by simp [World.setCell]; exact hlt)]
    simpa using hc3
  exact ⟨rfl, _, rfl, .tuple #[], by simp [results, Tryz.results36], rfl, rfl, hw, hh⟩
set_option maxHeartbeats 4000000 in
set_option maxRecDepth 100000 in
theorem guarded_e {F : FuncId} {av : AV} {Rn : AV → List AV → Prop} {Rp : List PanicEntry → List AV → Prop} (hF : DoesP Tryz.prog F [av] false Rn Rp) (hn : ∀ r o, Rn r o → r = .tup [] ∧ ∃ out, o = [out]) (hp : ∀ ch o, Rp ch o → ∃ code a out, ch = flt code a ∧ o = [out]) :
    DoesE Tryz.prog 20 [.clo F [av]] false (fun r o => (∃ out, Rn (.tup []) [out] ∧ r = .agg [.v (.int .i64 0), .v (.int .i64 0)] ∧ o = [.clo F [out]]) ∨ (∃ code a out, Rp (flt code a) [out] ∧ r = .agg [.v (.int .i64 code), .v (.int .i64 a)] ∧ o = [.clo F [out]])) := by
  refine ⟨by decide +kernel, ?_⟩
  intro w Fz xs os hrep hnd hfz hok
  obtain ⟨y, rfl, hy⟩ : ∃ y, xs = [.func (.func F) #[] #[y]] ∧ RepV w Fz noL av y os := by
    simp only [RepVs, RepV] at hrep
    obtain ⟨x, xs', o1, o2, hx, ho, ⟨cv, hcv, x2, xs2, o3, o4, hx2, ho2, h4, h5, h6⟩, h7, h8⟩ := hrep
    subst hx; subst h7; subst hcv; subst hx2; subst h5; subst ho; subst ho2; subst h6; subst h8
    exact ⟨x2, rfl, by simpa using h4⟩
  have hmf : ∀ (fn : Fn) (first cap : Array Value) (w : World), (Instr.makeFunc fn first cap).run Tryz.prog w = .ok (.func fn first cap) w := fun _ _ _ _ => rfl
  go_enter_defers Tryz.func20, Tryz.ntmps20
  go_wp2
  have hcf : ∀ w : World, (callFunc F #[y]).run Tryz.prog w = .ok (.enter F #[y]) w := by
    intro w
    have hf := hF.1
    unfold fnOk at hf
    split at hf
    rotate_left
    · cases hf
    rename_i fn hfn
    simp only [Bool.and_eq_true, Bool.not_eq_true'] at hf
    obtain ⟨h1, h2⟩ := hf
    have hn : ¬ fn.body = none := by cases hb : fn.body <;> simp [hb] at h2 ⊢
    have h1' : ¬ fn.name = "runtime.NumGoroutine" := by simpa using h1
    simp [callFunc, Sem.run_bind, Result.andThen_ok, hfn, h1', hn]
  rw [hcf, Oper.upon_enter]
  generalize hw1 : w.alloc (Obj.cells #[Value.int IntKind.i64 0, Value.int IntKind.i64 0] 59) = w1
  have hs1 : w1.heap.size = w.heap.size + 1 := by rw [← hw1]; simp
  have ho1 : ∀ b, b < w.heap.size → w1.heap[b]? = w.heap[b]? := by rw [← hw1]; exact fun b hb => Go.RowKit.Below.heap_alloc _ _ b hb
  have hB1 : w1.heap[w.heap.size]? = some (.cells #[.int .i64 0, .int .i64 0] 59 (0, 0)) := by rw [← hw1]; exact Array.getElem?_push_size
  have hE1 : Ext w w1 os := by rw [← hw1]; exact Ext.alloc _ _ _
  clear hw1
  have hosB : ∀ b ∈ os, b < w.heap.size := fun b hb => (hfz b hb).2
  have hrep1 : RepVs w1 Fz noL [av] [y] os := by
    have := hy.keep (K := fun _ _ => false) (L' := noL) (fun _ _ _ _ h => h) _ _ _ (w' := w1) (Fz' := Fz) ⟨fun b hb => ⟨hb, ho1 b (hok.lt b hb)⟩, fun b hb => ho1 b (hosB b hb)⟩
    rw [killV_none] at this
    simp only [RepVs]
    exact ⟨y, [], os, [], rfl, by simp, this, rfl, rfl⟩
  have hok1 : FzOk Tryz.prog w1 Fz := by
    refine ⟨fun b hb => by have := hok.lt b hb; omega, ?_⟩
    obtain ⟨W0, hL, hg⟩ := hok.gl
    exact ⟨W0, hL, fun b hb => ⟨(hg b hb).1, by rw [ho1 b (hok.lt b (hg b hb).1)]; exact (hg b hb).2⟩⟩
  have fin : ∀ (w' w'' : World) (out : AV) (oo : List Nat) (code a : Int), Ext w1 w' os → Ext w' w'' [w.heap.size] → RepV w' (fzP Fz w1 w' os oo true) noL out y oo → oo.Nodup → (∀ b ∈ oo, (b ∈ os ∨ w1.heap.size ≤ b) ∧ b < w'.heap.size) →
      ((Rn (.tup []) [out] ∧ code = 0 ∧ a = 0) ∨ Rp (flt code a) [out]) →
      ∃ res outs, ((∃ out, Rn (.tup []) [out] ∧ res = .agg [.v (.int .i64 0), .v (.int .i64 0)] ∧ outs = [.clo F [out]]) ∨ (∃ code a out, Rp (flt code a) [out] ∧ res = .agg [.v (.int .i64 code), .v (.int .i64 a)] ∧ outs = [.clo F [out]])) ∧
        ∃ x ox oo, Ending.returned (.agg #[.int .i64 code, .int .i64 a]) = .returned x ∧ Ext w w'' os ∧ RepV w'' (fzP Fz w w'' os (ox ++ oo) false) noL res x ox ∧ RepVs w'' (fzP Fz w w'' os (ox ++ oo) true) noL outs [.func (.func F) #[] #[y]] oo ∧
        (ox ++ oo).Nodup ∧ ∀ b ∈ ox ++ oo, (b ∈ os ∨ w.heap.size ≤ b) ∧ b < w''.heap.size := by
    intro w' w'' out oo code a hx1 hx2 hr hnd' hmem hR
    have hsz1 := hx1.size
    have hsz2 := hx2.size
    have hext : Ext w w'' os := (hE1.trans hx1 (fun x h _ => h)).trans hx2 (fun x h hlt => by simp at h; omega)
    refine ⟨.agg [.v (.int .i64 code), .v (.int .i64 a)], [.clo F [out]], ?_, .agg #[.int .i64 code, .int .i64 a], [], oo, rfl, hext, ?_, ?_, by simpa using hnd', ?_⟩
    · rcases hR with ⟨h, rfl, rfl⟩ | h
      · exact .inl ⟨out, h, rfl, rfl⟩
      · exact .inr ⟨code, a, out, h, rfl, rfl⟩
    · simp only [RepV, RepVs, RepC]
      exact ⟨_, rfl, _, _, [], [], rfl, rfl, ⟨rfl, rfl, rfl⟩, _, _, [], [], rfl, rfl, ⟨rfl, rfl, rfl⟩, rfl, rfl⟩
    · have hne : ∀ b, fzP Fz w1 w' os oo true b → b ≠ w.heap.size := by
        rintro b ⟨h1, _, _⟩ rfl
        rcases h1 with ⟨_, h | h⟩ | h
        · have := hok.lt _ h; omega
        · have := hosB _ h; omega
        · omega
      have hne2 : ∀ b ∈ oo, b ≠ w.heap.size := by
        rintro b hb rfl
        rcases (hmem _ hb).1 with h | h
        · have := hosB _ h; omega
        · omega
      have := hr.keep (K := fun _ _ => false) (L' := noL) (fun _ _ _ _ h => h) _ _ _ (w' := w'') (Fz' := fzP Fz w w'' os ([] ++ oo) true)
        ⟨fun b hb => ⟨⟨by rcases hb.1 with h | h; exact .inl h; exact .inr (by omega), by have := hb.2.1; omega, by simpa using hb.2.2⟩, hx2.blk b hb.2.1 (by simpa using hne b hb)⟩, fun b hb => hx2.blk b (hmem b hb).2 (by simpa using hne2 b hb)⟩
      rw [killV_none] at this
      simp only [RepVs, RepV]
      exact ⟨_, [], oo, [], rfl, by simp, ⟨[y], rfl, _, [], oo, [], rfl, by simp, this, rfl, rfl⟩, rfl, rfl⟩
    · intro b hb
      simp only [List.nil_append] at hb
      have := hmem b hb
      exact ⟨by rcases this.1 with h | h; exact .inl h; exact .inr (by omega), by omega⟩
  have hbig : ∀ w', Ext w1 w' os → w'.heap[w.heap.size]? = some (.cells #[.int .i64 0, .int .i64 0] 59 (0, 0)) := fun w' h => by
    rw [h.blk _ (by omega) (fun hm => by have := hosB _ hm; omega)]; exact hB1
  refine (hF.2 w1 Fz [y] os hrep1 hnd (fun b hb => ⟨(hfz b hb).1, by have := hosB b hb; omega⟩) hok1).mono ?_
  rintro e w' ⟨res, outs, hR, x, ox, oo, hE, hext, hres, hout, hnd', hmem⟩
  have hblk := hbig w' hext
  cases e with
  | returned x' =>
    obtain ⟨rfl, out, rfl⟩ := hn _ _ hR
    have hox : ox = [] := by simp only [RepV, RepVs] at hres; obtain ⟨_, _, _, h⟩ := hres; exact h
    subst hox
    simp only
    have hlt' : w.heap.size < w'.heap.size := (Array.getElem?_eq_some_iff.1 hblk).1
    have y0 : w'.cell? ⟨w.heap.size, 0, none⟩ = some (.int .i64 0) := by have := cell_of_cells hblk 0; simpa using this
    have y1 : w'.cell? ⟨w.heap.size, 1, none⟩ = some (.int .i64 0) := by have := cell_of_cells hblk 1; simpa using this
    have y2 : w'.frozen? ⟨w.heap.size, 0, none⟩ = false := by simp [World.frozen?, hblk]
    have y3 : w'.frozen? ⟨w.heap.size, 1, none⟩ = false := by simp [World.frozen?, hblk]
    have hc2 := heap_setCell_same _ w.heap.size 0 _ 59 (.int .i64 0) hblk
    have y4 : (w'.setCell ⟨w.heap.size, 0, none⟩ (.int .i64 0)).cell? ⟨w.heap.size, 1, none⟩ = some (.int .i64 0) := by have := cell_of_cells hc2 1; simpa using this
    have y5 : (w'.setCell ⟨w.heap.size, 0, none⟩ (.int .i64 0)).frozen? ⟨w.heap.size, 1, none⟩ = false := by simp [World.frozen?, hc2]
    go_wp2
    refine leaves_cons (f := 36) (args := #[.pointer (some ⟨w.heap.size, 0, none⟩)]) (by simp) (by simp [go_sem]) ?_
    refine (catch_idle ⟨w.heap.size, 0, none⟩ _).mono ?_
    rintro e u' w'' ⟨rfl, rfl, rfl⟩
    have hx2 : Ext w' ((w'.setCell ⟨w.heap.size, 0, none⟩ (.int .i64 0)).setCell ⟨w.heap.size, 1, none⟩ (.int .i64 0)) [w.heap.size] := (Ext.setCell' w' ⟨w.heap.size, 0, none⟩ _).trans (Ext.setCell' _ ⟨w.heap.size, 1, none⟩ _) (fun _ h _ => h)
    have hc3 := heap_setCell_same _ w.heap.size 1 _ 59 (.int .i64 0) hc2
    have hfin := fin w' _ out oo 0 0 hext hx2 (by simp only [RepVs] at hout; obtain ⟨_, _, _, _, h1, h2, h3, h4, h5⟩ := hout; cases h1; subst h5; subst h2; simpa using h3) (by simpa using hnd') (by simpa using hmem) (.inl ⟨hR, rfl, rfl⟩)
    generalize (w'.setCell ⟨w.heap.size, 0, none⟩ (.int .i64 0)).setCell ⟨w.heap.size, 1, none⟩ (.int .i64 0) = w'' at hx2 hc3 hfin ⊢
    have z0 : w''.cell? ⟨w.heap.size, 0, none⟩ = some (.int .i64 0) := by have := cell_of_cells hc3 0; simpa using this
    have z1 : w''.cell? ⟨w.heap.size, 1, none⟩ = some (.int .i64 0) := by have := cell_of_cells hc3 1; simpa using this
    simp only [Leaves, settle]
    refine ⟨_, ?_, hfin⟩
    simp [results, Tryz.results20, go_sem, z0, z1]
  | panicked ch =>
    obtain ⟨hd, hR⟩ := hR
    subst hd
    have hox : ox = [] := by simpa only [RepV] using hres
    subst hox
    obtain ⟨code, a, out, rfl, rfl⟩ := hp _ _ hR
    simp only
    refine leaves_cons (f := 36) (args := #[.pointer (some ⟨w.heap.size, 0, none⟩)]) (by simp) (by simp [go_sem]) ?_
    refine (catch_panicking w.heap.size _ _ _ code a w' hblk).mono ?_
    rintro e u' w'' ⟨rfl, rfl, hx2, hblk2⟩
    have y0 : w''.cell? ⟨w.heap.size, 0, none⟩ = some (.int .i64 code) := by have := cell_of_cells hblk2 0; simpa using this
    have y1 : w''.cell? ⟨w.heap.size, 1, none⟩ = some (.int .i64 a) := by have := cell_of_cells hblk2 1; simpa using this
    have hfin := fin w' w'' out oo code a hext hx2 (by simp only [RepVs] at hout; obtain ⟨_, _, _, _, h1, h2, h3, h4, h5⟩ := hout; cases h1; subst h5; subst h2; simpa using h3) (by simpa using hnd') (by simpa using hmem) (.inr hR)
    simp only [Leaves, settle]
    refine ⟨_, ?_, hfin⟩
    simp [results, Tryz.results20, go_sem, y0, y1]
  | _ => exact hE.elim
end Go.AM
namespace Go.AM
set_option linter.unusedVariables false
set_option linter.unusedSimpArgs false
def m21 : MC :=
 (.regp [Xl 1 1 0] (some 2) (.fn 22) false [.io (.t 1), .lend .tb] [])
theorem d21 (c : Cmp) (h0 : c.at' = 0) (him : c.im = []) (hk : KindOk c.L) (hL : c.L.length < 1000000) :
    DoesP Go.Proofs.Tryz.prog 21 [.box 52 [c.b]] false (fun r o => r = .tup [] ∧ ∃ c' : Cmp, impP c.L = some c'.im ∧ o = [.box 52 [c'.b]]) (fun ch o => isFlt ch ∧ ∃ c' : Cmp, impP c.L = none ∧ o = [.box 52 [c'.b]]) := by
  have db := d22 c h0 him hk hL
  refine doesP_intro (mc := m21) (N := 3) (rs := []) (fx := [0]) 1 rfl (by decide +kernel) ?_
  simp only [m21, Cmp.b, evN, evPn, evPa, callpX, callpW, EV, Nat.reduceEqDiff, Nat.reduceBEq, Nat.reduceLT, Nat.reduceLeDiff, Nat.reduceAdd, Nat.reduceSub, reduceIte]
  refine ⟨fun r out => r = .tup [] ∧ ∃ c' : Cmp, impP c.L = some c'.im ∧ out = c'.b, fun ch out => isFlt ch ∧ ∃ c' : Cmp, impP c.L = none ∧ out = c'.b, db.mono ?_ ?_, ?_, ?_⟩
  · rintro r o ⟨rfl, c', h, rfl⟩; exact ⟨_, ⟨rfl, c', h, rfl⟩, rfl⟩
  · rintro ch o ⟨hf, c', h, rfl⟩; exact ⟨_, ⟨hf, c', h, rfl⟩, rfl⟩
  · rintro r o ⟨rfl, c', h, rfl⟩
    refine ⟨rfl, rfl, ?_⟩
    simp only [Cmp.b, evN, evPn, evPa, callpX, callpW, EV, Nat.reduceEqDiff, Nat.reduceBEq, Nat.reduceLT, Nat.reduceLeDiff, Nat.reduceAdd, Nat.reduceSub, reduceIte]
    simp only [evPn, evPa, callpX, callpW, EV, Nat.reduceEqDiff, Nat.reduceBEq, Nat.reduceLT, Nat.reduceLeDiff, Nat.reduceAdd, Nat.reduceSub, reduceIte, evRE, retVC, cellV', evR, nfz, nfzs, nfzss, List.contains_nil, List.contains_cons, Bool.or_false, or_true]
    exact ⟨c', h, rfl⟩
  · rintro ch o ⟨hf, c', h, rfl⟩
    refine ⟨rfl, rfl, ?_⟩
    simp only [Cmp.b, evN, evPn, evPa, callpX, callpW, EV, Nat.reduceEqDiff, Nat.reduceBEq, Nat.reduceLT, Nat.reduceLeDiff, Nat.reduceAdd, Nat.reduceSub, reduceIte]
    exact ⟨hf, c', h, rfl⟩
end Go.AM
namespace Go.AM
set_option linter.unusedVariables false
set_option linter.unusedSimpArgs false
theorem rtL_few (s : ByteArray) : (rtL (readN s)).length ≤ 300 := by
  have key : ∀ (k i : Nat) (out : List Tok), s.size - i ≤ k → (rtL (rdT s i out)).length ≤ 300 := by
    intro k
    induction k with
    | zero =>
      intro i out hk
      rw [rdT_end (by omega)]
      split
      · simp [rtL]
      · simp only [rtL]; omega
    | succ k ih =>
      intro i out hk
      by_cases hi : i < s.size
      · rcases hb : blank s i with _ | _
        · by_cases ho : i + 1 < s.size ∧ isOpen s i = true
          · rcases hr : rem s i 0 with _ | e
            · rw [rdT_none hi hb ho hr]; simp [rtL]
            · rw [rdT_some hi hb ho hr]
              have := rem_in s _ _ _ _ (Nat.le_refl _) hr
              exact ih e out (by omega)
          · rcases hq : tokN s i with t | c
            · rw [rdT_tok hi hb ho hq]
              have := (tokN_in hi hq).1
              exact ih _ _ (by omega)
            · rw [rdT_bad hi hb ho hq]; simp [rtL]
        · rw [rdT_blank hi hb]; exact ih _ _ (by omega)
      · rw [rdT_end hi]
        split
        · simp [rtL]
        · simp only [rtL]; omega
  unfold readN
  split
  · simp [rtL]
  · exact key s.size 0 [] (by omega)
end Go.AM
namespace Go.AM
set_option linter.unusedVariables false
set_option linter.unusedSimpArgs false
theorem DoesE.mono' {P : Program} {f : FuncId} {args : List AV} {al : Bool} {R S : AV → List AV → Prop} (h : DoesE P f args al R) (hs : ∀ r o, R r o → S r o) : DoesE P f args al S :=
  ⟨h.1, fun w Fz xs os h1 h2 h3 h4 => (h.2 w Fz xs os h1 h2 h3 h4).mono (by rintro e w' ⟨res, outs, hr, hh⟩; exact ⟨res, outs, hs _ _ hr, hh⟩)⟩
def TokOk (t : Tok) : Prop := (t.kind = 4 ∧ t.text.size = 1) ∨ (t.kind = 2 ∧ aln (sAt t.text 0) = true) ∨ (aln (sAt t.text 0) = true ∧ isWordB t.text = false)
theorem tokN_ok {s : ByteArray} {a : Nat} {t : Tok} (ha : a < s.size) (h : tokN s a = .inl t) : TokOk t := by
  obtain ⟨w1, w2, w3⟩ := wl_in s (s.size - a) a (Nat.le_refl _) (by omega)
  have hz1 : (s.extract a (a + 1)).size = 1 := by rw [ByteArray.size_extract]; omega
  unfold tokN at h
  split at h
  · simp at h; subst h; exact .inl ⟨rfl, hz1⟩
  · split at h
    · simp at h
    · rename_i c
      have c' : aln (sAt s (a : Nat)) = true := by simpa using c
      have hst : wl s a = wl s (a + 1) := wl_step ha c'
      have hpos : a < wl s a := by
        have := (wl_in s (s.size - (a + 1)) (a + 1) (Nat.le_refl _) (by omega)).1
        omega
      have e0 := sAt_cut s (a := a) (b := wl s a) (i := 0) (by omega) w2
      have hal : aln (sAt (s.extract a (wl s a)) 0) = true := by
        have e : sAt (s.extract a (wl s a)) ((0 : Nat) : Int) = sAt s ((a + 0 : Nat) : Int) := e0
        rw [show (0 : Int) = ((0 : Nat) : Int) from rfl, e]
        exact c'
      split at h
      · split at h
        · simp at h; subst h; exact .inr (.inl ⟨rfl, hal⟩)
        · rename_i hw
          split at h
          · simp at h
          · simp at h; subst h; exact .inr (.inr ⟨hal, by simpa using hw⟩)
      · rename_i hl
        have hnw : isWordB (s.extract a (wl s a)) = false := by
          cases hw : isWordB (s.extract a (wl s a)) with
          | false => rfl
          | true =>
            have h1 := word_lett hw
            rw [show (0 : Int) = ((0 : Nat) : Int) from rfl, e0] at h1
            exact absurd h1 hl
        split at h
        · simp at h; subst h; exact .inr (.inr ⟨hal, hnw⟩)
        · simp at h
theorem tokN_code {s : ByteArray} {a : Nat} {c : Int} (h : tokN s a = .inr c) : c ≠ 0 := by
  unfold tokN at h
  split at h
  · simp at h
  · split at h
    · simp at h; omega
    · split at h
      · split at h
        · simp at h
        · split at h
          · simp at h; omega
          · simp at h
      · split at h
        · simp at h
        · simp at h; omega
theorem rdT_ok (s : ByteArray) : ∀ (k i : Nat) (out : List Tok), s.size - i ≤ k → (∀ t ∈ out, TokOk t) → (∀ L, rdT s i out = .inl L → ∀ t ∈ L, TokOk t) ∧ ∀ c p, rdT s i out = .inr (c, p) → c ≠ 0 := by
  intro k
  induction k with
  | zero =>
    intro i out hk ho
    rw [rdT_end (by omega)]
    split
    · exact ⟨fun _ h => by simp at h, fun c p h => by simp at h; omega⟩
    · exact ⟨fun _ h => by simp at h; subst h; exact ho, fun c p h => by simp at h⟩
  | succ k ih =>
    intro i out hk ho
    by_cases hi : i < s.size
    · rcases hb : blank s i with _ | _
      · by_cases hop : i + 1 < s.size ∧ isOpen s i = true
        · rcases hr : rem s i 0 with _ | e
          · rw [rdT_none hi hb hop hr]; exact ⟨fun _ h => by simp at h, fun c p h => by simp at h; omega⟩
          · rw [rdT_some hi hb hop hr]
            have := rem_in s _ _ _ _ (Nat.le_refl _) hr
            exact ih e out (by omega) ho
        · rcases hq : tokN s i with t | c
          · rw [rdT_tok hi hb hop hq]
            have := (tokN_in hi hq).1
            refine ih _ _ (by omega) fun t' ht => ?_
            rcases List.mem_append.1 ht with h | h
            · exact ho _ h
            · simp at h; subst h; exact tokN_ok hi hq
          · rw [rdT_bad hi hb hop hq]
            exact ⟨fun _ h => by simp at h, fun c' p h => by simp at h; rw [← h.1]; exact tokN_code hq⟩
      · rw [rdT_blank hi hb]; exact ih _ _ (by omega) ho
    · rw [rdT_end hi]
      split
      · exact ⟨fun _ h => by simp at h, fun c p h => by simp at h; omega⟩
      · exact ⟨fun _ h => by simp at h; subst h; exact ho, fun c p h => by simp at h⟩
theorem readN_ok (s : ByteArray) : (∀ L, readN s = .inl L → ∀ t ∈ L, TokOk t) ∧ ∀ c p, readN s = .inr (c, p) → c ≠ 0 := by
  unfold readN
  split
  · exact ⟨fun _ h => by simp at h, fun c p h => by simp at h; omega⟩
  · exact rdT_ok s s.size 0 [] (by omega) (by simp)
theorem kinds_of {L : List Tok} (h : ∀ t ∈ L, TokOk t) : KindOk L := by
  have main : ∀ (i : Nat) (kd : Int) (x : ByteArray), (∀ t, TokOk t → t.text = x → t.kind = kd) → seesB L i kd [x] = txAt L i x := by
    intro i kd x hx
    unfold seesB txAt
    cases hL : L[i]? with
    | none => rfl
    | some t =>
      have ht := h t (List.mem_of_getElem? hL)
      simp only [List.isEmpty_cons, Bool.false_or, List.any_cons, List.any_nil, Bool.or_false, eqSv]
      cases hq : (t.text.toList == x.toList) with
      | false => simp
      | true =>
        have := hx t ht (bq_eq.1 hq)
        simp [this]
  have wd : ∀ x : ByteArray, isWordB x = true → x.size ≠ 1 → ∀ t, TokOk t → t.text = x → t.kind = 2 := by
    rintro x hx hz t (⟨_, h⟩ | ⟨h, _⟩ | ⟨_, h⟩) rfl
    · exact absurd h hz
    · exact h
    · rw [hx] at h; cases h
  have sg : ∀ x : ByteArray, aln (sAt x 0) = false → ∀ t, TokOk t → t.text = x → t.kind = 4 := by
    rintro x hx t (⟨h, _⟩ | ⟨_, h⟩ | ⟨h, _⟩) rfl
    · exact h
    · rw [hx] at h; cases h
    · rw [hx] at h; cases h
  exact ⟨fun i => main i 2 _ (wd _ (by decide +kernel) (by decide)), fun i => main i 2 _ (wd _ (by decide +kernel) (by decide)), fun i => main i 4 _ (sg _ (by decide)), fun i => main i 4 _ (sg _ (by decide))⟩
theorem nfz_svs : ∀ l : List ByteArray, nfzss (l.map sv) = true
  | [] => rfl
  | s :: l => by simp [nfzss, sv, nfzs, nfz, nfz_svs l]
def m6 : MC :=
 (.seq (.reg [Xb 2 (.asg (.nils 9 1)), Xb 3 (.asg .fb)]) (.seq (.reg [Xm 10 0, Xb 11 (.call (.fn 19) false [.lend (.t 10)]), Xa 9 11, Xq 12 (.ext 9 0), Xq 13 (.ext 9 1), Xq 14 (.ext 9 2), Xa 4 12, Xa 5 13, Xa 6 14]) (.seq (.seq (.reg [Xm 15 5, Xq 16 (.bin false .neq (.t 15) (.i 0))]) (.cond (.t 16) (.seq (.reg [Xb 2 (.asg (.nils 9 1)), Xb 3 (.asg .fb)]) .ret) .skip)) (.seq (.reg [Xm 17 0, Xq 18
 (.len true (.t 17)), Xb 19 (.build [3] [9] [1] [.s 74 4, .i, .i, .s 44 5, .z, .s 9 1, .s 199 6, .s 202 6, .s 204 2, .i, .s 209 3] [.t 18]), Xb 20 (.box 57 (.t 19)), Xb 7 (.alloc 52 [.v (.pointer none)]), Xz (.store 1 (.t 7) (.t 20))]) (.seq (.reg [Xl 21 1 7, Xm 22 4, Xq 23 (.nilchk (.t 21)), Xf 24 0 23, Xf 25 0 24, Xz (.store 1 (.t 25) (.t 22))]) (.seq (.seq (.reg [Xq 26 (.mkf 21 [.t 7]), Xb 27
 (.callc (.fn 20) (.t 26)), Xb 8 (.alloc 59 [.i, .i]), Xz (.store 2 (.t 8) (.t 27))]) (.seq (.reg [Xf 28 0 8, Xl 29 1 28, Xq 30 (.bin false .neq (.t 29) (.i 0))]) (.cond (.t 30) (.seq (.reg [Xb 2 (.asg (.nils 9 1)), Xb 3 (.asg .fb)]) .ret) .skip))) (.seq (.reg [Xl 31 1 7, Xq 32 (.nilchk (.t 31)), Xf 33 4 32, Xf 34 1 33, Xl 35 1 34, Xa 2 35, Xb 3 (.asg .tb)]) .ret)))))))
def impV (s : ByteArray) : List AV := [.usl 9 1 (((impN s).getD []).map sv), .v (.bool (impN s).isSome)]
set_option maxHeartbeats 1000000 in
theorem d6 (s : ByteArray) (hs : (s.size : Int) ≤ 9223372036854775807) :
    Does Go.Proofs.Tryz.prog 6 [.v (.string s)] false (.tup (impV s)) [.dead] := by
  have dr := d19 s hs
  unfold rt3 at dr
  refine does_intro (mc := m6) (N := 36) (rs := [2, 3]) (fx := []) 1 rfl (by decide +kernel) ?_
  simp only [m6, evN, evPn, evPa, callpX, callpW, EV, Nat.reduceEqDiff, Nat.reduceBEq, Nat.reduceLT, Nat.reduceLeDiff, Nat.reduceAdd, Nat.reduceSub, reduceIte]
  refine callK_i dr ?_
  rcases hR : readN s with L | ⟨cd, pl⟩
  rotate_left
  · have hn : impN s = none := by unfold impN; rw [hR]
    have hc : (cd != 0) = true := by simpa using (readN_ok s).2 cd pl hR
    simp only [hR] at dr
    simp only [rtL, rtC, rtA, impV, hn, hc, evN, evPn, evPa, callpX, callpW, EV, Nat.reduceEqDiff, Nat.reduceBEq, Nat.reduceLT, Nat.reduceLeDiff, Nat.reduceAdd, Nat.reduceSub, reduceIte]
    simp only [Option.getD_none, Option.isSome_none, List.map_nil, evN, evPn, evPa, callpX, callpW, EV, Nat.reduceEqDiff, Nat.reduceBEq, Nat.reduceLT, Nat.reduceLeDiff, Nat.reduceAdd, Nat.reduceSub, reduceIte, evRE, retVC, cellV', evR, nfz, nfzs, nfzss, List.contains_nil, List.contains_cons, Bool.or_false, or_true]
  · have hkd := kinds_of ((readN_ok s).1 L hR)
    have hlen : L.length ≤ 300 := by have := rtL_few s; rw [hR] at this; exact this
    have hn : impN s = impP L := by unfold impN; rw [hR]
    have dg := guarded_e (d21 ⟨L, 0, ⟨#[]⟩, [], s.size⟩ rfl rfl hkd (by simp only; omega)) (by rintro r o ⟨rfl, c', _, rfl⟩; exact ⟨rfl, _, rfl⟩) (by rintro ch o ⟨⟨a, rfl⟩, c', _, rfl⟩; exact ⟨20, a, _, rfl, rfl⟩)
    simp only [rtL, rtC, rtA, impV, hn, evN, evPn, evPa, callpX, callpW, EV, Nat.reduceEqDiff, Nat.reduceBEq, Nat.reduceLT, Nat.reduceLeDiff, Nat.reduceAdd, Nat.reduceSub, reduceIte]
    rcases hI : impP L with _ | names
    · refine ⟨fun r out => ∃ (a : Int) (c' : Cmp), r = .agg [.v (.int .i64 20), .v (.int .i64 a)] ∧ out = .box 52 [c'.b], dg.mono' ?_, ?_⟩
      · rintro r o (⟨out, ⟨_, c', h, _⟩, _⟩ | ⟨code, a, out, ⟨⟨a', hf⟩, c', _, ho⟩, rfl, rfl⟩)
        · simp only at h; rw [hI] at h; cases h
        · simp only [flt, List.cons.injEq, PanicEntry.mk.injEq, Value.iface.injEq, Value.agg.injEq, Array.mk.injEq, Value.int.injEq, true_and, and_true] at hf
          obtain ⟨rfl, rfl⟩ := hf
          simp only [List.cons.injEq, and_true] at ho
          subst ho
          exact ⟨_, ⟨_, c', rfl, rfl⟩, rfl⟩
      · rintro r out ⟨a, c', rfl, rfl⟩
        refine ⟨rfl, rfl, ?_⟩
        have h20 : ((20 : Int) != 0) = true := by decide
        simp only [Cmp.b, h20, evN, evPn, evPa, callpX, callpW, EV, Nat.reduceEqDiff, Nat.reduceBEq, Nat.reduceLT, Nat.reduceLeDiff, Nat.reduceAdd, Nat.reduceSub, reduceIte]
        simp only [Option.getD_none, Option.isSome_none, List.map_nil, evN, evPn, evPa, callpX, callpW, EV, Nat.reduceEqDiff, Nat.reduceBEq, Nat.reduceLT, Nat.reduceLeDiff, Nat.reduceAdd, Nat.reduceSub, reduceIte, evRE, retVC, cellV', evR, nfz, nfzs, nfzss, List.contains_nil, List.contains_cons, Bool.or_false, or_true]
    · refine ⟨fun r out => ∃ (c' : Cmp), c'.im = names ∧ r = .agg [.v (.int .i64 0), .v (.int .i64 0)] ∧ out = .box 52 [c'.b], dg.mono' ?_, ?_⟩
      · rintro r o (⟨out, ⟨_, c', h, ho⟩, rfl, rfl⟩ | ⟨code, a, out, ⟨⟨a', hf⟩, c', h, ho⟩, rfl, rfl⟩)
        · simp only [List.cons.injEq, and_true] at ho
          subst ho
          simp only at h
          rw [hI] at h
          exact ⟨_, ⟨c', (Option.some.inj h).symm, rfl, rfl⟩, rfl⟩
        · simp only at h; rw [hI] at h; cases h
      · rintro r out ⟨c', hc, rfl, rfl⟩
        refine ⟨rfl, rfl, ?_⟩
        simp only [Cmp.b, Cmp.z, evN, evPn, evPa, callpX, callpW, EV, Nat.reduceEqDiff, Nat.reduceBEq, Nat.reduceLT, Nat.reduceLeDiff, Nat.reduceAdd, Nat.reduceSub, reduceIte]
        simp only [Option.getD_some, Option.isSome_some, hc, nfz_svs, evN, evPn, evPa, callpX, callpW, EV, Nat.reduceEqDiff, Nat.reduceBEq, Nat.reduceLT, Nat.reduceLeDiff, Nat.reduceAdd, Nat.reduceSub, reduceIte, evRE, retVC, cellV', evR, nfz, nfzs, nfzss, List.contains_nil, List.contains_cons, Bool.or_false, or_true]
end Go.AM
namespace Go.AM
set_option linter.unusedVariables false
set_option linter.unusedSimpArgs false
structure Sc where
  L : List Tok
  lg : Int
  at' : Nat
  cd : Int
  pl : Int
def Sc.z (c : Sc) : List AV := [.usl 74 4 (c.L.map Tok.z), .v (.int .i64 c.lg), .v (.int .i64 (c.at' : Int)), .usl 44 5 [], .v (.string ⟨#[]⟩), .usl 9 1 [], .usl 199 6 [], .usl 202 6 [], .usl 204 2 [], .usl 207 3 [], .v (.int .i64 c.cd), .v (.int .i64 c.pl)]
def Sc.b (c : Sc) : AV := .box 47 c.z
def Sc.isB (c : Sc) (t : ByteArray) : Bool := c.cd == 0 && txAt c.L c.at' t
def Sc.adv (c : Sc) : Sc := { c with at' := c.at' + 1 }
def Sc.bad (c : Sc) : Sc := if 0 < c.cd then c else { c with cd := 20, pl := match c.L[c.at']? with | some t => t.pos | none => c.lg }
def Sc.need (c : Sc) (t : ByteArray) : Sc := if c.isB t = true then c.adv else c.bad
def Sc.nmB (c : Sc) : Bool := !decide (0 < c.cd) && kdAt c.L c.at' 1
def Sc.name (c : Sc) : Sc := if c.nmB = true then c.adv else c.bad
def Sc.nmT (c : Sc) : ByteArray := if c.nmB = true then nmAt c.L c.at' else ⟨#[]⟩
theorem txAt_lt {L : List Tok} {i : Nat} {t : ByteArray} (h : txAt L i t = true) : i < L.length := by
  unfold txAt at h
  split at h
  · rename_i t e; exact (List.getElem?_eq_some_iff.1 e).1
  · cases h
def m32 : MC :=
 (.seq (.reg [Xb 4 (.asg .fb)]) (.seq (.dreg [Xm 5 0, Xq 6 (.nilchk (.t 5)), Xf 7 10 6, Xl 8 1 7, Xq 9 (.bin false .eql (.t 8) (.i 0)), Xm 10 9, Xt 11 10 (.mov (.t 0)), Xt 12 10 (.nilchk (.t 11)), Xt 13 10 (.fad 2 (.t 12)), Xt 14 10 (.load false 1 (.t 13)), Xt 15 10 (.mov (.t 0)), Xt 16 10 (.nilchk (.t 15)), Xt 17 10 (.fad 0 (.t 16)), Xt 18 10 (.load false 1 (.t 17)), Xt 19 10 (.len false (.t 18)),
 Xt 20 10 (.bin false .lss (.t 14) (.t 19)), Xq 21 (.pick (.t 10) (.t 20) .fb), Xm 22 21, Xt 23 22 (.mov (.t 0)), Xt 24 22 (.nilchk (.t 23)), Xt 25 22 (.fad 0 (.t 24)), Xt 26 22 (.load false 1 (.t 25)), Xt 27 22 (.mov (.t 0)), Xt 28 22 (.nilchk (.t 27)), Xt 29 22 (.fad 2 (.t 28)), Xt 30 22 (.load false 1 (.t 29)), Xt 31 22 (.iad 4 (.t 26) (.t 30)), Xt 32 22 (.fad 1 (.t 31)), Xt 33 22 (.load false 1
 (.t 32)), Xt 34 22 (.mov (.t 1)), Xt 35 22 (.bin false .eql (.t 33) (.t 34)), Xq 36 (.pick (.t 22) (.t 35) .fb), Xm 4 36]) .ret))
set_option maxHeartbeats 1000000 in
theorem d32 (c : Sc) (t : ByteArray) (hL : c.L.length < 1000000) : Does Go.Proofs.Tryz.prog 32 [c.b, .v (.string t)] false (.v (.bool (c.isB t))) [c.b, .dead] := by
  obtain ⟨L, lg, i, cd, pl⟩ := c
  simp only at hL
  refine does_intro (mc := m32) (N := 37) (rs := [4]) (fx := [0]) 2 rfl (by decide +kernel) ?_
  simp only [m32, Sc.b, Sc.z, Sc.isB, evN, EV, Nat.reduceEqDiff, Nat.reduceBEq, Nat.reduceLT, Nat.reduceLeDiff, Nat.reduceAdd, Nat.reduceSub, reduceIte]
  rcases f1 : (cd == 0) with _ | _
  · simp only [f1, evN, EV, Nat.reduceEqDiff, Nat.reduceBEq, Nat.reduceLT, Nat.reduceLeDiff, Nat.reduceAdd, Nat.reduceSub, reduceIte]
    all_goals try simp only [EV, Nat.reduceEqDiff, Nat.reduceBEq, Nat.reduceLT, Nat.reduceLeDiff, Nat.reduceAdd, Nat.reduceSub, reduceIte, evRE, retVC, cellV', evR, nfz, nfzs, nfzss, List.contains_nil, List.contains_cons, Bool.or_false, or_true]
  rcases f0 : decide ((i : Int) < L.length) with _ | _
  · have h1 : ¬ i < L.length := by simpa using f0
    have hn : txAt L i t = false := by unfold txAt; rw [List.getElem?_eq_none (by omega)]
    simp only [f0, f1, hn, evN, EV, Nat.reduceEqDiff, Nat.reduceBEq, Nat.reduceLT, Nat.reduceLeDiff, Nat.reduceAdd, Nat.reduceSub, reduceIte]
    all_goals try simp only [EV, Nat.reduceEqDiff, Nat.reduceBEq, Nat.reduceLT, Nat.reduceLeDiff, Nat.reduceAdd, Nat.reduceSub, reduceIte, evRE, retVC, cellV', evR, nfz, nfzs, nfzss, List.contains_nil, List.contains_cons, Bool.or_false, or_true]
  · have h1 : i < L.length := by simpa using f0
    have h2 : (i : Int) < L.length := by omega
    have hn : txAt L i t = ((L[i]).text.toList == t.toList) := by unfold txAt; rw [List.getElem?_eq_getElem h1]
    have e1 : nth (L.map Tok.z) i = (L[i]).z := nth_map h1
    rw [hn]
    simp only [f0, f1, h1, h2, e1, Tok.z, decide_true, evN, EV, Nat.reduceEqDiff, Nat.reduceBEq, Nat.reduceLT, Nat.reduceLeDiff, Nat.reduceAdd, Nat.reduceSub, reduceIte]
    all_goals try simp only [EV, Nat.reduceEqDiff, Nat.reduceBEq, Nat.reduceLT, Nat.reduceLeDiff, Nat.reduceAdd, Nat.reduceSub, reduceIte, evRE, retVC, cellV', evR, nfz, nfzs, nfzss, List.contains_nil, List.contains_cons, Bool.or_false, or_true]
def m18 : MC :=
 (.seq (.reg [Xb 4 (.asg .fb)]) (.seq (.seq (.reg [Xm 5 0, Xm 6 1, Xb 7 (.call (.fn 32) false [.io (.t 5), .lend (.t 6)]), Xq 8 (.un .not (.t 7))]) (.cond (.t 8) (.seq (.reg [Xb 4 (.asg .fb)]) .ret) .skip)) (.seq (.reg [Xm 9 0, Xq 10 (.nilchk (.t 9)), Xf 11 2 10, Xl 12 1 11, Xq 13 (.bin false .add (.t 12) (.i 1)), Xq 14 (.nilchk (.t 9)), Xf 15 2 14, Xz (.store 1 (.t 15) (.t 13))]) (.seq (.reg [Xb 4
 (.asg .tb)]) .ret))))
theorem d18 (c : Sc) (t : ByteArray) (hL : c.L.length < 1000000) : Does Go.Proofs.Tryz.prog 18 [c.b, .v (.string t)] false (.v (.bool (c.isB t))) [(if c.isB t = true then c.adv else c).b, .dead] := by
  have ds := d32 c t hL
  rcases hs : c.isB t with _ | _
  · rw [hs] at ds
    simp only [Sc.b, Sc.z] at ds ⊢
    refine does_intro (mc := m18) (N := 16) (rs := [4]) (fx := [0]) 2 rfl (by decide +kernel) ?_
    simp only [m18, evN, EV, Nat.reduceEqDiff, Nat.reduceBEq, Nat.reduceLT, Nat.reduceLeDiff, Nat.reduceAdd, Nat.reduceSub, reduceIte]
    refine callK2_i ds rfl rfl ?_
    simp only [evN, EV, Nat.reduceEqDiff, Nat.reduceBEq, Nat.reduceLT, Nat.reduceLeDiff, Nat.reduceAdd, Nat.reduceSub, reduceIte]
    simp only [EV, Nat.reduceEqDiff, Nat.reduceBEq, Nat.reduceLT, Nat.reduceLeDiff, Nat.reduceAdd, Nat.reduceSub, reduceIte, evRE, retVC, cellV', evR, nfz, nfzs, nfzss, List.contains_nil, List.contains_cons, Bool.or_false, or_true]
  · rw [hs] at ds
    have hlt : c.at' < c.L.length := by
      unfold Sc.isB at hs
      simp only [Bool.and_eq_true] at hs
      exact txAt_lt hs.2
    have w1 := w64 ((c.at' : Int) + 1) (by omega)
    simp only [Sc.b, Sc.z, Sc.adv, if_true] at ds ⊢
    refine does_intro (mc := m18) (N := 16) (rs := [4]) (fx := [0]) 2 rfl (by decide +kernel) ?_
    simp only [m18, evN, EV, Nat.reduceEqDiff, Nat.reduceBEq, Nat.reduceLT, Nat.reduceLeDiff, Nat.reduceAdd, Nat.reduceSub, reduceIte]
    refine callK2_i ds rfl rfl ?_
    simp only [w1, evN, EV, Nat.reduceEqDiff, Nat.reduceBEq, Nat.reduceLT, Nat.reduceLeDiff, Nat.reduceAdd, Nat.reduceSub, reduceIte]
    simp only [w1, EV, Nat.reduceEqDiff, Nat.reduceBEq, Nat.reduceLT, Nat.reduceLeDiff, Nat.reduceAdd, Nat.reduceSub, reduceIte, evRE, retVC, cellV', evR, nfz, nfzs, nfzss, List.contains_nil, List.contains_cons, Bool.or_false, or_true]
    rfl
def m31 : MC :=
 (.seq (.seq (.reg [Xm 6 0, Xq 7 (.nilchk (.t 6)), Xf 8 10 7, Xl 9 1 8, Xq 10 (.bin false .gtr (.t 9) (.i 0))]) (.cond (.t 10) .ret .skip)) (.seq (.reg [Xm 11 0, Xm 12 1, Xq 13 (.nilchk (.t 11)), Xf 14 10 13, Xz (.store 1 (.t 14) (.t 12))]) (.seq (.reg [Xm 15 0, Xm 16 0, Xq 17 (.nilchk (.t 16)), Xf 18 1 17, Xl 19 1 18, Xq 20 (.nilchk (.t 15)), Xf 21 11 20, Xz (.store 1 (.t 21) (.t 19))]) (.seq
 (.reg [Xm 22 2, Xm 23 0, Xq 24 (.nilchk (.t 23)), Xf 25 0 24, Xl 26 1 25, Xn 27 26, Xq 28 (.bin false .lss (.t 22) (.t 27))]) (.cond (.t 28) (.reg [Xm 29 0, Xm 30 0, Xq 31 (.nilchk (.t 30)), Xf 32 0 31, Xl 33 1 32, Xm 34 2, Xi 35 4 33 34, Xf 36 3 35, Xl 37 1 36, Xq 38 (.nilchk (.t 29)), Xf 39 11 38, Xz (.store 1 (.t 39) (.t 37))]) .skip)))))
theorem d31 (c : Sc) (hL : c.L.length < 1000000) : Does Go.Proofs.Tryz.prog 31 [c.b, .v (.int .i64 20), .v (.int .i64 (c.at' : Int))] false (.tup []) [c.bad.b, .dead, .dead] := by
  obtain ⟨L, lg, i, cd, pl⟩ := c
  simp only at hL
  refine does_intro (mc := m31) (N := 40) (rs := []) (fx := [0]) 3 rfl (by decide +kernel) ?_
  simp only [m31, Sc.b, Sc.z, Sc.bad, evN, EV, Nat.reduceEqDiff, Nat.reduceBEq, Nat.reduceLT, Nat.reduceLeDiff, Nat.reduceAdd, Nat.reduceSub, reduceIte]
  refine cK_cut (fun h => ?_) (fun h => ?_)
  · have h1 : 0 < cd := by simpa using h
    simp only [h1, evN, EV, Nat.reduceEqDiff, Nat.reduceBEq, Nat.reduceLT, Nat.reduceLeDiff, Nat.reduceAdd, Nat.reduceSub, reduceIte]
    simp only [EV, Nat.reduceEqDiff, Nat.reduceBEq, Nat.reduceLT, Nat.reduceLeDiff, Nat.reduceAdd, Nat.reduceSub, reduceIte, evRE, retVC, cellV', evR, nfz, nfzs, nfzss, List.contains_nil, List.contains_cons, Bool.or_false, or_true]
  · have h1 : ¬ 0 < cd := by simpa using h
    simp only [h1, evN, EV, Nat.reduceEqDiff, Nat.reduceBEq, Nat.reduceLT, Nat.reduceLeDiff, Nat.reduceAdd, Nat.reduceSub, reduceIte]
    refine cK_cut (fun h => ?_) (fun h => ?_)
    · have h2 : i < L.length := by simpa using h
      have h3 : (i : Int) < L.length := by omega
      have e1 : nth (L.map Tok.z) i = (L[i]).z := nth_map h2
      simp only [h2, h3, e1, Tok.z, List.getElem?_eq_getElem h2, evN, EV, Nat.reduceEqDiff, Nat.reduceBEq, Nat.reduceLT, Nat.reduceLeDiff, Nat.reduceAdd, Nat.reduceSub, reduceIte]
      simp only [EV, Nat.reduceEqDiff, Nat.reduceBEq, Nat.reduceLT, Nat.reduceLeDiff, Nat.reduceAdd, Nat.reduceSub, reduceIte, evRE, retVC, cellV', evR, nfz, nfzs, nfzss, List.contains_nil, List.contains_cons, Bool.or_false, or_true]
    · have h2 : ¬ i < L.length := by simpa using h
      simp only [List.getElem?_eq_none (Nat.le_of_not_lt h2), evN, EV, Nat.reduceEqDiff, Nat.reduceBEq, Nat.reduceLT, Nat.reduceLeDiff, Nat.reduceAdd, Nat.reduceSub, reduceIte]
      simp only [EV, Nat.reduceEqDiff, Nat.reduceBEq, Nat.reduceLT, Nat.reduceLeDiff, Nat.reduceAdd, Nat.reduceSub, reduceIte, evRE, retVC, cellV', evR, nfz, nfzs, nfzss, List.contains_nil, List.contains_cons, Bool.or_false, or_true]
def m16 : MC :=
 (.seq (.reg [Xm 4 0, Xm 5 1, Xb 6 (.call (.fn 18) false [.io (.t 4), .lend (.t 5)]), Xq 7 (.un .not (.t 6))]) (.cond (.t 7) (.reg [Xm 8 0, Xm 9 0, Xq 10 (.nilchk (.t 9)), Xf 11 2 10, Xl 12 1 11, Xb 13 (.call (.fn 31) false [.io (.t 8), .lend (.i 20), .lend (.t 12)])]) .skip))
theorem d16 (c : Sc) (t : ByteArray) (hL : c.L.length < 1000000) : Does Go.Proofs.Tryz.prog 16 [c.b, .v (.string t)] false (.tup []) [(c.need t).b, .dead] := by
  have dt := d18 c t hL
  have df := d31 c hL
  rcases hs : c.isB t with _ | _
  · rw [hs, if_neg (by simp)] at dt
    have e : c.need t = c.bad := by unfold Sc.need; rw [hs, if_neg (by simp)]
    rw [e]
    generalize hb : c.bad = cb at df ⊢
    simp only [Sc.b, Sc.z] at dt df ⊢
    refine does_intro (mc := m16) (N := 14) (rs := []) (fx := [0]) 2 rfl (by decide +kernel) ?_
    simp only [m16, evN, EV, Nat.reduceEqDiff, Nat.reduceBEq, Nat.reduceLT, Nat.reduceLeDiff, Nat.reduceAdd, Nat.reduceSub, reduceIte]
    refine callK2_i dt rfl rfl ?_
    simp only [evN, EV, Nat.reduceEqDiff, Nat.reduceBEq, Nat.reduceLT, Nat.reduceLeDiff, Nat.reduceAdd, Nat.reduceSub, reduceIte]
    refine callK2_i df rfl rfl ?_
    simp only [evN, EV, Nat.reduceEqDiff, Nat.reduceBEq, Nat.reduceLT, Nat.reduceLeDiff, Nat.reduceAdd, Nat.reduceSub, reduceIte]
    simp only [EV, Nat.reduceEqDiff, Nat.reduceBEq, Nat.reduceLT, Nat.reduceLeDiff, Nat.reduceAdd, Nat.reduceSub, reduceIte, evRE, retVC, cellV', evR, nfz, nfzs, nfzss, List.contains_nil, List.contains_cons, Bool.or_false, or_true]
  · rw [hs, if_pos rfl] at dt
    have e : c.need t = c.adv := by unfold Sc.need; rw [hs, if_pos rfl]
    rw [e]
    generalize hb : c.adv = cb at dt ⊢
    simp only [Sc.b, Sc.z] at dt ⊢
    refine does_intro (mc := m16) (N := 14) (rs := []) (fx := [0]) 2 rfl (by decide +kernel) ?_
    simp only [m16, evN, EV, Nat.reduceEqDiff, Nat.reduceBEq, Nat.reduceLT, Nat.reduceLeDiff, Nat.reduceAdd, Nat.reduceSub, reduceIte]
    refine callK2_i dt rfl rfl ?_
    simp only [evN, EV, Nat.reduceEqDiff, Nat.reduceBEq, Nat.reduceLT, Nat.reduceLeDiff, Nat.reduceAdd, Nat.reduceSub, reduceIte]
    simp only [EV, Nat.reduceEqDiff, Nat.reduceBEq, Nat.reduceLT, Nat.reduceLeDiff, Nat.reduceAdd, Nat.reduceSub, reduceIte, evRE, retVC, cellV', evR, nfz, nfzs, nfzss, List.contains_nil, List.contains_cons, Bool.or_false, or_true]
def m17 : MC :=
 (.seq (.reg [Xb 2 (.asg (.z #[]))]) (.seq (.seq (.dreg [Xm 3 0, Xq 4 (.nilchk (.t 3)), Xf 5 10 4, Xl 6 1 5, Xq 7 (.bin false .gtr (.t 6) (.i 0)), Xm 8 7, Xu 9 8 (.mov (.t 0)), Xu 10 8 (.nilchk (.t 9)), Xu 11 8 (.fad 2 (.t 10)), Xu 12 8 (.load false 1 (.t 11)), Xu 13 8 (.mov (.t 0)), Xu 14 8 (.nilchk (.t 13)), Xu 15 8 (.fad 0 (.t 14)), Xu 16 8 (.load false 1 (.t 15)), Xu 17 8 (.len false (.t 16)),
 Xu 18 8 (.bin false .geq (.t 12) (.t 17)), Xq 19 (.pick (.t 8) .tb (.t 18)), Xm 20 19, Xu 21 20 (.mov (.t 0)), Xu 22 20 (.nilchk (.t 21)), Xu 23 20 (.fad 0 (.t 22)), Xu 24 20 (.load false 1 (.t 23)), Xu 25 20 (.mov (.t 0)), Xu 26 20 (.nilchk (.t 25)), Xu 27 20 (.fad 2 (.t 26)), Xu 28 20 (.load false 1 (.t 27)), Xu 29 20 (.iad 4 (.t 24) (.t 28)), Xu 30 20 (.fad 0 (.t 29)), Xu 31 20 (.load false 1
 (.t 30)), Xu 32 20 (.bin false .neq (.t 31) (.i 1)), Xq 33 (.pick (.t 20) .tb (.t 32))]) (.cond (.t 33) (.seq (.reg [Xm 34 0, Xm 35 0, Xq 36 (.nilchk (.t 35)), Xf 37 2 36, Xl 38 1 37, Xb 39 (.call (.fn 31) false [.io (.t 34), .lend (.i 20), .lend (.t 38)])]) (.seq (.reg [Xb 2 (.asg (.z #[]))]) .ret)) .skip)) (.seq (.reg [Xm 40 0, Xq 41 (.nilchk (.t 40)), Xf 42 2 41, Xl 43 1 42, Xq 44 (.bin false
 .add (.t 43) (.i 1)), Xq 45 (.nilchk (.t 40)), Xf 46 2 45, Xz (.store 1 (.t 46) (.t 44))]) (.seq (.dreg [Xm 47 0, Xq 48 (.nilchk (.t 47)), Xf 49 0 48, Xl 50 1 49, Xm 51 0, Xq 52 (.nilchk (.t 51)), Xf 53 2 52, Xl 54 1 53, Xq 55 (.bin false .sub (.t 54) (.i 1)), Xi 56 4 50 55, Xf 57 1 56, Xl 58 1 57, Xm 2 58]) .ret))))
set_option maxHeartbeats 1000000 in
theorem d17 (c : Sc) (hL : c.L.length < 1000000) : Does Go.Proofs.Tryz.prog 17 [c.b] false (.v (.string c.nmT)) [c.name.b] := by
  have df := d31 c hL
  rcases hs : c.nmB with _ | _
  · have e : c.name = c.bad := by unfold Sc.name; rw [hs, if_neg (by simp)]
    have e2 : c.nmT = ⟨#[]⟩ := by unfold Sc.nmT; rw [hs, if_neg (by simp)]
    rw [e, e2]
    generalize hb : c.bad = cb at df ⊢
    unfold Sc.nmB at hs
    obtain ⟨L, lg, i, cd, pl⟩ := c
    simp only [Sc.b, Sc.z] at df hs hL ⊢
    refine does_intro (mc := m17) (N := 59) (rs := [2]) (fx := [0]) 1 rfl (by decide +kernel) ?_
    simp only [m17, evN, EV, Nat.reduceEqDiff, Nat.reduceBEq, Nat.reduceLT, Nat.reduceLeDiff, Nat.reduceAdd, Nat.reduceSub, reduceIte]
    have fin : cK (.v (.bool true)) (fun st => True) (fun st => True) (stl []) := by simp [cK, condV]
    rcases f1 : decide (0 < cd) with _ | _
    · rw [f1, Bool.not_false, Bool.true_and] at hs
      rcases f0 : decide ((L.length : Int) ≤ i) with _ | _
      · have h1 : i < L.length := by simpa using f0
        have h2 : (i : Int) < L.length := by omega
        have e1 : nth (L.map Tok.z) i = (L[i]).z := nth_map h1
        have h4 : ((L[i]).kind != 1) = true := by
          unfold kdAt at hs
          rw [List.getElem?_eq_getElem h1] at hs
          simpa [bne] using hs
        simp only [f0, f1, h1, h2, e1, h4, Tok.z, evN, EV, Nat.reduceEqDiff, Nat.reduceBEq, Nat.reduceLT, Nat.reduceLeDiff, Nat.reduceAdd, Nat.reduceSub, reduceIte]
        refine callK2_i df rfl rfl ?_
        simp only [evN, EV, Nat.reduceEqDiff, Nat.reduceBEq, Nat.reduceLT, Nat.reduceLeDiff, Nat.reduceAdd, Nat.reduceSub, reduceIte]
        simp only [EV, Nat.reduceEqDiff, Nat.reduceBEq, Nat.reduceLT, Nat.reduceLeDiff, Nat.reduceAdd, Nat.reduceSub, reduceIte, evRE, retVC, cellV', evR, nfz, nfzs, nfzss, List.contains_nil, List.contains_cons, Bool.or_false, or_true]
      · simp only [f0, f1, evN, EV, Nat.reduceEqDiff, Nat.reduceBEq, Nat.reduceLT, Nat.reduceLeDiff, Nat.reduceAdd, Nat.reduceSub, reduceIte]
        refine callK2_i df rfl rfl ?_
        simp only [evN, EV, Nat.reduceEqDiff, Nat.reduceBEq, Nat.reduceLT, Nat.reduceLeDiff, Nat.reduceAdd, Nat.reduceSub, reduceIte]
        simp only [EV, Nat.reduceEqDiff, Nat.reduceBEq, Nat.reduceLT, Nat.reduceLeDiff, Nat.reduceAdd, Nat.reduceSub, reduceIte, evRE, retVC, cellV', evR, nfz, nfzs, nfzss, List.contains_nil, List.contains_cons, Bool.or_false, or_true]
    · simp only [f1, evN, EV, Nat.reduceEqDiff, Nat.reduceBEq, Nat.reduceLT, Nat.reduceLeDiff, Nat.reduceAdd, Nat.reduceSub, reduceIte]
      refine callK2_i df rfl rfl ?_
      simp only [evN, EV, Nat.reduceEqDiff, Nat.reduceBEq, Nat.reduceLT, Nat.reduceLeDiff, Nat.reduceAdd, Nat.reduceSub, reduceIte]
      simp only [EV, Nat.reduceEqDiff, Nat.reduceBEq, Nat.reduceLT, Nat.reduceLeDiff, Nat.reduceAdd, Nat.reduceSub, reduceIte, evRE, retVC, cellV', evR, nfz, nfzs, nfzss, List.contains_nil, List.contains_cons, Bool.or_false, or_true]
  · have e : c.name = c.adv := by unfold Sc.name; rw [hs, if_pos rfl]
    have e2 : c.nmT = nmAt c.L c.at' := by unfold Sc.nmT; rw [hs, if_pos rfl]
    rw [e, e2]
    unfold Sc.nmB at hs
    simp only [Bool.and_eq_true, Bool.not_eq_true', decide_eq_false_iff_not] at hs
    obtain ⟨hc, hk⟩ := hs
    have h1 := kdAt_lt hk
    obtain ⟨L, lg, i, cd, pl⟩ := c
    simp only at hc hk h1 hL
    have f1 : decide (0 < cd) = false := by simpa using hc
    have h2 : (i : Int) < L.length := by omega
    have f0 : decide ((L.length : Int) ≤ i) = false := by simp; omega
    have e1 : nth (L.map Tok.z) i = (L[i]).z := nth_map h1
    have h4 : ((L[i]).kind != 1) = false := by
      unfold kdAt at hk
      rw [List.getElem?_eq_getElem h1] at hk
      simpa [bne] using hk
    have w1 := w64 ((i : Int) + 1) (by omega)
    have w2 := w64 ((i : Int) + 1 - 1) (by omega)
    have w3 := w64 (i : Int) (by omega)
    have q2 : ((i : Int) + 1 - 1) = i := by omega
    have e4 : nmAt L i = (L[i]).text := by unfold nmAt; rw [List.getElem?_eq_getElem h1]; rfl
    simp only [Sc.b, Sc.z, Sc.adv]
    refine does_intro (mc := m17) (N := 59) (rs := [2]) (fx := [0]) 1 rfl (by decide +kernel) ?_
    simp only [m17, evN, EV, Nat.reduceEqDiff, Nat.reduceBEq, Nat.reduceLT, Nat.reduceLeDiff, Nat.reduceAdd, Nat.reduceSub, reduceIte]
    simp only [f0, f1, h1, h2, e1, h4, Tok.z, w1, w2, w3, q2, Int.toNat_natCast, evN, EV, Nat.reduceEqDiff, Nat.reduceBEq, Nat.reduceLT, Nat.reduceLeDiff, Nat.reduceAdd, Nat.reduceSub, reduceIte]
    simp only [e4, EV, Nat.reduceEqDiff, Nat.reduceBEq, Nat.reduceLT, Nat.reduceLeDiff, Nat.reduceAdd, Nat.reduceSub, reduceIte, evRE, retVC, cellV', evR, nfz, nfzs, nfzss, List.contains_nil, List.contains_cons, Bool.or_false, or_true]
    rfl
end Go.AM
namespace Go.AM
set_option linter.unusedVariables false
set_option linter.unusedSimpArgs false
theorem Sc.bad_cd (c : Sc) : 0 < c.bad.cd := by
  unfold Sc.bad
  split
  · assumption
  · simp
theorem Sc.bad_id {c : Sc} (h : 0 < c.cd) : c.bad = c := by unfold Sc.bad; rw [if_pos h]
theorem Sc.isB_bad {c : Sc} (h : 0 < c.cd) (t : ByteArray) : c.isB t = false := by
  unfold Sc.isB
  have : (c.cd == 0) = false := by simp; omega
  rw [this, Bool.false_and]
theorem Sc.need_bad {c : Sc} (h : 0 < c.cd) (t : ByteArray) : c.need t = c := by
  unfold Sc.need
  rw [Sc.isB_bad h, if_neg (by simp), Sc.bad_id h]
theorem Sc.name_bad {c : Sc} (h : 0 < c.cd) : c.name = c := by
  unfold Sc.name Sc.nmB
  rw [decide_eq_true h]
  simp [Sc.bad_id h]
theorem Sc.isB_ok {c : Sc} (h : c.cd = 0) (t : ByteArray) : c.isB t = txAt c.L c.at' t := by unfold Sc.isB; rw [h]; simp
theorem Sc.nmB_ok {c : Sc} (h : c.cd = 0) : c.nmB = kdAt c.L c.at' 1 := by unfold Sc.nmB; rw [h]; simp
theorem Sc.badL (c : Sc) : c.bad.L = c.L := by unfold Sc.bad; split <;> rfl
theorem Sc.needL (c : Sc) (t : ByteArray) : (c.need t).L = c.L := by unfold Sc.need; split; rfl; exact c.badL
theorem Sc.nameL (c : Sc) : c.name.L = c.L := by unfold Sc.name; split; rfl; exact c.badL
theorem Sc.need_ok {c : Sc} {t : ByteArray} (h : c.isB t = true) : c.need t = c.adv := by unfold Sc.need; rw [if_pos h]
theorem Sc.need_no {c : Sc} {t : ByteArray} (h : c.isB t = false) : c.need t = c.bad := by unfold Sc.need; rw [if_neg (by simp [h])]
theorem Sc.name_ok {c : Sc} (h : c.nmB = true) : c.name = c.adv := by unfold Sc.name; rw [if_pos h]
theorem Sc.name_no {c : Sc} (h : c.nmB = false) : c.name = c.bad := by unfold Sc.name; rw [if_neg (by simp [h])]
def m5 : MC :=
 (.seq (.reg [Xb 2 (.asg (.nils 9 1)), Xb 3 (.asg .fb)]) (.seq (.reg [Xm 11 0, Xb 12 (.call (.fn 15) false [.lend (.t 11)]), Xa 10 12, Xq 13 (.ext 10 0), Xq 14 (.ext 10 1), Xq 15 (.ext 10 2), Xq 16 (.ext 10 3), Xa 4 13, Xa 5 14, Xa 6 15, Xa 7 16]) (.seq (.seq (.reg [Xm 17 7, Xq 18 (.un .not (.t 17))]) (.cond (.t 18) (.seq (.reg [Xb 2 (.asg (.nils 9 1)), Xb 3 (.asg .fb)]) .ret) .skip)) (.seq (.reg
 [Xm 19 4, Xm 20 0, Xq 21 (.len true (.t 20)), Xb 22 (.build [0, 1] [0, 1] [1, 1] [.s 74 4, .i, .i, .s 44 5, .z, .s 9 1, .s 199 6, .s 202 6, .s 204 2, .s 207 3, .i, .i] [.t 19, .t 21]), Xb 23 (.box 47 (.t 22)), Xa 8 23]) (.seq (.reg [Xm 24 8, Xb 25 (.call (.fn 16) false [.io (.t 24), .lend (.z #[77, 79, 68, 85, 76, 69])])]) (.seq (.reg [Xm 26 8, Xb 27 (.call (.fn 17) false [.io (.t 26)])]) (.seq
 (.reg [Xm 28 8, Xb 29 (.call (.fn 16) false [.io (.t 28), .lend (.z #[59])])]) (.seq (.reg [Xb 9 (.asg (.nils 9 1))]) (.join [8, 9, 23, 36, 43] (.seq (.reg [Xm 30 8, Xb 31 (.call (.fn 18) false [.io (.t 30), .lend (.z #[73, 77, 80, 79, 82, 84])])]) (.cond (.t 31) (.seq (.reg [Xm 32 9, Xm 33 8, Xb 34 (.call (.fn 17) false [.io (.t 33)]), Xb 35 (.bsl 9 1 [.t 34]), Xb 36 (.app true 9 1 16 (.t 32) (.t
 35)), Xa 9 36]) (.seq (.block 0 (.loop [8, 9, 23, 36, 43] (.seq (.seq (.reg [Xm 37 8, Xb 38 (.call (.fn 18) false [.io (.t 37), .lend (.z #[44])])]) (.cond (.t 38) .skip (.exit 0))) (.block 1 (.reg [Xm 39 9, Xm 40 8, Xb 41 (.call (.fn 17) false [.io (.t 40)]), Xb 42 (.bsl 9 1 [.t 41]), Xb 43 (.app true 9 1 16 (.t 39) (.t 42)), Xa 9 43]))))) (.reg [Xm 44 8, Xb 45 (.call (.fn 16) false [.io (.t 44),
 .lend (.z #[59])])]))) .skip)) (.seq (.seq (.reg [Xm 46 8, Xq 47 (.nilchk (.t 46)), Xf 48 10 47, Xl 49 1 48, Xq 50 (.bin false .gtr (.t 49) (.i 0))]) (.cond (.t 50) (.seq (.reg [Xb 2 (.asg (.nils 9 1)), Xb 3 (.asg .fb)]) .ret) .skip)) (.seq (.reg [Xm 51 9, Xa 2 51, Xb 3 (.asg .tb)]) .ret)))))))))))
theorem impP_eq (L : List Tok) : impP L = if txAt L 0 sMOD = true ∧ kdAt L 1 1 = true ∧ txAt L 2 sSEM = true then (if txAt L 3 sIMP = true then impG L 4 [] else some []) else none := rfl
theorem head_ok (L : List Tok) (lg : Int) (c3 : Sc) (h : c3 = ((Sc.mk L lg 0 0 0).need sMOD).name.need sSEM) :
    (c3.cd = 0 ∧ c3.at' = 3 ∧ impP L = if txAt L 3 sIMP = true then impG L 4 [] else some []) ∨ (0 < c3.cd ∧ impP L = none) := by
  subst h
  rw [impP_eq]
  have e1 : (Sc.mk L lg 0 0 0).isB sMOD = txAt L 0 sMOD := Sc.isB_ok rfl _
  have e2 : (Sc.mk L lg 0 0 0).adv.nmB = kdAt L 1 1 := Sc.nmB_ok rfl
  have e3 : (Sc.mk L lg 0 0 0).adv.adv.isB sSEM = txAt L 2 sSEM := Sc.isB_ok rfl _
  rcases h1 : txAt L 0 sMOD with _ | _
  · have q1 : (Sc.mk L lg 0 0 0).need sMOD = (Sc.mk L lg 0 0 0).bad := Sc.need_no (by rw [e1, h1])
    rw [q1, Sc.name_bad (Sc.bad_cd _), Sc.need_bad (Sc.bad_cd _), if_neg (by simp)]
    exact .inr ⟨Sc.bad_cd _, rfl⟩
  have q1 : (Sc.mk L lg 0 0 0).need sMOD = (Sc.mk L lg 0 0 0).adv := Sc.need_ok (by rw [e1, h1])
  rw [q1]
  rcases h2 : kdAt L 1 1 with _ | _
  · have q2 : (Sc.mk L lg 0 0 0).adv.name = (Sc.mk L lg 0 0 0).adv.bad := Sc.name_no (by rw [e2, h2])
    rw [q2, Sc.need_bad (Sc.bad_cd _), if_neg (by simp)]
    exact .inr ⟨Sc.bad_cd _, rfl⟩
  have q2 : (Sc.mk L lg 0 0 0).adv.name = (Sc.mk L lg 0 0 0).adv.adv := Sc.name_ok (by rw [e2, h2])
  rw [q2]
  rcases h3 : txAt L 2 sSEM with _ | _
  · have q3 : (Sc.mk L lg 0 0 0).adv.adv.need sSEM = (Sc.mk L lg 0 0 0).adv.adv.bad := Sc.need_no (by rw [e3, h3])
    rw [q3, if_neg (by simp)]
    exact .inr ⟨Sc.bad_cd _, rfl⟩
  have q3 : (Sc.mk L lg 0 0 0).adv.adv.need sSEM = (Sc.mk L lg 0 0 0).adv.adv.adv := Sc.need_ok (by rw [e3, h3])
  rw [q3, if_pos ⟨rfl, rfl, rfl⟩]
  exact .inl ⟨rfl, rfl, rfl⟩
def impF (L : List Tok) (i : Nat) (out : List ByteArray) : Option (List ByteArray) := if txAt L i sCOM = true then impG L (i + 1) out else if txAt L i sSEM = true then some out else none
theorem impG_fG (L : List Tok) (i : Nat) (out : List ByteArray) : impG L i out = if kdAt L i 1 = true then impF L (i + 1) (out ++ [nmAt L i]) else none := by
  rw [impG_eq]; rfl
theorem name_step (c : Sc) (out : List ByteArray) (R : Option (List ByteArray)) (h : (c.cd = 0 ∧ impG c.L c.at' out = R) ∨ (0 < c.cd ∧ R = none)) :
    ((c.name.cd = 0 ∧ impF c.L c.name.at' (out ++ [c.nmT]) = R) ∨ (0 < c.name.cd ∧ R = none)) := by
  rcases h with ⟨h0, h1⟩ | ⟨h0, h1⟩
  · rw [impG_fG] at h1
    rcases hk : kdAt c.L c.at' 1 with _ | _
    · rw [Sc.name_no (by rw [Sc.nmB_ok h0, hk])]
      rw [if_neg (by simp [hk])] at h1
      exact .inr ⟨Sc.bad_cd _, h1.symm⟩
    · have hb : c.nmB = true := by rw [Sc.nmB_ok h0, hk]
      rw [Sc.name_ok hb]
      rw [if_pos hk] at h1
      refine .inl ⟨h0, ?_⟩
      unfold Sc.nmT
      rw [if_pos hb]
      exact h1
  · rw [Sc.name_bad h0]; exact .inr ⟨h0, h1⟩
theorem Sc.bad_at (c : Sc) : c.bad.at' = c.at' := by unfold Sc.bad; split <;> rfl
theorem Sc.name_at (c : Sc) : c.at' ≤ c.name.at' := by
  unfold Sc.name
  split
  · simp [Sc.adv]
  · rw [Sc.bad_at]; exact Nat.le_refl _
set_option maxHeartbeats 4000000 in
theorem d5 (s : ByteArray) (hs : (s.size : Int) ≤ 9223372036854775807) : Does Go.Proofs.Tryz.prog 5 [.v (.string s)] false (.tup (impV s)) [.dead] := by
  have dr := d15 s hs
  unfold rtV at dr
  refine does_intro (mc := m5) (N := 52) (rs := [2, 3]) (fx := []) 1 rfl (by decide +kernel) ?_
  simp only [m5, evN, EV, Nat.reduceEqDiff, Nat.reduceBEq, Nat.reduceLT, Nat.reduceLeDiff, Nat.reduceAdd, Nat.reduceSub, reduceIte]
  refine callK_i dr ?_
  rcases hR : readN s with L | ⟨cd, pl⟩
  rotate_left
  · have hn : impN s = none := by unfold impN; rw [hR]
    simp only [hR] at dr
    simp only [rtL, rtC, rtA, rtB, impV, hn, evN, EV, Nat.reduceEqDiff, Nat.reduceBEq, Nat.reduceLT, Nat.reduceLeDiff, Nat.reduceAdd, Nat.reduceSub, reduceIte]
    simp only [Option.getD_none, Option.isSome_none, List.map_nil, evN, EV, Nat.reduceEqDiff, Nat.reduceBEq, Nat.reduceLT, Nat.reduceLeDiff, Nat.reduceAdd, Nat.reduceSub, reduceIte, evRE, retVC, cellV', evR, nfz, nfzs, nfzss, List.contains_nil, List.contains_cons, Bool.or_false, or_true]
  · have hlen : L.length ≤ 300 := by have := rtL_few s; rw [hR] at this; exact this
    have hn : impN s = impP L := by unfold impN; rw [hR]
    simp only [rtL, rtC, rtA, rtB, impV, hn, evN, EV, Nat.reduceEqDiff, Nat.reduceBEq, Nat.reduceLT, Nat.reduceLeDiff, Nat.reduceAdd, Nat.reduceSub, reduceIte]
    have d1 := d16 ⟨L, s.size, 0, 0, 0⟩ sMOD (by simp only; omega)
    generalize h1 : (Sc.mk L s.size 0 0 0).need sMOD = c1 at d1
    have hL1 : c1.L = L := by rw [← h1, Sc.needL]
    simp only [Sc.b, Sc.z] at d1
    refine callK2_i d1 rfl rfl ?_
    simp only [evN, EV, Nat.reduceEqDiff, Nat.reduceBEq, Nat.reduceLT, Nat.reduceLeDiff, Nat.reduceAdd, Nat.reduceSub, reduceIte]
    have d2 := d17 c1 (by rw [hL1]; omega)
    generalize h2 : c1.name = c2 at d2
    generalize c1.nmT = n2 at d2
    have hL2 : c2.L = L := by rw [← h2, Sc.nameL, hL1]
    simp only [Sc.b, Sc.z] at d2
    refine callK2_i d2 rfl rfl ?_
    simp only [evN, EV, Nat.reduceEqDiff, Nat.reduceBEq, Nat.reduceLT, Nat.reduceLeDiff, Nat.reduceAdd, Nat.reduceSub, reduceIte]
    have d3 := d16 c2 sSEM (by rw [hL2]; omega)
    generalize h3 : c2.need sSEM = c3 at d3
    have hL3 : c3.L = L := by rw [← h3, Sc.needL, hL2]
    simp only [Sc.b, Sc.z] at d3
    refine callK2_i d3 rfl rfl ?_
    simp only [evN, EV, Nat.reduceEqDiff, Nat.reduceBEq, Nat.reduceLT, Nat.reduceLeDiff, Nat.reduceAdd, Nat.reduceSub, reduceIte]
    have hh := head_ok L s.size c3 (by rw [← h3, ← h2, ← h1])
    clear h1 h2 h3 d1 d2 d3
    refine awp_join (fun p : Sc × List ByteArray => (p.1.cd = 0 ∧ impP L = some p.2) ∨ (0 < p.1.cd ∧ impP L = none)) (fun p => stl [(8, p.1.b), (9, .usl 9 1 (p.2.map sv)), (23, .dead), (36, .dead), (43, .dead)]) ?_ ?_
    · simp only [evN, EV, Nat.reduceEqDiff, Nat.reduceBEq, Nat.reduceLT, Nat.reduceLeDiff, Nat.reduceAdd, Nat.reduceSub, reduceIte]
      have dt := d18 c3 sIMP (by rw [hL3]; omega)
      rcases hi : c3.isB sIMP with _ | _
      · rw [hi, if_neg (by simp)] at dt
        simp only [Sc.b, Sc.z] at dt
        refine callK2_i dt rfl rfl ?_
        simp only [evN, EV, Nat.reduceEqDiff, Nat.reduceBEq, Nat.reduceLT, Nat.reduceLeDiff, Nat.reduceAdd, Nat.reduceSub, reduceIte]
        refine ⟨(c3, []), ?_, rfl⟩
        rcases hh with ⟨e0, e1, e2⟩ | ⟨e0, e1⟩
        · rw [Sc.isB_ok e0, e1, hL3] at hi
          rw [if_neg (by simp [hi])] at e2
          exact .inl ⟨e0, e2⟩
        · exact .inr ⟨e0, e1⟩
      · rcases hh with ⟨e0, e1, e2⟩ | ⟨e0, e1⟩
        rotate_left
        · rw [Sc.isB_bad e0] at hi; cases hi
        rw [Sc.isB_ok e0, e1, hL3] at hi
        have hi' : c3.isB sIMP = true := by rw [Sc.isB_ok e0, e1, hL3]; exact hi
        rw [if_pos hi] at e2
        rw [hi', if_pos rfl] at dt
        have s4 := name_step c3.adv [] (impP L) (.inl ⟨e0, by rw [show c3.adv.L = L from hL3, show c3.adv.at' = 4 by simp [Sc.adv, e1]]; exact e2.symm⟩)
        have a4 := Sc.name_at c3.adv
        have hL4 : c3.adv.L = L := hL3
        have hL4' : c3.adv.name.L = L := by rw [Sc.nameL]; exact hL3
        have d4 := d17 c3.adv (by rw [hL4]; omega)
        generalize h5 : c3.adv.name = c5 at d4 s4 a4 hL4'
        generalize c3.adv.nmT = n4 at d4 s4
        rw [hL4] at s4
        generalize hc4 : c3.adv = c4 at dt d4
        simp only [Sc.b, Sc.z] at dt d4
        refine callK2_i dt rfl rfl ?_
        simp only [evN, EV, Nat.reduceEqDiff, Nat.reduceBEq, Nat.reduceLT, Nat.reduceLeDiff, Nat.reduceAdd, Nat.reduceSub, reduceIte]
        refine callK2_i d4 rfl rfl ?_
        simp only [evN, EV, Nat.reduceEqDiff, Nat.reduceBEq, Nat.reduceLT, Nat.reduceLeDiff, Nat.reduceAdd, Nat.reduceSub, reduceIte]
        refine ⟨by omega, ?_⟩
        refine awp_loop (fun p : Sc × List ByteArray => p.1.L = L ∧ p.2.length ≤ p.1.at' + 1 ∧ ((p.1.cd = 0 ∧ impF L p.1.at' p.2 = impP L) ∨ (0 < p.1.cd ∧ impP L = none)))
          (fun p => stl [(8, p.1.b), (9, .usl 9 1 (p.2.map sv)), (23, .dead), (36, .dead), (43, .dead)]) (fun p => L.length - p.1.at') (c5, [n4]) ⟨hL4', by simp, s4⟩ ?_ ?_
        · simp only [Sc.b, Sc.z, sv, List.map_cons, List.map_nil, evN, EV, Nat.reduceEqDiff, Nat.reduceBEq, Nat.reduceLT, Nat.reduceLeDiff, Nat.reduceAdd, Nat.reduceSub, reduceIte]
        · rintro ⟨c, out⟩ ⟨hL, hlo, hc⟩
          simp only at hL hlo hc
          have dt := d18 c sCOM (by rw [hL]; omega)
          rcases hi : c.isB sCOM with _ | _
          · rw [hi, if_neg (by simp)] at dt
            have dn := d16 c sSEM (by rw [hL]; omega)
            have fin : (((c.need sSEM).cd = 0 ∧ impP L = some out) ∨ (0 < (c.need sSEM).cd ∧ impP L = none)) := by
              rcases hc with ⟨g0, g1⟩ | ⟨g0, g1⟩
              · rw [Sc.isB_ok g0, hL] at hi
                unfold impF at g1
                rw [if_neg (by simp [hi])] at g1
                rcases hq : txAt L c.at' sSEM with _ | _
                · rw [if_neg (by simp [hq])] at g1
                  rw [Sc.need_no (by rw [Sc.isB_ok g0, hL, hq])]
                  exact .inr ⟨Sc.bad_cd _, g1.symm⟩
                · rw [if_pos hq] at g1
                  rw [Sc.need_ok (by rw [Sc.isB_ok g0, hL, hq])]
                  exact .inl ⟨g0, g1.symm⟩
              · rw [Sc.need_bad g0]; exact .inr ⟨g0, g1⟩
            generalize h6 : c.need sSEM = c6 at dn fin
            simp only [Sc.b, Sc.z] at dt dn
            simp only [Sc.b, Sc.z, evN, EV, Nat.reduceEqDiff, Nat.reduceBEq, Nat.reduceLT, Nat.reduceLeDiff, Nat.reduceAdd, Nat.reduceSub, reduceIte]
            refine callK2_i dt rfl rfl ?_
            simp only [evN, EV, Nat.reduceEqDiff, Nat.reduceBEq, Nat.reduceLT, Nat.reduceLeDiff, Nat.reduceAdd, Nat.reduceSub, reduceIte]
            refine callK2_i dn rfl rfl ?_
            simp only [evN, EV, Nat.reduceEqDiff, Nat.reduceBEq, Nat.reduceLT, Nat.reduceLeDiff, Nat.reduceAdd, Nat.reduceSub, reduceIte]
            exact ⟨(c6, out), fin, rfl⟩
          · rw [hi, if_pos rfl] at dt
            rcases hc with ⟨g0, g1⟩ | ⟨g0, g1⟩
            rotate_left
            · rw [Sc.isB_bad g0] at hi; cases hi
            rw [Sc.isB_ok g0, hL] at hi
            have hlt := txAt_lt hi
            unfold impF at g1
            rw [if_pos hi] at g1
            have s7 := name_step c.adv out (impP L) (.inl ⟨g0, by rw [show c.adv.L = L from hL]; exact g1⟩)
            have a7 := Sc.name_at c.adv
            have hL7 : c.adv.name.L = L := by rw [Sc.nameL]; exact hL
            have d7 := d17 c.adv (by rw [show c.adv.L = L from hL]; omega)
            rw [show c.adv.L = L from hL] at s7
            have a8 : c.adv.at' = c.at' + 1 := rfl
            rw [a8] at a7
            generalize c.adv.name = c7 at d7 s7 a7 hL7
            generalize c.adv.nmT = n7 at d7 s7
            generalize c.adv = c8 at dt d7
            simp only [Sc.b, Sc.z] at dt d7
            simp only [Sc.b, Sc.z, evN, EV, Nat.reduceEqDiff, Nat.reduceBEq, Nat.reduceLT, Nat.reduceLeDiff, Nat.reduceAdd, Nat.reduceSub, reduceIte]
            refine callK2_i dt rfl rfl ?_
            simp only [evN, EV, Nat.reduceEqDiff, Nat.reduceBEq, Nat.reduceLT, Nat.reduceLeDiff, Nat.reduceAdd, Nat.reduceSub, reduceIte]
            refine callK2_i d7 rfl rfl ?_
            simp only [List.length_map, evN, EV, Nat.reduceEqDiff, Nat.reduceBEq, Nat.reduceLT, Nat.reduceLeDiff, Nat.reduceAdd, Nat.reduceSub, reduceIte]
            refine ⟨by omega, by omega, (c7, out ++ [n7]), ⟨hL7, by simp; omega, s7⟩, by simp only; omega, ?_⟩
            simp only [Sc.b, Sc.z, List.map_append, sv, List.map_cons, List.map_nil]
    · rintro ⟨c, out⟩ hc
      simp only at hc
      rcases hc with ⟨g0, g1⟩ | ⟨g0, g1⟩
      · have hd : decide (0 < c.cd) = false := by simp; omega
        rw [g1]
        simp only [Sc.b, Sc.z, hd, evN, EV, Nat.reduceEqDiff, Nat.reduceBEq, Nat.reduceLT, Nat.reduceLeDiff, Nat.reduceAdd, Nat.reduceSub, reduceIte]
        simp only [Option.getD_some, Option.isSome_some, nfz_svs, evN, EV, Nat.reduceEqDiff, Nat.reduceBEq, Nat.reduceLT, Nat.reduceLeDiff, Nat.reduceAdd, Nat.reduceSub, reduceIte, evRE, retVC, cellV', evR, nfz, nfzs, nfzss, List.contains_nil, List.contains_cons, Bool.or_false, or_true]
      · have hd : decide (0 < c.cd) = true := by simpa using g0
        rw [g1]
        simp only [Sc.b, Sc.z, hd, evN, EV, Nat.reduceEqDiff, Nat.reduceBEq, Nat.reduceLT, Nat.reduceLeDiff, Nat.reduceAdd, Nat.reduceSub, reduceIte]
        simp only [Option.getD_none, Option.isSome_none, List.map_nil, evN, EV, Nat.reduceEqDiff, Nat.reduceBEq, Nat.reduceLT, Nat.reduceLeDiff, Nat.reduceAdd, Nat.reduceSub, reduceIte, evRE, retVC, cellV', evR, nfz, nfzs, nfzss, List.contains_nil, List.contains_cons, Bool.or_false, or_true]
end Go.AM
set_option linter.unusedVariables false
set_option linter.unusedSimpArgs false
namespace Go.Proofs
open Go.Shelf
shelf_lay Lays.n189 Nm 189 at Tryz as Tryz.laysSort
shelf_lay Lays2.n20 Nm2 20 at Tryz as Tryz.laysCompact
end Go.Proofs
namespace Go.AM
open Go.Sort Go.RowKit
def iv (n : Int) : List AV := [.v (.int .i64 n)]
theorem int_cells {w : World} {Fz : Nat → Prop} : ∀ {l : List Int} {xs : List Value} {o : List Nat}, RepRows w Fz 1 (l.map iv) xs o → xs = l.map (Value.int .i64) ∧ o = []
  | [], xs, o, h => by simp only [List.map_nil, RepRows] at h; exact h
  | s :: l, xs, o, h => by
    simp only [List.map_cons, RepRows] at h
    obtain ⟨x1, x2, o1, o2, rfl, rfl, hl, h1, h2⟩ := h
    simp only [iv, RepRow, RepC] at h1
    obtain ⟨x, xs', p1, p2, rfl, rfl, ⟨rfl, _, rfl⟩, rfl, rfl⟩ := h1
    obtain ⟨rfl, rfl⟩ := int_cells h2
    exact ⟨rfl, rfl⟩
theorem cells_int {w : World} {Fz : Nat → Prop} : ∀ (l : List Int), RepRows w Fz 1 (l.map iv) (l.map (Value.int .i64)) []
  | [] => by simp [RepRows]
  | s :: l => by
    simp only [List.map_cons, RepRows]
    exact ⟨[.int .i64 s], _, [], [], rfl, rfl, rfl, by simp only [iv, RepRow, RepC]; exact ⟨_, [], [], [], rfl, rfl, ⟨rfl, rfl, rfl⟩, rfl, rfl⟩, cells_int l⟩
theorem holds_of {w : World} {g h : Nat} {cur : Array Value} {e : Nat} {l : List Int} (hg : w.heap[g]? = some (.cells cur e (0, 0))) (hat : At w g h (l.map (Value.int .i64))) : Holds (Value.int .i64) w g h l.toArray := by
  intro j hj
  have hj' : j < l.length := by simpa using hj
  refine ⟨?_, ?_⟩
  · rw [hat j (Value.int .i64 l[j]) (by simp [hj'])]
    simp [hj']
  · simp [World.frozen?, hg]
theorem put_ext {w : World} {g h n : Nat} {cur : Array Value} {e : Nat} {l m : List Int} {os : Array Obj} (hg : w.heap[g]? = some (.cells cur e (0, 0))) (hat : At w g h (l.map (Value.int .i64))) (hm : m.length = l.length) :
    let w' := grow (putRow (Value.int .i64) (Sort.ahead w n) g h m.toArray) os
    Ext w w' [g] ∧ w'.heap[g]? = some (.cells (putCells (Value.int .i64) h m.toArray cur) e (0, 0)) ∧ (putCells (Value.int .i64) h m.toArray cur).size = cur.size ∧ At w' g h (m.map (Value.int .i64)) ∧ w.heap.size ≤ w'.heap.size := by
  intro w'
  have hlt : g < w.heap.size := by
    rcases Nat.lt_or_ge g w.heap.size with h | h
    · exact h
    · rw [Array.getElem?_eq_none h] at hg; cases hg
  have hb : ∀ b, b < w.heap.size → w'.heap[b]? = (w.heap.modify g (onCells (putCells (Value.int .i64) h m.toArray)))[b]? := by
    intro b hb
    simp only [w', grow, putRow, mapBlock, Sort.ahead]
    rw [Array.getElem?_append_left (by simpa using hb)]
  have hsz : w.heap.size ≤ w'.heap.size := by simp [w', grow, putRow, mapBlock, Sort.ahead]
  have hg' : w'.heap[g]? = some (.cells (putCells (Value.int .i64) h m.toArray cur) e (0, 0)) := by
    rw [hb g hlt, Array.getElem?_modify, if_pos rfl, hg]
    rfl
  refine ⟨⟨rfl, rfl, rfl, hsz, ?_⟩, hg', by simp [putCells], ?_, hsz⟩
  · intro b hb' hn
    rw [hb b hb', Array.getElem?_modify, if_neg (by intro e; exact hn (by simp [e]))]
  · intro j u hj
    have hj' : j < m.length := by
      rcases Nat.lt_or_ge j m.length with h | h
      · exact h
      · simp [h] at hj
    have hc := hat j (Value.int .i64 (l[j]'(by omega))) (by simp [show j < l.length by omega])
    simp only [World.cell?, hg] at hc
    simp only [World.cell?, hg', putCells, Array.getElem?_mapIdx]
    have hc' : cur[h + j]? = some (Value.int .i64 (l[j]'(by omega))) := by simpa using hc
    have hu : u = Value.int .i64 m[j] := by simpa [hj'] using hj.symm
    subst hu
    simp [hc', hj']
def srt (l : List Int) : List Int := l.mergeSort fun x y => decide (x ≤ y)
theorem srt_len (l : List Int) : (srt l).length = l.length := List.length_mergeSort _
theorem d48 (l : List Int) (hl : (l.length : Int) ≤ 1152921504606846976) : Does Go.Proofs.Tryz.prog 48 [.usl 3 1 (l.map iv)] false (.tup []) [.usl 3 1 ((srt l).map iv)] := by
  refine ⟨by decide +kernel, ?_⟩
  intro w Fz xs os hrep hos hfz hlt
  simp only [RepVs, RepV, RepC] at hrep
  obtain ⟨x, xs', o1, o2, rfl, rfl, hx, rfl, rfl⟩ := hrep
  simp only [List.append_nil] at *
  rcases hx with ⟨rfl, h0, rfl⟩ | ⟨g, h, c, cur, ys, o', rfl, rfl, hg, hc, hsz, hrows, hat⟩
  · have hl0 : l = [] := by simpa using h0
    subst hl0
    refine (Go.Proofs.Any.slices_Sort_int_none Go.Proofs.Tryz.laysSort none 0 w).mono ?_
    rintro e w' ⟨rfl, rfl⟩
    refine ⟨_, [], [], rfl, Ext.refl _ _, by simp [RepV, RepVs], ?_, by simp, by simp⟩
    simp only [RepVs, RepV, RepC]
    exact ⟨_, _, [], [], rfl, rfl, .inl ⟨rfl, by simp [srt], rfl⟩, rfl, rfl⟩
  · obtain ⟨rfl, rfl⟩ := int_cells hrows
    simp only [Nat.mul_one, List.length_map] at *
    have hH := holds_of hg hat
    have hgs : g < w.heap.size := (hfz g (by simp)).2
    refine (Go.Proofs.Any.slices_Sort_int Go.Proofs.Tryz.laysSort g h c l w hH hgs (by omega)).mono ?_
    rintro e' w' ⟨rfl, n, ob, hw⟩
    obtain ⟨hE, hg', hs', hat', hle⟩ := put_ext (n := n) (os := ob) (m := srt l) hg hat (srt_len l)
    rw [show grow (putRow (Value.int .i64) (Sort.ahead w n) g h (srt l).toArray) ob = w' from hw.symm] at hE hg' hat' hle
    refine ⟨_, [], [g], rfl, hE, by simp [RepV, RepVs], ?_, by simp, ?_⟩
    · simp only [RepVs, RepV, RepC]
      refine ⟨_, _, [g], [], rfl, rfl, .inr ⟨g, h, c, _, _, [], ?_, rfl, hg', ?_, ?_, cells_int _, ?_⟩, rfl, rfl⟩
      · simp [srt_len]
      · simpa [srt_len] using hc
      · simpa [hs'] using hsz
      · simpa using hat'
    · intro b hb
      simp only [List.nil_append, List.mem_singleton] at hb
      subst hb
      exact ⟨.inl (by simp), by omega⟩
def cmpct (l : List Int) : List Int := Lib.compact l
theorem cmpct_def (l : List Int) : Lib.compact l = cmpct l := rfl
theorem cmpct_le (l : List Int) : (cmpct l).length ≤ l.length := by
  unfold cmpct Lib.compact Lib.compactUpTo
  rw [List.length_map]
  refine Nat.le_trans (List.length_filter_le _ _) ?_
  simp
theorem d49 (l : List Int) (hl : (l.length : Int) ≤ 1152921504606846976) : Does Go.Proofs.Tryz.prog 49 [.usl 3 1 (l.map iv)] false (.usl 3 1 ((cmpct l).map iv)) [.dead] := by
  refine ⟨by decide +kernel, ?_⟩
  intro w Fz xs os hrep hos hfz hlt
  simp only [RepVs, RepV, RepC] at hrep
  obtain ⟨x, xs', o1, o2, rfl, rfl, hx, rfl, rfl⟩ := hrep
  simp only [List.append_nil] at *
  rcases hx with ⟨rfl, h0, rfl⟩ | ⟨g, h, c, cur, ys, o', rfl, rfl, hg, hc, hsz, hrows, hat⟩
  · have hl0 : l = [] := by simpa using h0
    subst hl0
    refine (Go.Proofs.Any.slices_Compact_int_empty Go.Proofs.Tryz.laysCompact none 0 w).mono ?_
    rintro e w' ⟨rfl, rfl⟩
    refine ⟨_, [], [], rfl, Ext.refl _ _, ?_, ?_, by simp, by simp⟩
    · simp [RepV, RepC, cmpct, Lib.compact, Lib.compactUpTo]
    · simp only [RepVs, RepV]
      exact ⟨_, _, [], [], rfl, rfl, rfl, rfl, rfl⟩
  · obtain ⟨rfl, rfl⟩ := int_cells hrows
    simp only [Nat.mul_one, List.length_map] at *
    have hH := holds_of hg hat
    have hcl := cmpct_le l
    have key := Go.Proofs.Any.slices_Compact_int Go.Proofs.Tryz.laysCompact g h c l w hH (by omega) hc
    simp only [cmpct_def] at key
    refine key.mono ?_
    rintro e' w' ⟨rfl, n, hw⟩
    have hmm : (cmpct l ++ List.replicate (l.length - (cmpct l).length) 0).length = l.length := by simp; omega
    obtain ⟨hE, hg', hs', hat', hle⟩ := put_ext (n := n) (os := #[]) (m := cmpct l ++ List.replicate (l.length - (cmpct l).length) 0) hg hat hmm
    rw [grow_empty, ← hw] at hE hg' hat' hle
    refine ⟨_, [g], [], rfl, hE, ?_, ?_, by simp, ?_⟩
    · simp only [RepV, RepC]
      refine .inr ⟨g, h, c, _, _, [], ?_, rfl, hg', ?_, ?_, cells_int _, ?_⟩
      · simp
      · simp; omega
      · simpa [hs'] using hsz
      · intro j u hj
        simp only [Nat.mul_one]
        refine hat' j u ?_
        rw [List.map_append, List.getElem?_append_left]
        · exact hj
        · rcases Nat.lt_or_ge j ((cmpct l).map (Value.int .i64)).length with h | h
          · exact h
          · rw [List.getElem?_eq_none h] at hj; cases hj
    · simp only [RepVs, RepV]
      exact ⟨_, _, [], [], rfl, rfl, rfl, rfl, rfl⟩
    · intro b hb
      simp only [List.append_nil, List.mem_singleton] at hb
      subst hb
      have := (hfz b (by simp)).2
      exact ⟨.inl (by simp), by omega⟩
end Go.AM
