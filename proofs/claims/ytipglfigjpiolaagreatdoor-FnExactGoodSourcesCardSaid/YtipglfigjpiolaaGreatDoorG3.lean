/- Contracts of functions of the given program, for the law FnExactGoodSources: what they return and what they write, under the bounds that each theorem states. -/
import Derived.Test.YtipglfigjpiolaaGreatDoorG2
namespace Go.AM
set_option linter.unusedVariables false
set_option linter.unusedSimpArgs false
structure Src where
  name : ByteArray
  text : ByteArray
def Src.c (s : Src) : List AV := [.v (.string s.name), .v (.string s.text)]
theorem SrcE : (∀ f : Src, f.c.length = 2) ∧ (∀ f : Src, f.c.take 2 = f.c) ∧ (∀ (st : St) (f : Src), frzBs st f.c = f.c) ∧ (∀ f : Src, bares f.c = true) ∧ (∀ f : Src, plains f.c = true) ∧ (∀ f : Src, frzRow f.c = f.c) ∧ (∀ (f : Src) (K : Nat → List (Nat × Nat) → Bool), killVs K f.c = f.c) ∧ (∀ (f : Src) (n : Nat) (p : List (Nat × Nat)) (i : Nat), brws n p i 0 f.c = f.c) ∧ (∀ f : Src, f.c.all storL = true) ∧ (∀ (f : Src) (l : List AV), l.length = 2 → ovw l 0 f.c = f.c) :=
  ⟨fun _ => rfl, fun _ => rfl, fun _ _ => rfl, fun _ => rfl, fun _ => rfl, fun _ => rfl, fun _ _ => rfl, fun _ _ _ _ => rfl, fun _ => rfl, fun f l h => ovw_all (by rw [h]; rfl)⟩
theorem Src.nfz : ∀ l : List Src, nfzss (l.map Src.c) = true
  | [] => rfl
  | s :: l => by simp only [List.map_cons, nfzss, Src.nfz l]; rfl
theorem Src.frz : ∀ l : List Src, frzRows (l.map Src.c) = l.map Src.c
  | [] => rfl
  | s :: l => by simp [frzRows, SrcE, Src.frz l]
def Src.ok (s : Src) : Prop := (s.name.size : Int) ≤ 9223372036854775807 ∧ (s.text.size : Int) ≤ 9223372036854775807
def Src.z : List AV := [.v (.string ⟨#[]⟩), .v (.string ⟨#[]⟩)]
def m24 : MC :=
 (.seq (.reg [Xb 2 (.box 65 (.t 0)), Xb 4 (.asg (.i 0))]) (.seq (.reg [Xm 5 1, Xf 6 0 2, Xl 7 1 6, Xq 8 (.len true (.t 7)), Xq 9 (.bin false .sub (.t 5) (.t 8)), Xa 1 9]) (.seq (.seq (.reg [Xm 10 1, Xq 11 (.bin false .lss (.t 10) (.i 0))]) (.cond (.t 11) (.seq (.reg [Xb 4 (.asg (.i (-1)))]) .ret) .skip)) (.seq (.reg [Xm 12 1, Xf 13 1 2, Xl 14 1 13, Xq 15 (.len true (.t 14)), Xq 16 (.bin false .sub
 (.t 12) (.t 15)), Xa 1 16]) (.seq (.seq (.reg [Xm 17 1, Xq 18 (.bin false .lss (.t 17) (.i 0))]) (.cond (.t 18) (.seq (.reg [Xb 4 (.asg (.i (-1)))]) .ret) .skip)) (.seq (.reg [Xm 19 1, Xa 4 19]) .ret))))))
def szSrc (s : Src) (k : Int) : Int := if less (k) s.name.size < 0 then -1 else less (less (k) s.name.size) s.text.size
theorem d24 (s : Src) (k : Int) (h0 : 0 ≤ k) (h1 : k ≤ 1048576) (hname : (s.name.size : Int) ≤ 9223372036854775807) (htext : (s.text.size : Int) ≤ 9223372036854775807) :
    Does Go.Proofs.Tryz.prog 24 [.agg s.c, .v (.int .i64 k)] false (.v (.int .i64 (szSrc s k))) [.dead, .dead] := by
  refine does_intro (mc := m24) (N := 20) (rs := [4]) (fx := []) 2 rfl (by decide +kernel) ?_
  simp only [m24, Src.c, EV, Nat.reduceEqDiff, Nat.reduceBEq, Nat.reduceLT, Nat.reduceLeDiff, Nat.reduceAdd, Nat.reduceSub, reduceIte]
  have w0 := w64 (k - s.name.size) (by omega)
  simp only [w0, EV, Nat.reduceEqDiff, Nat.reduceBEq, Nat.reduceLT, Nat.reduceLeDiff, Nat.reduceAdd, Nat.reduceSub, reduceIte]
  refine cK_cut (fun h => ?_) (fun h => ?_)
  · have g0 : k - s.name.size < 0 := by simpa using h
    have e : szSrc s k = -1 := by simp [szSrc, less, g0]
    simp only [EV, Nat.reduceEqDiff, Nat.reduceBEq, Nat.reduceLT, Nat.reduceLeDiff, Nat.reduceAdd, Nat.reduceSub, reduceIte]
    simp only [e, EV, Nat.reduceEqDiff, Nat.reduceBEq, Nat.reduceLT, Nat.reduceLeDiff, Nat.reduceAdd, Nat.reduceSub, reduceIte, evRE, retVC, cellV', evR, nfz, nfzs, nfzss, List.contains_nil, List.contains_cons, Bool.or_false, or_true]
  · have g0 : ¬ k - s.name.size < 0 := by simpa using h
    have w1 := w64 (k - s.name.size - s.text.size) (by omega)
    simp only [w1, EV, Nat.reduceEqDiff, Nat.reduceBEq, Nat.reduceLT, Nat.reduceLeDiff, Nat.reduceAdd, Nat.reduceSub, reduceIte]
    refine cK_cut (fun h => ?_) (fun h => ?_)
    · have g1 : k - s.name.size - s.text.size < 0 := by simpa using h
      have e : szSrc s k = -1 := by simp [szSrc, less, g0, g1]
      simp only [EV, Nat.reduceEqDiff, Nat.reduceBEq, Nat.reduceLT, Nat.reduceLeDiff, Nat.reduceAdd, Nat.reduceSub, reduceIte]
      simp only [e, EV, Nat.reduceEqDiff, Nat.reduceBEq, Nat.reduceLT, Nat.reduceLeDiff, Nat.reduceAdd, Nat.reduceSub, reduceIte, evRE, retVC, cellV', evR, nfz, nfzs, nfzss, List.contains_nil, List.contains_cons, Bool.or_false, or_true]
    · have g1 : ¬ k - s.name.size - s.text.size < 0 := by simpa using h
      have e : szSrc s k = k - s.name.size - s.text.size := by simp [szSrc, less, g0, g1]
      simp only [EV, Nat.reduceEqDiff, Nat.reduceBEq, Nat.reduceLT, Nat.reduceLeDiff, Nat.reduceAdd, Nat.reduceSub, reduceIte]
      simp only [e, EV, Nat.reduceEqDiff, Nat.reduceBEq, Nat.reduceLT, Nat.reduceLeDiff, Nat.reduceAdd, Nat.reduceSub, reduceIte, evRE, retVC, cellV', evR, nfz, nfzs, nfzss, List.contains_nil, List.contains_cons, Bool.or_false, or_true]
theorem szSrc_le (s : Src) (k : Int) (h : 0 ≤ k) : szSrc s k ≤ k := by
  unfold szSrc
  simp only [less]
  repeat' split
  all_goals omega
def m10 : MC :=
 (.seq (.reg [Xb 4 (.asg (.i 0))]) (.seq (.reg [Xm 6 1, Xm 7 0, Xn 8 7, Xq 9 (.bin false .sub (.t 6) (.t 8)), Xa 1 9]) (.seq (.seq (.reg [Xm 10 1, Xq 11 (.bin false .lss (.t 10) (.i 0))]) (.cond (.t 11) (.seq (.reg [Xb 4 (.asg (.i (-1)))]) .ret) .skip)) (.seq (.seq (.reg [Xb 5 (.asg (.i 0))]) (.block 0 (.loop [0, 1, 5] (.seq (.seq (.reg [Xm 12 5, Xm 13 0, Xn 14 13, Xq 15 (.bin false .lss (.t 12)
 (.t 14))]) (.cond (.t 15) .skip (.exit 0))) (.seq (.block 1 (.seq (.reg [Xm 18 0, Xm 19 5, Xi 20 2 18 19, XL 21 2 20, Xm 22 1, Xb 23 (.call (.fn 24) false [.lend (.t 21), .lend (.t 22)]), Xa 1 23]) (.seq (.reg [Xm 24 1, Xq 25 (.bin false .lss (.t 24) (.i 0))]) (.cond (.t 25) (.seq (.reg [Xb 4 (.asg (.i (-1)))]) .ret) .skip)))) (.reg [Xm 16 5, Xq 17 (.bin false .add (.t 16) (.i 1)), Xa 5 17]))))))
 (.seq (.reg [Xm 26 1, Xa 4 26]) .ret)))))
def szSrcs : List Src → Int → Int
  | [], k => k
  | s :: r, k => if szSrc s k < 0 then -1 else szSrcs r (szSrc s k)
def szSrcS (l : List Src) (k : Int) : Int := if k - l.length < 0 then -1 else szSrcs l (k - l.length)
theorem d10 (l : List Src) (k : Int) (h0 : 0 ≤ k) (h1 : k ≤ 1048576) (hl : (l.length : Int) ≤ 9223372036854775807) (hs : ∀ s ∈ l, s.ok) :
    Does Go.Proofs.Tryz.prog 10 [.fsl 2 (l.map Src.c), .v (.int .i64 k)] false (.v (.int .i64 (szSrcS l k))) [.dead, .dead] := by
  refine does_intro (mc := m10) (N := 27) (rs := [4]) (fx := []) 2 rfl (by decide +kernel) ?_
  simp only [m10, EV, Nat.reduceEqDiff, Nat.reduceBEq, Nat.reduceLT, Nat.reduceLeDiff, Nat.reduceAdd, Nat.reduceSub, reduceIte]
  have w1 := w64 (k - l.length) (by omega)
  simp only [w1]
  refine cK_cut (fun h => ?_) (fun h => ?_)
  · have h2 : k - l.length < 0 := by simpa using h
    have e : szSrcS l k = -1 := by simp [szSrcS, h2]
    simp only [EV, Nat.reduceEqDiff, Nat.reduceBEq, Nat.reduceLT, Nat.reduceLeDiff, Nat.reduceAdd, Nat.reduceSub, reduceIte]
    simp only [e, EV, Nat.reduceEqDiff, Nat.reduceBEq, Nat.reduceLT, Nat.reduceLeDiff, Nat.reduceAdd, Nat.reduceSub, reduceIte, evRE, retVC, cellV', evR, nfz, nfzs, nfzss, List.contains_nil, List.contains_cons, Bool.or_false, or_true]
  · have h2 : ¬ k - l.length < 0 := by simpa using h
    have e : szSrcS l k = szSrcs l (k - l.length) := by simp [szSrcS, h2]
    simp only [EV, Nat.reduceEqDiff, Nat.reduceBEq, Nat.reduceLT, Nat.reduceLeDiff, Nat.reduceAdd, Nat.reduceSub, reduceIte]
    refine awp_loop (fun p : Nat × Int => p.1 ≤ l.length ∧ 0 ≤ p.2 ∧ p.2 ≤ 1048576 ∧ szSrcs (l.drop p.1) p.2 = szSrcS l k)
      (fun p => stl [(0, .fsl 2 (l.map Src.c)), (1, .v (.int .i64 p.2)), (5, .v (.int .i64 (p.1 : Int)))]) (fun p => l.length - p.1) (0, k - l.length) ⟨by simp, by simp only; omega, by simp only; omega, by simp [e]⟩ ?_ ?_
    · simp only [EV, Nat.reduceEqDiff, Nat.reduceBEq, Nat.reduceLT, Nat.reduceLeDiff, Nat.reduceAdd, Nat.reduceSub, reduceIte]
      rfl
    · rintro ⟨i, n⟩ ⟨p0, p1, p2, p3⟩
      simp only at p0 p1 p2 p3
      simp only [EV, Nat.reduceEqDiff, Nat.reduceBEq, Nat.reduceLT, Nat.reduceLeDiff, Nat.reduceAdd, Nat.reduceSub, reduceIte]
      refine cK_cut (fun h => ?_) (fun h => ?_)
      · have h3 : i < l.length := by simpa using h
        have h4 : (i : Int) < (l.length : Int) := by omega
        have hok := hs l[i] (List.getElem_mem h3)
        simp only [Src.ok] at hok
        rw [List.drop_eq_getElem_cons h3] at p3
        simp only [szSrcs] at p3
        have hle := szSrc_le l[i] n p1
        simp only [SrcE, nth_map h3, h4, EV, Nat.reduceEqDiff, Nat.reduceBEq, Nat.reduceLT, Nat.reduceLeDiff, Nat.reduceAdd, Nat.reduceSub, reduceIte]
        refine callK_i (d24 l[i] n p1 p2 (by omega) (by omega)) ?_
        simp only [SrcE, nth_map h3, h4, EV, Nat.reduceEqDiff, Nat.reduceBEq, Nat.reduceLT, Nat.reduceLeDiff, Nat.reduceAdd, Nat.reduceSub, reduceIte]
        refine cK_cut (fun h => ?_) (fun h => ?_)
        · have h5 : szSrc l[i] n < 0 := by simpa using h
          rw [if_pos h5] at p3
          simp only [EV, Nat.reduceEqDiff, Nat.reduceBEq, Nat.reduceLT, Nat.reduceLeDiff, Nat.reduceAdd, Nat.reduceSub, reduceIte]
          simp only [← p3, EV, Nat.reduceEqDiff, Nat.reduceBEq, Nat.reduceLT, Nat.reduceLeDiff, Nat.reduceAdd, Nat.reduceSub, reduceIte, evRE, retVC, cellV', evR, nfz, nfzs, nfzss, List.contains_nil, List.contains_cons, Bool.or_false, or_true]
        · have h5 : ¬ szSrc l[i] n < 0 := by simpa using h
          rw [if_neg h5] at p3
          have w2 := w64 ((i : Int) + 1) (by omega)
          simp only [w2, EV, Nat.reduceEqDiff, Nat.reduceBEq, Nat.reduceLT, Nat.reduceLeDiff, Nat.reduceAdd, Nat.reduceSub, reduceIte]
          exact ⟨(i + 1, szSrc l[i] n), ⟨by simp only; omega, by simp only; omega, by simp only; omega, p3⟩, by simp only; omega, rfl⟩
      · have h3 : i = l.length := by have : ¬ (i : Int) < l.length := by simpa using h
                                     omega
        subst h3
        rw [List.drop_length] at p3
        simp only [szSrcs] at p3
        simp only [EV, Nat.reduceEqDiff, Nat.reduceBEq, Nat.reduceLT, Nat.reduceLeDiff, Nat.reduceAdd, Nat.reduceSub, reduceIte]
        simp only [← p3, EV, Nat.reduceEqDiff, Nat.reduceBEq, Nat.reduceLT, Nat.reduceLeDiff, Nat.reduceAdd, Nat.reduceSub, reduceIte, evRE, retVC, cellV', evR, nfz, nfzs, nfzss, List.contains_nil, List.contains_cons, Bool.or_false, or_true]
def totSrc (s : Src) : Int := s.name.size + s.text.size
def totSrcs : List Src → Int
  | [] => 0
  | s :: r => 1 + totSrc s + totSrcs r
theorem szSrc_tot (s : Src) (k : Int) (h : 0 ≤ szSrc s k) : totSrc s + szSrc s k = k := by
  revert h
  unfold szSrc totSrc
  simp only [less]
  repeat' split
  all_goals (intro h; omega)
theorem szSrcs_tot : ∀ (l : List Src) (k : Int), 0 ≤ szSrcs l k → totSrcs l + szSrcs l k = k + l.length
  | [], k, h => by simp [szSrcs, totSrcs]
  | s :: r, k, h => by
    simp only [szSrcs] at h ⊢
    split
    · rename_i h1; rw [if_pos h1] at h; omega
    · rename_i h1
      rw [if_neg h1] at h
      have h2 := szSrc_tot s k (by omega)
      have h3 := szSrcs_tot r _ h
      simp only [totSrcs, List.length_cons]
      omega
theorem szSrcS_tot (l : List Src) (k : Int) (h : 0 ≤ szSrcS l k) : totSrcs l + szSrcS l k = k := by
  unfold szSrcS at h ⊢
  split
  · rename_i h1; rw [if_pos h1] at h; omega
  · rename_i h1
    rw [if_neg h1] at h
    have := szSrcs_tot l _ h
    omega
theorem totSrcs_nn : ∀ l : List Src, (l.length : Int) ≤ totSrcs l
  | [] => by simp [totSrcs]
  | s :: r => by
    have := totSrcs_nn r
    simp only [totSrcs, totSrc, List.length_cons]
    omega
def m26 : MC :=
 (.seq (.reg [Xb 1 (.box 65 (.t 0)), Xb 2 (.alloc 66 [.z, .z])]) (.seq (.reg [Xb 3 (.alloc 66 [.z, .z])]) (.seq (.reg [Xf 4 0 1, Xl 5 1 4, Xf 6 0 3, Xz (.store 1 (.t 6) (.t 5))]) (.seq (.reg [Xf 7 1 1, Xl 8 1 7, Xf 9 1 3, Xz (.store 1 (.t 9) (.t 8))]) (.seq (.reg [XL 10 2 3, Xz (.store 2 (.t 2) (.t 10))]) .ret)))))
theorem d26 (f : Src) : Does Go.Proofs.Tryz.prog 26 [.agg f.c] false (.agg f.c) [.dead] := by
  refine does_introC (mc := m26) (N := 11) (r := 2) (ty := 66) (agg := true) (sz := 2) (fx := []) 1 rfl (by decide +kernel) ?_
  simp only [m26, Src.c, ZC.av, EV, Nat.reduceEqDiff, Nat.reduceBEq, Nat.reduceLT, Nat.reduceLeDiff, Nat.reduceAdd, Nat.reduceSub, reduceIte]
  simp only [EV, Nat.reduceEqDiff, Nat.reduceBEq, Nat.reduceLT, Nat.reduceLeDiff, Nat.reduceAdd, Nat.reduceSub, reduceIte, evRE, retVC, cellV', evR, nfz, nfzs, nfzss, List.contains_nil, List.contains_cons, Bool.or_false, or_true]
def m12 : MC :=
 (.seq (.reg [Xb 2 (.asg (.nils 66 2))]) (.seq (.reg [Xm 5 0, Xn 6 5, Xb 7 (.mks 66 2 32 [.z, .z] (.t 6) (.t 6)), Xa 3 7]) (.seq (.seq (.reg [Xb 4 (.asg (.i 0))]) (.block 0 (.loop [0, 3, 4, 7] (.seq (.seq (.reg [Xm 8 4, Xm 9 0, Xn 10 9, Xq 11 (.bin false .lss (.t 8) (.t 10))]) (.cond (.t 11) .skip (.exit 0))) (.seq (.block 1 (.reg [Xm 14 3, Xm 15 4, Xm 16 0, Xm 17 4, Xi 18 2 16 17, XL 19 2 18, Xb
 20 (.call (.fn 26) false [.lend (.t 19)]), Xi 21 2 14 15, Xz (.store 2 (.t 21) (.t 20))])) (.reg [Xm 12 4, Xq 13 (.bin false .add (.t 12) (.i 1)), Xa 4 13])))))) (.seq (.reg [Xm 22 3, Xa 2 22]) .ret))))
theorem d12 (l : List Src) (hl : (l.length : Int) ≤ 1048576) : Does Go.Proofs.Tryz.prog 12 [.fsl 2 (l.map Src.c)] false (.usl 66 2 (l.map Src.c)) [.dead] := by
  refine does_intro (mc := m12) (N := 23) (rs := [2]) (fx := []) 1 rfl (by decide +kernel) ?_
  simp only [m12, mksV, ZC.av, EV, Nat.reduceEqDiff, Nat.reduceBEq, Nat.reduceLT, Nat.reduceLeDiff, Nat.reduceAdd, Nat.reduceSub, reduceIte]
  refine ⟨by omega, by omega, ?_⟩
  refine awp_loop (fun i : Nat => i ≤ l.length) (fun i => stl [(0, .fsl 2 (l.map Src.c)), (3, .usl 66 2 ((l.take i).map Src.c ++ List.replicate (l.length - i) Src.z)), (4, .v (.int .i64 (i : Int))), (7, .dead)]) (fun i => l.length - i) 0 (Nat.zero_le _) ?_ ?_
  · simp only [EV, Nat.reduceEqDiff, Nat.reduceBEq, Nat.reduceLT, Nat.reduceLeDiff, Nat.reduceAdd, Nat.reduceSub, reduceIte]
    rfl
  · intro i hi
    simp only [EV, Nat.reduceEqDiff, Nat.reduceBEq, Nat.reduceLT, Nat.reduceLeDiff, Nat.reduceAdd, Nat.reduceSub, reduceIte]
    refine cK_cut (fun h => ?_) (fun h => ?_)
    · have h1 : i < l.length := by simpa using h
      have h2 : (i : Int) < (l.length : Int) := by omega
      have h3 : ((l.take i).map Src.c ++ List.replicate (l.length - i) Src.z).length = l.length := by simp; omega
      simp only [SrcE, nth_map h1, h2, EV, Nat.reduceEqDiff, Nat.reduceBEq, Nat.reduceLT, Nat.reduceLeDiff, Nat.reduceAdd, Nat.reduceSub, reduceIte]
      refine callK_i (d26 l[i]) ?_
      simp only [SrcE, h2, h3, EV, Nat.reduceEqDiff, Nat.reduceBEq, Nat.reduceLT, Nat.reduceLeDiff, Nat.reduceAdd, Nat.reduceSub, reduceIte]
      refine ⟨h1, i + 1, by omega, by omega, ?_⟩
      have ez : l[i].c ++ List.drop 2 Src.z = l[i].c := List.append_nil _
      rw [fill_nth h1, w64 _ (by omega), ez, fill_set h1]
      rfl
    · have h1 : i = l.length := by have : ¬ (i : Int) < l.length := by simpa using h
                                   omega
      subst h1
      simp only [EV, Nat.reduceEqDiff, Nat.reduceBEq, Nat.reduceLT, Nat.reduceLeDiff, Nat.reduceAdd, Nat.reduceSub, reduceIte]
      simp only [Nat.sub_self, List.replicate_zero, Src.nfz, EV, Nat.reduceEqDiff, Nat.reduceBEq, Nat.reduceLT, Nat.reduceLeDiff, Nat.reduceAdd, Nat.reduceSub, reduceIte, evRE, retVC, cellV', evR, nfz, nfzs, nfzss, List.contains_nil, List.contains_cons, Bool.or_false, or_true]
def m28 : MC :=
 (.seq (.reg [Xb 2 (.box 66 (.t 0)), Xb 3 (.box 66 (.t 1)), Xb 4 (.asg .fb)]) (.seq (.seq (.reg [Xf 5 0 2, Xl 6 1 5, Xf 7 0 3, Xl 8 1 7, Xq 9 (.bin false .neq (.t 6) (.t 8))]) (.cond (.t 9) (.seq (.reg [Xb 4 (.asg .fb)]) .ret) .skip)) (.seq (.seq (.reg [Xf 10 1 2, Xl 11 1 10, Xf 12 1 3, Xl 13 1 12, Xq 14 (.bin false .neq (.t 11) (.t 13))]) (.cond (.t 14) (.seq (.reg [Xb 4 (.asg .fb)]) .ret) .skip))
 (.seq (.reg [Xb 4 (.asg .tb)]) .ret))))
theorem d28 (f : Src) : Does Go.Proofs.Tryz.prog 28 [.agg f.c, .agg f.c] false (.v (.bool true)) [.dead, .dead] := by
  refine does_intro (mc := m28) (N := 15) (rs := [4]) (fx := []) 2 rfl (by decide +kernel) ?_
  simp only [m28, Src.c, EV, Nat.reduceEqDiff, Nat.reduceBEq, Nat.reduceLT, Nat.reduceLeDiff, Nat.reduceAdd, Nat.reduceSub, reduceIte]
  simp only [EV, Nat.reduceEqDiff, Nat.reduceBEq, Nat.reduceLT, Nat.reduceLeDiff, Nat.reduceAdd, Nat.reduceSub, reduceIte, evRE, retVC, cellV', evR, nfz, nfzs, nfzss, List.contains_nil, List.contains_cons, Bool.or_false, or_true]
def m14 : MC :=
 (.seq (.reg [Xb 4 (.asg .fb)]) (.seq (.seq (.reg [Xm 6 0, Xn 7 6, Xm 8 1, Xn 9 8, Xq 10 (.bin false .neq (.t 7) (.t 9))]) (.cond (.t 10) (.seq (.reg [Xb 4 (.asg .fb)]) .ret) .skip)) (.seq (.seq (.reg [Xb 5 (.asg (.i 0))]) (.block 0 (.loop [0, 1, 5] (.seq (.seq (.reg [Xm 11 5, Xm 12 0, Xn 13 12, Xq 14 (.bin false .lss (.t 11) (.t 13))]) (.cond (.t 14) .skip (.exit 0))) (.seq (.block 1 (.seq (.dreg
 [Xm 17 0, Xm 18 5, Xi 19 2 17 18, XL 20 2 19, Xm 21 1, Xm 22 5, Xi 23 2 21 22, XL 24 2 23, Xb 25 (.call (.fn 28) false [.lend (.t 20), .lend (.t 24)]), Xq 26 (.un .not (.t 25))]) (.cond (.t 26) (.seq (.reg [Xb 4 (.asg .fb)]) .ret) .skip))) (.reg [Xm 15 5, Xq 16 (.bin false .add (.t 15) (.i 1)), Xa 5 16])))))) (.seq (.reg [Xb 4 (.asg .tb)]) .ret))))
theorem d14 (l : List Src) (hl : l.length < 9223372036854775807) : Does Go.Proofs.Tryz.prog 14 [.fsl 2 (l.map Src.c), .fsl 2 (l.map Src.c)] false (.v (.bool true)) [.dead, .dead] := by
  refine does_intro (mc := m14) (N := 27) (rs := [4]) (fx := []) 2 rfl (by decide +kernel) ?_
  simp only [m14, EV, Nat.reduceEqDiff, Nat.reduceBEq, Nat.reduceLT, Nat.reduceLeDiff, Nat.reduceAdd, Nat.reduceSub, reduceIte]
  refine awp_loop (fun i : Nat => i ≤ l.length) (fun i => stl [(0, .fsl 2 (l.map Src.c)), (1, .fsl 2 (l.map Src.c)), (5, .v (.int .i64 (i : Int)))]) (fun i => l.length - i) 0 (Nat.zero_le _) ?_ ?_
  · simp only [EV, Nat.reduceEqDiff, Nat.reduceBEq, Nat.reduceLT, Nat.reduceLeDiff, Nat.reduceAdd, Nat.reduceSub, reduceIte]
    rfl
  · intro i hi
    simp only [EV, Nat.reduceEqDiff, Nat.reduceBEq, Nat.reduceLT, Nat.reduceLeDiff, Nat.reduceAdd, Nat.reduceSub, reduceIte]
    refine cK_cut (fun h => ?_) (fun h => ?_)
    · have h1 : i < l.length := by simpa using h
      have h2 : (i : Int) < (l.length : Int) := by omega
      simp only [SrcE, nth_map h1, h2, EV, Nat.reduceEqDiff, Nat.reduceBEq, Nat.reduceLT, Nat.reduceLeDiff, Nat.reduceAdd, Nat.reduceSub, reduceIte]
      refine callD_i (d28 l[i]) rfl ?_
      simp only [EV, Nat.reduceEqDiff, Nat.reduceBEq, Nat.reduceLT, Nat.reduceLeDiff, Nat.reduceAdd, Nat.reduceSub, reduceIte]
      refine ⟨i + 1, by omega, by omega, ?_⟩
      rw [w64 _ (by omega)]
      rfl
    · have h1 : i = l.length := by have : ¬ (i : Int) < l.length := by simpa using h
                                   omega
      simp only [EV, Nat.reduceEqDiff, Nat.reduceBEq, Nat.reduceLT, Nat.reduceLeDiff, Nat.reduceAdd, Nat.reduceSub, reduceIte]
      simp only [EV, Nat.reduceEqDiff, Nat.reduceBEq, Nat.reduceLT, Nat.reduceLeDiff, Nat.reduceAdd, Nat.reduceSub, reduceIte, evRE, retVC, cellV', evR, nfz, nfzs, nfzss, List.contains_nil, List.contains_cons, Bool.or_false, or_true]
end Go.AM
namespace Go.AM
set_option linter.unusedVariables false
set_option linter.unusedSimpArgs false
def nmEq (nm : ByteArray) (s : Src) : Bool := s.name.toList == nm.toList
def atS (l : List Src) (nm : ByteArray) : Int := findI (nmEq nm) l
def m45 : MC :=
 (.seq (.reg [Xb 4 (.asg (.i 0))]) (.seq (.seq (.reg [Xm 6 0, Xn 7 6, Xq 8 (.mov (.i 0))]) (.block 0 (.loop [0, 1, 7, 8] (.seq (.reg [Xq 9 (.bin false .lss (.t 8) (.t 7))]) (.seq (.cond (.t 9) .skip (.exit 0)) (.seq (.block 1 (.seq (.reg [Xm 10 8, Xa 5 10]) (.seq (.reg [Xm 11 1, Xm 12 0, Xm 13 5, Xi 14 2 12 13, XL 15 2 14, Xb 16 (.call (.t 11) false [.lend (.t 15)])]) (.cond (.t 16) (.seq (.reg [Xm
 17 5, Xa 4 17]) .ret) .skip)))) (.reg [Xq 18 (.bin false .add (.t 8) (.i 1)), Xm 8 18]))))))) (.seq (.reg [Xb 4 (.asg (.i (-1)))]) .ret)))
theorem d45 (l : List Src) (hl : l.length < 9223372036854775807) (f : Nat) (caps : List AV) (q : Src → Bool) (hp : plains caps = true) (hb : bares caps = true) (hk : ∀ K, killVs K caps = caps) (hf : ∀ (st : St), frzBs st caps = caps)
    (hq : ∀ s ∈ l, Does Go.Proofs.Tryz.prog f (.agg s.c :: caps) false (.v (.bool (q s))) (.dead :: caps.map fun _ => .dead)) :
    Does Go.Proofs.Tryz.prog 45 [.fsl 2 (l.map Src.c), .clo f caps] false (.v (.int .i64 (findI q l))) [.dead, .dead] := by
  refine does_intro (mc := m45) (N := 19) (rs := [4]) (fx := []) 2 rfl (by decide +kernel) ?_
  simp only [m45, EV, Nat.reduceEqDiff, Nat.reduceBEq, Nat.reduceLT, Nat.reduceLeDiff, Nat.reduceAdd, Nat.reduceSub, reduceIte]
  refine awp_loop (fun i : Nat => i ≤ l.length ∧ ∀ j (hj : j < l.length), j < i → q l[j] = false) (fun i => stl [(0, .fsl 2 (l.map Src.c)), (1, .clo f caps), (7, .v (.int .i64 (l.length : Int))), (8, .v (.int .i64 (i : Int)))]) (fun i => l.length - i) 0 ⟨Nat.zero_le _, fun j hj h => absurd h (by omega)⟩ ?_ ?_
  · simp only [hp, hb, hk, EV, Nat.reduceEqDiff, Nat.reduceBEq, Nat.reduceLT, Nat.reduceLeDiff, Nat.reduceAdd, Nat.reduceSub, reduceIte]
    rfl
  · rintro i ⟨hi, hno⟩
    simp only [EV, Nat.reduceEqDiff, Nat.reduceBEq, Nat.reduceLT, Nat.reduceLeDiff, Nat.reduceAdd, Nat.reduceSub, reduceIte]
    refine cK_cut (fun h => ?_) (fun h => ?_)
    · have h1 : i < l.length := by simpa using h
      have h2 : (i : Int) < (l.length : Int) := by omega
      simp only [SrcE, nth_map h1, h2, hp, hb, EV, Nat.reduceEqDiff, Nat.reduceBEq, Nat.reduceLT, Nat.reduceLeDiff, Nat.reduceAdd, Nat.reduceSub, reduceIte]
      refine callK_i (hq l[i] (List.getElem_mem h1)) ?_
      simp only [EV, Nat.reduceEqDiff, Nat.reduceBEq, Nat.reduceLT, Nat.reduceLeDiff, Nat.reduceAdd, Nat.reduceSub, reduceIte]
      refine cK_cut (fun h => ?_) (fun h => ?_)
      · simp only [EV, Nat.reduceEqDiff, Nat.reduceBEq, Nat.reduceLT, Nat.reduceLeDiff, Nat.reduceAdd, Nat.reduceSub, reduceIte]
        simp only [findI_at h1 h hno, EV, Nat.reduceEqDiff, Nat.reduceBEq, Nat.reduceLT, Nat.reduceLeDiff, Nat.reduceAdd, Nat.reduceSub, reduceIte, evRE, retVC, cellV', evR, nfz, nfzs, nfzss, List.contains_nil, List.contains_cons, Bool.or_false, or_true]
      · simp only [hp, hb, hk, EV, Nat.reduceEqDiff, Nat.reduceBEq, Nat.reduceLT, Nat.reduceLeDiff, Nat.reduceAdd, Nat.reduceSub, reduceIte]
        rw [w64 _ (by omega)]
        refine ⟨i + 1, ⟨by omega, ?_⟩, by omega, rfl⟩
        intro j hj hji
        by_cases e : j = i
        · subst e; exact h
        · exact hno j hj (by omega)
    · have h1 : i = l.length := by have : ¬ (i : Int) < l.length := by simpa using h
                                   omega
      subst h1
      simp only [EV, Nat.reduceEqDiff, Nat.reduceBEq, Nat.reduceLT, Nat.reduceLeDiff, Nat.reduceAdd, Nat.reduceSub, reduceIte]
      simp only [findI_no (fun j hj => hno j hj hj), EV, Nat.reduceEqDiff, Nat.reduceBEq, Nat.reduceLT, Nat.reduceLeDiff, Nat.reduceAdd, Nat.reduceSub, reduceIte, evRE, retVC, cellV', evR, nfz, nfzs, nfzss, List.contains_nil, List.contains_cons, Bool.or_false, or_true]
def m46 : MC :=
 (.seq (.reg [Xb 2 (.box 66 (.t 0)), Xb 3 (.asg .fb)]) (.seq (.reg [Xf 4 0 2, Xl 5 1 4, Xl 6 1 1, Xq 7 (.bin false .eql (.t 5) (.t 6)), Xa 3 7]) .ret))
theorem d46 (s : Src) (nm : ByteArray) : Does Go.Proofs.Tryz.prog 46 [.agg s.c, .fptr [.v (.string nm)]] false (.v (.bool (nmEq nm s))) [.dead, .dead] := by
  refine does_intro (mc := m46) (N := 8) (rs := [3]) (fx := []) 2 rfl (by decide +kernel) ?_
  simp only [m46, Src.c, EV, Nat.reduceEqDiff, Nat.reduceBEq, Nat.reduceLT, Nat.reduceLeDiff, Nat.reduceAdd, Nat.reduceSub, reduceIte]
  simp only [nmEq, EV, Nat.reduceEqDiff, Nat.reduceBEq, Nat.reduceLT, Nat.reduceLeDiff, Nat.reduceAdd, Nat.reduceSub, reduceIte, evRE, retVC, cellV', evR, nfz, nfzs, nfzss, List.contains_nil, List.contains_cons, Bool.or_false, or_true]
def m44 : MC :=
 (.seq (.reg [Xb 2 (.box 9 (.t 0)), Xb 3 (.asg (.i 0))]) (.seq (.reg [Xl 4 1 1, Xq 5 (.mkf 46 [.t 2]), Xb 6 (.call (.fn 45) false [.lend (.t 4), .lend (.t 5)]), Xa 3 6]) .ret))
theorem d44 (l : List Src) (hl : l.length < 9223372036854775807) (nm : ByteArray) : Does Go.Proofs.Tryz.prog 44 [.v (.string nm), .fptr [.fsl 2 (l.map Src.c)]] false (.v (.int .i64 (atS l nm))) [.dead, .dead] := by
  refine does_intro (mc := m44) (N := 7) (rs := [3]) (fx := []) 2 rfl (by decide +kernel) ?_
  simp only [m44, EV, Nat.reduceEqDiff, Nat.reduceBEq, Nat.reduceLT, Nat.reduceLeDiff, Nat.reduceAdd, Nat.reduceSub, reduceIte]
  refine callK_i (d45 l hl 46 [.fptr [.v (.string nm)]] (nmEq nm) rfl rfl (fun _ => rfl) (fun _ => rfl) (fun s _ => d46 s nm)) ?_
  simp only [EV, Nat.reduceEqDiff, Nat.reduceBEq, Nat.reduceLT, Nat.reduceLeDiff, Nat.reduceAdd, Nat.reduceSub, reduceIte]
  simp only [atS, EV, Nat.reduceEqDiff, Nat.reduceBEq, Nat.reduceLT, Nat.reduceLeDiff, Nat.reduceAdd, Nat.reduceSub, reduceIte, evRE, retVC, cellV', evR, nfz, nfzs, nfzss, List.contains_nil, List.contains_cons, Bool.or_false, or_true]
def m43 : MC :=
 (.seq (.reg [Xb 4 (.asg (.i 0))]) (.seq (.seq (.reg [Xm 7 0, Xn 8 7, Xq 9 (.mov (.i 0))]) (.block 0 (.loop [0, 1, 7, 8, 9] (.seq (.reg [Xq 10 (.bin false .lss (.t 9) (.t 8))]) (.seq (.cond (.t 10) .skip (.exit 0)) (.seq (.block 1 (.seq (.reg [Xm 11 9, Xi 12 2 7 9, XL 13 2 12, Xb 6 (.alloc 66 [.z, .z]), Xa 5 11, Xz (.store 2 (.t 6) (.t 13))]) (.seq (.reg [Xf 14 0 6, Xl 15 1 14, Xm 16 1, Xq 17 (.bin
 false .eql (.t 15) (.t 16))]) (.cond (.t 17) (.seq (.reg [Xm 18 5, Xa 4 18]) .ret) .skip)))) (.reg [Xq 19 (.bin false .add (.t 9) (.i 1)), Xm 9 19]))))))) (.seq (.reg [Xb 4 (.asg (.i (-1)))]) .ret)))
theorem d43 (l : List Src) (hl : l.length < 9223372036854775807) (nm : ByteArray) : Does Go.Proofs.Tryz.prog 43 [.fsl 2 (l.map Src.c), .v (.string nm)] false (.v (.int .i64 (atS l nm))) [.dead, .dead] := by
  refine does_intro (mc := m43) (N := 20) (rs := [4]) (fx := []) 2 rfl (by decide +kernel) ?_
  simp only [m43, EV, Nat.reduceEqDiff, Nat.reduceBEq, Nat.reduceLT, Nat.reduceLeDiff, Nat.reduceAdd, Nat.reduceSub, reduceIte]
  refine awp_loop (fun i : Nat => i ≤ l.length ∧ ∀ j (hj : j < l.length), j < i → nmEq nm l[j] = false) (fun i => stl [(0, .fsl 2 (l.map Src.c)), (1, .v (.string nm)), (7, .fsl 2 (l.map Src.c)), (8, .v (.int .i64 (l.length : Int))), (9, .v (.int .i64 (i : Int)))]) (fun i => l.length - i) 0 ⟨Nat.zero_le _, fun j hj h => absurd h (by omega)⟩ ?_ ?_
  · simp only [EV, Nat.reduceEqDiff, Nat.reduceBEq, Nat.reduceLT, Nat.reduceLeDiff, Nat.reduceAdd, Nat.reduceSub, reduceIte]
    rfl
  · rintro i ⟨hi, hno⟩
    simp only [EV, Nat.reduceEqDiff, Nat.reduceBEq, Nat.reduceLT, Nat.reduceLeDiff, Nat.reduceAdd, Nat.reduceSub, reduceIte]
    refine cK_cut (fun h => ?_) (fun h => ?_)
    · have h1 : i < l.length := by simpa using h
      have h2 : (i : Int) < (l.length : Int) := by omega
      simp only [nth_map h1, h2, Src.c, EV, Nat.reduceEqDiff, Nat.reduceBEq, Nat.reduceLT, Nat.reduceLeDiff, Nat.reduceAdd, Nat.reduceSub, reduceIte]
      refine cK_cut (fun h => ?_) (fun h => ?_)
      · have hq : nmEq nm l[i] = true := h
        simp only [EV, Nat.reduceEqDiff, Nat.reduceBEq, Nat.reduceLT, Nat.reduceLeDiff, Nat.reduceAdd, Nat.reduceSub, reduceIte]
        simp only [atS, findI_at h1 hq hno, EV, Nat.reduceEqDiff, Nat.reduceBEq, Nat.reduceLT, Nat.reduceLeDiff, Nat.reduceAdd, Nat.reduceSub, reduceIte, evRE, retVC, cellV', evR, nfz, nfzs, nfzss, List.contains_nil, List.contains_cons, Bool.or_false, or_true]
      · have hq : nmEq nm l[i] = false := h
        simp only [EV, Nat.reduceEqDiff, Nat.reduceBEq, Nat.reduceLT, Nat.reduceLeDiff, Nat.reduceAdd, Nat.reduceSub, reduceIte]
        rw [w64 _ (by omega)]
        refine ⟨i + 1, ⟨by omega, ?_⟩, by omega, rfl⟩
        intro j hj hji
        by_cases e : j = i
        · subst e; exact hq
        · exact hno j hj (by omega)
    · have h1 : i = l.length := by have : ¬ (i : Int) < l.length := by simpa using h
                                   omega
      subst h1
      simp only [EV, Nat.reduceEqDiff, Nat.reduceBEq, Nat.reduceLT, Nat.reduceLeDiff, Nat.reduceAdd, Nat.reduceSub, reduceIte]
      simp only [atS, findI_no (fun j hj => hno j hj hj), EV, Nat.reduceEqDiff, Nat.reduceBEq, Nat.reduceLT, Nat.reduceLeDiff, Nat.reduceAdd, Nat.reduceSub, reduceIte, evRE, retVC, cellV', evR, nfz, nfzs, nfzss, List.contains_nil, List.contains_cons, Bool.or_false, or_true]
end Go.AM
namespace Go.AM
set_option linter.unusedVariables false
set_option linter.unusedSimpArgs false
structure Str where
  s : ByteArray
def Str.c (s : Str) : List AV := [.v (.string s.s)]
theorem StrE : (∀ f : Str, f.c.length = 1) ∧ (∀ f : Str, f.c.take 1 = f.c) ∧ (∀ (st : St) (f : Str), frzBs st f.c = f.c) ∧ (∀ f : Str, bares f.c = true) ∧ (∀ f : Str, plains f.c = true) ∧ (∀ f : Str, frzRow f.c = f.c) ∧ (∀ (f : Str) (K : Nat → List (Nat × Nat) → Bool), killVs K f.c = f.c) ∧ (∀ (f : Str) (n : Nat) (p : List (Nat × Nat)) (i : Nat), brws n p i 0 f.c = f.c) ∧ (∀ f : Str, f.c.all storL = true) ∧ (∀ (f : Str) (l : List AV), l.length = 1 → ovw l 0 f.c = f.c) :=
  ⟨fun _ => rfl, fun _ => rfl, fun _ _ => rfl, fun _ => rfl, fun _ => rfl, fun _ => rfl, fun _ _ => rfl, fun _ _ _ _ => rfl, fun _ => rfl, fun f l h => ovw_all (by rw [h]; rfl)⟩
theorem Str.nfz : ∀ l : List Str, nfzss (l.map Str.c) = true
  | [] => rfl
  | s :: l => by simp only [List.map_cons, nfzss, Str.nfz l]; rfl
theorem Str.frz : ∀ l : List Str, frzRows (l.map Str.c) = l.map Str.c
  | [] => rfl
  | s :: l => by simp [frzRows, StrE, Str.frz l]
def m7 : MC :=
 (.seq (.reg [Xb 4 (.asg .fb)]) (.seq (.seq (.reg [Xm 6 0, Xn 7 6, Xm 8 1, Xn 9 8, Xq 10 (.bin false .neq (.t 7) (.t 9))]) (.cond (.t 10) (.seq (.reg [Xb 4 (.asg .fb)]) .ret) .skip)) (.seq (.seq (.reg [Xb 5 (.asg (.i 0))]) (.block 0 (.loop [0, 1, 5] (.seq (.seq (.reg [Xm 11 5, Xm 12 0, Xn 13 12, Xq 14 (.bin false .lss (.t 11) (.t 13))]) (.cond (.t 14) .skip (.exit 0))) (.seq (.block 1 (.seq (.dreg
 [Xm 17 0, Xm 18 5, Xi 19 1 17 18, Xl 20 1 19, Xm 21 1, Xm 22 5, Xi 23 1 21 22, Xl 24 1 23, Xq 25 (.bin false .neq (.t 20) (.t 24))]) (.cond (.t 25) (.seq (.reg [Xb 4 (.asg .fb)]) .ret) .skip))) (.reg [Xm 15 5, Xq 16 (.bin false .add (.t 15) (.i 1)), Xa 5 16])))))) (.seq (.reg [Xb 4 (.asg .tb)]) .ret))))
theorem d7 (l : List Str) (hl : l.length < 9223372036854775807) : Does Go.Proofs.Tryz.prog 7 [.fsl 1 (l.map Str.c), .fsl 1 (l.map Str.c)] false (.v (.bool true)) [.dead, .dead] := by
  refine does_intro (mc := m7) (N := 26) (rs := [4]) (fx := []) 2 rfl (by decide +kernel) ?_
  simp only [m7, EV, Nat.reduceEqDiff, Nat.reduceBEq, Nat.reduceLT, Nat.reduceLeDiff, Nat.reduceAdd, Nat.reduceSub, reduceIte]
  refine awp_loop (fun i : Nat => i ≤ l.length) (fun i => stl [(0, .fsl 1 (l.map Str.c)), (1, .fsl 1 (l.map Str.c)), (5, .v (.int .i64 (i : Int)))]) (fun i => l.length - i) 0 (Nat.zero_le _) ?_ ?_
  · simp only [EV, Nat.reduceEqDiff, Nat.reduceBEq, Nat.reduceLT, Nat.reduceLeDiff, Nat.reduceAdd, Nat.reduceSub, reduceIte]
    rfl
  · intro i hi
    simp only [EV, Nat.reduceEqDiff, Nat.reduceBEq, Nat.reduceLT, Nat.reduceLeDiff, Nat.reduceAdd, Nat.reduceSub, reduceIte]
    refine cK_cut (fun h => ?_) (fun h => ?_)
    · have h1 : i < l.length := by simpa using h
      have h2 : (i : Int) < (l.length : Int) := by omega
      simp only [StrE, Str.c, nth_map h1, h2, EV, Nat.reduceEqDiff, Nat.reduceBEq, Nat.reduceLT, Nat.reduceLeDiff, Nat.reduceAdd, Nat.reduceSub, reduceIte]
      refine ⟨i + 1, by omega, by omega, ?_⟩
      rw [w64 _ (by omega)]
      rfl
    · have h1 : i = l.length := by have : ¬ (i : Int) < l.length := by simpa using h
                                   omega
      simp only [EV, Nat.reduceEqDiff, Nat.reduceBEq, Nat.reduceLT, Nat.reduceLeDiff, Nat.reduceAdd, Nat.reduceSub, reduceIte]
      simp only [EV, Nat.reduceEqDiff, Nat.reduceBEq, Nat.reduceLT, Nat.reduceLeDiff, Nat.reduceAdd, Nat.reduceSub, reduceIte, evRE, retVC, cellV', evR, nfz, nfzs, nfzss, List.contains_nil, List.contains_cons, Bool.or_false, or_true]
def mkStr (k : Int) : Str := ⟨mt (k)⟩
def mkStrS : List Str → Int → List Str
  | [], _ => []
  | f :: fs, k => mkStr k :: mkStrS fs (k + 1)
theorem mkStrS_len : ∀ (l : List Str) (k : Int), (mkStrS l k).length = l.length
  | [], _ => rfl
  | f :: fs, k => by simp [mkStrS, mkStrS_len fs]
def m8 : MC :=
 (.seq (.reg [Xb 4 (.asg (.i 0))]) (.seq (.seq (.reg [Xb 5 (.asg (.i 0))]) (.block 0 (.loop [0, 1, 5] (.seq (.seq (.reg [Xm 6 5, Xm 7 0, Xn 8 7, Xq 9 (.bin false .lss (.t 6) (.t 8))]) (.cond (.t 9) .skip (.exit 0))) (.seq (.block 1 (.seq (.reg [Xm 12 0, Xm 13 5, Xm 14 1, Xb 15 (.call (.fn 23) false [.lend (.t 14)]), Xi 16 1 12 13, Xz (.store 1 (.t 16) (.t 15))]) (.reg [Xm 17 1, Xq 18 (.bin false
 .add (.t 17) (.i 1)), Xa 1 18]))) (.reg [Xm 10 5, Xq 11 (.bin false .add (.t 10) (.i 1)), Xa 5 11])))))) (.seq (.reg [Xm 19 1, Xa 4 19]) .ret)))
theorem d8 (l : List Str) (k : Int) (h0 : 0 ≤ k) (h1 : k + 1 * l.length ≤ 4611686018427387904) :
    Does Go.Proofs.Tryz.prog 8 [.usl 9 1 (l.map Str.c), .v (.int .i64 k)] false (.v (.int .i64 (k + 1 * l.length))) [.usl 9 1 ((mkStrS l k).map Str.c), .dead] := by
  refine does_intro (mc := m8) (N := 20) (rs := [4]) (fx := [0]) 2 rfl (by decide +kernel) ?_
  simp only [m8, EV, Nat.reduceEqDiff, Nat.reduceBEq, Nat.reduceLT, Nat.reduceLeDiff, Nat.reduceAdd, Nat.reduceSub, reduceIte]
  refine awp_loop (fun p : List Str × List Str × Int => p.1 ++ mkStrS p.2.1 p.2.2 = mkStrS l k ∧ p.2.2 + 1 * p.2.1.length = k + 1 * l.length ∧ 0 ≤ p.2.2 ∧ p.1.length + p.2.1.length = l.length)
    (fun p => stl [(0, .usl 9 1 ((p.1 ++ p.2.1).map Str.c)), (1, .v (.int .i64 p.2.2)), (5, .v (.int .i64 (p.1.length : Int)))]) (fun p => p.2.1.length) ([], l, k) ⟨rfl, rfl, h0, by simp⟩ ?_ ?_
  · simp only [EV, Nat.reduceEqDiff, Nat.reduceBEq, Nat.reduceLT, Nat.reduceLeDiff, Nat.reduceAdd, Nat.reduceSub, reduceIte]
    rfl
  · rintro ⟨pre, post, n⟩ ⟨p0, p1, p2, p3⟩
    cases post with
    | nil =>
      simp only [EV, Nat.reduceEqDiff, Nat.reduceBEq, Nat.reduceLT, Nat.reduceLeDiff, Nat.reduceAdd, Nat.reduceSub, reduceIte]
      refine cK_cut (fun h => ?_) (fun h => ?_)
      · simp at h
      · simp only [EV, Nat.reduceEqDiff, Nat.reduceBEq, Nat.reduceLT, Nat.reduceLeDiff, Nat.reduceAdd, Nat.reduceSub, reduceIte]
        simp only [List.append_nil, mkStrS, List.length_nil] at p0 p1
        have e : n = k + 1 * l.length := by simp at p1; omega
        simp only [p0, ← e, EV, Nat.reduceEqDiff, Nat.reduceBEq, Nat.reduceLT, Nat.reduceLeDiff, Nat.reduceAdd, Nat.reduceSub, reduceIte, evRE, retVC, cellV', evR, nfz, nfzs, nfzss, List.contains_nil, List.contains_cons, Bool.or_false, or_true]
    | cons f post =>
      simp only [EV, Nat.reduceEqDiff, Nat.reduceBEq, Nat.reduceLT, Nat.reduceLeDiff, Nat.reduceAdd, Nat.reduceSub, reduceIte]
      refine cK_cut (fun h => ?_) (fun h => ?_)
      rotate_left
      · simp at h; omega
      simp only at p0 p1 p2 p3
      simp only [List.length_cons] at p1 p3
      have h3 : (pre.length : Int) < ((pre ++ f :: post).length : Int) := by simp; omega
      have h4 : pre.length < ((pre ++ f :: post).map Str.c).length := by simp
      have e1 : nth ((pre ++ f :: post).map Str.c) pre.length = f.c := nth_mid
      generalize hR : (pre ++ f :: post).map Str.c = R at h4 e1 ⊢
      have hRl : R.length = l.length := by rw [← hR]; simp; omega
      have h5 : (pre.length : Int) < (R.length : Int) := by omega
      have w0 := w64 ((pre.length : Int) + 1) (by omega)
      have w1 := w64 (n + 1) (by omega)
      simp only [h4, h5, e1, nth_set h4, List.getElem?_set_self h4, modify_set, Str.c, w1, w0, EV, Nat.reduceEqDiff, Nat.reduceBEq, Nat.reduceLT, Nat.reduceLeDiff, Nat.reduceAdd, Nat.reduceSub, reduceIte]
      refine callK_i (d23 (n) (by omega) (by omega)) ?_
      simp only [h4, h5, e1, nth_set h4, List.getElem?_set_self h4, modify_set, Str.c, w1, w0, EV, Nat.reduceEqDiff, Nat.reduceBEq, Nat.reduceLT, Nat.reduceLeDiff, Nat.reduceAdd, Nat.reduceSub, reduceIte]
      refine ⟨(pre ++ [mkStr n], post, n + 1), ⟨?_, ?_, ?_, ?_⟩, ?_, ?_⟩
      · rw [← p0]; simp [mkStrS]
      · simp only; omega
      · simp only; omega
      · simp only [List.length_append, List.length_cons, List.length_nil]; omega
      · simp only; omega
      · have e2 := set_mid (g := Str.c) (pre := pre) (post := post) (t := f) (mkStr n)
        rw [hR] at e2
        simp only [Str.c, mkStr] at e2
        simp only [← e2, mkStr, List.length_append, List.length_cons, List.length_nil, Int.add_assoc]
        rfl
def m9 : MC :=
 (.seq (.reg [Xb 4 (.asg (.i 0))]) (.seq (.seq (.reg [Xb 5 (.asg (.i 0))]) (.block 0 (.loop [0, 1, 5] (.seq (.seq (.reg [Xm 6 5, Xm 7 0, Xn 8 7, Xq 9 (.bin false .lss (.t 6) (.t 8))]) (.cond (.t 9) .skip (.exit 0))) (.seq (.block 1 (.seq (.seq (.dreg [Xm 12 0, Xm 13 5, Xi 14 1 12 13, Xl 15 1 14, Xm 16 1, Xb 17 (.call (.fn 23) false [.lend (.t 16)]), Xq 18 (.bin false .neq (.t 15) (.t 17))]) (.cond
 (.t 18) (.seq (.reg [Xb 4 (.asg (.i (-1)))]) .ret) .skip)) (.reg [Xm 19 1, Xq 20 (.bin false .add (.t 19) (.i 1)), Xa 1 20]))) (.reg [Xm 10 5, Xq 11 (.bin false .add (.t 10) (.i 1)), Xa 5 11])))))) (.seq (.reg [Xm 21 1, Xa 4 21]) .ret)))
theorem d9 (l : List Str) (k : Int) (h0 : 0 ≤ k) (h1 : k + 1 * l.length ≤ 4611686018427387904) :
    Does Go.Proofs.Tryz.prog 9 [.fsl 1 ((mkStrS l k).map Str.c), .v (.int .i64 k)] false (.v (.int .i64 (k + 1 * l.length))) [.dead, .dead] := by
  have hl : (mkStrS l k).length = l.length := mkStrS_len l k
  generalize hM0 : mkStrS l k = M at hl ⊢
  refine does_intro (mc := m9) (N := 22) (rs := [4]) (fx := []) 2 rfl (by decide +kernel) ?_
  simp only [m9, EV, Nat.reduceEqDiff, Nat.reduceBEq, Nat.reduceLT, Nat.reduceLeDiff, Nat.reduceAdd, Nat.reduceSub, reduceIte]
  refine awp_loop (fun p : List Str × List Str × Int => M = p.1 ++ mkStrS p.2.1 p.2.2 ∧ p.2.2 + 1 * p.2.1.length = k + 1 * l.length ∧ 0 ≤ p.2.2 ∧ p.1.length + p.2.1.length = l.length)
    (fun p => stl [(0, .fsl 1 (M.map Str.c)), (1, .v (.int .i64 p.2.2)), (5, .v (.int .i64 (p.1.length : Int)))]) (fun p => p.2.1.length) ([], l, k) ⟨by rw [← hM0]; rfl, rfl, h0, by simp⟩ ?_ ?_
  · simp only [EV, Nat.reduceEqDiff, Nat.reduceBEq, Nat.reduceLT, Nat.reduceLeDiff, Nat.reduceAdd, Nat.reduceSub, reduceIte]
    rfl
  · rintro ⟨pre, post, n⟩ ⟨p0, p1, p2, p3⟩
    simp only at p0 p1 p2 p3
    cases post with
    | nil =>
      simp only [EV, Nat.reduceEqDiff, Nat.reduceBEq, Nat.reduceLT, Nat.reduceLeDiff, Nat.reduceAdd, Nat.reduceSub, reduceIte]
      refine cK_cut (fun h => ?_) (fun h => ?_)
      · simp at h p3; omega
      · simp only [EV, Nat.reduceEqDiff, Nat.reduceBEq, Nat.reduceLT, Nat.reduceLeDiff, Nat.reduceAdd, Nat.reduceSub, reduceIte]
        have e : n = k + 1 * l.length := by simp at p1; omega
        simp only [← e, EV, Nat.reduceEqDiff, Nat.reduceBEq, Nat.reduceLT, Nat.reduceLeDiff, Nat.reduceAdd, Nat.reduceSub, reduceIte, evRE, retVC, cellV', evR, nfz, nfzs, nfzss, List.contains_nil, List.contains_cons, Bool.or_false, or_true]
    | cons f post =>
      simp only [EV, Nat.reduceEqDiff, Nat.reduceBEq, Nat.reduceLT, Nat.reduceLeDiff, Nat.reduceAdd, Nat.reduceSub, reduceIte]
      simp only [List.length_cons] at p1 p3
      refine cK_cut (fun h => ?_) (fun h => ?_)
      rotate_left
      · simp at h; omega
      have h5 : (pre.length : Int) < (M.length : Int) := by omega
      have e1 : nth (M.map Str.c) pre.length = Str.c (mkStr n) := by rw [p0]; exact nth_mid
      have w0 := w64 ((pre.length : Int) + 1) (by omega)
      have w1 := w64 (n + 1) (by omega)
      simp only [h5, e1, Str.c, mkStr, w1, w0, EV, Nat.reduceEqDiff, Nat.reduceBEq, Nat.reduceLT, Nat.reduceLeDiff, Nat.reduceAdd, Nat.reduceSub, reduceIte]
      refine callD_i (d23 (n) (by omega) (by omega)) rfl ?_
      simp only [h5, e1, Str.c, mkStr, w1, w0, EV, Nat.reduceEqDiff, Nat.reduceBEq, Nat.reduceLT, Nat.reduceLeDiff, Nat.reduceAdd, Nat.reduceSub, reduceIte]
      refine ⟨(pre ++ [mkStr n], post, n + 1), ⟨?_, ?_, ?_, ?_⟩, ?_, ?_⟩
      · rw [p0]; simp [mkStrS]
      · simp only; omega
      · simp only; omega
      · simp only [List.length_append, List.length_cons, List.length_nil]; omega
      · simp only; omega
      · simp only [List.length_append, List.length_cons, List.length_nil]
        rfl
end Go.AM
namespace Go.AM
set_option linter.unusedVariables false
set_option linter.unusedSimpArgs false
theorem impG_len (L : List Tok) : ∀ (k i : Nat) (out r : List ByteArray), L.length - i ≤ k → impG L i out = some r → r.length ≤ out.length + (L.length - i) := by
  intro k
  induction k with
  | zero =>
    intro i out r hk h
    rw [impG_eq] at h
    split at h
    · rename_i c
      have := kdAt_lt c
      omega
    · cases h
  | succ k ih =>
    intro i out r hk h
    rw [impG_eq] at h
    split at h
    · rename_i c
      have hlt := kdAt_lt c
      split at h
      · have := ih _ _ _ (by omega) h
        simp only [List.length_append, List.length_cons, List.length_nil] at this
        omega
      · split at h
        · simp only [Option.some.injEq] at h
          subst h
          simp only [List.length_append, List.length_cons, List.length_nil]
          omega
        · cases h
    · cases h
theorem impN_len (s : ByteArray) : ((impN s).getD []).length ≤ 300 := by
  unfold impN
  rcases hR : readN s with L | e
  · have hlen : L.length ≤ 300 := by have := rtL_few s; rw [hR] at this; exact this
    simp only
    unfold impP
    split
    · split
      · rcases hG : impG L 4 [] with _ | r
        · simp
        · have := impG_len L L.length 4 [] r (by omega) hG
          simp only [Option.getD_some]
          simp only [List.length_nil] at this
          omega
      · simp
    · simp
  · simp
theorem svs_c (l : List ByteArray) : l.map sv = (l.map Str.mk).map Str.c := by rw [List.map_map]; rfl
def m3 : MC :=
 (.seq (.reg [Xb 2 (.asg .fb)]) (.seq (.seq (.reg [Xm 11 0, Xq 12 (.len true (.t 11)), Xq 13 (.bin false .gtr (.t 12) (.i 1048576))]) (.cond (.t 13) (.seq (.reg [Xb 2 (.asg .tb)]) .ret) .skip)) (.seq (.reg [Xm 15 0, Xb 16 (.call (.fn 5) false [.lend (.t 15)]), Xa 14 16, Xq 17 (.ext 14 0), Xq 18 (.ext 14 1), Xa 3 17, Xa 4 18]) (.seq (.reg [Xm 20 0, Xb 21 (.call (.fn 6) false [.lend (.t 20)]), Xa 19
 21, Xq 22 (.ext 19 0), Xq 23 (.ext 19 1), Xa 5 22, Xa 6 23]) (.seq (.seq (.reg [Xm 24 5, Xm 25 3, Xb 26 (.call (.fn 7) false [.lend (.t 24), .lend (.t 25)]), Xq 27 (.un .not (.t 26)), Xm 28 27, Xu 29 28 (.mov (.t 6)), Xu 30 28 (.mov (.t 4)), Xu 31 28 (.bin true .neq (.t 29) (.t 30)), Xq 32 (.pick (.t 28) .tb (.t 31))]) (.cond (.t 32) (.seq (.reg [Xb 2 (.asg .fb)]) .ret) .skip)) (.seq (.reg [Xb 7
 (.asg (.i 1))]) (.seq (.reg [Xm 33 5, Xm 34 7, Xb 35 (.call (.fn 8) false [.io (.t 33), .lend (.t 34)]), Xa 7 35]) (.seq (.reg [Xb 8 (.asg (.i 1))]) (.seq (.reg [Xm 36 5, Xm 37 8, Xb 38 (.call (.fn 9) false [.lend (.t 36), .lend (.t 37)]), Xa 8 38]) (.seq (.seq (.reg [Xm 39 8, Xq 40 (.bin false .lss (.t 39) (.i 0))]) (.cond (.t 40) (.seq (.reg [Xb 2 (.asg .fb)]) .ret) .skip)) (.seq (.seq (.reg [Xm
 41 8, Xm 42 7, Xq 43 (.bin false .neq (.t 41) (.t 42))]) (.cond (.t 43) (.seq (.reg [Xb 2 (.asg .fb)]) .ret) .skip)) (.seq (.reg [Xm 45 0, Xb 46 (.call (.fn 6) false [.lend (.t 45)]), Xa 44 46, Xq 47 (.ext 44 0), Xq 48 (.ext 44 1), Xa 9 47, Xa 10 48]) (.seq (.seq (.reg [Xm 49 9, Xm 50 3, Xb 51 (.call (.fn 7) false [.lend (.t 49), .lend (.t 50)]), Xq 52 (.un .not (.t 51)), Xm 53 52, Xu 54 53 (.mov
 (.t 10)), Xu 55 53 (.mov (.t 4)), Xu 56 53 (.bin true .neq (.t 54) (.t 55)), Xq 57 (.pick (.t 53) .tb (.t 56))]) (.cond (.t 57) (.seq (.reg [Xb 2 (.asg .fb)]) .ret) .skip)) (.seq (.reg [Xb 8 (.asg (.i 1))]) (.seq (.reg [Xm 58 5, Xm 59 8, Xb 60 (.call (.fn 9) false [.lend (.t 58), .lend (.t 59)]), Xa 8 60]) (.seq (.seq (.reg [Xm 61 8, Xq 62 (.bin false .lss (.t 61) (.i 0))]) (.cond (.t 62) (.seq
 (.reg [Xb 2 (.asg .fb)]) .ret) .skip)) (.seq (.seq (.reg [Xm 63 8, Xm 64 7, Xq 65 (.bin false .neq (.t 63) (.t 64))]) (.cond (.t 65) (.seq (.reg [Xb 2 (.asg .fb)]) .ret) .skip)) (.seq (.reg [Xb 2 (.asg .tb)]) .ret))))))))))))))))))
set_option maxHeartbeats 1000000 in
set_option maxRecDepth 100000 in
theorem d3 (b : ByteArray) (hb : (b.size : Int) ≤ 9223372036854775807) : Does Go.Proofs.Tryz.prog 3 [.v (.string b)] false (.v (.bool true)) [.dead] := by
  have ds := d5 b hb
  have di := d6 b hb
  have bs : ∀ b : Bool, (b != b) = false := fun b => by cases b <;> rfl
  have is : ∀ b : Int, (b != b) = false := fun b => by simp
  have hl := impN_len b
  simp only [impV, svs_c] at ds di
  generalize (impN b).isSome = ok at ds di
  have hl' : (((impN b).getD []).map Str.mk).length ≤ 300 := by simpa using hl
  generalize ((impN b).getD []).map Str.mk = R at ds di hl'
  have dq := d7 R (by omega)
  have dm := d8 R 1 (by omega) (by omega)
  have dh := d9 R 1 (by omega) (by omega)
  have hk2 : decide (1 + 1 * (R.length : Int) < 0) = false := by simp; omega
  refine does_intro (mc := m3) (N := 66) (rs := [2]) (fx := []) 1 rfl (by decide +kernel) ?_
  simp only [m3, EV, Nat.reduceEqDiff, Nat.reduceBEq, Nat.reduceLT, Nat.reduceLeDiff, Nat.reduceAdd, Nat.reduceSub, reduceIte]
  refine cK_cut (fun h => ?_) (fun h => ?_)
  · simp only [EV, Nat.reduceEqDiff, Nat.reduceBEq, Nat.reduceLT, Nat.reduceLeDiff, Nat.reduceAdd, Nat.reduceSub, reduceIte]
    simp only [EV, Nat.reduceEqDiff, Nat.reduceBEq, Nat.reduceLT, Nat.reduceLeDiff, Nat.reduceAdd, Nat.reduceSub, reduceIte, evRE, retVC, cellV', evR, nfz, nfzs, nfzss, List.contains_nil, List.contains_cons, Bool.or_false, or_true]
  clear h
  simp only [EV, Nat.reduceEqDiff, Nat.reduceBEq, Nat.reduceLT, Nat.reduceLeDiff, Nat.reduceAdd, Nat.reduceSub, reduceIte]
  refine callK_i ds ?_
  simp only [Str.frz, EV, Nat.reduceEqDiff, Nat.reduceBEq, Nat.reduceLT, Nat.reduceLeDiff, Nat.reduceAdd, Nat.reduceSub, reduceIte]
  refine callK_i di ?_
  simp only [Str.frz, EV, Nat.reduceEqDiff, Nat.reduceBEq, Nat.reduceLT, Nat.reduceLeDiff, Nat.reduceAdd, Nat.reduceSub, reduceIte]
  refine callK_i dq ?_
  simp only [Str.frz, bs, is, EV, Nat.reduceEqDiff, Nat.reduceBEq, Nat.reduceLT, Nat.reduceLeDiff, Nat.reduceAdd, Nat.reduceSub, reduceIte]
  refine callK2_i dm rfl (by simp [shapeOf, mkStrS_len]) ?_
  simp only [Str.frz, EV, Nat.reduceEqDiff, Nat.reduceBEq, Nat.reduceLT, Nat.reduceLeDiff, Nat.reduceAdd, Nat.reduceSub, reduceIte]
  refine callK_i dh ?_
  simp only [Str.frz, hk2, bs, is, EV, Nat.reduceEqDiff, Nat.reduceBEq, Nat.reduceLT, Nat.reduceLeDiff, Nat.reduceAdd, Nat.reduceSub, reduceIte]
  refine callK_i di ?_
  simp only [Str.frz, EV, Nat.reduceEqDiff, Nat.reduceBEq, Nat.reduceLT, Nat.reduceLeDiff, Nat.reduceAdd, Nat.reduceSub, reduceIte]
  refine callK_i dq ?_
  simp only [Str.frz, bs, is, EV, Nat.reduceEqDiff, Nat.reduceBEq, Nat.reduceLT, Nat.reduceLeDiff, Nat.reduceAdd, Nat.reduceSub, reduceIte]
  refine callK_i dh ?_
  simp only [Str.frz, hk2, bs, is, EV, Nat.reduceEqDiff, Nat.reduceBEq, Nat.reduceLT, Nat.reduceLeDiff, Nat.reduceAdd, Nat.reduceSub, reduceIte]
  simp only [EV, Nat.reduceEqDiff, Nat.reduceBEq, Nat.reduceLT, Nat.reduceLeDiff, Nat.reduceAdd, Nat.reduceSub, reduceIte, evRE, retVC, cellV', evR, nfz, nfzs, nfzss, List.contains_nil, List.contains_cons, Bool.or_false, or_true]
end Go.AM
namespace Go.AM
set_option linter.unusedVariables false
set_option linter.unusedSimpArgs false
noncomputable def srcOk (l : List Src) (i : Nat) : Bool := match l[i]? with
  | some s => (impN s.text).isSome && (nameOk s.name && !((l.take i).any (nmEq s.name)))
  | none => false
noncomputable def goodUp (l : List Src) : Nat → Bool
  | 0 => true
  | n + 1 => goodUp l n && srcOk l n
noncomputable def srcGood (l : List Src) : Bool := goodUp l l.length && decide (l.length ≤ 8)
theorem goodUp_le (l : List Src) {i : Nat} : ∀ {n : Nat}, i < n → srcOk l i = false → goodUp l n = false
  | 0, h, _ => by omega
  | n + 1, h, hn => by
    simp only [goodUp]
    by_cases e : i = n
    · subst e; rw [hn]; simp
    · rw [goodUp_le l (by omega) hn]; simp
theorem nmEq_self (s : Src) : nmEq s.name s = true := by simp [nmEq]
theorem anyTake_iff {l : List Src} {q : Src → Bool} {i : Nat} : (l.take i).any q = true ↔ ∃ j, ∃ h : j < l.length, j < i ∧ q l[j] = true := by
  rw [List.any_eq_true]
  constructor
  · rintro ⟨x, hx, hq⟩
    obtain ⟨j, hj, rfl⟩ := List.mem_iff_getElem.1 hx
    simp only [List.length_take] at hj
    exact ⟨j, by omega, by omega, by simpa using hq⟩
  · rintro ⟨j, h, hj, hq⟩
    refine ⟨l[j], ?_, hq⟩
    rw [List.mem_iff_getElem]
    exact ⟨j, by simp; omega, by simp⟩
theorem atS_lt {l : List Src} {i : Nat} (hi : i < l.length) : decide (atS l (l[i]).name < (i : Int)) = (l.take i).any (nmEq (l[i]).name) := by
  rw [Bool.eq_iff_iff, decide_eq_true_eq]
  rcases h : (l.take i).any (nmEq (l[i]).name) with _ | _
  · have hno : ∀ j (hj : j < l.length), j < i → nmEq (l[i]).name l[j] = false := fun j hj hji => by
      cases hq : nmEq (l[i]).name l[j] with
      | false => rfl
      | true => rw [anyTake_iff.2 ⟨j, hj, hji, hq⟩] at h; cases h
    have := findI_at (q := nmEq (l[i]).name) hi (nmEq_self _) hno
    unfold atS
    rw [this]
    simp
  · obtain ⟨j, hj, hji, hq⟩ := anyTake_iff.1 h
    simp only [iff_true]
    unfold atS findI
    cases hf : l.findIdx? (nmEq (l[i]).name) with
    | none =>
      rw [List.findIdx?_eq_none_iff] at hf
      have := hf l[j] (List.getElem_mem hj)
      rw [hq] at this; cases this
    | some k =>
      rw [List.findIdx?_eq_some_iff_getElem] at hf
      obtain ⟨h1, h2, h3⟩ := hf
      simp only
      have : k ≤ j := by
        rcases Nat.lt_or_ge j k with h | h
        · have := h3 j h
          rw [hq] at this
          simp at this
        · exact h
      omega
theorem srcOk_at {l : List Src} {i : Nat} (hi : i < l.length) : srcOk l i = ((impN (l[i]).text).isSome && (nameOk (l[i]).name && !((l.take i).any (nmEq (l[i]).name)))) := by
  unfold srcOk
  rw [List.getElem?_eq_getElem hi]
def m25 : MC :=
 (.seq (.reg [Xb 2 (.asg .fb)]) (.seq (.seq (.reg [Xm 7 0, Xn 8 7, Xq 9 (.mov (.i 0))]) (.block 0 (.loop [0, 7, 8, 9] (.seq (.reg [Xq 10 (.bin false .lss (.t 9) (.t 8))]) (.seq (.cond (.t 10) .skip (.exit 0)) (.seq (.block 1 (.seq (.reg [Xm 11 9, Xi 12 2 7 9, XL 13 2 12, Xb 4 (.alloc 66 [.z, .z]), Xa 3 11, Xz (.store 2 (.t 4) (.t 13))]) (.seq (.reg [Xf 15 1 4, Xl 16 1 15, Xb 17 (.call (.fn 5) false
 [.lend (.t 16)]), Xa 14 17, Xq 18 (.ext 14 0), Xq 19 (.ext 14 1), Xa 5 18, Xa 6 19]) (.seq (.dreg [Xm 20 6, Xq 21 (.un .not (.t 20)), Xm 22 21, Xu 23 22 (.fad 0 (.t 4)), Xu 24 22 (.load false 1 (.t 23)), XU 25 22 (.call (.fn 42) false [.lend (.t 24)]), Xu 26 22 (.un .not (.t 25)), Xq 27 (.pick (.t 22) .tb (.t 26)), Xm 28 27, Xu 29 28 (.mov (.t 0)), Xu 30 28 (.mov (.t 3)), Xu 31 28 (.slc false 2
 (.t 29) none (some (.t 30))), Xu 32 28 (.fad 0 (.t 4)), Xu 33 28 (.load false 1 (.t 32)), XU 34 28 (.call (.fn 43) false [.lend (.t 31), .lend (.t 33)]), Xu 35 28 (.bin false .geq (.t 34) (.i 0)), Xq 36 (.pick (.t 28) .tb (.t 35))]) (.cond (.t 36) (.seq (.reg [Xb 2 (.asg .fb)]) .ret) .skip))))) (.reg [Xq 37 (.bin false .add (.t 9) (.i 1)), Xm 9 37]))))))) (.seq (.reg [Xm 38 0, Xn 39 38, Xq 40
 (.bin false .leq (.t 39) (.i 8)), Xa 2 40]) .ret)))
set_option maxHeartbeats 2000000 in
theorem d25 (l : List Src) (hl : l.length < 9223372036854775807) (hs : ∀ s ∈ l, s.ok) : Does Go.Proofs.Tryz.prog 25 [.fsl 2 (l.map Src.c)] false (.v (.bool (srcGood l))) [.dead] := by
  refine does_intro (mc := m25) (N := 41) (rs := [2]) (fx := []) 1 rfl (by decide +kernel) ?_
  simp only [m25, EV, Nat.reduceEqDiff, Nat.reduceBEq, Nat.reduceLT, Nat.reduceLeDiff, Nat.reduceAdd, Nat.reduceSub, reduceIte]
  refine awp_loop (fun i : Nat => i ≤ l.length ∧ goodUp l i = true) (fun i => stl [(0, .fsl 2 (l.map Src.c)), (7, .fsl 2 (l.map Src.c)), (8, .v (.int .i64 (l.length : Int))), (9, .v (.int .i64 (i : Int)))]) (fun i => l.length - i) 0 ⟨Nat.zero_le _, rfl⟩ ?_ ?_
  · simp only [EV, Nat.reduceEqDiff, Nat.reduceBEq, Nat.reduceLT, Nat.reduceLeDiff, Nat.reduceAdd, Nat.reduceSub, reduceIte]
    rfl
  · rintro i ⟨hi, hg⟩
    simp only [EV, Nat.reduceEqDiff, Nat.reduceBEq, Nat.reduceLT, Nat.reduceLeDiff, Nat.reduceAdd, Nat.reduceSub, reduceIte]
    refine cK_cut (fun h => ?_) (fun h => ?_)
    · have h1 : i < l.length := by simpa using h
      have h2 : (i : Int) < (l.length : Int) := by omega
      have hok := hs l[i] (List.getElem_mem h1)
      simp only [Src.ok] at hok
      have hbad : srcOk l i = false → srcGood l = false := fun hh => by unfold srcGood; rw [goodUp_le l h1 hh]; rfl
      have hsq := srcOk_at h1
      have di := d5 (l[i]).text hok.2
      have dn := d42 (l[i]).name hok.1
      have da := d43 (l.take i) (by simp; omega) (l[i]).name
      have hany := findI_any (q := nmEq (l[i]).name) (l := l.take i)
      rw [show findI (nmEq (l[i]).name) (l.take i) = atS (l.take i) (l[i]).name from rfl] at hany
      rw [List.map_take] at da
      have w1 := w64 ((i : Int) + 1) (by omega)
      unfold impV at di
      simp only [nth_map h1, h2, Src.c, EV, Nat.reduceEqDiff, Nat.reduceBEq, Nat.reduceLT, Nat.reduceLeDiff, Nat.reduceAdd, Nat.reduceSub, reduceIte]
      refine callK_i di ?_
      rcases f1 : (impN (l[i]).text).isSome with _ | _
      · simp only [f1, EV, Nat.reduceEqDiff, Nat.reduceBEq, Nat.reduceLT, Nat.reduceLeDiff, Nat.reduceAdd, Nat.reduceSub, reduceIte]
        have := hbad (by rw [hsq, f1]; rfl)
        simp only [this, EV, Nat.reduceEqDiff, Nat.reduceBEq, Nat.reduceLT, Nat.reduceLeDiff, Nat.reduceAdd, Nat.reduceSub, reduceIte, evRE, retVC, cellV', evR, nfz, nfzs, nfzss, List.contains_nil, List.contains_cons, Bool.or_false, or_true]
      simp only [f1, EV, Nat.reduceEqDiff, Nat.reduceBEq, Nat.reduceLT, Nat.reduceLeDiff, Nat.reduceAdd, Nat.reduceSub, reduceIte]
      refine callD_i dn rfl ?_
      rcases f2 : nameOk (l[i]).name with _ | _
      · simp only [f2, EV, Nat.reduceEqDiff, Nat.reduceBEq, Nat.reduceLT, Nat.reduceLeDiff, Nat.reduceAdd, Nat.reduceSub, reduceIte]
        have := hbad (by rw [hsq, f1, f2]; rfl)
        simp only [this, EV, Nat.reduceEqDiff, Nat.reduceBEq, Nat.reduceLT, Nat.reduceLeDiff, Nat.reduceAdd, Nat.reduceSub, reduceIte, evRE, retVC, cellV', evR, nfz, nfzs, nfzss, List.contains_nil, List.contains_cons, Bool.or_false, or_true]
      simp only [f2, h2, EV, Nat.reduceEqDiff, Nat.reduceBEq, Nat.reduceLT, Nat.reduceLeDiff, Nat.reduceAdd, Nat.reduceSub, reduceIte]
      refine ⟨by omega, by omega, ?_⟩
      refine callD_i da rfl ?_
      rcases f3 : (l.take i).any (nmEq (l[i]).name) with _ | _
      · rw [f3] at hany
        have hgood : goodUp l (i + 1) = true := by simp only [goodUp, hg, hsq, f1, f2, f3]; rfl
        simp only [hany, w1, EV, Nat.reduceEqDiff, Nat.reduceBEq, Nat.reduceLT, Nat.reduceLeDiff, Nat.reduceAdd, Nat.reduceSub, reduceIte]
        exact ⟨i + 1, ⟨by omega, hgood⟩, by omega, rfl⟩
      · rw [f3] at hany
        simp only [hany, EV, Nat.reduceEqDiff, Nat.reduceBEq, Nat.reduceLT, Nat.reduceLeDiff, Nat.reduceAdd, Nat.reduceSub, reduceIte]
        have := hbad (by rw [hsq, f1, f2, f3]; rfl)
        simp only [this, EV, Nat.reduceEqDiff, Nat.reduceBEq, Nat.reduceLT, Nat.reduceLeDiff, Nat.reduceAdd, Nat.reduceSub, reduceIte, evRE, retVC, cellV', evR, nfz, nfzs, nfzss, List.contains_nil, List.contains_cons, Bool.or_false, or_true]
    · have h1 : i = l.length := by have : ¬ (i : Int) < l.length := by simpa using h
                                   omega
      subst h1
      simp only [EV, Nat.reduceEqDiff, Nat.reduceBEq, Nat.reduceLT, Nat.reduceLeDiff, Nat.reduceAdd, Nat.reduceSub, reduceIte]
      have : srcGood l = decide (l.length ≤ 8) := by unfold srcGood; rw [hg]; rfl
      have h8 : decide ((l.length : Int) ≤ 8) = decide (l.length ≤ 8) := by congr 1; simp; omega
      simp only [this, h8, EV, Nat.reduceEqDiff, Nat.reduceBEq, Nat.reduceLT, Nat.reduceLeDiff, Nat.reduceAdd, Nat.reduceSub, reduceIte, evRE, retVC, cellV', evR, nfz, nfzs, nfzss, List.contains_nil, List.contains_cons, Bool.or_false, or_true]
def m11 : MC :=
 (.seq (.reg [Xb 2 (.asg .fb)]) (.seq (.reg [Xm 3 0, Xb 4 (.call (.fn 25) false [.lend (.t 3)]), Xa 2 4]) .ret))
theorem d11 (l : List Src) (hl : l.length < 9223372036854775807) (hs : ∀ s ∈ l, s.ok) : Does Go.Proofs.Tryz.prog 11 [.fsl 2 (l.map Src.c)] false (.v (.bool (srcGood l))) [.dead] := by
  refine does_intro (mc := m11) (N := 5) (rs := [2]) (fx := []) 1 rfl (by decide +kernel) ?_
  simp only [m11, EV, Nat.reduceEqDiff, Nat.reduceBEq, Nat.reduceLT, Nat.reduceLeDiff, Nat.reduceAdd, Nat.reduceSub, reduceIte]
  refine callK_i (d25 l hl hs) ?_
  simp only [EV, Nat.reduceEqDiff, Nat.reduceBEq, Nat.reduceLT, Nat.reduceLeDiff, Nat.reduceAdd, Nat.reduceSub, reduceIte]
  simp only [EV, Nat.reduceEqDiff, Nat.reduceBEq, Nat.reduceLT, Nat.reduceLeDiff, Nat.reduceAdd, Nat.reduceSub, reduceIte, evRE, retVC, cellV', evR, nfz, nfzs, nfzss, List.contains_nil, List.contains_cons, Bool.or_false, or_true]
def nrefs (l : List Src) (names : List ByteArray) : List Int := (names.map (atS l)).filter fun k => decide (0 ≤ k)
noncomputable def needsOf (l : List Src) (s : Src) : List Int := cmpct (srt (nrefs l ((impN s.text).getD [])))
def nv (x : List Int) : List AV := [.usl 3 1 (x.map iv)]
noncomputable def needsV (l : List Src) : List AV := [.usl 92 1 (if srcGood l = true then (l.map (needsOf l)).map nv else []), .v (.bool (srcGood l))]
theorem nfz_ivs : ∀ l : List Int, nfzss (l.map iv) = true
  | [] => rfl
  | s :: l => by simp [nfzss, iv, nfzs, nfz, nfz_ivs l]
theorem nfz_nvs : ∀ l : List (List Int), nfzss (l.map nv) = true
  | [] => rfl
  | s :: l => by simp [nfzss, nv, nfzs, nfz, nfz_ivs s, nfz_nvs l]
theorem nrefs_len (l : List Src) (names : List ByteArray) : (nrefs l names).length ≤ names.length := by
  unfold nrefs
  refine Nat.le_trans (List.length_filter_le _ _) ?_
  simp
theorem nrefs_succ (l : List Src) {names : List ByteArray} {j : Nat} (h : j < names.length) : nrefs l (names.take (j + 1)) = nrefs l (names.take j) ++ (if decide (0 ≤ atS l names[j]) = true then [atS l names[j]] else []) := by
  unfold nrefs
  rw [List.take_succ_eq_append_getElem h, List.map_append, List.filter_append]
  congr 1
  simp only [List.map_cons, List.map_nil, List.filter_cons, List.filter_nil]
def m27 : MC :=
 (.seq (.reg [Xb 1 (.box 31 (.t 0)), Xb 2 (.asg (.nils 92 1)), Xb 3 (.asg .fb)]) (.seq (.reg [Xb 14 (.bsl 92 1 []), Xa 4 14]) (.seq (.seq (.reg [Xl 15 1 1, Xn 16 15, Xq 17 (.bin false .gtr (.t 16) (.i 8))]) (.cond (.t 17) (.seq (.reg [Xb 2 (.asg (.nils 92 1)), Xb 3 (.asg .fb)]) .ret) .skip)) (.seq (.frz 1 (.reg [Xq 18 (.mkf 44 [.t 1]), Xa 5 18])) (.seq (.seq (.reg [Xl 19 1 1, Xn 20 19, Xq 21 (.mov
 (.i 0))]) (.block 0 (.loop [1, 4, 5, 14, 18, 19, 20, 21, 71] (.seq (.reg [Xq 22 (.bin false .lss (.t 21) (.t 20))]) (.seq (.cond (.t 22) .skip (.exit 0)) (.seq (.block 1 (.seq (.reg [Xm 23 21, Xi 24 2 19 21, XL 25 2 24, Xb 7 (.alloc 66 [.z, .z]), Xa 6 23, Xz (.store 2 (.t 7) (.t 25))]) (.seq (.reg [Xf 27 1 7, Xl 28 1 27, Xb 29 (.call (.fn 6) false [.lend (.t 28)]), Xa 26 29, Xq 30 (.ext 26 0), Xq
 31 (.ext 26 1), Xa 8 30, Xa 9 31]) (.seq (.seq (.reg [Xm 32 9, Xq 33 (.un .not (.t 32)), Xm 34 33, Xu 35 34 (.fad 0 (.t 7)), Xu 36 34 (.load false 1 (.t 35)), XU 37 34 (.call (.fn 47) false [.lend (.t 36)]), Xu 38 34 (.un .not (.t 37)), Xq 39 (.pick (.t 34) .tb (.t 38)), Xm 40 39, Xu 41 40 (.mov (.t 5)), Xu 42 40 (.fad 0 (.t 7)), Xu 43 40 (.load false 1 (.t 42)), XU 44 40 (.call (.t 41) false
 [.lend (.t 43)]), Xu 45 40 (.mov (.t 6)), Xu 46 40 (.bin false .lss (.t 44) (.t 45)), Xq 47 (.pick (.t 40) .tb (.t 46))]) (.cond (.t 47) (.seq (.reg [Xb 2 (.asg (.nils 92 1)), Xb 3 (.asg .fb)]) .ret) .skip)) (.seq (.reg [Xb 48 (.bsl 3 1 []), Xa 10 48]) (.seq (.seq (.reg [Xm 49 8, Xn 50 49, Xq 51 (.mov (.i 0))]) (.block 2 (.loop [1, 4, 5, 8, 10, 14, 18, 19, 20, 21, 26, 29, 30, 48, 49, 50, 51, 63,
 71] (.seq (.reg [Xq 52 (.bin false .lss (.t 51) (.t 50))]) (.seq (.cond (.t 52) .skip (.exit 2)) (.join [1, 4, 5, 8, 10, 14, 18, 19, 20, 21, 26, 29, 30, 48, 49, 50, 51, 63, 71] (.block 3 (.seq (.reg [Xi 53 1 49 51, Xl 54 1 53, Xa 12 54]) (.seq (.reg [Xm 55 5, Xm 56 12, Xb 57 (.call (.t 55) false [.lend (.t 56)]), Xa 13 57]) (.seq (.reg [Xm 58 13, Xq 59 (.bin false .geq (.t 58) (.i 0))]) (.cond (.t
 59) (.reg [Xm 60 10, Xm 61 13, Xb 62 (.bsl 3 1 [.t 61]), Xb 63 (.app true 3 1 8 (.t 60) (.t 62)), Xa 10 63]) .skip))))) (.reg [Xq 64 (.bin false .add (.t 51) (.i 1)), Xm 51 64]))))))) (.seq (.reg [Xm 65 10, Xb 66 (.call (.fn 48) false [.io (.t 65)])]) (.reg [Xm 67 4, Xm 68 10, Xb 69 (.callm (.fn 49) (.t 68) []), Xb 70 (.bsl 92 1 [.t 69]), Xb 71 (.app true 92 1 24 (.t 67) (.t 70)), Xa 4 71]))))))))
 (.reg [Xq 72 (.bin false .add (.t 21) (.i 1)), Xm 21 72]))))))) (.seq (.reg [Xm 73 4, Xa 2 73, Xb 3 (.asg .tb)]) .ret))))))
set_option maxHeartbeats 4000000 in
theorem d27 (l : List Src) (hl : l.length < 9223372036854775807) (hs : ∀ s ∈ l, s.ok) : Does Go.Proofs.Tryz.prog 27 [.fsl 2 (l.map Src.c)] false (.tup (needsV l)) [.dead] := by
  refine does_intro (mc := m27) (N := 74) (rs := [2, 3]) (fx := []) 1 rfl (by decide +kernel) ?_
  simp only [m27, EV, Nat.reduceEqDiff, Nat.reduceBEq, Nat.reduceLT, Nat.reduceLeDiff, Nat.reduceAdd, Nat.reduceSub, reduceIte]
  refine cK_cut (fun h => ?_) (fun h => ?_)
  · have h8 : ¬ l.length ≤ 8 := by simp at h; omega
    have : srcGood l = false := by unfold srcGood; rw [decide_eq_false h8]; simp
    simp only [EV, Nat.reduceEqDiff, Nat.reduceBEq, Nat.reduceLT, Nat.reduceLeDiff, Nat.reduceAdd, Nat.reduceSub, reduceIte]
    simp only [needsV, this, Bool.false_eq_true, if_false, EV, Nat.reduceEqDiff, Nat.reduceBEq, Nat.reduceLT, Nat.reduceLeDiff, Nat.reduceAdd, Nat.reduceSub, reduceIte, evRE, retVC, cellV', evR, nfz, nfzs, nfzss, List.contains_nil, List.contains_cons, Bool.or_false, or_true]
  have h8 : l.length ≤ 8 := by simp at h; omega
  clear h
  simp only [EV, Nat.reduceEqDiff, Nat.reduceBEq, Nat.reduceLT, Nat.reduceLeDiff, Nat.reduceAdd, Nat.reduceSub, reduceIte]
  refine awp_frz rfl ?_
  simp only [frzS, EV, Nat.reduceEqDiff, Nat.reduceBEq, Nat.reduceLT, Nat.reduceLeDiff, Nat.reduceAdd, Nat.reduceSub, reduceIte]
  refine awp_loop (fun i : Nat => i ≤ l.length ∧ goodUp l i = true) (fun i => stl [(1, .fptr [.fsl 2 (l.map Src.c)]), (4, .usl 92 1 (((l.take i).map (needsOf l)).map nv)), (5, .clo 44 [.fptr [.fsl 2 (l.map Src.c)]]), (14, .dead), (18, .clo 44 [.fptr [.fsl 2 (l.map Src.c)]]), (19, .fsl 2 (l.map Src.c)), (20, .v (.int .i64 (l.length : Int))), (21, .v (.int .i64 (i : Int))), (71, .dead)]) (fun i => l.length - i) 0 ⟨Nat.zero_le _, rfl⟩ ?_ ?_
  · simp only [frzS, EV, Nat.reduceEqDiff, Nat.reduceBEq, Nat.reduceLT, Nat.reduceLeDiff, Nat.reduceAdd, Nat.reduceSub, reduceIte]
    rfl
  · rintro i ⟨hi, hg⟩
    simp only [EV, Nat.reduceEqDiff, Nat.reduceBEq, Nat.reduceLT, Nat.reduceLeDiff, Nat.reduceAdd, Nat.reduceSub, reduceIte]
    refine cK_cut (fun h => ?_) (fun h => ?_)
    · have h1 : i < l.length := by simpa using h
      have h2 : (i : Int) < (l.length : Int) := by omega
      have hok := hs l[i] (List.getElem_mem h1)
      simp only [Src.ok] at hok
      have hbad : srcOk l i = false → srcGood l = false := fun hh => by unfold srcGood; rw [goodUp_le l h1 hh]; rfl
      have hsq := srcOk_at h1
      have di := d6 (l[i]).text hok.2
      have dn := d47 (l[i]).name hok.1
      have da := d44 l hl (l[i]).name
      have hlt := atS_lt h1
      have w1 := w64 ((i : Int) + 1) (by omega)
      unfold impV at di
      have hNl := impN_len (l[i]).text
      have hneed : needsOf l l[i] = cmpct (srt (nrefs l ((impN (l[i]).text).getD []))) := rfl
      simp only [nth_map h1, h2, Src.c, EV, Nat.reduceEqDiff, Nat.reduceBEq, Nat.reduceLT, Nat.reduceLeDiff, Nat.reduceAdd, Nat.reduceSub, reduceIte]
      refine callK_i di ?_
      rcases f1 : (impN (l[i]).text).isSome with _ | _
      · simp only [f1, EV, Nat.reduceEqDiff, Nat.reduceBEq, Nat.reduceLT, Nat.reduceLeDiff, Nat.reduceAdd, Nat.reduceSub, reduceIte]
        have := hbad (by rw [hsq, f1]; rfl)
        simp only [needsV, this, Bool.false_eq_true, if_false, EV, Nat.reduceEqDiff, Nat.reduceBEq, Nat.reduceLT, Nat.reduceLeDiff, Nat.reduceAdd, Nat.reduceSub, reduceIte, evRE, retVC, cellV', evR, nfz, nfzs, nfzss, List.contains_nil, List.contains_cons, Bool.or_false, or_true]
      generalize hN : (impN (l[i]).text).getD [] = names at hNl hneed
      simp only [f1, hN, EV, Nat.reduceEqDiff, Nat.reduceBEq, Nat.reduceLT, Nat.reduceLeDiff, Nat.reduceAdd, Nat.reduceSub, reduceIte]
      refine callK_i dn ?_
      rcases f2 : nameOk (l[i]).name with _ | _
      · simp only [f2, EV, Nat.reduceEqDiff, Nat.reduceBEq, Nat.reduceLT, Nat.reduceLeDiff, Nat.reduceAdd, Nat.reduceSub, reduceIte]
        have := hbad (by rw [hsq, f1, f2]; rfl)
        simp only [needsV, this, Bool.false_eq_true, if_false, EV, Nat.reduceEqDiff, Nat.reduceBEq, Nat.reduceLT, Nat.reduceLeDiff, Nat.reduceAdd, Nat.reduceSub, reduceIte, evRE, retVC, cellV', evR, nfz, nfzs, nfzss, List.contains_nil, List.contains_cons, Bool.or_false, or_true]
      simp only [f2, h2, EV, Nat.reduceEqDiff, Nat.reduceBEq, Nat.reduceLT, Nat.reduceLeDiff, Nat.reduceAdd, Nat.reduceSub, reduceIte]
      refine callK_i da ?_
      rcases f3 : (l.take i).any (nmEq (l[i]).name) with _ | _
      rotate_left
      · rw [f3] at hlt
        simp only [hlt, EV, Nat.reduceEqDiff, Nat.reduceBEq, Nat.reduceLT, Nat.reduceLeDiff, Nat.reduceAdd, Nat.reduceSub, reduceIte]
        have := hbad (by rw [hsq, f1, f2, f3]; rfl)
        simp only [needsV, this, Bool.false_eq_true, if_false, EV, Nat.reduceEqDiff, Nat.reduceBEq, Nat.reduceLT, Nat.reduceLeDiff, Nat.reduceAdd, Nat.reduceSub, reduceIte, evRE, retVC, cellV', evR, nfz, nfzs, nfzss, List.contains_nil, List.contains_cons, Bool.or_false, or_true]
      rw [f3] at hlt
      have hgood : goodUp l (i + 1) = true := by simp only [goodUp, hg, hsq, f1, f2, f3]; rfl
      simp only [hlt, EV, Nat.reduceEqDiff, Nat.reduceBEq, Nat.reduceLT, Nat.reduceLeDiff, Nat.reduceAdd, Nat.reduceSub, reduceIte]
      have da2 := fun x => d44 l hl x
      refine awp_loop (fun j : Nat => j ≤ names.length) (fun j => stl [(1, .fptr [.fsl 2 (l.map Src.c)]), (4, .usl 92 1 (((l.take i).map (needsOf l)).map nv)), (5, .clo 44 [.fptr [.fsl 2 (l.map Src.c)]]), (8, .usl 9 1 (names.map sv)), (10, .usl 3 1 ((nrefs l (names.take j)).map iv)), (14, .dead), (18, .clo 44 [.fptr [.fsl 2 (l.map Src.c)]]), (19, .fsl 2 (l.map Src.c)), (20, .v (.int .i64 (l.length : Int))), (21, .v (.int .i64 (i : Int))), (26, .tup [.dead, .v (.bool true)]), (29, .dead), (30, .dead), (48, .dead), (49, .sref 8 [] 0 names.length), (50, .v (.int .i64 (names.length : Int))), (51, .v (.int .i64 (j : Int))), (63, .dead), (71, .dead)]) (fun j => names.length - j) 0 (Nat.zero_le _) ?_ ?_
      · simp only [frzS, EV, Nat.reduceEqDiff, Nat.reduceBEq, Nat.reduceLT, Nat.reduceLeDiff, Nat.reduceAdd, Nat.reduceSub, reduceIte]
        rfl
      · intro j hj
        simp only [EV, Nat.reduceEqDiff, Nat.reduceBEq, Nat.reduceLT, Nat.reduceLeDiff, Nat.reduceAdd, Nat.reduceSub, reduceIte]
        refine cK_cut (fun h => ?_) (fun h => ?_)
        · have k1 : j < names.length := by simpa using h
          have k2 : (j : Int) < (names.length : Int) := by omega
          simp only [EV, Nat.reduceEqDiff, Nat.reduceBEq, Nat.reduceLT, Nat.reduceLeDiff, Nat.reduceAdd, Nat.reduceSub, reduceIte]
          have hnl := nrefs_len l (names.take j)
          simp only [List.length_take] at hnl
          refine awp_join (fun _ : Unit => True) (fun _ => stl [(1, .fptr [.fsl 2 (l.map Src.c)]), (4, .usl 92 1 (((l.take i).map (needsOf l)).map nv)), (5, .clo 44 [.fptr [.fsl 2 (l.map Src.c)]]), (8, .usl 9 1 (names.map sv)), (10, .usl 3 1 ((nrefs l (names.take (j + 1))).map iv)), (14, .dead), (18, .clo 44 [.fptr [.fsl 2 (l.map Src.c)]]), (19, .fsl 2 (l.map Src.c)), (20, .v (.int .i64 (l.length : Int))), (21, .v (.int .i64 (i : Int))), (26, .tup [.dead, .v (.bool true)]), (29, .dead), (30, .dead), (48, .dead), (49, .sref 8 [] 0 names.length), (50, .v (.int .i64 (names.length : Int))), (51, .v (.int .i64 (j : Int))), (63, .dead), (71, .dead)]) ?_ ?_
          · have e1 : nth (names.map sv) j = sv names[j] := nth_map k1
            simp only [k1, k2, e1, sv, EV, Nat.reduceEqDiff, Nat.reduceBEq, Nat.reduceLT, Nat.reduceLeDiff, Nat.reduceAdd, Nat.reduceSub, reduceIte]
            refine callK_i (da2 names[j]) ?_
            simp only [EV, Nat.reduceEqDiff, Nat.reduceBEq, Nat.reduceLT, Nat.reduceLeDiff, Nat.reduceAdd, Nat.reduceSub, reduceIte]
            have hsu := nrefs_succ l k1
            refine cK_cut (fun h => ?_) (fun h => ?_)
            · rw [h] at hsu
              rw [if_pos rfl] at hsu
              simp only [EV, Nat.reduceEqDiff, Nat.reduceBEq, Nat.reduceLT, Nat.reduceLeDiff, Nat.reduceAdd, Nat.reduceSub, reduceIte]
              refine ⟨by omega, by omega, (), ?_⟩
              rw [hsu, List.map_append]
              rfl
            · rw [h] at hsu
              rw [if_neg (by simp), List.append_nil] at hsu
              simp only [EV, Nat.reduceEqDiff, Nat.reduceBEq, Nat.reduceLT, Nat.reduceLeDiff, Nat.reduceAdd, Nat.reduceSub, reduceIte]
              refine ⟨(), ?_⟩
              rw [hsu]
          · intro _ _
            have w2 := w64 ((j : Int) + 1) (by omega)
            simp only [w2, EV, Nat.reduceEqDiff, Nat.reduceBEq, Nat.reduceLT, Nat.reduceLeDiff, Nat.reduceAdd, Nat.reduceSub, reduceIte]
            exact ⟨j + 1, by omega, by omega, rfl⟩
        · have k1 : j = names.length := by have : ¬ (j : Int) < names.length := by simpa using h
                                           omega
          subst k1
          simp only [List.take_length, EV, Nat.reduceEqDiff, Nat.reduceBEq, Nat.reduceLT, Nat.reduceLeDiff, Nat.reduceAdd, Nat.reduceSub, reduceIte]
          have hnl := nrefs_len l names
          have hcl := cmpct_le (srt (nrefs l names))
          refine callK2_i (d48 (nrefs l names) (by omega)) rfl (by simp [shapeOf, srt_len]) ?_
          simp only [EV, Nat.reduceEqDiff, Nat.reduceBEq, Nat.reduceLT, Nat.reduceLeDiff, Nat.reduceAdd, Nat.reduceSub, reduceIte]
          refine callK_i (d49 (srt (nrefs l names)) (by rw [srt_len]; omega)) ?_
          simp only [w1, EV, Nat.reduceEqDiff, Nat.reduceBEq, Nat.reduceLT, Nat.reduceLeDiff, Nat.reduceAdd, Nat.reduceSub, reduceIte]
          have htk2 : List.take (List.take i l).length (((l.take i).map (needsOf l)).map nv) = ((l.take i).map (needsOf l)).map nv := List.take_of_length_le (by simp)
          rw [htk2]
          have hln : (((l.take i).map (needsOf l)).map nv).length = i := by simp; omega
          rw [hln]
          refine ⟨by omega, by omega, i + 1, ⟨by omega, hgood⟩, by omega, ?_⟩
          have hrow : ((l.take (i + 1)).map (needsOf l)).map nv = ((l.take i).map (needsOf l)).map nv ++ [[.usl 3 1 ((cmpct (srt (nrefs l names))).map iv)]] := by
            rw [List.take_succ_eq_append_getElem h1, List.map_append, List.map_append, List.map_cons, List.map_nil, hneed]
            rfl
          rw [hrow]
          rfl
    · have h1 : i = l.length := by have : ¬ (i : Int) < l.length := by simpa using h
                                   omega
      subst h1
      simp only [EV, Nat.reduceEqDiff, Nat.reduceBEq, Nat.reduceLT, Nat.reduceLeDiff, Nat.reduceAdd, Nat.reduceSub, reduceIte]
      have hG : srcGood l = true := by unfold srcGood; rw [hg, decide_eq_true h8]; rfl
      have htk : List.take l.length ((l.map (needsOf l)).map nv) = (l.map (needsOf l)).map nv := List.take_of_length_le (by simp)
      simp only [needsV, hG, if_true, htk, nfz_nvs, EV, Nat.reduceEqDiff, Nat.reduceBEq, Nat.reduceLT, Nat.reduceLeDiff, Nat.reduceAdd, Nat.reduceSub, reduceIte, evRE, retVC, cellV', evR, nfz, nfzs, nfzss, List.contains_nil, List.contains_cons, Bool.or_false, or_true]
end Go.AM
namespace Go.AM
set_option linter.unusedVariables false
set_option linter.unusedSimpArgs false
def m13 : MC :=
 (.seq (.reg [Xb 2 (.asg .fb)]) (.seq (.reg [Xm 6 0, Xb 7 (.call (.fn 27) false [.lend (.t 6)]), Xa 5 7, Xq 8 (.ext 5 0), Xq 9 (.ext 5 1), Xa 3 8, Xa 4 9]) (.seq (.reg [Xm 10 4, Xa 2 10]) .ret)))
theorem d13 (l : List Src) (hl : l.length < 9223372036854775807) (hs : ∀ s ∈ l, s.ok) : Does Go.Proofs.Tryz.prog 13 [.fsl 2 (l.map Src.c)] false (.v (.bool (srcGood l))) [.dead] := by
  have dn := d27 l hl hs
  unfold needsV at dn
  refine does_intro (mc := m13) (N := 11) (rs := [2]) (fx := []) 1 rfl (by decide +kernel) ?_
  simp only [m13, EV, Nat.reduceEqDiff, Nat.reduceBEq, Nat.reduceLT, Nat.reduceLeDiff, Nat.reduceAdd, Nat.reduceSub, reduceIte]
  refine callK_i dn ?_
  simp only [EV, Nat.reduceEqDiff, Nat.reduceBEq, Nat.reduceLT, Nat.reduceLeDiff, Nat.reduceAdd, Nat.reduceSub, reduceIte]
  simp only [EV, Nat.reduceEqDiff, Nat.reduceBEq, Nat.reduceLT, Nat.reduceLeDiff, Nat.reduceAdd, Nat.reduceSub, reduceIte, evRE, retVC, cellV', evR, nfz, nfzs, nfzss, List.contains_nil, List.contains_cons, Bool.or_false, or_true]
def m4 : MC :=
 (.seq (.reg [Xb 2 (.asg .fb)]) (.seq (.reg [Xb 3 (.asg (.i 1048576))]) (.seq (.reg [Xm 7 0, Xm 8 3, Xb 9 (.call (.fn 10) false [.lend (.t 7), .lend (.t 8)]), Xa 3 9]) (.seq (.seq (.reg [Xm 10 3, Xq 11 (.bin false .lss (.t 10) (.i 0))]) (.cond (.t 11) (.seq (.reg [Xb 2 (.asg .tb)]) .ret) .skip)) (.seq (.reg [Xm 12 0, Xb 13 (.call (.fn 12) false [.lend (.t 12)]), Xb 14 (.call (.fn 11) false [.lend
 (.t 13)]), Xa 4 14]) (.seq (.reg [Xm 15 0, Xb 16 (.call (.fn 12) false [.lend (.t 15)]), Xa 5 16]) (.seq (.reg [Xm 17 5, Xb 18 (.call (.fn 13) false [.lend (.t 17)]), Xa 6 18]) (.seq (.seq (.reg [Xm 19 6, Xm 20 4, Xq 21 (.bin true .neq (.t 19) (.t 20))]) (.cond (.t 21) (.seq (.reg [Xb 2 (.asg .fb)]) .ret) .skip)) (.seq (.seq (.reg [Xm 22 5, Xm 23 0, Xb 24 (.call (.fn 12) false [.lend (.t 23)]), Xb
 25 (.call (.fn 14) false [.lend (.t 22), .lend (.t 24)]), Xq 26 (.un .not (.t 25))]) (.cond (.t 26) (.seq (.reg [Xb 2 (.asg .fb)]) .ret) .skip)) (.seq (.reg [Xb 2 (.asg .tb)]) .ret))))))))))
theorem d4 (l : List Src) (hl : (l.length : Int) ≤ 9223372036854775807) (hs : ∀ s ∈ l, s.ok) : Does Go.Proofs.Tryz.prog 4 [.fsl 2 (l.map Src.c)] false (.v (.bool true)) [.dead] := by
  have bs : ∀ b : Bool, (b != b) = false := fun b => by cases b <;> rfl
  refine does_intro (mc := m4) (N := 27) (rs := [2]) (fx := []) 1 rfl (by decide +kernel) ?_
  simp only [m4, EV, Nat.reduceEqDiff, Nat.reduceBEq, Nat.reduceLT, Nat.reduceLeDiff, Nat.reduceAdd, Nat.reduceSub, reduceIte]
  refine callK_i (d10 l 1048576 (by omega) (by omega) hl hs) ?_
  simp only [EV, Nat.reduceEqDiff, Nat.reduceBEq, Nat.reduceLT, Nat.reduceLeDiff, Nat.reduceAdd, Nat.reduceSub, reduceIte]
  refine cK_cut (fun h => ?_) (fun h => ?_)
  · simp only [EV, Nat.reduceEqDiff, Nat.reduceBEq, Nat.reduceLT, Nat.reduceLeDiff, Nat.reduceAdd, Nat.reduceSub, reduceIte]
    simp only [EV, Nat.reduceEqDiff, Nat.reduceBEq, Nat.reduceLT, Nat.reduceLeDiff, Nat.reduceAdd, Nat.reduceSub, reduceIte, evRE, retVC, cellV', evR, nfz, nfzs, nfzss, List.contains_nil, List.contains_cons, Bool.or_false, or_true]
  · have h0 : 0 ≤ szSrcS l 1048576 := by simpa using h
    have h1 := szSrcS_tot l _ h0
    have h2 := totSrcs_nn l
    have h3 : (l.length : Int) ≤ 1048576 := by omega
    have h4 : l.length < 9223372036854775807 := by omega
    simp only [EV, Nat.reduceEqDiff, Nat.reduceBEq, Nat.reduceLT, Nat.reduceLeDiff, Nat.reduceAdd, Nat.reduceSub, reduceIte]
    refine callK_i (d12 l h3) ?_
    simp only [Src.frz, EV, Nat.reduceEqDiff, Nat.reduceBEq, Nat.reduceLT, Nat.reduceLeDiff, Nat.reduceAdd, Nat.reduceSub, reduceIte]
    refine callK_i (d11 l h4 hs) ?_
    simp only [Src.frz, EV, Nat.reduceEqDiff, Nat.reduceBEq, Nat.reduceLT, Nat.reduceLeDiff, Nat.reduceAdd, Nat.reduceSub, reduceIte]
    refine callK_i (d12 l h3) ?_
    simp only [Src.frz, EV, Nat.reduceEqDiff, Nat.reduceBEq, Nat.reduceLT, Nat.reduceLeDiff, Nat.reduceAdd, Nat.reduceSub, reduceIte]
    refine callK_i (d13 l h4 hs) ?_
    simp only [Src.frz, bs, EV, Nat.reduceEqDiff, Nat.reduceBEq, Nat.reduceLT, Nat.reduceLeDiff, Nat.reduceAdd, Nat.reduceSub, reduceIte]
    refine callK_i (d12 l h3) ?_
    simp only [Src.frz, EV, Nat.reduceEqDiff, Nat.reduceBEq, Nat.reduceLT, Nat.reduceLeDiff, Nat.reduceAdd, Nat.reduceSub, reduceIte]
    refine callK_i (d14 l h4) ?_
    simp only [Src.frz, EV, Nat.reduceEqDiff, Nat.reduceBEq, Nat.reduceLT, Nat.reduceLeDiff, Nat.reduceAdd, Nat.reduceSub, reduceIte]
    simp only [EV, Nat.reduceEqDiff, Nat.reduceBEq, Nat.reduceLT, Nat.reduceLeDiff, Nat.reduceAdd, Nat.reduceSub, reduceIte, evRE, retVC, cellV', evR, nfz, nfzs, nfzss, List.contains_nil, List.contains_cons, Bool.or_false, or_true]
end Go.AM
