/- Contracts of functions of the given program, for the law FnShownMore: what they return and what they write, under the bounds that each theorem states. -/
import Derived.Test.YtdoclmnfbdolnaaGreatG3
import Derived.Shelf.SlSortCmp.WholeK
import Derived.Shelf.SlSortCmp.NoneTotal
import Derived.Ground.SlsfProg
import Derived.Laws.Cover1
namespace Go.AM
set_option linter.unusedVariables false
set_option linter.unusedSimpArgs false
namespace Fz
def m270 : MC :=
 (.seq (.reg [Xb 0 (.asg (.nils 129 6))]) (.seq (.reg [Xb 1 (.build [0, 2, 5] [0, 2, 5] [1, 1, 1] [.i, .i, .i, .f 3, .z, .z] [.i 1, .i (-1), .z #[73, 78, 84]]), Xb 2 (.build [0, 2, 5] [0, 2, 5] [1, 1, 1] [.i, .i, .i, .f 3, .z, .z] [.i 2, .i (-1), .z #[66, 79, 79, 76]]), Xb 3 (.build [0, 2, 5] [0, 2, 5] [1, 1, 1] [.i, .i, .i, .f 3, .z, .z] [.i 3, .i (-1), .z #[67, 72, 65, 82]]), Xb 4 (.bsl 129 6 [.t
 1, .t 2, .t 3]), Xa 0 4]) .ret))
theorem d270 : Does Go.Proofs.Tryz.prog 270 [] false (.usl 129 6 (baseTs.map Ty.z)) [] := by
  refine does_intro (mc := m270) (N := 5) (rs := [0]) (fx := []) 0 rfl (by decide +kernel) ?_
  simp only [m270, baseTs, Ty.z, EV, Nat.reduceEqDiff, Nat.reduceBEq, Nat.reduceLT, Nat.reduceLeDiff, Nat.reduceAdd, Nat.reduceSub, reduceIte]
  simp only [EV, Nat.reduceEqDiff, Nat.reduceBEq, Nat.reduceLT, Nat.reduceLeDiff, Nat.reduceAdd, Nat.reduceSub, reduceIte, evRE, retVC, cellV', evR, nfz, nfzs, nfzss, List.contains_nil, List.contains_cons, Bool.or_false, or_true]
  exact Or.inr rfl
end Fz
theorem base_at {i : Nat} (h : i < baseTs.length) : baseTs[i].long = 0 ∧ baseTs[i].base = -1 ∧ baseTs[i].fields = [] ∧ baseTs[i].owner = ⟨#[]⟩ := by
  have : i = 0 ∨ i = 1 ∨ i = 2 := by rw [base_len] at h; omega
  rcases this with rfl | rfl | rfl <;> exact ⟨rfl, rfl, rfl, rfl⟩
theorem eqL_nil {α : Type} {q : α → α → Bool} (a : List α) : eqL q a [] = !decide (0 < (a.length : Int)) := by
  cases a with
  | nil => simp [eqL, eqTo]
  | cons x a => simp [eqL]
theorem sameTy_at (t : Ty) {i : Nat} (h : i < baseTs.length) : sameTy t baseTs[i] = ((t.kind == baseTs[i].kind) && ((t.long == 0) && ((t.base == -1) && (!decide (0 < (t.fields.length : Int)) && ((t.owner.toList == (⟨#[]⟩ : ByteArray).toList) && (t.name.toList == baseTs[i].name.toList)))))) := by
  obtain ⟨h1, h2, h3, h4⟩ := base_at h
  unfold sameTy
  rw [h1, h2, h3, h4, eqL_nil]
noncomputable def baseOk (l : List Ty) : Bool := decide (3 ≤ (l.length : Int)) && eqL sameTy (l.take 3) baseTs
def m246 : MC :=
 (.seq (.reg [Xb 2 (.asg .fb)]) (.seq (.seq (.reg [Xm 6 0, Xn 7 6, Xq 8 (.bin false .lss (.t 7) (.i 3))]) (.cond (.t 8) (.seq (.reg [Xb 2 (.asg .fb)]) .ret) .skip)) (.seq (.seq (.reg [Xb 9 (.call (.fn 270) false []), Xn 10 9, Xq 11 (.mov (.i 0))]) (.block 0 (.loop [0, 9, 10, 11] (.seq (.reg [Xq 12 (.bin false .lss (.t 11) (.t 10))]) (.seq (.cond (.t 12) .skip (.exit 0)) (.seq (.block 1 (.seq (.reg
 [Xm 13 11, Xi 14 6 9 11, XL 15 6 14, Xb 4 (.alloc 129 [.i, .i, .i, .s 138 3, .z, .z]), Xa 3 13, Xz (.store 6 (.t 4) (.t 15))]) (.seq (.reg [Xm 16 0, Xm 17 3, Xi 18 6 16 17, XL 19 6 18, Xb 5 (.alloc 129 [.i, .i, .i, .s 138 3, .z, .z]), Xz (.store 6 (.t 5) (.t 19))]) (.seq (.reg [Xf 20 0 5, Xl 21 1 20, Xf 22 0 4, Xl 23 1 22, Xq 24 (.bin false .neq (.t 21) (.t 23)), Xm 25 24, Xu 26 25 (.fad 1 (.t
 5)), Xu 27 25 (.load false 1 (.t 26)), Xu 28 25 (.bin false .neq (.t 27) (.i 0)), Xq 29 (.pick (.t 25) .tb (.t 28)), Xm 30 29, Xu 31 30 (.fad 2 (.t 5)), Xu 32 30 (.load false 1 (.t 31)), Xu 33 30 (.bin false .neq (.t 32) (.i (-1))), Xq 34 (.pick (.t 30) .tb (.t 33)), Xm 35 34, Xu 36 35 (.fad 3 (.t 5)), Xu 37 35 (.load false 1 (.t 36)), Xu 38 35 (.len false (.t 37)), Xu 39 35 (.bin false .gtr (.t
 38) (.i 0)), Xq 40 (.pick (.t 35) .tb (.t 39)), Xm 41 40, Xu 42 41 (.fad 4 (.t 5)), Xu 43 41 (.load false 1 (.t 42)), Xu 44 41 (.bin false .neq (.t 43) (.z #[])), Xq 45 (.pick (.t 41) .tb (.t 44)), Xm 46 45, Xu 47 46 (.fad 5 (.t 5)), Xu 48 46 (.load false 1 (.t 47)), Xu 49 46 (.fad 5 (.t 4)), Xu 50 46 (.load false 1 (.t 49)), Xu 51 46 (.bin false .neq (.t 48) (.t 50)), Xq 52 (.pick (.t 46) .tb (.t
 51))]) (.cond (.t 52) (.seq (.reg [Xb 2 (.asg .fb)]) .ret) .skip))))) (.reg [Xq 53 (.bin false .add (.t 11) (.i 1)), Xm 11 53]))))))) (.seq (.reg [Xb 2 (.asg .tb)]) .ret))))
set_option maxHeartbeats 1000000 in
set_option maxRecDepth 100000 in
theorem d246 (l : List Ty) (hl : (l.length : Int) ≤ 1048576) : Does Go.Proofs.Tryz.prog 246 [.fsl 6 (l.map Ty.z)] false (.v (.bool (baseOk l))) [.dead] := by
  refine does_intro (mc := m246) (N := 54) (rs := [2]) (fx := []) 1 rfl (by decide +kernel) ?_
  simp only [m246, EV, Nat.reduceEqDiff, Nat.reduceBEq, Nat.reduceLT, Nat.reduceLeDiff, Nat.reduceAdd, Nat.reduceSub, reduceIte]
  refine cK_cut (fun h => ?_) (fun h => ?_)
  · have h0 : ¬ 3 ≤ (l.length : Int) := by simpa using h
    have e : baseOk l = false := by unfold baseOk; rw [decide_eq_false h0, Bool.false_and]
    simp only [EV, Nat.reduceEqDiff, Nat.reduceBEq, Nat.reduceLT, Nat.reduceLeDiff, Nat.reduceAdd, Nat.reduceSub, reduceIte]
    simp only [e, EV, Nat.reduceEqDiff, Nat.reduceBEq, Nat.reduceLT, Nat.reduceLeDiff, Nat.reduceAdd, Nat.reduceSub, reduceIte, evRE, retVC, cellV', evR, nfz, nfzs, nfzss, List.contains_nil, List.contains_cons, Bool.or_false, or_true]
  have h3 : 3 ≤ (l.length : Int) := by simpa using h
  have hb : baseOk l = eqL sameTy (l.take 3) baseTs := by unfold baseOk; rw [decide_eq_true h3, Bool.true_and]
  have ht3 : (l.take 3).length = 3 := by simp; omega
  clear h
  simp only [EV, Nat.reduceEqDiff, Nat.reduceBEq, Nat.reduceLT, Nat.reduceLeDiff, Nat.reduceAdd, Nat.reduceSub, reduceIte]
  refine callK_i Fz.d270 ?_
  have h3' : ((3 : Nat) : Int) = 3 := rfl
  simp only [base_len, h3', EV, Nat.reduceEqDiff, Nat.reduceBEq, Nat.reduceLT, Nat.reduceLeDiff, Nat.reduceAdd, Nat.reduceSub, reduceIte]
  refine awp_loop (fun i : Nat => i ≤ 3 ∧ eqTo sameTy (l.take 3) baseTs i) (fun i => stl [(0, .fsl 6 (l.map Ty.z)), (9, .usl 129 6 (baseTs.map Ty.z)), (10, .v (.int .i64 3)), (11, .v (.int .i64 (i : Int)))]) (fun i => 3 - i) 0 ⟨Nat.zero_le _, fun j _ _ hj => absurd hj (by omega)⟩ ?_ ?_
  · simp only [EV, Nat.reduceEqDiff, Nat.reduceBEq, Nat.reduceLT, Nat.reduceLeDiff, Nat.reduceAdd, Nat.reduceSub, reduceIte]
    rfl
  · rintro i ⟨hi, hok⟩
    simp only [EV, Nat.reduceEqDiff, Nat.reduceBEq, Nat.reduceLT, Nat.reduceLeDiff, Nat.reduceAdd, Nat.reduceSub, reduceIte]
    refine cK_cut (fun h => ?_) (fun h => ?_)
    · have h1 : i < 3 := by have : (i : Int) < 3 := by simpa using h
                            omega
      have hn : i < baseTs.length := by rw [base_len]; exact h1
      have hl' : i < l.length := by omega
      have h2 : (i : Int) < 3 := by omega
      have h4 : (i : Int) < (l.length : Int) := by omega
      have hto : (l.take 3)[i]'(by omega) = l[i] := by rw [List.getElem_take]
      have hs := sameTy_at l[i] hn
      have no : sameTy l[i] baseTs[i] = false → baseOk l = false := by
        intro e; rw [hb]; exact eqL_no (by omega) hn (by rw [hto]; exact e)
      clear h
      simp only [bne, TyE, nth_map hl', nth_map hn, h2, h1, h4, base_len, h3', Ty.z, EV, Nat.reduceEqDiff, Nat.reduceBEq, Nat.reduceLT, Nat.reduceLeDiff, Nat.reduceAdd, Nat.reduceSub, reduceIte]
      repeat' (first
    | (refine gK_cut (fun h => ?_) (fun h => ?_) <;> simp only [h, bne, EV, Nat.reduceEqDiff, Nat.reduceBEq, Nat.reduceLT, Nat.reduceLeDiff, Nat.reduceAdd, Nat.reduceSub, reduceIte])
    | (refine cK_cut (fun h => ?_) (fun h => ?_) <;> simp only [h, bne, EV, Nat.reduceEqDiff, Nat.reduceBEq, Nat.reduceLT, Nat.reduceLeDiff, Nat.reduceAdd, Nat.reduceSub, reduceIte]))
      all_goals simp only [Bool.not_eq_true', Bool.not_eq_false'] at *
      all_goals first
        | (have e : baseOk l = false := no (by rw [hs]; simp only [*, Bool.not_true, Bool.and_false, Bool.false_and])
           simp only [e, Ty.nfz, EV, Nat.reduceEqDiff, Nat.reduceBEq, Nat.reduceLT, Nat.reduceLeDiff, Nat.reduceAdd, Nat.reduceSub, reduceIte, evRE, retVC, cellV', evR, nfz, nfzs, nfzss, List.contains_nil, List.contains_cons, Bool.or_false, or_true]
           done)
        | (have e : sameTy l[i] baseTs[i] = true := by rw [hs]; simp only [*, Bool.not_false, Bool.and_true]
           rw [w64 _ (by omega)]
           exact ⟨i + 1, ⟨h1, eqTo_succ (h1 := by omega) (h2 := hn) hok (by rw [hto]; exact e)⟩, by omega, rfl⟩)
    · have h1 : i = 3 := by have : ¬ (i : Int) < 3 := by simpa using h
                            omega
      subst h1
      have e : baseOk l = true := by rw [hb]; exact eqL_yes (by rw [ht3, base_len]) (by rw [ht3]; exact hok)
      simp only [EV, Nat.reduceEqDiff, Nat.reduceBEq, Nat.reduceLT, Nat.reduceLeDiff, Nat.reduceAdd, Nat.reduceSub, reduceIte]
      simp only [e, EV, Nat.reduceEqDiff, Nat.reduceBEq, Nat.reduceLT, Nat.reduceLeDiff, Nat.reduceAdd, Nat.reduceSub, reduceIte, evRE, retVC, cellV', evR, nfz, nfzs, nfzss, List.contains_nil, List.contains_cons, Bool.or_false, or_true]
end Go.AM
namespace Go.AM
set_option linter.unusedVariables false
set_option linter.unusedSimpArgs false
theorem tyNm_comm (x o : Ty) : tyNm x o = ((x.name.toList == o.name.toList) && (x.owner.toList == o.owner.toList)) := by
  unfold tyNm
  rw [Bool.beq_comm, Bool.beq_comm (a := o.owner.toList)]
theorem tysOk_base' {l : List Ty} (h : baseOk l = false) : tysOk l = false := by
  unfold tysOk
  unfold baseOk at h
  rcases e : decide (3 ≤ (l.length : Int)) with _ | _
  · simp only [Bool.false_and]
  · rw [e, Bool.true_and] at h
    simp only [h, Bool.false_and, Bool.and_false]
theorem tysOk_long {l : List Ty} (h : 24 < (l.length : Int)) : tysOk l = false := by
  unfold tysOk
  have : decide ((l.length : Int) ≤ 24) = false := decide_eq_false (by omega)
  simp only [this, Bool.false_and, Bool.and_false]
def m206 : MC :=
 (.seq (.reg [Xb 2 (.asg .fb)]) (.seq (.seq (.reg [Xm 7 0, Xb 8 (.call (.fn 246) false [.lend (.t 7)]), Xq 9 (.un .not (.t 8)), Xm 10 9, Xu 11 10 (.mov (.t 0)), Xu 12 10 (.len false (.t 11)), Xu 13 10 (.bin false .gtr (.t 12) (.i 24)), Xq 14 (.pick (.t 10) .tb (.t 13))]) (.cond (.t 14) (.seq (.reg [Xb 2 (.asg .fb)]) .ret) .skip)) (.seq (.seq (.reg [Xm 15 0, Xq 16 (.slc false 6 (.t 15) (some (.i 3))
 none), Xn 17 16, Xq 18 (.mov (.i 0))]) (.block 0 (.loop [0, 15, 16, 17, 18] (.seq (.reg [Xq 19 (.bin false .lss (.t 18) (.t 17))]) (.seq (.cond (.t 19) .skip (.exit 0)) (.seq (.block 1 (.seq (.reg [Xm 20 18, Xi 21 6 16 18, XL 22 6 21, Xb 4 (.alloc 129 [.i, .i, .i, .s 138 3, .z, .z]), Xa 3 20, Xz (.store 6 (.t 4) (.t 22))]) (.seq (.seq (.reg [Xm 23 0, XL 24 6 4, Xb 25 (.call (.fn 247) false [.lend
 (.t 23), .lend (.t 24)]), Xq 26 (.un .not (.t 25))]) (.cond (.t 26) (.seq (.reg [Xb 2 (.asg .fb)]) .ret) .skip)) (.seq (.reg [Xm 27 0, Xm 28 3, Xq 29 (.bin false .add (.i 3) (.t 28)), Xq 30 (.slc false 6 (.t 27) (some (.i 3)) (some (.t 29))), Xn 31 30, Xq 32 (.mov (.i 0))]) (.block 2 (.loop [0, 4, 15, 16, 17, 18, 27, 29, 30, 31, 32] (.seq (.reg [Xq 33 (.bin false .lss (.t 32) (.t 31))]) (.seq
 (.cond (.t 33) .skip (.exit 2)) (.seq (.block 3 (.seq (.reg [Xi 34 6 30 32, XL 35 6 34, Xb 6 (.alloc 129 [.i, .i, .i, .s 138 3, .z, .z]), Xz (.store 6 (.t 6) (.t 35))]) (.seq (.reg [Xf 36 5 4, Xl 37 1 36, Xq 38 (.bin false .neq (.t 37) (.z #[])), Xm 39 38, Xt 40 39 (.fad 5 (.t 4)), Xt 41 39 (.load false 1 (.t 40)), Xt 42 39 (.fad 5 (.t 6)), Xt 43 39 (.load false 1 (.t 42)), Xt 44 39 (.bin false
 .eql (.t 41) (.t 43)), Xq 45 (.pick (.t 39) (.t 44) .fb), Xm 46 45, Xt 47 46 (.fad 4 (.t 4)), Xt 48 46 (.load false 1 (.t 47)), Xt 49 46 (.fad 4 (.t 6)), Xt 50 46 (.load false 1 (.t 49)), Xt 51 46 (.bin false .eql (.t 48) (.t 50)), Xq 52 (.pick (.t 46) (.t 51) .fb)]) (.cond (.t 52) (.seq (.reg [Xb 2 (.asg .fb)]) .ret) .skip)))) (.reg [Xq 53 (.bin false .add (.t 32) (.i 1)), Xm 32 53]))))))))))
 (.reg [Xq 54 (.bin false .add (.t 18) (.i 1)), Xm 18 54]))))))) (.seq (.reg [Xb 2 (.asg .tb)]) .ret))))
set_option maxHeartbeats 1000000 in
set_option maxRecDepth 100000 in
theorem d206 (l : List Ty) (hl : (l.length : Int) ≤ 1048576) (hs : ∀ s ∈ l, s.sm) : Does Go.Proofs.Tryz.prog 206 [.fsl 6 (l.map Ty.z)] false (.v (.bool (tysOk l))) [.dead] := by
  refine does_intro (mc := m206) (N := 55) (rs := [2]) (fx := []) 1 rfl (by decide +kernel) ?_
  simp only [m206, EV, Nat.reduceEqDiff, Nat.reduceBEq, Nat.reduceLT, Nat.reduceLeDiff, Nat.reduceAdd, Nat.reduceSub, reduceIte]
  refine callK_i (d246 l hl) ?_
  simp only [EV, Nat.reduceEqDiff, Nat.reduceBEq, Nat.reduceLT, Nat.reduceLeDiff, Nat.reduceAdd, Nat.reduceSub, reduceIte]
  rcases hb : baseOk l with _ | _
  · have e : tysOk l = false := tysOk_base' hb
    simp only [EV, Nat.reduceEqDiff, Nat.reduceBEq, Nat.reduceLT, Nat.reduceLeDiff, Nat.reduceAdd, Nat.reduceSub, reduceIte]
    simp only [e, EV, Nat.reduceEqDiff, Nat.reduceBEq, Nat.reduceLT, Nat.reduceLeDiff, Nat.reduceAdd, Nat.reduceSub, reduceIte, evRE, retVC, cellV', evR, nfz, nfzs, nfzss, List.contains_nil, List.contains_cons, Bool.or_false, or_true]
  simp only [EV, Nat.reduceEqDiff, Nat.reduceBEq, Nat.reduceLT, Nat.reduceLeDiff, Nat.reduceAdd, Nat.reduceSub, reduceIte]
  refine cK_cut (fun h => ?_) (fun h => ?_)
  · have e : tysOk l = false := tysOk_long (by simpa using h)
    simp only [EV, Nat.reduceEqDiff, Nat.reduceBEq, Nat.reduceLT, Nat.reduceLeDiff, Nat.reduceAdd, Nat.reduceSub, reduceIte]
    simp only [e, EV, Nat.reduceEqDiff, Nat.reduceBEq, Nat.reduceLT, Nat.reduceLeDiff, Nat.reduceAdd, Nat.reduceSub, reduceIte, evRE, retVC, cellV', evR, nfz, nfzs, nfzss, List.contains_nil, List.contains_cons, Bool.or_false, or_true]
  have h24 : (l.length : Int) ≤ 24 := by have : ¬ 24 < (l.length : Int) := by simpa using h
                                         omega
  have hbo := hb
  simp only [baseOk, Bool.and_eq_true, decide_eq_true_eq] at hbo
  obtain ⟨hl3, e2⟩ := hbo
  have e1 : (decide (3 ≤ (l.length : Int)) && decide ((l.length : Int) ≤ 24)) = true := by rw [decide_eq_true hl3, decide_eq_true h24]; rfl
  clear h
  have h3 : ((3 : Nat) : Int) = 3 := rfl
  have t3 : (3 : Int).toNat = 3 := rfl
  simp only [h3, EV, Nat.reduceEqDiff, Nat.reduceBEq, Nat.reduceLT, Nat.reduceLeDiff, Nat.reduceAdd, Nat.reduceSub, reduceIte]
  refine ⟨by omega, hl3, by omega, ?_⟩
  simp only [← List.map_drop, ← List.map_take, t3]
  have hm : ∃ m, l.drop 3 = m := ⟨_, rfl⟩
  obtain ⟨m, hm⟩ := hm
  have hml : (m.length : Int) = (l.length : Int) - 3 := by rw [← hm]; simp; omega
  have hsub : ∀ x ∈ m, x ∈ l := by rw [← hm]; exact fun x hx => List.mem_of_mem_drop hx
  have p9 : ∀ i (h : i < m.length), tyAt l m i h = false → tysOk l = false := by
    subst hm; exact fun i h e => tysOk_no h e
  refine awp_loop (fun i : Nat => i ≤ m.length ∧ tyTo l m i) (fun i => stl [(0, .fsl 6 (l.map Ty.z)), (15, .fsl 6 (l.map Ty.z)), (16, .fsl 6 (m.map Ty.z)), (17, .v (.int .i64 (m.length : Int))), (18, .v (.int .i64 (i : Int)))]) (fun i => m.length - i) 0 ⟨Nat.zero_le _, fun j hj h => absurd h (by omega)⟩ ?_ ?_
  · have htk : List.take (l.length - 3) m = m := List.take_of_length_le (by omega)
    simp only [hm, htk, EV, Nat.reduceEqDiff, Nat.reduceBEq, Nat.reduceLT, Nat.reduceLeDiff, Nat.reduceAdd, Nat.reduceSub, reduceIte]
    rfl
  · rintro i ⟨hi, hok⟩
    simp only [EV, Nat.reduceEqDiff, Nat.reduceBEq, Nat.reduceLT, Nat.reduceLeDiff, Nat.reduceAdd, Nat.reduceSub, reduceIte]
    refine cK_cut (fun h => ?_) (fun h => ?_)
    · have h1 : i < m.length := by simpa using h
      have h2 : (i : Int) < (m.length : Int) := by omega
      have hso : m[i].sm := hs m[i] (hsub _ (List.getElem_mem h1))
      clear h
      have hw : IntKind.i64.wrap (3 + (i : Int)) = ((3 + i : Nat) : Int) := by rw [w64 _ (by omega)]; omega
      have hdt : List.take (3 + i - 3) (List.drop 3 (l.map Ty.z)) = (m.take i).map Ty.z := by
        rw [← hm, Nat.add_sub_cancel_left, ← List.map_drop, ← List.map_take]
      have ht : (m.take i).length = i := by simp; omega
      have hcl : Ty.z m[i] = [.v (.int .i64 m[i].kind), .v (.int .i64 m[i].long), .v (.int .i64 m[i].base), .fsl 3 (m[i].fields.map Fd.z), .v (.string m[i].owner), .v (.string m[i].name)] := rfl
      have d7 := d247 l m[i] hl hso
      rw [hcl] at d7
      have en : (m[i].name.toList == (⟨#[]⟩ : ByteArray).toList) = nil' m[i].name := rfl
      simp only [TyE, nth_map h1, h2, h3, Ty.z, EV, Nat.reduceEqDiff, Nat.reduceBEq, Nat.reduceLT, Nat.reduceLeDiff, Nat.reduceAdd, Nat.reduceSub, reduceIte]
      refine callK_i d7 ?_
      simp only [EV, Nat.reduceEqDiff, Nat.reduceBEq, Nat.reduceLT, Nat.reduceLeDiff, Nat.reduceAdd, Nat.reduceSub, reduceIte]
      rcases e5 : tyOk l m[i] with _ | _
      · have e : tysOk l = false := p9 i h1 (by simp only [tyAt, e5, Bool.and_false])
        simp only [EV, Nat.reduceEqDiff, Nat.reduceBEq, Nat.reduceLT, Nat.reduceLeDiff, Nat.reduceAdd, Nat.reduceSub, reduceIte]
        simp only [e, EV, Nat.reduceEqDiff, Nat.reduceBEq, Nat.reduceLT, Nat.reduceLeDiff, Nat.reduceAdd, Nat.reduceSub, reduceIte, evRE, retVC, cellV', evR, nfz, nfzs, nfzss, List.contains_nil, List.contains_cons, Bool.or_false, or_true]
      simp only [h3, hw, t3, EV, Nat.reduceEqDiff, Nat.reduceBEq, Nat.reduceLT, Nat.reduceLeDiff, Nat.reduceAdd, Nat.reduceSub, reduceIte]
      refine ⟨by omega, by omega, by omega, ?_⟩
      rw [hdt]
      refine awp_loop (fun k : Nat => k ≤ i ∧ (nil' m[i].name = true ∨ ((m.take i).take k).any (tyNm m[i]) = false)) (fun k => stl [(0, .fsl 6 (l.map Ty.z)), (4, .box 129 m[i].z), (15, .fsl 6 (l.map Ty.z)), (16, .fsl 6 (m.map Ty.z)), (17, .v (.int .i64 (m.length : Int))), (18, .v (.int .i64 (i : Int))), (27, .fsl 6 (l.map Ty.z)), (29, .v (.int .i64 ((3 + i : Nat) : Int))), (30, .fsl 6 ((m.take i).map Ty.z)), (31, .v (.int .i64 (i : Int))), (32, .v (.int .i64 (k : Int)))]) (fun k => i - k) 0 ⟨Nat.zero_le _, Or.inr (by simp)⟩ ?_ ?_
      · simp only [Ty.z, EV, Nat.reduceEqDiff, Nat.reduceBEq, Nat.reduceLT, Nat.reduceLeDiff, Nat.reduceAdd, Nat.reduceSub, reduceIte]
        rw [ht]
        rfl
      · rintro k ⟨hk, hno⟩
        simp only [Ty.z, EV, Nat.reduceEqDiff, Nat.reduceBEq, Nat.reduceLT, Nat.reduceLeDiff, Nat.reduceAdd, Nat.reduceSub, reduceIte]
        refine cK_cut (fun h => ?_) (fun h => ?_)
        · have k3 : k < i := by have : (k : Int) < i := by simpa using h
                                omega
          have k1 : k < (m.take i).length := by rw [ht]; exact k3
          have k2 : (k : Int) < i := by omega
          clear h
          have hnx : tyNm m[i] (m.take i)[k] = false → ∃ a, (a ≤ i ∧ (nil' m[i].name = true ∨ ((m.take i).take a).any (tyNm m[i]) = false)) ∧ i - a < i - k ∧ a = k + 1 := by
            intro e
            refine ⟨k + 1, ⟨by omega, ?_⟩, by omega, rfl⟩
            rcases hno with hno | hno
            · exact .inl hno
            · exact .inr (any_take k1 hno e)
          simp only [TyE, nth_map k1, k2, k3, ht, Ty.z, EV, Nat.reduceEqDiff, Nat.reduceBEq, Nat.reduceLT, Nat.reduceLeDiff, Nat.reduceAdd, Nat.reduceSub, reduceIte]
          rw [en]
          have hcm := tyNm_comm m[i] (m.take i)[k]
          rcases e3 : nil' m[i].name with _ | _
          · simp only [Bool.not_false, TyE, nth_map k1, k2, k3, ht, Ty.z, EV, Nat.reduceEqDiff, Nat.reduceBEq, Nat.reduceLT, Nat.reduceLeDiff, Nat.reduceAdd, Nat.reduceSub, reduceIte]
            repeat' (first
    | (refine gK_cut (fun h => ?_) (fun h => ?_) <;> simp only [h, EV, Nat.reduceEqDiff, Nat.reduceBEq, Nat.reduceLT, Nat.reduceLeDiff, Nat.reduceAdd, Nat.reduceSub, reduceIte])
    | (refine cK_cut (fun h => ?_) (fun h => ?_) <;> simp only [h, EV, Nat.reduceEqDiff, Nat.reduceBEq, Nat.reduceLT, Nat.reduceLeDiff, Nat.reduceAdd, Nat.reduceSub, reduceIte]))
            all_goals first
              | (have e4 : tyNm m[i] (m.take i)[k] = true := by rw [hcm]; simp only [*, Bool.and_self]
                 have e : tysOk l = false := p9 i h1 (by
                   have := any_at k1 e4
                   simp only [tyAt, e3, this, Bool.not_false, Bool.true_and, Bool.not_true, Bool.false_and])
                 simp only [e, EV, Nat.reduceEqDiff, Nat.reduceBEq, Nat.reduceLT, Nat.reduceLeDiff, Nat.reduceAdd, Nat.reduceSub, reduceIte, evRE, retVC, cellV', evR, nfz, nfzs, nfzss, List.contains_nil, List.contains_cons, Bool.or_false, or_true]
                 done)
              | (have e4 : tyNm m[i] (m.take i)[k] = false := by rw [hcm]; simp only [*, Bool.false_and, Bool.and_false]
                 obtain ⟨a, q1, q2, rfl⟩ := hnx e4
                 rw [w64 _ (by omega)]
                 exact ⟨k + 1, ⟨q1.1, by rcases q1.2 with q | q; exact absurd (e3.symm.trans q) Bool.false_ne_true; exact Or.inr q⟩, q2, rfl⟩)
          · simp only [Bool.not_true, EV, Nat.reduceEqDiff, Nat.reduceBEq, Nat.reduceLT, Nat.reduceLeDiff, Nat.reduceAdd, Nat.reduceSub, reduceIte]
            rw [w64 _ (by omega)]
            exact ⟨k + 1, ⟨by omega, Or.inl trivial⟩, by omega, rfl⟩
        · have k1 : k = i := by have : ¬ (k : Int) < i := by simpa using h
                                omega
          subst k1
          have hq : tyAt l m k h1 = true := by
            simp only [tyAt, e5, Bool.and_true]
            rcases hno with hno | hno
            · rw [hno]; rfl
            · rw [List.take_take, Nat.min_self] at hno
              rw [hno, Bool.and_false]; rfl
          simp only [EV, Nat.reduceEqDiff, Nat.reduceBEq, Nat.reduceLT, Nat.reduceLeDiff, Nat.reduceAdd, Nat.reduceSub, reduceIte]
          rw [w64 _ (by omega)]
          exact ⟨k + 1, ⟨h1, tyTo_succ h1 hok hq⟩, by omega, rfl⟩
    · have h1 : i = m.length := by have : ¬ (i : Int) < m.length := by simpa using h
                                   omega
      subst h1
      have e : tysOk l = true := tysOk_yes e1 e2 (by rw [hm]; exact hok)
      simp only [EV, Nat.reduceEqDiff, Nat.reduceBEq, Nat.reduceLT, Nat.reduceLeDiff, Nat.reduceAdd, Nat.reduceSub, reduceIte]
      simp only [e, EV, Nat.reduceEqDiff, Nat.reduceBEq, Nat.reduceLT, Nat.reduceLeDiff, Nat.reduceAdd, Nat.reduceSub, reduceIte, evRE, retVC, cellV', evR, nfz, nfzs, nfzss, List.contains_nil, List.contains_cons, Bool.or_false, or_true]
end Go.AM
namespace Go.AM
set_option linter.unusedVariables false
set_option linter.unusedSimpArgs false
def noRd (l : List Ty) (n : Nat) : Prop := ∀ j : Nat, j < n → roundAt l (j : Int) = false
theorem tabOk_yes {l : List Ty} (h : tysOk l = true) (h2 : noRd l l.length) : tabOk l = true := by
  simp only [tabOk, h, Bool.true_and, List.all_eq_true, List.mem_range]
  intro n hn
  rw [h2 n hn]; rfl
theorem tabOk_no {l : List Ty} {i : Nat} (h : i < l.length) (h2 : roundAt l (i : Int) = true) : tabOk l = false := by
  rcases e : tabOk l with _ | _
  · rfl
  · have := tabOk_round e (n := (i : Int)) (by omega) (by omega)
    rw [h2] at this; cases this
theorem tabOk_tno {l : List Ty} (h : tysOk l = false) : tabOk l = false := by simp only [tabOk, h, Bool.false_and]
def m94 : MC :=
 (.seq (.reg [Xb 2 (.asg .fb)]) (.seq (.seq (.reg [Xm 4 0, Xb 5 (.call (.fn 169) false [.lend (.t 4)]), Xq 6 (.un .not (.t 5))]) (.cond (.t 6) (.seq (.reg [Xb 2 (.asg .fb)]) .ret) .skip)) (.seq (.seq (.reg [Xm 7 0, Xn 8 7, Xq 9 (.mov (.i 0))]) (.block 0 (.loop [0, 8, 9] (.seq (.reg [Xq 10 (.bin false .lss (.t 9) (.t 8))]) (.seq (.cond (.t 10) .skip (.exit 0)) (.seq (.block 1 (.seq (.reg [Xm 11 9,
 Xa 3 11]) (.seq (.reg [Xm 12 0, Xm 13 3, Xb 14 (.call (.fn 170) false [.lend (.t 12), .lend (.t 13)])]) (.cond (.t 14) (.seq (.reg [Xb 2 (.asg .fb)]) .ret) .skip)))) (.reg [Xq 15 (.bin false .add (.t 9) (.i 1)), Xm 9 15]))))))) (.seq (.reg [Xb 2 (.asg .tb)]) .ret))))
set_option maxRecDepth 100000 in
theorem d94 (l : List Ty) (hl : (l.length : Int) ≤ 1048576) (hs : ∀ s ∈ l, s.sm) : Does Go.Proofs.Tryz.prog 94 [.fsl 6 (l.map Ty.z)] false (.v (.bool (tabOk l))) [.dead] := by
  refine does_intro (mc := m94) (N := 16) (rs := [2]) (fx := []) 1 rfl (by decide +kernel) ?_
  simp only [m94, EV, Nat.reduceEqDiff, Nat.reduceBEq, Nat.reduceLT, Nat.reduceLeDiff, Nat.reduceAdd, Nat.reduceSub, reduceIte]
  refine callK_i (d169 l hl hs) ?_
  simp only [EV, Nat.reduceEqDiff, Nat.reduceBEq, Nat.reduceLT, Nat.reduceLeDiff, Nat.reduceAdd, Nat.reduceSub, reduceIte]
  rcases ht : tysOk l with _ | _
  · have e : tabOk l = false := tabOk_tno ht
    simp only [Bool.not_false, EV, Nat.reduceEqDiff, Nat.reduceBEq, Nat.reduceLT, Nat.reduceLeDiff, Nat.reduceAdd, Nat.reduceSub, reduceIte]
    simp only [e, EV, Nat.reduceEqDiff, Nat.reduceBEq, Nat.reduceLT, Nat.reduceLeDiff, Nat.reduceAdd, Nat.reduceSub, reduceIte, evRE, retVC, cellV', evR, nfz, nfzs, nfzss, List.contains_nil, List.contains_cons, Bool.or_false, or_true]
  simp only [Bool.not_true, EV, Nat.reduceEqDiff, Nat.reduceBEq, Nat.reduceLT, Nat.reduceLeDiff, Nat.reduceAdd, Nat.reduceSub, reduceIte]
  refine awp_loop (fun i : Nat => i ≤ l.length ∧ noRd l i) (fun i => stl [(0, .fsl 6 (l.map Ty.z)), (8, .v (.int .i64 (l.length : Int))), (9, .v (.int .i64 (i : Int)))]) (fun i => l.length - i) 0 ⟨Nat.zero_le _, fun j h => absurd h (by omega)⟩ ?_ ?_
  · simp only [EV, Nat.reduceEqDiff, Nat.reduceBEq, Nat.reduceLT, Nat.reduceLeDiff, Nat.reduceAdd, Nat.reduceSub, reduceIte]
    rfl
  · rintro i ⟨hi, hno⟩
    simp only [EV, Nat.reduceEqDiff, Nat.reduceBEq, Nat.reduceLT, Nat.reduceLeDiff, Nat.reduceAdd, Nat.reduceSub, reduceIte]
    refine cK_cut (fun h => ?_) (fun h => ?_)
    · have h1 : i < l.length := by simpa using h
      simp only [EV, Nat.reduceEqDiff, Nat.reduceBEq, Nat.reduceLT, Nat.reduceLeDiff, Nat.reduceAdd, Nat.reduceSub, reduceIte]
      refine callK_i (d170 l (i : Int) hl hs ht (by omega) (by omega)) ?_
      simp only [EV, Nat.reduceEqDiff, Nat.reduceBEq, Nat.reduceLT, Nat.reduceLeDiff, Nat.reduceAdd, Nat.reduceSub, reduceIte]
      rcases e1 : roundAt l (i : Int) with _ | _
      · simp only [EV, Nat.reduceEqDiff, Nat.reduceBEq, Nat.reduceLT, Nat.reduceLeDiff, Nat.reduceAdd, Nat.reduceSub, reduceIte]
        rw [w64 _ (by omega)]
        refine ⟨i + 1, ⟨h1, fun j hj => ?_⟩, by omega, rfl⟩
        by_cases e : j = i
        · subst e; exact e1
        · exact hno j (by omega)
      · have e : tabOk l = false := tabOk_no h1 e1
        simp only [EV, Nat.reduceEqDiff, Nat.reduceBEq, Nat.reduceLT, Nat.reduceLeDiff, Nat.reduceAdd, Nat.reduceSub, reduceIte]
        simp only [e, EV, Nat.reduceEqDiff, Nat.reduceBEq, Nat.reduceLT, Nat.reduceLeDiff, Nat.reduceAdd, Nat.reduceSub, reduceIte, evRE, retVC, cellV', evR, nfz, nfzs, nfzss, List.contains_nil, List.contains_cons, Bool.or_false, or_true]
    · have h1 : i = l.length := by have : ¬ (i : Int) < l.length := by simpa using h
                                   omega
      subst h1
      have e : tabOk l = true := tabOk_yes ht hno
      simp only [EV, Nat.reduceEqDiff, Nat.reduceBEq, Nat.reduceLT, Nat.reduceLeDiff, Nat.reduceAdd, Nat.reduceSub, reduceIte]
      simp only [e, EV, Nat.reduceEqDiff, Nat.reduceBEq, Nat.reduceLT, Nat.reduceLeDiff, Nat.reduceAdd, Nat.reduceSub, reduceIte, evRE, retVC, cellV', evR, nfz, nfzs, nfzss, List.contains_nil, List.contains_cons, Bool.or_false, or_true]
def m142 : MC :=
 (.seq (.reg [Xb 2 (.asg .fb)]) (.seq (.seq (.reg [Xm 4 0, Xb 5 (.call (.fn 206) false [.lend (.t 4)]), Xq 6 (.un .not (.t 5))]) (.cond (.t 6) (.seq (.reg [Xb 2 (.asg .fb)]) .ret) .skip)) (.seq (.seq (.reg [Xm 7 0, Xn 8 7, Xq 9 (.mov (.i 0))]) (.block 0 (.loop [0, 8, 9] (.seq (.reg [Xq 10 (.bin false .lss (.t 9) (.t 8))]) (.seq (.cond (.t 10) .skip (.exit 0)) (.seq (.block 1 (.seq (.reg [Xm 11 9,
 Xa 3 11]) (.seq (.reg [Xm 12 0, Xm 13 3, Xb 14 (.call (.fn 207) false [.lend (.t 12), .lend (.t 13)])]) (.cond (.t 14) (.seq (.reg [Xb 2 (.asg .fb)]) .ret) .skip)))) (.reg [Xq 15 (.bin false .add (.t 9) (.i 1)), Xm 9 15]))))))) (.seq (.reg [Xb 2 (.asg .tb)]) .ret))))
set_option maxRecDepth 100000 in
theorem d142 (l : List Ty) (hl : (l.length : Int) ≤ 1048576) (hs : ∀ s ∈ l, s.sm) : Does Go.Proofs.Tryz.prog 142 [.fsl 6 (l.map Ty.z)] false (.v (.bool (tabOk l))) [.dead] := by
  refine does_intro (mc := m142) (N := 16) (rs := [2]) (fx := []) 1 rfl (by decide +kernel) ?_
  simp only [m142, EV, Nat.reduceEqDiff, Nat.reduceBEq, Nat.reduceLT, Nat.reduceLeDiff, Nat.reduceAdd, Nat.reduceSub, reduceIte]
  refine callK_i (d206 l hl hs) ?_
  simp only [EV, Nat.reduceEqDiff, Nat.reduceBEq, Nat.reduceLT, Nat.reduceLeDiff, Nat.reduceAdd, Nat.reduceSub, reduceIte]
  rcases ht : tysOk l with _ | _
  · have e : tabOk l = false := tabOk_tno ht
    simp only [Bool.not_false, EV, Nat.reduceEqDiff, Nat.reduceBEq, Nat.reduceLT, Nat.reduceLeDiff, Nat.reduceAdd, Nat.reduceSub, reduceIte]
    simp only [e, EV, Nat.reduceEqDiff, Nat.reduceBEq, Nat.reduceLT, Nat.reduceLeDiff, Nat.reduceAdd, Nat.reduceSub, reduceIte, evRE, retVC, cellV', evR, nfz, nfzs, nfzss, List.contains_nil, List.contains_cons, Bool.or_false, or_true]
  simp only [Bool.not_true, EV, Nat.reduceEqDiff, Nat.reduceBEq, Nat.reduceLT, Nat.reduceLeDiff, Nat.reduceAdd, Nat.reduceSub, reduceIte]
  refine awp_loop (fun i : Nat => i ≤ l.length ∧ noRd l i) (fun i => stl [(0, .fsl 6 (l.map Ty.z)), (8, .v (.int .i64 (l.length : Int))), (9, .v (.int .i64 (i : Int)))]) (fun i => l.length - i) 0 ⟨Nat.zero_le _, fun j h => absurd h (by omega)⟩ ?_ ?_
  · simp only [EV, Nat.reduceEqDiff, Nat.reduceBEq, Nat.reduceLT, Nat.reduceLeDiff, Nat.reduceAdd, Nat.reduceSub, reduceIte]
    rfl
  · rintro i ⟨hi, hno⟩
    simp only [EV, Nat.reduceEqDiff, Nat.reduceBEq, Nat.reduceLT, Nat.reduceLeDiff, Nat.reduceAdd, Nat.reduceSub, reduceIte]
    refine cK_cut (fun h => ?_) (fun h => ?_)
    · have h1 : i < l.length := by simpa using h
      simp only [EV, Nat.reduceEqDiff, Nat.reduceBEq, Nat.reduceLT, Nat.reduceLeDiff, Nat.reduceAdd, Nat.reduceSub, reduceIte]
      refine callK_i (d207 l (i : Int) hl hs ht (by omega) (by omega)) ?_
      simp only [EV, Nat.reduceEqDiff, Nat.reduceBEq, Nat.reduceLT, Nat.reduceLeDiff, Nat.reduceAdd, Nat.reduceSub, reduceIte]
      rcases e1 : roundAt l (i : Int) with _ | _
      · simp only [EV, Nat.reduceEqDiff, Nat.reduceBEq, Nat.reduceLT, Nat.reduceLeDiff, Nat.reduceAdd, Nat.reduceSub, reduceIte]
        rw [w64 _ (by omega)]
        refine ⟨i + 1, ⟨h1, fun j hj => ?_⟩, by omega, rfl⟩
        by_cases e : j = i
        · subst e; exact e1
        · exact hno j (by omega)
      · have e : tabOk l = false := tabOk_no h1 e1
        simp only [EV, Nat.reduceEqDiff, Nat.reduceBEq, Nat.reduceLT, Nat.reduceLeDiff, Nat.reduceAdd, Nat.reduceSub, reduceIte]
        simp only [e, EV, Nat.reduceEqDiff, Nat.reduceBEq, Nat.reduceLT, Nat.reduceLeDiff, Nat.reduceAdd, Nat.reduceSub, reduceIte, evRE, retVC, cellV', evR, nfz, nfzs, nfzss, List.contains_nil, List.contains_cons, Bool.or_false, or_true]
    · have h1 : i = l.length := by have : ¬ (i : Int) < l.length := by simpa using h
                                   omega
      subst h1
      have e : tabOk l = true := tabOk_yes ht hno
      simp only [EV, Nat.reduceEqDiff, Nat.reduceBEq, Nat.reduceLT, Nat.reduceLeDiff, Nat.reduceAdd, Nat.reduceSub, reduceIte]
      simp only [e, EV, Nat.reduceEqDiff, Nat.reduceBEq, Nat.reduceLT, Nat.reduceLeDiff, Nat.reduceAdd, Nat.reduceSub, reduceIte, evRE, retVC, cellV', evR, nfz, nfzs, nfzss, List.contains_nil, List.contains_cons, Bool.or_false, or_true]
end Go.AM
namespace Go.AM
set_option linter.unusedVariables false
set_option linter.unusedSimpArgs false
def obNm (v : ByteArray) (o : Ob) : Bool := o.name.toList == v.toList
def m141 : MC :=
 (.seq (.reg [Xb 2 (.box 49 (.t 0)), Xb 4 (.asg (.i 0))]) (.seq (.seq (.reg [Xf 7 3 2, Xl 8 1 7, Xn 9 8, Xq 10 (.mov (.i 0))]) (.block 0 (.loop [1, 2, 7, 8, 9, 10] (.seq (.reg [Xq 11 (.bin false .lss (.t 10) (.t 9))]) (.seq (.cond (.t 11) .skip (.exit 0)) (.seq (.block 1 (.seq (.reg [Xm 12 10, Xi 13 6 8 10, XL 14 6 13, Xb 6 (.alloc 69 [.z, .i, .i, .i, .i, .s 182 3]), Xa 5 12, Xz (.store 6 (.t 6)
 (.t 14))]) (.seq (.reg [Xf 15 0 6, Xl 16 1 15, Xm 17 1, Xq 18 (.bin false .eql (.t 16) (.t 17))]) (.cond (.t 18) (.seq (.reg [Xm 19 5, Xa 4 19]) .ret) .skip)))) (.reg [Xq 20 (.bin false .add (.t 10) (.i 1)), Xm 10 20]))))))) (.seq (.reg [Xb 4 (.asg (.i (-1)))]) .ret)))
theorem d141 (s : Scope) (v : ByteArray) (hl : s.objects.length < 9223372036854775807) : Does Go.Proofs.Tryz.prog 141 [.agg s.z, .v (.string v)] false (.v (.int .i64 (findI (obNm v) s.objects))) [.dead, .dead] := by
  refine does_intro (mc := m141) (N := 21) (rs := [4]) (fx := []) 2 rfl (by decide +kernel) ?_
  simp only [m141, Scope.z, EV, Nat.reduceEqDiff, Nat.reduceBEq, Nat.reduceLT, Nat.reduceLeDiff, Nat.reduceAdd, Nat.reduceSub, reduceIte]
  refine awp_loop (fun i : Nat => i ≤ s.objects.length ∧ ∀ j (hj : j < s.objects.length), j < i → obNm v s.objects[j] = false) (fun i => stl [(1, .v (.string v)), (2, .box 49 s.z), (7, .ref 2 [] 0 3), (8, .fsl 6 (s.objects.map Ob.z)), (9, .v (.int .i64 (s.objects.length : Int))), (10, .v (.int .i64 (i : Int)))]) (fun i => s.objects.length - i) 0 ⟨Nat.zero_le _, fun j hj h => absurd h (by omega)⟩ ?_ ?_
  · simp only [Scope.z, EV, Nat.reduceEqDiff, Nat.reduceBEq, Nat.reduceLT, Nat.reduceLeDiff, Nat.reduceAdd, Nat.reduceSub, reduceIte]
    rfl
  rintro i ⟨hi, hno⟩
  simp only [Scope.z, EV, Nat.reduceEqDiff, Nat.reduceBEq, Nat.reduceLT, Nat.reduceLeDiff, Nat.reduceAdd, Nat.reduceSub, reduceIte]
  refine cK_cut (fun h => ?_) (fun h => ?_)
  · have h1 : i < s.objects.length := by simpa using h
    have h2 : (i : Int) < (s.objects.length : Int) := by omega
    clear h
    simp only [ObE, nth_map h1, h2, Ob.z, Scope.z, EV, Nat.reduceEqDiff, Nat.reduceBEq, Nat.reduceLT, Nat.reduceLeDiff, Nat.reduceAdd, Nat.reduceSub, reduceIte]
    have ec : (s.objects[i].name.toList == v.toList) = obNm v s.objects[i] := rfl
    rw [ec]
    rcases e : obNm v s.objects[i] with _ | _
    · simp only [Scope.z, EV, Nat.reduceEqDiff, Nat.reduceBEq, Nat.reduceLT, Nat.reduceLeDiff, Nat.reduceAdd, Nat.reduceSub, reduceIte]
      rw [w64 _ (by omega)]
      refine ⟨i + 1, ⟨h1, ?_⟩, by omega, rfl⟩
      intro j hj hji
      by_cases e' : j = i
      · subst e'; exact e
      · exact hno j hj (by omega)
    · simp only [EV, Nat.reduceEqDiff, Nat.reduceBEq, Nat.reduceLT, Nat.reduceLeDiff, Nat.reduceAdd, Nat.reduceSub, reduceIte]
      simp only [findI_at h1 e hno, EV, Nat.reduceEqDiff, Nat.reduceBEq, Nat.reduceLT, Nat.reduceLeDiff, Nat.reduceAdd, Nat.reduceSub, reduceIte, evRE, retVC, cellV', evR, nfz, nfzs, nfzss, List.contains_nil, List.contains_cons, Bool.or_false, or_true]
  · have h1 : i = s.objects.length := by have : ¬ (i : Int) < s.objects.length := by simpa using h
                                         omega
    subst h1
    simp only [EV, Nat.reduceEqDiff, Nat.reduceBEq, Nat.reduceLT, Nat.reduceLeDiff, Nat.reduceAdd, Nat.reduceSub, reduceIte]
    simp only [findI_no (fun j hj => hno j hj hj), EV, Nat.reduceEqDiff, Nat.reduceBEq, Nat.reduceLT, Nat.reduceLeDiff, Nat.reduceAdd, Nat.reduceSub, reduceIte, evRE, retVC, cellV', evR, nfz, nfzs, nfzss, List.contains_nil, List.contains_cons, Bool.or_false, or_true]
def nmS (o : Ob) : Str := ⟨o.name⟩
def usAt (s : Scope) (i : Nat) (h : i < s.uses.length) : Prop := s.imports.any (eqSt s.uses[i].mod) = true ∧ nameOk s.uses[i].name = true ∧ (s.uses.take i).any (qUs s.uses[i]) = false
def usTo (s : Scope) (n : Nat) : Prop := ∀ i (h : i < s.uses.length), i < n → usAt s i h
def obTo (s : Scope) (n : Nat) : Prop := ∀ i (h : i < s.objects.length), i < n → obOk s.types s.objects[i] = true
structure ScP (s : Scope) : Prop where
  few1 : s.imports.length ≤ 4
  unl1 : unl (⟨s.name⟩ :: s.imports) = true
  tab : tabOk s.types = true
  few2 : s.objects.length ≤ 16
  few3 : s.uses.length ≤ 40
  obs : obTo s s.objects.length
  uses : usTo s s.uses.length
  unl2 : unl (s.imports ++ s.objects.map nmS) = true
open Classical in
noncomputable def scOk (s : Scope) : Bool := decide (ScP s)
theorem scOk_no {s : Scope} (h : ¬ ScP s) : scOk s = false := by simp [scOk, h]
theorem scOk_iff {s : Scope} : scOk s = true ↔ ScP s := by simp [scOk]
theorem obTo_succ {s : Scope} {i : Nat} (h : i < s.objects.length) (h1 : obTo s i) (h2 : obOk s.types s.objects[i] = true) : obTo s (i + 1) := by
  intro j hj hji
  by_cases e : j = i
  · subst e; exact h2
  · exact h1 j hj (by omega)
theorem usTo_succ {s : Scope} {i : Nat} (h : i < s.uses.length) (h1 : usTo s i) (h2 : usAt s i h) : usTo s (i + 1) := by
  intro j hj hji
  by_cases e : j = i
  · subst e; exact h2
  · exact h1 j hj (by omega)
end Go.AM
namespace Go.AM
set_option linter.unusedVariables false
set_option linter.unusedSimpArgs false
def imAt (s : Scope) (i : Nat) (h : i < s.imports.length) : Prop := nameOk s.imports[i].s = true ∧ (s.imports[i].s.toList == s.name.toList) = false ∧ (s.imports.take i).any (eqSt s.imports[i].s) = false
def imTo (s : Scope) (n : Nat) : Prop := ∀ i (h : i < s.imports.length), i < n → imAt s i h
def oxAt (s : Scope) (i : Nat) (h : i < s.objects.length) : Prop := (nameOk s.objects[i].name = true ∧ obOk s.types s.objects[i] = true) ∧ s.imports.any (eqSt s.objects[i].name) = false ∧ (s.objects.take i).any (fun o => eqSt s.objects[i].name (nmS o)) = false
def oxTo (s : Scope) (n : Nat) : Prop := ∀ i (h : i < s.objects.length), i < n → oxAt s i h
theorem imTo_succ {s : Scope} {i : Nat} (h : i < s.imports.length) (h1 : imTo s i) (h2 : imAt s i h) : imTo s (i + 1) := by
  intro j hj hji
  by_cases e : j = i
  · subst e; exact h2
  · exact h1 j hj (by omega)
theorem oxTo_succ {s : Scope} {i : Nat} (h : i < s.objects.length) (h1 : oxTo s i) (h2 : oxAt s i h) : oxTo s (i + 1) := by
  intro j hj hji
  by_cases e : j = i
  · subst e; exact h2
  · exact h1 j hj (by omega)
theorem unl_cons {a : ByteArray} {l : List Str} : unl (⟨a⟩ :: l) = true ↔ nameOk a = true ∧ ∀ i (h : i < l.length), nameOk l[i].s = true ∧ (l[i].s.toList == a.toList) = false ∧ (l.take i).any (eqSt l[i].s) = false := by
  rw [unl_iff]
  constructor
  · intro h
    refine ⟨(h 0 (by simp) (by simp)).1, fun i hi => ?_⟩
    have := h (i + 1) (by simp; omega) (by simp; omega)
    simp only [unlAt, List.getElem_cons_succ, List.take_succ_cons, List.any_cons, Bool.or_eq_false_iff, eqSt] at this
    exact ⟨this.1, this.2.1, this.2.2⟩
  · rintro ⟨h0, h⟩ i hi _
    cases i with
    | zero => exact ⟨h0, by simp⟩
    | succ i =>
      have := h i (by simp at hi; omega)
      simp only [unlAt, List.getElem_cons_succ, List.take_succ_cons, List.any_cons, Bool.or_eq_false_iff, eqSt]
      exact ⟨this.1, this.2.1, this.2.2⟩
theorem unl_app {l m : List Str} : unl (l ++ m) = true ↔ unl l = true ∧ ∀ i (h : i < m.length), nameOk m[i].s = true ∧ l.any (eqSt m[i].s) = false ∧ (m.take i).any (eqSt m[i].s) = false := by
  rw [unl_iff, unl_iff]
  constructor
  · intro h
    refine ⟨fun i hi _ => ?_, fun i hi => ?_⟩
    · have := h i (by simp; omega) (by simp; omega)
      simp only [unlAt] at this ⊢
      rw [List.getElem_append_left hi, List.take_append_of_le_length (by omega)] at this
      exact this
    · have := h (l.length + i) (by simp; omega) (by simp; omega)
      simp only [unlAt] at this
      rw [List.getElem_append_right (by omega)] at this
      simp only [Nat.add_sub_cancel_left, List.take_length_add_append, List.any_append, Bool.or_eq_false_iff] at this
      exact ⟨this.1, this.2.1, this.2.2⟩
  · rintro ⟨h0, h⟩ i hi _
    by_cases hl : i < l.length
    · have := h0 i hl hl
      simp only [unlAt] at this ⊢
      rw [List.getElem_append_left hl, List.take_append_of_le_length (by omega)]
      exact this
    · obtain ⟨j, rfl⟩ : ∃ j, i = l.length + j := ⟨i - l.length, by omega⟩
      have := h j (by simp at hi; omega)
      simp only [unlAt]
      rw [List.getElem_append_right (by omega)]
      simp only [Nat.add_sub_cancel_left, List.take_length_add_append, List.any_append, Bool.or_eq_false_iff]
      exact ⟨this.1, this.2.1, this.2.2⟩
theorem ScP_iff {s : Scope} : ScP s ↔ ((((nameOk s.name = true ∧ tabOk s.types = true) ∧ s.imports.length ≤ 4) ∧ s.objects.length ≤ 16) ∧ s.uses.length ≤ 40) ∧ imTo s s.imports.length ∧ oxTo s s.objects.length ∧ usTo s s.uses.length := by
  constructor
  · intro h
    have h1 := unl_cons.1 h.unl1
    have h2 := unl_app.1 h.unl2
    refine ⟨⟨⟨⟨⟨h1.1, h.tab⟩, h.few1⟩, h.few2⟩, h.few3⟩, fun i hi _ => h1.2 i hi, fun i hi hii => ?_, h.uses⟩
    have := h2.2 i (by simpa using hi)
    rw [List.getElem_map, ← List.map_take, List.any_map] at this
    exact ⟨⟨this.1, h.obs i hi hi⟩, this.2.1, this.2.2⟩
  · rintro ⟨⟨⟨⟨⟨h1, h2⟩, h3⟩, h4⟩, h5⟩, h6, h7, h8⟩
    have u1 : unl (⟨s.name⟩ :: s.imports) = true := unl_cons.2 ⟨h1, fun i hi => h6 i hi hi⟩
    refine ⟨h3, u1, h2, h4, h5, fun i hi hii => (h7 i hi hii).1.2, h8, ?_⟩
    refine unl_app.2 ⟨?_, fun i hi => ?_⟩
    · rw [unl_iff]
      intro i hi _
      have := h6 i hi hi
      exact ⟨this.1, this.2.2⟩
    · have hi' : i < s.objects.length := by simpa using hi
      have := h7 i hi' hi'
      rw [List.getElem_map, ← List.map_take, List.any_map]
      exact ⟨this.1.1, this.2.1, this.2.2⟩
theorem findI_lt {s : Scope} {i : Nat} (h : i < s.objects.length) : decide (findI (obNm s.objects[i].name) s.objects < (i : Int)) = (s.objects.take i).any (fun o => eqSt s.objects[i].name (nmS o)) := by
  have hc : ∀ o : Ob, eqSt s.objects[i].name (nmS o) = obNm s.objects[i].name o := fun o => Bool.beq_comm
  have hr : obNm s.objects[i].name s.objects[i] = true := by simp [obNm]
  simp only [hc]
  unfold findI
  cases hf : s.objects.findIdx? (obNm s.objects[i].name) with
  | none =>
    rw [List.findIdx?_eq_none_iff] at hf
    have := hf _ (List.getElem_mem h)
    rw [hr] at this; cases this
  | some k =>
    rw [List.findIdx?_eq_some_iff_getElem] at hf
    obtain ⟨hk, h1, h2⟩ := hf
    by_cases hki : k < i
    · have e1 : decide ((k : Int) < (i : Int)) = true := by simp; exact hki
      have e2 : (s.objects.take i).any (obNm s.objects[i].name) = true := List.any_eq_true.2 ⟨s.objects[k], List.mem_iff_getElem.2 ⟨k, by simp; omega, by simp⟩, h1⟩
      rw [e2]; exact e1
    · have e1 : decide ((k : Int) < (i : Int)) = false := by simp; omega
      have e2 : (s.objects.take i).any (obNm s.objects[i].name) = false := by
        rw [List.any_eq_false]
        intro x hx
        obtain ⟨j, hj, rfl⟩ := List.mem_iff_getElem.1 hx
        simp only [List.length_take] at hj
        simp only [List.getElem_take]
        exact h2 j (by omega)
      rw [e2]; exact e1
end Go.AM
namespace Go.AM
set_option linter.unusedVariables false
set_option linter.unusedSimpArgs false
def m76 : MC :=
 (.seq (.reg [Xb 1 (.box 49 (.t 0)), Xb 2 (.asg .fb)]) (.seq (.seq (.reg [Xf 11 1 1, Xl 12 1 11, Xn 13 12, Xq 14 (.mov (.i 0))]) (.block 0 (.loop [1, 11, 12, 13, 14] (.seq (.reg [Xq 15 (.bin false .lss (.t 14) (.t 13))]) (.seq (.cond (.t 15) .skip (.exit 0)) (.seq (.block 1 (.seq (.reg [Xm 16 14, Xi 17 1 12 14, Xl 18 1 17, Xa 3 16, Xa 4 18]) (.seq (.reg [Xm 19 4, Xb 20 (.call (.fn 123) false [.lend
 (.t 19)]), Xq 21 (.un .not (.t 20)), Xm 22 21, Xu 23 22 (.mov (.t 4)), Xu 24 22 (.fad 0 (.t 1)), Xu 25 22 (.load false 1 (.t 24)), Xu 26 22 (.bin false .eql (.t 23) (.t 25)), Xq 27 (.pick (.t 22) .tb (.t 26)), Xm 28 27, Xu 29 28 (.fad 1 (.t 1)), Xu 30 28 (.load false 1 (.t 29)), Xu 31 28 (.mov (.t 3)), Xu 32 28 (.slc false 1 (.t 30) none (some (.t 31))), Xu 33 28 (.mov (.t 4)), XU 34 28 (.call
 (.fn 139) false [.lend (.t 32), .lend (.t 33)]), Xq 35 (.pick (.t 28) .tb (.t 34))]) (.cond (.t 35) (.seq (.reg [Xb 2 (.asg .fb)]) .ret) .skip)))) (.reg [Xq 36 (.bin false .add (.t 14) (.i 1)), Xm 14 36]))))))) (.seq (.seq (.reg [Xf 37 3 1, Xl 38 1 37, Xn 39 38, Xq 40 (.mov (.i 0))]) (.block 2 (.loop [1, 37, 38, 39, 40] (.seq (.reg [Xq 41 (.bin false .lss (.t 40) (.t 39))]) (.seq (.cond (.t 41)
 .skip (.exit 2)) (.seq (.block 3 (.seq (.reg [Xm 42 40, Xi 43 6 38 40, XL 44 6 43, Xb 6 (.alloc 69 [.z, .i, .i, .i, .i, .s 182 3]), Xa 5 42, Xz (.store 6 (.t 6) (.t 44))]) (.seq (.reg [Xf 45 2 1, Xl 46 1 45, XL 47 6 6, Xb 48 (.call (.fn 140) false [.lend (.t 46), .lend (.t 47)]), Xq 49 (.un .not (.t 48)), Xm 50 49, Xu 51 50 (.fad 1 (.t 1)), Xu 52 50 (.load false 1 (.t 51)), Xu 53 50 (.fad 0 (.t
 6)), Xu 54 50 (.load false 1 (.t 53)), XU 55 50 (.call (.fn 139) false [.lend (.t 52), .lend (.t 54)]), Xq 56 (.pick (.t 50) .tb (.t 55)), Xm 57 56, Xu 58 57 (.load true 5 (.t 1)), Xu 59 57 (.fad 0 (.t 6)), Xu 60 57 (.load false 1 (.t 59)), XU 61 57 (.call (.fn 141) false [.lend (.t 58), .lend (.t 60)]), Xu 62 57 (.mov (.t 5)), Xu 63 57 (.bin false .lss (.t 61) (.t 62)), Xq 64 (.pick (.t 57) .tb
 (.t 63))]) (.cond (.t 64) (.seq (.reg [Xb 2 (.asg .fb)]) .ret) .skip)))) (.reg [Xq 65 (.bin false .add (.t 40) (.i 1)), Xm 40 65]))))))) (.seq (.seq (.reg [Xf 66 4 1, Xl 67 1 66, Xn 68 67, Xq 69 (.mov (.i 0))]) (.block 4 (.loop [1, 66, 67, 68, 69] (.seq (.reg [Xq 70 (.bin false .lss (.t 69) (.t 68))]) (.seq (.cond (.t 70) .skip (.exit 4)) (.seq (.block 5 (.seq (.reg [Xm 71 69, Xi 72 2 67 69, XL 73
 2 72, Xb 8 (.alloc 132 [.z, .z]), Xa 7 71, Xz (.store 2 (.t 8) (.t 73))]) (.seq (.seq (.reg [Xf 74 1 1, Xl 75 1 74, Xf 76 0 8, Xl 77 1 76, Xb 78 (.call (.fn 139) false [.lend (.t 75), .lend (.t 77)]), Xq 79 (.un .not (.t 78)), Xm 80 79, Xu 81 80 (.fad 1 (.t 8)), Xu 82 80 (.load false 1 (.t 81)), XU 83 80 (.call (.fn 123) false [.lend (.t 82)]), Xu 84 80 (.un .not (.t 83)), Xq 85 (.pick (.t 80) .tb
 (.t 84))]) (.cond (.t 85) (.seq (.reg [Xb 2 (.asg .fb)]) .ret) .skip)) (.seq (.reg [Xf 86 4 1, Xl 87 1 86, Xm 88 7, Xq 89 (.slc false 2 (.t 87) none (some (.t 88))), Xn 90 89, Xq 91 (.mov (.i 0))]) (.block 6 (.loop [1, 8, 66, 67, 68, 69, 86, 87, 88, 89, 90, 91] (.seq (.reg [Xq 92 (.bin false .lss (.t 91) (.t 90))]) (.seq (.cond (.t 92) .skip (.exit 6)) (.seq (.block 7 (.seq (.reg [Xi 93 2 89 91,
 XL 94 2 93, Xb 10 (.alloc 132 [.z, .z]), Xz (.store 2 (.t 10) (.t 94))]) (.seq (.reg [XL 95 2 8, XL 96 2 10, Xq 97 (.eqa false [1, 1] (.t 95) (.t 96))]) (.cond (.t 97) (.seq (.reg [Xb 2 (.asg .fb)]) .ret) .skip)))) (.reg [Xq 98 (.bin false .add (.t 91) (.i 1)), Xm 91 98])))))))))) (.reg [Xq 99 (.bin false .add (.t 69) (.i 1)), Xm 69 99]))))))) (.seq (.reg [Xf 100 0 1, Xl 101 1 100, Xb 102 (.call
 (.fn 123) false [.lend (.t 101)]), Xm 103 102, Xt 104 103 (.fad 2 (.t 1)), Xt 105 103 (.load false 1 (.t 104)), XT 106 103 (.call (.fn 142) false [.lend (.t 105)]), Xq 107 (.pick (.t 103) (.t 106) .fb), Xm 108 107, Xt 109 108 (.fad 1 (.t 1)), Xt 110 108 (.load false 1 (.t 109)), Xt 111 108 (.len false (.t 110)), Xt 112 108 (.bin false .leq (.t 111) (.i 4)), Xq 113 (.pick (.t 108) (.t 112) .fb), Xm
 114 113, Xt 115 114 (.fad 3 (.t 1)), Xt 116 114 (.load false 1 (.t 115)), Xt 117 114 (.len false (.t 116)), Xt 118 114 (.bin false .leq (.t 117) (.i 16)), Xq 119 (.pick (.t 114) (.t 118) .fb), Xm 120 119, Xt 121 120 (.fad 4 (.t 1)), Xt 122 120 (.load false 1 (.t 121)), Xt 123 120 (.len false (.t 122)), Xt 124 120 (.bin false .leq (.t 123) (.i 40)), Xq 125 (.pick (.t 120) (.t 124) .fb), Xa 2 125])
 .ret)))))
set_option maxHeartbeats 4000000 in
set_option maxRecDepth 100000 in
theorem d76 (s : Scope) (hs : s.sm) : Does Go.Proofs.Tryz.prog 76 [.agg s.z] false (.v (.bool (scOk s))) [.dead] := by
  have hs' := hs
  unfold Scope.sm at hs'
  obtain ⟨z1, z2, z3, z4, z5⟩ := hs'
  refine does_intro (mc := m76) (N := 126) (rs := [2]) (fx := []) 1 rfl (by decide +kernel) ?_
  simp only [m76, Scope.z, EV, Nat.reduceEqDiff, Nat.reduceBEq, Nat.reduceLT, Nat.reduceLeDiff, Nat.reduceAdd, Nat.reduceSub, reduceIte]
  refine awp_loop (fun i : Nat => i ≤ s.imports.length ∧ imTo s i) (fun i => stl [(1, .box 49 s.z), (11, .ref 1 [] 0 1), (12, .fsl 1 (s.imports.map Str.z)), (13, .v (.int .i64 (s.imports.length : Int))), (14, .v (.int .i64 (i : Int)))]) (fun i => s.imports.length - i) 0 ⟨Nat.zero_le _, fun j hj h => absurd h (by omega)⟩ ?_ ?_
  · simp only [Scope.z, EV, Nat.reduceEqDiff, Nat.reduceBEq, Nat.reduceLT, Nat.reduceLeDiff, Nat.reduceAdd, Nat.reduceSub, reduceIte]
    rfl
  rintro i ⟨hi, hok⟩
  simp only [Scope.z, EV, Nat.reduceEqDiff, Nat.reduceBEq, Nat.reduceLT, Nat.reduceLeDiff, Nat.reduceAdd, Nat.reduceSub, reduceIte]
  refine cK_cut (fun h => ?_) (fun h => ?_)
  · have h1 : i < s.imports.length := by simpa using h
    have h2 : (i : Int) < (s.imports.length : Int) := by omega
    have hno : ¬ imAt s i h1 → scOk s = false := fun e => scOk_no fun P => e ((ScP_iff.1 P).2.1 i h1 h1)
    have hsz := z2.2 _ (List.getElem_mem h1)
    unfold Str.sm at hsz
    clear h
    simp only [nth_map h1, h2, Str.z, Scope.z, EV, Nat.reduceEqDiff, Nat.reduceBEq, Nat.reduceLT, Nat.reduceLeDiff, Nat.reduceAdd, Nat.reduceSub, reduceIte]
    refine callK_i (d123 s.imports[i].s (by omega)) ?_
    simp only [EV, Nat.reduceEqDiff, Nat.reduceBEq, Nat.reduceLT, Nat.reduceLeDiff, Nat.reduceAdd, Nat.reduceSub, reduceIte]
    rcases e1 : nameOk s.imports[i].s with _ | _
    · have e : scOk s = false := hno (by rintro ⟨g, _⟩; rw [e1] at g; cases g)
      simp only [Bool.not_false, EV, Nat.reduceEqDiff, Nat.reduceBEq, Nat.reduceLT, Nat.reduceLeDiff, Nat.reduceAdd, Nat.reduceSub, reduceIte]
      simp only [e, EV, Nat.reduceEqDiff, Nat.reduceBEq, Nat.reduceLT, Nat.reduceLeDiff, Nat.reduceAdd, Nat.reduceSub, reduceIte, evRE, retVC, cellV', evR, nfz, nfzs, nfzss, List.contains_nil, List.contains_cons, Bool.or_false, or_true]
    simp only [Bool.not_true, Scope.z, EV, Nat.reduceEqDiff, Nat.reduceBEq, Nat.reduceLT, Nat.reduceLeDiff, Nat.reduceAdd, Nat.reduceSub, reduceIte]
    rcases e2 : (s.imports[i].s.toList == s.name.toList) with _ | _
    rotate_left
    · have e : scOk s = false := hno (by rintro ⟨_, g, _⟩; rw [e2] at g; cases g)
      simp only [EV, Nat.reduceEqDiff, Nat.reduceBEq, Nat.reduceLT, Nat.reduceLeDiff, Nat.reduceAdd, Nat.reduceSub, reduceIte]
      simp only [e, EV, Nat.reduceEqDiff, Nat.reduceBEq, Nat.reduceLT, Nat.reduceLeDiff, Nat.reduceAdd, Nat.reduceSub, reduceIte, evRE, retVC, cellV', evR, nfz, nfzs, nfzss, List.contains_nil, List.contains_cons, Bool.or_false, or_true]
    simp only [Scope.z, EV, Nat.reduceEqDiff, Nat.reduceBEq, Nat.reduceLT, Nat.reduceLeDiff, Nat.reduceAdd, Nat.reduceSub, reduceIte]
    refine ⟨by omega, by omega, ?_⟩
    rw [← List.map_take]
    refine callK_i (d139 (s.imports.take i) s.imports[i].s (by simp; omega)) ?_
    simp only [EV, Nat.reduceEqDiff, Nat.reduceBEq, Nat.reduceLT, Nat.reduceLeDiff, Nat.reduceAdd, Nat.reduceSub, reduceIte]
    rcases e3 : (s.imports.take i).any (eqSt s.imports[i].s) with _ | _
    · simp only [Scope.z, EV, Nat.reduceEqDiff, Nat.reduceBEq, Nat.reduceLT, Nat.reduceLeDiff, Nat.reduceAdd, Nat.reduceSub, reduceIte]
      rw [w64 _ (by omega)]
      exact ⟨i + 1, ⟨h1, imTo_succ h1 hok ⟨e1, e2, e3⟩⟩, by omega, rfl⟩
    · have e : scOk s = false := hno (by rintro ⟨_, _, g⟩; rw [e3] at g; cases g)
      simp only [EV, Nat.reduceEqDiff, Nat.reduceBEq, Nat.reduceLT, Nat.reduceLeDiff, Nat.reduceAdd, Nat.reduceSub, reduceIte]
      simp only [e, EV, Nat.reduceEqDiff, Nat.reduceBEq, Nat.reduceLT, Nat.reduceLeDiff, Nat.reduceAdd, Nat.reduceSub, reduceIte, evRE, retVC, cellV', evR, nfz, nfzs, nfzss, List.contains_nil, List.contains_cons, Bool.or_false, or_true]
  have q1 : i = s.imports.length := by have : ¬ (i : Int) < s.imports.length := by simpa using h
                                       omega
  subst q1
  clear h hi
  have hI := hok
  clear hok
  simp only [Scope.z, EV, Nat.reduceEqDiff, Nat.reduceBEq, Nat.reduceLT, Nat.reduceLeDiff, Nat.reduceAdd, Nat.reduceSub, reduceIte]
  refine awp_loop (fun i : Nat => i ≤ s.objects.length ∧ oxTo s i) (fun i => stl [(1, .box 49 s.z), (37, .ref 1 [] 0 3), (38, .fsl 6 (s.objects.map Ob.z)), (39, .v (.int .i64 (s.objects.length : Int))), (40, .v (.int .i64 (i : Int)))]) (fun i => s.objects.length - i) 0 ⟨Nat.zero_le _, fun j hj h => absurd h (by omega)⟩ ?_ ?_
  · simp only [Scope.z, EV, Nat.reduceEqDiff, Nat.reduceBEq, Nat.reduceLT, Nat.reduceLeDiff, Nat.reduceAdd, Nat.reduceSub, reduceIte]
    rfl
  rintro i ⟨hi, hok⟩
  simp only [Scope.z, EV, Nat.reduceEqDiff, Nat.reduceBEq, Nat.reduceLT, Nat.reduceLeDiff, Nat.reduceAdd, Nat.reduceSub, reduceIte]
  refine cK_cut (fun h => ?_) (fun h => ?_)
  · have h1 : i < s.objects.length := by simpa using h
    have h2 : (i : Int) < (s.objects.length : Int) := by omega
    have hno : ¬ oxAt s i h1 → scOk s = false := fun e => scOk_no fun P => e ((ScP_iff.1 P).2.2.1 i h1 h1)
    have hsm := z4.2 _ (List.getElem_mem h1)
    have d150' := d140 s.types s.objects[i] z3.1 hsm
    have d151' := d141 s s.objects[i].name (by omega)
    have hf := findI_lt h1
    generalize findI (obNm s.objects[i].name) s.objects = K at d151' hf
    simp only [Ob.z] at d150'
    simp only [Scope.z] at d151'
    clear h
    simp only [ObE, nth_map h1, h2, Ob.z, Scope.z, EV, Nat.reduceEqDiff, Nat.reduceBEq, Nat.reduceLT, Nat.reduceLeDiff, Nat.reduceAdd, Nat.reduceSub, reduceIte]
    refine callK_i d150' ?_
    simp only [EV, Nat.reduceEqDiff, Nat.reduceBEq, Nat.reduceLT, Nat.reduceLeDiff, Nat.reduceAdd, Nat.reduceSub, reduceIte]
    rcases e1 : (nameOk s.objects[i].name && obOk s.types s.objects[i]) with _ | _
    · have e : scOk s = false := hno (by rintro ⟨⟨g1, g2⟩, _⟩; rw [g1, g2] at e1; cases e1)
      simp only [Bool.not_false, EV, Nat.reduceEqDiff, Nat.reduceBEq, Nat.reduceLT, Nat.reduceLeDiff, Nat.reduceAdd, Nat.reduceSub, reduceIte]
      simp only [e, EV, Nat.reduceEqDiff, Nat.reduceBEq, Nat.reduceLT, Nat.reduceLeDiff, Nat.reduceAdd, Nat.reduceSub, reduceIte, evRE, retVC, cellV', evR, nfz, nfzs, nfzss, List.contains_nil, List.contains_cons, Bool.or_false, or_true]
    simp only [Bool.not_true, Ob.z, Scope.z, EV, Nat.reduceEqDiff, Nat.reduceBEq, Nat.reduceLT, Nat.reduceLeDiff, Nat.reduceAdd, Nat.reduceSub, reduceIte]
    refine callK_i (d139 s.imports s.objects[i].name (by omega)) ?_
    simp only [EV, Nat.reduceEqDiff, Nat.reduceBEq, Nat.reduceLT, Nat.reduceLeDiff, Nat.reduceAdd, Nat.reduceSub, reduceIte]
    rcases e2 : s.imports.any (eqSt s.objects[i].name) with _ | _
    rotate_left
    · have e : scOk s = false := hno (by rintro ⟨_, g, _⟩; rw [e2] at g; cases g)
      simp only [EV, Nat.reduceEqDiff, Nat.reduceBEq, Nat.reduceLT, Nat.reduceLeDiff, Nat.reduceAdd, Nat.reduceSub, reduceIte]
      simp only [e, EV, Nat.reduceEqDiff, Nat.reduceBEq, Nat.reduceLT, Nat.reduceLeDiff, Nat.reduceAdd, Nat.reduceSub, reduceIte, evRE, retVC, cellV', evR, nfz, nfzs, nfzss, List.contains_nil, List.contains_cons, Bool.or_false, or_true]
    simp only [Ob.z, Scope.z, EV, Nat.reduceEqDiff, Nat.reduceBEq, Nat.reduceLT, Nat.reduceLeDiff, Nat.reduceAdd, Nat.reduceSub, reduceIte]
    refine callK_i d151' ?_
    simp only [EV, Nat.reduceEqDiff, Nat.reduceBEq, Nat.reduceLT, Nat.reduceLeDiff, Nat.reduceAdd, Nat.reduceSub, reduceIte]
    rw [hf]
    rcases e3 : (s.objects.take i).any (fun o => eqSt s.objects[i].name (nmS o)) with _ | _
    · simp only [Scope.z, EV, Nat.reduceEqDiff, Nat.reduceBEq, Nat.reduceLT, Nat.reduceLeDiff, Nat.reduceAdd, Nat.reduceSub, reduceIte]
      rw [w64 _ (by omega)]
      simp only [Bool.and_eq_true] at e1
      exact ⟨i + 1, ⟨h1, oxTo_succ h1 hok ⟨e1, e2, e3⟩⟩, by omega, rfl⟩
    · have e : scOk s = false := hno (by rintro ⟨_, _, g⟩; rw [e3] at g; cases g)
      simp only [EV, Nat.reduceEqDiff, Nat.reduceBEq, Nat.reduceLT, Nat.reduceLeDiff, Nat.reduceAdd, Nat.reduceSub, reduceIte]
      simp only [e, EV, Nat.reduceEqDiff, Nat.reduceBEq, Nat.reduceLT, Nat.reduceLeDiff, Nat.reduceAdd, Nat.reduceSub, reduceIte, evRE, retVC, cellV', evR, nfz, nfzs, nfzss, List.contains_nil, List.contains_cons, Bool.or_false, or_true]
  have q1 : i = s.objects.length := by have : ¬ (i : Int) < s.objects.length := by simpa using h
                                       omega
  subst q1
  clear h hi
  have hO := hok
  clear hok
  simp only [Scope.z, EV, Nat.reduceEqDiff, Nat.reduceBEq, Nat.reduceLT, Nat.reduceLeDiff, Nat.reduceAdd, Nat.reduceSub, reduceIte]
  refine awp_loop (fun i : Nat => i ≤ s.uses.length ∧ usTo s i) (fun i => stl [(1, .box 49 s.z), (66, .ref 1 [] 0 4), (67, .fsl 2 (s.uses.map Us.z)), (68, .v (.int .i64 (s.uses.length : Int))), (69, .v (.int .i64 (i : Int)))]) (fun i => s.uses.length - i) 0 ⟨Nat.zero_le _, fun j hj h => absurd h (by omega)⟩ ?_ ?_
  · simp only [Scope.z, EV, Nat.reduceEqDiff, Nat.reduceBEq, Nat.reduceLT, Nat.reduceLeDiff, Nat.reduceAdd, Nat.reduceSub, reduceIte]
    rfl
  rintro i ⟨hi, hok⟩
  simp only [Scope.z, EV, Nat.reduceEqDiff, Nat.reduceBEq, Nat.reduceLT, Nat.reduceLeDiff, Nat.reduceAdd, Nat.reduceSub, reduceIte]
  refine cK_cut (fun h => ?_) (fun h => ?_)
  · have h1 : i < s.uses.length := by simpa using h
    have h2 : (i : Int) < (s.uses.length : Int) := by omega
    have hno : ¬ usAt s i h1 → scOk s = false := fun e => scOk_no fun P => e ((ScP_iff.1 P).2.2.2 i h1 h1)
    have hsm := z5.2 _ (List.getElem_mem h1)
    unfold Us.sm at hsm
    clear h
    simp only [UsE, nth_map h1, h2, Us.z, Scope.z, EV, Nat.reduceEqDiff, Nat.reduceBEq, Nat.reduceLT, Nat.reduceLeDiff, Nat.reduceAdd, Nat.reduceSub, reduceIte]
    refine callK_i (d139 s.imports s.uses[i].mod (by omega)) ?_
    simp only [EV, Nat.reduceEqDiff, Nat.reduceBEq, Nat.reduceLT, Nat.reduceLeDiff, Nat.reduceAdd, Nat.reduceSub, reduceIte]
    rcases e1 : s.imports.any (eqSt s.uses[i].mod) with _ | _
    · have e : scOk s = false := hno (by rintro ⟨g, _⟩; rw [e1] at g; cases g)
      simp only [Bool.not_false, EV, Nat.reduceEqDiff, Nat.reduceBEq, Nat.reduceLT, Nat.reduceLeDiff, Nat.reduceAdd, Nat.reduceSub, reduceIte]
      simp only [e, EV, Nat.reduceEqDiff, Nat.reduceBEq, Nat.reduceLT, Nat.reduceLeDiff, Nat.reduceAdd, Nat.reduceSub, reduceIte, evRE, retVC, cellV', evR, nfz, nfzs, nfzss, List.contains_nil, List.contains_cons, Bool.or_false, or_true]
    simp only [Bool.not_true, Us.z, Scope.z, EV, Nat.reduceEqDiff, Nat.reduceBEq, Nat.reduceLT, Nat.reduceLeDiff, Nat.reduceAdd, Nat.reduceSub, reduceIte]
    refine callK_i (d123 s.uses[i].name (by omega)) ?_
    simp only [EV, Nat.reduceEqDiff, Nat.reduceBEq, Nat.reduceLT, Nat.reduceLeDiff, Nat.reduceAdd, Nat.reduceSub, reduceIte]
    rcases e2 : nameOk s.uses[i].name with _ | _
    · have e : scOk s = false := hno (by rintro ⟨_, g, _⟩; rw [e2] at g; cases g)
      simp only [Bool.not_false, EV, Nat.reduceEqDiff, Nat.reduceBEq, Nat.reduceLT, Nat.reduceLeDiff, Nat.reduceAdd, Nat.reduceSub, reduceIte]
      simp only [e, EV, Nat.reduceEqDiff, Nat.reduceBEq, Nat.reduceLT, Nat.reduceLeDiff, Nat.reduceAdd, Nat.reduceSub, reduceIte, evRE, retVC, cellV', evR, nfz, nfzs, nfzss, List.contains_nil, List.contains_cons, Bool.or_false, or_true]
    simp only [Bool.not_true, Us.z, Scope.z, EV, Nat.reduceEqDiff, Nat.reduceBEq, Nat.reduceLT, Nat.reduceLeDiff, Nat.reduceAdd, Nat.reduceSub, reduceIte]
    refine ⟨by omega, by omega, ?_⟩
    rw [← List.map_take]
    have hlt : (s.uses.take i).length = i := by simp; omega
    simp only [hlt, EV, Nat.reduceEqDiff, Nat.reduceBEq, Nat.reduceLT, Nat.reduceLeDiff, Nat.reduceAdd, Nat.reduceSub, reduceIte]
    refine awp_loop (fun j : Nat => j ≤ i ∧ ((s.uses.take i).take j).any (qUs s.uses[i]) = false) (fun j => stl [(1, .box 49 s.z), (8, .box 132 s.uses[i].z), (66, .ref 1 [] 0 4), (67, .fsl 2 (s.uses.map Us.z)), (68, .v (.int .i64 (s.uses.length : Int))), (69, .v (.int .i64 (i : Int))), (86, .ref 1 [] 0 4), (87, .fsl 2 (s.uses.map Us.z)), (88, .v (.int .i64 (i : Int))), (89, .fsl 2 ((s.uses.take i).map Us.z)), (90, .v (.int .i64 (i : Int))), (91, .v (.int .i64 (j : Int)))]) (fun j => i - j) 0 ⟨Nat.zero_le _, by simp⟩ ?_ ?_
    · simp only [Us.z, Scope.z, EV, Nat.reduceEqDiff, Nat.reduceBEq, Nat.reduceLT, Nat.reduceLeDiff, Nat.reduceAdd, Nat.reduceSub, reduceIte]
      rfl
    rintro j ⟨hj, hnj⟩
    simp only [Us.z, Scope.z, EV, Nat.reduceEqDiff, Nat.reduceBEq, Nat.reduceLT, Nat.reduceLeDiff, Nat.reduceAdd, Nat.reduceSub, reduceIte]
    refine cK_cut (fun h => ?_) (fun h => ?_)
    · have j1 : j < i := by simpa using h
      have j2 : (j : Int) < (i : Int) := by omega
      have j3 : j < (s.uses.take i).length := by omega
      have j4 : (j : Int) < ((s.uses.take i).length : Int) := by omega
      clear h
      simp only [UsE, j1, j2, j3, j4, nth_map j3, hlt, Us.z, Bool.false_xor, EV, Nat.reduceEqDiff, Nat.reduceBEq, Nat.reduceLT, Nat.reduceLeDiff, Nat.reduceAdd, Nat.reduceSub, reduceIte]
      have eq0 : (s.uses[i].mod.toList == (s.uses.take i)[j].mod.toList && s.uses[i].name.toList == (s.uses.take i)[j].name.toList) = qUs s.uses[i] (s.uses.take i)[j] := rfl
      rw [eq0]
      rcases e3 : qUs s.uses[i] (s.uses.take i)[j] with _ | _
      · simp only [Us.z, Scope.z, EV, Nat.reduceEqDiff, Nat.reduceBEq, Nat.reduceLT, Nat.reduceLeDiff, Nat.reduceAdd, Nat.reduceSub, reduceIte]
        rw [w64 _ (by omega)]
        exact ⟨j + 1, ⟨j1, by rw [List.take_succ_eq_append_getElem j3, List.any_append, hnj]; simpa using e3⟩, by omega, rfl⟩
      · have e4 : (s.uses.take i).any (qUs s.uses[i]) = true := List.any_eq_true.2 ⟨_, List.getElem_mem j3, e3⟩
        have e : scOk s = false := hno (by rintro ⟨_, _, g⟩; rw [e4] at g; cases g)
        simp only [EV, Nat.reduceEqDiff, Nat.reduceBEq, Nat.reduceLT, Nat.reduceLeDiff, Nat.reduceAdd, Nat.reduceSub, reduceIte]
        simp only [e, EV, Nat.reduceEqDiff, Nat.reduceBEq, Nat.reduceLT, Nat.reduceLeDiff, Nat.reduceAdd, Nat.reduceSub, reduceIte, evRE, retVC, cellV', evR, nfz, nfzs, nfzss, List.contains_nil, List.contains_cons, Bool.or_false, or_true]
    · have j1 : j = i := by have : ¬ (j : Int) < (i : Int) := by simpa using h
                            omega
      subst j1
      have e4 : (s.uses.take j).any (qUs s.uses[j]) = false := by rw [List.take_of_length_le (by omega)] at hnj; exact hnj
      simp only [Us.z, Scope.z, EV, Nat.reduceEqDiff, Nat.reduceBEq, Nat.reduceLT, Nat.reduceLeDiff, Nat.reduceAdd, Nat.reduceSub, reduceIte]
      rw [w64 _ (by omega)]
      exact ⟨j + 1, ⟨h1, usTo_succ h1 hok ⟨e1, e2, e4⟩⟩, by omega, rfl⟩
  have q1 : i = s.uses.length := by have : ¬ (i : Int) < s.uses.length := by simpa using h
                                    omega
  subst q1
  clear h hi
  have hU := hok
  clear hok
  have hfin : scOk s = ((((nameOk s.name && tabOk s.types) && decide ((s.imports.length : Int) ≤ 4)) && decide ((s.objects.length : Int) ≤ 16)) && decide ((s.uses.length : Int) ≤ 40)) := by
    rw [Bool.eq_iff_iff, scOk_iff, ScP_iff]
    simp only [Bool.and_eq_true, decide_eq_true_eq, hI, hO, hU, and_true]
    constructor <;> (rintro ⟨⟨⟨⟨a1, a2⟩, a3⟩, a4⟩, a5⟩; exact ⟨⟨⟨⟨a1, a2⟩, by omega⟩, by omega⟩, by omega⟩)
  simp only [Scope.z, EV, Nat.reduceEqDiff, Nat.reduceBEq, Nat.reduceLT, Nat.reduceLeDiff, Nat.reduceAdd, Nat.reduceSub, reduceIte]
  refine callK_i (d123 s.name (by omega)) ?_
  simp only [EV, Nat.reduceEqDiff, Nat.reduceBEq, Nat.reduceLT, Nat.reduceLeDiff, Nat.reduceAdd, Nat.reduceSub, reduceIte]
  rcases e1 : nameOk s.name with _ | _
  · simp only [Scope.z, EV, Nat.reduceEqDiff, Nat.reduceBEq, Nat.reduceLT, Nat.reduceLeDiff, Nat.reduceAdd, Nat.reduceSub, reduceIte]
    simp only [hfin, e1, Bool.false_and, EV, Nat.reduceEqDiff, Nat.reduceBEq, Nat.reduceLT, Nat.reduceLeDiff, Nat.reduceAdd, Nat.reduceSub, reduceIte, evRE, retVC, cellV', evR, nfz, nfzs, nfzss, List.contains_nil, List.contains_cons, Bool.or_false, or_true]
  simp only [Scope.z, EV, Nat.reduceEqDiff, Nat.reduceBEq, Nat.reduceLT, Nat.reduceLeDiff, Nat.reduceAdd, Nat.reduceSub, reduceIte]
  refine callK_i (d142 s.types z3.1 z3.2) ?_
  simp only [EV, Nat.reduceEqDiff, Nat.reduceBEq, Nat.reduceLT, Nat.reduceLeDiff, Nat.reduceAdd, Nat.reduceSub, reduceIte]
  rcases e2 : tabOk s.types with _ | _
  · simp only [Scope.z, EV, Nat.reduceEqDiff, Nat.reduceBEq, Nat.reduceLT, Nat.reduceLeDiff, Nat.reduceAdd, Nat.reduceSub, reduceIte]
    simp only [hfin, e1, e2, Bool.false_and, Bool.and_false, EV, Nat.reduceEqDiff, Nat.reduceBEq, Nat.reduceLT, Nat.reduceLeDiff, Nat.reduceAdd, Nat.reduceSub, reduceIte, evRE, retVC, cellV', evR, nfz, nfzs, nfzss, List.contains_nil, List.contains_cons, Bool.or_false, or_true]
  simp only [Scope.z, EV, Nat.reduceEqDiff, Nat.reduceBEq, Nat.reduceLT, Nat.reduceLeDiff, Nat.reduceAdd, Nat.reduceSub, reduceIte]
  rcases e3 : decide ((s.imports.length : Int) ≤ 4) with _ | _
  · simp only [Scope.z, EV, Nat.reduceEqDiff, Nat.reduceBEq, Nat.reduceLT, Nat.reduceLeDiff, Nat.reduceAdd, Nat.reduceSub, reduceIte]
    simp only [hfin, e1, e2, e3, Bool.false_and, Bool.and_false, EV, Nat.reduceEqDiff, Nat.reduceBEq, Nat.reduceLT, Nat.reduceLeDiff, Nat.reduceAdd, Nat.reduceSub, reduceIte, evRE, retVC, cellV', evR, nfz, nfzs, nfzss, List.contains_nil, List.contains_cons, Bool.or_false, or_true]
  simp only [Scope.z, EV, Nat.reduceEqDiff, Nat.reduceBEq, Nat.reduceLT, Nat.reduceLeDiff, Nat.reduceAdd, Nat.reduceSub, reduceIte]
  rcases e4 : decide ((s.objects.length : Int) ≤ 16) with _ | _
  · simp only [Scope.z, EV, Nat.reduceEqDiff, Nat.reduceBEq, Nat.reduceLT, Nat.reduceLeDiff, Nat.reduceAdd, Nat.reduceSub, reduceIte]
    simp only [hfin, e1, e2, e3, e4, Bool.false_and, Bool.and_false, EV, Nat.reduceEqDiff, Nat.reduceBEq, Nat.reduceLT, Nat.reduceLeDiff, Nat.reduceAdd, Nat.reduceSub, reduceIte, evRE, retVC, cellV', evR, nfz, nfzs, nfzss, List.contains_nil, List.contains_cons, Bool.or_false, or_true]
  simp only [Scope.z, EV, Nat.reduceEqDiff, Nat.reduceBEq, Nat.reduceLT, Nat.reduceLeDiff, Nat.reduceAdd, Nat.reduceSub, reduceIte]
  simp only [hfin, e1, e2, e3, e4, Bool.true_and, Bool.and_self, EV, Nat.reduceEqDiff, Nat.reduceBEq, Nat.reduceLT, Nat.reduceLeDiff, Nat.reduceAdd, Nat.reduceSub, reduceIte, evRE, retVC, cellV', evR, nfz, nfzs, nfzss, List.contains_nil, List.contains_cons, Bool.or_false, or_true]
end Go.AM
namespace Go.AM
set_option linter.unusedVariables false
set_option linter.unusedSimpArgs false
theorem strz_frz (l : List Str) : frzRows (l.map Str.z) = l.map Str.z := Str.frz l
def m78 : MC :=
 (.seq (.reg [Xb 2 (.asg .fb)]) (.join [0] (.seq (.mixt [0] [0, 59] [] [0] [0, 1, 2, 3] [Xm 8 0, Xq 9 (.nilchk (.t 8)), Xf 10 0 9, Xl 11 1 10] (.step 4 (Xb 12 (.call (.fn 143) false [.lend (.t 11)])) (.step 5 (Xq 13 (.un .not (.t 12))) (.step 6 (Xm 14 13) (.step 7 (Xu 15 14 (.mov (.t 0))) (.step 8 (Xu 16 14 (.nilchk (.t 15))) (.step 9 (Xu 17 14 (.fad 1 (.t 16))) (.step 10 (Xu 18 14 (.load false 1
 (.t 17))) (.step 11 (Xu 19 14 (.len false (.t 18))) (.step 12 (Xu 20 14 (.bin false .gtr (.t 19) (.i 4))) (.step 13 (Xq 21 (.pick (.t 14) .tb (.t 20))) (.step 14 (Xm 22 21) (.step 15 (Xu 23 22 (.mov (.t 0))) (.step 16 (Xu 24 22 (.nilchk (.t 23))) (.step 17 (Xu 25 22 (.fad 0 (.t 24))) (.step 20 (Xu 28 22 (.mov (.t 0))) (.step 21 (Xu 29 22 (.nilchk (.t 28))) (.step 22 (Xu 30 22 (.fad 1 (.t 29)))
 (.alt (.step 18 (Xu 26 22 (.load false 1 (.t 25))) (.alt (.step 19 (XU 27 22 (.bsl 9 1 [.t 26])) (.step 23 (Xu 31 22 (.load false 1 (.t 30))) (.step 24 (XU 32 22 (.app false 9 1 16 (.t 27) (.t 31))) (.step 25 (XU 33 22 (.call (.fn 144) false [.lend (.t 32)])) (.step 26 (Xu 34 22 (.un .not (.t 33))) (.step 27 (Xq 35 (.pick (.t 22) .tb (.t 34))) (.step 28 (Xm 36 35) (.step 29 (Xu 37 36 (.mov (.t
 0))) (.step 30 (Xu 38 36 (.nilchk (.t 37))) (.step 31 (Xu 39 36 (.fad 2 (.t 38))) (.step 32 (Xu 40 36 (.load false 1 (.t 39))) (.step 33 (XU 41 36 (.call (.fn 94) false [.lend (.t 40)])) (.step 34 (Xu 42 36 (.un .not (.t 41))) (.step 35 (Xq 43 (.pick (.t 36) .tb (.t 42))) (.step 36 (Xm 44 43) (.step 37 (Xu 45 44 (.mov (.t 0))) (.step 38 (Xu 46 44 (.nilchk (.t 45))) (.step 39 (Xu 47 44 (.fad 3 (.t
 46))) (.step 40 (Xu 48 44 (.load false 1 (.t 47))) (.step 41 (Xu 49 44 (.len false (.t 48))) (.step 42 (Xu 50 44 (.bin false .gtr (.t 49) (.i 16))) (.step 43 (Xq 51 (.pick (.t 44) .tb (.t 50))) (.step 44 (Xm 52 51) (.step 45 (Xu 53 52 (.mov (.t 0))) (.step 46 (Xu 54 52 (.nilchk (.t 53))) (.step 47 (Xu 55 52 (.fad 4 (.t 54))) (.step 48 (Xu 56 52 (.load false 1 (.t 55))) (.step 49 (Xu 57 52 (.len
 false (.t 56))) (.step 50 (Xu 58 52 (.bin false .gtr (.t 57) (.i 40))) (.step 51 (Xq 59 (.pick (.t 52) .tb (.t 58))) .nil)))))))))))))))))))))))))))))) (.step 23 (Xu 31 22 (.load false 1 (.t 30))) (.step 19 (XU 27 22 (.bsl 9 1 [.t 26])) (.step 24 (XU 32 22 (.app false 9 1 16 (.t 27) (.t 31))) (.step 25 (XU 33 22 (.call (.fn 144) false [.lend (.t 32)])) (.step 26 (Xu 34 22 (.un .not (.t 33)))
 (.step 27 (Xq 35 (.pick (.t 22) .tb (.t 34))) (.step 28 (Xm 36 35) (.step 29 (Xu 37 36 (.mov (.t 0))) (.step 30 (Xu 38 36 (.nilchk (.t 37))) (.step 31 (Xu 39 36 (.fad 2 (.t 38))) (.step 32 (Xu 40 36 (.load false 1 (.t 39))) (.step 33 (XU 41 36 (.call (.fn 94) false [.lend (.t 40)])) (.step 34 (Xu 42 36 (.un .not (.t 41))) (.step 35 (Xq 43 (.pick (.t 36) .tb (.t 42))) (.step 36 (Xm 44 43) (.step 37
 (Xu 45 44 (.mov (.t 0))) (.step 38 (Xu 46 44 (.nilchk (.t 45))) (.step 39 (Xu 47 44 (.fad 3 (.t 46))) (.step 40 (Xu 48 44 (.load false 1 (.t 47))) (.step 41 (Xu 49 44 (.len false (.t 48))) (.step 42 (Xu 50 44 (.bin false .gtr (.t 49) (.i 16))) (.step 43 (Xq 51 (.pick (.t 44) .tb (.t 50))) (.step 44 (Xm 52 51) (.step 45 (Xu 53 52 (.mov (.t 0))) (.step 46 (Xu 54 52 (.nilchk (.t 53))) (.step 47 (Xu
 55 52 (.fad 4 (.t 54))) (.step 48 (Xu 56 52 (.load false 1 (.t 55))) (.step 49 (Xu 57 52 (.len false (.t 56))) (.step 50 (Xu 58 52 (.bin false .gtr (.t 57) (.i 40))) (.step 51 (Xq 59 (.pick (.t 52) .tb (.t 58))) .nil)))))))))))))))))))))))))))))))) (.step 23 (Xu 31 22 (.load false 1 (.t 30))) (.step 18 (Xu 26 22 (.load false 1 (.t 25))) (.step 19 (XU 27 22 (.bsl 9 1 [.t 26])) (.step 24 (XU 32 22
 (.app false 9 1 16 (.t 27) (.t 31))) (.step 25 (XU 33 22 (.call (.fn 144) false [.lend (.t 32)])) (.step 26 (Xu 34 22 (.un .not (.t 33))) (.step 27 (Xq 35 (.pick (.t 22) .tb (.t 34))) (.step 28 (Xm 36 35) (.step 29 (Xu 37 36 (.mov (.t 0))) (.step 30 (Xu 38 36 (.nilchk (.t 37))) (.step 31 (Xu 39 36 (.fad 2 (.t 38))) (.step 32 (Xu 40 36 (.load false 1 (.t 39))) (.step 33 (XU 41 36 (.call (.fn 94)
 false [.lend (.t 40)])) (.step 34 (Xu 42 36 (.un .not (.t 41))) (.step 35 (Xq 43 (.pick (.t 36) .tb (.t 42))) (.step 36 (Xm 44 43) (.step 37 (Xu 45 44 (.mov (.t 0))) (.step 38 (Xu 46 44 (.nilchk (.t 45))) (.step 39 (Xu 47 44 (.fad 3 (.t 46))) (.step 40 (Xu 48 44 (.load false 1 (.t 47))) (.step 41 (Xu 49 44 (.len false (.t 48))) (.step 42 (Xu 50 44 (.bin false .gtr (.t 49) (.i 16))) (.step 43 (Xq
 51 (.pick (.t 44) .tb (.t 50))) (.step 44 (Xm 52 51) (.step 45 (Xu 53 52 (.mov (.t 0))) (.step 46 (Xu 54 52 (.nilchk (.t 53))) (.step 47 (Xu 55 52 (.fad 4 (.t 54))) (.step 48 (Xu 56 52 (.load false 1 (.t 55))) (.step 49 (Xu 57 52 (.len false (.t 56))) (.step 50 (Xu 58 52 (.bin false .gtr (.t 57) (.i 40))) (.step 51 (Xq 59 (.pick (.t 52) .tb (.t 58)))
 .nil)))))))))))))))))))))))))))))))))))))))))))))))))) (.cond (.t 59) (.seq (.reg [Xb 2 (.asg .fb)]) .ret) .skip)) (.seq (.reg [Xm 60 0, Xq 61 (.nilchk (.t 60)), Xf 62 1 61, Xl 63 1 62, Xb 64 (.call (.fn 145) false [.lend (.t 63)]), Xa 3 64]) (.seq (.seq (.reg [Xm 65 0, Xq 66 (.nilchk (.t 65)), Xf 67 3 66, Xl 68 1 67, Xn 69 68, Xq 70 (.mov (.i 0))]) (.block 0 (.loop [0, 3, 64, 65, 66, 67, 68, 69,
 70, 82] (.seq (.reg [Xq 71 (.bin false .lss (.t 70) (.t 69))]) (.seq (.cond (.t 71) .skip (.exit 0)) (.seq (.block 1 (.seq (.reg [Xi 72 6 68 70, XL 73 6 72, Xb 5 (.alloc 69 [.z, .i, .i, .i, .i, .s 182 3]), Xz (.store 6 (.t 5) (.t 73))]) (.seq (.seq (.reg [Xm 74 0, XL 75 6 5, Xb 76 (.call (.fn 146) false [.lend (.t 74), .lend (.t 75)]), Xq 77 (.un .not (.t 76))]) (.cond (.t 77) (.seq (.reg [Xb 2
 (.asg .fb)]) .ret) .skip)) (.reg [Xm 78 3, Xf 79 0 5, Xl 80 1 79, Xb 81 (.bsl 9 1 [.t 80]), Xb 82 (.app true 9 1 16 (.t 78) (.t 81)), Xa 3 82])))) (.reg [Xq 83 (.bin false .add (.t 70) (.i 1)), Xm 70 83]))))))) (.seq (.seq (.reg [Xm 84 0, Xq 85 (.nilchk (.t 84)), Xf 86 4 85, Xl 87 1 86, Xn 88 87, Xq 89 (.mov (.i 0))]) (.block 2 (.loop [0, 3, 64, 82, 84, 85, 86, 87, 88, 89] (.seq (.reg [Xq 90 (.bin
 false .lss (.t 89) (.t 88))]) (.seq (.cond (.t 90) .skip (.exit 2)) (.seq (.block 3 (.seq (.reg [Xm 91 89, Xi 92 2 87 89, XL 93 2 92, Xb 7 (.alloc 132 [.z, .z]), Xa 6 91, Xz (.store 2 (.t 7) (.t 93))]) (.seq (.dreg [Xm 94 0, Xq 95 (.nilchk (.t 94)), Xf 96 1 95, Xl 97 1 96, Xf 98 0 7, Xl 99 1 98, Xb 100 (.call (.fn 147) false [.lend (.t 97), .lend (.t 99)]), Xq 101 (.un .not (.t 100)), Xm 102 101,
 Xu 103 102 (.fad 1 (.t 7)), Xu 104 102 (.load false 1 (.t 103)), XU 105 102 (.call (.fn 143) false [.lend (.t 104)]), Xu 106 102 (.un .not (.t 105)), Xq 107 (.pick (.t 102) .tb (.t 106)), Xm 108 107, Xu 109 108 (.mov (.t 0)), Xu 110 108 (.nilchk (.t 109)), Xu 111 108 (.fad 4 (.t 110)), Xu 112 108 (.load false 1 (.t 111)), Xu 113 108 (.mov (.t 6)), Xu 114 108 (.slc false 2 (.t 112) none (some (.t
 113))), Xu 115 108 (.load true 2 (.t 7)), XU 116 108 (.call (.fn 148) false [.lend (.t 114), .lend (.t 115)]), Xq 117 (.pick (.t 108) .tb (.t 116))]) (.cond (.t 117) (.seq (.reg [Xb 2 (.asg .fb)]) .ret) .skip)))) (.reg [Xq 118 (.bin false .add (.t 89) (.i 1)), Xm 89 118]))))))) (.seq (.reg [Xm 119 3, Xb 120 (.call (.fn 144) false [.lend (.t 119)]), Xa 2 120]) .ret))))))
set_option maxHeartbeats 4000000 in
set_option maxRecDepth 100000 in
theorem d78 (s : Scope) (hs : s.sm) : Does Go.Proofs.Tryz.prog 78 [.fptr s.z] false (.v (.bool (scOk s))) [.dead] := by
  have hs' := hs
  unfold Scope.sm at hs'
  obtain ⟨z1, z2, z3, z4, z5⟩ := hs'
  have ecl : List.map Str.z (⟨s.name⟩ :: s.imports) = [AV.v (.string s.name)] :: List.map Str.z s.imports := rfl
  refine does_intro (mc := m78) (N := 121) (rs := [2]) (fx := []) 1 rfl (by decide +kernel) ?_
  simp only [m78, EV, Nat.reduceEqDiff, Nat.reduceBEq, Nat.reduceLT, Nat.reduceLeDiff, Nat.reduceAdd, Nat.reduceSub, reduceIte]
  refine awp_join (fun _ : Unit => unl (⟨s.name⟩ :: s.imports) = true ∧ tabOk s.types = true ∧ s.imports.length ≤ 4 ∧ s.objects.length ≤ 16 ∧ s.uses.length ≤ 40) (fun _ => stl [(0, .fptr s.z)]) ?_ ?_
  · simp only [evP, Scope.z, EV, Nat.reduceEqDiff, Nat.reduceBEq, Nat.reduceLT, Nat.reduceLeDiff, Nat.reduceAdd, Nat.reduceSub, reduceIte]
    refine callK_i (d143 s.name (by omega)) ?_
    simp only [EV, Nat.reduceEqDiff, Nat.reduceBEq, Nat.reduceLT, Nat.reduceLeDiff, Nat.reduceAdd, Nat.reduceSub, reduceIte]
    rcases e1 : nameOk s.name with _ | _
    · have e : scOk s = false := scOk_no fun P => by have := (ScP_iff.1 P).1.1.1.1.1; rw [e1] at this; cases this
      simp only [Bool.not_false, EV, Nat.reduceEqDiff, Nat.reduceBEq, Nat.reduceLT, Nat.reduceLeDiff, Nat.reduceAdd, Nat.reduceSub, reduceIte]
      simp only [e, EV, Nat.reduceEqDiff, Nat.reduceBEq, Nat.reduceLT, Nat.reduceLeDiff, Nat.reduceAdd, Nat.reduceSub, reduceIte, evRE, retVC, cellV', evR, nfz, nfzs, nfzss, List.contains_nil, List.contains_cons, Bool.or_false, or_true]
    simp only [evP, Bool.not_true, Scope.z, EV, Nat.reduceEqDiff, Nat.reduceBEq, Nat.reduceLT, Nat.reduceLeDiff, Nat.reduceAdd, Nat.reduceSub, reduceIte]
    rcases e2 : decide (4 < (s.imports.length : Int)) with _ | _
    rotate_left
    · have e : scOk s = false := scOk_no fun P => by have := P.few1; simp at e2; omega
      simp only [EV, Nat.reduceEqDiff, Nat.reduceBEq, Nat.reduceLT, Nat.reduceLeDiff, Nat.reduceAdd, Nat.reduceSub, reduceIte]
      simp only [e, EV, Nat.reduceEqDiff, Nat.reduceBEq, Nat.reduceLT, Nat.reduceLeDiff, Nat.reduceAdd, Nat.reduceSub, reduceIte, evRE, retVC, cellV', evR, nfz, nfzs, nfzss, List.contains_nil, List.contains_cons, Bool.or_false, or_true]
    simp only [evP, Scope.z, EV, Nat.reduceEqDiff, Nat.reduceBEq, Nat.reduceLT, Nat.reduceLeDiff, Nat.reduceAdd, Nat.reduceSub, reduceIte]
    refine ⟨⟨?_, ?_⟩, ?_⟩
    all_goals
      refine ⟨.inl trivial, by omega, by omega, ?_⟩
      rw [strz_frz, ← ecl]
      refine callK_i (d144 (⟨s.name⟩ :: s.imports) (by simp; omega) (by intro x hx; rcases List.mem_cons.1 hx with rfl | hx; exact z1; exact z2.2 x hx)) ?_
      simp only [evP, Scope.z, EV, Nat.reduceEqDiff, Nat.reduceBEq, Nat.reduceLT, Nat.reduceLeDiff, Nat.reduceAdd, Nat.reduceSub, reduceIte]
      rcases e3 : unl (⟨s.name⟩ :: s.imports) with _ | _
      · have e : scOk s = false := scOk_no fun P => by have := P.unl1; rw [e3] at this; cases this
        simp only [Bool.not_false, EV, Nat.reduceEqDiff, Nat.reduceBEq, Nat.reduceLT, Nat.reduceLeDiff, Nat.reduceAdd, Nat.reduceSub, reduceIte]
        simp only [e, EV, Nat.reduceEqDiff, Nat.reduceBEq, Nat.reduceLT, Nat.reduceLeDiff, Nat.reduceAdd, Nat.reduceSub, reduceIte, evRE, retVC, cellV', evR, nfz, nfzs, nfzss, List.contains_nil, List.contains_cons, Bool.or_false, or_true]
      simp only [evP, Bool.not_true, Scope.z, EV, Nat.reduceEqDiff, Nat.reduceBEq, Nat.reduceLT, Nat.reduceLeDiff, Nat.reduceAdd, Nat.reduceSub, reduceIte]
      refine callK_i (d94 s.types z3.1 z3.2) ?_
      simp only [evP, Scope.z, EV, Nat.reduceEqDiff, Nat.reduceBEq, Nat.reduceLT, Nat.reduceLeDiff, Nat.reduceAdd, Nat.reduceSub, reduceIte]
      rcases e4 : tabOk s.types with _ | _
      · have e : scOk s = false := scOk_no fun P => by have := P.tab; rw [e4] at this; cases this
        simp only [Bool.not_false, EV, Nat.reduceEqDiff, Nat.reduceBEq, Nat.reduceLT, Nat.reduceLeDiff, Nat.reduceAdd, Nat.reduceSub, reduceIte]
        simp only [e, EV, Nat.reduceEqDiff, Nat.reduceBEq, Nat.reduceLT, Nat.reduceLeDiff, Nat.reduceAdd, Nat.reduceSub, reduceIte, evRE, retVC, cellV', evR, nfz, nfzs, nfzss, List.contains_nil, List.contains_cons, Bool.or_false, or_true]
      simp only [evP, Bool.not_true, Scope.z, EV, Nat.reduceEqDiff, Nat.reduceBEq, Nat.reduceLT, Nat.reduceLeDiff, Nat.reduceAdd, Nat.reduceSub, reduceIte]
      rcases e5 : decide (16 < (s.objects.length : Int)) with _ | _
      rotate_left
      · have e : scOk s = false := scOk_no fun P => by have := P.few2; simp at e5; omega
        simp only [EV, Nat.reduceEqDiff, Nat.reduceBEq, Nat.reduceLT, Nat.reduceLeDiff, Nat.reduceAdd, Nat.reduceSub, reduceIte]
        simp only [e, EV, Nat.reduceEqDiff, Nat.reduceBEq, Nat.reduceLT, Nat.reduceLeDiff, Nat.reduceAdd, Nat.reduceSub, reduceIte, evRE, retVC, cellV', evR, nfz, nfzs, nfzss, List.contains_nil, List.contains_cons, Bool.or_false, or_true]
      simp only [evP, Scope.z, EV, Nat.reduceEqDiff, Nat.reduceBEq, Nat.reduceLT, Nat.reduceLeDiff, Nat.reduceAdd, Nat.reduceSub, reduceIte]
      rcases e6 : decide (40 < (s.uses.length : Int)) with _ | _
      rotate_left
      · have e : scOk s = false := scOk_no fun P => by have := P.few3; simp at e6; omega
        simp only [EV, Nat.reduceEqDiff, Nat.reduceBEq, Nat.reduceLT, Nat.reduceLeDiff, Nat.reduceAdd, Nat.reduceSub, reduceIte]
        simp only [e, EV, Nat.reduceEqDiff, Nat.reduceBEq, Nat.reduceLT, Nat.reduceLeDiff, Nat.reduceAdd, Nat.reduceSub, reduceIte, evRE, retVC, cellV', evR, nfz, nfzs, nfzss, List.contains_nil, List.contains_cons, Bool.or_false, or_true]
      simp only [evP, Scope.z, EV, Nat.reduceEqDiff, Nat.reduceBEq, Nat.reduceLT, Nat.reduceLeDiff, Nat.reduceAdd, Nat.reduceSub, reduceIte]
      refine ⟨(), ?_⟩
      simp only [decide_eq_false_iff_not] at e2 e5 e6
      first | exact ⟨by omega, by omega, by omega⟩ | exact ⟨⟨by omega, by omega, by omega⟩, rfl⟩
  rintro _ ⟨g1, g2, g3, g4, g5⟩
  simp only [evP, Scope.z, EV, Nat.reduceEqDiff, Nat.reduceBEq, Nat.reduceLT, Nat.reduceLeDiff, Nat.reduceAdd, Nat.reduceSub, reduceIte]
  refine callK_i (d145 s.imports z2.1) ?_
  simp only [evP, Scope.z, EV, Nat.reduceEqDiff, Nat.reduceBEq, Nat.reduceLT, Nat.reduceLeDiff, Nat.reduceAdd, Nat.reduceSub, reduceIte]
  refine awp_loop (fun i : Nat => i ≤ s.objects.length ∧ obTo s i) (fun i => stl [(0, .fptr s.z), (3, .usl 9 1 ((s.imports ++ (s.objects.take i).map nmS).map Str.o)), (64, .dead), (65, .fptr s.z), (66, .fptr s.z), (67, .fptr [.fsl 6 (s.objects.map Ob.z), .fsl 2 (s.uses.map Us.z)]), (68, .fsl 6 (s.objects.map Ob.z)), (69, .v (.int .i64 (s.objects.length : Int))), (70, .v (.int .i64 (i : Int))), (82, .dead)]) (fun i => s.objects.length - i) 0 ⟨Nat.zero_le _, fun j hj h => absurd h (by omega)⟩ ?_ ?_
  · simp only [List.take_zero, List.map_nil, List.append_nil, Scope.z, EV, Nat.reduceEqDiff, Nat.reduceBEq, Nat.reduceLT, Nat.reduceLeDiff, Nat.reduceAdd, Nat.reduceSub, reduceIte]
    rfl
  rintro i ⟨hi, hok⟩
  rcases h : decide ((i : Int) < (s.objects.length : Int)) with _ | _
  rotate_left
  · have h1 : i < s.objects.length := by simpa using h
    have h2 : (i : Int) < (s.objects.length : Int) := by omega
    have hno : obOk s.types s.objects[i] = false → scOk s = false := fun e => scOk_no fun P => by have := P.obs i h1 h1; rw [e] at this; cases this
    have dob := d146 s s.objects[i] hs (z4.2 _ (List.getElem_mem h1))
    simp only [Ob.z, Scope.z] at dob
    simp only [h, Scope.z, EV, Nat.reduceEqDiff, Nat.reduceBEq, Nat.reduceLT, Nat.reduceLeDiff, Nat.reduceAdd, Nat.reduceSub, reduceIte]
    simp only [ObE, nth_map h1, h2, Ob.z, Scope.z, EV, Nat.reduceEqDiff, Nat.reduceBEq, Nat.reduceLT, Nat.reduceLeDiff, Nat.reduceAdd, Nat.reduceSub, reduceIte]
    refine callK_i dob ?_
    simp only [EV, Nat.reduceEqDiff, Nat.reduceBEq, Nat.reduceLT, Nat.reduceLeDiff, Nat.reduceAdd, Nat.reduceSub, reduceIte]
    rcases e1 : obOk s.types s.objects[i] with _ | _
    · simp only [Bool.not_false, EV, Nat.reduceEqDiff, Nat.reduceBEq, Nat.reduceLT, Nat.reduceLeDiff, Nat.reduceAdd, Nat.reduceSub, reduceIte]
      simp only [hno e1, EV, Nat.reduceEqDiff, Nat.reduceBEq, Nat.reduceLT, Nat.reduceLeDiff, Nat.reduceAdd, Nat.reduceSub, reduceIte, evRE, retVC, cellV', evR, nfz, nfzs, nfzss, List.contains_nil, List.contains_cons, Bool.or_false, or_true]
    simp only [Bool.not_true, Ob.z, Scope.z, EV, Nat.reduceEqDiff, Nat.reduceBEq, Nat.reduceLT, Nat.reduceLeDiff, Nat.reduceAdd, Nat.reduceSub, reduceIte]
    have e9 : List.map Str.o (s.imports ++ (s.objects.take (i + 1)).map nmS) = List.map Str.o (s.imports ++ (s.objects.take i).map nmS) ++ [[AV.v (.string s.objects[i].name)]] := by
      rw [List.take_succ_eq_append_getElem h1]; simp only [List.map_append, List.append_assoc]; rfl
    rw [w64 _ (by omega)]
    exact ⟨by simp; omega, by simp; omega, i + 1, ⟨h1, obTo_succ h1 hok e1⟩, by omega, by rw [e9]; rfl⟩
  have h1 : i = s.objects.length := by have : ¬ (i : Int) < s.objects.length := by simpa using h
                                       omega
  subst h1
  have hO := hok
  rw [List.take_length]
  simp only [h, evP, Scope.z, EV, Nat.reduceEqDiff, Nat.reduceBEq, Nat.reduceLT, Nat.reduceLeDiff, Nat.reduceAdd, Nat.reduceSub, reduceIte]
  refine awp_loop (fun i : Nat => i ≤ s.uses.length ∧ usTo s i) (fun i => stl [(0, .fptr s.z), (3, .usl 9 1 ((s.imports ++ s.objects.map nmS).map Str.o)), (64, .dead), (82, .dead), (84, .fptr s.z), (85, .fptr s.z), (86, .fptr [.fsl 2 (s.uses.map Us.z)]), (87, .fsl 2 (s.uses.map Us.z)), (88, .v (.int .i64 (s.uses.length : Int))), (89, .v (.int .i64 (i : Int)))]) (fun i => s.uses.length - i) 0 ⟨Nat.zero_le _, fun j hj h => absurd h (by omega)⟩ ?_ ?_
  · simp only [Scope.z, EV, Nat.reduceEqDiff, Nat.reduceBEq, Nat.reduceLT, Nat.reduceLeDiff, Nat.reduceAdd, Nat.reduceSub, reduceIte]
    rfl
  clear h
  rintro i ⟨hi, hok⟩
  rcases h : decide ((i : Int) < (s.uses.length : Int)) with _ | _
  rotate_left
  · have h1 : i < s.uses.length := by simpa using h
    have h2 : (i : Int) < (s.uses.length : Int) := by omega
    have hno : ¬ usAt s i h1 → scOk s = false := fun e => scOk_no fun P => e (P.uses i h1 h1)
    have hsm := z5.2 _ (List.getElem_mem h1)
    unfold Us.sm at hsm
    simp only [h, Scope.z, EV, Nat.reduceEqDiff, Nat.reduceBEq, Nat.reduceLT, Nat.reduceLeDiff, Nat.reduceAdd, Nat.reduceSub, reduceIte]
    simp only [UsE, nth_map h1, h2, Us.z, evP, Scope.z, EV, Nat.reduceEqDiff, Nat.reduceBEq, Nat.reduceLT, Nat.reduceLeDiff, Nat.reduceAdd, Nat.reduceSub, reduceIte]
    refine callD_i (d147 s.imports s.uses[i].mod (by omega)) rfl ?_
    simp only [EV, Nat.reduceEqDiff, Nat.reduceBEq, Nat.reduceLT, Nat.reduceLeDiff, Nat.reduceAdd, Nat.reduceSub, reduceIte]
    rcases e1 : s.imports.any (eqSt s.uses[i].mod) with _ | _
    · have e : scOk s = false := hno (by rintro ⟨g, _⟩; rw [e1] at g; cases g)
      simp only [Bool.not_false, EV, Nat.reduceEqDiff, Nat.reduceBEq, Nat.reduceLT, Nat.reduceLeDiff, Nat.reduceAdd, Nat.reduceSub, reduceIte]
      simp only [e, EV, Nat.reduceEqDiff, Nat.reduceBEq, Nat.reduceLT, Nat.reduceLeDiff, Nat.reduceAdd, Nat.reduceSub, reduceIte, evRE, retVC, cellV', evR, nfz, nfzs, nfzss, List.contains_nil, List.contains_cons, Bool.or_false, or_true]
    simp only [Bool.not_true, evP, Us.z, Scope.z, EV, Nat.reduceEqDiff, Nat.reduceBEq, Nat.reduceLT, Nat.reduceLeDiff, Nat.reduceAdd, Nat.reduceSub, reduceIte]
    refine callD_i (d143 s.uses[i].name (by omega)) rfl ?_
    simp only [EV, Nat.reduceEqDiff, Nat.reduceBEq, Nat.reduceLT, Nat.reduceLeDiff, Nat.reduceAdd, Nat.reduceSub, reduceIte]
    rcases e2 : nameOk s.uses[i].name with _ | _
    · have e : scOk s = false := hno (by rintro ⟨_, g, _⟩; rw [e2] at g; cases g)
      simp only [Bool.not_false, EV, Nat.reduceEqDiff, Nat.reduceBEq, Nat.reduceLT, Nat.reduceLeDiff, Nat.reduceAdd, Nat.reduceSub, reduceIte]
      simp only [e, EV, Nat.reduceEqDiff, Nat.reduceBEq, Nat.reduceLT, Nat.reduceLeDiff, Nat.reduceAdd, Nat.reduceSub, reduceIte, evRE, retVC, cellV', evR, nfz, nfzs, nfzss, List.contains_nil, List.contains_cons, Bool.or_false, or_true]
    simp only [Bool.not_true, evP, Us.z, Scope.z, EV, Nat.reduceEqDiff, Nat.reduceBEq, Nat.reduceLT, Nat.reduceLeDiff, Nat.reduceAdd, Nat.reduceSub, reduceIte]
    refine ⟨by omega, by omega, ?_⟩
    rw [← List.map_take]
    have dc := d148 (s.uses.take i) s.uses[i] (by simp; omega)
    simp only [Us.z] at dc
    refine callD_i dc rfl ?_
    simp only [EV, Nat.reduceEqDiff, Nat.reduceBEq, Nat.reduceLT, Nat.reduceLeDiff, Nat.reduceAdd, Nat.reduceSub, reduceIte]
    rcases e3 : (s.uses.take i).any (qUs s.uses[i]) with _ | _
    · simp only [evP, Us.z, Scope.z, EV, Nat.reduceEqDiff, Nat.reduceBEq, Nat.reduceLT, Nat.reduceLeDiff, Nat.reduceAdd, Nat.reduceSub, reduceIte]
      rw [w64 _ (by omega)]
      exact ⟨i + 1, ⟨h1, usTo_succ h1 hok ⟨e1, e2, e3⟩⟩, by omega, rfl⟩
    · have e : scOk s = false := hno (by rintro ⟨_, _, g⟩; rw [e3] at g; cases g)
      simp only [EV, Nat.reduceEqDiff, Nat.reduceBEq, Nat.reduceLT, Nat.reduceLeDiff, Nat.reduceAdd, Nat.reduceSub, reduceIte]
      simp only [e, EV, Nat.reduceEqDiff, Nat.reduceBEq, Nat.reduceLT, Nat.reduceLeDiff, Nat.reduceAdd, Nat.reduceSub, reduceIte, evRE, retVC, cellV', evR, nfz, nfzs, nfzss, List.contains_nil, List.contains_cons, Bool.or_false, or_true]
  have h1 : i = s.uses.length := by have : ¬ (i : Int) < s.uses.length := by simpa using h
                                    omega
  subst h1
  have hU := hok
  have hfin : scOk s = unl (s.imports ++ s.objects.map nmS) := by
    rw [Bool.eq_iff_iff, scOk_iff]
    exact ⟨fun P => P.unl2, fun u => ⟨g3, g1, g2, g4, g5, hO, hU, u⟩⟩
  have hstr : ∀ l : List Str, frzRows (l.map Str.o) = l.map Str.z := Str.frz
  simp only [h, hstr, Scope.z, EV, Nat.reduceEqDiff, Nat.reduceBEq, Nat.reduceLT, Nat.reduceLeDiff, Nat.reduceAdd, Nat.reduceSub, reduceIte]
  refine callK_i (d144 (s.imports ++ s.objects.map nmS) (by simp; omega) ?_) ?_
  · intro x hx
    rcases List.mem_append.1 hx with hx | hx
    · exact z2.2 x hx
    · obtain ⟨o, ho, rfl⟩ := List.mem_map.1 hx
      exact (z4.2 o ho).1
  simp only [EV, Nat.reduceEqDiff, Nat.reduceBEq, Nat.reduceLT, Nat.reduceLeDiff, Nat.reduceAdd, Nat.reduceSub, reduceIte]
  simp only [hfin, EV, Nat.reduceEqDiff, Nat.reduceBEq, Nat.reduceLT, Nat.reduceLeDiff, Nat.reduceAdd, Nat.reduceSub, reduceIte, evRE, retVC, cellV', evR, nfz, nfzs, nfzss, List.contains_nil, List.contains_cons, Bool.or_false, or_true]
end Go.AM
namespace Go.AM
set_option linter.unusedVariables false
set_option linter.unusedSimpArgs false
def m82 : MC :=
 (.seq (.reg [Xb 2 (.alloc 49 [.z, .s 9 1, .s 129 6, .s 69 6, .s 132 2])]) (.seq (.reg [Xm 4 0, Xb 5 (.build [0] [0] [1] [.s 5 1, .i, .v (.int .u64 0)] [.t 4]), Xb 6 (.box 114 (.t 5)), Xa 3 6]) (.seq (.reg [Xm 7 3, Xb 8 (.call (.fn 84) false [.io (.t 7)]), Xz (.store 5 (.t 2) (.t 8))]) .ret)))
set_option maxRecDepth 100000 in
theorem p82 (code : List Int) (hl : (code.length : Int) ≤ 1048576) (hb : ∀ b ∈ code, 0 ≤ b ∧ b ≤ 255) :
    DoesE Go.Proofs.Tryz.prog 82 [.fsl 1 (code.map bv)] true fun r o => o = [.dead] ∧ ∃ s : Scope, r = .agg s.o ∧ s.dr := by
  have hc : Cur.ok ⟨code, 0, 0⟩ 0 := ⟨hl, hb, Int.le_refl _, Int.le_refl _⟩
  have pc := p84 ⟨code, 0, 0⟩ 0 hc (by omega)
  refine doesM_intro (mc := m82) (N := 9) (rs := [.c 2 49 true 5]) (fx := []) 1 rfl (by decide +kernel) ?_
  simp only [m82, EV, Nat.reduceEqDiff, Nat.reduceBEq, Nat.reduceLT, Nat.reduceLeDiff, Nat.reduceAdd, Nat.reduceSub, reduceIte]
  refine pc.call (fun _ => rfl) ?_
  rintro _ c1 hc1 ⟨s, rfl, hS⟩
  simp only [Scope.o, EV, Nat.reduceEqDiff, Nat.reduceBEq, Nat.reduceLT, Nat.reduceLeDiff, Nat.reduceAdd, Nat.reduceSub, reduceIte]
  simp only [Str.nfz, Ty.nfz, Ob.nfz, Us.nfz, pbeq, evRM, EV, Nat.reduceEqDiff, Nat.reduceBEq, Nat.reduceLT, Nat.reduceLeDiff, Nat.reduceAdd, Nat.reduceSub, reduceIte, evRE, retVC, cellV', evR, nfz, nfzs, nfzss, List.contains_nil, List.contains_cons, Bool.or_false, or_true]
  first
    | exact ⟨⟨s, rfl, hS⟩, Or.inl trivial⟩
    | exact ⟨s, rfl, hS⟩
def m31 : MC :=
 (.seq (.reg [Xb 2 (.alloc 49 [.z, .s 9 1, .s 129 6, .s 69 6, .s 132 2])]) (.seq (.reg [Xm 3 0, Xb 4 (.call (.fn 82) true [.lend (.t 3)]), Xz (.store 5 (.t 2) (.t 4))]) .ret))
set_option maxRecDepth 100000 in
theorem p31 (code : List Int) (hl : (code.length : Int) ≤ 1048576) (hb : ∀ b ∈ code, 0 ≤ b ∧ b ≤ 255) :
    DoesE Go.Proofs.Tryz.prog 31 [.fsl 1 (code.map bv)] true fun r o => o = [.dead] ∧ ∃ s : Scope, r = .agg s.o ∧ s.dr := by
  refine doesM_intro (mc := m31) (N := 5) (rs := [.c 2 49 true 5]) (fx := []) 1 rfl (by decide +kernel) ?_
  simp only [m31, EV, Nat.reduceEqDiff, Nat.reduceBEq, Nat.reduceLT, Nat.reduceLeDiff, Nat.reduceAdd, Nat.reduceSub, reduceIte]
  refine callE_i (p82 code hl hb) (fun r o h => ⟨h.2, h.1⟩) ?_
  rintro _ ⟨s, rfl, hS⟩
  simp only [Scope.o, EV, Nat.reduceEqDiff, Nat.reduceBEq, Nat.reduceLT, Nat.reduceLeDiff, Nat.reduceAdd, Nat.reduceSub, reduceIte]
  simp only [Str.nfz, Ty.nfz, Ob.nfz, Us.nfz, pbeq, evRM, EV, Nat.reduceEqDiff, Nat.reduceBEq, Nat.reduceLT, Nat.reduceLeDiff, Nat.reduceAdd, Nat.reduceSub, reduceIte, evRE, retVC, cellV', evR, nfz, nfzs, nfzss, List.contains_nil, List.contains_cons, Bool.or_false, or_true]
  first
    | exact ⟨⟨s, rfl, hS⟩, Or.inl trivial⟩
    | exact ⟨s, rfl, hS⟩
def m36 : MC :=
 (.seq (.reg [Xb 2 (.alloc 49 [.z, .s 9 1, .s 129 6, .s 69 6, .s 132 2]), Xb 3 (.alloc 49 [.z, .s 9 1, .s 129 6, .s 69 6, .s 132 2])]) (.seq (.reg [Xm 6 0, Xb 7 (.build [0] [0] [1] [.s 5 1, .i, .v (.int .u64 0)] [.t 6]), Xb 8 (.box 114 (.t 7)), Xa 4 8]) (.seq (.reg [Xm 9 4, Xb 10 (.call (.fn 84) false [.io (.t 9)]), Xb 5 (.alloc 49 [.z, .s 9 1, .s 129 6, .s 69 6, .s 132 2]), Xz (.store 5 (.t 5) (.t
 10))]) (.seq (.frz 5 (.mix [5] [2, 3, 4, 8] [] [] [0, 2] [1, 3, 4, 5] [XL 11 5 5, XL 13 5 5] [Xm 12 4, Xb 14 (.call (.fn 85) false [.io (.t 12), .lend (.t 13)]), Xz (.store 5 (.t 2) (.t 11)), Xz (.store 5 (.t 3) (.t 14))])) .ret))))
set_option maxHeartbeats 4000000 in
set_option maxRecDepth 100000 in
theorem p36 (code : List Int) (hl : (code.length : Int) ≤ 1048576) (hb : ∀ b ∈ code, 0 ≤ b ∧ b ≤ 255) :
    DoesE Go.Proofs.Tryz.prog 36 [.fsl 1 (code.map bv)] true fun r o => o = [.dead] ∧ ∃ s t : Scope, r = .tup [.agg s.z, .agg t.o] ∧ s.sm ∧ t.sm := by
  have hc : Cur.ok ⟨code, 0, 0⟩ 0 := ⟨hl, hb, Int.le_refl _, Int.le_refl _⟩
  have pc := p84 ⟨code, 0, 0⟩ 0 hc (by omega)
  refine doesM_intro (mc := m36) (N := 15) (rs := [.c 2 49 true 5, .c 3 49 true 5]) (fx := []) 1 rfl (by decide +kernel) ?_
  simp only [m36, EV, Nat.reduceEqDiff, Nat.reduceBEq, Nat.reduceLT, Nat.reduceLeDiff, Nat.reduceAdd, Nat.reduceSub, reduceIte]
  refine pc.call (fun _ => rfl) ?_
  rintro _ c1 hc1 ⟨s, rfl, hS⟩
  simp only [Scope.o, EV, Nat.reduceEqDiff, Nat.reduceBEq, Nat.reduceLT, Nat.reduceLeDiff, Nat.reduceAdd, Nat.reduceSub, reduceIte]
  refine awp_frz rfl ?_
  have pch := p85 c1 _ hc1 (by omega) s hS.sm
  simp only [Scope.z] at pch
  simp only [Str.frz, Ty.frz, Ob.frz, Us.frz, frzSE, EV, Nat.reduceEqDiff, Nat.reduceBEq, Nat.reduceLT, Nat.reduceLeDiff, Nat.reduceAdd, Nat.reduceSub, reduceIte]
  refine pch.call (fun _ => rfl) ?_
  rintro _ c2 hc2 ⟨t, rfl, hT⟩
  simp only [Str.frz, Ty.frz, Ob.frz, Us.frz, Scope.o, EV, Nat.reduceEqDiff, Nat.reduceBEq, Nat.reduceLT, Nat.reduceLeDiff, Nat.reduceAdd, Nat.reduceSub, reduceIte]
  simp only [Str.nfz, Ty.nfz, Ob.nfz, Us.nfz, pbeq, evRM, EV, Nat.reduceEqDiff, Nat.reduceBEq, Nat.reduceLT, Nat.reduceLeDiff, Nat.reduceAdd, Nat.reduceSub, reduceIte, evRE, retVC, cellV', evR, nfz, nfzs, nfzss, List.contains_nil, List.contains_cons, Bool.or_false, or_true]
  exact ⟨⟨s, t, rfl, hS.sm, hT⟩, Or.inl trivial⟩
def shNames (os : List Ob) : List Str := (os.filter (fun o => decide (0 < o.mark))).map nmS
noncomputable def snL (s : Scope) : List Str := if scOk s = true then shNames s.objects else []
theorem shNames_take {os : List Ob} {i : Nat} (h : i < os.length) : shNames (os.take (i + 1)) = if decide (0 < os[i].mark) = true then shNames (os.take i) ++ [nmS os[i]] else shNames (os.take i) := by
  unfold shNames; rw [List.take_succ_eq_append_getElem h, List.filter_append, List.map_append]
  rcases e : decide (0 < os[i].mark) with _ | _ <;> simp [e]
def m32 : MC :=
 (.seq (.reg [Xb 1 (.box 49 (.t 0)), Xb 2 (.asg (.nils 9 1)), Xb 3 (.asg .fb)]) (.seq (.seq (.reg [Xb 7 (.call (.fn 78) false [.lend (.t 1)]), Xq 8 (.un .not (.t 7))]) (.cond (.t 8) (.seq (.reg [Xb 2 (.asg (.nils 9 1)), Xb 3 (.asg .fb)]) .ret) .skip)) (.seq (.reg [Xb 9 (.bsl 9 1 []), Xa 4 9]) (.seq (.seq (.reg [Xf 10 3 1, Xl 11 1 10, Xn 12 11, Xq 13 (.mov (.i 0))]) (.block 0 (.loop [1, 4, 9, 10,
 11, 12, 13, 24] (.seq (.reg [Xq 14 (.bin false .lss (.t 13) (.t 12))]) (.seq (.cond (.t 14) .skip (.exit 0)) (.join [1, 4, 9, 10, 11, 12, 13, 24] (.block 1 (.seq (.reg [Xi 15 6 11 13, XL 16 6 15, Xb 6 (.alloc 69 [.z, .i, .i, .i, .i, .s 182 3]), Xz (.store 6 (.t 6) (.t 16))]) (.seq (.reg [Xf 17 2 6, Xl 18 1 17, Xq 19 (.bin false .gtr (.t 18) (.i 0))]) (.cond (.t 19) (.reg [Xm 20 4, Xf 21 0 6, Xl 22
 1 21, Xb 23 (.bsl 9 1 [.t 22]), Xb 24 (.app true 9 1 16 (.t 20) (.t 23)), Xa 4 24]) .skip)))) (.reg [Xq 25 (.bin false .add (.t 13) (.i 1)), Xm 13 25]))))))) (.seq (.reg [Xm 26 4, Xa 2 26, Xb 3 (.asg .tb)]) .ret)))))
set_option maxHeartbeats 1000000 in
set_option maxRecDepth 100000 in
theorem d32 (s : Scope) (hs : s.sm) : Does Go.Proofs.Tryz.prog 32 [.agg s.z] false (.tup [.usl 9 1 ((snL s).map Str.z), .v (.bool (scOk s))]) [.dead] := by
  have dis := d78 s hs
  simp only [Scope.z] at dis
  refine does_intro (mc := m32) (N := 27) (rs := [2, 3]) (fx := []) 1 rfl (by decide +kernel) ?_
  simp only [m32, Scope.z, EV, Nat.reduceEqDiff, Nat.reduceBEq, Nat.reduceLT, Nat.reduceLeDiff, Nat.reduceAdd, Nat.reduceSub, reduceIte]
  refine callK_i dis ?_
  simp only [EV, Nat.reduceEqDiff, Nat.reduceBEq, Nat.reduceLT, Nat.reduceLeDiff, Nat.reduceAdd, Nat.reduceSub, reduceIte]
  rcases e : scOk s with _ | _
  · simp only [Bool.not_false, EV, Nat.reduceEqDiff, Nat.reduceBEq, Nat.reduceLT, Nat.reduceLeDiff, Nat.reduceAdd, Nat.reduceSub, reduceIte]
    simp only [snL, e, Bool.false_eq_true, if_false, List.map_nil, EV, Nat.reduceEqDiff, Nat.reduceBEq, Nat.reduceLT, Nat.reduceLeDiff, Nat.reduceAdd, Nat.reduceSub, reduceIte, evRE, retVC, cellV', evR, nfz, nfzs, nfzss, List.contains_nil, List.contains_cons, Bool.or_false, or_true]
  simp only [Bool.not_true, Scope.z, EV, Nat.reduceEqDiff, Nat.reduceBEq, Nat.reduceLT, Nat.reduceLeDiff, Nat.reduceAdd, Nat.reduceSub, reduceIte]
  have hfew := (scOk_iff.1 e).few2
  refine awp_loop (fun i : Nat => i ≤ s.objects.length) (fun i => stl [(1, .box 49 s.z), (4, .usl 9 1 ((shNames (s.objects.take i)).map Str.z)), (9, .dead), (10, .ref 1 [] 0 3), (11, .fsl 6 (s.objects.map Ob.z)), (12, .v (.int .i64 (s.objects.length : Int))), (13, .v (.int .i64 (i : Int))), (24, .dead)]) (fun i => s.objects.length - i) 0 (Nat.zero_le _) ?_ ?_
  · simp only [List.take_zero, shNames, List.filter_nil, List.map_nil, Scope.z, EV, Nat.reduceEqDiff, Nat.reduceBEq, Nat.reduceLT, Nat.reduceLeDiff, Nat.reduceAdd, Nat.reduceSub, reduceIte]
    rfl
  intro i hi
  simp only [Scope.z, EV, Nat.reduceEqDiff, Nat.reduceBEq, Nat.reduceLT, Nat.reduceLeDiff, Nat.reduceAdd, Nat.reduceSub, reduceIte]
  refine cK_cut (fun h => ?_) (fun h => ?_)
  · have i2 : (i : Int) < (s.objects.length : Int) := by simpa using h
    have i1 : i < s.objects.length := by omega
    clear h
    have wi := w64 ((i : Int) + 1) (by omega)
    have hu := shNames_take i1
    have hll : (shNames (s.objects.take i)).length ≤ 16 := by
      unfold shNames
      rw [List.length_map]
      have := List.length_filter_le (fun o : Ob => decide (0 < o.mark)) (s.objects.take i)
      rw [List.length_take] at this; omega
    refine awp_join (fun _ : Unit => True) (fun _ => stl [(1, .box 49 s.z), (4, .usl 9 1 ((shNames (s.objects.take (i + 1))).map Str.z)), (9, .dead), (10, .ref 1 [] 0 3), (11, .fsl 6 (s.objects.map Ob.z)), (12, .v (.int .i64 (s.objects.length : Int))), (13, .v (.int .i64 (i : Int))), (24, .dead)]) ?_ ?_
    · simp only [ObE, i1, i2, nth_map i1, Ob.z, Scope.z, EV, Nat.reduceEqDiff, Nat.reduceBEq, Nat.reduceLT, Nat.reduceLeDiff, Nat.reduceAdd, Nat.reduceSub, reduceIte]
      rcases e4 : decide (0 < s.objects[i].mark) with _ | _
      · rw [e4] at hu
        simp only [Scope.z, EV, Nat.reduceEqDiff, Nat.reduceBEq, Nat.reduceLT, Nat.reduceLeDiff, Nat.reduceAdd, Nat.reduceSub, reduceIte]
        refine ⟨(), ?_⟩
        rw [hu]
        rfl
      · rw [e4] at hu
        simp only [Scope.z, EV, Nat.reduceEqDiff, Nat.reduceBEq, Nat.reduceLT, Nat.reduceLeDiff, Nat.reduceAdd, Nat.reduceSub, reduceIte]
        refine ⟨by omega, by omega, (), ?_⟩
        rw [hu]
        simp only [if_true, List.map_append, List.map_cons, List.map_nil]
        rfl
    rintro _ _
    simp only [wi, Scope.z, EV, Nat.reduceEqDiff, Nat.reduceBEq, Nat.reduceLT, Nat.reduceLeDiff, Nat.reduceAdd, Nat.reduceSub, reduceIte]
    exact ⟨i + 1, i1, by omega, rfl⟩
  · have i1 : i = s.objects.length := by have : ¬ (i : Int) < s.objects.length := by simpa using h
                                         omega
    subst i1
    rw [List.take_length]
    clear h
    simp only [EV, Nat.reduceEqDiff, Nat.reduceBEq, Nat.reduceLT, Nat.reduceLeDiff, Nat.reduceAdd, Nat.reduceSub, reduceIte]
    simp only [snL, e, if_true, Str.nfz, EV, Nat.reduceEqDiff, Nat.reduceBEq, Nat.reduceLT, Nat.reduceLeDiff, Nat.reduceAdd, Nat.reduceSub, reduceIte, evRE, retVC, cellV', evR, nfz, nfzs, nfzss, List.contains_nil, List.contains_cons, Bool.or_false, or_true]
    exact Or.inr (Str.nfz _)
def m33 : MC :=
 (.seq (.reg [Xb 1 (.box 49 (.t 0)), Xb 2 (.asg (.nils 9 1)), Xb 3 (.asg .fb)]) (.seq (.seq (.reg [XL 7 5 1, Xb 8 (.call (.fn 76) false [.lend (.t 7)]), Xq 9 (.un .not (.t 8))]) (.cond (.t 9) (.seq (.reg [Xb 2 (.asg (.nils 9 1)), Xb 3 (.asg .fb)]) .ret) .skip)) (.seq (.reg [Xb 4 (.asg (.nils 9 1))]) (.seq (.seq (.reg [Xf 10 3 1, Xl 11 1 10, Xn 12 11, Xq 13 (.mov (.i 0))]) (.block 0 (.loop [1, 4,
 10, 11, 12, 13, 24] (.seq (.reg [Xq 14 (.bin false .lss (.t 13) (.t 12))]) (.seq (.cond (.t 14) .skip (.exit 0)) (.join [1, 4, 10, 11, 12, 13, 24] (.block 1 (.seq (.reg [Xi 15 6 11 13, XL 16 6 15, Xb 6 (.alloc 69 [.z, .i, .i, .i, .i, .s 182 3]), Xz (.store 6 (.t 6) (.t 16))]) (.seq (.reg [Xf 17 2 6, Xl 18 1 17, Xq 19 (.bin false .gtr (.t 18) (.i 0))]) (.cond (.t 19) (.reg [Xm 20 4, Xf 21 0 6, Xl
 22 1 21, Xb 23 (.bsl 9 1 [.t 22]), Xb 24 (.app true 9 1 16 (.t 20) (.t 23)), Xa 4 24]) .skip)))) (.reg [Xq 25 (.bin false .add (.t 13) (.i 1)), Xm 13 25]))))))) (.seq (.reg [Xm 26 4, Xa 2 26, Xb 3 (.asg .tb)]) .ret)))))
set_option maxHeartbeats 1000000 in
set_option maxRecDepth 100000 in
theorem d33 (s : Scope) (hs : s.sm) : Does Go.Proofs.Tryz.prog 33 [.agg s.z] false (.tup [.usl 9 1 ((snL s).map Str.z), .v (.bool (scOk s))]) [.dead] := by
  have dis := d76 s hs
  simp only [Scope.z] at dis
  refine does_intro (mc := m33) (N := 27) (rs := [2, 3]) (fx := []) 1 rfl (by decide +kernel) ?_
  simp only [m33, Scope.z, EV, Nat.reduceEqDiff, Nat.reduceBEq, Nat.reduceLT, Nat.reduceLeDiff, Nat.reduceAdd, Nat.reduceSub, reduceIte]
  refine callK_i dis ?_
  simp only [EV, Nat.reduceEqDiff, Nat.reduceBEq, Nat.reduceLT, Nat.reduceLeDiff, Nat.reduceAdd, Nat.reduceSub, reduceIte]
  rcases e : scOk s with _ | _
  · simp only [Bool.not_false, EV, Nat.reduceEqDiff, Nat.reduceBEq, Nat.reduceLT, Nat.reduceLeDiff, Nat.reduceAdd, Nat.reduceSub, reduceIte]
    simp only [snL, e, Bool.false_eq_true, if_false, List.map_nil, EV, Nat.reduceEqDiff, Nat.reduceBEq, Nat.reduceLT, Nat.reduceLeDiff, Nat.reduceAdd, Nat.reduceSub, reduceIte, evRE, retVC, cellV', evR, nfz, nfzs, nfzss, List.contains_nil, List.contains_cons, Bool.or_false, or_true]
  simp only [Bool.not_true, Scope.z, EV, Nat.reduceEqDiff, Nat.reduceBEq, Nat.reduceLT, Nat.reduceLeDiff, Nat.reduceAdd, Nat.reduceSub, reduceIte]
  have hfew := (scOk_iff.1 e).few2
  refine awp_loop (fun i : Nat => i ≤ s.objects.length) (fun i => stl [(1, .box 49 s.z), (4, .usl 9 1 ((shNames (s.objects.take i)).map Str.z)), (10, .ref 1 [] 0 3), (11, .fsl 6 (s.objects.map Ob.z)), (12, .v (.int .i64 (s.objects.length : Int))), (13, .v (.int .i64 (i : Int))), (24, .dead)]) (fun i => s.objects.length - i) 0 (Nat.zero_le _) ?_ ?_
  · simp only [List.take_zero, shNames, List.filter_nil, List.map_nil, Scope.z, EV, Nat.reduceEqDiff, Nat.reduceBEq, Nat.reduceLT, Nat.reduceLeDiff, Nat.reduceAdd, Nat.reduceSub, reduceIte]
    rfl
  intro i hi
  simp only [Scope.z, EV, Nat.reduceEqDiff, Nat.reduceBEq, Nat.reduceLT, Nat.reduceLeDiff, Nat.reduceAdd, Nat.reduceSub, reduceIte]
  refine cK_cut (fun h => ?_) (fun h => ?_)
  · have i2 : (i : Int) < (s.objects.length : Int) := by simpa using h
    have i1 : i < s.objects.length := by omega
    clear h
    have wi := w64 ((i : Int) + 1) (by omega)
    have hu := shNames_take i1
    have hll : (shNames (s.objects.take i)).length ≤ 16 := by
      unfold shNames
      rw [List.length_map]
      have := List.length_filter_le (fun o : Ob => decide (0 < o.mark)) (s.objects.take i)
      rw [List.length_take] at this; omega
    refine awp_join (fun _ : Unit => True) (fun _ => stl [(1, .box 49 s.z), (4, .usl 9 1 ((shNames (s.objects.take (i + 1))).map Str.z)), (10, .ref 1 [] 0 3), (11, .fsl 6 (s.objects.map Ob.z)), (12, .v (.int .i64 (s.objects.length : Int))), (13, .v (.int .i64 (i : Int))), (24, .dead)]) ?_ ?_
    · simp only [ObE, i1, i2, nth_map i1, Ob.z, Scope.z, EV, Nat.reduceEqDiff, Nat.reduceBEq, Nat.reduceLT, Nat.reduceLeDiff, Nat.reduceAdd, Nat.reduceSub, reduceIte]
      rcases e4 : decide (0 < s.objects[i].mark) with _ | _
      · rw [e4] at hu
        simp only [Scope.z, EV, Nat.reduceEqDiff, Nat.reduceBEq, Nat.reduceLT, Nat.reduceLeDiff, Nat.reduceAdd, Nat.reduceSub, reduceIte]
        refine ⟨(), ?_⟩
        rw [hu]
        rfl
      · rw [e4] at hu
        simp only [Scope.z, EV, Nat.reduceEqDiff, Nat.reduceBEq, Nat.reduceLT, Nat.reduceLeDiff, Nat.reduceAdd, Nat.reduceSub, reduceIte]
        refine ⟨by omega, by omega, (), ?_⟩
        rw [hu]
        simp only [if_true, List.map_append, List.map_cons, List.map_nil]
        rfl
    rintro _ _
    simp only [wi, Scope.z, EV, Nat.reduceEqDiff, Nat.reduceBEq, Nat.reduceLT, Nat.reduceLeDiff, Nat.reduceAdd, Nat.reduceSub, reduceIte]
    exact ⟨i + 1, i1, by omega, rfl⟩
  · have i1 : i = s.objects.length := by have : ¬ (i : Int) < s.objects.length := by simpa using h
                                         omega
    subst i1
    rw [List.take_length]
    clear h
    simp only [EV, Nat.reduceEqDiff, Nat.reduceBEq, Nat.reduceLT, Nat.reduceLeDiff, Nat.reduceAdd, Nat.reduceSub, reduceIte]
    simp only [snL, e, if_true, Str.nfz, EV, Nat.reduceEqDiff, Nat.reduceBEq, Nat.reduceLT, Nat.reduceLeDiff, Nat.reduceAdd, Nat.reduceSub, reduceIte, evRE, retVC, cellV', evR, nfz, nfzs, nfzss, List.contains_nil, List.contains_cons, Bool.or_false, or_true]
    exact Or.inr (Str.nfz _)
def m34 : MC :=
 (.seq (.reg [Xb 4 (.asg .fb)]) (.seq (.seq (.reg [Xm 6 0, Xn 7 6, Xm 8 1, Xn 9 8, Xq 10 (.bin false .neq (.t 7) (.t 9))]) (.cond (.t 10) (.seq (.reg [Xb 4 (.asg .fb)]) .ret) .skip)) (.seq (.seq (.reg [Xm 11 0, Xn 12 11, Xq 13 (.mov (.i 0))]) (.block 0 (.loop [0, 1, 12, 13] (.seq (.reg [Xq 14 (.bin false .lss (.t 13) (.t 12))]) (.seq (.cond (.t 14) .skip (.exit 0)) (.seq (.block 1 (.seq (.reg [Xm
 15 13, Xa 5 15]) (.seq (.dreg [Xm 16 0, Xm 17 5, Xi 18 1 16 17, Xl 19 1 18, Xm 20 1, Xm 21 5, Xi 22 1 20 21, Xl 23 1 22, Xq 24 (.bin false .neq (.t 19) (.t 23))]) (.cond (.t 24) (.seq (.reg [Xb 4 (.asg .fb)]) .ret) .skip)))) (.reg [Xq 25 (.bin false .add (.t 13) (.i 1)), Xm 13 25]))))))) (.seq (.reg [Xb 4 (.asg .tb)]) .ret))))
theorem d34 (l : List Str) (hl : (l.length : Int) ≤ 1048576) : Does Go.Proofs.Tryz.prog 34 [.fsl 1 (l.map Str.z), .fsl 1 (l.map Str.z)] false (.v (.bool true)) [.dead, .dead] := by
  refine does_intro (mc := m34) (N := 26) (rs := [4]) (fx := []) 2 rfl (by decide +kernel) ?_
  simp only [m34, EV, Nat.reduceEqDiff, Nat.reduceBEq, Nat.reduceLT, Nat.reduceLeDiff, Nat.reduceAdd, Nat.reduceSub, reduceIte]
  have en : ((l.length : Int) != (l.length : Int)) = false := by simp
  refine awp_loop (fun i : Nat => i ≤ l.length) (fun i => stl [(0, .fsl 1 (l.map Str.z)), (1, .fsl 1 (l.map Str.z)), (12, .v (.int .i64 (l.length : Int))), (13, .v (.int .i64 (i : Int)))]) (fun i => l.length - i) 0 (Nat.zero_le _) ?_ ?_
  · simp only [EV, Nat.reduceEqDiff, Nat.reduceBEq, Nat.reduceLT, Nat.reduceLeDiff, Nat.reduceAdd, Nat.reduceSub, reduceIte]
    rfl
  intro i hi
  simp only [EV, Nat.reduceEqDiff, Nat.reduceBEq, Nat.reduceLT, Nat.reduceLeDiff, Nat.reduceAdd, Nat.reduceSub, reduceIte]
  refine cK_cut (fun h => ?_) (fun h => ?_)
  · have i2 : (i : Int) < (l.length : Int) := by simpa using h
    have i1 : i < l.length := by omega
    clear h
    have wi := w64 ((i : Int) + 1) (by omega)
    have es : (l[i].s.toList != l[i].s.toList) = false := by simp
    simp only [i1, i2, nth_map i1, Str.z, es, wi, EV, Nat.reduceEqDiff, Nat.reduceBEq, Nat.reduceLT, Nat.reduceLeDiff, Nat.reduceAdd, Nat.reduceSub, reduceIte]
    exact ⟨i + 1, i1, by omega, rfl⟩
  · simp only [EV, Nat.reduceEqDiff, Nat.reduceBEq, Nat.reduceLT, Nat.reduceLeDiff, Nat.reduceAdd, Nat.reduceSub, reduceIte]
    simp only [EV, Nat.reduceEqDiff, Nat.reduceBEq, Nat.reduceLT, Nat.reduceLeDiff, Nat.reduceAdd, Nat.reduceSub, reduceIte, evRE, retVC, cellV', evR, nfz, nfzs, nfzss, List.contains_nil, List.contains_cons, Bool.or_false, or_true]
end Go.AM
namespace Go.AM
set_option linter.unusedVariables false
set_option linter.unusedSimpArgs false
theorem tabOk_len {l : List Ty} (h : tabOk l = true) : l.length ≤ 24 := (tysOk_len (tabOk_tys h)).2
end Go.AM
namespace Go.AM
set_option linter.unusedVariables false
set_option linter.unusedSimpArgs false
theorem pars_num {l : List Ty} {ps : List Par} (h : parsOk l ps = true) : ∀ p ∈ ps, isNum l p.typ = true := by
  intro p hp
  obtain ⟨i, hi, rfl⟩ := List.mem_iff_getElem.1 hp
  simp only [parsOk, decide_eq_true_eq] at h
  have := h i hi hi
  simp only [parAt, Bool.and_eq_true] at this
  exact this.2.1
end Go.AM
namespace Go.AM
set_option linter.unusedVariables false
set_option linter.unusedSimpArgs false
def xorK (kd : IntKind) (a b : Int) : Int := kd.wrap (BitVec.ofInt kd.bits a ^^^ BitVec.ofInt kd.bits b).toNat
theorem evB3 : ∀ (kd : IntKind) (a b : Int) (K : AV → Prop), (binV .xor (.v (.int kd a)) (.v (.int kd b)) K = K (.v (.int kd (xorK kd a b)))) := by
  intros; simp [binV, binC, binR, xorK]
def mix1 (a b : Int) : Int := IntKind.u64.wrap (IntKind.u64.wrap (IntKind.u64.wrap (IntKind.u64.wrap a * 31) + IntKind.u64.wrap (IntKind.u64.wrap b * 131)) + 17)
def mix2 (z : Int) : Int := IntKind.u64.wrap (xorK .u64 z (shrK .u64 z 29) * 1000003)
def mix3 (z : Int) : Int := IntKind.i64.wrap (andK .u64 (xorK .u64 z (shrK .u64 z 32)) 4611686018427387903)
def mixN (a b : Int) : Int := mix3 (mix2 (mix1 a b))
def mixL (l : List Int) : Int := l.foldl mixN (l.length : Int)
def byI (s : ByteArray) : List Int := (List.range s.size).map fun i : Nat => IntKind.i64.wrap (sAt s (i : Int))
theorem byI_len (s : ByteArray) : (byI s).length = s.size := by simp [byI]
def textN (s : ByteArray) : Int := mixL (byI s)
theorem fold_take {l : List Int} {i : Nat} (h : i < l.length) (a : Int) : (l.take (i + 1)).foldl mixN a = mixN ((l.take i).foldl mixN a) l[i] := by
  rw [List.take_succ_eq_append_getElem h, List.foldl_append]; rfl
def m182 : MC :=
 (.seq (.reg [Xb 4 (.asg (.i 0))]) (.seq (.reg [Xm 6 0, Xq 7 (.conv .u64 (.t 6)), Xq 8 (.bin false .mul (.t 7) (.c (.int .u64 31))), Xm 9 1, Xq 10 (.conv .u64 (.t 9)), Xq 11 (.bin false .mul (.t 10) (.c (.int .u64 131))), Xq 12 (.bin false .add (.t 8) (.t 11)), Xq 13 (.bin false .add (.t 12) (.c (.int .u64 17))), Xa 5 13]) (.seq (.reg [Xm 14 5, Xm 15 5, Xq 16 (.bin false .shr (.t 15) (.c (.int .u64
 29))), Xq 17 (.bin false .xor (.t 14) (.t 16)), Xa 5 17]) (.seq (.reg [Xm 18 5, Xq 19 (.bin false .mul (.t 18) (.c (.int .u64 1000003))), Xa 5 19]) (.seq (.reg [Xm 20 5, Xm 21 5, Xq 22 (.bin false .shr (.t 21) (.c (.int .u64 32))), Xq 23 (.bin false .xor (.t 20) (.t 22)), Xa 5 23]) (.seq (.reg [Xm 24 5, Xq 25 (.bin false .and (.t 24) (.c (.int .u64 4611686018427387903))), Xq 26 (.conv .i64 (.t
 25)), Xa 4 26]) .ret))))))
theorem d182 (a b : Int) : Does Go.Proofs.Tryz.prog 182 [.v (.int .i64 a), .v (.int .i64 b)] false (.v (.int .i64 (mixN a b))) [.dead, .dead] := by
  refine does_intro (mc := m182) (N := 27) (rs := [4]) (fx := []) 2 rfl (by decide +kernel) ?_
  simp only [m182, evB2, evB3, EV, Nat.reduceEqDiff, Nat.reduceBEq, Nat.reduceLT, Nat.reduceLeDiff, Nat.reduceAdd, Nat.reduceSub, reduceIte]
  refine ⟨by decide, by decide, ?_⟩
  simp only [mixN, mix1, mix2, mix3, EV, Nat.reduceEqDiff, Nat.reduceBEq, Nat.reduceLT, Nat.reduceLeDiff, Nat.reduceAdd, Nat.reduceSub, reduceIte, evRE, retVC, cellV', evR, nfz, nfzs, nfzss, List.contains_nil, List.contains_cons, Bool.or_false, or_true]
def m109 : MC :=
 (.seq (.reg [Xb 2 (.asg (.i 0))]) (.seq (.reg [Xm 6 0, Xn 7 6, Xa 3 7]) (.seq (.seq (.reg [Xm 8 0, Xn 9 8, Xq 10 (.mov (.i 0))]) (.block 0 (.loop [0, 3, 8, 9, 10] (.seq (.reg [Xq 11 (.bin false .lss (.t 10) (.t 9))]) (.seq (.cond (.t 11) .skip (.exit 0)) (.seq (.block 1 (.seq (.reg [Xi 12 1 8 10, Xl 13 1 12, Xa 5 13]) (.reg [Xm 14 3, Xm 15 5, Xb 16 (.call (.fn 182) false [.lend (.t 14), .lend (.t
 15)]), Xa 3 16]))) (.reg [Xq 17 (.bin false .add (.t 10) (.i 1)), Xm 10 17]))))))) (.seq (.reg [Xm 18 3, Xa 2 18]) .ret))))
theorem d109 (l : List Int) (hl : (l.length : Int) ≤ 4611686018427387904) : Does Go.Proofs.Tryz.prog 109 [.fsl 1 (l.map iv)] false (.v (.int .i64 (mixL l))) [.dead] := by
  refine does_intro (mc := m109) (N := 19) (rs := [2]) (fx := []) 1 rfl (by decide +kernel) ?_
  simp only [m109, EV, Nat.reduceEqDiff, Nat.reduceBEq, Nat.reduceLT, Nat.reduceLeDiff, Nat.reduceAdd, Nat.reduceSub, reduceIte]
  refine awp_loop (fun i : Nat => i ≤ l.length) (fun i => stl [(0, .fsl 1 (l.map iv)), (3, .v (.int .i64 ((l.take i).foldl mixN (l.length : Int)))), (8, .fsl 1 (l.map iv)), (9, .v (.int .i64 (l.length : Int))), (10, .v (.int .i64 (i : Int)))]) (fun i => l.length - i) 0 (Nat.zero_le _) ?_ ?_
  · simp only [List.take_zero, List.foldl_nil, EV, Nat.reduceEqDiff, Nat.reduceBEq, Nat.reduceLT, Nat.reduceLeDiff, Nat.reduceAdd, Nat.reduceSub, reduceIte]
    rfl
  · intro i hi
    simp only [EV, Nat.reduceEqDiff, Nat.reduceBEq, Nat.reduceLT, Nat.reduceLeDiff, Nat.reduceAdd, Nat.reduceSub, reduceIte]
    refine cK_cut (fun h => ?_) (fun h => ?_)
    · have h1 : i < l.length := by simpa using h
      have h2 : (i : Int) < (l.length : Int) := by omega
      simp only [h2, nth_map h1, iv, EV, Nat.reduceEqDiff, Nat.reduceBEq, Nat.reduceLT, Nat.reduceLeDiff, Nat.reduceAdd, Nat.reduceSub, reduceIte]
      refine callK_i (d182 _ _) ?_
      simp only [EV, Nat.reduceEqDiff, Nat.reduceBEq, Nat.reduceLT, Nat.reduceLeDiff, Nat.reduceAdd, Nat.reduceSub, reduceIte]
      rw [w64 _ (by omega)]
      exact ⟨i + 1, h1, by omega, by rw [fold_take h1]; rfl⟩
    · have h1 : i = l.length := by have : ¬ (i : Int) < l.length := by simpa using h
                                   omega
      subst h1
      simp only [EV, Nat.reduceEqDiff, Nat.reduceBEq, Nat.reduceLT, Nat.reduceLeDiff, Nat.reduceAdd, Nat.reduceSub, reduceIte]
      simp only [mixL, List.take_length, EV, Nat.reduceEqDiff, Nat.reduceBEq, Nat.reduceLT, Nat.reduceLeDiff, Nat.reduceAdd, Nat.reduceSub, reduceIte, evRE, retVC, cellV', evR, nfz, nfzs, nfzss, List.contains_nil, List.contains_cons, Bool.or_false, or_true]
theorem byI_take {s : ByteArray} {i : Nat} (h : i < s.size) : (byI s).take (i + 1) = (byI s).take i ++ [IntKind.i64.wrap (sAt s (i : Int))] := by
  have h1 : i < (byI s).length := by rw [byI_len]; exact h
  rw [List.take_succ_eq_append_getElem h1]
  simp [byI]
def m181 : MC :=
 (.seq (.reg [Xb 2 (.asg (.nils 3 1))]) (.seq (.reg [Xb 5 (.bsl 3 1 []), Xa 3 5]) (.seq (.seq (.reg [Xm 6 0, Xq 7 (.len true (.t 6)), Xq 8 (.mov (.i 0))]) (.block 0 (.loop [0, 3, 5, 7, 8, 17] (.seq (.reg [Xq 9 (.bin false .lss (.t 8) (.t 7))]) (.seq (.cond (.t 9) .skip (.exit 0)) (.seq (.block 1 (.seq (.reg [Xm 10 8, Xa 4 10]) (.reg [Xm 11 3, Xm 12 0, Xm 13 4, Xq 14 (.idx (.t 12) (.t 13)), Xq 15
 (.conv .i64 (.t 14)), Xb 16 (.bsl 3 1 [.t 15]), Xb 17 (.app true 3 1 8 (.t 11) (.t 16)), Xa 3 17]))) (.reg [Xq 18 (.bin false .add (.t 8) (.i 1)), Xm 8 18]))))))) (.seq (.reg [Xm 19 3, Xa 2 19]) .ret))))
theorem d181 (s : ByteArray) (hs : (s.size : Int) ≤ 1048576) : Does Go.Proofs.Tryz.prog 181 [.v (.string s)] false (.usl 3 1 ((byI s).map iv)) [.dead] := by
  refine does_intro (mc := m181) (N := 20) (rs := [2]) (fx := []) 1 rfl (by decide +kernel) ?_
  simp only [m181, EV, Nat.reduceEqDiff, Nat.reduceBEq, Nat.reduceLT, Nat.reduceLeDiff, Nat.reduceAdd, Nat.reduceSub, reduceIte]
  refine awp_loop (fun i : Nat => i ≤ s.size) (fun i => stl [(0, .v (.string s)), (3, .usl 3 1 (((byI s).take i).map iv)), (5, .dead), (7, .v (.int .i64 (s.size : Int))), (8, .v (.int .i64 (i : Int))), (17, .dead)]) (fun i => s.size - i) 0 (Nat.zero_le _) ?_ ?_
  · simp only [List.take_zero, List.map_nil, EV, Nat.reduceEqDiff, Nat.reduceBEq, Nat.reduceLT, Nat.reduceLeDiff, Nat.reduceAdd, Nat.reduceSub, reduceIte]
    rfl
  · intro i hi
    simp only [EV, Nat.reduceEqDiff, Nat.reduceBEq, Nat.reduceLT, Nat.reduceLeDiff, Nat.reduceAdd, Nat.reduceSub, reduceIte]
    refine cK_cut (fun h => ?_) (fun h => ?_)
    · have h2 : (i : Int) < s.size := by simpa using h
      have h1 : i < s.size := by omega
      have hb := byI_len s
      simp only [h2, EV, Nat.reduceEqDiff, Nat.reduceBEq, Nat.reduceLT, Nat.reduceLeDiff, Nat.reduceAdd, Nat.reduceSub, reduceIte]
      refine ⟨by simp; omega, by simp; omega, ?_⟩
      rw [w64 ((i : Int) + 1) (by omega)]
      exact ⟨i + 1, h1, by omega, by rw [byI_take h1, List.map_append]; rfl⟩
    · have h1 : i = s.size := by have : ¬ (i : Int) < s.size := by simpa using h
                                 omega
      subst h1
      have e : (byI s).take s.size = byI s := by rw [List.take_of_length_le]; rw [byI_len]; exact Nat.le_refl _
      simp only [EV, Nat.reduceEqDiff, Nat.reduceBEq, Nat.reduceLT, Nat.reduceLeDiff, Nat.reduceAdd, Nat.reduceSub, reduceIte]
      simp only [e, iv_nfz, EV, Nat.reduceEqDiff, Nat.reduceBEq, Nat.reduceLT, Nat.reduceLeDiff, Nat.reduceAdd, Nat.reduceSub, reduceIte, evRE, retVC, cellV', evR, nfz, nfzs, nfzss, List.contains_nil, List.contains_cons, Bool.or_false, or_true]
def m108 : MC :=
 (.seq (.reg [Xb 2 (.asg (.i 0))]) (.seq (.reg [Xm 3 0, Xb 4 (.call (.fn 181) false [.lend (.t 3)]), Xb 5 (.call (.fn 109) false [.lend (.t 4)]), Xa 2 5]) .ret))
theorem d108 (s : ByteArray) (hs : (s.size : Int) ≤ 1048576) : Does Go.Proofs.Tryz.prog 108 [.v (.string s)] false (.v (.int .i64 (textN s))) [.dead] := by
  have hb := byI_len s
  refine does_intro (mc := m108) (N := 6) (rs := [2]) (fx := []) 1 rfl (by decide +kernel) ?_
  simp only [m108, EV, Nat.reduceEqDiff, Nat.reduceBEq, Nat.reduceLT, Nat.reduceLeDiff, Nat.reduceAdd, Nat.reduceSub, reduceIte]
  refine callK_i (d181 s hs) ?_
  simp only [iv_frz, EV, Nat.reduceEqDiff, Nat.reduceBEq, Nat.reduceLT, Nat.reduceLeDiff, Nat.reduceAdd, Nat.reduceSub, reduceIte]
  refine callK_i (d109 (byI s) (by omega)) ?_
  simp only [EV, Nat.reduceEqDiff, Nat.reduceBEq, Nat.reduceLT, Nat.reduceLeDiff, Nat.reduceAdd, Nat.reduceSub, reduceIte]
  simp only [textN, EV, Nat.reduceEqDiff, Nat.reduceBEq, Nat.reduceLT, Nat.reduceLeDiff, Nat.reduceAdd, Nat.reduceSub, reduceIte, evRE, retVC, cellV', evR, nfz, nfzs, nfzss, List.contains_nil, List.contains_cons, Bool.or_false, or_true]
end Go.AM
namespace Go.AM
set_option linter.unusedVariables false
set_option linter.unusedSimpArgs false
def capS (t : Ty) (s : Int) : Int := min 1000000001 (if (t.kind == 4) = true then s * t.long else s)
def sumZ (g : Int → Int) : List Int → Int
  | [] => 0
  | k :: ks => g k + sumZ g ks
def oneT (t : Ty) (g : Int → Int) : Int :=
  if (t.kind == 1) = true then 4 else if (t.kind == 2 || t.kind == 3) = true then 1 else if (t.kind == 6) = true then 8 else capS t (sumZ g (prt false t))
def szN (l : List Ty) : Nat → Int → Int
  | 0, _ => 0
  | f + 1, n => match l[n.toNat]? with
    | some t => oneT t (szN l f)
    | none => 0
def sz (l : List Ty) (n : Int) : Int := szN l (l.length + 1) n
def getS (s : List Int) (k : Int) : Int := s[k.toNat]?.getD 0
end Go.AM
namespace Go.AM
set_option linter.unusedVariables false
set_option linter.unusedSimpArgs false
def head1 (t : Ty) : Int := mixL [t.kind, t.long, textN t.owner, textN t.name, (t.fields.length : Int)]
def fstL (l : List Ty) : List Int := l.map head1
def baseN (now : List Int) (t : Ty) : Int := if decide (0 ≤ t.base) = true then getS now t.base else 7
def fldN (now : List Int) (f : Fd) : List Int := [textN f.name, f.mark, getS now f.typ]
def fldsN (now : List Int) (fs : List Fd) : List Int := fs.flatMap (fldN now)
def prtN (fst now : List Int) (k : Nat) (t : Ty) : List Int := [getS fst (k : Int), baseN now t] ++ fldsN now t.fields
def rowN (fst now : List Int) (l : List Ty) : List Int := l.mapIdx fun k t => mixL (prtN fst now k t)
def rnd (l : List Ty) : Nat → List Int
  | 0 => fstL l
  | k + 1 => rowN (fstL l) (rnd l k) l
theorem fstL_len (l : List Ty) : (fstL l).length = l.length := by simp [fstL]
theorem rowN_len (fst now : List Int) (l : List Ty) : (rowN fst now l).length = l.length := by simp [rowN]
theorem rnd_len (l : List Ty) : ∀ k, (rnd l k).length = l.length
  | 0 => fstL_len l
  | k + 1 => rowN_len _ _ l
theorem fstL_take {l : List Ty} {i : Nat} (h : i < l.length) : (fstL l).take (i + 1) = (fstL l).take i ++ [head1 l[i]] := by
  have h1 : i < (fstL l).length := by rw [fstL_len]; exact h
  rw [List.take_succ_eq_append_getElem h1]; simp [fstL]
theorem rowN_take {fst now : List Int} {l : List Ty} {i : Nat} (h : i < l.length) : (rowN fst now l).take (i + 1) = (rowN fst now l).take i ++ [mixL (prtN fst now i l[i])] := by
  have h1 : i < (rowN fst now l).length := by rw [rowN_len]; exact h
  rw [List.take_succ_eq_append_getElem h1]; simp [rowN]
theorem fldsN_take {now : List Int} {fs : List Fd} {i : Nat} (h : i < fs.length) : fldsN now (fs.take (i + 1)) = fldsN now (fs.take i) ++ fldN now fs[i] := by
  unfold fldsN; rw [List.take_succ_eq_append_getElem h, List.flatMap_append, List.flatMap_singleton]
theorem fldsN_len (now : List Int) : ∀ fs : List Fd, (fldsN now fs).length = 3 * fs.length
  | [] => rfl
  | f :: fs => by
    have := fldsN_len now fs
    simp only [fldsN, List.flatMap_cons, List.length_append, List.length_cons] at this ⊢
    rw [this]; simp [fldN]; omega
theorem getS_nat {s : List Int} {k : Int} (h : k.toNat < s.length) : s[k.toNat] = getS s k := by simp [getS, h]
theorem tys_base {l : List Ty} (ht : tysOk l = true) {i : Nat} (h : i < l.length) (hb : 0 ≤ l[i].base) : l[i].base < (l.length : Int) := by
  rcases (tysOk_good ht h).base with h1 | h1
  · omega
  · exact (isNum_in.1 h1).2
theorem tys_fld {l : List Ty} (ht : tysOk l = true) {i : Nat} (h : i < l.length) {j : Nat} (hj : j < l[i].fields.length) : 0 ≤ l[i].fields[j].typ ∧ l[i].fields[j].typ < (l.length : Int) :=
  isNum_in.1 ((tysOk_good ht h).flds _ (List.getElem_mem hj))
end Go.AM
namespace Go.AM
set_option linter.unusedVariables false
set_option linter.unusedSimpArgs false
def m100 : MC :=
 (.seq (.reg [Xb 4 (.asg (.nils 3 1))]) (.seq (.reg [Xb 15 (.bsl 3 1 []), Xa 5 15]) (.seq (.seq (.reg [Xm 16 0, Xn 17 16, Xq 18 (.mov (.i 0))]) (.block 0 (.loop [0, 1, 5, 15, 16, 17, 18, 39] (.seq (.reg [Xq 19 (.bin false .lss (.t 18) (.t 17))]) (.seq (.cond (.t 19) .skip (.exit 0)) (.seq (.block 1 (.seq (.reg [Xi 20 6 16 18, XL 21 6 20, Xb 7 (.alloc 129 [.i, .i, .i, .s 138 3, .z, .z]), Xz (.store
 6 (.t 7) (.t 21))]) (.mix [7] [0, 1, 5, 15, 16, 17, 18, 39] [] [] [1, 2, 3, 4, 5, 6, 8, 9, 11, 12, 13] [0, 7, 10, 14, 15, 16, 17, 18] [Xf 23 0 7, Xl 24 1 23, Xf 25 1 7, Xl 26 1 25, Xf 27 4 7, Xl 28 1 27, Xf 30 5 7, Xl 31 1 30, Xf 33 3 7, Xl 34 1 33, Xn 35 34] [Xm 22 5, Xb 29 (.call (.fn 108) false [.lend (.t 28)]), Xb 32 (.call (.fn 108) false [.lend (.t 31)]), Xb 36 (.bsl 3 1 [.t 24, .t 26, .t
 29, .t 32, .t 35]), Xb 37 (.call (.fn 109) false [.lend (.t 36)]), Xb 38 (.bsl 3 1 [.t 37]), Xb 39 (.app true 3 1 8 (.t 22) (.t 38)), Xa 5 39]))) (.reg [Xq 40 (.bin false .add (.t 18) (.i 1)), Xm 18 40]))))))) (.seq (.frz 5 (.reg [Xm 41 5, Xa 8 41])) (.seq (.seq (.reg [Xm 42 1, Xq 43 (.mov (.i 0))]) (.block 2 (.loop [0, 5, 8, 9, 15, 39, 41, 42, 43, 45, 93, 95] (.seq (.reg [Xq 44 (.bin false .lss
 (.t 43) (.t 42))]) (.seq (.cond (.t 44) .skip (.exit 2)) (.seq (.block 3 (.seq (.reg [Xb 45 (.bsl 3 1 []), Xa 9 45]) (.seq (.seq (.reg [Xm 46 0, Xn 47 46, Xq 48 (.mov (.i 0))]) (.block 4 (.loop [0, 5, 8, 9, 15, 39, 41, 42, 43, 45, 46, 47, 48, 93, 95] (.seq (.reg [Xq 49 (.bin false .lss (.t 48) (.t 47))]) (.seq (.cond (.t 49) .skip (.exit 4)) (.join [0, 5, 8, 9, 15, 39, 41, 42, 43, 45, 46, 47, 48,
 93, 95] (.block 5 (.seq (.reg [Xm 50 48, Xi 51 6 46 48, XL 52 6 51, Xb 11 (.alloc 129 [.i, .i, .i, .s 138 3, .z, .z]), Xa 10 50, Xz (.store 6 (.t 11) (.t 52))]) (.seq (.reg [Xm 53 5, Xm 54 10, Xi 55 1 53 54, Xl 56 1 55, Xb 57 (.bsl 3 1 [.t 56, .i 7]), Xa 12 57]) (.join [0, 5, 8, 9, 11, 12, 15, 39, 41, 42, 43, 45, 46, 47, 48, 57, 87, 93, 95] (.seq (.reg [Xf 58 2 11, Xl 59 1 58, Xq 60 (.bin false
 .geq (.t 59) (.i 0))]) (.cond (.t 60) (.reg [Xm 61 12, Xm 62 8, Xf 63 2 11, Xl 64 1 63, Xi 65 1 62 64, Xl 66 1 65, Xq 67 (.iad 1 (.t 61) (.i 1)), Xz (.store 1 (.t 67) (.t 66))]) .skip)) (.seq (.seq (.reg [Xf 68 3 11, Xl 69 1 68, Xn 70 69, Xq 71 (.mov (.i 0))]) (.block 6 (.loop [0, 5, 8, 9, 11, 12, 15, 39, 41, 42, 43, 45, 46, 47, 48, 57, 68, 69, 70, 71, 87, 93, 95] (.seq (.reg [Xq 72 (.bin false
 .lss (.t 71) (.t 70))]) (.seq (.cond (.t 72) .skip (.exit 6)) (.seq (.block 7 (.seq (.reg [Xi 73 3 69 71, XL 74 3 73, Xb 14 (.alloc 138 [.z, .i, .i]), Xz (.store 3 (.t 14) (.t 74))]) (.mixt [14] [0, 5, 8, 9, 11, 12, 15, 39, 41, 42, 43, 45, 46, 47, 48, 57, 68, 69, 70, 71, 87, 93, 95] [] [] [1, 2, 4, 5, 7, 8] [Xf 76 0 14, Xl 77 1 76, Xf 79 1 14, Xl 80 1 79, Xf 82 2 14, Xl 83 1 82] (.step 0 (Xm 75
 12) (.step 6 (Xm 81 8) (.step 9 (Xi 84 1 81 83) (.alt (.step 3 (Xb 78 (.call (.fn 108) false [.lend (.t 77)])) (.step 10 (Xl 85 1 84) (.step 11 (Xb 86 (.bsl 3 1 [.t 78, .t 80, .t 85])) (.step 12 (Xb 87 (.app true 3 1 8 (.t 75) (.t 86))) (.step 13 (Xa 12 87) .nil))))) (.step 10 (Xl 85 1 84) (.step 3 (Xb 78 (.call (.fn 108) false [.lend (.t 77)])) (.step 11 (Xb 86 (.bsl 3 1 [.t 78, .t 80, .t 85]))
 (.step 12 (Xb 87 (.app true 3 1 8 (.t 75) (.t 86))) (.step 13 (Xa 12 87) .nil)))))))))))) (.reg [Xq 88 (.bin false .add (.t 71) (.i 1)), Xm 71 88]))))))) (.reg [Xm 89 9, Xm 90 12, Xb 91 (.call (.fn 109) false [.lend (.t 90)]), Xb 92 (.bsl 3 1 [.t 91]), Xb 93 (.app true 3 1 8 (.t 89) (.t 92)), Xa 9 93])))))) (.reg [Xq 94 (.bin false .add (.t 48) (.i 1)), Xm 48 94]))))))) (.reg [Xm 95 9, Xa 8
 95])))) (.frz 8 (.reg [Xq 96 (.bin false .add (.t 43) (.i 1)), Xm 43 96])))))))) (.seq (.reg [Xm 97 8, Xa 4 97]) .ret))))))
set_option maxHeartbeats 4000000 in
set_option maxRecDepth 100000 in
theorem d100 (l : List Ty) (r : Int) (h24 : l.length ≤ 24) (hs : ∀ s ∈ l, s.sm) (ht : tysOk l = true) (h0 : 0 ≤ r) (h1 : r ≤ 25) :
    Does Go.Proofs.Tryz.prog 100 [.fsl 6 (l.map Ty.z), .v (.int .i64 r)] false (.usl 3 1 ((rnd l r.toNat).map iv)) [.dead, .dead] := by
  have hfl := fstL_len l
  refine does_intro (mc := m100) (N := 98) (rs := [4]) (fx := []) 2 rfl (by decide +kernel) ?_
  simp only [m100, EV, Nat.reduceEqDiff, Nat.reduceBEq, Nat.reduceLT, Nat.reduceLeDiff, Nat.reduceAdd, Nat.reduceSub, reduceIte]
  refine awp_loop (fun i : Nat => i ≤ l.length) (fun i => stl [(0, .fsl 6 (l.map Ty.z)), (1, .v (.int .i64 r)), (5, .usl 3 1 (((fstL l).take i).map iv)), (15, .dead), (16, .fsl 6 (l.map Ty.z)), (17, .v (.int .i64 (l.length : Int))), (18, .v (.int .i64 (i : Int))), (39, .dead)]) (fun i => l.length - i) 0 (Nat.zero_le _) ?_ ?_
  · simp only [List.take_zero, List.map_nil, EV, Nat.reduceEqDiff, Nat.reduceBEq, Nat.reduceLT, Nat.reduceLeDiff, Nat.reduceAdd, Nat.reduceSub, reduceIte]
    rfl
  intro i hi
  simp only [EV, Nat.reduceEqDiff, Nat.reduceBEq, Nat.reduceLT, Nat.reduceLeDiff, Nat.reduceAdd, Nat.reduceSub, reduceIte]
  refine cK_cut (fun h => ?_) (fun h => ?_)
  · have q1 : i < l.length := by simpa using h
    have q2 : (i : Int) < (l.length : Int) := by omega
    have hsm := hs _ (List.getElem_mem q1)
    have hsm' := hsm
    unfold Ty.sm at hsm'
    clear h
    simp only [q1, q2, nth_map q1, Ty.z, EV, Nat.reduceEqDiff, Nat.reduceBEq, Nat.reduceLT, Nat.reduceLeDiff, Nat.reduceAdd, Nat.reduceSub, reduceIte]
    refine callK_i (d108 l[i].owner hsm'.2.2.2.2.1) ?_
    simp only [EV, Nat.reduceEqDiff, Nat.reduceBEq, Nat.reduceLT, Nat.reduceLeDiff, Nat.reduceAdd, Nat.reduceSub, reduceIte]
    refine callK_i (d108 l[i].name hsm'.2.2.2.2.2) ?_
    simp only [EV, Nat.reduceEqDiff, Nat.reduceBEq, Nat.reduceLT, Nat.reduceLeDiff, Nat.reduceAdd, Nat.reduceSub, reduceIte]
    refine callK_i (d109 [l[i].kind, l[i].long, textN l[i].owner, textN l[i].name, (l[i].fields.length : Int)] (by simp)) ?_
    simp only [EV, Nat.reduceEqDiff, Nat.reduceBEq, Nat.reduceLT, Nat.reduceLeDiff, Nat.reduceAdd, Nat.reduceSub, reduceIte]
    refine ⟨by simp; omega, by simp; omega, ?_⟩
    rw [w64 _ (by omega)]
    exact ⟨i + 1, q1, by omega, by rw [fstL_take q1, List.map_append]; rfl⟩
  have q1 : i = l.length := by have : ¬ (i : Int) < l.length := by simpa using h
                               omega
  subst q1
  have e : (fstL l).take l.length = fstL l := by rw [List.take_of_length_le]; omega
  rw [e]
  clear h hi e
  by_cases r0 : r = 0
  · subst r0
    refine awp_frz_no ?_
    simp only [EV, Nat.reduceEqDiff, Nat.reduceBEq, Nat.reduceLT, Nat.reduceLeDiff, Nat.reduceAdd, Nat.reduceSub, reduceIte]
    refine awp_loop (fun _ : Unit => True) (fun _ => stl [(0, .fsl 6 (l.map Ty.z)), (5, .dead), (8, .usl 3 1 ((fstL l).map iv)), (9, .dead), (15, .dead), (39, .dead), (41, .dead), (42, .v (.int .i64 0)), (43, .v (.int .i64 0)), (45, .dead), (93, .dead), (95, .dead)]) (fun _ => 0) () trivial ?_ ?_
    · simp only [EV, Nat.reduceEqDiff, Nat.reduceBEq, Nat.reduceLT, Nat.reduceLeDiff, Nat.reduceAdd, Nat.reduceSub, reduceIte]
    · intro _ _
      simp only [EV, Nat.reduceEqDiff, Nat.reduceBEq, Nat.reduceLT, Nat.reduceLeDiff, Nat.reduceAdd, Nat.reduceSub, reduceIte]
      have e00 : decide ((0 : Int) < 0) = false := by decide
      simp only [e00, EV, Nat.reduceEqDiff, Nat.reduceBEq, Nat.reduceLT, Nat.reduceLeDiff, Nat.reduceAdd, Nat.reduceSub, reduceIte]
      simp only [Int.toNat_zero, rnd, iv_nfz, EV, Nat.reduceEqDiff, Nat.reduceBEq, Nat.reduceLT, Nat.reduceLeDiff, Nat.reduceAdd, Nat.reduceSub, reduceIte, evRE, retVC, cellV', evR, nfz, nfzs, nfzss, List.contains_nil, List.contains_cons, Bool.or_false, or_true]
  refine awp_frz (by rfl) ?_
  simp only [frzSE, iv_frz, EV, Nat.reduceEqDiff, Nat.reduceBEq, Nat.reduceLT, Nat.reduceLeDiff, Nat.reduceAdd, Nat.reduceSub, reduceIte]
  refine awp_loop (fun o : Option Nat => ∀ k ∈ o, (k : Int) < r) (fun o => o.elim (stl [(0, .fsl 6 (l.map Ty.z)), (5, .fsl 1 ((fstL l).map iv)), (8, .usl 3 1 ((rnd l r.toNat).map iv)), (9, .dead), (15, .dead), (39, .dead), (41, .fsl 1 ((fstL l).map iv)), (42, .v (.int .i64 r)), (43, .v (.int .i64 r)), (45, .dead), (93, .dead), (95, .dead)])
    (fun k => stl [(0, .fsl 6 (l.map Ty.z)), (5, .fsl 1 ((fstL l).map iv)), (8, .fsl 1 ((rnd l k).map iv)), (9, .dead), (15, .dead), (39, .dead), (41, .fsl 1 ((fstL l).map iv)), (42, .v (.int .i64 r)), (43, .v (.int .i64 (k : Int))), (45, .dead), (93, .dead), (95, .dead)])) (fun o => o.elim 0 (fun k => r.toNat - k + 1)) (some 0) (fun _ hk => by cases hk; omega) ?_ ?_
  · simp only [Option.elim_some, rnd, Int.natCast_zero, frzSE, iv_frz, EV, Nat.reduceEqDiff, Nat.reduceBEq, Nat.reduceLT, Nat.reduceLeDiff, Nat.reduceAdd, Nat.reduceSub, reduceIte]
  intro o ho
  cases o with
  | none =>
    have err : decide (r < r) = false := by simp
    simp only [Option.elim_none, err, EV, Nat.reduceEqDiff, Nat.reduceBEq, Nat.reduceLT, Nat.reduceLeDiff, Nat.reduceAdd, Nat.reduceSub, reduceIte]
    simp only [iv_nfz, EV, Nat.reduceEqDiff, Nat.reduceBEq, Nat.reduceLT, Nat.reduceLeDiff, Nat.reduceAdd, Nat.reduceSub, reduceIte, evRE, retVC, cellV', evR, nfz, nfzs, nfzss, List.contains_nil, List.contains_cons, Bool.or_false, or_true]
  | some k =>
  have q1 : (k : Int) < r := ho k rfl
  have q2 : decide ((k : Int) < r) = true := by simpa using q1
  simp only [Option.elim_some, q2, EV, Nat.reduceEqDiff, Nat.reduceBEq, Nat.reduceLT, Nat.reduceLeDiff, Nat.reduceAdd, Nat.reduceSub, reduceIte]
  have hnl := rnd_len l k
  refine awp_loop (fun i : Nat => i ≤ l.length) (fun i => stl [(0, .fsl 6 (l.map Ty.z)), (5, .fsl 1 ((fstL l).map iv)), (8, .fsl 1 ((rnd l k).map iv)), (9, .usl 3 1 (((rowN (fstL l) (rnd l k) l).take i).map iv)), (15, .dead), (39, .dead), (41, .fsl 1 ((fstL l).map iv)), (42, .v (.int .i64 r)), (43, .v (.int .i64 (k : Int))), (45, .dead), (46, .fsl 6 (l.map Ty.z)), (47, .v (.int .i64 (l.length : Int))), (48, .v (.int .i64 (i : Int))), (93, .dead), (95, .dead)]) (fun i => l.length - i) 0 (Nat.zero_le _) ?_ ?_
  · simp only [List.take_zero, List.map_nil, EV, Nat.reduceEqDiff, Nat.reduceBEq, Nat.reduceLT, Nat.reduceLeDiff, Nat.reduceAdd, Nat.reduceSub, reduceIte]
    rfl
  intro i hi
  simp only [EV, Nat.reduceEqDiff, Nat.reduceBEq, Nat.reduceLT, Nat.reduceLeDiff, Nat.reduceAdd, Nat.reduceSub, reduceIte]
  refine cK_cut (fun h => ?_) (fun h => ?_)
  rotate_left
  · have p1 : i = l.length := by have : ¬ (i : Int) < l.length := by simpa using h
                                 omega
    subst p1
    have e : (rowN (fstL l) (rnd l k) l).take l.length = rnd l (k + 1) := by rw [List.take_of_length_le]; rfl; rw [rowN_len]; exact Nat.le_refl _
    rw [e]
    have w1 := w64 ((k : Int) + 1) (by omega)
    simp only [w1, EV, Nat.reduceEqDiff, Nat.reduceBEq, Nat.reduceLT, Nat.reduceLeDiff, Nat.reduceAdd, Nat.reduceSub, reduceIte]
    by_cases hlast : ((k + 1 : Nat) : Int) = r
    · refine awp_frz_no ?_
      have e3 : (k : Int) + 1 = r := by omega
      have e4 : k + 1 = r.toNat := by omega
      simp only [w1, e3, e4, EV, Nat.reduceEqDiff, Nat.reduceBEq, Nat.reduceLT, Nat.reduceLeDiff, Nat.reduceAdd, Nat.reduceSub, reduceIte]
      have w2 := w64 r (by omega)
      rw [w2]
      exact ⟨none, (fun _ hk => by cases hk), by simp only [Option.elim_none]; omega, rfl⟩
    · refine awp_frz (by rfl) ?_
      simp only [w1, frzSE, iv_frz, EV, Nat.reduceEqDiff, Nat.reduceBEq, Nat.reduceLT, Nat.reduceLeDiff, Nat.reduceAdd, Nat.reduceSub, reduceIte]
      refine ⟨some (k + 1), (fun _ hk => by cases hk; omega), by simp only [Option.elim_some]; omega, ?_⟩
      simp only [Option.elim_some, Int.natCast_add, Int.natCast_one]
  have p1 : i < l.length := by simpa using h
  have p2 : (i : Int) < (l.length : Int) := by omega
  have p3 : i < (fstL l).length := by omega
  have p4 : (i : Int) < ((fstL l).length : Int) := by omega
  have hsm := hs _ (List.getElem_mem p1)
  have hsm' := hsm
  unfold Ty.sm at hsm'
  clear h
  have e0 : (fstL l)[i] = getS (fstL l) (i : Int) := by simp [getS, p3]
  refine awp_join (fun _ : Unit => True) (fun _ => stl [(0, .fsl 6 (l.map Ty.z)), (5, .fsl 1 ((fstL l).map iv)), (8, .fsl 1 ((rnd l k).map iv)), (9, .usl 3 1 (((rowN (fstL l) (rnd l k) l).take (i + 1)).map iv)), (15, .dead), (39, .dead), (41, .fsl 1 ((fstL l).map iv)), (42, .v (.int .i64 r)), (43, .v (.int .i64 (k : Int))), (45, .dead), (46, .fsl 6 (l.map Ty.z)), (47, .v (.int .i64 (l.length : Int))), (48, .v (.int .i64 (i : Int))), (93, .dead), (95, .dead)]) ?_ ?_
  · simp only [p1, p2, p3, p4, nth_map p1, nth_map p3, iv, e0, Ty.z, decide_true, EV, Nat.reduceEqDiff, Nat.reduceBEq, Nat.reduceLT, Nat.reduceLeDiff, Nat.reduceAdd, Nat.reduceSub, reduceIte]
    refine awp_join (fun _ : Unit => True) (fun _ => stl [(0, .fsl 6 (l.map Ty.z)), (5, .fsl 1 ((fstL l).map iv)), (8, .fsl 1 ((rnd l k).map iv)), (9, .usl 3 1 (((rowN (fstL l) (rnd l k) l).take i).map iv)), (11, .box 129 l[i].z), (12, .usl 3 1 ([getS (fstL l) (i : Int), baseN (rnd l k) l[i]].map iv)), (15, .dead), (39, .dead), (41, .fsl 1 ((fstL l).map iv)), (42, .v (.int .i64 r)), (43, .v (.int .i64 (k : Int))), (45, .dead), (46, .fsl 6 (l.map Ty.z)), (47, .v (.int .i64 (l.length : Int))), (48, .v (.int .i64 (i : Int))), (57, .dead), (87, .dead), (93, .dead), (95, .dead)]) ?_ ?_
    · simp only [Ty.z, EV, Nat.reduceEqDiff, Nat.reduceBEq, Nat.reduceLT, Nat.reduceLeDiff, Nat.reduceAdd, Nat.reduceSub, reduceIte]
      rcases eb : decide (0 ≤ l[i].base) with _ | _
      · simp only [EV, Nat.reduceEqDiff, Nat.reduceBEq, Nat.reduceLT, Nat.reduceLeDiff, Nat.reduceAdd, Nat.reduceSub, reduceIte]
        refine ⟨(), ?_⟩
        simp only [baseN, eb, if_false, Bool.false_eq_true, iv, List.map_cons, List.map_nil]
      · have b0 : 0 ≤ l[i].base := by simpa using eb
        have b1 := tys_base ht p1 b0
        have b2 : l[i].base.toNat < (rnd l k).length := by omega
        have b3 : l[i].base < ((rnd l k).length : Int) := by omega
        have e1 := getS_nat b2
        simp only [b0, b2, b3, nth_map b2, e1, iv, Ty.z, EV, Nat.reduceEqDiff, Nat.reduceBEq, Nat.reduceLT, Nat.reduceLeDiff, Nat.reduceAdd, Nat.reduceSub, reduceIte]
        refine ⟨by decide, by decide, by decide, (), ?_⟩
        simp only [baseN, eb, if_true, iv, List.map_cons, List.map_nil]
        rfl
    rintro _ _
    simp only [Ty.z, EV, Nat.reduceEqDiff, Nat.reduceBEq, Nat.reduceLT, Nat.reduceLeDiff, Nat.reduceAdd, Nat.reduceSub, reduceIte]
    refine awp_loop (fun j : Nat => j ≤ l[i].fields.length) (fun j => stl [(0, .fsl 6 (l.map Ty.z)), (5, .fsl 1 ((fstL l).map iv)), (8, .fsl 1 ((rnd l k).map iv)), (9, .usl 3 1 (((rowN (fstL l) (rnd l k) l).take i).map iv)), (11, .box 129 l[i].z), (12, .usl 3 1 (([getS (fstL l) (i : Int), baseN (rnd l k) l[i]] ++ fldsN (rnd l k) (l[i].fields.take j)).map iv)), (15, .dead), (39, .dead), (41, .fsl 1 ((fstL l).map iv)), (42, .v (.int .i64 r)), (43, .v (.int .i64 (k : Int))), (45, .dead), (46, .fsl 6 (l.map Ty.z)), (47, .v (.int .i64 (l.length : Int))), (48, .v (.int .i64 (i : Int))), (57, .dead), (68, .ref 11 [] 0 3), (69, .fsl 3 (l[i].fields.map Fd.z)), (70, .v (.int .i64 (l[i].fields.length : Int))), (71, .v (.int .i64 (j : Int))), (87, .dead), (93, .dead), (95, .dead)]) (fun j => l[i].fields.length - j) 0 (Nat.zero_le _) ?_ ?_
    · simp only [List.take_zero, fldsN, List.flatMap_nil, List.append_nil, Ty.z, EV, Nat.reduceEqDiff, Nat.reduceBEq, Nat.reduceLT, Nat.reduceLeDiff, Nat.reduceAdd, Nat.reduceSub, reduceIte]
      rfl
    intro j hj
    have f6 := (tysOk_good ht p1).few
    have hln := fldsN_len (rnd l k) (l[i].fields.take j)
    rw [List.length_take] at hln
    simp only [Ty.z, EV, Nat.reduceEqDiff, Nat.reduceBEq, Nat.reduceLT, Nat.reduceLeDiff, Nat.reduceAdd, Nat.reduceSub, reduceIte]
    refine cK_cut (fun h => ?_) (fun h => ?_)
    · have j1 : j < l[i].fields.length := by simpa using h
      have j2 : (j : Int) < (l[i].fields.length : Int) := by omega
      obtain ⟨t0, t1⟩ := tys_fld ht p1 j1
      have t2 : l[i].fields[j].typ.toNat < (rnd l k).length := by omega
      have t3 : l[i].fields[j].typ < ((rnd l k).length : Int) := by omega
      have et := getS_nat t2
      have hnm := (hsm'.2.2.2.1.2 _ (List.getElem_mem j1)).1
      clear h
      simp only [FdE, j1, j2, nth_map j1, Fd.z, t0, t2, t3, nth_map t2, et, iv, EV, Nat.reduceEqDiff, Nat.reduceBEq, Nat.reduceLT, Nat.reduceLeDiff, Nat.reduceAdd, Nat.reduceSub, reduceIte]
      have w1 := w64 ((j : Int) + 1) (by omega)
      refine ⟨?_, ?_⟩
      all_goals
        refine callK_i (d108 l[i].fields[j].name hnm) ?_
        simp only [FdE, j1, j2, nth_map j1, Fd.z, t0, t2, t3, nth_map t2, et, iv, w1, EV, Nat.reduceEqDiff, Nat.reduceBEq, Nat.reduceLT, Nat.reduceLeDiff, Nat.reduceAdd, Nat.reduceSub, reduceIte]
        exact ⟨by omega, by omega, j + 1, j1, by omega, by rw [fldsN_take j1, List.map_append]; rfl⟩
    · have j1 : j = l[i].fields.length := by have : ¬ (j : Int) < (l[i].fields.length : Int) := by simpa using h
                                             omega
      subst j1
      rw [List.take_length] at hln ⊢
      clear h
      simp only [iv_frz, EV, Nat.reduceEqDiff, Nat.reduceBEq, Nat.reduceLT, Nat.reduceLeDiff, Nat.reduceAdd, Nat.reduceSub, reduceIte]
      refine callK_i (d109 (prtN (fstL l) (rnd l k) i l[i]) (by simp [prtN]; omega)) ?_
      simp only [EV, Nat.reduceEqDiff, Nat.reduceBEq, Nat.reduceLT, Nat.reduceLeDiff, Nat.reduceAdd, Nat.reduceSub, reduceIte]
      refine ⟨by simp; omega, by simp; omega, (), ?_⟩
      rw [rowN_take p1, List.map_append]
      rfl
  · rintro _ _
    simp only [EV, Nat.reduceEqDiff, Nat.reduceBEq, Nat.reduceLT, Nat.reduceLeDiff, Nat.reduceAdd, Nat.reduceSub, reduceIte]
    rw [w64 _ (by omega)]
    exact ⟨i + 1, p1, by omega, rfl⟩
end Go.AM
namespace Go.AM
set_option linter.unusedVariables false
set_option linter.unusedSimpArgs false
structure Fing where
  name : ByteArray
  mark : Int
  sum : Int
def Fing.z (s : Fing) : List AV := [.v (.string s.name), .v (.int .i64 s.mark), .v (.int .i64 s.sum)]
theorem Fing.fr (s : Fing) : frzRow s.z = s.z := by simp only [Fing.z, frzRow, frzL, List.cons_append, List.nil_append]
theorem Fing.frz : ∀ l : List Fing, frzRows (l.map Fing.z) = l.map Fing.z
  | [] => rfl
  | s :: l => by simp only [List.map_cons, frzRows, Fing.fr, Fing.frz l]
theorem Fing.nf (s : Fing) : nfzs s.z = true := by simp only [Fing.z, nfzs, nfz, List.cons_append, List.nil_append, Bool.and_self]
theorem Fing.nfz : ∀ l : List Fing, nfzss (l.map Fing.z) = true
  | [] => rfl
  | s :: l => by simp only [List.map_cons, nfzss, Fing.nf, Fing.nfz l, Bool.and_self]
theorem FingE : (∀ f : Fing, f.z.length = 3) ∧ (∀ f : Fing, f.z.take 3 = f.z) ∧ (∀ (st : St) (f : Fing), frzBs st f.z = f.z) ∧ (∀ f : Fing, bares f.z = true) ∧ (∀ f : Fing, plains f.z = true) ∧
    (∀ (f : Fing) (K : Nat → List (Nat × Nat) → Bool), killVs K f.z = f.z) ∧ (∀ f : Fing, f.z.all storL = true) :=
  ⟨fun _ => rfl, fun _ => rfl, fun _ _ => rfl, fun _ => rfl, fun _ => rfl, fun _ _ => rfl, fun _ => rfl⟩
structure Chg where
  name : ByteArray
  kind : Int
def Chg.z (s : Chg) : List AV := [.v (.string s.name), .v (.int .i64 s.kind)]
theorem Chg.fr (s : Chg) : frzRow s.z = s.z := by simp only [Chg.z, frzRow, frzL, List.cons_append, List.nil_append]
theorem Chg.frz : ∀ l : List Chg, frzRows (l.map Chg.z) = l.map Chg.z
  | [] => rfl
  | s :: l => by simp only [List.map_cons, frzRows, Chg.fr, Chg.frz l]
theorem Chg.nf (s : Chg) : nfzs s.z = true := by simp only [Chg.z, nfzs, nfz, List.cons_append, List.nil_append, Bool.and_self]
theorem Chg.nfz : ∀ l : List Chg, nfzss (l.map Chg.z) = true
  | [] => rfl
  | s :: l => by simp only [List.map_cons, nfzss, Chg.nf, Chg.nfz l, Bool.and_self]
theorem ChgE : (∀ f : Chg, f.z.length = 2) ∧ (∀ f : Chg, f.z.take 2 = f.z) ∧ (∀ (st : St) (f : Chg), frzBs st f.z = f.z) ∧ (∀ f : Chg, bares f.z = true) ∧ (∀ f : Chg, plains f.z = true) ∧
    (∀ (f : Chg) (K : Nat → List (Nat × Nat) → Bool), killVs K f.z = f.z) ∧ (∀ f : Chg, f.z.all storL = true) :=
  ⟨fun _ => rfl, fun _ => rfl, fun _ _ => rfl, fun _ => rfl, fun _ => rfl, fun _ _ => rfl, fun _ => rfl⟩
def bl (a b : ByteArray) : Bool := Op.bytesLess a.toList b.toList
theorem bless_eq : ∀ (x y : List UInt8), Op.bytesLess x y = decide (x < y)
  | [], [] => by simp [Op.bytesLess]
  | _ :: _, [] => by simp [Op.bytesLess]
  | [], _ :: _ => by simp [Op.bytesLess]
  | a :: x, b :: y => by
    rw [Op.bytesLess, bless_eq x y]
    simp only [List.cons_lt_cons_iff]
    by_cases h1 : a < b <;> by_cases h2 : a = b <;> by_cases h3 : x < y <;> simp [h1, h2, h3]
theorem bl_eq (a b : ByteArray) : bl a b = decide (a.toList < b.toList) := bless_eq _ _
theorem bl_irr (a : ByteArray) : bl a a = false := by rw [bl_eq]; simp [List.lt_irrefl]
theorem bl_trans {a b c : ByteArray} (h1 : bl a b = true) (h2 : bl b c = true) : bl a c = true := by
  rw [bl_eq] at *; simp only [decide_eq_true_eq] at *; exact List.lt_trans h1 h2
theorem bl_asym {a b : ByteArray} (h : bl a b = true) : bl b a = false := by
  rcases e : bl b a with _ | _
  · rfl
  · have := bl_trans h e; rw [bl_irr] at this; cases this
theorem bl_tri {a b : ByteArray} (h1 : bl a b = false) (h2 : bl b a = false) : a = b := by
  rw [bl_eq] at *; simp only [decide_eq_false_iff_not, List.not_lt] at *
  have : a.toList = b.toList := List.le_antisymm h2 h1
  cases a; cases b; rename_i x y
  simpa [ByteArray.toList_eq] using this
theorem bl_ntrans {a b c : ByteArray} (h1 : bl a b = false) (h2 : bl b c = false) : bl a c = false := by
  rcases e : bl a c with _ | _
  · rfl
  · rcases e2 : bl b a with _ | _
    · have := bl_tri h1 e2; subst this; rw [h2] at e; cases e
    · have := bl_trans e2 e; rw [h2] at this; cases this
theorem bs_eq {a b : ByteArray} : (a.toList == b.toList) = true ↔ a = b := by
  rw [beq_iff_eq]
  constructor
  · intro h
    refine bl_tri ?_ ?_ <;> rw [bl_eq, h] <;> simp [List.lt_irrefl]
  · rintro rfl; rfl
theorem bs_ne {a b : ByteArray} : (a.toList == b.toList) = false ↔ a ≠ b := by
  rw [← Bool.not_eq_true, bs_eq]
section
variable {α : Type} (nm : α → ByteArray)
def Asc (l : List α) : Prop := l.Pairwise fun a b => bl (nm a) (nm b) = true
variable {nm}
theorem asc_ext {l m : List α} (hl : Asc nm l) (hm : Asc nm m) (h : ∀ a, a ∈ l ↔ a ∈ m) : l = m := by
  induction l generalizing m with
  | nil =>
    cases m with
    | nil => rfl
    | cons b m => exact absurd ((h b).2 (by simp)) (by simp)
  | cons a l ih =>
    cases m with
    | nil => exact absurd ((h a).1 (by simp)) (by simp)
    | cons b m =>
      obtain ⟨ha, hl2⟩ := List.pairwise_cons.1 hl
      obtain ⟨hb, hm2⟩ := List.pairwise_cons.1 hm
      have e : a = b := by
        rcases List.mem_cons.1 ((h a).1 (by simp)) with e | e
        · exact e
        · rcases List.mem_cons.1 ((h b).2 (by simp)) with e2 | e2
          · exact e2.symm
          · have := bl_asym (hb a e); rw [ha b e2] at this; cases this
      subst e
      congr 1
      refine ih hl2 hm2 fun x => ?_
      constructor
      · intro hx
        rcases List.mem_cons.1 ((h x).1 (by simp [hx])) with e | e
        · subst e; have := ha x hx; rw [bl_irr] at this; cases this
        · exact e
      · intro hx
        rcases List.mem_cons.1 ((h x).2 (by simp [hx])) with e | e
        · subst e; have := hb x hx; rw [bl_irr] at this; cases this
        · exact e
theorem asc_nodup {l : List α} (h : Asc nm l) : (l.map nm).Nodup := by
  unfold List.Nodup
  rw [List.pairwise_map]
  exact h.imp fun {a b} h e => by rw [e, bl_irr] at h; cases h
theorem asc_of {l : List α} (h : l.Pairwise fun a b => bl (nm b) (nm a) = false) (hn : (l.map nm).Nodup) : Asc nm l := by
  unfold List.Nodup at hn
  rw [List.pairwise_map] at hn
  refine (h.and hn).imp fun {a b} h => ?_
  rcases e : bl (nm a) (nm b) with _ | _
  · exact absurd (bl_tri e h.1) h.2
  · rfl
variable (nm)
def insA (x : α) : List α → List α
  | [] => [x]
  | y :: l => if bl (nm x) (nm y) then x :: y :: l else y :: insA x l
def ascOf : List α → List α
  | [] => []
  | x :: l => insA nm x (ascOf l)
variable {nm}
theorem insA_mem {x a : α} : ∀ {l : List α}, a ∈ insA nm x l ↔ a = x ∨ a ∈ l
  | [] => by simp [insA]
  | y :: l => by
    unfold insA; split
    · simp
    · simp only [List.mem_cons, insA_mem (l := l)]
      constructor
      · rintro (h | h | h)
        · exact .inr (.inl h)
        · exact .inl h
        · exact .inr (.inr h)
      · rintro (h | h | h)
        · exact .inr (.inl h)
        · exact .inl h
        · exact .inr (.inr h)
theorem ascOf_mem {a : α} : ∀ {l : List α}, a ∈ ascOf nm l ↔ a ∈ l
  | [] => by simp [ascOf]
  | x :: l => by rw [ascOf, insA_mem, ascOf_mem (l := l), List.mem_cons]
theorem insA_asc {x : α} : ∀ {l : List α}, Asc nm l → (∀ a ∈ l, nm a ≠ nm x) → Asc nm (insA nm x l)
  | [], _, _ => by simp [insA, Asc]
  | y :: l, h, hx => by
    obtain ⟨hy, hl⟩ := List.pairwise_cons.1 h
    unfold insA
    rcases e : bl (nm x) (nm y) with _ | _
    · simp only [Bool.false_eq_true, if_false]
      refine List.pairwise_cons.2 ⟨fun a ha => ?_, insA_asc hl fun a ha => hx a (by simp [ha])⟩
      rcases insA_mem.1 ha with rfl | ha
      · rcases e2 : bl (nm y) (nm a) with _ | _
        · exact absurd (bl_tri e2 e) (hx y (by simp))
        · rfl
      · exact hy a ha
    · simp only [if_true]
      refine List.pairwise_cons.2 ⟨fun a ha => ?_, h⟩
      rcases List.mem_cons.1 ha with rfl | ha
      · exact e
      · exact bl_trans e (hy a ha)
theorem ascOf_asc : ∀ {l : List α}, (l.map nm).Nodup → Asc nm (ascOf nm l)
  | [], _ => by simp [ascOf, Asc]
  | x :: l, h => by
    rw [List.map_cons, List.nodup_cons] at h
    refine insA_asc (ascOf_asc h.2) fun a ha e => h.1 ?_
    rw [← e]
    exact List.mem_map_of_mem (ascOf_mem.1 ha)
theorem insA_len {x : α} : ∀ {l : List α}, (insA nm x l).length = l.length + 1
  | [] => rfl
  | y :: l => by unfold insA; split <;> simp [insA_len (l := l)]
theorem ascOf_len : ∀ {l : List α}, (ascOf nm l).length = l.length
  | [] => rfl
  | x :: l => by rw [ascOf, insA_len, ascOf_len, List.length_cons]
theorem asc_eq {l m : List α} (hn : (l.map nm).Nodup) (hm : Asc nm m) (h : ∀ a, a ∈ m ↔ a ∈ l) : m = ascOf nm l :=
  asc_ext hm (ascOf_asc hn) fun a => by rw [h, ascOf_mem]
end
end Go.AM
set_option linter.unusedVariables false
set_option linter.unusedSimpArgs false
namespace Go.Proofs
open Go.Shelf
shelf_lay_g SlLaysF0.n6 Slsf 6 at Tryz 153 as Tryz.sortFing
end Go.Proofs
namespace Go.AM
open Go.Proofs Go.Shelf Go.Sort Go.RowKit
theorem flat_get {α : Type} [Inhabited α] {enc : α → List Value} {k : Nat} (hk : ∀ x, (enc x).length = k) : ∀ (l : List α) (t : Nat), t < l.length * k → (l.flatMap enc)[t]? = (enc l[t / k]!)[t % k]?
  | [], t, h => by simp at h
  | x :: l, t, h => by
    rw [List.flatMap_cons]
    by_cases ht : t < k
    · rw [List.getElem?_append_left (by rw [hk]; exact ht), Nat.div_eq_of_lt ht, Nat.mod_eq_of_lt ht]
      rfl
    · have k0 : 0 < k := by
        rcases Nat.eq_zero_or_pos k with h0 | h0
        · subst h0; simp at h
        · exact h0
      obtain ⟨u, rfl⟩ : ∃ u, t = u + k := ⟨t - k, by omega⟩
      rw [List.getElem?_append_right (by rw [hk]; omega), hk, Nat.add_sub_cancel, Nat.add_mod_right, Nat.add_div_right u k0, flat_get hk l u (by
        rw [List.length_cons, Nat.add_mul, Nat.one_mul] at h; omega)]
      rfl
theorem flat_len {α : Type} {enc : α → List Value} {k : Nat} (hk : ∀ x, (enc x).length = k) (l : List α) : (l.flatMap enc).length = l.length * k := by
  induction l with
  | nil => simp
  | cons x l ih => rw [List.flatMap_cons, List.length_append, ih, hk, List.length_cons, Nat.add_mul, Nat.one_mul, Nat.add_comm]
theorem flat_eq {α : Type} [Inhabited α] {enc : α → List Value} {k : Nat} (hk : ∀ x, (enc x).length = k) (l : List α) : flatK enc k l.toArray = (l.flatMap enc).toArray := by
  apply Array.ext_getElem?
  intro t
  by_cases h : t < l.length * k
  · have k0 : 0 < k := by
      rcases Nat.eq_zero_or_pos k with h0 | h0
      · subst h0; simp at h
      · exact h0
    have hm : t % k < (enc l[t / k]!).length := by rw [hk]; exact Nat.mod_lt _ k0
    have h2 := flat_get hk l t h
    rw [List.getElem?_eq_getElem hm] at h2
    have hs : t < (flatK enc k l.toArray).size := by simpa using h
    have h3 := get_flatK enc k l.toArray t (by simpa using h)
    rw [getElem!_pos _ t hs] at h3
    rw [Array.getElem?_eq_getElem hs, h3, List.getElem?_toArray, h2]
    rw [getElem!_pos _ _ (by simpa using hm)]
    simp
  · rw [Array.getElem?_eq_none (by simpa using h), Array.getElem?_eq_none (by simpa [flat_len hk] using h)]
theorem holdsV {w : World} {g h : Nat} {cur : Array Value} {e : Nat} {l : List Value} (hg : w.heap[g]? = some (.cells cur e (0, 0))) (hat : At w g h l) : Holds id w g h l.toArray := by
  intro j hj
  have hj' : j < l.length := by simpa using hj
  refine ⟨?_, ?_⟩
  · rw [hat j l[j] (by simp [hj'])]
    simp [hj']
  · simp [World.frozen?, hg]
theorem put_extV {w : World} {g h n : Nat} {cur : Array Value} {e : Nat} {l m : List Value} {os : Array Obj} (hg : w.heap[g]? = some (.cells cur e (0, 0))) (hat : At w g h l) (hm : m.length = l.length) :
    let w' := grow (putRow id (Sort.ahead w n) g h m.toArray) os
    Ext w w' [g] ∧ w'.heap[g]? = some (.cells (putCells id h m.toArray cur) e (0, 0)) ∧ (putCells id h m.toArray cur).size = cur.size ∧ At w' g h m ∧ w.heap.size ≤ w'.heap.size := by
  intro w'
  have hlt : g < w.heap.size := by
    rcases Nat.lt_or_ge g w.heap.size with h | h
    · exact h
    · rw [Array.getElem?_eq_none h] at hg; cases hg
  have hb : ∀ b, b < w.heap.size → w'.heap[b]? = (w.heap.modify g (onCells (putCells id h m.toArray)))[b]? := by
    intro b hb
    simp only [w', grow, putRow, mapBlock, Sort.ahead]
    rw [Array.getElem?_append_left (by simpa using hb)]
  have hsz : w.heap.size ≤ w'.heap.size := by simp [w', grow, putRow, mapBlock, Sort.ahead]
  have hg' : w'.heap[g]? = some (.cells (putCells id h m.toArray cur) e (0, 0)) := by
    rw [hb g hlt, Array.getElem?_modify, if_pos rfl, hg]
    rfl
  refine ⟨⟨rfl, rfl, rfl, hsz, ?_⟩, hg', by simp [putCells], ?_, hsz⟩
  · intro b hb' hn
    rw [hb b hb', Array.getElem?_modify, if_neg (by intro e; exact hn (by simp [e]))]
  · intro j u hj
    have hj' : j < m.length := by
      rcases Nat.lt_or_ge j m.length with h | h
      · exact h
      · simp [h] at hj
    have hc := hat j (l[j]'(by omega)) (by simp [show j < l.length by omega])
    simp only [World.cell?, hg] at hc
    simp only [World.cell?, hg', putCells, Array.getElem?_mapIdx]
    have hc' : cur[h + j]? = some (l[j]'(by omega)) := by simpa using hc
    have hu : u = m[j] := by simpa [hj'] using hj.symm
    subst hu
    simp [hc', hj']
structure EncAs {α : Type} (zz : α → List AV) (enc : α → List Value) (k : Nat) : Prop where
  len : ∀ x, (enc x).length = k
  zlen : ∀ x, (zz x).length = k
  one : ∀ x, ∀ v ∈ enc x, v.oneCell' = true
  cells : ∀ (w : World) (Fz : Nat → Prop) x xs o, RepRow w Fz (zz x) xs o → xs = enc x ∧ o = []
  rep : ∀ (w : World) (Fz : Nat → Prop) x, RepRow w Fz (zz x) (enc x) []
theorem EncAs.rows_of {α : Type} {zz : α → List AV} {enc : α → List Value} {k : Nat} (E : EncAs zz enc k) {w : World} {Fz : Nat → Prop} : ∀ {l : List α} {xs : List Value} {o : List Nat}, RepRows w Fz k (l.map zz) xs o → xs = l.flatMap enc ∧ o = []
  | [], xs, o, h => by simp only [List.map_nil, RepRows] at h; exact h
  | s :: l, xs, o, h => by
    simp only [List.map_cons, RepRows] at h
    obtain ⟨x1, x2, o1, o2, rfl, rfl, hl, h1, h2⟩ := h
    obtain ⟨rfl, rfl⟩ := E.cells _ _ _ _ _ h1
    obtain ⟨rfl, rfl⟩ := E.rows_of h2
    exact ⟨rfl, rfl⟩
theorem EncAs.rows {α : Type} {zz : α → List AV} {enc : α → List Value} {k : Nat} (E : EncAs zz enc k) {w : World} {Fz : Nat → Prop} : ∀ (l : List α), RepRows w Fz k (l.map zz) (l.flatMap enc) []
  | [] => by simp [RepRows]
  | s :: l => by
    simp only [List.map_cons, List.flatMap_cons, RepRows]
    exact ⟨_, _, [], [], rfl, rfl, E.zlen s, E.rep _ _ s, E.rows l⟩
def cmpS (a b : ByteArray) : Int := if bl a b = true then -1 else if bl b a = true then 1 else 0
theorem lt_cmpS (a b : ByteArray) : decide (cmpS a b < 0) = bl a b := by
  unfold cmpS
  rcases bl a b with _ | _
  · rcases bl b a with _ | _ <;> rfl
  · rfl
theorem swoS {α : Type} (nm : α → ByteArray) : SWO (ltOf fun x y : α => cmpS (nm x) (nm y)) where
  irrefl x := by unfold ltOf; rw [lt_cmpS, bl_irr]
  trans x y z h1 h2 := by unfold ltOf at *; rw [lt_cmpS] at *; exact bl_trans h1 h2
  ntrans x y z h1 h2 := by unfold ltOf at *; rw [lt_cmpS] at *; exact bl_ntrans h1 h2
theorem sort_does {P : Program} {f g : FuncId} {e k : Nat} {α : Type} [Inhabited α] {zz : α → List AV} {enc : α → List Value} {nm : α → ByteArray} (E : EncAs zz enc k) (k0 : 0 < k) (hf : fnOk P f = true)
    (hnone : ∀ w, Calls P f #[.slice none 0 0, .func (.func g) #[] #[]] w fun e w' => e = .returned (.tuple #[]) ∧ w' = w)
    (hsome : ∀ (blk off cap : Nat) (d : Array α) (w : World), HoldsK enc k w blk off d → blk < w.heap.size → d.size < 4611686018427387904 →
      Calls P f #[.slice (some ⟨blk, off, none⟩) d.size cap, .func (.func g) #[] #[]] w fun e w' => e = .returned (.tuple #[]) ∧ ∃ d' n os, PermIn 0 d.size d d' ∧ SortedIn (ltOf fun x y => cmpS (nm x) (nm y)) 0 d.size d' ∧ w' = sortWorldK enc k w blk off n d' os)
    (l : List α) (hn : (l.map nm).Nodup) (hl : (l.length : Int) ≤ 1048576) : Does P f [.usl e k (l.map zz), .clo g []] false (.tup []) [.usl e k ((ascOf nm l).map zz), .dead] := by
  refine ⟨hf, ?_⟩
  intro w Fz xs os hrep hos hfz hlt
  simp only [RepVs, RepV, RepC] at hrep
  obtain ⟨x, xs', o1, o2, rfl, rfl, hx, x2, xs2, o3, o4, rfl, rfl, ⟨xs3, rfl, rfl, rfl⟩, rfl, rfl⟩ := hrep
  simp only [List.append_nil] at *
  rcases hx with ⟨rfl, h0, rfl⟩ | ⟨gb, h, c, cur, ys, o', rfl, rfl, hg, hc, hsz, hrows, hat⟩
  · have hl0 : l = [] := by simpa using h0
    subst hl0
    refine (hnone w).mono ?_
    rintro e w' ⟨rfl, rfl⟩
    refine ⟨_, [], [], rfl, Ext.refl _ _, by simp [RepV, RepVs], ?_, by simp, by simp⟩
    simp only [RepVs, RepV, RepC]
    exact ⟨_, _, [], [], rfl, rfl, .inl ⟨rfl, by simp [ascOf], rfl⟩, _, _, [], [], rfl, rfl, rfl, rfl, rfl⟩
  · obtain ⟨rfl, rfl⟩ := E.rows_of hrows
    simp only [List.length_map] at *
    have hH : HoldsK enc k w gb (h * k) l.toArray := by unfold HoldsK; rw [flat_eq E.len]; exact holdsV hg hat
    have hgs : gb < w.heap.size := (hfz gb (by simp)).2
    have key := hsome gb (h * k) c l.toArray w hH hgs (by simp; omega)
    simp only [List.size_toArray] at key
    refine key.mono ?_
    rintro e' w' ⟨rfl, d', n, ob, hp, hs, hw⟩
    have hd : d'.size = l.length := by simpa using hp.1
    have hperm : d'.toList.Perm l := by
      have := hp.2.2
      have e1 : d'.extract 0 l.length = d' := by rw [← hd]; simp
      rw [e1] at this
      simpa using this
    have hnd : (d'.toList.map nm).Nodup := (hperm.map nm).nodup_iff.2 hn
    have hpw : d'.toList.Pairwise fun a b => bl (nm b) (nm a) = false := by
      rw [List.pairwise_iff_getElem]
      intro i j hi hj hij
      have hj' : j < d'.size := by simpa using hj
      have := hs i j (Nat.zero_le _) hij (by omega)
      unfold ltOf at this
      rw [lt_cmpS, getElem!_pos d' i (by omega), getElem!_pos d' j hj'] at this
      simpa using this
    have hd' : d' = (ascOf nm l).toArray := by
      apply Array.ext'
      exact asc_eq hn (asc_of hpw hnd) fun a => hperm.mem_iff
    have hlen : ((ascOf nm l).flatMap enc).length = (l.flatMap enc).length := by rw [flat_len E.len, flat_len E.len, ascOf_len]
    obtain ⟨hE, hg', hs', hat', hle⟩ := put_extV (n := n) (os := ob) (m := (ascOf nm l).flatMap enc) hg hat hlen
    have hw2 : grow (putRow id (Sort.ahead w n) gb (h * k) ((ascOf nm l).flatMap enc).toArray) ob = w' := by
      rw [hw, hd', sortWorldK, putRowK, flat_eq E.len]
    rw [hw2] at hE hg' hat' hle
    refine ⟨_, [], [gb], rfl, hE, by simp [RepV, RepVs], ?_, by simp, ?_⟩
    · simp only [RepVs, RepV, RepC]
      refine ⟨_, _, [gb], [], rfl, rfl, .inr ⟨gb, h, c, _, _, [], ?_, rfl, hg', ?_, ?_, E.rows _, ?_⟩, _, _, [], [], rfl, rfl, rfl, rfl, rfl⟩
      · simp [ascOf_len]
      · simpa [ascOf_len] using hc
      · simpa [hs'] using hsz
      · exact hat'
    · intro b hb
      simp only [List.nil_append, List.mem_singleton] at hb
      subst hb
      exact ⟨.inl (by simp), by omega⟩
def encFing (f : Fing) : List Value := [.string f.name, .int .i64 f.mark, .int .i64 f.sum]
theorem encAsFing : EncAs Fing.z encFing 3 where
  len _ := rfl
  zlen _ := rfl
  one x v hv := by simp [encFing] at hv; rcases hv with rfl | rfl | rfl <;> rfl
  cells w Fz x xs o h := by
    simp only [Fing.z, RepRow, RepC] at h
    obtain ⟨_, _, _, _, rfl, rfl, ⟨rfl, _, rfl⟩, _, _, _, _, rfl, rfl, ⟨rfl, _, rfl⟩, _, _, _, _, rfl, rfl, ⟨rfl, _, rfl⟩, rfl, rfl⟩ := h
    exact ⟨rfl, rfl⟩
  rep w Fz x := by
    simp only [Fing.z, encFing, RepRow, RepC]
    exact ⟨_, _, [], [], rfl, rfl, ⟨rfl, rfl, rfl⟩, _, _, [], [], rfl, rfl, ⟨rfl, rfl, rfl⟩, _, _, [], [], rfl, rfl, ⟨rfl, rfl, rfl⟩, rfl, rfl⟩
instance : Inhabited Fing := ⟨⟨default, 0, 0⟩⟩
end Go.AM
namespace Go.Proofs
open Go.AM Go.Sort Go.RowKit
theorem Tryz.nan_string (x : ByteArray) (w : World) : Calls Tryz.prog 219 #[.string x] w fun e w' => e = .returned (.bool false) ∧ w' = w := by
  go_enter Tryz.func219, Tryz.ntmps219
  go_wp2
  go_ret
  exact ⟨by simp, rfl⟩
theorem Tryz.compare_string (x y : ByteArray) (w : World) : Calls Tryz.prog 155 #[.string x, .string y] w fun e w' => e = .returned (.int .i64 (cmpS x y)) ∧ w' = w := by
  have hb : Op.bytesLess x.toList y.toList = bl x y := rfl
  have hb2 : (!(bl x y || x.toList == y.toList)) = bl y x := by
    rcases e : bl x y with _ | _
    · rcases e2 : bl y x with _ | _
      · have := bl_tri e e2; subst this; simp
      · have : (x.toList == y.toList) = false := bs_ne.2 (by rintro rfl; rw [bl_irr] at e2; cases e2)
        simp [this]
    · rw [bl_asym e]; rfl
  go_enter Tryz.func155, Tryz.ntmps155
  go_wp2_with (go_at_call 219; refine (Tryz.nan_string _ _).mono ?_; rintro e w' ⟨rfl, rfl⟩)
  all_goals
    go_ret
    refine ⟨?_, rfl⟩
    unfold cmpS
    simp_all
theorem Tryz.fing_cmp (x y : Fing) (W : World) : Calls Tryz.prog 154 #[.agg #[.string x.name, .int .i64 x.mark, .int .i64 x.sum], .agg #[.string y.name, .int .i64 y.mark, .int .i64 y.sum]] W fun e w' => e = .returned (.int .i64 (cmpS x.name y.name)) ∧ ∃ q os', w' = grow (W.drewN q) os' := by
  have hcon := fun W' => Tryz.compare_string x.name y.name W'
  generalize cmpS x.name y.name = r at hcon ⊢
  go_enter Tryz.func154, Tryz.ntmps154
  go_wp2_with (go_at_call 155; refine (hcon _).mono ?_; rintro e w' ⟨rfl, rfl⟩)
  go_ret
  exact ⟨rfl, 0, _, by rw [alloc_eq_grow, alloc_eq_grow, grow_grow]; rfl⟩
end Go.Proofs
namespace Go.AM
open Go.Proofs Go.Shelf Go.Sort Go.RowKit
theorem d153 (l : List Fing) (hn : (l.map Fing.name).Nodup) (hl : (l.length : Int) ≤ 1048576) :
    Does Go.Proofs.Tryz.prog 153 [.usl 59 3 (l.map Fing.z), .clo 154 []] false (.tup []) [.usl 59 3 ((ascOf Fing.name l).map Fing.z), .dead] := by
  refine sort_does encAsFing (by decide) (by decide +kernel) ?_ ?_ l hn hl
  · intro w
    exact Go.Proofs.AnyF.slices_SortFunc_none Go.Proofs.Tryz.sortFing none 0 _ w
  · intro blk off cap d w hH hb hd
    have eg : ∀ args w, (callFunc 154 args).run Go.Proofs.Tryz.prog w = .ok (.enter 154 args) w := Go.Proofs.enters_of Go.Proofs.Tryz.func154 (by kernel_rfl) rfl
    exact Go.Proofs.AnyQ.slices_SortFunc Go.Proofs.Tryz.sortFing 3 Go.Proofs.Tryz.isAgg59 Go.Proofs.Tryz.sizeOf59 encFing encAsFing.len encAsFing.one (fun x y => cmpS x.name y.name) (swoS Fing.name) 154 #[] blk off cap d w eg (fun _ _ _ _ x y => Go.Proofs.Tryz.fing_cmp x y _) hH hb hd
end Go.AM
