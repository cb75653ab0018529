/- Contracts of functions of the given program, for the law FnShownMore: what they return and what they write, under the bounds that each theorem states. -/
import Derived.Test.YtdoclmnfbdolnaaGreatG4
namespace Go.AM
set_option linter.unusedVariables false
set_option linter.unusedSimpArgs false
def ownN (ts : List Int) (t : Int) : Int := if decide (0 ≤ t) = true then getS ts t else 5
def parN (ts : List Int) (p : Par) : List Int := [textN p.name, if p.byvar = true then 1 else 0, getS ts p.typ]
def parsN (ts : List Int) (ps : List Par) : List Int := ps.flatMap (parN ts)
def objN (ts : List Int) (o : Ob) : Int := mixL ([textN o.name, o.kind, o.mark, o.value, ownN ts o.typ] ++ parsN ts o.params)
theorem parsN_take {ts : List Int} {ps : List Par} {i : Nat} (h : i < ps.length) : parsN ts (ps.take (i + 1)) = parsN ts (ps.take i) ++ parN ts ps[i] := by
  unfold parsN; rw [List.take_succ_eq_append_getElem h, List.flatMap_append, List.flatMap_singleton]
theorem parsN_len (ts : List Int) : ∀ ps : List Par, (parsN ts ps).length = 3 * ps.length
  | [] => rfl
  | p :: ps => by
    have := parsN_len ts ps
    simp only [parsN, List.flatMap_cons, List.length_append, List.length_cons] at this ⊢
    rw [this]; simp [parN]; omega
noncomputable def ftS (s : Scope) : List Int := rnd s.types 25
def shown (o : Ob) : Bool := decide (0 < o.mark)
def fgO (ts : List Int) (o : Ob) : Fing := ⟨o.name, o.mark, objN ts o⟩
def fgU (ts : List Int) (os : List Ob) : List Fing := (os.filter shown).map (fgO ts)
noncomputable def fgL (s : Scope) : List Fing := ascOf Fing.name (fgU (ftS s) s.objects)
theorem fgU_take {ts : List Int} {os : List Ob} {i : Nat} (h : i < os.length) : fgU ts (os.take (i + 1)) = if shown os[i] = true then fgU ts (os.take i) ++ [fgO ts os[i]] else fgU ts (os.take i) := by
  unfold fgU; rw [List.take_succ_eq_append_getElem h, List.filter_append, List.map_append]
  rcases e : shown os[i] with _ | _ <;> simp [e]
theorem fgU_len (ts : List Int) (os : List Ob) : (fgU ts os).length ≤ os.length := by
  unfold fgU; rw [List.length_map]; exact List.length_filter_le _ _
theorem fgU_nodup {ts : List Int} {os : List Ob} (h : (os.map Ob.name).Nodup) : ((fgU ts os).map Fing.name).Nodup := by
  unfold fgU; rw [List.map_map]
  show ((os.filter shown).map Ob.name).Nodup
  exact (List.filter_sublist.map Ob.name).nodup h
def m152 : MC :=
 (.seq (.reg [Xb 2 (.box 69 (.t 0)), Xb 4 (.asg (.i 0))]) (.seq (.reg [Xb 5 (.asg (.i 5))]) (.join [1, 2, 5] (.seq (.reg [Xf 10 3 2, Xl 11 1 10, Xq 12 (.bin false .geq (.t 11) (.i 0))]) (.cond (.t 12) (.reg [Xm 13 1, Xf 14 3 2, Xl 15 1 14, Xi 16 1 13 15, Xl 17 1 16, Xa 5 17]) .skip)) (.seq (.mix [2] [1, 5, 6, 28, 49] [2] [] [0, 1, 3, 4, 5, 6, 7, 8] [9, 2, 10, 11] [Xf 18 0 2, Xl 19 1 18, Xf 21 1 2,
 Xl 22 1 21, Xf 23 2 2, Xl 24 1 23, Xf 25 4 2, Xl 26 1 25] [Xm 27 5, Xb 20 (.call (.fn 108) false [.lend (.t 19)]), Xb 28 (.bsl 3 1 [.t 20, .t 22, .t 24, .t 26, .t 27]), Xa 6 28]) (.seq (.seq (.reg [Xf 29 5 2, Xl 30 1 29, Xn 31 30, Xq 32 (.mov (.i 0))]) (.block 0 (.loop [1, 2, 6, 28, 29, 30, 31, 32, 49] (.seq (.reg [Xq 33 (.bin false .lss (.t 32) (.t 31))]) (.seq (.cond (.t 33) .skip (.exit 0))
 (.join [1, 2, 6, 28, 29, 30, 31, 32, 49] (.block 1 (.seq (.reg [Xi 34 3 30 32, XL 35 3 34, Xb 8 (.alloc 182 [.z, .b, .i]), Xz (.store 3 (.t 8) (.t 35))]) (.seq (.reg [Xb 9 (.asg (.i 0))]) (.join [1, 2, 6, 8, 9, 28, 29, 30, 31, 32, 49] (.seq (.reg [Xf 36 1 8, Xl 37 1 36]) (.cond (.t 37) (.reg [Xb 9 (.asg (.i 1))]) .skip)) (.mix [1, 8] [1, 2, 6, 9, 28, 29, 30, 31, 32, 49] [] [1] [1, 2, 5, 6, 7, 8,
 9] [0, 4, 3, 10, 11, 12] [Xf 39 0 8, Xl 40 1 39, Xm 43 1, Xf 44 2 8, Xl 45 1 44, Xi 46 1 43 45, Xl 47 1 46] [Xm 38 6, Xm 42 9, Xb 41 (.call (.fn 108) false [.lend (.t 40)]), Xb 48 (.bsl 3 1 [.t 41, .t 42, .t 47]), Xb 49 (.app true 3 1 8 (.t 38) (.t 48)), Xa 6 49]))))) (.reg [Xq 50 (.bin false .add (.t 32) (.i 1)), Xm 32 50]))))))) (.seq (.reg [Xm 51 6, Xb 52 (.call (.fn 109) false [.lend (.t
 51)]), Xa 4 52]) .ret))))))
set_option maxHeartbeats 4000000 in
set_option maxRecDepth 100000 in
theorem d152 (o : Ob) (ts : List Int) (hs : o.sm) (ht : o.typ < (ts.length : Int)) (hl : ts.length ≤ 24) (hp : o.params.length ≤ 4) (hpt : ∀ p ∈ o.params, 0 ≤ p.typ ∧ p.typ < (ts.length : Int)) :
    Does Go.Proofs.Tryz.prog 152 [.agg o.z, .fsl 1 (ts.map iv)] false (.v (.int .i64 (objN ts o))) [.dead, .dead] := by
  have hn := hs.1
  have hpn := hs.2.2.2.2.2
  refine does_intro (mc := m152) (N := 53) (rs := [4]) (fx := []) 2 rfl (by decide +kernel) ?_
  simp only [m152, Ob.z, EV, Nat.reduceEqDiff, Nat.reduceBEq, Nat.reduceLT, Nat.reduceLeDiff, Nat.reduceAdd, Nat.reduceSub, reduceIte]
  refine awp_join (fun _ : Unit => True) (fun _ => stl [(1, .fsl 1 (ts.map iv)), (2, .box 69 o.z), (5, .v (.int .i64 (ownN ts o.typ)))]) ?_ ?_
  · simp only [Ob.z, EV, Nat.reduceEqDiff, Nat.reduceBEq, Nat.reduceLT, Nat.reduceLeDiff, Nat.reduceAdd, Nat.reduceSub, reduceIte]
    rcases eb : decide (0 ≤ o.typ) with _ | _
    · simp only [EV, Nat.reduceEqDiff, Nat.reduceBEq, Nat.reduceLT, Nat.reduceLeDiff, Nat.reduceAdd, Nat.reduceSub, reduceIte]
      refine ⟨(), ?_⟩
      simp only [ownN, eb, if_false, Bool.false_eq_true]
    · have b0 : 0 ≤ o.typ := by simpa using eb
      have b2 : o.typ.toNat < ts.length := by omega
      have e1 := getS_nat b2
      simp only [b0, ht, b2, nth_map b2, e1, iv, EV, Nat.reduceEqDiff, Nat.reduceBEq, Nat.reduceLT, Nat.reduceLeDiff, Nat.reduceAdd, Nat.reduceSub, reduceIte]
      refine ⟨(), ?_⟩
      simp only [ownN, eb, if_true]
  rintro _ _
  simp only [Ob.z, EV, Nat.reduceEqDiff, Nat.reduceBEq, Nat.reduceLT, Nat.reduceLeDiff, Nat.reduceAdd, Nat.reduceSub, reduceIte]
  refine callK_i (d108 o.name hn) ?_
  simp only [Ob.z, EV, Nat.reduceEqDiff, Nat.reduceBEq, Nat.reduceLT, Nat.reduceLeDiff, Nat.reduceAdd, Nat.reduceSub, reduceIte]
  refine awp_loop (fun i : Nat => i ≤ o.params.length) (fun i => stl [(1, .fsl 1 (ts.map iv)), (2, .box 69 o.z), (6, .usl 3 1 (([textN o.name, o.kind, o.mark, o.value, ownN ts o.typ] ++ parsN ts (o.params.take i)).map iv)), (28, .dead), (29, .ref 2 [] 0 5), (30, .fsl 3 (o.params.map Par.z)), (31, .v (.int .i64 (o.params.length : Int))), (32, .v (.int .i64 (i : Int))), (49, .dead)]) (fun i => o.params.length - i) 0 (Nat.zero_le _) ?_ ?_
  · simp only [List.take_zero, parsN, List.flatMap_nil, List.append_nil, Ob.z, EV, Nat.reduceEqDiff, Nat.reduceBEq, Nat.reduceLT, Nat.reduceLeDiff, Nat.reduceAdd, Nat.reduceSub, reduceIte]
    rfl
  intro i hi
  have hln := parsN_len ts (o.params.take i)
  rw [List.length_take] at hln
  simp only [Ob.z, EV, Nat.reduceEqDiff, Nat.reduceBEq, Nat.reduceLT, Nat.reduceLeDiff, Nat.reduceAdd, Nat.reduceSub, reduceIte]
  refine cK_cut (fun h => ?_) (fun h => ?_)
  · have i1 : i < o.params.length := by simpa using h
    have i2 : (i : Int) < (o.params.length : Int) := by omega
    obtain ⟨t0, t1⟩ := hpt _ (List.getElem_mem i1)
    have t2 : o.params[i].typ.toNat < ts.length := by omega
    have et := getS_nat t2
    have hpnm := (hpn.2 _ (List.getElem_mem i1)).1
    clear h
    have wi := w64 ((i : Int) + 1) (by omega)
    refine awp_join (fun _ : Unit => True) (fun _ => stl [(1, .fsl 1 (ts.map iv)), (2, .box 69 o.z), (6, .usl 3 1 (([textN o.name, o.kind, o.mark, o.value, ownN ts o.typ] ++ parsN ts (o.params.take (i + 1))).map iv)), (28, .dead), (29, .ref 2 [] 0 5), (30, .fsl 3 (o.params.map Par.z)), (31, .v (.int .i64 (o.params.length : Int))), (32, .v (.int .i64 (i : Int))), (49, .dead)]) ?_ ?_
    · simp only [ParE, i1, i2, nth_map i1, Ob.z, EV, Nat.reduceEqDiff, Nat.reduceBEq, Nat.reduceLT, Nat.reduceLeDiff, Nat.reduceAdd, Nat.reduceSub, reduceIte]
      refine awp_join (fun _ : Unit => True) (fun _ => stl [(1, .fsl 1 (ts.map iv)), (2, .box 69 o.z), (6, .usl 3 1 (([textN o.name, o.kind, o.mark, o.value, ownN ts o.typ] ++ parsN ts (o.params.take i)).map iv)), (8, .box 182 o.params[i].z), (9, .v (.int .i64 (if o.params[i].byvar = true then 1 else 0))), (28, .dead), (29, .ref 2 [] 0 5), (30, .fsl 3 (o.params.map Par.z)), (31, .v (.int .i64 (o.params.length : Int))), (32, .v (.int .i64 (i : Int))), (49, .dead)]) ?_ ?_
      · simp only [Par.z, Ob.z, EV, Nat.reduceEqDiff, Nat.reduceBEq, Nat.reduceLT, Nat.reduceLeDiff, Nat.reduceAdd, Nat.reduceSub, reduceIte]
        rcases eb : o.params[i].byvar with _ | _
        · simp only [if_false, Bool.false_eq_true, EV, Nat.reduceEqDiff, Nat.reduceBEq, Nat.reduceLT, Nat.reduceLeDiff, Nat.reduceAdd, Nat.reduceSub, reduceIte]
          exact ⟨(), trivial⟩
        · simp only [if_true, EV, Nat.reduceEqDiff, Nat.reduceBEq, Nat.reduceLT, Nat.reduceLeDiff, Nat.reduceAdd, Nat.reduceSub, reduceIte]
          exact ⟨(), trivial⟩
      rintro _ _
      simp only [t0, t1, t2, nth_map t2, et, iv, Par.z, Ob.z, EV, Nat.reduceEqDiff, Nat.reduceBEq, Nat.reduceLT, Nat.reduceLeDiff, Nat.reduceAdd, Nat.reduceSub, reduceIte]
      refine callK_i (d108 o.params[i].name hpnm) ?_
      simp only [t0, t1, t2, nth_map t2, et, iv, Par.z, Ob.z, EV, Nat.reduceEqDiff, Nat.reduceBEq, Nat.reduceLT, Nat.reduceLeDiff, Nat.reduceAdd, Nat.reduceSub, reduceIte]
      refine ⟨by first | omega | (simp; omega), by first | omega | (simp; omega), (), ?_⟩
      simp only [parsN_take i1, parN, List.map_append, List.append_assoc, iv, List.map_cons, List.map_nil, List.cons_append, List.nil_append]
    · rintro _ _
      simp only [wi, Ob.z, EV, Nat.reduceEqDiff, Nat.reduceBEq, Nat.reduceLT, Nat.reduceLeDiff, Nat.reduceAdd, Nat.reduceSub, reduceIte]
      exact ⟨i + 1, i1, by omega, rfl⟩
  · have i1 : i = o.params.length := by have : ¬ (i : Int) < o.params.length := by simpa using h
                                        omega
    subst i1
    rw [List.take_length] at hln ⊢
    clear h
    simp only [iv_frz, EV, Nat.reduceEqDiff, Nat.reduceBEq, Nat.reduceLT, Nat.reduceLeDiff, Nat.reduceAdd, Nat.reduceSub, reduceIte]
    refine callK_i (d109 ([textN o.name, o.kind, o.mark, o.value, ownN ts o.typ] ++ parsN ts o.params) (by simp; omega)) ?_
    simp only [EV, Nat.reduceEqDiff, Nat.reduceBEq, Nat.reduceLT, Nat.reduceLeDiff, Nat.reduceAdd, Nat.reduceSub, reduceIte]
    simp only [objN, EV, Nat.reduceEqDiff, Nat.reduceBEq, Nat.reduceLT, Nat.reduceLeDiff, Nat.reduceAdd, Nat.reduceSub, reduceIte, evRE, retVC, cellV', evR, nfz, nfzs, nfzss, List.contains_nil, List.contains_cons, Bool.or_false, or_true]
end Go.AM
namespace Go.AM
set_option linter.unusedVariables false
set_option linter.unusedSimpArgs false
theorem scOk_names {s : Scope} (h : scOk s = true) : (s.objects.map Ob.name).Nodup := by
  have u := (unl_app.1 (scOk_iff.1 h).unl2).2
  unfold List.Nodup
  rw [List.pairwise_iff_getElem]
  intro i j hi hj hij e
  have hj' : j < s.objects.length := by simpa using hj
  have := (u j (by simpa using hj)).2.2
  rw [List.any_eq_false] at this
  have hm : nmS s.objects[i] ∈ (s.objects.map nmS).take j := by
    rw [List.mem_take_iff_getElem]
    exact ⟨i, by simp; omega, by simp⟩
  have h2 := this _ hm
  simp only [List.getElem_map] at e h2
  apply h2
  simp only [eqSt, nmS, beq_iff_eq]
  rw [e]
theorem scOk_tys {s : Scope} (h : scOk s = true) : s.types.length ≤ 24 ∧ tysOk s.types = true := ⟨tabOk_len (scOk_iff.1 h).tab, tabOk_tys (scOk_iff.1 h).tab⟩
theorem scOk_obj {s : Scope} (h : scOk s = true) : ∀ o ∈ s.objects, o.typ < (s.types.length : Int) ∧ o.params.length ≤ 4 ∧ ∀ p ∈ o.params, 0 ≤ p.typ ∧ p.typ < (s.types.length : Int) := by
  intro o ho
  obtain ⟨i, hi, rfl⟩ := List.getElem_of_mem ho
  have := (scOk_iff.1 h).obs i hi hi
  have h3 := (tysOk_len (scOk_tys h).2).1
  simp only [obOk, Bool.and_eq_true] at this
  obtain ⟨q1, q2, q3⟩ := this
  refine ⟨?_, ?_, fun p hp => isNum_in.1 (pars_num q2 p hp)⟩
  · unfold obKd at q3
    split at q3
    · simp only [Bool.and_eq_true, beq_iff_eq] at q3
      rw [q3.1]; omega
    split at q3
    · simp only [Bool.and_eq_true] at q3
      exact (isNum_in.1 q3.1).2
    split at q3
    · simp only [Bool.and_eq_true, Bool.or_eq_true, beq_iff_eq] at q3
      rcases q3.1 with e | e
      · rw [e]; omega
      · exact (isNum_in.1 e).2
    · cases q3
  · simp only [obPre, Bool.and_eq_true, decide_eq_true_eq] at q1
    omega
def atF (l : List Fing) (name : ByteArray) : Option Fing := l.find? fun f => f.name.toList == name.toList
def sumA (r : Option Fing) : Int := match r with | some f => f.sum | none => 0
theorem atF_at {l : List Fing} {name : ByteArray} {i : Nat} (h : i < l.length) (h1 : (l[i].name.toList == name.toList) = true) (h2 : ∀ j (hj : j < l.length), j < i → (l[j].name.toList == name.toList) = false) : atF l name = some l[i] := by
  unfold atF
  rw [List.find?_eq_some_iff_getElem]
  exact ⟨h1, i, h, rfl, fun j hj => by rw [h2 j (by omega) hj]; rfl⟩
theorem atF_no {l : List Fing} {name : ByteArray} (h2 : ∀ j (hj : j < l.length), (l[j].name.toList == name.toList) = false) : atF l name = none := by
  unfold atF
  rw [List.find?_eq_none]
  intro x hx
  obtain ⟨j, hj, rfl⟩ := List.getElem_of_mem hx
  rw [h2 j hj]; simp
def m197 : MC :=
 (.seq (.reg [Xb 4 (.asg (.i 0)), Xb 5 (.asg .fb)]) (.seq (.seq (.reg [Xm 8 0, Xn 9 8, Xq 10 (.mov (.i 0))]) (.block 0 (.loop [0, 1, 8, 9, 10] (.seq (.reg [Xq 11 (.bin false .lss (.t 10) (.t 9))]) (.seq (.cond (.t 11) .skip (.exit 0)) (.seq (.block 1 (.seq (.reg [Xi 12 3 8 10, XL 13 3 12, Xb 7 (.alloc 59 [.z, .i, .i]), Xz (.store 3 (.t 7) (.t 13))]) (.seq (.reg [Xf 14 0 7, Xl 15 1 14, Xm 16 1, Xq
 17 (.bin false .eql (.t 15) (.t 16))]) (.cond (.t 17) (.seq (.reg [Xf 18 2 7, Xl 19 1 18, Xa 4 19, Xb 5 (.asg .tb)]) .ret) .skip)))) (.reg [Xq 20 (.bin false .add (.t 10) (.i 1)), Xm 10 20]))))))) (.seq (.reg [Xb 4 (.asg (.i 0)), Xb 5 (.asg .fb)]) .ret)))
theorem d197 (l : List Fing) (name : ByteArray) (hl : (l.length : Int) ≤ 1048576) :
    Does Go.Proofs.Tryz.prog 197 [.fsl 3 (l.map Fing.z), .v (.string name)] false (.tup [.v (.int .i64 (sumA (atF l name))), .v (.bool (atF l name).isSome)]) [.dead, .dead] := by
  refine does_intro (mc := m197) (N := 21) (rs := [4, 5]) (fx := []) 2 rfl (by decide +kernel) ?_
  simp only [m197, EV, Nat.reduceEqDiff, Nat.reduceBEq, Nat.reduceLT, Nat.reduceLeDiff, Nat.reduceAdd, Nat.reduceSub, reduceIte]
  refine awp_loop (fun i : Nat => i ≤ l.length ∧ ∀ j (h : j < l.length), j < i → (l[j].name.toList == name.toList) = false) (fun i => stl [(0, .fsl 3 (l.map Fing.z)), (1, .v (.string name)), (8, .fsl 3 (l.map Fing.z)), (9, .v (.int .i64 (l.length : Int))), (10, .v (.int .i64 (i : Int)))]) (fun i => l.length - i) 0 ⟨Nat.zero_le _, fun j hj h => absurd h (by omega)⟩ ?_ ?_
  · simp only [EV, Nat.reduceEqDiff, Nat.reduceBEq, Nat.reduceLT, Nat.reduceLeDiff, Nat.reduceAdd, Nat.reduceSub, reduceIte]
    rfl
  rintro i ⟨hi, hok⟩
  simp only [EV, Nat.reduceEqDiff, Nat.reduceBEq, Nat.reduceLT, Nat.reduceLeDiff, Nat.reduceAdd, Nat.reduceSub, reduceIte]
  refine cK_cut (fun h => ?_) (fun h => ?_)
  · have i2 : (i : Int) < (l.length : Int) := by simpa using h
    have i1 : i < l.length := by omega
    clear h
    have wi := w64 ((i : Int) + 1) (by omega)
    simp only [FingE, i1, i2, nth_map i1, Fing.z, EV, Nat.reduceEqDiff, Nat.reduceBEq, Nat.reduceLT, Nat.reduceLeDiff, Nat.reduceAdd, Nat.reduceSub, reduceIte]
    rcases e : (l[i].name.toList == name.toList) with _ | _
    · simp only [wi, EV, Nat.reduceEqDiff, Nat.reduceBEq, Nat.reduceLT, Nat.reduceLeDiff, Nat.reduceAdd, Nat.reduceSub, reduceIte]
      exact ⟨i + 1, ⟨i1, fun j hj hji => by
        by_cases ej : j = i
        · subst ej; exact e
        · exact hok j hj (by omega)⟩, by omega, rfl⟩
    · simp only [EV, Nat.reduceEqDiff, Nat.reduceBEq, Nat.reduceLT, Nat.reduceLeDiff, Nat.reduceAdd, Nat.reduceSub, reduceIte]
      simp only [atF_at i1 e hok, sumA, Option.isSome_some, EV, Nat.reduceEqDiff, Nat.reduceBEq, Nat.reduceLT, Nat.reduceLeDiff, Nat.reduceAdd, Nat.reduceSub, reduceIte, evRE, retVC, cellV', evR, nfz, nfzs, nfzss, List.contains_nil, List.contains_cons, Bool.or_false, or_true]
  · have i1 : i = l.length := by have : ¬ (i : Int) < l.length := by simpa using h
                                 omega
    subst i1
    simp only [EV, Nat.reduceEqDiff, Nat.reduceBEq, Nat.reduceLT, Nat.reduceLeDiff, Nat.reduceAdd, Nat.reduceSub, reduceIte]
    simp only [atF_no (fun j hj => hok j hj hj), sumA, Option.isSome_none, EV, Nat.reduceEqDiff, Nat.reduceBEq, Nat.reduceLT, Nat.reduceLeDiff, Nat.reduceAdd, Nat.reduceSub, reduceIte, evRE, retVC, cellV', evR, nfz, nfzs, nfzss, List.contains_nil, List.contains_cons, Bool.or_false, or_true]
theorem fgU_lenS {s : Scope} (h : scOk s = true) (os : List Ob) (ho : os.length ≤ s.objects.length) (ts : List Int) : (fgU ts os).length ≤ 16 := by
  have := fgU_len ts os
  have := (scOk_iff.1 h).few2
  omega
theorem fgL_len {s : Scope} (h : scOk s = true) : (fgL s).length ≤ 16 := by
  unfold fgL
  rw [ascOf_len]
  exact fgU_lenS h _ (Nat.le_refl _) _
def m80 : MC :=
 (.seq (.reg [Xb 2 (.asg (.nils 59 3))]) (.seq (.reg [Xb 7 (.bsl 59 3 []), Xm 8 0, Xq 9 (.nilchk (.t 8)), Xf 10 2 9, Xl 11 1 10, Xb 12 (.call (.fn 100) false [.lend (.t 11), .lend (.i 25)]), Xa 3 7, Xa 4 12]) (.seq (.seq (.reg [Xm 13 0, Xq 14 (.nilchk (.t 13)), Xf 15 3 14, Xl 16 1 15, Xn 17 16, Xq 18 (.mov (.i 0))]) (.block 0 (.loop [0, 3, 4, 7, 12, 13, 14, 15, 16, 17, 18, 35] (.seq (.reg [Xq 19
 (.bin false .lss (.t 18) (.t 17))]) (.seq (.cond (.t 19) .skip (.exit 0)) (.join [0, 3, 4, 7, 12, 13, 14, 15, 16, 17, 18, 35] (.block 1 (.seq (.reg [Xi 20 6 16 18, XL 21 6 20, Xb 6 (.alloc 69 [.z, .i, .i, .i, .i, .s 182 3]), Xz (.store 6 (.t 6) (.t 21))]) (.seq (.reg [Xf 22 2 6, Xl 23 1 22, Xq 24 (.bin false .gtr (.t 23) (.i 0))]) (.cond (.t 24) (.mix [6] [0, 3, 4, 7, 12, 13, 14, 15, 16, 17, 18,
 35] [] [] [1, 2, 3, 4, 5] [0, 6, 7, 8, 9, 10, 11] [Xf 26 0 6, Xl 27 1 26, Xf 28 2 6, Xl 29 1 28, XL 30 6 6] [Xm 25 3, Xm 31 4, Xb 32 (.call (.fn 152) false [.lend (.t 30), .lend (.t 31)]), Xb 33 (.build [0, 1, 2] [0, 1, 2] [1, 1, 1] [.z, .i, .i] [.t 27, .t 29, .t 32]), Xb 34 (.bsl 59 3 [.t 33]), Xb 35 (.app true 59 3 32 (.t 25) (.t 34)), Xa 3 35]) .skip)))) (.reg [Xq 36 (.bin false .add (.t 18)
 (.i 1)), Xm 18 36]))))))) (.seq (.reg [Xm 37 3, Xb 38 (.call (.fn 153) false [.io (.t 37), .lend (.fn 154)])]) (.seq (.reg [Xm 39 3, Xa 2 39]) .ret)))))
set_option maxHeartbeats 4000000 in
set_option maxRecDepth 100000 in
theorem d80 (s : Scope) (hs : s.sm) (hk : scOk s = true) :
    Does Go.Proofs.Tryz.prog 80 [.fptr s.z] false (.usl 59 3 ((fgL s).map Fing.z)) [.dead] := by
  obtain ⟨z1, z2, z3, z4, z5⟩ := id hs
  obtain ⟨y1, y2⟩ := scOk_tys hk
  have hob := scOk_obj hk
  have hnd : ((fgU (ftS s) s.objects).map Fing.name).Nodup := fgU_nodup (scOk_names hk)
  have hft : (ftS s).length = s.types.length := rnd_len _ _
  have hrd := d100 s.types 25 y1 z3.2 y2 (by decide) (by decide)
  have e25 : (25 : Int).toNat = 25 := rfl
  rw [e25] at hrd
  have hll := fun n => fgU_lenS hk (s.objects.take n) (by simp; omega) (ftS s)
  have hll2 := fgU_lenS hk s.objects (Nat.le_refl _) (ftS s)
  refine does_intro (mc := m80) (N := 40) (rs := [2]) (fx := []) 1 rfl (by decide +kernel) ?_
  simp only [m80, Scope.z, evP, EV, Nat.reduceEqDiff, Nat.reduceBEq, Nat.reduceLT, Nat.reduceLeDiff, Nat.reduceAdd, Nat.reduceSub, reduceIte]
  refine callK_i hrd ?_
  have hfs : rnd s.types 25 = ftS s := rfl
  rw [hfs]
  simp only [Scope.z, evP, EV, Nat.reduceEqDiff, Nat.reduceBEq, Nat.reduceLT, Nat.reduceLeDiff, Nat.reduceAdd, Nat.reduceSub, reduceIte]
  refine awp_loop (fun i : Nat => i ≤ s.objects.length) (fun i => stl [(0, .fptr s.z), (3, .usl 59 3 ((fgU (ftS s) (s.objects.take i)).map Fing.z)), (4, .usl 3 1 ((ftS s).map iv)), (7, .dead), (12, .dead), (13, .fptr s.z), (14, .fptr s.z), (15, .fptr [.fsl 6 (s.objects.map Ob.z), .fsl 2 (s.uses.map Us.z)]), (16, .fsl 6 (s.objects.map Ob.z)), (17, .v (.int .i64 (s.objects.length : Int))), (18, .v (.int .i64 (i : Int))), (35, .dead)]) (fun i => s.objects.length - i) 0 (Nat.zero_le _) ?_ ?_
  · simp only [List.take_zero, fgU, List.filter_nil, List.map_nil, Scope.z, EV, Nat.reduceEqDiff, Nat.reduceBEq, Nat.reduceLT, Nat.reduceLeDiff, Nat.reduceAdd, Nat.reduceSub, reduceIte]
    rfl
  intro i hi
  simp only [Scope.z, EV, Nat.reduceEqDiff, Nat.reduceBEq, Nat.reduceLT, Nat.reduceLeDiff, Nat.reduceAdd, Nat.reduceSub, reduceIte]
  refine cK_cut (fun h => ?_) (fun h => ?_)
  · have i2 : (i : Int) < (s.objects.length : Int) := by simpa using h
    have i1 : i < s.objects.length := by omega
    clear h
    have wi := w64 ((i : Int) + 1) (by omega)
    obtain ⟨o1, o2, o3⟩ := hob _ (List.getElem_mem i1)
    have osm := z4.2 _ (List.getElem_mem i1)
    have hu := fgU_take (ts := ftS s) i1
    have hl1 := hll i
    generalize hoe : s.objects[i] = o at o1 o2 o3 osm hu
    have hdo := d152 o (ftS s) osm (by omega) (by omega) o2 (by rw [hft]; exact o3)
    refine awp_join (fun _ : Unit => True) (fun _ => stl [(0, .fptr s.z), (3, .usl 59 3 ((fgU (ftS s) (s.objects.take (i + 1))).map Fing.z)), (4, .usl 3 1 ((ftS s).map iv)), (7, .dead), (12, .dead), (13, .fptr s.z), (14, .fptr s.z), (15, .fptr [.fsl 6 (s.objects.map Ob.z), .fsl 2 (s.uses.map Us.z)]), (16, .fsl 6 (s.objects.map Ob.z)), (17, .v (.int .i64 (s.objects.length : Int))), (18, .v (.int .i64 (i : Int))), (35, .dead)]) ?_ ?_
    · simp only [ObE, i1, i2, nth_map i1, hoe, Ob.z, Scope.z, EV, Nat.reduceEqDiff, Nat.reduceBEq, Nat.reduceLT, Nat.reduceLeDiff, Nat.reduceAdd, Nat.reduceSub, reduceIte]
      rcases e : decide (0 < o.mark) with _ | _
      · simp only [Ob.z, Scope.z, EV, Nat.reduceEqDiff, Nat.reduceBEq, Nat.reduceLT, Nat.reduceLeDiff, Nat.reduceAdd, Nat.reduceSub, reduceIte]
        refine ⟨(), ?_⟩
        rw [hu]
        simp only [shown, e, if_false, Bool.false_eq_true]
      · simp only [Ob.z] at hdo
        simp only [iv_frz, Ob.z, Scope.z, EV, Nat.reduceEqDiff, Nat.reduceBEq, Nat.reduceLT, Nat.reduceLeDiff, Nat.reduceAdd, Nat.reduceSub, reduceIte]
        refine callK_i hdo ?_
        simp only [iv_frz, Ob.z, Scope.z, EV, Nat.reduceEqDiff, Nat.reduceBEq, Nat.reduceLT, Nat.reduceLeDiff, Nat.reduceAdd, Nat.reduceSub, reduceIte]
        refine ⟨by omega, by omega, (), ?_⟩
        rw [hu]
        simp only [shown, e, if_true, fgO, List.map_append, List.map_cons, List.map_nil, Fing.z]
    · rintro _ _
      simp only [wi, Scope.z, EV, Nat.reduceEqDiff, Nat.reduceBEq, Nat.reduceLT, Nat.reduceLeDiff, Nat.reduceAdd, Nat.reduceSub, reduceIte]
      exact ⟨i + 1, i1, by omega, rfl⟩
  · have i1 : i = s.objects.length := by have : ¬ (i : Int) < s.objects.length := by simpa using h
                                         omega
    subst i1
    rw [List.take_length]
    clear h
    simp only [Scope.z, EV, Nat.reduceEqDiff, Nat.reduceBEq, Nat.reduceLT, Nat.reduceLeDiff, Nat.reduceAdd, Nat.reduceSub, reduceIte]
    refine callK2_i (d153 (fgU (ftS s) s.objects) hnd (by omega)) rfl (by simp [shapeOf, ascOf_len]) ?_
    have hfl : ascOf Fing.name (fgU (ftS s) s.objects) = fgL s := rfl
    rw [hfl]
    simp only [Scope.z, EV, Nat.reduceEqDiff, Nat.reduceBEq, Nat.reduceLT, Nat.reduceLeDiff, Nat.reduceAdd, Nat.reduceSub, reduceIte]
    simp only [Fing.nfz, EV, Nat.reduceEqDiff, Nat.reduceBEq, Nat.reduceLT, Nat.reduceLeDiff, Nat.reduceAdd, Nat.reduceSub, reduceIte, evRE, retVC, cellV', evR, nfz, nfzs, nfzss, List.contains_nil, List.contains_cons, Bool.or_false, or_true]
def m81 : MC :=
 (.seq (.reg [Xb 4 (.asg (.i 0)), Xb 5 (.asg .fb)]) (.seq (.seq (.reg [Xm 8 0, Xb 9 (.call (.fn 80) false [.lend (.t 8)]), Xn 10 9, Xq 11 (.mov (.i 0))]) (.block 0 (.loop [1, 9, 10, 11] (.seq (.reg [Xq 12 (.bin false .lss (.t 11) (.t 10))]) (.seq (.cond (.t 12) .skip (.exit 0)) (.seq (.block 1 (.seq (.reg [Xi 13 3 9 11, XL 14 3 13, Xb 7 (.alloc 59 [.z, .i, .i]), Xz (.store 3 (.t 7) (.t 14))]) (.seq
 (.reg [Xf 15 0 7, Xl 16 1 15, Xm 17 1, Xq 18 (.bin false .eql (.t 16) (.t 17))]) (.cond (.t 18) (.seq (.reg [Xf 19 2 7, Xl 20 1 19, Xa 4 20, Xb 5 (.asg .tb)]) .ret) .skip)))) (.reg [Xq 21 (.bin false .add (.t 11) (.i 1)), Xm 11 21]))))))) (.seq (.reg [Xb 4 (.asg (.i 0)), Xb 5 (.asg .fb)]) .ret)))
theorem d81 (s : Scope) (name : ByteArray) (hs : s.sm) (hk : scOk s = true) :
    Does Go.Proofs.Tryz.prog 81 [.fptr s.z, .v (.string name)] false (.tup [.v (.int .i64 (sumA (atF (fgL s) name))), .v (.bool (atF (fgL s) name).isSome)]) [.dead, .dead] := by
  have hfl := fgL_len hk
  have dfi := d80 s hs hk
  simp only [Scope.z] at dfi
  refine does_intro (mc := m81) (N := 22) (rs := [4, 5]) (fx := []) 2 rfl (by decide +kernel) ?_
  simp only [m81, Scope.z, EV, Nat.reduceEqDiff, Nat.reduceBEq, Nat.reduceLT, Nat.reduceLeDiff, Nat.reduceAdd, Nat.reduceSub, reduceIte]
  refine callK_i dfi ?_
  generalize fgL s = l at hfl ⊢
  simp only [EV, Nat.reduceEqDiff, Nat.reduceBEq, Nat.reduceLT, Nat.reduceLeDiff, Nat.reduceAdd, Nat.reduceSub, reduceIte]
  refine awp_loop (fun i : Nat => i ≤ l.length ∧ ∀ j (h : j < l.length), j < i → (l[j].name.toList == name.toList) = false) (fun i => stl [(1, .v (.string name)), (9, .usl 59 3 (l.map Fing.z)), (10, .v (.int .i64 (l.length : Int))), (11, .v (.int .i64 (i : Int)))]) (fun i => l.length - i) 0 ⟨Nat.zero_le _, fun j hj h => absurd h (by omega)⟩ ?_ ?_
  · simp only [EV, Nat.reduceEqDiff, Nat.reduceBEq, Nat.reduceLT, Nat.reduceLeDiff, Nat.reduceAdd, Nat.reduceSub, reduceIte]
    rfl
  rintro i ⟨hi, hok⟩
  simp only [EV, Nat.reduceEqDiff, Nat.reduceBEq, Nat.reduceLT, Nat.reduceLeDiff, Nat.reduceAdd, Nat.reduceSub, reduceIte]
  refine cK_cut (fun h => ?_) (fun h => ?_)
  · have i2 : (i : Int) < (l.length : Int) := by simpa using h
    have i1 : i < l.length := by omega
    clear h
    have wi := w64 ((i : Int) + 1) (by omega)
    simp only [FingE, i1, i2, nth_map i1, Fing.z, EV, Nat.reduceEqDiff, Nat.reduceBEq, Nat.reduceLT, Nat.reduceLeDiff, Nat.reduceAdd, Nat.reduceSub, reduceIte]
    rcases e : (l[i].name.toList == name.toList) with _ | _
    · simp only [wi, EV, Nat.reduceEqDiff, Nat.reduceBEq, Nat.reduceLT, Nat.reduceLeDiff, Nat.reduceAdd, Nat.reduceSub, reduceIte]
      exact ⟨i + 1, ⟨i1, fun j hj hji => by
        by_cases ej : j = i
        · subst ej; exact e
        · exact hok j hj (by omega)⟩, by omega, rfl⟩
    · simp only [EV, Nat.reduceEqDiff, Nat.reduceBEq, Nat.reduceLT, Nat.reduceLeDiff, Nat.reduceAdd, Nat.reduceSub, reduceIte]
      simp only [atF_at i1 e hok, sumA, Option.isSome_some, EV, Nat.reduceEqDiff, Nat.reduceBEq, Nat.reduceLT, Nat.reduceLeDiff, Nat.reduceAdd, Nat.reduceSub, reduceIte, evRE, retVC, cellV', evR, nfz, nfzs, nfzss, List.contains_nil, List.contains_cons, Bool.or_false, or_true]
  · have i1 : i = l.length := by have : ¬ (i : Int) < l.length := by simpa using h
                                 omega
    subst i1
    simp only [EV, Nat.reduceEqDiff, Nat.reduceBEq, Nat.reduceLT, Nat.reduceLeDiff, Nat.reduceAdd, Nat.reduceSub, reduceIte]
    simp only [atF_no (fun j hj => hok j hj hj), sumA, Option.isSome_none, EV, Nat.reduceEqDiff, Nat.reduceBEq, Nat.reduceLT, Nat.reduceLeDiff, Nat.reduceAdd, Nat.reduceSub, reduceIte, evRE, retVC, cellV', evR, nfz, nfzs, nfzss, List.contains_nil, List.contains_cons, Bool.or_false, or_true]
end Go.AM
namespace Go.AM
set_option linter.unusedVariables false
set_option linter.unusedSimpArgs false
def mrg : List Fing → List Fing → List Chg
  | [], [] => []
  | f :: x, [] => ⟨f.name, 2⟩ :: mrg x []
  | [], g :: y => ⟨g.name, 1⟩ :: mrg [] y
  | f :: x, g :: y =>
    if bl f.name g.name = true then ⟨f.name, 2⟩ :: mrg x (g :: y)
    else if bl g.name f.name = true then ⟨g.name, 1⟩ :: mrg (f :: x) y
    else (if (f.sum != g.sum) = true then [⟨f.name, 3⟩] else []) ++ mrg x y
  termination_by x y => x.length + y.length
  decreasing_by all_goals simp <;> omega
def Chd (x y : List Fing) (c : Chg) : Prop :=
  (∃ f ∈ x, c.name = f.name ∧ ((c.kind = 2 ∧ ∀ g ∈ y, g.name ≠ f.name) ∨ (c.kind = 3 ∧ ∃ g ∈ y, g.name = f.name ∧ f.sum ≠ g.sum))) ∨
  (∃ g ∈ y, c.name = g.name ∧ c.kind = 1 ∧ ∀ f ∈ x, f.name ≠ g.name)
theorem chg_ext {c : Chg} {n : ByteArray} {k : Int} : c = ⟨n, k⟩ ↔ c.name = n ∧ c.kind = k := by
  cases c; simp
theorem asc_lt {f : Fing} {x : List Fing} (h : Asc Fing.name (f :: x)) : (∀ a ∈ x, bl f.name a.name = true) ∧ Asc Fing.name x := List.pairwise_cons.1 h
theorem bl_ne {a b : ByteArray} (h : bl a b = true) : a ≠ b := by rintro rfl; rw [bl_irr] at h; cases h
theorem mrg_mem : ∀ (x y : List Fing), Asc Fing.name x → Asc Fing.name y → ∀ c, c ∈ mrg x y ↔ Chd x y c
  | [], [], _, _, c => by simp [mrg, Chd]
  | f :: x, [], hx, hy, c => by
    have ih := mrg_mem x [] (asc_lt hx).2 hy c
    rw [mrg, List.mem_cons, ih, chg_ext]
    simp [Chd]
  | [], g :: y, hx, hy, c => by
    have ih := mrg_mem [] y hx (asc_lt hy).2 c
    rw [mrg, List.mem_cons, ih, chg_ext]
    simp [Chd]
  | f :: x, g :: y, hx, hy, c => by
    obtain ⟨hfx, hx'⟩ := asc_lt hx
    obtain ⟨hgy, hy'⟩ := asc_lt hy
    rw [mrg]
    split
    · rename_i hlt
      have ih := mrg_mem x (g :: y) hx' hy c
      have hne : ∀ g' ∈ g :: y, g'.name ≠ f.name := by
        intro g' hg'
        rcases List.mem_cons.1 hg' with rfl | hg'
        · exact (bl_ne hlt).symm
        · exact (bl_ne (bl_trans hlt (hgy g' hg'))).symm
      rw [List.mem_cons, ih, chg_ext]
      constructor
      · rintro (⟨h1, h2⟩ | ⟨f', hf, h1⟩ | ⟨g', hg, h1, h2, h3⟩)
        · exact .inl ⟨f, by simp, h1, .inl ⟨h2, hne⟩⟩
        · exact .inl ⟨f', by simp [hf], h1⟩
        · exact .inr ⟨g', hg, h1, h2, fun f' hf' => by
            rcases List.mem_cons.1 hf' with rfl | hf'
            · exact (hne g' hg).symm
            · exact h3 f' hf'⟩
      · rintro (⟨f', hf, h1, h2⟩ | ⟨g', hg, h1, h2, h3⟩)
        · rcases List.mem_cons.1 hf with rfl | hf
          · rcases h2 with ⟨h2, _⟩ | ⟨_, g', hg', h3, _⟩
            · exact .inl ⟨h1, h2⟩
            · exact absurd h3 (hne g' hg')
          · exact .inr (.inl ⟨f', hf, h1, h2⟩)
        · exact .inr (.inr ⟨g', hg, h1, h2, fun f' hf' => h3 f' (by simp [hf'])⟩)
    · rename_i hnl
      split
      · rename_i hlt
        have ih := mrg_mem (f :: x) y hx hy' c
        have hne : ∀ f' ∈ f :: x, f'.name ≠ g.name := by
          intro f' hf'
          rcases List.mem_cons.1 hf' with rfl | hf'
          · exact (bl_ne hlt).symm
          · exact (bl_ne (bl_trans hlt (hfx f' hf'))).symm
        rw [List.mem_cons, ih, chg_ext]
        constructor
        · rintro (⟨h1, h2⟩ | ⟨f', hf, h1, h2⟩ | ⟨g', hg, h1⟩)
          · exact .inr ⟨g, by simp, h1, h2, hne⟩
          · refine .inl ⟨f', hf, h1, ?_⟩
            rcases h2 with ⟨h2, h3⟩ | ⟨h2, g', hg', h3⟩
            · refine .inl ⟨h2, fun g' hg' => ?_⟩
              rcases List.mem_cons.1 hg' with rfl | hg'
              · exact (hne f' hf).symm
              · exact h3 g' hg'
            · exact .inr ⟨h2, g', by simp [hg'], h3⟩
          · exact .inr ⟨g', by simp [hg], h1⟩
        · rintro (⟨f', hf, h1, h2⟩ | ⟨g', hg, h1, h2, h3⟩)
          · refine .inr (.inl ⟨f', hf, h1, ?_⟩)
            rcases h2 with ⟨h2, h3⟩ | ⟨h2, g', hg', h3, h4⟩
            · exact .inl ⟨h2, fun g' hg' => h3 g' (by simp [hg'])⟩
            · rcases List.mem_cons.1 hg' with rfl | hg'
              · exact absurd h3.symm (hne f' hf)
              · exact .inr ⟨h2, g', hg', h3, h4⟩
          · rcases List.mem_cons.1 hg with rfl | hg
            · exact .inl ⟨h1, h2⟩
            · exact .inr (.inr ⟨g', hg, h1, h2, h3⟩)
      · rename_i hnl2
        have ih := mrg_mem x y hx' hy' c
        have hfg : f.name = g.name := bl_tri (by simpa using hnl) (by simpa using hnl2)
        have hne1 : ∀ f' ∈ x, f'.name ≠ f.name := fun f' hf' => (bl_ne (hfx f' hf')).symm
        have hne2 : ∀ g' ∈ y, g'.name ≠ f.name := fun g' hg' => by rw [hfg]; exact (bl_ne (hgy g' hg')).symm
        have hhd : c ∈ (if (f.sum != g.sum) = true then [(⟨f.name, 3⟩ : Chg)] else []) ↔ f.sum ≠ g.sum ∧ (c.name = f.name ∧ c.kind = 3) := by
          by_cases e : f.sum = g.sum
          · simp [e]
          · simp [e, chg_ext]
        rw [List.mem_append, ih, hhd]
        constructor
        · rintro (⟨h0, h1, h2⟩ | ⟨f', hf, h1, h2⟩ | ⟨g', hg, h1, h2, h3⟩)
          · exact .inl ⟨f, by simp, h1, .inr ⟨h2, g, by simp, hfg.symm, h0⟩⟩
          · refine .inl ⟨f', by simp [hf], h1, ?_⟩
            rcases h2 with ⟨h2, h3⟩ | ⟨h2, g', hg', h3⟩
            · refine .inl ⟨h2, fun g' hg' => ?_⟩
              rcases List.mem_cons.1 hg' with rfl | hg'
              · rw [← hfg]; exact (hne1 f' hf).symm
              · exact h3 g' hg'
            · exact .inr ⟨h2, g', by simp [hg'], h3⟩
          · refine .inr ⟨g', by simp [hg], h1, h2, fun f' hf' => ?_⟩
            rcases List.mem_cons.1 hf' with rfl | hf'
            · exact (hne2 g' hg).symm
            · exact h3 f' hf'
        · rintro (⟨f', hf, h1, h2⟩ | ⟨g', hg, h1, h2, h3⟩)
          · rcases List.mem_cons.1 hf with rfl | hf
            · rcases h2 with ⟨h2, h3⟩ | ⟨h2, g', hg', h3, h4⟩
              · exact absurd hfg.symm (h3 g (by simp))
              · rcases List.mem_cons.1 hg' with rfl | hg'
                · exact .inl ⟨h4, h1, h2⟩
                · exact absurd h3 (hne2 g' hg')
            · refine .inr (.inl ⟨f', hf, h1, ?_⟩)
              rcases h2 with ⟨h2, h3⟩ | ⟨h2, g', hg', h3, h4⟩
              · exact .inl ⟨h2, fun g' hg' => h3 g' (by simp [hg'])⟩
              · rcases List.mem_cons.1 hg' with rfl | hg'
                · exact absurd (h3.symm.trans hfg.symm) (hne1 f' hf)
                · exact .inr ⟨h2, g', hg', h3, h4⟩
          · rcases List.mem_cons.1 hg with rfl | hg
            · exact absurd hfg (h3 f (by simp))
            · exact .inr (.inr ⟨g', hg, h1, h2, fun f' hf' => h3 f' (by simp [hf'])⟩)
  termination_by x y => x.length + y.length
  decreasing_by all_goals simp <;> omega
theorem chd_name {x y : List Fing} {c : Chg} (h : Chd x y c) : (∃ f ∈ x, c.name = f.name) ∨ (∃ g ∈ y, c.name = g.name) := by
  rcases h with ⟨f, hf, h, _⟩ | ⟨g, hg, h, _⟩
  · exact .inl ⟨f, hf, h⟩
  · exact .inr ⟨g, hg, h⟩
theorem mrg_asc : ∀ (x y : List Fing), Asc Fing.name x → Asc Fing.name y → Asc Chg.name (mrg x y)
  | [], [], _, _ => by simp [mrg, Asc]
  | f :: x, [], hx, hy => by
    rw [mrg]
    refine List.pairwise_cons.2 ⟨fun c hc => ?_, mrg_asc x [] (asc_lt hx).2 hy⟩
    rcases chd_name ((mrg_mem x [] (asc_lt hx).2 hy c).1 hc) with ⟨f', hf, h⟩ | ⟨g, hg, h⟩
    · rw [h]; exact (asc_lt hx).1 f' hf
    · cases hg
  | [], g :: y, hx, hy => by
    rw [mrg]
    refine List.pairwise_cons.2 ⟨fun c hc => ?_, mrg_asc [] y hx (asc_lt hy).2⟩
    rcases chd_name ((mrg_mem [] y hx (asc_lt hy).2 c).1 hc) with ⟨f', hf, h⟩ | ⟨g', hg, h⟩
    · cases hf
    · rw [h]; exact (asc_lt hy).1 g' hg
  | f :: x, g :: y, hx, hy => by
    obtain ⟨hfx, hx'⟩ := asc_lt hx
    obtain ⟨hgy, hy'⟩ := asc_lt hy
    rw [mrg]
    split
    · rename_i hlt
      refine List.pairwise_cons.2 ⟨fun c hc => ?_, mrg_asc x (g :: y) hx' hy⟩
      rcases chd_name ((mrg_mem x (g :: y) hx' hy c).1 hc) with ⟨f', hf, h⟩ | ⟨g', hg, h⟩
      · rw [h]; exact hfx f' hf
      · rw [h]
        rcases List.mem_cons.1 hg with rfl | hg
        · exact hlt
        · exact bl_trans hlt (hgy g' hg)
    · rename_i hnl
      split
      · rename_i hlt
        refine List.pairwise_cons.2 ⟨fun c hc => ?_, mrg_asc (f :: x) y hx hy'⟩
        rcases chd_name ((mrg_mem (f :: x) y hx hy' c).1 hc) with ⟨f', hf, h⟩ | ⟨g', hg, h⟩
        · rw [h]
          rcases List.mem_cons.1 hf with rfl | hf
          · exact hlt
          · exact bl_trans hlt (hfx f' hf)
        · rw [h]; exact hgy g' hg
      · rename_i hnl2
        have hfg : f.name = g.name := bl_tri (by simpa using hnl) (by simpa using hnl2)
        split
        · refine List.pairwise_cons.2 ⟨fun c hc => ?_, mrg_asc x y hx' hy'⟩
          rcases chd_name ((mrg_mem x y hx' hy' c).1 hc) with ⟨f', hf, h⟩ | ⟨g', hg, h⟩
          · rw [h]; exact hfx f' hf
          · rw [h, hfg]; exact hgy g' hg
        · exact mrg_asc x y hx' hy'
  termination_by x y => x.length + y.length
  decreasing_by all_goals simp <;> omega
def cG (y : List Fing) (f : Fing) : List Chg := if (atF y f.name).isSome = true then (if (sumA (atF y f.name) != f.sum) = true then [⟨f.name, 3⟩] else []) else [⟨f.name, 2⟩]
def cN (x : List Fing) (g : Fing) : List Chg := if (atF x g.name).isSome = true then [] else [⟨g.name, 1⟩]
def dfU (x y : List Fing) : List Chg := x.flatMap (cG y) ++ y.flatMap (cN x)
theorem atF_none {l : List Fing} {n : ByteArray} : atF l n = none ↔ ∀ f ∈ l, f.name ≠ n := by
  unfold atF
  rw [List.find?_eq_none]
  constructor
  · intro h f hf e; exact h f hf (bs_eq.2 e)
  · intro h f hf e; exact h f hf (bs_eq.1 e)
theorem atF_some {l : List Fing} {n : ByteArray} {f : Fing} (h : atF l n = some f) : f ∈ l ∧ f.name = n := by
  unfold atF at h
  exact ⟨List.mem_of_find?_eq_some h, bs_eq.1 (List.find?_some (p := fun f : Fing => f.name.toList == n.toList) h)⟩
theorem asc_inj {l : List Fing} (h : Asc Fing.name l) {f g : Fing} (hf : f ∈ l) (hg : g ∈ l) (e : f.name = g.name) : f = g := by
  induction l with
  | nil => cases hf
  | cons a l ih =>
    obtain ⟨h1, h2⟩ := List.pairwise_cons.1 h
    rcases List.mem_cons.1 hf with rfl | hf
    · rcases List.mem_cons.1 hg with rfl | hg
      · rfl
      · exact absurd e (bl_ne (h1 g hg))
    · rcases List.mem_cons.1 hg with rfl | hg
      · exact absurd e.symm (bl_ne (h1 f (by assumption)))
      · exact ih h2 (by assumption) (by assumption)
theorem dfU_mem {x y : List Fing} (hy : Asc Fing.name y) (c : Chg) : c ∈ dfU x y ↔ Chd x y c := by
  unfold dfU Chd
  rw [List.mem_append, List.mem_flatMap, List.mem_flatMap]
  have hG : ∀ f : Fing, c ∈ cG y f ↔ c.name = f.name ∧ ((c.kind = 2 ∧ ∀ g ∈ y, g.name ≠ f.name) ∨ (c.kind = 3 ∧ ∃ g ∈ y, g.name = f.name ∧ f.sum ≠ g.sum)) := by
    intro f
    unfold cG
    rcases e : atF y f.name with _ | g
    · have hn := atF_none.1 e
      simp only [Option.isSome_none, Bool.false_eq_true, if_false, List.mem_singleton, chg_ext]
      constructor
      · rintro ⟨h1, h2⟩; exact ⟨h1, .inl ⟨h2, hn⟩⟩
      · rintro ⟨h1, ⟨h2, _⟩ | ⟨_, g, hg, h3, _⟩⟩
        · exact ⟨h1, h2⟩
        · exact absurd h3 (hn g hg)
    · obtain ⟨hg, hgn⟩ := atF_some e
      simp only [Option.isSome_some, if_true, sumA]
      by_cases es : g.sum = f.sum
      · simp only [es, bne_self_eq_false, Bool.false_eq_true, if_false, List.not_mem_nil, false_iff]
        rintro ⟨h1, ⟨_, h3⟩ | ⟨_, g', hg', h3, h4⟩⟩
        · exact h3 g hg hgn
        · have := asc_inj hy hg hg' (hgn.trans h3.symm)
          subst this
          exact h4 es.symm
      · have eb : (g.sum != f.sum) = true := by simpa using es
        simp only [eb, if_true, List.mem_singleton, chg_ext]
        constructor
        · rintro ⟨h1, h2⟩; exact ⟨h1, .inr ⟨h2, g, hg, hgn, fun e => es e.symm⟩⟩
        · rintro ⟨h1, ⟨_, h3⟩ | ⟨h2, _⟩⟩
          · exact absurd hgn (h3 g hg)
          · exact ⟨h1, h2⟩
  have hN : ∀ g : Fing, c ∈ cN x g ↔ c.name = g.name ∧ c.kind = 1 ∧ ∀ f ∈ x, f.name ≠ g.name := by
    intro g
    unfold cN
    rcases e : atF x g.name with _ | f
    · have hn := atF_none.1 e
      simp only [Option.isSome_none, Bool.false_eq_true, if_false, List.mem_singleton, chg_ext]
      exact ⟨fun ⟨h1, h2⟩ => ⟨h1, h2, hn⟩, fun ⟨h1, h2, _⟩ => ⟨h1, h2⟩⟩
    · obtain ⟨hf, hfn⟩ := atF_some e
      simp only [Option.isSome_some, if_true, List.not_mem_nil, false_iff]
      rintro ⟨_, _, h⟩
      exact h f hf hfn
  constructor
  · rintro (⟨f, hf, h⟩ | ⟨g, hg, h⟩)
    · exact .inl ⟨f, hf, (hG f).1 h⟩
    · exact .inr ⟨g, hg, (hN g).1 h⟩
  · rintro (⟨f, hf, h⟩ | ⟨g, hg, h⟩)
    · exact .inl ⟨f, hf, (hG f).2 h⟩
    · exact .inr ⟨g, hg, (hN g).2 h⟩
theorem flat_sub {nm : Fing → Chg → Prop} (c : Fing → List Chg) (hc : ∀ f, (c f).map Chg.name = [] ∨ (c f).map Chg.name = [f.name]) : ∀ l : List Fing, ((l.flatMap c).map Chg.name).Sublist (l.map Fing.name)
  | [] => by simp
  | f :: l => by
    rw [List.flatMap_cons, List.map_append, List.map_cons]
    rcases hc f with e | e <;> rw [e]
    · exact (flat_sub (nm := nm) c hc l).cons _
    · exact (flat_sub (nm := nm) c hc l).cons_cons _
theorem cG_nm (y : List Fing) (f : Fing) : (cG y f).map Chg.name = [] ∨ (cG y f).map Chg.name = [f.name] := by
  unfold cG; (repeat' split) <;> simp
theorem cN_nm (y : List Fing) (f : Fing) : (cN y f).map Chg.name = [] ∨ (cN y f).map Chg.name = [f.name] := by
  unfold cN; (repeat' split) <;> simp
theorem flat_le (c : Fing → List Chg) (hc : ∀ f, (c f).map Chg.name = [] ∨ (c f).map Chg.name = [f.name]) (l : List Fing) : (l.flatMap c).length ≤ l.length := by
  have := (flat_sub (nm := fun _ _ => True) c hc l).length_le
  simpa using this
theorem dfU_nodup {x y : List Fing} (hx : Asc Fing.name x) (hy : Asc Fing.name y) : ((dfU x y).map Chg.name).Nodup := by
  unfold dfU
  rw [List.map_append, List.nodup_append]
  refine ⟨(flat_sub (nm := fun _ _ => True) _ (cG_nm y) x).nodup (asc_nodup hx), (flat_sub (nm := fun _ _ => True) _ (cN_nm x) y).nodup (asc_nodup hy), ?_⟩
  intro a ha b hb e
  subst e
  have h1 := (flat_sub (nm := fun _ _ => True) _ (cG_nm y) x).subset ha
  obtain ⟨f, hf, rfl⟩ := List.mem_map.1 h1
  obtain ⟨c, hc, hcn⟩ := List.mem_map.1 hb
  obtain ⟨g, hg, hcg⟩ := List.mem_flatMap.1 hc
  unfold cN at hcg
  split at hcg
  · cases hcg
  · rename_i hno
    simp only [List.mem_singleton] at hcg
    subst hcg
    simp only at hcn
    have : atF x g.name = none := by simpa using hno
    exact atF_none.1 this f hf hcn.symm
theorem df_eq {x y : List Fing} (hx : Asc Fing.name x) (hy : Asc Fing.name y) : ascOf Chg.name (dfU x y) = mrg x y :=
  (asc_eq (dfU_nodup hx hy) (mrg_asc x y hx hy) fun c => by rw [mrg_mem x y hx hy, dfU_mem hy]).symm
theorem fgL_asc {s : Scope} (h : scOk s = true) : Asc Fing.name (fgL s) := ascOf_asc (fgU_nodup (scOk_names h))
end Go.AM
set_option linter.unusedVariables false
set_option linter.unusedSimpArgs false
namespace Go.Proofs
open Go.Shelf
shelf_lay_g SlLaysF0.n6 Slsf 6 at Tryz 156 as Tryz.sortChg
end Go.Proofs
namespace Go.AM
def encChg (f : Chg) : List Value := [.string f.name, .int .i64 f.kind]
theorem encAsChg : EncAs Chg.z encChg 2 where
  len _ := rfl
  zlen _ := rfl
  one x v hv := by simp [encChg] at hv; rcases hv with rfl | rfl <;> rfl
  cells w Fz x xs o h := by
    simp only [Chg.z, RepRow, RepC] at h
    obtain ⟨_, _, _, _, rfl, rfl, ⟨rfl, _, rfl⟩, _, _, _, _, rfl, rfl, ⟨rfl, _, rfl⟩, rfl, rfl⟩ := h
    exact ⟨rfl, rfl⟩
  rep w Fz x := by
    simp only [Chg.z, encChg, RepRow, RepC]
    exact ⟨_, _, [], [], rfl, rfl, ⟨rfl, rfl, rfl⟩, _, _, [], [], rfl, rfl, ⟨rfl, rfl, rfl⟩, rfl, rfl⟩
instance : Inhabited Chg := ⟨⟨default, 0⟩⟩
end Go.AM
namespace Go.Proofs
open Go.AM Go.Sort Go.RowKit
theorem Tryz.chg_cmp (x y : Chg) (W : World) : Calls Tryz.prog 157 #[.agg #[.string x.name, .int .i64 x.kind], .agg #[.string y.name, .int .i64 y.kind]] W fun e w' => e = .returned (.int .i64 (cmpS x.name y.name)) ∧ ∃ q os', w' = grow (W.drewN q) os' := by
  have hcon := fun W' => Tryz.compare_string x.name y.name W'
  generalize cmpS x.name y.name = r at hcon ⊢
  go_enter Tryz.func157, Tryz.ntmps157
  go_wp2_with (go_at_call 155; refine (hcon _).mono ?_; rintro e w' ⟨rfl, rfl⟩)
  go_ret
  exact ⟨rfl, 0, _, by rw [alloc_eq_grow, alloc_eq_grow, grow_grow]; rfl⟩
end Go.Proofs
namespace Go.AM
open Go.Proofs Go.Shelf Go.Sort Go.RowKit
theorem d156 (l : List Chg) (hn : (l.map Chg.name).Nodup) (hl : (l.length : Int) ≤ 1048576) :
    Does Go.Proofs.Tryz.prog 156 [.usl 74 2 (l.map Chg.z), .clo 157 []] false (.tup []) [.usl 74 2 ((ascOf Chg.name l).map Chg.z), .dead] := by
  refine sort_does encAsChg (by decide) (by decide +kernel) ?_ ?_ l hn hl
  · intro w
    exact Go.Proofs.AnyF.slices_SortFunc_none Go.Proofs.Tryz.sortChg none 0 _ w
  · intro blk off cap d w hH hb hd
    have eg : ∀ args w, (callFunc 157 args).run Go.Proofs.Tryz.prog w = .ok (.enter 157 args) w := Go.Proofs.enters_of Go.Proofs.Tryz.func157 (by kernel_rfl) rfl
    exact Go.Proofs.AnyQ.slices_SortFunc Go.Proofs.Tryz.sortChg 2 Go.Proofs.Tryz.isAgg74 Go.Proofs.Tryz.sizeOf74 encChg encAsChg.len encAsChg.one (fun x y => cmpS x.name y.name) (swoS Chg.name) 157 #[] blk off cap d w eg (fun _ _ _ _ x y => Go.Proofs.Tryz.chg_cmp x y _) hH hb hd
end Go.AM
namespace Go.AM
set_option linter.unusedVariables false
set_option linter.unusedSimpArgs false
theorem flat_take {c : Fing → List Chg} {l : List Fing} {i : Nat} (h : i < l.length) : (l.take (i + 1)).flatMap c = (l.take i).flatMap c ++ c l[i] := by
  rw [List.take_succ_eq_append_getElem h, List.flatMap_append, List.flatMap_singleton]
def m83 : MC :=
 (.seq (.reg [Xb 4 (.asg (.nils 74 2))]) (.seq (.reg [Xb 14 (.bsl 74 2 []), Xa 5 14]) (.seq (.seq (.reg [Xm 15 0, Xb 16 (.call (.fn 80) false [.lend (.t 15)]), Xn 17 16, Xq 18 (.mov (.i 0))]) (.block 0 (.loop [0, 1, 5, 14, 16, 17, 18, 37, 48, 71] (.seq (.reg [Xq 19 (.bin false .lss (.t 18) (.t 17))]) (.seq (.cond (.t 19) .skip (.exit 0)) (.join [0, 1, 5, 14, 16, 17, 18, 37, 48, 71] (.block 1 (.seq
 (.reg [Xi 20 3 16 18, XL 21 3 20, Xb 7 (.alloc 59 [.z, .i, .i]), Xz (.store 3 (.t 7) (.t 21))]) (.seq (.reg [Xm 23 1, Xf 24 0 7, Xl 25 1 24, Xb 26 (.call (.fn 81) false [.lend (.t 23), .lend (.t 25)]), Xm 22 26, Xq 27 (.ext 22 0), Xq 28 (.ext 22 1), Xa 8 27, Xa 9 28]) (.block 2 (.seq (.reg [Xm 30 9, Xq 31 (.un .not (.t 30)), Xa 29 31]) (.cond (.t 29) (.reg [Xm 32 5, Xf 33 0 7, Xl 34 1 33, Xb 35
 (.build [0, 1] [0, 1] [1, 1] [.z, .i] [.t 34, .i 2]), Xb 36 (.bsl 74 2 [.t 35]), Xb 37 (.app true 74 2 24 (.t 32) (.t 36)), Xa 5 37]) (.seq (.reg [Xm 39 8, Xf 40 2 7, Xl 41 1 40, Xq 42 (.bin false .neq (.t 39) (.t 41)), Xa 38 42]) (.cond (.t 38) (.reg [Xm 43 5, Xf 44 0 7, Xl 45 1 44, Xb 46 (.build [0, 1] [0, 1] [1, 1] [.z, .i] [.t 45, .i 3]), Xb 47 (.bsl 74 2 [.t 46]), Xb 48 (.app true 74 2 24 (.t
 43) (.t 47)), Xa 5 48]) .skip)))))))) (.reg [Xq 49 (.bin false .add (.t 18) (.i 1)), Xm 18 49]))))))) (.seq (.seq (.reg [Xm 50 1, Xb 51 (.call (.fn 80) false [.lend (.t 50)]), Xn 52 51, Xq 53 (.mov (.i 0))]) (.block 3 (.loop [0, 5, 14, 37, 48, 51, 52, 53, 71] (.seq (.reg [Xq 54 (.bin false .lss (.t 53) (.t 52))]) (.seq (.cond (.t 54) .skip (.exit 3)) (.join [0, 5, 14, 37, 48, 51, 52, 53, 71]
 (.block 4 (.seq (.reg [Xi 55 3 51 53, XL 56 3 55, Xb 11 (.alloc 59 [.z, .i, .i]), Xz (.store 3 (.t 11) (.t 56))]) (.seq (.reg [Xm 58 0, Xf 59 0 11, Xl 60 1 59, Xb 61 (.call (.fn 81) false [.lend (.t 58), .lend (.t 60)]), Xm 57 61, Xq 62 (.ext 57 0), Xq 63 (.ext 57 1), Xa 12 62, Xa 13 63]) (.seq (.reg [Xm 64 13, Xq 65 (.un .not (.t 64))]) (.cond (.t 65) (.reg [Xm 66 5, Xf 67 0 11, Xl 68 1 67, Xb 69
 (.build [0, 1] [0, 1] [1, 1] [.z, .i] [.t 68, .i 1]), Xb 70 (.bsl 74 2 [.t 69]), Xb 71 (.app true 74 2 24 (.t 66) (.t 70)), Xa 5 71]) .skip))))) (.reg [Xq 72 (.bin false .add (.t 53) (.i 1)), Xm 53 72]))))))) (.seq (.reg [Xm 73 5, Xb 74 (.call (.fn 156) false [.io (.t 73), .lend (.fn 157)])]) (.seq (.reg [Xm 75 5, Xa 4 75]) .ret))))))
set_option maxHeartbeats 4000000 in
set_option maxRecDepth 100000 in
theorem d83 (a b : Scope) (ha : a.sm) (hb : b.sm) (hka : scOk a = true) (hkb : scOk b = true) :
    Does Go.Proofs.Tryz.prog 83 [.fptr a.z, .fptr b.z] false (.usl 74 2 ((mrg (fgL a) (fgL b)).map Chg.z)) [.dead, .dead] := by
  have dfa := d80 a ha hka
  have dfb := d80 b hb hkb
  have dga := fun n => d81 a n ha hka
  have dgb := fun n => d81 b n hb hkb
  have la := fgL_len hka
  have lb := fgL_len hkb
  have aa := fgL_asc hka
  have ab := fgL_asc hkb
  rw [← df_eq aa ab]
  have hnd := dfU_nodup aa ab
  generalize fgL a = x at *
  generalize fgL b = y at *
  have l1 := fun i => flat_le _ (cG_nm y) (x.take i)
  have l2 := fun i => flat_le _ (cN_nm x) (y.take i)
  have l3 := flat_le _ (cG_nm y) x
  have l4 := flat_le _ (cN_nm x) y
  have hfp : ∀ s : Scope, AV.fptr s.z = AV.fptr s.z := fun _ => rfl
  refine does_intro (mc := m83) (N := 76) (rs := [4]) (fx := []) 2 rfl (by decide +kernel) ?_
  simp only [m83, EV, Nat.reduceEqDiff, Nat.reduceBEq, Nat.reduceLT, Nat.reduceLeDiff, Nat.reduceAdd, Nat.reduceSub, reduceIte]
  refine callK_i dfa ?_
  simp only [EV, Nat.reduceEqDiff, Nat.reduceBEq, Nat.reduceLT, Nat.reduceLeDiff, Nat.reduceAdd, Nat.reduceSub, reduceIte]
  refine awp_loop (fun i : Nat => i ≤ x.length) (fun i => stl [(0, .fptr a.z), (1, .fptr b.z), (5, .usl 74 2 (((x.take i).flatMap (cG y)).map Chg.z)), (14, .dead), (16, .usl 59 3 (x.map Fing.z)), (17, .v (.int .i64 (x.length : Int))), (18, .v (.int .i64 (i : Int))), (37, .dead), (48, .dead), (71, .dead)]) (fun i => x.length - i) 0 (Nat.zero_le _) ?_ ?_
  · simp only [List.take_zero, List.flatMap_nil, List.map_nil, EV, Nat.reduceEqDiff, Nat.reduceBEq, Nat.reduceLT, Nat.reduceLeDiff, Nat.reduceAdd, Nat.reduceSub, reduceIte]
    rfl
  · intro i hi
    simp only [EV, Nat.reduceEqDiff, Nat.reduceBEq, Nat.reduceLT, Nat.reduceLeDiff, Nat.reduceAdd, Nat.reduceSub, reduceIte]
    refine cK_cut (fun h => ?_) (fun h => ?_)
    · have i2 : (i : Int) < (x.length : Int) := by simpa using h
      have i1 : i < x.length := by omega
      clear h
      have wi := w64 ((i : Int) + 1) (by omega)
      have hq := l1 i
      rw [List.length_take] at hq
      have hst := flat_take (c := cG y) i1
      refine awp_join (fun _ : Unit => True) (fun _ => stl [(0, .fptr a.z), (1, .fptr b.z), (5, .usl 74 2 (((x.take (i + 1)).flatMap (cG y)).map Chg.z)), (14, .dead), (16, .usl 59 3 (x.map Fing.z)), (17, .v (.int .i64 (x.length : Int))), (18, .v (.int .i64 (i : Int))), (37, .dead), (48, .dead), (71, .dead)]) ?_ ?_
      · simp only [FingE, i1, i2, nth_map i1, Fing.z, EV, Nat.reduceEqDiff, Nat.reduceBEq, Nat.reduceLT, Nat.reduceLeDiff, Nat.reduceAdd, Nat.reduceSub, reduceIte]
        refine callK_i (dgb _) ?_
        simp only [EV, Nat.reduceEqDiff, Nat.reduceBEq, Nat.reduceLT, Nat.reduceLeDiff, Nat.reduceAdd, Nat.reduceSub, reduceIte]
        rw [hst]
        rcases e : (atF y x[i].name).isSome with _ | _
        · simp only [Bool.not_false, EV, Nat.reduceEqDiff, Nat.reduceBEq, Nat.reduceLT, Nat.reduceLeDiff, Nat.reduceAdd, Nat.reduceSub, reduceIte]
          refine ⟨by omega, by omega, (), ?_⟩
          simp only [cG, e, Bool.false_eq_true, if_false, List.map_append, List.map_cons, List.map_nil, Chg.z]
        · simp only [Bool.not_true, EV, Nat.reduceEqDiff, Nat.reduceBEq, Nat.reduceLT, Nat.reduceLeDiff, Nat.reduceAdd, Nat.reduceSub, reduceIte]
          rcases e2 : (sumA (atF y x[i].name) != x[i].sum) with _ | _
          · simp only [EV, Nat.reduceEqDiff, Nat.reduceBEq, Nat.reduceLT, Nat.reduceLeDiff, Nat.reduceAdd, Nat.reduceSub, reduceIte]
            refine ⟨(), ?_⟩
            simp only [cG, e, e2, Bool.false_eq_true, if_false, if_true, List.append_nil]
          · simp only [EV, Nat.reduceEqDiff, Nat.reduceBEq, Nat.reduceLT, Nat.reduceLeDiff, Nat.reduceAdd, Nat.reduceSub, reduceIte]
            refine ⟨by omega, by omega, (), ?_⟩
            simp only [cG, e, e2, if_true, List.map_append, List.map_cons, List.map_nil, Chg.z]
      · rintro _ _
        simp only [wi, EV, Nat.reduceEqDiff, Nat.reduceBEq, Nat.reduceLT, Nat.reduceLeDiff, Nat.reduceAdd, Nat.reduceSub, reduceIte]
        exact ⟨i + 1, i1, by omega, rfl⟩
    · have i1 : i = x.length := by have : ¬ (i : Int) < x.length := by simpa using h
                                   omega
      subst i1
      rw [List.take_length]
      clear h hi
      simp only [EV, Nat.reduceEqDiff, Nat.reduceBEq, Nat.reduceLT, Nat.reduceLeDiff, Nat.reduceAdd, Nat.reduceSub, reduceIte]
      refine callK_i dfb ?_
      simp only [EV, Nat.reduceEqDiff, Nat.reduceBEq, Nat.reduceLT, Nat.reduceLeDiff, Nat.reduceAdd, Nat.reduceSub, reduceIte]
      refine awp_loop (fun i : Nat => i ≤ y.length) (fun i => stl [(0, .fptr a.z), (5, .usl 74 2 ((x.flatMap (cG y) ++ (y.take i).flatMap (cN x)).map Chg.z)), (14, .dead), (37, .dead), (48, .dead), (51, .usl 59 3 (y.map Fing.z)), (52, .v (.int .i64 (y.length : Int))), (53, .v (.int .i64 (i : Int))), (71, .dead)]) (fun i => y.length - i) 0 (Nat.zero_le _) ?_ ?_
      · simp only [List.take_zero, List.flatMap_nil, List.append_nil, EV, Nat.reduceEqDiff, Nat.reduceBEq, Nat.reduceLT, Nat.reduceLeDiff, Nat.reduceAdd, Nat.reduceSub, reduceIte]
        rfl
      · intro i hi
        simp only [EV, Nat.reduceEqDiff, Nat.reduceBEq, Nat.reduceLT, Nat.reduceLeDiff, Nat.reduceAdd, Nat.reduceSub, reduceIte]
        refine cK_cut (fun h => ?_) (fun h => ?_)
        · have i2 : (i : Int) < (y.length : Int) := by simpa using h
          have i1 : i < y.length := by omega
          clear h
          have wi := w64 ((i : Int) + 1) (by omega)
          have hq := l2 i
          rw [List.length_take] at hq
          have hst := flat_take (c := cN x) i1
          refine awp_join (fun _ : Unit => True) (fun _ => stl [(0, .fptr a.z), (5, .usl 74 2 ((x.flatMap (cG y) ++ (y.take (i + 1)).flatMap (cN x)).map Chg.z)), (14, .dead), (37, .dead), (48, .dead), (51, .usl 59 3 (y.map Fing.z)), (52, .v (.int .i64 (y.length : Int))), (53, .v (.int .i64 (i : Int))), (71, .dead)]) ?_ ?_
          · simp only [FingE, i1, i2, nth_map i1, Fing.z, EV, Nat.reduceEqDiff, Nat.reduceBEq, Nat.reduceLT, Nat.reduceLeDiff, Nat.reduceAdd, Nat.reduceSub, reduceIte]
            refine callK_i (dga _) ?_
            simp only [EV, Nat.reduceEqDiff, Nat.reduceBEq, Nat.reduceLT, Nat.reduceLeDiff, Nat.reduceAdd, Nat.reduceSub, reduceIte]
            rw [hst, ← List.append_assoc]
            rcases e : (atF x y[i].name).isSome with _ | _
            · simp only [Bool.not_false, EV, Nat.reduceEqDiff, Nat.reduceBEq, Nat.reduceLT, Nat.reduceLeDiff, Nat.reduceAdd, Nat.reduceSub, reduceIte]
              refine ⟨by rw [List.length_append]; omega, by rw [List.length_append]; omega, (), ?_⟩
              simp only [cN, e, Bool.false_eq_true, if_false, List.map_append, List.map_cons, List.map_nil, Chg.z]
            · simp only [Bool.not_true, EV, Nat.reduceEqDiff, Nat.reduceBEq, Nat.reduceLT, Nat.reduceLeDiff, Nat.reduceAdd, Nat.reduceSub, reduceIte]
              refine ⟨(), ?_⟩
              simp only [cN, e, if_true, List.append_nil]
          · rintro _ _
            simp only [wi, EV, Nat.reduceEqDiff, Nat.reduceBEq, Nat.reduceLT, Nat.reduceLeDiff, Nat.reduceAdd, Nat.reduceSub, reduceIte]
            exact ⟨i + 1, i1, by omega, rfl⟩
        · have i1 : i = y.length := by have : ¬ (i : Int) < y.length := by simpa using h
                                       omega
          subst i1
          rw [List.take_length]
          clear h hi
          simp only [EV, Nat.reduceEqDiff, Nat.reduceBEq, Nat.reduceLT, Nat.reduceLeDiff, Nat.reduceAdd, Nat.reduceSub, reduceIte]
          refine callK2_i (d156 (dfU x y) hnd (by unfold dfU; rw [List.length_append]; omega)) rfl (by simp [shapeOf, ascOf_len, dfU]) ?_
          simp only [EV, Nat.reduceEqDiff, Nat.reduceBEq, Nat.reduceLT, Nat.reduceLeDiff, Nat.reduceAdd, Nat.reduceSub, reduceIte]
          simp only [Chg.nfz, EV, Nat.reduceEqDiff, Nat.reduceBEq, Nat.reduceLT, Nat.reduceLeDiff, Nat.reduceAdd, Nat.reduceSub, reduceIte, evRE, retVC, cellV', evR, nfz, nfzs, nfzss, List.contains_nil, List.contains_cons, Bool.or_false, or_true]
end Go.AM
namespace Go.AM
set_option linter.unusedVariables false
set_option linter.unusedSimpArgs false
def m138 : MC :=
 (.seq (.reg [Xb 4 (.asg (.i 0))]) (.seq (.seq (.reg [Xm 6 0, Xn 7 6, Xq 8 (.mov (.i 0))]) (.block 0 (.loop [0, 1, 7, 8] (.seq (.reg [Xq 9 (.bin false .lss (.t 8) (.t 7))]) (.seq (.cond (.t 9) .skip (.exit 0)) (.seq (.block 1 (.seq (.reg [Xm 10 8, Xa 5 10]) (.seq (.reg [Xm 11 1, Xm 12 0, Xm 13 5, Xi 14 2 12 13, XL 15 2 14, Xb 16 (.call (.t 11) false [.lend (.t 15)])]) (.cond (.t 16) (.seq (.reg [Xm
 17 5, Xa 4 17]) .ret) .skip)))) (.reg [Xq 18 (.bin false .add (.t 8) (.i 1)), Xm 8 18]))))))) (.seq (.reg [Xb 4 (.asg (.i (-1)))]) .ret)))
theorem d138 (l : List Chg) (hl : l.length < 9223372036854775807) (f : Nat) (caps : List AV) (q : Chg → Bool) (hp : plains caps = true) (hb : bares caps = true) (hk : ∀ K, killVs K caps = caps) (hf : ∀ (st : St), frzBs st caps = caps)
    (hq : ∀ s ∈ l, Does Go.Proofs.Tryz.prog f (.agg s.z :: caps) false (.v (.bool (q s))) (.dead :: caps.map fun _ => .dead)) :
    Does Go.Proofs.Tryz.prog 138 [.fsl 2 (l.map Chg.z), .clo f caps] false (.v (.int .i64 (findI q l))) [.dead, .dead] := by
  refine does_intro (mc := m138) (N := 19) (rs := [4]) (fx := []) 2 rfl (by decide +kernel) ?_
  simp only [m138, EV, Nat.reduceEqDiff, Nat.reduceBEq, Nat.reduceLT, Nat.reduceLeDiff, Nat.reduceAdd, Nat.reduceSub, reduceIte]
  refine awp_loop (fun i : Nat => i ≤ l.length ∧ ∀ j (hj : j < l.length), j < i → q l[j] = false) (fun i => stl [(0, .fsl 2 (l.map Chg.z)), (1, .clo f caps), (7, .v (.int .i64 (l.length : Int))), (8, .v (.int .i64 (i : Int)))]) (fun i => l.length - i) 0 ⟨Nat.zero_le _, fun j hj h => absurd h (by omega)⟩ ?_ ?_
  · simp only [hp, hb, hk, EV, Nat.reduceEqDiff, Nat.reduceBEq, Nat.reduceLT, Nat.reduceLeDiff, Nat.reduceAdd, Nat.reduceSub, reduceIte]
    rfl
  · rintro i ⟨hi, hno⟩
    simp only [EV, Nat.reduceEqDiff, Nat.reduceBEq, Nat.reduceLT, Nat.reduceLeDiff, Nat.reduceAdd, Nat.reduceSub, reduceIte]
    refine cK_cut (fun h => ?_) (fun h => ?_)
    · have h1 : i < l.length := by simpa using h
      have h2 : (i : Int) < (l.length : Int) := by omega
      simp only [ChgE, nth_map h1, h2, hp, hb, EV, Nat.reduceEqDiff, Nat.reduceBEq, Nat.reduceLT, Nat.reduceLeDiff, Nat.reduceAdd, Nat.reduceSub, reduceIte]
      refine callK_i (hq l[i] (List.getElem_mem h1)) ?_
      simp only [EV, Nat.reduceEqDiff, Nat.reduceBEq, Nat.reduceLT, Nat.reduceLeDiff, Nat.reduceAdd, Nat.reduceSub, reduceIte]
      refine cK_cut (fun h => ?_) (fun h => ?_)
      · simp only [EV, Nat.reduceEqDiff, Nat.reduceBEq, Nat.reduceLT, Nat.reduceLeDiff, Nat.reduceAdd, Nat.reduceSub, reduceIte]
        simp only [findI_at h1 h hno, EV, Nat.reduceEqDiff, Nat.reduceBEq, Nat.reduceLT, Nat.reduceLeDiff, Nat.reduceAdd, Nat.reduceSub, reduceIte, evRE, retVC, cellV', evR, nfz, nfzs, nfzss, List.contains_nil, List.contains_cons, Bool.or_false, or_true]
      · simp only [hp, hb, hk, EV, Nat.reduceEqDiff, Nat.reduceBEq, Nat.reduceLT, Nat.reduceLeDiff, Nat.reduceAdd, Nat.reduceSub, reduceIte]
        rw [w64 _ (by omega)]
        refine ⟨i + 1, ⟨by omega, ?_⟩, by omega, rfl⟩
        intro j hj hji
        by_cases e : j = i
        · subst e; exact h
        · exact hno j hj (by omega)
    · have h1 : i = l.length := by have : ¬ (i : Int) < l.length := by simpa using h
                                   omega
      subst h1
      simp only [EV, Nat.reduceEqDiff, Nat.reduceBEq, Nat.reduceLT, Nat.reduceLeDiff, Nat.reduceAdd, Nat.reduceSub, reduceIte]
      simp only [findI_no (fun j hj => hno j hj hj), EV, Nat.reduceEqDiff, Nat.reduceBEq, Nat.reduceLT, Nat.reduceLeDiff, Nat.reduceAdd, Nat.reduceSub, reduceIte, evRE, retVC, cellV', evR, nfz, nfzs, nfzss, List.contains_nil, List.contains_cons, Bool.or_false, or_true]
def m74 : MC :=
 (.seq (.reg [Xb 4 (.asg .fb)]) (.seq (.reg [Xm 5 0, Xm 6 1, Xb 7 (.call (.fn 138) false [.lend (.t 5), .lend (.t 6)]), Xq 8 (.bin false .geq (.t 7) (.i 0)), Xa 4 8]) .ret))
theorem d74 (l : List Chg) (hl : l.length < 9223372036854775807) (f : Nat) (caps : List AV) (q : Chg → Bool) (hp : plains caps = true) (hb : bares caps = true) (hk : ∀ K, killVs K caps = caps) (hf : ∀ (st : St), frzBs st caps = caps)
    (hq : ∀ s ∈ l, Does Go.Proofs.Tryz.prog f (.agg s.z :: caps) false (.v (.bool (q s))) (.dead :: caps.map fun _ => .dead)) :
    Does Go.Proofs.Tryz.prog 74 [.fsl 2 (l.map Chg.z), .clo f caps] false (.v (.bool (l.any q))) [.dead, .dead] := by
  refine does_intro (mc := m74) (N := 9) (rs := [4]) (fx := []) 2 rfl (by decide +kernel) ?_
  simp only [m74, hp, hb, hk, hf, EV, Nat.reduceEqDiff, Nat.reduceBEq, Nat.reduceLT, Nat.reduceLeDiff, Nat.reduceAdd, Nat.reduceSub, reduceIte]
  refine callK_i (d138 l hl f caps q hp hb hk hf hq) ?_
  simp only [EV, Nat.reduceEqDiff, Nat.reduceBEq, Nat.reduceLT, Nat.reduceLeDiff, Nat.reduceAdd, Nat.reduceSub, reduceIte]
  simp only [findI_any, EV, Nat.reduceEqDiff, Nat.reduceBEq, Nat.reduceLT, Nat.reduceLeDiff, Nat.reduceAdd, Nat.reduceSub, reduceIte, evRE, retVC, cellV', evR, nfz, nfzs, nfzss, List.contains_nil, List.contains_cons, Bool.or_false, or_true]
noncomputable def dsOk (a b : Scope) : Bool := scOk a && scOk b
noncomputable def dsL (a b : Scope) : List Chg := if dsOk a b = true then mrg (fgL a) (fgL b) else []
def isNew (c : Chg) : Bool := c.kind != 1
noncomputable def wdN (a b : Scope) : Bool := dsOk a b && !((dsL a b).any isNew)
theorem mrg_le (x y : List Fing) (hx : Asc Fing.name x) (hy : Asc Fing.name y) : (mrg x y).length ≤ x.length + y.length := by
  rw [← df_eq hx hy, ascOf_len, dfU, List.length_append]
  have l3 := flat_le _ (cG_nm y) x
  have l4 := flat_le _ (cN_nm x) y
  omega
theorem dsL_len (a b : Scope) : (dsL a b).length ≤ 32 := by
  unfold dsL
  split
  · rename_i h
    simp only [dsOk, Bool.and_eq_true] at h
    have := mrg_le _ _ (fgL_asc h.1) (fgL_asc h.2)
    have := fgL_len h.1
    have := fgL_len h.2
    omega
  · simp
def m35 : MC :=
 (.seq (.reg [Xb 2 (.box 49 (.t 0)), Xb 3 (.box 49 (.t 1)), Xb 4 (.asg (.nils 74 2)), Xb 5 (.asg .fb)]) (.seq (.seq (.reg [Xb 6 (.call (.fn 78) false [.lend (.t 2)]), Xq 7 (.un .not (.t 6)), Xm 8 7, XU 9 8 (.call (.fn 78) false [.lend (.t 3)]), Xu 10 8 (.un .not (.t 9)), Xq 11 (.pick (.t 8) .tb (.t 10))]) (.cond (.t 11) (.seq (.reg [Xb 4 (.asg (.nils 74 2)), Xb 5 (.asg .fb)]) .ret) .skip)) (.seq
 (.reg [Xb 12 (.call (.fn 83) false [.lend (.t 2), .lend (.t 3)]), Xa 4 12, Xb 5 (.asg .tb)]) .ret)))
set_option maxHeartbeats 1000000 in
set_option maxRecDepth 100000 in
theorem d35 (a b : Scope) (ha : a.sm) (hb : b.sm) :
    Does Go.Proofs.Tryz.prog 35 [.agg a.z, .agg b.z] false (.tup [.usl 74 2 ((dsL a b).map Chg.z), .v (.bool (dsOk a b))]) [.dead, .dead] := by
  have da := d78 a ha
  have db := d78 b hb
  simp only [Scope.z] at da db
  refine does_intro (mc := m35) (N := 13) (rs := [4, 5]) (fx := []) 2 rfl (by decide +kernel) ?_
  simp only [m35, Scope.z, EV, Nat.reduceEqDiff, Nat.reduceBEq, Nat.reduceLT, Nat.reduceLeDiff, Nat.reduceAdd, Nat.reduceSub, reduceIte]
  refine callK_i da ?_
  simp only [Scope.z, EV, Nat.reduceEqDiff, Nat.reduceBEq, Nat.reduceLT, Nat.reduceLeDiff, Nat.reduceAdd, Nat.reduceSub, reduceIte]
  rcases e1 : scOk a with _ | _
  · simp only [Bool.not_false, EV, Nat.reduceEqDiff, Nat.reduceBEq, Nat.reduceLT, Nat.reduceLeDiff, Nat.reduceAdd, Nat.reduceSub, reduceIte]
    simp only [dsL, dsOk, e1, Bool.false_and, Bool.false_eq_true, if_false, List.map_nil, EV, Nat.reduceEqDiff, Nat.reduceBEq, Nat.reduceLT, Nat.reduceLeDiff, Nat.reduceAdd, Nat.reduceSub, reduceIte, evRE, retVC, cellV', evR, nfz, nfzs, nfzss, List.contains_nil, List.contains_cons, Bool.or_false, or_true]
  simp only [Bool.not_true, Scope.z, EV, Nat.reduceEqDiff, Nat.reduceBEq, Nat.reduceLT, Nat.reduceLeDiff, Nat.reduceAdd, Nat.reduceSub, reduceIte]
  refine callK_i db ?_
  simp only [Scope.z, EV, Nat.reduceEqDiff, Nat.reduceBEq, Nat.reduceLT, Nat.reduceLeDiff, Nat.reduceAdd, Nat.reduceSub, reduceIte]
  rcases e2 : scOk b with _ | _
  · simp only [Bool.not_false, EV, Nat.reduceEqDiff, Nat.reduceBEq, Nat.reduceLT, Nat.reduceLeDiff, Nat.reduceAdd, Nat.reduceSub, reduceIte]
    simp only [dsL, dsOk, e1, e2, Bool.and_false, Bool.false_eq_true, if_false, List.map_nil, EV, Nat.reduceEqDiff, Nat.reduceBEq, Nat.reduceLT, Nat.reduceLeDiff, Nat.reduceAdd, Nat.reduceSub, reduceIte, evRE, retVC, cellV', evR, nfz, nfzs, nfzss, List.contains_nil, List.contains_cons, Bool.or_false, or_true]
  have dd := d83 a b ha hb e1 e2
  simp only [Scope.z] at dd
  simp only [Bool.not_true, Scope.z, EV, Nat.reduceEqDiff, Nat.reduceBEq, Nat.reduceLT, Nat.reduceLeDiff, Nat.reduceAdd, Nat.reduceSub, reduceIte]
  refine callK_i dd ?_
  simp only [EV, Nat.reduceEqDiff, Nat.reduceBEq, Nat.reduceLT, Nat.reduceLeDiff, Nat.reduceAdd, Nat.reduceSub, reduceIte]
  simp only [dsL, dsOk, e1, e2, Bool.and_self, if_true, Chg.nfz, EV, Nat.reduceEqDiff, Nat.reduceBEq, Nat.reduceLT, Nat.reduceLeDiff, Nat.reduceAdd, Nat.reduceSub, reduceIte, evRE, retVC, cellV', evR, nfz, nfzs, nfzss, List.contains_nil, List.contains_cons, Bool.or_false, or_true]
def m75 : MC :=
 (.seq (.reg [Xb 1 (.box 74 (.t 0)), Xb 2 (.asg .fb)]) (.seq (.reg [Xf 3 1 1, Xl 4 1 3, Xq 5 (.bin false .neq (.t 4) (.i 1)), Xa 2 5]) .ret))
theorem d75 (c : Chg) : Does Go.Proofs.Tryz.prog 75 [.agg c.z] false (.v (.bool (isNew c))) [.dead] := by
  refine does_intro (mc := m75) (N := 6) (rs := [2]) (fx := []) 1 rfl (by decide +kernel) ?_
  simp only [m75, Chg.z, EV, Nat.reduceEqDiff, Nat.reduceBEq, Nat.reduceLT, Nat.reduceLeDiff, Nat.reduceAdd, Nat.reduceSub, reduceIte]
  simp only [isNew, EV, Nat.reduceEqDiff, Nat.reduceBEq, Nat.reduceLT, Nat.reduceLeDiff, Nat.reduceAdd, Nat.reduceSub, reduceIte, evRE, retVC, cellV', evR, nfz, nfzs, nfzss, List.contains_nil, List.contains_cons, Bool.or_false, or_true]
def m25 : MC :=
 (.seq (.reg [Xb 2 (.box 49 (.t 0)), Xb 3 (.box 49 (.t 1)), Xb 4 (.asg .fb), Xb 5 (.asg .fb)]) (.seq (.reg [XL 9 5 2, XL 10 5 3, Xb 11 (.call (.fn 35) false [.lend (.t 9), .lend (.t 10)]), Xa 8 11, Xq 12 (.ext 8 0), Xq 13 (.ext 8 1), Xa 6 12, Xa 7 13]) (.seq (.reg [Xm 14 7, Xm 15 14, Xt 16 15 (.mov (.t 6)), XT 17 15 (.call (.fn 74) false [.lend (.t 16), .lend (.fn 75)]), Xt 18 15 (.un .not (.t
 17)), Xq 19 (.pick (.t 15) (.t 18) .fb), Xm 20 7, Xa 4 19, Xa 5 20]) .ret)))
set_option maxHeartbeats 1000000 in
set_option maxRecDepth 100000 in
theorem d25 (a b : Scope) (ha : a.sm) (hb : b.sm) :
    Does Go.Proofs.Tryz.prog 25 [.agg a.z, .agg b.z] false (.tup [.v (.bool (wdN a b)), .v (.bool (dsOk a b))]) [.dead, .dead] := by
  have dd := d35 a b ha hb
  simp only [Scope.z] at dd
  have hl := dsL_len a b
  have dc := d74 (dsL a b) (by omega) 75 [] isNew rfl rfl (fun _ => rfl) (fun _ => rfl) (fun c _ => d75 c)
  refine does_intro (mc := m25) (N := 21) (rs := [4, 5]) (fx := []) 2 rfl (by decide +kernel) ?_
  simp only [m25, Scope.z, EV, Nat.reduceEqDiff, Nat.reduceBEq, Nat.reduceLT, Nat.reduceLeDiff, Nat.reduceAdd, Nat.reduceSub, reduceIte]
  refine callK_i dd ?_
  simp only [EV, Nat.reduceEqDiff, Nat.reduceBEq, Nat.reduceLT, Nat.reduceLeDiff, Nat.reduceAdd, Nat.reduceSub, reduceIte]
  rcases e : dsOk a b with _ | _
  · simp only [EV, Nat.reduceEqDiff, Nat.reduceBEq, Nat.reduceLT, Nat.reduceLeDiff, Nat.reduceAdd, Nat.reduceSub, reduceIte]
    simp only [wdN, e, Bool.false_and, EV, Nat.reduceEqDiff, Nat.reduceBEq, Nat.reduceLT, Nat.reduceLeDiff, Nat.reduceAdd, Nat.reduceSub, reduceIte, evRE, retVC, cellV', evR, nfz, nfzs, nfzss, List.contains_nil, List.contains_cons, Bool.or_false, or_true]
  simp only [Chg.frz, EV, Nat.reduceEqDiff, Nat.reduceBEq, Nat.reduceLT, Nat.reduceLeDiff, Nat.reduceAdd, Nat.reduceSub, reduceIte]
  refine callK_i dc ?_
  simp only [EV, Nat.reduceEqDiff, Nat.reduceBEq, Nat.reduceLT, Nat.reduceLeDiff, Nat.reduceAdd, Nat.reduceSub, reduceIte]
  simp only [wdN, e, Bool.true_and, EV, Nat.reduceEqDiff, Nat.reduceBEq, Nat.reduceLT, Nat.reduceLeDiff, Nat.reduceAdd, Nat.reduceSub, reduceIte, evRE, retVC, cellV', evR, nfz, nfzs, nfzss, List.contains_nil, List.contains_cons, Bool.or_false, or_true]
end Go.AM
namespace Go.AM
set_option linter.unusedVariables false
set_option linter.unusedSimpArgs false
theorem ox_of {s : Scope} (h1 : ∀ o ∈ s.objects, nameOk o.name = true ∧ obOk s.types o = true ∧ s.imports.any (eqSt o.name) = false) (h2 : (s.objects.map Ob.name).Nodup) : oxTo s s.objects.length := by
  intro i hi _
  obtain ⟨a, b, c⟩ := h1 _ (List.getElem_mem hi)
  refine ⟨⟨a, b⟩, c, ?_⟩
  rw [List.any_eq_false]
  intro x hx he
  obtain ⟨j, hj, rfl⟩ := List.getElem_of_mem hx
  simp only [List.length_take] at hj
  simp only [List.getElem_take, eqSt, nmS] at he
  have e := bs_eq.1 he
  unfold List.Nodup at h2
  rw [List.pairwise_iff_getElem] at h2
  have := h2 j i (by simp; omega) (by simpa using hi) (by omega)
  simp only [List.getElem_map] at this
  exact this e.symm
theorem ox_to {s : Scope} (h : oxTo s s.objects.length) : ∀ o ∈ s.objects, nameOk o.name = true ∧ obOk s.types o = true ∧ s.imports.any (eqSt o.name) = false := by
  intro o ho
  obtain ⟨i, hi, rfl⟩ := List.getElem_of_mem ho
  have := h i hi hi
  exact ⟨this.1.1, this.1.2, this.2.1⟩
def onO (o : Ob) : Ob := { o with mark := 1 }
def shw (s : Scope) (k : Nat) (o : Ob) : Scope := ⟨s.name, s.imports, s.types, s.objects.take k ++ (onO o :: s.objects.drop (k + 1)), s.uses⟩
theorem obs_eq {s : Scope} {k : Nat} (hk : k < s.objects.length) : s.objects = s.objects.take k ++ (s.objects[k] :: s.objects.drop (k + 1)) := by
  rw [← List.drop_eq_getElem_cons hk, List.take_append_drop]
theorem shw_names {s : Scope} {k : Nat} (hk : k < s.objects.length) : (shw s k s.objects[k]).objects.map Ob.name = s.objects.map Ob.name := by
  have e : s.objects.map Ob.name = (s.objects.take k ++ (s.objects[k] :: s.objects.drop (k + 1))).map Ob.name := congrArg _ (obs_eq hk)
  rw [e]
  simp only [shw, onO, List.map_append, List.map_cons]
theorem onO_ok {l : List Ty} {o : Ob} (h : obOk l o = true) (hm : o.mark = 0) : obOk l (onO o) = true := by
  simp only [obOk, obPre, hm, Bool.and_eq_true] at h
  simp only [obOk, obPre, onO, Bool.and_eq_true]
  obtain ⟨⟨⟨⟨h1, h2⟩, h3⟩, h4⟩, h5, h6⟩ := h
  exact ⟨⟨⟨⟨⟨rfl, rfl⟩, by simp⟩, h3⟩, h4⟩, h5, h6⟩
theorem shw_ok {s : Scope} (h : scOk s = true) {k : Nat} (hk : k < s.objects.length) (hm : s.objects[k].mark = 0) : scOk (shw s k s.objects[k]) = true := by
  have hn := scOk_names h
  rw [scOk_iff, ScP_iff] at h ⊢
  obtain ⟨⟨⟨⟨⟨a, b⟩, c⟩, d⟩, e⟩, f, g, u⟩ := h
  have g' := ox_to g
  have hl : (shw s k s.objects[k]).objects.length = s.objects.length := by
    have := congrArg List.length (shw_names hk)
    simpa using this
  refine ⟨⟨⟨⟨⟨a, b⟩, c⟩, by rw [hl]; exact d⟩, e⟩, f, ?_, u⟩
  refine ox_of (fun o ho => ?_) (by rw [shw_names hk]; exact hn)
  simp only [shw, List.mem_append, List.mem_cons] at ho
  rcases ho with ho | rfl | ho
  · exact g' o (List.mem_of_mem_take ho)
  · have := g' _ (List.getElem_mem hk)
    exact ⟨this.1, onO_ok this.2.1 hm, this.2.2⟩
  · exact g' o (List.mem_of_mem_drop ho)
theorem asc_one {l : List Chg} (h : Asc Chg.name l) {c : Chg} (hm : ∀ a, a ∈ l ↔ a = c) : l = [c] := by
  refine asc_ext (nm := Chg.name) h (by simp [Asc]) fun a => by rw [hm]; simp
theorem shw_dsL {s : Scope} (h : scOk s = true) {k : Nat} (hk : k < s.objects.length) (hm : s.objects[k].mark = 0) : dsL s (shw s k s.objects[k]) = [⟨s.objects[k].name, 1⟩] := by
  have h' := shw_ok h hk hm
  have hd : dsOk s (shw s k s.objects[k]) = true := by simp only [dsOk, h, h', Bool.and_self]
  simp only [dsL, hd, if_true]
  have hx := fgL_asc h
  have hy := fgL_asc h'
  refine asc_one (mrg_asc _ _ hx hy) fun c => ?_
  rw [mrg_mem _ _ hx hy]
  have hts : ftS (shw s k s.objects[k]) = ftS s := rfl
  have mx : ∀ f, f ∈ fgL s ↔ f ∈ fgU (ftS s) s.objects := fun f => ascOf_mem
  have my : ∀ f, f ∈ fgL (shw s k s.objects[k]) ↔ f ∈ fgL s ∨ f = fgO (ftS s) (onO s.objects[k]) := by
    intro f
    have e1 : f ∈ fgL (shw s k s.objects[k]) ↔ f ∈ fgU (ftS s) (shw s k s.objects[k]).objects := ascOf_mem
    rw [e1, mx]
    have e2 : fgU (ftS s) s.objects = fgU (ftS s) (s.objects.take k) ++ fgU (ftS s) (s.objects.drop (k + 1)) := by
      conv => lhs; rw [obs_eq hk]
      have hs : shown s.objects[k] = false := by simp [shown, hm]
      simp only [fgU, List.filter_append, List.filter_cons, hs, Bool.false_eq_true, if_false, List.map_append]
    have e3 : fgU (ftS s) (shw s k s.objects[k]).objects = fgU (ftS s) (s.objects.take k) ++ (fgO (ftS s) (onO s.objects[k]) :: fgU (ftS s) (s.objects.drop (k + 1))) := by
      have hs : shown (onO s.objects[k]) = true := by simp [shown, onO]
      simp only [shw, fgU, List.filter_append, List.filter_cons, hs, if_true, List.map_append, List.map_cons]
    rw [e2, e3]
    simp only [List.mem_append, List.mem_cons]
    constructor
    · rintro (h1 | h1 | h1)
      · exact .inl (.inl h1)
      · exact .inr h1
      · exact .inl (.inr h1)
    · rintro ((h1 | h1) | h1)
      · exact .inl h1
      · exact .inr (.inr h1)
      · exact .inr (.inl h1)
  have hname : (fgO (ftS s) (onO s.objects[k])).name = s.objects[k].name := rfl
  have hnew : ∀ f ∈ fgL s, f.name ≠ s.objects[k].name := by
    intro f hf e
    rw [mx] at hf
    unfold fgU at hf
    obtain ⟨o, ho, rfl⟩ := List.mem_map.1 hf
    have ho1 := (List.mem_filter.1 ho).1
    have ho2 : shown o = true := (List.mem_filter.1 ho).2
    obtain ⟨j, hj, rfl⟩ := List.getElem_of_mem ho1
    have hn := scOk_names h
    have hjk : j = k := by
      have e' : (s.objects.map Ob.name)[j]'(by simpa using hj) = (s.objects.map Ob.name)[k]'(by simpa using hk) := by
        simp only [List.getElem_map]; exact e
      unfold List.Nodup at hn
      rw [List.pairwise_iff_getElem] at hn
      rcases Nat.lt_trichotomy j k with hl | hl | hl
      · exact absurd e' (hn j k (by simpa using hj) (by simpa using hk) hl)
      · exact hl
      · exact absurd e'.symm (hn k j (by simpa using hk) (by simpa using hj) hl)
    subst hjk
    simp [shown, hm] at ho2
  constructor
  · rintro (⟨f, hf, h1, ⟨h2, h3⟩ | ⟨h2, g, hg, h3, h4⟩⟩ | ⟨g, hg, h1, h2, h3⟩)
    · exact absurd rfl (h3 f ((my f).2 (.inl hf)))
    · rcases (my g).1 hg with hg | rfl
      · have := asc_inj hx hf hg h3.symm
        subst this
        exact absurd rfl h4
      · exact absurd h3.symm (hnew f hf)
    · rcases (my g).1 hg with hg | rfl
      · exact absurd rfl (h3 g hg)
      · exact chg_ext.2 ⟨h1, h2⟩
  · rintro rfl
    exact .inr ⟨_, (my _).2 (.inr rfl), rfl, rfl, hnew⟩
theorem shw_wd {s : Scope} (h : scOk s = true) {k : Nat} (hk : k < s.objects.length) (hm : s.objects[k].mark = 0) : wdN s (shw s k s.objects[k]) = true := by
  have h' := shw_ok h hk hm
  simp only [wdN, dsOk, h, h', shw_dsL h hk hm, Bool.and_self, Bool.true_and]
  rfl
end Go.AM
namespace Go.AM
set_option linter.unusedVariables false
set_option linter.unusedSimpArgs false
def m23 : MC :=
 (.seq (.reg [Xb 4 (.asg .fb)]) (.seq (.reg [Xm 5 0, Xn 6 5, Xq 7 (.bin false .gtr (.t 6) (.i 1048576)), Xm 8 7, Xu 9 8 (.mov (.t 1)), Xu 10 8 (.len false (.t 9)), Xu 11 8 (.mov (.t 0)), Xu 12 8 (.len false (.t 11)), Xu 13 8 (.bin false .sub (.i 1048576) (.t 12)), Xu 14 8 (.bin false .gtr (.t 10) (.t 13)), Xq 15 (.pick (.t 8) .tb (.t 14)), Xa 4 15]) .ret))
theorem d23 (a b : List Int) (ha : (a.length : Int) ≤ 9223372036854775807) (hb : (b.length : Int) ≤ 9223372036854775807) : Does Go.Proofs.Tryz.prog 23 [.fsl 1 (a.map bv), .fsl 1 (b.map bv)] false (.v (.bool (decide (1048576 < (a.length : Int)) || decide (1048576 - (a.length : Int) < (b.length : Int))))) [.dead, .dead] := by
  refine does_intro (mc := m23) (N := 16) (rs := [4]) (fx := []) 2 rfl (by decide +kernel) ?_
  simp only [m23, EV, Nat.reduceEqDiff, Nat.reduceBEq, Nat.reduceLT, Nat.reduceLeDiff, Nat.reduceAdd, Nat.reduceSub, reduceIte]
  rcases e : decide (1048576 < (a.length : Int)) with _ | _
  · have h : ¬ 1048576 < (a.length : Int) := by simpa using e
    have w := w64 (1048576 - (a.length : Int)) (by omega)
    simp only [w, EV, Nat.reduceEqDiff, Nat.reduceBEq, Nat.reduceLT, Nat.reduceLeDiff, Nat.reduceAdd, Nat.reduceSub, reduceIte]
    simp only [Bool.false_or, EV, Nat.reduceEqDiff, Nat.reduceBEq, Nat.reduceLT, Nat.reduceLeDiff, Nat.reduceAdd, Nat.reduceSub, reduceIte, evRE, retVC, cellV', evR, nfz, nfzs, nfzss, List.contains_nil, List.contains_cons, Bool.or_false, or_true]
  · simp only [EV, Nat.reduceEqDiff, Nat.reduceBEq, Nat.reduceLT, Nat.reduceLeDiff, Nat.reduceAdd, Nat.reduceSub, reduceIte]
    simp only [Bool.true_or, EV, Nat.reduceEqDiff, Nat.reduceBEq, Nat.reduceLT, Nat.reduceLeDiff, Nat.reduceAdd, Nat.reduceSub, reduceIte, evRE, retVC, cellV', evR, nfz, nfzs, nfzss, List.contains_nil, List.contains_cons, Bool.or_false, or_true]
end Go.AM
namespace Go.AM
set_option linter.unusedVariables false
set_option linter.unusedSimpArgs false
theorem Ob.zfr (s : Ob) : frzRow s.z = s.z := by
  simp only [Ob.z, frzRow, frzL, List.cons_append, List.nil_append]
theorem Ob.zfrz : ∀ l : List Ob, frzRows (l.map Ob.z) = l.map Ob.z
  | [] => rfl
  | s :: l => by simp only [List.map_cons, frzRows, Ob.zfr, Ob.zfrz l]
def m37 : MC :=
 (.seq (.reg [Xb 2 (.box 49 (.t 0)), Xb 3 (.box 49 (.t 1)), Xb 4 (.asg .fb)]) (.seq (.reg [XL 5 5 2, XL 6 5 3, Xb 7 (.call (.fn 86) false [.lend (.t 5), .lend (.t 6)]), Xa 4 7]) .ret))
theorem d37 (x y : Scope) (hx : x.sm) (hy : y.sm) : Does Go.Proofs.Tryz.prog 37 [.agg x.z, .agg y.z] false (.v (.bool (sameSc x y))) [.dead, .dead] := by
  have d := d86 x y hx hy
  simp only [Scope.z] at d
  refine does_intro (mc := m37) (N := 8) (rs := [4]) (fx := []) 2 rfl (by decide +kernel) ?_
  simp only [m37, Scope.z, EV, Nat.reduceEqDiff, Nat.reduceBEq, Nat.reduceLT, Nat.reduceLeDiff, Nat.reduceAdd, Nat.reduceSub, reduceIte]
  refine callK_i d ?_
  simp only [EV, Nat.reduceEqDiff, Nat.reduceBEq, Nat.reduceLT, Nat.reduceLeDiff, Nat.reduceAdd, Nat.reduceSub, reduceIte]
  simp only [EV, Nat.reduceEqDiff, Nat.reduceBEq, Nat.reduceLT, Nat.reduceLeDiff, Nat.reduceAdd, Nat.reduceSub, reduceIte, evRE, retVC, cellV', evR, nfz, nfzs, nfzss, List.contains_nil, List.contains_cons, Bool.or_false, or_true]
def m6 : MC :=
 (.seq (.reg [Xb 4 (.asg .fb)]) (.keep [0, 1] (.seq (.seq (.reg [Xm 19 0, Xm 20 1, Xb 21 (.call (.fn 23) false [.lend (.t 19), .lend (.t 20)])]) (.keep [0, 1, 21] (.cond (.t 21) (.seq (.reg [Xb 4 (.asg .tb)]) .ret) .skip))) (.keep [0, 1] (.seq (.reg [Xm 22 0, Xb 23 (.call (.fn 31) true [.lend (.t 22)]), Xb 5 (.alloc 49 [.z, .s 9 1, .s 129 6, .s 69 6, .s 132 2]), Xz (.store 5 (.t 5) (.t 23))])
 (.keep [1, 5] (.seq (.frz 5 (.reg [XL 25 5 5, Xb 26 (.call (.fn 32) false [.lend (.t 25)]), Xa 24 26, Xq 27 (.ext 24 0), Xq 28 (.ext 24 1), Xa 6 27, Xa 7 28])) (.keep [1, 5, 6, 7, 24, 26, 27] (.seq (.reg [XL 30 5 5, Xb 31 (.call (.fn 33) false [.lend (.t 30)]), Xa 29 31, Xq 32 (.ext 29 0), Xq 33 (.ext 29 1), Xa 8 32, Xa 9 33]) (.keep [1, 5, 6, 7, 8, 9, 24, 26, 27, 29, 31, 32] (.seq (.seq (.reg [Xm
 34 7, Xm 35 9, Xq 36 (.bin true .neq (.t 34) (.t 35)), Xm 37 36, Xu 38 37 (.mov (.t 6)), Xu 39 37 (.mov (.t 8)), XU 40 37 (.call (.fn 34) false [.lend (.t 38), .lend (.t 39)]), Xu 41 37 (.un .not (.t 40)), Xq 42 (.pick (.t 37) .tb (.t 41))]) (.keep [1, 5, 7, 42] (.cond (.t 42) (.seq (.reg [Xb 4 (.asg .fb)]) .ret) .skip))) (.keep [1, 5, 7] (.join [1] (.seq (.reg [Xm 43 7]) (.keep [1, 5, 43] (.cond
 (.t 43) (.seq (.reg [Xf 44 3 5, Xl 45 1 44, Xn 46 45, Xq 47 (.mov (.i 0))]) (.keep [1, 5, 44, 45, 46, 47] (.block 0 (.loop [1, 5, 44, 45, 46, 47] (.seq (.reg [Xq 48 (.bin false .lss (.t 47) (.t 46))]) (.keep [1, 5, 44, 45, 46, 47, 48] (.seq (.cond (.t 48) .skip (.exit 0)) (.keep [1, 5, 44, 45, 46, 47] (.join [1, 5, 44, 45, 46, 47] (.block 1 (.seq (.reg [Xm 49 47, Xi 50 6 45 47, XL 51 6 50, Xb 11
 (.alloc 69 [.z, .i, .i, .i, .i, .s 182 3]), Xa 10 49, Xz (.store 6 (.t 11) (.t 51))]) (.keep [1, 5, 10, 11, 44, 45, 46, 47] (.seq (.seq (.reg [Xf 52 2 11, Xl 53 1 52, Xq 54 (.bin false .neq (.t 53) (.i 0))]) (.keep [1, 5, 10, 11, 44, 45, 46, 47, 54] (.cond (.t 54) (.exit 1) .skip))) (.keep [1, 5, 10, 11, 44, 45, 46, 47] (.seq (.reg [Xf 55 0 5, Xl 56 1 55, Xf 57 1 5, Xl 58 1 57, Xf 59 2 5, Xl 60 1
 59, Xf 61 4 5, Xl 62 1 61, Xb 63 (.build [0, 1, 2, 4] [0, 1, 2, 4] [1, 1, 1, 1] [.z, .s 9 1, .s 129 6, .s 69 6, .s 132 2] [.t 56, .t 58, .t 60, .t 62]), Xb 12 (.alloc 49 [.z, .s 9 1, .s 129 6, .s 69 6, .s 132 2]), Xz (.store 5 (.t 12) (.t 63))]) (.keep [1, 5, 10, 11, 12, 44, 45, 46, 47] (.seq (.mix [5] [1, 10, 11, 12, 44, 45, 46, 47] [5] [] [2, 3] [0, 4, 5, 1, 6, 7, 8] [Xf 66 3 5, Xl 67 1 66] [Xf
 64 3 12, Xm 68 10, Xq 69 (.slc false 6 (.t 67) none (some (.t 68))), Xl 65 1 64, Xb 70 (.app false 69 6 72 (.t 65) (.t 69)), Xf 71 3 12, Xz (.store 1 (.t 71) (.t 70))]) (.keep [1, 5, 10, 11, 12, 44, 45, 46, 47] (.seq (.reg [Xf 72 2 11, Xz (.store 1 (.t 72) (.i 1))]) (.keep [1, 5, 10, 11, 12, 44, 45, 46, 47] (.seq (.reg [Xf 73 3 12, Xl 74 1 73, XL 75 6 11, Xb 76 (.bsl 69 6 [.t 75]), Xb 77 (.app
 true 69 6 72 (.t 74) (.t 76)), Xf 78 3 12, Xz (.store 1 (.t 78) (.t 77))]) (.keep [1, 5, 10, 11, 12, 44, 45, 46, 47] (.seq (.mix [5] [1, 10, 11, 12, 44, 45, 46, 47] [5] [] [2, 3] [0, 4, 5, 6, 1, 7, 8, 9] [Xf 81 3 5, Xl 82 1 81] [Xf 79 3 12, Xm 83 10, Xq 84 (.bin false .add (.t 83) (.i 1)), Xq 85 (.slc false 6 (.t 82) (some (.t 84)) none), Xl 80 1 79, Xb 86 (.app false 69 6 72 (.t 80) (.t 85)), Xf
 87 3 12, Xz (.store 1 (.t 87) (.t 86))]) (.keep [1, 5, 11, 12, 44, 45, 46, 47] (.seq (.reg [XL 89 5 5, XL 90 5 12, Xb 91 (.call (.fn 35) false [.lend (.t 89), .lend (.t 90)]), Xa 88 91, Xq 92 (.ext 88 0), Xq 93 (.ext 88 1), Xa 13 92, Xa 14 93]) (.keep [1, 5, 11, 12, 13, 14, 44, 45, 46, 47, 88, 91, 92] (.seq (.reg [XL 95 5 5, XL 96 5 12, Xb 97 (.call (.fn 25) false [.lend (.t 95), .lend (.t 96)]),
 Xm 94 97, Xq 98 (.ext 94 0), Xq 99 (.ext 94 1), Xa 15 98, Xa 16 99]) (.keep [1, 5, 11, 13, 14, 15, 16, 44, 45, 46, 47, 88, 91, 92] (.seq (.mix [11, 13, 14, 88, 91, 92] [1, 5, 15, 16, 44, 45, 46, 47, 123] [] [] [0, 1, 2, 3, 4, 5, 6, 7, 8, 9, 10, 11, 12] [13, 14, 15, 16, 17, 18, 19, 20, 21, 22, 23] [Xm 100 14, Xq 101 (.un .not (.t 100)), Xm 102 101, Xu 103 102 (.mov (.t 13)), Xu 104 102 (.len false
 (.t 103)), Xu 105 102 (.bin false .neq (.t 104) (.i 1)), Xq 106 (.pick (.t 102) .tb (.t 105)), Xm 107 106, Xu 108 107 (.mov (.t 13)), Xu 109 107 (.iad 2 (.t 108) (.i 0)), Xu 110 107 (.load true 2 (.t 109)), Xu 111 107 (.fad 0 (.t 11)), Xu 112 107 (.load false 1 (.t 111))] [XU 113 107 (.build [0, 1] [0, 1] [1, 1] [.z, .i] [.t 112, .i 1]), Xu 114 107 (.eqa true [1, 0] (.t 110) (.t 113)), Xq 115
 (.pick (.t 107) .tb (.t 114)), Xm 116 115, Xu 117 116 (.mov (.t 16)), Xu 118 116 (.un .not (.t 117)), Xq 119 (.pick (.t 116) .tb (.t 118)), Xm 120 119, Xu 121 120 (.mov (.t 15)), Xu 122 120 (.un .not (.t 121)), Xq 123 (.pick (.t 120) .tb (.t 122))]) (.keep [1, 5, 44, 45, 46, 47, 123] (.cond (.t 123) (.seq (.reg [Xb 4 (.asg .fb)]) .ret) .skip)))))))))))))))))))))) (.reg [Xq 124 (.bin false .add (.t
 47) (.i 1)), Xm 47 124])))))))))) .skip))) (.seq (.reg [Xm 126 1, Xb 127 (.call (.fn 36) true [.lend (.t 126)]), Xa 125 127, Xq 128 (.ext 125 0), Xq 129 (.ext 125 1), Xb 17 (.alloc 49 [.z, .s 9 1, .s 129 6, .s 69 6, .s 132 2]), Xb 18 (.alloc 49 [.z, .s 9 1, .s 129 6, .s 69 6, .s 132 2]), Xz (.store 5 (.t 17) (.t 128)), Xz (.store 5 (.t 18) (.t 129))]) (.keep [17, 18] (.seq (.dreg [XL 130 5 17, XL
 131 5 18, Xb 132 (.call (.fn 37) false [.lend (.t 130), .lend (.t 131)]), XL 133 5 17, XL 134 5 18, Xb 135 (.call (.fn 38) false [.lend (.t 133), .lend (.t 134)]), Xq 136 (.bin true .eql (.t 132) (.t 135)), Xm 4 136]) .ret))))))))))))))))
set_option maxHeartbeats 16000000 in
set_option maxRecDepth 100000 in
theorem d6 (code more : List Int) (hc : (code.length : Int) ≤ 9223372036854775807) (hm : (more.length : Int) ≤ 9223372036854775807) (hcb : ∀ b ∈ code, 0 ≤ b ∧ b ≤ 255) (hmb : ∀ b ∈ more, 0 ≤ b ∧ b ≤ 255) :
    Does Go.Proofs.Tryz.prog 6 [.fsl 1 (code.map bv), .fsl 1 (more.map bv)] false (.v (.bool true)) [.dead, .dead] := by
  have bs : ∀ b : Bool, (b != b) = false := fun b => by cases b <;> rfl
  have be : ∀ b : Bool, (b == b) = true := fun b => by cases b <;> rfl
  refine does_intro (mc := m6) (N := 137) (rs := [4]) (fx := []) 2 rfl (by decide +kernel) ?_
  simp only [m6, EV, Nat.reduceEqDiff, Nat.reduceBEq, Nat.reduceLT, Nat.reduceLeDiff, Nat.reduceAdd, Nat.reduceSub, reduceIte]
  refine callK_i (d23 code more hc hm) ?_
  simp only [EV, Nat.reduceEqDiff, Nat.reduceBEq, Nat.reduceLT, Nat.reduceLeDiff, Nat.reduceAdd, Nat.reduceSub, reduceIte]
  refine cK_cut (fun h => ?_) (fun h => ?_)
  · simp only [EV, Nat.reduceEqDiff, Nat.reduceBEq, Nat.reduceLT, Nat.reduceLeDiff, Nat.reduceAdd, Nat.reduceSub, reduceIte]
    simp only [EV, Nat.reduceEqDiff, Nat.reduceBEq, Nat.reduceLT, Nat.reduceLeDiff, Nat.reduceAdd, Nat.reduceSub, reduceIte, evRE, retVC, cellV', evR, nfz, nfzs, nfzss, List.contains_nil, List.contains_cons, Bool.or_false, or_true]
  have h1 : (code.length : Int) ≤ 1048576 ∧ (more.length : Int) ≤ 1048576 := by
    simp only [Bool.or_eq_false_iff, decide_eq_false_iff_not] at h
    omega
  clear h
  simp only [EV, Nat.reduceEqDiff, Nat.reduceBEq, Nat.reduceLT, Nat.reduceLeDiff, Nat.reduceAdd, Nat.reduceSub, reduceIte]
  refine callE_i (p31 code h1.1 hcb) (fun r o h => ⟨h.2, h.1⟩) ?_
  rintro _ ⟨s, rfl, hS⟩
  simp only [Scope.o, EV, Nat.reduceEqDiff, Nat.reduceBEq, Nat.reduceLT, Nat.reduceLeDiff, Nat.reduceAdd, Nat.reduceSub, reduceIte]
  refine awp_frz rfl ?_
  have dI := d32 s hS.sm
  have dS := d33 s hS.sm
  have hsl : ((snL s).length : Int) ≤ 1048576 := by
    unfold snL
    split
    · rename_i h
      have := (scOk_iff.1 h).few2
      have h2 := List.length_filter_le (fun o : Ob => decide (0 < o.mark)) s.objects
      unfold shNames
      rw [List.length_map]; omega
    · simp
  have dT := d34 (snL s) hsl
  generalize hsn : snL s = L at dI dS dT
  simp only [Scope.z] at dI dS
  simp only [Str.frz, Ty.frz, Ob.frz, Us.frz, frzSE, EV, Nat.reduceEqDiff, Nat.reduceBEq, Nat.reduceLT, Nat.reduceLeDiff, Nat.reduceAdd, Nat.reduceSub, reduceIte]
  refine callK_i dI ?_
  simp only [Str.frz, Ty.frz, Ob.frz, Us.frz, frzSE, pbeq, EV, Nat.reduceEqDiff, Nat.reduceBEq, Nat.reduceLT, Nat.reduceLeDiff, Nat.reduceAdd, Nat.reduceSub, reduceIte]
  refine callK_i dS ?_
  have zf : frzRows (L.map Str.z) = L.map Str.z := Str.frz L
  simp only [bs, zf, pbeq, EV, Nat.reduceEqDiff, Nat.reduceBEq, Nat.reduceLT, Nat.reduceLeDiff, Nat.reduceAdd, Nat.reduceSub, reduceIte]
  refine callK_i dT ?_
  simp only [Bool.not_true, pbeq, EV, Nat.reduceEqDiff, Nat.reduceBEq, Nat.reduceLT, Nat.reduceLeDiff, Nat.reduceAdd, Nat.reduceSub, reduceIte]
  refine awp_join (fun _ : Unit => True) (fun _ => stl [(1, .fsl 1 (more.map bv))]) ?_ ?_
  · simp only [EV, Nat.reduceEqDiff, Nat.reduceBEq, Nat.reduceLT, Nat.reduceLeDiff, Nat.reduceAdd, Nat.reduceSub, reduceIte]
    rcases e : scOk s with _ | _
    · simp only [EV, Nat.reduceEqDiff, Nat.reduceBEq, Nat.reduceLT, Nat.reduceLeDiff, Nat.reduceAdd, Nat.reduceSub, reduceIte]
      exact ⟨(), trivial⟩
    have hfew := (scOk_iff.1 e).few2
    simp only [Scope.z, EV, Nat.reduceEqDiff, Nat.reduceBEq, Nat.reduceLT, Nat.reduceLeDiff, Nat.reduceAdd, Nat.reduceSub, reduceIte]
    refine awp_loop (fun i : Nat => i ≤ s.objects.length) (fun i => stl [(1, .fsl 1 (more.map bv)), (5, .fptr s.z), (44, .fptr [.fsl 6 (s.objects.map Ob.z), .fsl 2 (s.uses.map Us.z)]), (45, .fsl 6 (s.objects.map Ob.z)), (46, .v (.int .i64 (s.objects.length : Int))), (47, .v (.int .i64 (i : Int)))]) (fun i => s.objects.length - i) 0 (Nat.zero_le _) ?_ ?_
    · simp only [Scope.z, EV, Nat.reduceEqDiff, Nat.reduceBEq, Nat.reduceLT, Nat.reduceLeDiff, Nat.reduceAdd, Nat.reduceSub, reduceIte]
      rfl
    intro i hi
    simp only [Scope.z, EV, Nat.reduceEqDiff, Nat.reduceBEq, Nat.reduceLT, Nat.reduceLeDiff, Nat.reduceAdd, Nat.reduceSub, reduceIte]
    refine cK_cut (fun h => ?_) (fun h => ?_)
    rotate_left
    · simp only [EV, Nat.reduceEqDiff, Nat.reduceBEq, Nat.reduceLT, Nat.reduceLeDiff, Nat.reduceAdd, Nat.reduceSub, reduceIte]
      exact ⟨(), trivial⟩
    have i2 : (i : Int) < (s.objects.length : Int) := by simpa using h
    have i1 : i < s.objects.length := by omega
    clear h
    have wi := w64 ((i : Int) + 1) (by omega)
    refine awp_join (fun _ : Unit => True) (fun _ => stl [(1, .fsl 1 (more.map bv)), (5, .fptr s.z), (44, .fptr [.fsl 6 (s.objects.map Ob.z), .fsl 2 (s.uses.map Us.z)]), (45, .fsl 6 (s.objects.map Ob.z)), (46, .v (.int .i64 (s.objects.length : Int))), (47, .v (.int .i64 (i : Int)))]) ?_ ?_
    · simp only [ObE, i1, i2, nth_map i1, Ob.z, Scope.z, EV, Nat.reduceEqDiff, Nat.reduceBEq, Nat.reduceLT, Nat.reduceLeDiff, Nat.reduceAdd, Nat.reduceSub, reduceIte]
      rcases em : (s.objects[i].mark != 0) with _ | _
      rotate_left
      · simp only [em, Ob.z, Scope.z, EV, Nat.reduceEqDiff, Nat.reduceBEq, Nat.reduceLT, Nat.reduceLeDiff, Nat.reduceAdd, Nat.reduceSub, reduceIte]
        exact ⟨(), trivial⟩
      have hm0 : s.objects[i].mark = 0 := by simpa using em
      have hok := shw_ok e i1 hm0
      have hds := shw_dsL e i1 hm0
      have hwd := shw_wd e i1 hm0
      have hsm : (shw s i s.objects[i]).sm := by
        obtain ⟨q1, q2, q3, q4, q5⟩ := hS.sm
        refine ⟨q1, q2, q3, ⟨?_, fun o ho => ?_⟩, q5⟩
        · simp only [shw, List.length_append, List.length_take, List.length_cons, List.length_drop]; omega
        · simp only [shw, List.mem_append, List.mem_cons] at ho
          rcases ho with ho | rfl | ho
          · exact q4.2 o (List.mem_of_mem_take ho)
          · exact q4.2 s.objects[i] (List.getElem_mem i1)
          · exact q4.2 o (List.mem_of_mem_drop ho)
      have dD := d35 s (shw s i s.objects[i]) hS.sm hsm
      have dW := d25 s (shw s i s.objects[i]) hS.sm hsm
      have hdo : dsOk s (shw s i s.objects[i]) = true := by simp only [dsOk, e, hok, Bool.and_self]
      rw [hds, hdo] at dD
      rw [hwd, hdo] at dW
      clear hds hwd hok hsm hdo
      simp only [Scope.z, shw, onO, Ob.z] at dD dW
      generalize s.objects[i] = o at em hm0 dD dW ⊢
      have tn : ((i : Int) + 1).toNat = i + 1 := by omega
      have hdt : List.take (s.objects.length - (i + 1)) (List.drop (i + 1) (List.map Ob.z s.objects)) = List.drop (i + 1) (List.map Ob.z s.objects) := by
        apply List.take_of_length_le; simp
      have hX : (List.take i (List.map Ob.z s.objects) ++ [[AV.v (Value.string o.name), AV.v (Value.int IntKind.i64 o.kind), AV.v (Value.int IntKind.i64 1), AV.v (Value.int IntKind.i64 o.typ), AV.v (Value.int IntKind.i64 o.value), AV.fsl 3 (List.map Par.z o.params)]]) ++ List.drop (i + 1) (List.map Ob.z s.objects) = List.map Ob.z (List.take i s.objects ++ onO o :: List.drop (i + 1) s.objects) := by
        rw [List.map_append, List.map_cons, List.map_take, List.map_drop, List.append_assoc]
        rfl
      have hl1 : (List.take i (List.map Ob.z s.objects)).length = i := by simp; omega
      have hl2 : (List.drop (i + 1) (List.map Ob.z s.objects)).length = s.objects.length - (i + 1) := by simp
      have hl3 : (List.take i (List.map Ob.z s.objects) ++ [[AV.v (Value.string o.name), AV.v (Value.int IntKind.i64 o.kind), AV.v (Value.int IntKind.i64 1), AV.v (Value.int IntKind.i64 o.typ), AV.v (Value.int IntKind.i64 o.value), AV.fsl 3 (List.map Par.z o.params)]]).length = i + 1 := by rw [List.length_append, hl1]; rfl
      simp only [onO] at hX
      simp only [em, Ob.z, Scope.z, wi, tn, hdt, hX, hl1, hl2, hl3, Ob.zfrz, EV, Nat.reduceEqDiff, Nat.reduceBEq, Nat.reduceLT, Nat.reduceLeDiff, Nat.reduceAdd, Nat.reduceSub, reduceIte]
      refine ⟨by omega, by omega, .inl trivial, by omega, by omega, by omega, by omega, by omega, by omega, by omega, .inl trivial, by omega, by omega, ?_⟩
      refine callK_i dD ?_
      simp only [List.map_cons, List.map_nil, Chg.z, Scope.z, Ob.zfrz, pbeq, EV, Nat.reduceEqDiff, Nat.reduceBEq, Nat.reduceLT, Nat.reduceLeDiff, Nat.reduceAdd, Nat.reduceSub, reduceIte]
      refine callK_i dW ?_
      have es : (o.name.toList != o.name.toList) = false := by simp
      have es2 : (o.name.toList == o.name.toList) = true := by simp
      have n1 : (((1 : Nat) : Int) != 1) = false := rfl
      have n2 : ((0 : Int) < ((1 : Nat) : Int)) = True := by simp
      have nz : ∀ r : List AV, nth [r] 0 = r := fun _ => rfl
      simp only [Bool.not_true, es, es2, n1, n2, nz, Scope.z, Ob.zfrz, pbeq, EV, Nat.reduceEqDiff, Nat.reduceBEq, Nat.reduceLT, Nat.reduceLeDiff, Nat.reduceAdd, Nat.reduceSub, reduceIte]
      repeat' first
        | exact ⟨(), trivial⟩
        | exact trivial
        | omega
        | refine And.intro ?_ ?_
    rintro _ _
    simp only [wi, Scope.z, EV, Nat.reduceEqDiff, Nat.reduceBEq, Nat.reduceLT, Nat.reduceLeDiff, Nat.reduceAdd, Nat.reduceSub, reduceIte]
    exact ⟨i + 1, i1, by omega, rfl⟩
  rintro _ _
  simp only [EV, Nat.reduceEqDiff, Nat.reduceBEq, Nat.reduceLT, Nat.reduceLeDiff, Nat.reduceAdd, Nat.reduceSub, reduceIte]
  refine callE_i (p36 more h1.2 hmb) (fun r o h => ⟨h.2, h.1⟩) ?_
  rintro _ ⟨a, b, rfl, ha, hb⟩
  have d1 := d37 a b ha hb
  have d2 := d38 a b ha hb
  generalize sameSc a b = r1 at d1 d2
  simp only [Scope.z] at d1 d2
  simp only [Scope.z, Scope.o, Str.frz, Ty.frz, Ob.frz, Us.frz, pbeq, EV, Nat.reduceEqDiff, Nat.reduceBEq, Nat.reduceLT, Nat.reduceLeDiff, Nat.reduceAdd, Nat.reduceSub, reduceIte]
  repeat' first
    | (refine callD_i d1 rfl ?_; simp only [Scope.z, Scope.o, Str.frz, Ty.frz, Ob.frz, Us.frz, pbeq, be, EV, Nat.reduceEqDiff, Nat.reduceBEq, Nat.reduceLT, Nat.reduceLeDiff, Nat.reduceAdd, Nat.reduceSub, reduceIte])
    | (refine callD_i d2 rfl ?_; simp only [Scope.z, Scope.o, Str.frz, Ty.frz, Ob.frz, Us.frz, pbeq, be, EV, Nat.reduceEqDiff, Nat.reduceBEq, Nat.reduceLT, Nat.reduceLeDiff, Nat.reduceAdd, Nat.reduceSub, reduceIte]; simp only [EV, Nat.reduceEqDiff, Nat.reduceBEq, Nat.reduceLT, Nat.reduceLeDiff, Nat.reduceAdd, Nat.reduceSub, reduceIte, evRE, retVC, cellV', evR, nfz, nfzs, nfzss, List.contains_nil, List.contains_cons, Bool.or_false, or_true])
    | refine And.intro ?_ ?_
end Go.AM
