/- Own framework, part 14: structs and slices written out, make. -/
import Derived.Test.YtleomgfaplldiaaB4
namespace Go.AM
set_option linter.unusedVariables false
set_option linter.unusedSimpArgs false

/-- Laid over a list from place off on. -/
def ovw {α : Type} (xs : List α) (off : Nat) (vs : List α) : List α := xs.take off ++ (vs ++ xs.drop (off + vs.length))

theorem ovw_length {α : Type} {xs vs : List α} {off : Nat} (h : off + vs.length ≤ xs.length) : (ovw xs off vs).length = xs.length := by
  simp [ovw]; omega

theorem fold_set (off : Nat) : ∀ (vs : List Value) (j : Nat) (cells : List Value), off + j + vs.length ≤ cells.length →
    ((vs.zipIdx j).foldl (fun (cs : Array Value) (p : Value × Nat) => cs.setIfInBounds (off + p.2) p.1) cells.toArray) = (ovw cells (off + j) vs).toArray
  | [], j, cells, h => by simp [ovw]
  | v :: vs, j, cells, h => by
    simp only [List.length_cons] at h
    simp only [List.zipIdx_cons, List.foldl_cons, List.setIfInBounds_toArray]
    rw [fold_set off vs (j + 1) _ (by simp; omega)]
    congr 1
    have e1 : (cells.set (off + j) v).take (off + (j + 1)) = cells.take (off + j) ++ [v] := by
      rw [← Nat.add_assoc, List.take_add_one, List.take_set_of_le (Nat.le_refl _)]
      simp [show off + j < cells.length from by omega]
    have e2 : (cells.set (off + j) v).drop (off + (j + 1) + vs.length) = cells.drop (off + j + (vs.length + 1)) := by
      rw [List.drop_set_of_lt (by omega)]
      congr 1; omega
    simp only [ovw, e1, e2, List.length_cons, List.append_assoc, List.singleton_append, List.cons_append, List.nil_append]

theorem run_fill {place : Nat → Option (Nat × Nat)} : ∀ (ps : List (Nat × Value)) (offs : List Nat) (cells : List Value), ps.length = offs.length →
    (∀ (j : Nat) (p : Nat × Value) (off : Nat), ps[j]? = some p → offs[j]? = some off → place p.1 = some (off, p.2.cells.size) ∧ off + p.2.cells.size ≤ cells.length) →
    Instr.fill place cells.toArray ps = some ((offs.zip ps).foldl (fun cs (q : Nat × (Nat × Value)) => ovw cs q.1 q.2.2.cells.toList) cells).toArray
  | [], [], cells, _, _ => by simp [Instr.fill]
  | [], off :: offs, cells, hl, _ => by simp at hl
  | p :: ps, [], cells, hl, _ => by simp at hl
  | (i, v) :: ps, off :: offs, cells, hl, hp => by
    obtain ⟨hp0, hb⟩ := hp 0 (i, v) off (by simp) (by simp)
    simp only at hp0 hb
    have hcl : v.cells.toList.length = v.cells.size := by simp
    have hf := fold_set off v.cells.toList 0 cells (by rw [hcl]; omega)
    simp only [Instr.fill, hp0, ne_eq, not_true_eq_false, decide_false, Bool.false_or, List.size_toArray]
    rw [if_neg (by simpa using hb)]
    have e : (v.cells.zipIdx.foldl (fun (cs : Array Value) (x : Value × Nat) => cs.setIfInBounds (off + x.2) x.1) cells.toArray) = (ovw cells off v.cells.toList).toArray := by
      rw [← Array.foldl_toList, Array.toList_zipIdx]
      simpa using hf
    have e' : (Array.foldl (fun cs x => match x with | (c, j) => cs.setIfInBounds (off + j) c) cells.toArray v.cells.zipIdx) = (ovw cells off v.cells.toList).toArray := e
    rw [e', run_fill ps offs _ (by simpa using hl)]
    · simp
    · intro j p off' h1 h2
      have := hp (j + 1) p off' (by simpa using h1) (by simpa using h2)
      rw [ovw_length (by rw [hcl]; exact hb)]
      exact this

theorem RepRow.laid {w : World} {Fz : Nat → Prop} {cs ps : List AV} {xs vs : List Value} {o q : List Nat} (h : RepRow w Fz cs xs o) (k : RepRow w Fz ps vs q) {off : Nat} (hb : off + ps.length ≤ cs.length) :
    ∃ o', RepRow w Fz (Go.AM.ovw cs off ps) (Go.AM.ovw xs off vs) o' ∧ (∀ b ∈ o', b ∈ o ∨ b ∈ q) ∧ ((o ++ q).Nodup → o'.Nodup) := by
  obtain ⟨o1, o2, ho, h1, h2⟩ := h.split off (by omega)
  obtain ⟨o3, o4, ho', _, h4⟩ := h2.split ps.length (by simp; omega)
  subst ho ho'
  simp only [List.drop_drop] at h4
  have hv : vs.length = ps.length := k.length
  refine ⟨o1 ++ (q ++ o4), ?_, ?_, ?_⟩
  · simp only [Go.AM.ovw, hv]
    exact h1.append (k.append h4)
  · intro b hb
    simp only [List.mem_append] at hb ⊢
    rcases hb with h | h | h <;> simp [h]
  · intro hn
    have hp : (o1 ++ (q ++ o4)).Sublist (o1 ++ (q ++ o4)) := List.Sublist.refl _
    rw [List.nodup_append] at hn
    obtain ⟨hn1, hn2, hn3⟩ := hn
    rw [List.nodup_append] at hn1
    obtain ⟨h5, h6, h7⟩ := hn1
    rw [List.nodup_append] at h6
    obtain ⟨h8, h9, h10⟩ := h6
    rw [List.nodup_append]
    refine ⟨h5, ?_, ?_⟩
    · rw [List.nodup_append]
      exact ⟨hn2, h9, fun a ha b hb e => hn3 b (by simp [hb]) a ha e.symm⟩
    · intro a ha b hb e
      rcases List.mem_append.1 hb with hb | hb
      · exact hn3 a (by simp [ha]) b hb e
      · exact h7 a ha b (by simp [hb]) e

/-- Several operands, each moved out in turn: their cells. -/
def pullS (st : St) : List Opd → Option (List (List AV) × St)
  | [] => some ([], st)
  | y :: ys => match ownO st y with
    | some (av, st1) => match cellsS av with
      | some cs => (pullS st1 ys).map fun r => (cs :: r.1, r.2)
      | none => none
    | none => none

def RepL (w : World) (Fz : Nat → Prop) : List (List AV) → List Value → List Nat → Prop
  | [], xs, o => xs = [] ∧ o = []
  | cs :: css, xs, o => ∃ x xs' vs o1 o2, xs = x :: xs' ∧ o = o1 ++ o2 ∧ x.cells = vs.toArray ∧ RepRow w Fz cs vs o1 ∧ RepL w Fz css xs' o2

theorem RepL.keep {w w' : World} {Fz Fz' : Nat → Prop} : ∀ {css : List (List AV)} {xs : List Value} {o : List Nat}, RepL w Fz css xs o → Agree w w' Fz Fz' o → RepL w' Fz' css xs o
  | [], xs, o, h, ag => h
  | cs :: css, xs, o, h, ag => by
    simp only [RepL] at h ⊢
    obtain ⟨x, xs', vs, o1, o2, hx, ho, hc, hr, hl⟩ := h
    subst ho
    exact ⟨x, xs', vs, o1, o2, hx, rfl, hc, hr.keep _ _ _ (ag.sub (by simp +contextual)), hl.keep (ag.sub (by simp +contextual))⟩

theorem frz_sub {c : Ctx} {w : World} {X X' : Nat → Prop} {oo : List Nat} (h : ∀ b, X' b → X b) : Agree w w (frz c w X) (frz c w X') oo :=
  ⟨fun b hb => ⟨⟨hb.1, hb.2.1, fun hx => hb.2.2 (h b hx)⟩, rfl⟩, fun _ _ => rfl⟩

theorem pull_sound {c : Ctx} {a : Act} {w : World} : ∀ {xs : List Operand} {ys : List Opd} {st st' : St} {own : Nat → List Nat} {lo : List Nat} {css : List (List AV)}, Core c st (tmOf a) w own lo →
    (xs.length == ys.length && (xs.zip ys).all fun p => mOpd p.1 p.2) = true → pullS st ys = some (css, st') →
    ∃ own' lo1, Core c st' (tmOf a) w own' (lo ++ lo1) ∧ RepL w (frz c w (owned own' (lo ++ lo1))) css (xs.map a.eval) lo1 ∧ ∀ b, owned own' (lo ++ lo1) b → owned own lo b
  | [], [], st, st', own, lo, css, C, _, h => by
    simp only [pullS, Option.some.injEq, Prod.mk.injEq] at h
    obtain ⟨rfl, rfl⟩ := h
    exact ⟨own, [], by simpa using C, by simp [RepL], fun b hb => by simpa using hb⟩
  | [], y :: ys, st, st', own, lo, css, C, hm, h => by simp at hm
  | x :: xs, [], st, st', own, lo, css, C, hm, h => by simp at hm
  | x :: xs, y :: ys, st, st', own, lo, css, C, hm, h => by
    simp only [List.length_cons, Bool.and_eq_true, beq_iff_eq, List.zip_cons_cons, List.all_cons] at hm
    simp only [pullS] at h
    split at h
    · rename_i av st1 hy
      split at h
      · rename_i cs hcs
        simp only [Option.map_eq_some_iff] at h
        obtain ⟨⟨css', st2⟩, hp, he⟩ := h
        simp only [Prod.mk.injEq] at he
        obtain ⟨rfl, rfl⟩ := he
        obtain ⟨own1, lo1, C1, hr1, hX1⟩ := own_sound C hm.2.1 hy
        obtain ⟨vs, hvs, hrow⟩ := stor_rep hr1 hcs
        obtain ⟨own2, lo2, C2, hr2, hX2⟩ := pull_sound C1 (by simp only [Bool.and_eq_true, beq_iff_eq]; exact ⟨by omega, hm.2.2⟩) hp
        refine ⟨own2, lo1 ++ lo2, by rw [← List.append_assoc]; exact C2, ?_, ?_⟩
        · simp only [List.map_cons, RepL]
          rw [← List.append_assoc]
          exact ⟨a.eval x, _, vs, lo1, lo2, rfl, rfl, hvs, hrow.keep _ _ _ (frz_sub hX2), hr2⟩
        · rw [← List.append_assoc]
          exact fun b hb => hX1 b (hX2 b hb)
      · cases h
    · cases h

theorem RepL.len {w : World} {Fz : Nat → Prop} : ∀ {css : List (List AV)} {xs : List Value} {o : List Nat}, RepL w Fz css xs o → xs.length = css.length
  | [], xs, o, h => by simp only [RepL] at h; simp [h.1]
  | cs :: css, xs, o, h => by
    simp only [RepL] at h
    obtain ⟨x, xs', vs, o1, o2, hx, ho, hc, hr, hl⟩ := h
    subst hx
    simp [hl.len]

theorem RepL.size {w : World} {Fz : Nat → Prop} : ∀ {css : List (List AV)} {xs : List Value} {o : List Nat}, RepL w Fz css xs o → xs.map (fun x => x.cells.size) = css.map List.length
  | [], xs, o, h => by simp only [RepL] at h; simp [h.1]
  | cs :: css, xs, o, h => by
    simp only [RepL] at h
    obtain ⟨x, xs', vs, o1, o2, hx, ho, hc, hr, hl⟩ := h
    subst hx
    simp [hl.size, hc, hr.length]

theorem RepRow.folded {w : World} {Fz : Nat → Prop} {n : Nat} : ∀ {css : List (List AV)} {ys : List Value} {offs szs : List Nat} {cs : List AV} {xs : List Value} {o q : List Nat}, RepRow w Fz cs xs o → RepL w Fz css ys q → cs.length = n → css.map List.length = szs →
    ((offs.zip szs).all fun p => p.1 + p.2 ≤ n) = true → (o ++ q).Nodup →
    ∃ o', RepRow w Fz ((offs.zip css).foldl (fun cs p => ovw cs p.1 p.2) cs) ((offs.zip ys).foldl (fun cs p => ovw cs p.1 p.2.cells.toList) xs) o' ∧ (∀ b ∈ o', b ∈ o ∨ b ∈ q) ∧ o'.Nodup
  | [], ys, offs, szs, cs, xs, o, q, h, k, hn, hs, hb, hd => by
    simp only [RepL] at k
    obtain ⟨rfl, rfl⟩ := k
    exact ⟨o, by simpa using h, fun b hb => .inl hb, by simpa using hd⟩
  | c :: css, ys, [], szs, cs, xs, o, q, h, k, hn, hs, hb, hd => ⟨o, by simpa using h, fun b hb => .inl hb, (List.nodup_append.1 hd).1⟩
  | c :: css, ys, off :: offs, szs, cs, xs, o, q, h, k, hn, hs, hb, hd => by
    simp only [RepL] at k
    obtain ⟨y, ys', vs, o1, o2, rfl, rfl, hc, hr, hl⟩ := k
    subst hs
    simp only [List.map_cons, List.zip_cons_cons, List.all_cons, Bool.and_eq_true, decide_eq_true_eq] at hb
    obtain ⟨o3, h3, hm3, hd3⟩ := h.laid hr (off := off) (by omega)
    rw [← List.append_assoc] at hd
    have hd1 := List.nodup_append.1 hd
    obtain ⟨o4, h4, hm4, hd4⟩ := RepRow.folded (offs := offs) h3 hl (by rw [ovw_length (by omega)]; exact hn) rfl hb.2 (by
      rw [List.nodup_append]
      refine ⟨hd3 hd1.1, hd1.2.1, fun a ha b hb' e => hd1.2.2 a ?_ b hb' e⟩
      rcases hm3 a ha with h | h <;> simp [h])
    refine ⟨o4, ?_, ?_, hd4⟩
    · simp only [List.zip_cons_cons, List.foldl_cons, hc]
      exact h4
    · intro b hb'
      rcases hm4 b hb' with h | h
      · rcases hm3 b h with h | h
        · exact .inl h
        · exact .inr (by simp [h])
      · exact .inr (by simp [h])

section
variable {P : Program} {o : Oper} {c : Ctx} {N : Nat} {st : St} {a : Act} {w : World} {own : Nat → List Nat} {Q : Exit → Act → World → Prop}

def buildV (zs : List ZC) (offs szs : List Nat) (ys : List Opd) (st : St) (d : Option Nat) (k : K) : Prop :=
  match pullS st ys with
  | some (css, st') => css.map List.length = szs ∧ putS st' d (.agg ((offs.zip css).foldl (fun cs p => ovw cs p.1 p.2) (zs.map ZC.av))) k
  | none => False

def buildOk (P : Program) (t : TypeId) (ix offs szs : List Nat) (zs : List ZC) : Bool :=
  zeroOk P t zs && ((offs.zip szs).all fun p => p.1 + p.2 ≤ zs.length) && ix.length == offs.length && szs.length == offs.length &&
  match P.underlying t with
  | some (.struct fs) => (fs.toList.all fun fd => (P.info? fd.type).isSome) && (ix.zip (offs.zip szs)).all fun q => (fs[q.1]?).any fun fd => fd.offset == q.2.1 && (P.info? fd.type).map (·.size) == some q.2.2
  | _ => false

theorem places_ok {P : Program} {w : World} : ∀ (fs : List Field) (szs : List Nat), (∀ (j : Nat) (f : Field), fs[j]? = some f → ∃ s, (P.info? f.type).map (·.size) = some s) →
    ∃ ps : List (Nat × Nat), ((fs.mapM (m := Sem) fun f => do pure (f.offset, ← sizeOf f.type)).run P w = .ok ps w) ∧ ∀ (j : Nat) (f : Field) (s : Nat), fs[j]? = some f → (P.info? f.type).map (·.size) = some s → ps[j]? = some (f.offset, s)
  | [], szs, _ => ⟨[], by simp, by simp⟩
  | f :: fs, szs, h => by
    obtain ⟨s, hs⟩ := h 0 f (by simp)
    obtain ⟨ps, hp, hq⟩ := places_ok (w := w) fs szs (fun j f' hj => h (j + 1) f' (by simpa using hj))
    simp only [Option.map_eq_some_iff] at hs
    obtain ⟨i, hi, hsz⟩ := hs
    refine ⟨(f.offset, s) :: ps, ?_, ?_⟩
    · have e : (sizeOf f.type).run P w = .ok s w := by simp [sizeOf, typeInfo, hi, hsz]
      simp only [List.mapM_cons, Sem.run_bind, e, Result.andThen_ok, Sem.run_pure, hp]
    · intro j f' s' hj hs'
      cases j with
      | zero => simp at hj; subst hj; rw [hi] at hs'; simp at hs'; simp [← hs', hsz]
      | succ j => simpa using hq j f' s' (by simpa using hj) hs'

theorem a_build (S : Sim c N st a w) (hN : ∀ e, o.dst = some e → e < N ∧ c.fx e = none) {t : TypeId} {ix offs szs : List Nat} {zs : List ZC} {xs : List Operand} {ys : List Opd} (hx : (xs.length == ys.length && (xs.zip ys).all fun p => mOpd p.1 p.2) = true)
    (hix : ix.length = xs.length) (ho : o.op = .build t (ix.zip xs).toArray) (hok : buildOk P t ix offs szs zs = true) {k : K} (h : buildV zs offs szs ys st o.dst k) : Ok P c N a w o k Q := by
  obtain ⟨own, C⟩ := S.core
  unfold buildV at h
  split at h
  rotate_left
  · exact h.elim
  rename_i css st' hp
  obtain ⟨hlen, h⟩ := h
  obtain ⟨own', lo1, C', hr, _⟩ := pull_sound C hx hp
  simp only [List.nil_append] at C' hr
  simp only [buildOk, Bool.and_eq_true, beq_iff_eq] at hok
  obtain ⟨⟨⟨⟨hz, hb⟩, hil⟩, hsl⟩, hst⟩ := hok
  split at hst
  rotate_left
  · cases hst
  rename_i fs hu
  simp only [Bool.and_eq_true, List.all_eq_true] at hst
  obtain ⟨hall, hst⟩ := hst
  unfold zeroOk at hz
  split at hz
  rotate_left
  · cases hz
  rename_i i hi
  split at hz
  rotate_left
  · cases hz
  rename_i z hzz
  have hrow : RepRow w (frz c w (owned own' lo1)) (zs.map ZC.av) z.cells.toList [] := zOk_rep hz
  obtain ⟨o', h', hm, hd⟩ := hrow.folded (offs := offs) (n := zs.length) hr (by simp) hlen hb (by simpa using C'.lnd)
  have C2 := C'.world (lo' := o') (Ext.refl w _) hd (fun b hb => by
    rcases hm b hb with h | h
    · simp at h
    · exact ⟨.inl h, (C'.old b (.inr h)).2⟩)
  have hX2 : ∀ b, owned own' o' b → owned own' lo1 b := by
    rintro b (⟨k, hk⟩ | hb)
    · exact .inl ⟨k, hk⟩
    · rcases hm b hb with h | h
      · simp at h
      · exact .inr h
  obtain ⟨ps, hps, hpq⟩ := places_ok (P := P) (w := w) fs.toList szs (fun j f hj => by
    have := hall f (List.mem_of_getElem? hj)
    obtain ⟨i, hi⟩ := Option.isSome_iff_exists.1 this
    exact ⟨i.size, by simp [hi]⟩)
  have hps' : (fs.mapM (m := Sem) fun f => do pure (f.offset, ← sizeOf f.type)).run P w = .ok ps.toArray w := by
    rw [Array.mapM_eq_mapM_toList]
    simp only [Sem.run_map, hps, Result.andThen_ok]
  have hlx : xs.length = offs.length := by omega
  have hsize := hr.size
  rw [hlen] at hsize
  have hfill : Instr.fill (fun i => ps[i]?) z.cells.toList.toArray (ix.zip (xs.map a.eval)) = some ((offs.zip (xs.map a.eval)).foldl (fun cs p => ovw cs p.1 p.2.cells.toList) z.cells.toList).toArray := by
    rw [run_fill (ix.zip (xs.map a.eval)) offs]
    · congr 2
      have : offs.zip (xs.map a.eval) = (offs.zip (ix.zip (xs.map a.eval))).map fun q => (q.1, q.2.2) := by
        apply List.ext_getElem?
        intro j
        simp only [List.getElem?_zip_eq_some, List.getElem?_map, List.zip_eq_zipWith, List.getElem?_zipWith]
        by_cases hj : j < offs.length
        · have h1 : j < xs.length := by omega
          have h2 : j < ix.length := by omega
          simp [hj, h1, h2]
        · have h1 : ¬ j < xs.length := by omega
          simp [hj, h1]
      rw [this, List.foldl_map]
    · simp; omega
    · rintro j ⟨i', v⟩ off h1 h2
      rw [List.getElem?_zip_eq_some] at h1
      obtain ⟨h3, h4⟩ := h1
      have h5 : szs[j]? = some v.cells.size := by rw [← hsize, List.getElem?_map, h4]; rfl
      have h6 : (ix.zip (offs.zip szs))[j]? = some (i', off, v.cells.size) := by
        rw [List.getElem?_zip_eq_some]; exact ⟨h3, by rw [List.getElem?_zip_eq_some]; exact ⟨h2, h5⟩⟩
      have h7 := hst _ (List.mem_of_getElem? h6)
      simp only [Option.any_eq_true, Bool.and_eq_true, beq_iff_eq] at h7
      obtain ⟨fd, hfd, hoff, hsz⟩ := h7
      have h8 := hpq i' fd v.cells.size (by simpa using hfd) hsz
      refine ⟨by rw [h8, hoff], ?_⟩
      have h9 : (offs.zip szs)[j]? = some (off, v.cells.size) := by rw [List.getElem?_zip_eq_some]; exact ⟨h2, h5⟩
      have h10 := (List.all_eq_true.1 hb) _ (List.mem_of_getElem? h9)
      simp only [decide_eq_true_eq] at h10
      have h11 := hrow.length
      rw [List.length_map] at h11
      rw [h11]; exact h10
  have hparts : ((ix.zip xs).toArray.map fun (p : Nat × Operand) => (p.1, a.eval p.2)).toList = ix.zip (xs.map a.eval) := by
    simp only [List.map_toArray]
    rw [List.zip_map_right]
    rfl
  have hrun : (execOp a.eval o).run P w = .ok (.value (.agg ((offs.zip (xs.map a.eval)).foldl (fun cs p => ovw cs p.1 p.2.cells.toList) z.cells.toList).toArray)) w := by
    have hparts' : (Array.map (fun x => match x with | (i, x) => (i, a.eval x)) (ix.zip xs).toArray).toList = ix.zip (xs.map a.eval) := hparts
    simp only [execOp, ho, Instr.build, Sem.run_bind, zeroValue, typeInfo, run_program, Result.andThen_ok, hi, Sem.run_pure, hzz, run_underlying hu, hps', hparts']
    have hf2 : Instr.fill (fun i => ps.toArray[i]?) z.cells (ix.zip (xs.map a.eval)) = some ((offs.zip (xs.map a.eval)).foldl (fun cs p => ovw cs p.1 p.2.cells.toList) z.cells.toList).toArray := by
      simpa using hfill
    rw [hf2]
    simp
  refine fin_value S.defers S.size hN hrun C2 ?_ h
  simp only [RepV]
  exact ⟨_, rfl, (h'.keep _ _ _ (frz_sub hX2)).toVs⟩
end
end Go.AM
