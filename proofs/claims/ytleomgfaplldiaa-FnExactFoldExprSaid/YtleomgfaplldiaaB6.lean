/- Own framework, part 15: slices written out, make. -/
import Derived.Test.YtleomgfaplldiaaB5
namespace Go.AM
set_option linter.unusedVariables false
set_option linter.unusedSimpArgs false

theorem fold_complete (sz : Nat) : ∀ (vs : List Value) (j : Nat) (done rest : List Value), done.length = j * sz → rest.length = vs.length * sz → (∀ v ∈ vs, v.cells.size = sz) →
    ((((List.range' j vs.length).map (· * sz)).zip vs).foldl (fun cs (p : Nat × Value) => ovw cs p.1 p.2.cells.toList) (done ++ rest)) = done ++ (vs.map (·.cells.toList)).flatten
  | [], j, done, rest, hd, hr, _ => by
    have : rest = [] := List.eq_nil_of_length_eq_zero (by simpa using hr)
    simp [this]
  | v :: vs, j, done, rest, hd, hr, hv => by
    have h0 : v.cells.toList.length = sz := by simpa using hv v (by simp)
    simp only [List.length_cons, List.range'_succ, List.map_cons, List.zip_cons_cons, List.foldl_cons]
    have e : ovw (done ++ rest) (j * sz) v.cells.toList = (done ++ v.cells.toList) ++ rest.drop sz := by
      unfold ovw
      rw [List.take_append_of_le_length (by omega), List.take_of_length_le (by omega), h0, ← hd, List.drop_append, List.append_assoc]
      simp
    rw [e, fold_complete sz vs (j + 1) _ _ (by simp [hd, h0, Nat.add_mul]) (by simp only [List.length_drop, hr, List.length_cons, Nat.add_mul]; omega) (fun u hu => hv u (by simp [hu]))]
    simp

theorem RepL.toRows {w : World} {Fz : Nat → Prop} {sz : Nat} : ∀ {css : List (List AV)} {xs : List Value} {o : List Nat}, RepL w Fz css xs o → css.all (fun cs => cs.length == sz) = true → RepRows w Fz sz css (xs.map (·.cells.toList)).flatten o
  | [], xs, o, h, _ => by simp only [RepL] at h; simp [h.1, h.2, RepRows]
  | cs :: css, xs, o, h, hl => by
    simp only [RepL] at h
    obtain ⟨x, xs', vs, o1, o2, hx, ho, hc, hr, hrest⟩ := h
    subst hx ho
    simp only [List.all_cons, Bool.and_eq_true, beq_iff_eq] at hl
    simp only [List.map_cons, List.flatten_cons, RepRows]
    exact ⟨_, _, o1, o2, rfl, rfl, hl.1, by rw [hc]; exact hr, hrest.toRows hl.2⟩

theorem RepRows.replicate {w : World} {Fz : Nat → Prop} {sz : Nat} {r : List AV} {xs : List Value} (h : RepRow w Fz r xs []) (hl : r.length = sz) : ∀ n, RepRows w Fz sz (List.replicate n r) (List.replicate n xs).flatten []
  | 0 => by simp [RepRows]
  | n + 1 => by
    simp only [List.replicate_succ, List.flatten_cons, RepRows]
    exact ⟨xs, _, [], [], rfl, rfl, hl, h, RepRows.replicate h hl n⟩

theorem zeros_rows (z : List Value) (hz : z ≠ []) : ∀ n, ((List.range (n * z.length)).map fun i => z.toArray[i % z.length]!) = (List.replicate n z).flatten
  | 0 => by simp
  | n + 1 => by
    have hl : 0 < z.length := List.length_pos_iff.2 hz
    rw [List.replicate_succ', List.flatten_append, ← zeros_rows z hz n, Nat.add_mul, Nat.one_mul, List.range_add, List.map_append]
    congr 1
    simp only [List.map_map, List.flatten_cons, List.flatten_nil, List.append_nil]
    apply List.ext_getElem?
    intro j
    by_cases hj : j < z.length
    · have e : (n * z.length + j) % z.length = j := by rw [Nat.mul_comm, Nat.mul_add_mod, Nat.mod_eq_of_lt hj]
      simp [hj, Function.comp, e]
    · simp [hj]

theorem zip_mid {α β γ : Type} : ∀ (offs : List α) (ix : List β) (vs : List γ), ix.length = vs.length → offs.zip vs = (offs.zip (ix.zip vs)).map fun q => (q.1, q.2.2)
  | [], _, _, _ => by simp
  | _ :: _, [], [], _ => by simp
  | _ :: _, [], _ :: _, h => by simp at h
  | _ :: _, _ :: _, [], h => by simp at h
  | o :: offs, i :: ix, v :: vs, h => by
    simp only [List.zip_cons_cons, List.map_cons, zip_mid offs ix vs (by simpa using h)]

section
variable {P : Program} {o : Oper} {c : Ctx} {N : Nat} {st : St} {a : Act} {w : World} {own : Nat → List Nat} {Q : Exit → Act → World → Prop}

def bslV (e sz : Nat) (ys : List Opd) (st : St) (d : Option Nat) (k : K) : Prop :=
  match pullS st ys with
  | some (css, st') => css.all (fun cs => cs.length == sz) = true ∧ putS st' d (.usl e sz css) k
  | none => False

def bslOk (P : Program) (t e sz n : Nat) : Bool :=
  (match P.underlying t with | some (.slice e') => e' == e | _ => false) && (match P.info? e with | some i => i.size == sz && (match i.zero with | some z => z.cells.size == sz | none => false) | none => false) && (n * sz ≤ 16777216)

theorem a_bsl (S : Sim c N st a w) (hN : ∀ e, o.dst = some e → e < N ∧ c.fx e = none) {t e sz : Nat} {xs : List Operand} {ys : List Opd} (hx : (xs.length == ys.length && (xs.zip ys).all fun p => mOpd p.1 p.2) = true)
    (ho : o.op = .buildSlice t xs.length ((List.range xs.length).zip xs).toArray) (hok : bslOk P t e sz xs.length = true) {k : K} (h : bslV e sz ys st o.dst k) : Ok P c N a w o k Q := by
  obtain ⟨own, C⟩ := S.core
  unfold bslV at h
  split at h
  rotate_left
  · exact h.elim
  rename_i css st' hp
  obtain ⟨hlen, h⟩ := h
  obtain ⟨own', lo1, C', hr, _⟩ := pull_sound C hx hp
  simp only [List.nil_append] at C' hr
  simp only [bslOk, Bool.and_eq_true, decide_eq_true_eq] at hok
  obtain ⟨⟨hu, hi⟩, hn⟩ := hok
  split at hu
  rotate_left
  · cases hu
  rename_i e' hu'
  simp only [beq_iff_eq] at hu
  subst hu
  split at hi
  rotate_left
  · cases hi
  rename_i i hi'
  simp only [Bool.and_eq_true, beq_iff_eq] at hi
  obtain ⟨hsz, hz⟩ := hi
  split at hz
  rotate_left
  · cases hz
  rename_i z hzz
  simp only [beq_iff_eq] at hz
  have hrows := hr.toRows hlen
  have hsize : ∀ v ∈ xs.map a.eval, v.cells.size = sz := by
    have h1 := hr.size
    intro v hv
    have h2 : v.cells.size ∈ (xs.map a.eval).map (fun x => x.cells.size) := List.mem_map_of_mem hv
    rw [h1] at h2
    obtain ⟨cs, hcs, he⟩ := List.mem_map.1 h2
    have := (List.all_eq_true.1 hlen) cs hcs
    simp only [beq_iff_eq] at this
    omega
  have hcl : css.length = xs.length := by have := hr.len; simpa using this.symm
  let X := ((xs.map a.eval).map (·.cells.toList)).flatten
  have hcells : ∀ Z : List Value, Z.length = xs.length * sz → Instr.fill (fun i => some (i * sz, sz)) Z.toArray ((List.range xs.length).zip (xs.map a.eval)) = some X.toArray := by
    intro Z hZ
    rw [run_fill _ ((List.range xs.length).map (· * sz))]
    · have e2 := fold_complete sz (xs.map a.eval) 0 [] Z (by simp) (by simpa using hZ) hsize
      rw [zip_mid _ (List.range xs.length) _ (by simp), List.foldl_map] at e2
      simp only [List.length_map, List.nil_append, ← List.range_eq_range'] at e2
      simp only [Option.some.injEq]
      congr 1
    · simp
    · rintro j ⟨i', v⟩ off h1 h2
      rw [List.getElem?_zip_eq_some] at h1
      obtain ⟨h3, h4⟩ := h1
      have hv := hsize v (List.mem_of_getElem? h4)
      have hj : j < xs.length := by have := (List.getElem?_eq_some_iff.1 h3).1; simpa using this
      simp [hj] at h2 h3
      subst h2 h3
      refine ⟨by rw [hv], ?_⟩
      rw [hv, hZ]
      have : j * sz + sz = (j + 1) * sz := by rw [Nat.add_mul]; omega
      rw [this]
      exact Nat.mul_le_mul_right _ hj
  have hX : X.length = css.length * sz := hrows.length
  have hrun : (execOp a.eval o).run P w = .ok (.value (.slice (some ⟨w.heap.size, 0, none⟩) css.length css.length)) (w.alloc (.cells (X ++ []).toArray e')) := by
    have hparts : (Array.map (fun x => match x with | (i, x) => (i, a.eval x)) ((List.range xs.length).zip xs).toArray).toList = (List.range xs.length).zip (xs.map a.eval) := by
      simp only [List.map_toArray]
      rw [List.zip_map_right]
      rfl
    have h24 : ¬ xs.length * sz > 2 ^ 24 := by omega
    have hf : ∀ zero : Array Value, Instr.fill (fun i => some (i * sz, sz)) ((Array.range (xs.length * sz)).map (zero[· % zero.size]!)) ((List.range xs.length).zip (xs.map a.eval)) = some X.toArray := by
      intro zero
      have h1 := hcells ((List.range (xs.length * sz)).map (zero[· % zero.size]!)) (by simp)
      have h2 : ((Array.range (xs.length * sz)).map (zero[· % zero.size]!)) = ((List.range (xs.length * sz)).map (zero[· % zero.size]!)).toArray := by
        apply Array.ext'
        simp
      rw [h2]; exact h1
    have hso : (sizeOf e').run P w = .ok sz w := by simp [sizeOf, typeInfo, hi', hsz]
    have hzv : (zeroValue e').run P w = .ok z w := by simp [zeroValue, typeInfo, hi', hzz]
    by_cases h0 : xs.length * sz = 0
    · simp only [execOp, ho, Instr.buildSlice, Sem.run_bind, run_underlying hu', Result.andThen_ok, hso, h24, if_false, Sem.run_pure, Sem.run_ite, hparts, hf, newRow, run_newObj, hcl, List.append_nil, World.alloc_eq]
      rw [if_pos h0]; rfl
    · simp only [execOp, ho, Instr.buildSlice, Sem.run_bind, run_underlying hu', Result.andThen_ok, hso, h24, if_false, Sem.run_pure, Sem.run_ite, hparts, hf, newRow, run_newObj, hcl, List.append_nil, World.alloc_eq, hzv]
      rw [if_neg h0]; rfl
  exact fin_value S.defers S.size hN hrun (core_new C' _).1 (rep_row C' (Nat.le_refl _) (by rw [List.append_nil]; exact Nat.le_of_eq hX.symm) hrows).toV h

def mksV (e sz bytes : Nat) (zs : List ZC) (x y : AV) (st : St) (d : Option Nat) (k : K) : Prop :=
  match x, y with
  | .v (.int .i64 n), .v (.int .i64 m) => n = m ∧ 0 ≤ n ∧ n * bytes ≤ 140737488355328 ∧ n ≤ 9223372036854775807 ∧ putS st d (.usl e sz (List.replicate n.toNat (zs.map ZC.av))) k
  | _, _ => False

def mksOk (P : Program) (t e sz bytes : Nat) (zs : List ZC) : Bool :=
  (match P.underlying t with | some (.slice e') => e' == e | _ => false) && (match P.info? e with | some i => i.size == sz && i.bytes == bytes | none => false) && zeroOk P e zs && zs.length == sz && sz != 0

theorem a_mks (S : Sim c N st a w) (hN : ∀ e, o.dst = some e → e < N ∧ c.fx e = none) {t e sz bytes : Nat} {zs : List ZC} {x y : Operand} {x' y' : Opd} (hx : mOpd x x' = true) (hy : mOpd y y' = true) (ho : o.op = .makeSlice t x y) (hok : mksOk P t e sz bytes zs = true) {k : K}
    (h : mksV e sz bytes zs (rd st x') (rd st y') st o.dst k) : Ok P c N a w o k Q := by
  obtain ⟨own, C⟩ := S.core
  have rx := rd_rep C hx
  have ry := rd_rep C hy
  unfold mksV at h
  split at h
  rotate_left
  · exact h.elim
  rename_i n m hn hm
  rw [hn] at rx
  rw [hm] at ry
  have ex := repV_v rx
  have ey := repV_v ry
  obtain ⟨rfl, h0, hb, h63, h⟩ := h
  simp only [mksOk, Bool.and_eq_true, beq_iff_eq, bne_iff_ne] at hok
  obtain ⟨⟨⟨⟨hu, hi⟩, hz⟩, hzl⟩, hsz0⟩ := hok
  split at hu
  rotate_left
  · cases hu
  rename_i e' hu'
  simp only [beq_iff_eq] at hu
  subst hu
  split at hi
  rotate_left
  · cases hi
  rename_i i hi'
  simp only [Bool.and_eq_true, beq_iff_eq] at hi
  obtain ⟨hsz, hby⟩ := hi
  simp only [zeroOk, hi'] at hz
  split at hz
  rotate_left
  · cases hz
  rename_i z hzz
  have hrow : RepRow w (frz c w (owned own [])) (zs.map ZC.av) z.cells.toList [] := zOk_rep hz
  have hzc : z.cells.toList.length = sz := by rw [hrow.length, List.length_map]; exact hzl
  have hzn : z.cells.toList ≠ [] := by intro h; rw [h] at hzc; simp at hzc; omega
  have hrows := RepRows.replicate hrow (sz := sz) (by rw [List.length_map]; exact hzl) n.toNat
  have hX : ((List.replicate n.toNat z.cells.toList).flatten).length = n.toNat * sz := by rw [hrows.length]; simp
  have hw : IntKind.i64.wrap n = n := by
    unfold IntKind.wrap; simp [IntKind.bits, IntKind.signed]; omega
  have htl : ¬ (n < 0 ∨ (bytes : Int) * n > 2 ^ 48) := by
    have : (bytes : Int) * n = n * bytes := Int.mul_comm _ _
    omega
  have hcells : ((Array.range (n.toNat * sz)).map (z.cells[· % z.cells.size]!)) = ((List.replicate n.toNat z.cells.toList).flatten).toArray := by
    have := zeros_rows z.cells.toList hzn n.toNat
    rw [hzc] at this
    apply Array.ext'
    have hs : z.cells.size = sz := by simpa using hzc
    simp only [Array.toList_map, Array.toList_range, hs]
    simpa using this
  have hrun : (execOp a.eval o).run P w = .ok (.value (.slice (some ⟨w.heap.size, 0, none⟩) n.toNat n.toNat)) (w.alloc (.cells ((List.replicate n.toNat z.cells.toList).flatten ++ []).toArray e')) := by
    have hm := run_make (P := P) w t e' i z hu' hi' hzz .i64 .i64 n n h0 (Int.le_refl _) (by rw [hby]; have : (bytes : Int) * n = n * bytes := Int.mul_comm _ _; omega) h63
    rw [hsz] at hm
    have hmc : madeCells z.cells (n.toNat * sz) = ((List.replicate n.toNat z.cells.toList).flatten ++ []).toArray := by
      rw [List.append_nil, ← hcells]
      unfold madeCells
      have hne : z.cells ≠ #[] := by intro h; rw [h] at hzn; simp at hzn
      by_cases h00 : n.toNat * sz = 0
      · simp [h00]
      · simp [h00]
    rw [hmc] at hm
    simp only [execOp, ho, ex, ey, Sem.run_bind, hm, Result.andThen_ok, Sem.run_pure]
  have h' := (core_new C (.cells ((List.replicate n.toNat z.cells.toList).flatten ++ []).toArray e')).1
  have hr' := rep_row (e := e') (cp := n.toNat) (rest := []) C (by simp) (by rw [List.append_nil]; exact Nat.le_of_eq hX.symm) hrows
  simp only [List.length_replicate] at hr'
  exact fin_value S.defers S.size hN hrun h' hr'.toV h
end
end Go.AM
