/- Own framework, part 16: stores. -/
import Derived.Test.YtleomgfaplldiaaB6
namespace Go.AM
set_option linter.unusedVariables false
set_option linter.unusedSimpArgs false

theorem ovw_get {α : Type} {xs vs : List α} {a : Nat} (h : a + vs.length ≤ xs.length) (m : Nat) : (ovw xs a vs)[m]? = if m < a then xs[m]? else if m < a + vs.length then vs[m - a]? else xs[m]? := by
  unfold ovw
  have hm : min a xs.length = a := by omega
  rw [List.getElem?_append, List.getElem?_append]
  simp only [List.length_take, hm, List.getElem?_take, List.getElem?_drop]
  by_cases h1 : m < a
  · simp [h1]
  · simp only [h1, if_false]
    by_cases h2 : m < a + vs.length
    · have : m - a < vs.length := by omega
      simp [h2, this]
    · have h3 : ¬ m - a < vs.length := by omega
      have h4 : a + vs.length + (m - a - vs.length) = m := by omega
      simp [h2, h3, h4]

theorem RepRows.laid {w : World} {Fz : Nat → Prop} {sz : Nat} {cs : List AV} {vs : List Value} {q : List Nat} (k : RepRow w Fz cs vs q) {j : Nat} (hb : j + cs.length ≤ sz) : ∀ {l : List (List AV)} {xs : List Value} {o : List Nat} (i : Nat), RepRows w Fz sz l xs o → i < l.length →
    ∃ o', RepRows w Fz sz (l.set i (ovw (nth l i) j cs)) (ovw xs (i * sz + j) vs) o' ∧ (∀ b ∈ o', b ∈ o ∨ b ∈ q) ∧ ((o ++ q).Nodup → o'.Nodup)
  | [], xs, o, i, h, hi => by simp at hi
  | r :: rs, xs, o, 0, h, hi => by
    simp only [RepRows] at h
    obtain ⟨x1, x2, o1, o2, rfl, rfl, hl, h1, h2⟩ := h
    obtain ⟨o3, h3, hm, hn⟩ := h1.laid k (off := j) (by omega)
    have hx1 : x1.length = sz := by rw [h1.length, hl]
    have hv := k.length
    refine ⟨o3 ++ o2, ?_, ?_, ?_⟩
    · simp only [List.set_cons_zero, RepRows, nth, List.getD_cons_zero, Nat.zero_mul, Nat.zero_add]
      refine ⟨ovw x1 j vs, x2, o3, o2, ?_, rfl, ?_, h3, h2⟩
      · unfold ovw
        rw [List.take_append_of_le_length (by omega), List.drop_append_of_le_length (by omega)]
        simp
      · rw [ovw_length (by omega)]; exact hl
    · intro b hb
      rcases List.mem_append.1 hb with h | h
      · rcases hm b h with h | h <;> simp [h]
      · simp [h]
    · intro hnd
      rw [List.nodup_append] at hnd
      obtain ⟨h4, h5, h6⟩ := hnd
      rw [List.nodup_append] at h4
      obtain ⟨h7, h8, h9⟩ := h4
      rw [List.nodup_append]
      refine ⟨hn ?_, h8, ?_⟩
      · rw [List.nodup_append]
        exact ⟨h7, h5, fun a ha b hb => h6 a (by simp [ha]) b hb⟩
      · intro a ha b hb e
        rcases hm a ha with h | h
        · exact h9 a h b hb e
        · exact h6 b (by simp [hb]) a h e.symm
  | r :: rs, xs, o, i + 1, h, hi => by
    simp only [RepRows] at h
    obtain ⟨x1, x2, o1, o2, rfl, rfl, hl, h1, h2⟩ := h
    obtain ⟨o3, h3, hm, hn⟩ := RepRows.laid k hb i h2 (by simpa using hi)
    have hx1 : x1.length = sz := by rw [h1.length, hl]
    refine ⟨o1 ++ o3, ?_, ?_, ?_⟩
    · simp only [List.set_cons_succ, RepRows]
      refine ⟨x1, ovw x2 (i * sz + j) vs, o1, o3, ?_, rfl, hl, h1, by simpa [nth] using h3⟩
      unfold ovw
      have e : (i + 1) * sz + j = x1.length + (i * sz + j) := by rw [hx1, Nat.add_mul]; omega
      rw [e, List.take_length_add_append, Nat.add_assoc, List.drop_length_add_append, List.append_assoc]
    · intro b hb
      rcases List.mem_append.1 hb with h | h
      · simp [h]
      · rcases hm b h with h | h <;> simp [h]
    · intro hnd
      rw [List.nodup_append] at hnd
      obtain ⟨h4, h5, h6⟩ := hnd
      rw [List.nodup_append] at h4
      obtain ⟨h7, h8, h9⟩ := h4
      rw [List.nodup_append]
      refine ⟨h7, hn ?_, ?_⟩
      · rw [List.nodup_append]
        exact ⟨h8, h5, fun a ha b hb => h6 a (by simp [ha]) b hb⟩
      · intro a ha b hb e
        rcases hm b hb with h | h
        · exact h9 a ha b h e
        · exact h6 a (by simp [ha]) b h e

theorem Ext.setRow {w : World} {g : Nat} {W : List Nat} (cs : Array Value) (hg : g ∈ W) : Ext w (w.setRow g cs) W :=
  ⟨rfl, rfl, rfl, by simp, fun b hb hn => setRow_other w g b cs (fun e => hn (e ▸ hg))⟩

def storeV (sz : Nat) (st : St) (x y : Opd) (k : K) : Prop :=
  match ownO st y with
  | some (av, st1) => match cellsS av with
    | some cs => cs.length = sz ∧ match rd st1 x with
      | .ref n p i j => match getC (st1 n) p with
        | some (.usl e sz' l) => i < l.length ∧ j + sz ≤ sz' ∧ k (setS n p (.usl e sz' (l.set i (ovw (nth l i) j cs))) st1)
        | some (.box e c) => i = 0 ∧ j + sz ≤ c.length ∧ k (setS n p (.box e (ovw c j cs)) st1)
        | _ => False
      | _ => False
    | none => False
  | none => False

theorem run_storeVar {P : Program} {w : World} {t : TypeId} {sz : Nat} (hs : (P.info? t).map (·.size) = some sz) {v : Value} {vs : List Value} (hv : v.cells = vs.toArray) (hl : vs.length = sz) (h1 : ∀ u ∈ vs, u.oneCell' = true)
    {g f : Nat} {cur : List Value} {e : Nat} (hg : w.heap[g]? = some (.cells cur.toArray e (0, 0))) (hb : f + sz ≤ cur.length) :
    (storeVar t ⟨g, f, none⟩ v).run P w = .ok () (w.setRow g (ovw cur f vs).toArray) := by
  simp only [Option.map_eq_some_iff] at hs
  obtain ⟨i, hi, hsz⟩ := hs
  have hso : (sizeOf t).run P w = .ok sz w := by simp [sizeOf, typeInfo, hi, hsz]
  have hst := run_storeCells_at P g f e vs 0 cur.toArray w hg (by simp; omega) h1
  simp only [Nat.add_zero] at hst
  simp only [storeVar, Sem.run_bind, hso, Result.andThen_ok, hv, List.size_toArray, hl, ne_eq, not_true_eq_false, if_false, Sem.run_pure]
  rw [hst]
  simp [ovw]

section
variable {P : Program} {o : Oper} {c : Ctx} {N : Nat} {st : St} {a : Act} {w : World} {Q : Exit → Act → World → Prop}

/-- Cells of an owned block are written. -/
theorem core_store {st1 : St} {tm : Nat → Value} {own1 : Nat → List Nat} {lo1 : List Nat} (C : Core c st1 tm w own1 lo1) {n : Nat} {p : List (Nat × Nat)} {av : AV} {y : Value} (hw : walk w (st1 n) (tm n) p = some (av, y)) (ho : isOwner av = true)
    {s : Sh} (hs : shapeOf av = some s) {i j : Nat} (hi : i < s.len) {cs : List AV} {vs : List Value} (hr : RepRow w (frz c w (owned own1 lo1)) cs vs lo1) (hj : j + cs.length ≤ s.sz) :
    ∃ g f cur e av', addrOf y = some (g, f) ∧ w.heap[g]? = some (.cells cur.toArray e (0, 0)) ∧ f + i * s.sz + j + vs.length ≤ cur.length ∧
      ((∃ e' sz' l, av = .usl e' sz' l ∧ av' = .usl e' sz' (l.set i (ovw (nth l i) j cs))) ∨ (∃ e' cc, av = .box e' cc ∧ av' = .box e' (ovw cc j cs))) ∧
      ∃ own', Core c (setS n p av' st1) tm (w.setRow g (ovw cur (f + i * s.sz + j) vs).toArray) own' [] := by
  obtain ⟨oo, hrep, hon, hod, hoO, hwalk, H⟩ := C.mod hw ho
  have hvl := hr.length
  -- the walk's side, the same for both kinds
  have fin : ∀ (g f : Nat) (cur : List Value) (e : Nat) (av' : AV) (o' : List Nat), oo = g :: o' → (∀ b ∈ o', b ∈ oo) → w.heap[g]? = some (.cells cur.toArray e (0, 0)) → f + i * s.sz + j + vs.length ≤ cur.length → shapeOf av' = some s →
      (∃ o2, (∀ b ∈ o2, b ∈ o' ∨ b ∈ lo1) ∧ ((o' ++ lo1).Nodup → o2.Nodup) ∧
        ∀ (w' : World) (Fz' : Nat → Prop), w'.heap[g]? = some (.cells (ovw cur (f + i * s.sz + j) vs).toArray e (0, 0)) → Agree w w' (frz c w (owned own1 lo1)) Fz' (o' ++ lo1) → RepC w' Fz' av' y (g :: o2)) →
      ∃ own', Core c (setS n p av' st1) tm (w.setRow g (ovw cur (f + i * s.sz + j) vs).toArray) own' [] := by
    rintro g f cur e av' o' rfl _ hg hb hsh ⟨o2, hm, hn2, hR⟩
    have hgo : g ∉ o' := (List.nodup_cons.1 hon).1
    have hon' : o'.Nodup := (List.nodup_cons.1 hon).2
    have hgl : g ∉ lo1 := hod g (by simp)
    have hdj : (o' ++ lo1).Nodup := List.nodup_append.2 ⟨hon', C.lnd, fun a ha b hb e => hod a (by simp [ha]) (e ▸ hb)⟩
    have hE : Ext w (w.setRow g (ovw cur (f + i * s.sz + j) vs).toArray) ((g :: o') ++ lo1) := Ext.setRow _ (by simp)
    have hgs : g < w.heap.size := (Array.getElem?_eq_some_iff.1 hg).1
    have hX : ∀ b, modOwned own1 lo1 (g :: o') (g :: o2) [] b → owned own1 lo1 b ∨ w.heap.size ≤ b := by
      rintro b (h | h | h)
      · rcases List.mem_cons.1 h with rfl | h
        · exact .inl (hoO _ (by simp))
        · rcases hm b h with h | h
          · exact .inl (hoO b (by simp [h]))
          · exact .inl (.inr h)
      · simp at h
      · exact .inl h.1
    have ag : Agree w (w.setRow g (ovw cur (f + i * s.sz + j) vs).toArray) (frz c w (owned own1 lo1)) (frz c (w.setRow g (ovw cur (f + i * s.sz + j) vs).toArray) (modOwned own1 lo1 (g :: o') (g :: o2) [])) (o' ++ lo1) :=
      agree_frz (W := [g]) (Ext.setRow _ (by simp)) hX (fun b hb _ => by simp at hb; subst hb; exact hoO _ (by simp)) (fun b hb => by
        refine ⟨?_, fun h => ?_⟩
        · rcases List.mem_append.1 hb with h | h
          · exact (C.old b (hoO b (by simp [h]))).2
          · exact (C.old b (.inr h)).2
        · simp at h; subst h
          rcases List.mem_append.1 hb with h | h
          · exact hgo h
          · exact hgl h)
    have hnew := hR _ _ (setRow_heap w g cur.toArray _ e (0, 0) hg) ag
    obtain ⟨own', C', _⟩ := H _ av' (g :: o2) [] (keepK n p) hE
      (List.nodup_cons.2 ⟨fun h => by rcases hm g h with h | h; exact hgo h; exact hgl h, hn2 hdj⟩) (by simp) (by simp)
      (fun b hb => by
        simp only [List.not_mem_nil, or_false] at hb
        rcases List.mem_cons.1 hb with rfl | h
        · exact ⟨.inl (by simp), by simpa using hgs⟩
        · rcases hm b h with h | h
          · exact ⟨.inl (by simp [h]), by have := (C.old b (hoO b (by simp [h]))).2; simpa using this⟩
          · exact ⟨.inr (.inl h), by have := (C.old b (.inr h)).2; simpa using this⟩)
      hnew
      (fun q r hK hq => by
        have hwk := hwalk (w.setRow g (ovw cur (f + i * s.sz + j) vs).toArray) av' hE
        by_cases hpq : p <+: q
        · have hqp : q <+: p := by
            rw [← List.isPrefixOf_iff_prefix]
            rw [← List.isPrefixOf_iff_prefix] at hpq
            simpa [keepK, hpq] using hK
          have he : q = p := List.IsPrefix.eq_of_length hqp (Nat.le_antisymm hqp.length_le hpq.length_le)
          subst he
          have h1 := hwk.2 []
          simp only [List.append_nil, walk] at h1
          simp only [walkSh, h1, Option.bind_some, hsh, Option.map_some]
          simp only [walkSh, hw, Option.bind_some, hs, Option.map_some] at hq
          exact hq
        · rw [hwk.1 q hpq]; exact hq)
    exact ⟨own', C'⟩
  cases av with
  | usl e' sz' l =>
    simp only [shapeOf, Option.some.injEq] at hs
    subst hs
    simp only at hi hj fin ⊢
    simp only [RepC] at hrep
    rcases hrep with ⟨_, hl, _⟩ | ⟨g, hh, cp, cur, xs, o', hy, hoo, hg, hcp, hsz, hrows, hat⟩
    · subst hl; simp at hi
    · have hxl := hrows.length
      have hin : i * sz' + j + vs.length ≤ xs.length := by
        rw [hxl]
        have : (i + 1) * sz' ≤ l.length * sz' := Nat.mul_le_mul_right _ hi
        rw [Nat.add_mul] at this
        omega
      have hcurl : hh * sz' + xs.length ≤ cur.toList.length := by
        have : (hh + l.length) * sz' ≤ (hh + cp) * sz' := Nat.mul_le_mul_right _ (by omega)
        rw [Nat.add_mul] at this
        simp only [Array.length_toList]
        omega
      have hcells : ∀ m, m < xs.length → cur.toList[hh * sz' + m]? = xs[m]? := by
        intro m hm
        have h1 := hat m xs[m] (by simp [hm])
        rw [cell_of_cells hg] at h1
        simp only [Array.getElem?_toList, h1]
        simp [hm]
      have hg' : w.heap[g]? = some (.cells cur.toList.toArray e' (0, 0)) := by simpa using hg
      obtain ⟨o2, h2, hm2, hn2⟩ := hrows.laid hr hj i hi
      refine ⟨g, hh * sz', cur.toList, e', _, by simp [hy, addrOf], hg', by omega, .inl ⟨e', sz', l, rfl, rfl⟩, ?_⟩
      refine fin g (hh * sz') cur.toList e' _ o' hoo (by intro b hb; rw [hoo]; simp [hb]) hg' (by omega) (by simp [shapeOf]) ⟨o2, hm2, hn2, ?_⟩
      intro w' Fz' hgw ag
      simp only [RepC]
      refine .inr ⟨g, hh, cp, _, _, o2, by rw [hy]; simp, rfl, hgw, by simpa using hcp, ?_, h2.keep _ _ _ _ (ag.sub ?_), ?_⟩
      · simp only [List.size_toArray]
        rw [ovw_length (by omega)]
        simpa using hsz
      · intro b hb; rcases hm2 b hb with h | h <;> simp [h]
      · intro m u hmu
        have hml : m < xs.length := by
          have := (List.getElem?_eq_some_iff.1 hmu).1
          rwa [ovw_length hin] at this
        rw [cell_of_cells hgw]
        simp only [List.getElem?_toArray]
        rw [ovw_get hin] at hmu
        rw [ovw_get (by omega)]
        by_cases h1 : m < i * sz' + j
        · rw [if_pos h1] at hmu
          rw [if_pos (by omega), hcells m hml]; exact hmu
        · rw [if_neg h1] at hmu
          rw [if_neg (by omega)]
          by_cases h3 : m < i * sz' + j + vs.length
          · rw [if_pos h3] at hmu
            rw [if_pos (by omega), show hh * sz' + m - (hh * sz' + i * sz' + j) = m - (i * sz' + j) from by omega]; exact hmu
          · rw [if_neg h3] at hmu
            rw [if_neg (by omega), hcells m hml]; exact hmu
  | box e' cc =>
    simp only [shapeOf, Option.some.injEq] at hs
    subst hs
    simp only at hi hj fin ⊢
    have hi0 : i = 0 := by omega
    subst hi0
    simp only [RepC] at hrep
    obtain ⟨g, xs, o', hy, hoo, hg, hrow⟩ := hrep
    have hxl := hrow.length
    obtain ⟨o2, h2, hm2, hn2⟩ := hrow.laid hr hj
    refine ⟨g, 0, xs, e', _, by simp [hy, addrOf], hg, by omega, .inr ⟨e', cc, rfl, rfl⟩, ?_⟩
    have hlen : (ovw cc j cs).length = cc.length := ovw_length hj
    refine fin g 0 xs e' _ o' hoo (by intro b hb; rw [hoo]; simp [hb]) hg (by omega) (by simp [shapeOf, hlen]) ⟨o2, hm2, hn2, ?_⟩
    intro w' Fz' hgw ag
    simp only [Nat.zero_mul, Nat.zero_add] at hgw
    simp only [RepC]
    exact ⟨g, _, o2, hy, rfl, hgw, h2.keep _ _ _ (ag.sub (by intro b hb; rcases hm2 b hb with h | h <;> simp [h]))⟩
  | _ => simp [isOwner] at ho

theorem a_store (S : Sim c N st a w) {t : TypeId} {sz : Nat} {x y : Operand} {x' y' : Opd} (hx : mOpd x x' = true) (hy : mOpd y y' = true) (ho : o.op = .store t x y) (hd : o.dst = none) (hsz : (P.info? t).map (·.size) = some sz) {k : K}
    (h : storeV sz st x' y' k) : Ok P c N a w o k Q := by
  obtain ⟨own, C⟩ := S.core
  unfold storeV at h
  split at h
  rotate_left
  · exact h.elim
  rename_i av st1 hown
  split at h
  rotate_left
  · exact h.elim
  rename_i cs hcs
  obtain ⟨hl, h⟩ := h
  obtain ⟨own1, lo1, C1, hr1, _⟩ := own_sound C hy hown
  simp only [List.nil_append] at C1 hr1
  obtain ⟨vs, hvs, hrow⟩ := stor_rep hr1 hcs
  have rx := rd_rep C1 hx
  have hvl : vs.length = sz := by rw [hrow.length]; exact hl
  split at h
  rotate_left
  · exact h.elim
  rename_i n p i j hrd
  rw [hrd] at rx
  simp only [RepV] at rx
  obtain ⟨_, s, yv, b, f, hloc, hadr, hi, hj, hxv⟩ := rx
  obtain ⟨av0, oo, hg, hw, hsh, hrep, hsub⟩ := loc_spot C1 hloc
  rw [hg] at h
  have hio : isOwner av0 = true := by cases av0 <;> simp [shapeOf] at hsh <;> rfl
  have hjs : j + cs.length ≤ s.sz := by
    cases av0 <;> simp [shapeOf] at hsh <;> (subst hsh; rw [hl]; exact h.2.1)
  obtain ⟨g, f', cur, e, av', hadr', hcur, hfit, hav', own', C'⟩ := core_store C1 hw hio hsh hi hrow hjs
  rw [hadr] at hadr'
  obtain ⟨rfl, rfl⟩ : b = g ∧ f = f' := by simpa using hadr'
  have hrun : (execOp a.eval o).run P w = .ok .skip (w.setRow b (ovw cur (f + i * s.sz + j) vs).toArray) := by
    have hst := run_storeVar (P := P) (t := t) (f := f + i * s.sz + j) hsz hvs hvl hrow.one hcur (by omega)
    simp only [execOp, ho, Instr.storeAt, Instr.sureAddr, hxv, Sem.run_bind, Sem.run_pure, Result.andThen_ok, hst]
  unfold Ok Oper.wp
  rw [hrun]
  simp only [Oper.upon, hd, Act.put]
  rcases hav' with ⟨e', sz', l, rfl, rfl⟩ | ⟨e', cc, rfl, rfl⟩
  · exact ⟨_, ⟨S.defers, S.size, own', C'⟩, h.2.2⟩
  · exact ⟨_, ⟨S.defers, S.size, own', C'⟩, h.2.2⟩
end
end Go.AM
