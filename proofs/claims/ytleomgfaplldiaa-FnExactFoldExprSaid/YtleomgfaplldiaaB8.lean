/- Own framework, part 17: append; bytes to a string. -/
import Derived.Test.YtleomgfaplldiaaB7
namespace Go.AM
set_option linter.unusedVariables false
set_option linter.unusedSimpArgs false

section
variable {P : Program} {o : Oper} {c : Ctx} {N : Nat} {st : St} {a : Act} {w : World} {Q : Exit → Act → World → Prop}

/-- What append tells, of a row that is owned and loose. -/
theorem app_core {st2 : St} {tm : Nat → Value} {own2 : Nat → List Nat} {lo1 lo2 oy : List Nat} (C : Core c st2 tm w own2 (lo1 ++ lo2)) {e sz bytes : Nat} {l ys : List (List AV)} {vx vy : Value}
    (hx : RepC w (frz c w (owned own2 (lo1 ++ lo2))) (.usl e sz l) vx lo1) {t ty : TypeId} {i : TypeInfo} {z : Value} (ht : P.underlying t = some (.slice e)) (hi : P.info? e = some i) (hz : i.zero = some z) (hzs : z.cells.size = sz) (hsz : i.size = sz) (hby : i.bytes = bytes)
    {news : List Value} (hy : RepRows w (frz c w (owned own2 (lo1 ++ lo2))) sz ys news oy) (hoy : ∀ b ∈ oy, b ∈ lo2) (hon : oy.Nodup) {A : Option Addr} {cy : Nat} (hvy : vy = .slice A ys.length cy)
    (hat : ys ≠ [] → ∃ gy fy, A = some ⟨gy, fy, none⟩ ∧ At w gy fy news) (h63 : l.length + ys.length ≤ 9223372036854775807) (hb : (l.length + ys.length) * bytes ≤ 140737488355328) :
    ∃ x' w' lo', (Builtin.append_ #[t, t] ty #[vx, vy]).run P w = .ok x' w' ∧ Core c st2 tm w' own2 lo' ∧ RepC w' (frz c w' (owned own2 lo')) (.usl e sz (l ++ ys)) x' lo' := by
  have hnl := hy.length
  have hlod : (lo1 ++ oy).Nodup := by
    have := List.nodup_append.1 C.lnd
    exact List.nodup_append.2 ⟨this.1, hon, fun a ha b hb => this.2.2 a ha b (hoy b hb)⟩
  have hold : ∀ b ∈ lo1 ++ oy, b ∈ lo1 ++ lo2 := fun b hb => by
    rcases List.mem_append.1 hb with h | h
    · simp [h]
    · simp [hoy b h]
  by_cases hys : ys = []
  · subst hys
    have hn0 : news = [] := List.eq_nil_of_length_eq_zero (by simpa using hnl)
    have ho0 : oy = [] := by simp only [RepRows] at hy; exact hy.2
    subst hn0 ho0
    have C' := C.world (lo' := lo1) (Ext.refl w _) (List.nodup_append.1 C.lnd).1 (fun b hb => ⟨.inl (by simp [hb]), (C.old b (.inr (by simp [hb]))).2⟩)
    refine ⟨vx, w, lo1, ?_, C', ?_⟩
    · simp only [RepC] at hx
      have hf : ∀ A : Option Addr, (Builtin.firstCells sz 0 (.slice A 0 cy)).run P w = .ok #[] w := by
        intro A; cases A <;> simp [Builtin.firstCells, loadCells, loadCellsFrom]
      rcases hx with ⟨rfl, hl, _⟩ | ⟨g, hh, cp, cur, xs, o', rfl, _, _, hcp, _⟩
      · simp [Builtin.append_, run_underlying ht, sizeOf, typeInfo, hi, hsz, hvy, Builtin.lenOf, hf]
      · simp [Builtin.append_, run_underlying ht, sizeOf, typeInfo, hi, hsz, hvy, Builtin.lenOf, hf, hcp, storeCells]
    · rw [List.append_nil]
      refine hx.keep _ _ _ (frz_sub ?_)
      rintro b (⟨k, hk⟩ | hb)
      · exact .inl ⟨k, hk⟩
      · exact .inr (by simp [hb])
  · obtain ⟨gy, fy, rfl, haty⟩ := hat hys
    have hm0 : 0 < ys.length := List.length_pos_iff.2 hys
    have hcell : ∀ (w' : World), w'.heap[gy]? = w.heap[gy]? → ∀ j u, news[j]? = some u → w'.cell? ((⟨gy, fy, none⟩ : Addr).add j) = some u := fun w' h j u hj => by
      rw [Addr.add_lit]; exact (haty.of_block h) j u hj
    have hone : ∀ u ∈ news, u.oneCell' = true := hy.one
    have hnl' : news.length = ys.length * i.size := by rw [hsz]; exact hnl
    -- a new block
    have fresh : ∀ (xs : List Value) (o' : List Nat) (old : Nat), RepRows w (frz c w (owned own2 (lo1 ++ lo2))) sz l xs o' → (∀ b ∈ o', b ∈ lo1) → o'.Nodup → old < l.length + ys.length →
        ∃ lo', Core c st2 tm (w.drew.alloc (.cells (xs.toArray ++ news.toArray ++ Builtin.zeroCells z.cells (grownCap w (l.length + ys.length) old e - (l.length + ys.length))) e)) own2 lo' ∧
          RepC (w.drew.alloc (.cells (xs.toArray ++ news.toArray ++ Builtin.zeroCells z.cells (grownCap w (l.length + ys.length) old e - (l.length + ys.length))) e))
            (frz c (w.drew.alloc (.cells (xs.toArray ++ news.toArray ++ Builtin.zeroCells z.cells (grownCap w (l.length + ys.length) old e - (l.length + ys.length))) e)) (owned own2 lo'))
            (.usl e sz (l ++ ys)) (.slice (some ⟨w.heap.size, 0, none⟩) (l.length + ys.length) (grownCap w (l.length + ys.length) old e)) lo' := by
      intro xs o' old hxs ho' hno hlt
      have hxl := hxs.length
      have ho'l : ∀ b ∈ o' ++ oy, b ∈ lo1 ++ lo2 := fun b hb => by
        rcases List.mem_append.1 hb with h | h
        · simp [ho' b h]
        · simp [hoy b h]
      have hn2 : (o' ++ oy).Nodup := by
        rw [List.nodup_append] at hlod ⊢
        exact ⟨hno, hon, fun a ha b hb => hlod.2.2 a (ho' a ha) b hb⟩
      have C1 := C.world (lo' := o' ++ oy) (Ext.drew w _) hn2 (fun b hb => ⟨.inl (ho'l b hb), (C.old b (.inr (ho'l b hb))).2⟩)
      have ag1 : ∀ oo, Agree w w.drew (frz c w (owned own2 (lo1 ++ lo2))) (frz c w.drew (owned own2 (o' ++ oy))) oo := fun oo => by
        refine ⟨fun b hb => ⟨⟨hb.1, hb.2.1, fun hx => hb.2.2 ?_⟩, rfl⟩, fun _ _ => rfl⟩
        rcases hx with ⟨k, hk⟩ | hx
        · exact .inl ⟨k, hk⟩
        · exact .inr (ho'l b hx)
      have hrows := (hxs.append hy).keep _ _ _ _ (ag1 _)
      have hge := grownCap_ge w (l.length + ys.length) old e
      have e1 : (xs.toArray ++ news.toArray ++ Builtin.zeroCells z.cells (grownCap w (l.length + ys.length) old e - (l.length + ys.length))) = ((xs ++ news) ++ (Builtin.zeroCells z.cells (grownCap w (l.length + ys.length) old e - (l.length + ys.length))).toList).toArray := by
        apply Array.ext'; simp
      rw [e1]
      refine ⟨w.heap.size :: (o' ++ oy), (core_new C1 _).1, ?_⟩
      have hlen : (l ++ ys).length = l.length + ys.length := by simp
      have hr := rep_row (e := e) (cp := grownCap w (l.length + ys.length) old e) (rest := (Builtin.zeroCells z.cells (grownCap w (l.length + ys.length) old e - (l.length + ys.length))).toList) C1 (by rw [hlen]; exact hge) (by
        simp only [List.length_append, hxl, hnl, Array.length_toList, size_zeroCells, hzs, ← Nat.add_mul]
        apply Nat.mul_le_mul_right
        omega) hrows
      rw [hlen] at hr
      exact hr
    simp only [RepC] at hx
    rcases hx with ⟨rfl, rfl, rfl⟩ | ⟨g, hh, cp, cur, xs, o', rfl, hlo, hg, hcp, hfit, hrows, hatx⟩
    · -- onto nothing
      obtain ⟨lo', C', hr'⟩ := fresh [] [] 0 (by simp [RepRows]) (by simp) (by simp) (by simpa using hm0)
      simp only [List.length_nil, Nat.zero_add, List.nil_append, Array.empty_append] at C' hr' hb h63
      refine ⟨_, _, lo', ?_, C', hr'⟩
      rw [hvy]
      exact run_append_nil (P := P) w t ty e i z ht hi hz ⟨gy, fy, none⟩ ys.length cy news hnl' (hcell w rfl) hm0 (by omega) (by rw [hby]; omega)
    · have hxl := hrows.length
      have hgl : g ∈ lo1 := by rw [hlo]; simp
      have hn1 : lo1.Nodup := (List.nodup_append.1 C.lnd).1
      have hgo : g ∉ o' ∧ o'.Nodup := by rw [hlo] at hn1; exact List.nodup_cons.1 hn1
      have ho'1 : ∀ b ∈ o', b ∈ lo1 := fun b hb => by rw [hlo]; simp [hb]
      by_cases hroom : l.length + ys.length ≤ cp
      · -- in place
        have hg' : w.heap[g]? = some (.cells cur.toList.toArray e (0, 0)) := by simpa using hg
        have hfit' : hh * sz + l.length * sz + news.length ≤ cur.toList.length := by
          have : (hh + (l.length + ys.length)) * sz ≤ (hh + cp) * sz := Nat.mul_le_mul_right _ (by omega)
          rw [Nat.add_mul, Nat.add_mul] at this
          simp only [Array.length_toList]
          omega
        have hst := run_storeCells_at P g (hh * sz + l.length * sz) e news 0 cur w hg (by simpa using hfit') hone
        simp only [Nat.add_zero] at hst
        have hrun : (Builtin.append_ #[t, t] ty #[.slice (some ⟨g, hh * sz, none⟩) l.length cp, vy]).run P w = .ok (.slice (some ⟨g, hh * sz, none⟩) (l.length + ys.length) cp) (w.setRow g (ovw cur.toList (hh * sz + l.length * sz) news).toArray) := by
          have hf := run_firstCells_some (P := P) w i.size ys.length ⟨gy, fy, none⟩ ys.length cy news hnl' (hcell w rfl)
          rw [hvy]
          rw [hsz] at hf
          rw [List.append_assoc] at hst
          simp [Builtin.append_, run_underlying ht, sizeOf, typeInfo, hi, Builtin.lenOf, hroom, hf, Addr.add_lit, hsz, hst, ovw]
        have hgs : g < w.heap.size := (Array.getElem?_eq_some_iff.1 hg).1
        have hE : Ext w (w.setRow g (ovw cur.toList (hh * sz + l.length * sz) news).toArray) [g] := Ext.setRow _ (by simp)
        have hlo' : ∀ b ∈ g :: (o' ++ oy), b ∈ lo1 ++ lo2 := by
          intro b hb
          rcases List.mem_cons.1 hb with rfl | hb
          · simp [hgl]
          · rcases List.mem_append.1 hb with h | h
            · simp [ho'1 b h]
            · simp [hoy b h]
        have hnd : (g :: (o' ++ oy)).Nodup := by
          rw [hlo] at hlod
          simpa using hlod
        have C' := C.world (lo' := g :: (o' ++ oy)) (hE.mono (fun b hb _ => by simp at hb; subst hb; simp [hgl])) hnd (fun b hb => ⟨.inl (hlo' b hb), by have := (C.old b (.inr (hlo' b hb))).2; simpa using this⟩)
        have ag : Agree w (w.setRow g (ovw cur.toList (hh * sz + l.length * sz) news).toArray) (frz c w (owned own2 (lo1 ++ lo2))) (frz c (w.setRow g (ovw cur.toList (hh * sz + l.length * sz) news).toArray) (owned own2 (g :: (o' ++ oy)))) (o' ++ oy) := by
          refine agree_frz hE ?_ (fun b hb _ => by simp at hb; subst hb; exact .inr (by simp [hgl])) ?_
          · rintro b (⟨k, hk⟩ | hb)
            · exact .inl (.inl ⟨k, hk⟩)
            · exact .inl (.inr (hlo' b hb))
          · intro b hb
            refine ⟨(C.old b (.inr (hlo' b (by simp only [List.mem_cons]; exact .inr hb)))).2, fun h => ?_⟩
            simp at h; subst h
            exact (List.nodup_cons.1 hnd).1 hb
        refine ⟨_, _, _, hrun, C', ?_⟩
        simp only [RepC]
        refine .inr ⟨g, hh, cp, _, xs ++ news, o' ++ oy, by simp, rfl, setRow_heap w g cur _ e (0, 0) hg, by simpa using hroom, ?_, (hrows.append hy).keep _ _ _ _ ag, ?_⟩
        · simp only [List.size_toArray]
          rw [ovw_length hfit']
          simpa using hfit
        · intro m u hm
          rw [cell_of_cells (setRow_heap w g cur _ e (0, 0) hg)]
          simp only [List.getElem?_toArray]
          rw [ovw_get hfit']
          rw [List.getElem?_append] at hm
          split at hm
          · rename_i hml
            rw [if_pos (by omega)]
            have := hatx m u hm
            rw [cell_of_cells hg] at this
            simpa using this
          · rename_i hml
            have hml2 : m - xs.length < news.length := (List.getElem?_eq_some_iff.1 hm).1
            rw [if_neg (by omega), if_pos (by omega), show hh * sz + m - (hh * sz + l.length * sz) = m - xs.length from by omega]
            exact hm
      · obtain ⟨lo', C', hr'⟩ := fresh xs o' cp hrows ho'1 hgo.2 (by omega)
        refine ⟨_, _, lo', ?_, C', hr'⟩
        rw [hvy]
        exact run_append_grow (P := P) w t ty e i z ht hi hz ⟨g, hh * sz, none⟩ l.length cp xs (by rw [hsz]; exact hxl) (fun j v hj => by rw [Addr.add_lit]; exact hatx j v hj) ⟨gy, fy, none⟩ ys.length cy news hnl' (hcell w rfl) (by omega) (by omega) (growslice_fits (by omega) (by rw [hby]; exact hb))

def storP : AV → Bool
  | .v _ => true
  | .fsl .. => true
  | .fptr _ => true
  | _ => false

/-- What y holds, when it is copied: its rows are plain. -/
def appV (own : Bool) (e sz bytes : Nat) (st : St) (x y : Opd) (d : Option Nat) (k : K) : Prop :=
  match ownO st x with
  | some (.usl e' sz' l, st1) => e' = e ∧ sz' = sz ∧
    (if own then match ownO st1 y with
      | some (.usl e2 sz2 ys, st2) => sz2 = sz ∧ (l.length + ys.length) * bytes ≤ 140737488355328 ∧ l.length + ys.length ≤ 9223372036854775807 ∧ putS st2 d (.usl e sz (l ++ ys)) k
      | _ => False
    else match rd st1 y with
      | .fsl sz2 ys => (sz2 = sz ∨ ys = []) ∧ (l.length + ys.length) * bytes ≤ 140737488355328 ∧ l.length + ys.length ≤ 9223372036854775807 ∧ putS st1 d (.usl e sz (l ++ ys)) k
      | .sref n p off len => match getC (st1 n) p with
        | some (.usl _ sz2 r) => sz2 = sz ∧ (∀ c ∈ (r.drop off).take len, ∀ u ∈ c, storP u = true) ∧ (l.length + len) * bytes ≤ 140737488355328 ∧ l.length + len ≤ 9223372036854775807 ∧ putS st1 d (.usl e sz (l ++ (r.drop off).take len)) k
        | _ => False
      | _ => False)
  | _ => False

def appOk (P : Program) (t e sz bytes : Nat) : Bool :=
  (match P.underlying t with | some (.slice e') => e' == e | _ => false) && (match P.info? e with | some i => i.size == sz && i.bytes == bytes && (match i.zero with | some z => z.cells.size == sz | none => false) | none => false)

theorem storP_row {w : World} {Fz : Nat → Prop} : ∀ {cs : List AV} {xs : List Value} {o : List Nat}, RepRow w Fz cs xs o → (∀ u ∈ cs, storP u = true) → o = []
  | [], xs, o, h, _ => by simp only [RepRow] at h; exact h.2
  | c :: cs, xs, o, h, hp => by
    simp only [RepRow] at h
    obtain ⟨x, xs', o1, o2, hx, ho, hc, hr⟩ := h
    have h1 := hp c (by simp)
    have h2 : o1 = [] := by
      cases c <;> simp [storP] at h1
      · simp only [RepC] at hc; exact hc.2.2
      · simp only [RepC] at hc; exact hc.1
      · simp only [RepC] at hc; exact hc.1
    rw [ho, h2, storP_row hr (fun u hu => hp u (by simp [hu]))]
    rfl

theorem storP_rows {w : World} {Fz : Nat → Prop} {sz : Nat} : ∀ {cs : List (List AV)} {xs : List Value} {o : List Nat}, RepRows w Fz sz cs xs o → (∀ c ∈ cs, ∀ u ∈ c, storP u = true) → o = []
  | [], xs, o, h, _ => by simp only [RepRows] at h; exact h.2
  | c :: cs, xs, o, h, hp => by
    simp only [RepRows] at h
    obtain ⟨x1, x2, o1, o2, hx, ho, hl, h1, h2⟩ := h
    rw [ho, storP_row h1 (hp c (by simp)), storP_rows h2 (fun c' hc => hp c' (by simp [hc]))]
    rfl

theorem a_app (S : Sim c N st a w) (hN : ∀ e, o.dst = some e → e < N ∧ c.fx e = none) {own : Bool} {t e sz bytes : Nat} {x y : Operand} {x' y' : Opd} (hx : mOpd x x' = true) (hy : mOpd y y' = true)
    (ho : o.op = .call { callee := .builtin .append, args := #[x, y], argTypes := #[t, t] }) (hok : appOk P t e sz bytes = true) {k : K} (h : appV own e sz bytes st x' y' o.dst k) : Ok P c N a w o k Q := by
  obtain ⟨own0, C⟩ := S.core
  simp only [appOk, Bool.and_eq_true] at hok
  obtain ⟨hu, hi⟩ := hok
  split at hu
  rotate_left
  · cases hu
  rename_i e' hu'
  simp only [beq_iff_eq] at hu
  subst hu
  split at hi
  rotate_left
  · cases hi
  rename_i i hi'
  simp only [Bool.and_eq_true, beq_iff_eq] at hi
  obtain ⟨⟨hsz, hby⟩, hz⟩ := hi
  split at hz
  rotate_left
  · cases hz
  rename_i z hzz
  simp only [beq_iff_eq] at hz
  unfold appV at h
  split at h
  rotate_left
  · exact h.elim
  rename_i e2 sz2 l st1 hown
  obtain ⟨rfl, rfl, h⟩ := h
  obtain ⟨own1, lo1, C1, hr1, _⟩ := own_sound C hx hown
  simp only [List.nil_append] at C1 hr1
  simp only [RepV] at hr1
  have fin : ∀ {st2 : St} {own2 : Nat → List Nat} {lo2 oy : List Nat} {ys : List (List AV)} {news : List Value} {A : Option Addr} {cy : Nat}, Core c st2 (tmOf a) w own2 (lo1 ++ lo2) → RepC w (frz c w (owned own2 (lo1 ++ lo2))) (.usl e2 sz2 l) (a.eval x) lo1 →
      RepRows w (frz c w (owned own2 (lo1 ++ lo2))) sz2 ys news oy → (∀ b ∈ oy, b ∈ lo2) → oy.Nodup → a.eval y = .slice A ys.length cy → (ys ≠ [] → ∃ gy fy, A = some ⟨gy, fy, none⟩ ∧ At w gy fy news) →
      l.length + ys.length ≤ 9223372036854775807 → (l.length + ys.length) * bytes ≤ 140737488355328 → putS st2 o.dst (.usl e2 sz2 (l ++ ys)) k → Ok P c N a w o k Q := by
    intro st2 own2 lo2 oy ys news A cy C2 hx2 hy2 hoy hon hvy hat h63 hb hk
    obtain ⟨x', w', lo', hrun, C', hr'⟩ := app_core (P := P) (ty := o.type) C2 hx2 hu' hi' hzz hz hsz hby hy2 hoy hon hvy hat h63 hb
    have hrun' : (execOp a.eval o).run P w = .ok (.value x') w' := by
      simp only [execOp, ho, resolve, Sem.run_bind, Sem.run_pure, Result.andThen_ok, invoke, builtin, List.map_toArray, List.map_cons, List.map_nil, hrun]
    exact fin_value S.defers S.size hN hrun' C' hr'.toV hk
  cases own with
  | true =>
    simp only [if_true] at h
    split at h
    rotate_left
    · exact h.elim
    rename_i e3 sz3 ys st2 hown2
    obtain ⟨rfl, hb, h63, hk⟩ := h
    obtain ⟨own2, lo2, C2, hr2, hX2⟩ := own_sound C1 hy hown2
    simp only [RepV] at hr2
    have hx2 := hr1.keep _ _ _ (frz_sub (oo := lo1) hX2)
    have hr3 := hr2
    simp only [RepC] at hr2
    rcases hr2 with ⟨hv, rfl, rfl⟩ | ⟨g, hh, cp, cur, xs, o', hv, rfl, hg, hcp, hfit, hrows, hat⟩
    · exact fin (ys := []) (news := []) (oy := []) (A := none) (cy := 0) C2 hx2 (by simp [RepRows]) (by simp) (by simp) (by rw [hv]; rfl) (by simp) h63 hb hk
    · have hn := (List.nodup_cons.1 (List.nodup_append.1 C2.lnd).2.1).2
      exact fin C2 hx2 hrows (by simp +contextual) hn hv (fun _ => ⟨_, _, rfl, hat⟩) h63 hb hk
  | false =>
    simp only [Bool.false_eq_true, if_false] at h
    have ry := rd_rep C1 hy
    have C1' : Core c st1 (tmOf a) w own1 (lo1 ++ []) := by simpa using C1
    have hx1' : RepC w (frz c w (owned own1 (lo1 ++ []))) (.usl e2 sz2 l) (a.eval x) lo1 := by simpa using hr1
    split at h
    · rename_i sz3 ys hrd
      obtain ⟨hs, hb, h63, hk⟩ := h
      rw [hrd] at ry
      simp only [RepV, RepC] at ry
      obtain ⟨_, A, cp, hv, _, hl⟩ := ry
      by_cases hys : ys = []
      · subst hys
        exact fin (ys := []) (news := []) (oy := []) C1' hx1' (by simp [RepRows]) (by simp) (by simp) hv (by simp) h63 hb hk
      · rcases hl with hl | ⟨g, hh, xs, hA, hf, hrows, hat⟩
        · exact absurd hl hys
        · have hs' : sz3 = sz2 := hs.resolve_right hys
          subst hs'
          exact fin (oy := []) C1' hx1' (by simpa using hrows) (by simp) (by simp) hv (fun _ => ⟨g, hh, hA, hat⟩) h63 hb hk
    · rename_i n p off len hrd
      split at h
      rotate_left
      · exact h.elim
      rename_i e3 sz3 r hg
      obtain ⟨rfl, hpl, hb, h63, hk⟩ := h
      rw [hrd] at ry
      simp only [RepV] at ry
      obtain ⟨_, s, yv, hloc, hbx, hle, hwin⟩ := ry
      obtain ⟨av, oo, hg', hw, hsh, hrep, hsub⟩ := loc_spot C1 hloc
      rw [hg] at hg'
      obtain rfl := Option.some.inj hg'
      simp only [shapeOf, Option.some.injEq] at hsh
      subst hsh
      obtain ⟨o', hr', _, _⟩ := win_usl hrep hle hwin
      have hlen : ((r.drop off).take len).length = len := by simp at hle ⊢; omega
      rw [← hlen] at hb h63
      simp only [RepC] at hr'
      rcases hr' with ⟨hv, hnil, _⟩ | ⟨g, hh, cp, cur, xs, o'', hv, _, hgg, _, _, hrows, hat⟩
      · rw [hnil] at hb h63 hk
        exact fin (ys := []) (news := []) (oy := []) (A := none) (cy := 0) C1' hx1' (by simp [RepRows]) (by simp) (by simp) (by rw [hv]; rfl) (by simp) h63 hb hk
      · have := storP_rows hrows hpl
        subst this
        exact fin (oy := []) C1' hx1' (by simpa using hrows) (by simp) (by simp) hv (fun _ => ⟨_, _, rfl, hat⟩) h63 hb hk
    · exact h.elim
end
end Go.AM
