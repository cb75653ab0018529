/- Own framework, part 9: reading memory. -/
import Derived.Test.YtleomgfaplldiaaA8
namespace Go.AM
set_option linter.unusedVariables false
set_option linter.unusedSimpArgs false

def rowOf : AV → Nat → Option (List AV)
  | .usl _ _ l, i => l[i]?
  | .box _ c, i => if i = 0 then some c else none
  | _, _ => none

theorem owner_row {w : World} {Fz : Nat → Prop} {av : AV} {y : Value} {o : List Nat} {i : Nat} {r : List AV} {s : Sh} (h : RepC w Fz av y o) (hs : shapeOf av = some s) (hr : rowOf av i = some r) :
    i < s.len ∧ r.length = s.sz ∧ ∃ b f xs o1, addrOf y = some (b, f) ∧ b ∈ o ∧ RepRow w Fz r xs o1 ∧ At w b (f + i * s.sz) xs ∧ (∀ b' ∈ o1, b' ∈ o) ∧ (∀ j, cellOf av i j = r[j]?) ∧ ∀ j, j < r.length → cellV w av y i j = xs[j]? := by
  cases av with
  | usl e sz l =>
    simp only [shapeOf, Option.some.injEq] at hs
    subst hs
    simp only [rowOf] at hr
    have hil := (List.getElem?_eq_some_iff.1 hr).1
    simp only [RepC] at h
    rcases h with ⟨_, hl, _⟩ | ⟨g, hh, cp, cur, xs, o', hy, ho, hg, hcp, hsz, hrep, hat⟩
    · subst hl; simp at hil
    · subst hy ho
      obtain ⟨o1, o2, hoo, _, h2⟩ := hrep.split i (Nat.le_of_lt hil)
      have hd : l.drop i = r :: l.drop (i + 1) := by
        rw [List.drop_eq_getElem_cons hil]
        congr 1
        rw [List.getElem?_eq_getElem hil] at hr
        exact Option.some.inj hr
      rw [hd] at h2
      simp only [RepRows] at h2
      obtain ⟨x1, x2, p1, p2, hx, hp, hrl, hrow, _⟩ := h2
      refine ⟨hil, hrl, g, hh * sz, x1, p1, rfl, by simp, hrow, ?_, ?_, ?_, ?_⟩
      · intro j u hj
        have : xs[i * sz + j]? = some u := by
          rw [← List.getElem?_drop, hx, List.getElem?_append_left (List.getElem?_eq_some_iff.1 hj).1]; exact hj
        have := hat _ _ this
        rw [← Nat.add_assoc] at this
        exact this
      · intro b' hb'; rw [hoo, hp]; simp [hb']
      · intro j; simp [cellOf, hr]
      · intro j hj
        have hjx : j < x1.length := by rw [hrow.length]; exact hj
        have : xs[i * sz + j]? = x1[j]? := by
          rw [← List.getElem?_drop, hx, List.getElem?_append_left hjx]
        simp only [cellV]
        have hz := hat (i * sz + j) x1[j] (by rw [this]; simp [hjx])
        rw [← Nat.add_assoc] at hz
        rw [hz]; simp [hjx]
  | box e cs =>
    simp only [shapeOf, Option.some.injEq] at hs
    subst hs
    simp only [rowOf] at hr
    split at hr
    · rename_i hi
      subst hi
      simp at hr
      subst hr
      simp only [RepC] at h
      obtain ⟨g, xs, o', hy, ho, hg, hrep⟩ := h
      subst hy ho
      refine ⟨by simp, rfl, g, 0, xs, o', rfl, by simp, hrep, ?_, by simp +contextual, by simp [cellOf], ?_⟩
      · intro j u hj
        have := cell_of_cells hg j
        simp only [Nat.zero_mul, Nat.zero_add, this]
        simpa using hj
      · intro j hj
        have := cell_of_cells hg j
        simp only [cellV, Nat.zero_add, this]
        simp
    · simp at hr
  | _ => simp [shapeOf] at hs

theorem loc_spot {c : Ctx} {st : St} {tm : Nat → Value} {w : World} {own : Nat → List Nat} {lo : List Nat} (C : Core c st tm w own lo) {n : Nat} {p : List (Nat × Nat)} {s : Sh} {y : Value} (h : locs st tm w n p = some (s, y)) :
    ∃ av o, getC (st n) p = some av ∧ walk w (st n) (tm n) p = some (av, y) ∧ shapeOf av = some s ∧ RepC w (frz c w (owned own lo)) av y o ∧ ∀ b ∈ o, b ∈ own n := by
  simp only [locs, walkSh, Option.bind_eq_some_iff, Option.map_eq_some_iff] at h
  obtain ⟨⟨av, y'⟩, hw, s', hs, he⟩ := h
  simp only [Prod.mk.injEq] at he
  obtain ⟨rfl, rfl⟩ := he
  have ho : isOwner av = true := by cases av <;> simp_all [shapeOf, isOwner]
  obtain ⟨o, oR, S⟩ := (C.rep n).spot p hw ho
  exact ⟨av, o, walk_getC hw, hw, hs, S.rep, fun b hb => (S.mem b).2 (.inl hb)⟩

def inRow (o : Option AV) (i : Nat) (F : List AV → Prop) : Prop :=
  match o with
  | some (.usl _ _ l) => i < l.length ∧ F (nth l i)
  | some (.box _ c) => i = 0 ∧ F c
  | _ => False

theorem inRow_row {av : AV} {i : Nat} {F : List AV → Prop} (h : inRow (some av) i F) : ∃ r, rowOf av i = some r ∧ F r := by
  cases av with
  | usl e sz l =>
    simp only [inRow] at h
    refine ⟨nth l i, ?_, h.2⟩
    simp [rowOf, nth, h.1]
  | box e c => simp only [inRow] at h; exact ⟨c, by simp [rowOf, h.1], h.2⟩
  | _ => exact h.elim

theorem RepRow.toVs {w : World} {Fz : Nat → Prop} {L : Locs} : ∀ {cs : List AV} {xs : List Value} {o : List Nat}, RepRow w Fz cs xs o → RepVs w Fz L cs xs o
  | [], xs, o, h => by simp only [RepRow] at h; simp only [RepVs]; exact h
  | c :: cs, xs, o, h => by
    simp only [RepRow] at h
    obtain ⟨x, xs', o1, o2, hx, ho, hc, hr⟩ := h
    simp only [RepVs]
    exact ⟨x, xs', o1, o2, hx, ho, hc.toV, RepRow.toVs hr⟩

theorem RepRow.sub {w : World} {Fz : Nat → Prop} {cs : List AV} {xs : List Value} {o : List Nat} (h : RepRow w Fz cs xs o) (j n : Nat) (hj : j + n ≤ cs.length) :
    ∃ o', RepRow w Fz ((cs.drop j).take n) ((xs.drop j).take n) o' ∧ ∀ b ∈ o', b ∈ o := by
  obtain ⟨o1, o2, ho, _, h2⟩ := h.split j (by omega)
  obtain ⟨o3, o4, ho', h3, _⟩ := h2.split n (by simp; omega)
  exact ⟨o3, h3, fun b hb => by rw [ho, ho']; simp [hb]⟩

def isAggD : TypeDesc → Bool
  | .struct _ => true
  | .array _ _ => true
  | _ => false

theorem run_loadVar_agg {P : Program} {w : World} {t : TypeId} {d : TypeDesc} {sz : Nat} (hu : P.underlying t = some d) (hd : isAggD d = true) (hs : (P.info? t).map (·.size) = some sz)
    {b f : Nat} {xs : List Value} (hl : xs.length = sz) (ha : At w b f xs) : (loadVar t ⟨b, f, none⟩).run P w = .ok (.agg xs.toArray) w := by
  have hl' : (loadCells ⟨b, f, none⟩ xs.length).run P w = .ok xs.toArray w :=
    run_loadCells_list (P := P) w ⟨b, f, none⟩ xs (fun j v hv => by rw [Addr.add_lit]; exact ha j v hv)
  cases hq : P.info? t with
  | none => simp [hq] at hs
  | some i =>
    have hs' : i.size = sz := by simpa [hq] using hs
    have hagg : (isAgg t).run P w = .ok true w := by
      unfold isAgg
      rw [Sem.run_bind, run_underlying hu w]
      cases d <;> simp_all [isAggD]
    simp [loadVar, Sem.run_bind, hagg, sizeOf, typeInfo, hq, hs', ← hl, hl']

theorem run_loadVar_one {P : Program} {w : World} {t : TypeId} {d : TypeDesc} (hu : P.underlying t = some d) (hd : isAggD d = false)
    {b f : Nat} {x : Value} (ha : w.cell? ⟨b, f, none⟩ = some x) : (loadVar t ⟨b, f, none⟩).run P w = .ok x w := by
  have hagg : (isAgg t).run P w = .ok false w := by
    unfold isAgg
    rw [Sem.run_bind, run_underlying hu w]
    cases d <;> simp_all [isAggD]
  simp [loadVar, Sem.run_bind, hagg, ha]

def aggB (P : Program) (t : TypeId) : Option Bool := (P.underlying t).map isAggD

def loadOk (P : Program) (t : TypeId) (agg : Bool) (sz : Nat) : Bool := aggB P t == some agg && (!agg || (P.info? t).map (·.size) == some sz)

def loadV (agg : Bool) (sz : Nat) (st : St) (x : AV) (k : AV → Prop) : Prop :=
  match x with
  | .fptr c => if agg then sz ≤ c.length ∧ k (.agg (c.take sz)) else 0 < c.length ∧ k (c.getD 0 .dead)
  | .ref n p i j => inRow (getC (st n) p) i fun r =>
      if agg then j + sz ≤ r.length ∧ k (.agg (brws n p i j ((r.drop j).take sz))) else j < r.length ∧ k (brw n (p ++ [(i, j)]) (r.getD j .dead))
  | _ => False

section
variable {P : Program} {o : Oper} {c : Ctx} {st : St} {a : Act} {w : World} {own : Nat → List Nat} {lo : List Nat}

theorem At.same {w w' : World} {b f : Nat} {xs : List Value} (h : At w b f xs) (hs : w'.heap[b]? = w.heap[b]?) : At w' b f xs := h.of_block hs

theorem At.drop {w : World} {b f : Nat} {xs : List Value} (h : At w b f xs) (j n : Nat) : At w b (f + j) ((xs.drop j).take n) := by
  intro m u hm
  rw [List.getElem?_take] at hm
  split at hm
  · rw [List.getElem?_drop] at hm
    have := h _ _ hm
    rw [← Nat.add_assoc] at this
    exact this
  · simp at hm

theorem q_load (C : Core c st (tmOf a) w own lo) {t : TypeId} {x : Operand} {x' : Opd} {agg : Bool} {sz : Nat} (hx : mOpd x x' = true) (ho : o.op = .load t x) (hok : loadOk P t agg sz = true) {k : AV → Prop}
    (h : loadV agg sz st (rd st x') k) : QRes P o c st a w own lo k := by
  have rx := rd_rep C hx
  simp only [loadOk, aggB, Bool.and_eq_true, Bool.or_eq_true, beq_iff_eq, Option.map_eq_some_iff] at hok
  obtain ⟨⟨d, hu, hd⟩, hsz⟩ := hok
  have hex : ∀ w' b f, a.eval x = .pointer (some ⟨b, f, none⟩) → (execOp a.eval o).run P w' = ((loadVar t ⟨b, f, none⟩).run P w').andThen fun v w => .ok (.value v) w := by
    intro w' b f hp
    simp [execOp, ho, hp, Instr.loadAt, Instr.sureAddr]
  unfold loadV at h
  split at h
  · rename_i cs hb
    rw [hb] at rx
    simp only [RepV, RepC] at rx
    obtain ⟨_, g, hh, xs, hp, hf, hrow, hat⟩ := rx
    cases agg with
    | true =>
      simp only [if_true] at h
      obtain ⟨o', hr', hs'⟩ := hrow.sub 0 sz (by omega)
      simp only [List.drop_zero] at hr'
      have : o' = [] := List.eq_nil_iff_forall_not_mem.2 fun b hb => by simpa using hs' b hb
      subst this
      have hl : (xs.take sz).length = sz := by rw [hr'.length]; simp; omega
      refine ⟨.agg (xs.take sz).toArray, _, fun w' hsame0 => ?_, ?_, h.2⟩
      · have hat' := (hat.drop 0 sz).same (hsame0 (by rw [ho]; rfl) g (.inl hf))
        simp only [Nat.add_zero, List.drop_zero] at hat'
        rw [hex w' g hh hp, run_loadVar_agg hu hd (by simpa using hsz) hl hat']
        rfl
      · simp only [RepV]; exact ⟨_, rfl, hr'.toVs⟩
    | false =>
      simp only [Bool.false_eq_true, if_false] at h
      cases cs with
      | nil => simp at h
      | cons c0 cs =>
        simp only [RepRow] at hrow
        obtain ⟨x0, xs', o1, o2, hxs, hoo, hc0, _⟩ := hrow
        obtain ⟨rfl, rfl⟩ : o1 = [] ∧ o2 = [] := by simpa using hoo.symm
        subst hxs
        refine ⟨x0, _, fun w' hsame0 => ?_, hc0.toV, by simpa using h.2⟩
        have hcell := (hat.same (hsame0 (by rw [ho]; rfl) g (.inl hf))) 0 x0 (by simp)
        rw [Nat.add_zero] at hcell
        rw [hex w' g hh hp, run_loadVar_one hu hd hcell]
        rfl
  · rename_i n p i j hb
    rw [hb] at rx
    simp only [RepV] at rx
    obtain ⟨_, s, y, b, f, hloc, hadr, hi, hj, hp⟩ := rx
    obtain ⟨av, oo, hg, hw, hsh, hrep, hsub⟩ := loc_spot C hloc
    rw [hg] at h
    obtain ⟨r, hr, hF⟩ := inRow_row h
    obtain ⟨_, hrl, b', f', xs, o1, hadr', hbo, hrow, hat, hsub', hcell, hcv⟩ := owner_row hrep hsh hr
    rw [hadr] at hadr'
    obtain ⟨rfl, rfl⟩ : b = b' ∧ f = f' := by simpa using hadr'
    have hsameb : ∀ w', Same c own lo w w' → w'.heap[b]? = w.heap[b]? := fun w' hs => hs b (.inr (.inl ⟨n, hsub b hbo⟩))
    have hwalk : ∀ m c0 z, r[m]? = some c0 → xs[m]? = some z → ∀ q r', walkSh w c0 z q = some r' → locs st (tmOf a) w n (p ++ [(i, m)] ++ q) = some r' := by
      intro m c0 z hm hz q r' hq
      have hml := (List.getElem?_eq_some_iff.1 hm).1
      have : walk w (st n) (tmOf a n) (p ++ [(i, m)]) = some (c0, z) := by
        rw [walk_append, hw]
        simp only [Option.bind_some, walk, hcell, hm, hcv m hml, hz]
      simp only [locs]
      rw [walkSh_append this]
      exact hq
    cases agg with
    | true =>
      simp only [if_true] at hF
      obtain ⟨o', hr', hs'⟩ := hrow.sub j sz hF.1
      have hl : ((xs.drop j).take sz).length = sz := by rw [hr'.length]; simp; omega
      refine ⟨.agg ((xs.drop j).take sz).toArray, _, fun w' hsame0 => ?_, ?_, hF.2⟩
      · have hat' := (hat.drop j sz).same (hsameb w' (hsame0 (by rw [ho]; rfl)))
        rw [hex w' b _ hp, run_loadVar_agg hu hd (by simpa using hsz) hl hat']
        rfl
      · simp only [RepV]
        refine ⟨_, rfl, brws_rep _ (L := locs st (tmOf a) w) hr'.toVs ?_⟩
        intro m c0 z hm hz q r' hq
        rw [List.getElem?_take] at hm hz
        split at hm
        · rename_i hms
          simp only [hms, if_true, List.getElem?_drop] at hm hz
          exact hwalk (j + m) c0 z hm hz q r' hq
        · simp at hm
    | false =>
      simp only [Bool.false_eq_true, if_false] at hF
      have hjr := hF.1
      have hjx : j < xs.length := by rw [hrow.length]; exact hjr
      obtain ⟨z, p1, oc, p2, _, hz, hcz, _⟩ := hrow.at (k := j) (c := r[j]) (by simp [hjr])
      refine ⟨z, _, fun w' hsame0 => ?_, ?_, hF.2⟩
      · have hat' := (hat.same (hsameb w' (hsame0 (by rw [ho]; rfl)))) j z hz
        rw [hex w' b _ hp, run_loadVar_one hu hd hat']
        rfl
      · have e : r.getD j .dead = r[j] := by simp [hjr]
        rw [e]
        exact brw_rep (L := locs st (tmOf a) w) r[j] hcz.toV (fun q r' hq => hwalk j r[j] z (by simp [hjr]) hz q r' hq)
  · exact h.elim
end
end Go.AM
