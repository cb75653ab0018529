/- Own framework, part 13: operations that move what is owned, and that make memory. -/
import Derived.Test.YtleomgfaplldiaaB3
namespace Go.AM
set_option linter.unusedVariables false
set_option linter.unusedSimpArgs false

def storL : AV → Bool
  | .v _ => true
  | .fsl .. => true
  | .usl .. => true
  | .fptr _ => true
  | .box .. => true
  | _ => false

/-- The cells of a value that may lie in memory. -/
def cellsS : AV → Option (List AV)
  | .agg l => if l.all storL then some l else none
  | .v x => some [.v x]
  | .fsl sz l => some [.fsl sz l]
  | .usl e sz l => some [.usl e sz l]
  | .fptr c => some [.fptr c]
  | .box e c => some [.box e c]
  | _ => none

theorem RepVs.toRow {w : World} {Fz : Nat → Prop} {L : Locs} : ∀ {l : List AV} {xs : List Value} {o : List Nat}, RepVs w Fz L l xs o → l.all storL = true → RepRow w Fz l xs o
  | [], xs, o, h, _ => by simp only [RepVs] at h; simp only [RepRow]; exact h
  | c :: cs, xs, o, h, hl => by
    simp only [RepVs] at h
    obtain ⟨x, xs', o1, o2, hx, ho, hc, hr⟩ := h
    simp only [List.all_cons, Bool.and_eq_true] at hl
    simp only [RepRow]
    refine ⟨x, xs', o1, o2, hx, ho, ?_, RepVs.toRow hr hl.2⟩
    cases c <;> simp [storL] at hl <;> (simp only [RepV] at hc; exact hc)

theorem stor_rep {w : World} {Fz : Nat → Prop} {L : Locs} {av : AV} {x : Value} {o : List Nat} {cs : List AV} (h : RepV w Fz L av x o) (hc : cellsS av = some cs) : ∃ xs, x.cells = xs.toArray ∧ RepRow w Fz cs xs o := by
  have leaf : ∀ av, RepC w Fz av x o → cs = [av] → ∃ xs, x.cells = xs.toArray ∧ RepRow w Fz cs xs o := by
    intro av h hcs
    subst hcs
    have h1 := h.one
    have hx : x.cells = #[x] := by cases x <;> first | rfl | (simp [Value.oneCell'] at h1)
    exact ⟨[x], hx, by simp only [RepRow]; exact ⟨x, [], o, [], rfl, by simp, h, rfl, rfl⟩⟩
  cases av with
  | agg l =>
    simp only [cellsS] at hc
    split at hc
    · rename_i hl
      cases hc
      simp only [RepV] at h
      obtain ⟨xs, rfl, hr⟩ := h
      exact ⟨xs, rfl, hr.toRow hl⟩
    · cases hc
  | v y => simp only [cellsS, Option.some.injEq] at hc; simp only [RepV] at h; exact leaf _ h hc.symm
  | fsl sz l => simp only [cellsS, Option.some.injEq] at hc; simp only [RepV] at h; exact leaf _ h hc.symm
  | usl e sz l => simp only [cellsS, Option.some.injEq] at hc; simp only [RepV] at h; exact leaf _ h hc.symm
  | fptr c => simp only [cellsS, Option.some.injEq] at hc; simp only [RepV] at h; exact leaf _ h hc.symm
  | box e c => simp only [cellsS, Option.some.injEq] at hc; simp only [RepV] at h; exact leaf _ h hc.symm
  | _ => simp [cellsS] at hc

/-- The cell of a zero value. -/
inductive ZC where
  | v (x : Value)
  | s (e sz : Nat)
  | f (sz : Nat)

def ZC.av : ZC → AV
  | .v x => .v x
  | .s e sz => .usl e sz []
  | .f sz => .fsl sz []

def zOk1 : ZC → Value → Bool
  | .v (.int k a), .int k' b => k == k' && a == b
  | .v (.bool a), .bool b => a == b
  | .v (.string a), .string b => a.data.toList == b.data.toList
  | .v (.pointer none), .pointer none => true
  | .v .nilIface, .nilIface => true
  | .v .nilFunc, .nilFunc => true
  | .v (.map none), .map none => true
  | .s _ _, .slice none 0 0 => true
  | .f _, .slice none 0 0 => true
  | _, _ => false

def zOk : List ZC → List Value → Bool
  | [], [] => true
  | z :: zs, x :: xs => zOk1 z x && zOk zs xs
  | _, _ => false

theorem zOk1_rep {w : World} {Fz : Nat → Prop} {z : ZC} {x : Value} (h : zOk1 z x = true) : RepC w Fz z.av x [] := by
  unfold zOk1 at h
  split at h
  · simp only [Bool.and_eq_true, beq_iff_eq] at h; obtain ⟨rfl, rfl⟩ := h; simp [ZC.av, RepC, Value.oneCell']
  · simp only [beq_iff_eq] at h; subst h; simp [ZC.av, RepC, Value.oneCell']
  · rename_i s s'; simp only [beq_iff_eq] at h
    obtain rfl : s = s' := (by cases s; cases s'; simp only [ByteArray.mk.injEq]; exact Array.toList_inj.1 h)
    simp [ZC.av, RepC, Value.oneCell']
  · simp [ZC.av, RepC, Value.oneCell']
  · simp [ZC.av, RepC, Value.oneCell']
  · simp [ZC.av, RepC, Value.oneCell']
  · simp [ZC.av, RepC, Value.oneCell']
  · simp [ZC.av, RepC]
  · simp [ZC.av, RepC]
  · cases h

theorem zOk_rep {w : World} {Fz : Nat → Prop} : ∀ {zs : List ZC} {xs : List Value}, zOk zs xs = true → RepRow w Fz (zs.map ZC.av) xs []
  | [], [], _ => by simp [RepRow]
  | [], x :: xs, h => by simp [zOk] at h
  | z :: zs, [], h => by simp [zOk] at h
  | z :: zs, x :: xs, h => by
    simp only [zOk, Bool.and_eq_true] at h
    simp only [List.map_cons, RepRow]
    exact ⟨x, xs, [], [], rfl, rfl, zOk1_rep h.1, zOk_rep h.2⟩

section
variable {P : Program} {o : Oper} {c : Ctx} {N : Nat} {st : St} {a : Act} {w : World} {own : Nat → List Nat}

abbrev Ok (P : Program) (c : Ctx) (N : Nat) (a : Act) (w : World) (o : Oper) (k : K) (Q : Exit → Act → World → Prop) : Prop :=
  o.wp P a w (fun a' w' => ∃ st', Sim c N st' a' w' ∧ k st') Q

variable {Q : Exit → Act → World → Prop}

theorem fin_value (hd : a.defers = []) (hs : Slots c N a) (hN : ∀ e, o.dst = some e → e < N ∧ c.fx e = none) {st1 : St} {w' : World} {own1 : Nat → List Nat} {lo1 : List Nat} {x : Value} {av : AV} {k : K}
    (hrun : (execOp a.eval o).run P w = .ok (.value x) w') (C : Core c st1 (tmOf a) w' own1 lo1) (hr : RepV w' (frz c w' (owned own1 lo1)) (locs st1 (tmOf a) w') av x lo1) (h : putS st1 o.dst av k) : Ok P c N a w o k Q := by
  unfold Ok Oper.wp
  rw [hrun]
  exact putS_sound hd hs C hr hN h

def asgV (st : St) (y : Opd) (d : Option Nat) (k : K) : Prop :=
  match ownO st y with
  | some (av, st') => putS st' d av k
  | none => False

theorem a_asg (S : Sim c N st a w) (hN : ∀ e, o.dst = some e → e < N ∧ c.fx e = none) {x : Operand} {y : Opd} (hx : mOpd x y = true) (ho : o.op = .move x ∨ o.op = .assign x) {k : K} (h : asgV st y o.dst k) : Ok P c N a w o k Q := by
  obtain ⟨own, C⟩ := S.core
  unfold asgV at h
  split at h
  · rename_i av st' hy
    obtain ⟨own', lo1, C', hr, _⟩ := own_sound C hx hy
    have hrun : (execOp a.eval o).run P w = .ok (.value (a.eval x)) w := by rcases ho with ho | ho <;> simp [execOp, ho]
    simp only [List.nil_append] at C' hr
    exact fin_value S.defers S.size hN hrun C' hr h
  · exact h.elim

/-- A new block for cells that are loose. -/
theorem core_new {st1 : St} {tm : Nat → Value} {w1 : World} {own1 : Nat → List Nat} {lo1 : List Nat} (C : Core c st1 tm w1 own1 lo1) (ob : Obj) :
    Core c st1 tm (w1.alloc ob) own1 (w1.heap.size :: lo1) ∧ Agree w1 (w1.alloc ob) (frz c w1 (owned own1 lo1)) (frz c (w1.alloc ob) (owned own1 (w1.heap.size :: lo1))) lo1 := by
  have hlt : ∀ b ∈ lo1, b < w1.heap.size := fun b hb => (C.old b (.inr hb)).2
  refine ⟨C.world (Ext.alloc _ _ _) ?_ ?_, ?_⟩
  · exact List.nodup_cons.2 ⟨fun h => Nat.lt_irrefl _ (hlt _ h), C.lnd⟩
  · intro b hb
    rcases List.mem_cons.1 hb with rfl | hb
    · exact ⟨.inr (Nat.le_refl _), by simp⟩
    · exact ⟨.inl hb, by have := hlt b hb; simp; omega⟩
  · refine agree_frz (W := []) (Ext.alloc _ _ _) ?_ (by simp) (fun b hb => ⟨hlt b hb, by simp⟩)
    rintro b (⟨k, hk⟩ | hb)
    · exact .inl (.inl ⟨k, hk⟩)
    · rcases List.mem_cons.1 hb with rfl | hb
      · exact .inr (Nat.le_refl _)
      · exact .inl (.inr hb)

theorem rep_box {st1 : St} {tm : Nat → Value} {w1 : World} {own1 : Nat → List Nat} {lo1 : List Nat} (C : Core c st1 tm w1 own1 lo1) {cs : List AV} {xs : List Value} {e : Nat} (hr : RepRow w1 (frz c w1 (owned own1 lo1)) cs xs lo1) :
    RepC (w1.alloc (.cells xs.toArray e)) (frz c (w1.alloc (.cells xs.toArray e)) (owned own1 (w1.heap.size :: lo1))) (.box e cs) (.pointer (some ⟨w1.heap.size, 0, none⟩)) (w1.heap.size :: lo1) := by
  obtain ⟨_, ag⟩ := core_new C (.cells xs.toArray e)
  simp only [RepC]
  exact ⟨w1.heap.size, xs, lo1, rfl, rfl, heap_alloc_new w1 _, hr.keep _ _ _ ag⟩

theorem rep_row {st1 : St} {tm : Nat → Value} {w1 : World} {own1 : Nat → List Nat} {lo1 : List Nat} (C : Core c st1 tm w1 own1 lo1) {l : List (List AV)} {xs rest : List Value} {e sz cp : Nat} (hcp : l.length ≤ cp) (hsz : cp * sz ≤ (xs ++ rest).length)
    (hr : RepRows w1 (frz c w1 (owned own1 lo1)) sz l xs lo1) :
    RepC (w1.alloc (.cells (xs ++ rest).toArray e)) (frz c (w1.alloc (.cells (xs ++ rest).toArray e)) (owned own1 (w1.heap.size :: lo1))) (.usl e sz l) (.slice (some ⟨w1.heap.size, 0, none⟩) l.length cp) (w1.heap.size :: lo1) := by
  obtain ⟨_, ag⟩ := core_new C (.cells (xs ++ rest).toArray e)
  simp only [RepC]
  refine .inr ⟨w1.heap.size, 0, cp, _, xs, lo1, by simp, rfl, heap_alloc_new w1 _, hcp, by simpa using hsz, hr.keep _ _ _ _ ag, ?_⟩
  intro j u hj
  have := cell_of_cells (heap_alloc_new w1 (.cells (xs ++ rest).toArray e)) j
  simp only [Nat.zero_mul, Nat.zero_add, this]
  simp only [List.getElem?_toArray]
  rw [List.getElem?_append_left (List.getElem?_eq_some_iff.1 hj).1]
  exact hj

def boxV (e : Nat) (st : St) (y : Opd) (d : Option Nat) (k : K) : Prop :=
  match ownO st y with
  | some (av, st') => match cellsS av with
    | some cs => putS st' d (.box e cs) k
    | none => False
  | none => False

theorem a_box (S : Sim c N st a w) (hN : ∀ e, o.dst = some e → e < N ∧ c.fx e = none) {e : Nat} {x : Operand} {y : Opd} (hx : mOpd x y = true) (ho : o.op = .box e x) {k : K} (h : boxV e st y o.dst k) : Ok P c N a w o k Q := by
  obtain ⟨own, C⟩ := S.core
  unfold boxV at h
  split at h
  · rename_i av st' hy
    split at h
    · rename_i cs hcs
      obtain ⟨own', lo1, C', hr, _⟩ := own_sound C hx hy
      simp only [List.nil_append] at C' hr
      obtain ⟨xs, hxs, hrow⟩ := stor_rep hr hcs
      have hrun : (execOp a.eval o).run P w = .ok (.value (.pointer (some ⟨w.heap.size, 0, none⟩))) (w.alloc (.cells xs.toArray e)) := by
        simp [execOp, ho, Instr.box, newVar, newRow, hxs]
      exact fin_value S.defers S.size hN hrun (core_new C' _).1 (rep_box C' hrow).toV h
    · exact h.elim
  · exact h.elim

def zeroOk (P : Program) (t : TypeId) (zs : List ZC) : Bool :=
  match P.info? t with
  | some i => (match i.zero with | some z => zOk zs z.cells.toList | none => false)
  | none => false

def allocV (e : Nat) (zs : List ZC) (st : St) (d : Option Nat) (k : K) : Prop := putS st d (.box e (zs.map ZC.av)) k

theorem a_alloc (S : Sim c N st a w) (hN : ∀ e, o.dst = some e → e < N ∧ c.fx e = none) {e : Nat} {zs : List ZC} (hz : zeroOk P e zs = true) (ho : o.op = .alloc e) {k : K} (h : allocV e zs st o.dst k) : Ok P c N a w o k Q := by
  obtain ⟨own, C⟩ := S.core
  unfold zeroOk at hz
  split at hz
  · rename_i i hi
    split at hz
    · rename_i z hzz
      have hrow : RepRow w (frz c w (owned own [])) (zs.map ZC.av) z.cells.toList [] := zOk_rep hz
      have hrun : (execOp a.eval o).run P w = .ok (.value (.pointer (some ⟨w.heap.size, 0, none⟩))) (w.alloc (.cells z.cells.toList.toArray e)) := by
        simp [execOp, ho, Instr.alloc, newVar, newRow, zeroValue, typeInfo, hi, hzz]
      exact fin_value S.defers S.size hN hrun (core_new C _).1 (rep_box C hrow).toV h
    · cases hz
  · cases hz
end
end Go.AM
