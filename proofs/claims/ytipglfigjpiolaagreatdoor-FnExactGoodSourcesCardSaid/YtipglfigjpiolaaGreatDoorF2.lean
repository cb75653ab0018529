/- Own framework: a verified machine over abstract values, part 2. No conditions. -/
import Derived.Test.YtipglfigjpiolaaGreatDoorF1
import Derived.Laws.BytesString
namespace Go.AM
set_option linter.unusedVariables false
set_option linter.unusedSimpArgs false
def storL : AV → Bool
  | .v _ => true
  | .fsl .. => true
  | .usl .. => true
  | .fptr _ => true
  | .box .. => true
  | _ => false
def cellsS : AV → Option (List AV)
  | .agg l => if l.all storL then some l else none
  | .v x => some [.v x]
  | .fsl sz l => some [.fsl sz l]
  | .usl e sz l => some [.usl e sz l]
  | .fptr c => some [.fptr c]
  | .box e c => some [.box e c]
  | _ => none
theorem RepVs.toRow {w : World} {Fz : Nat → Prop} {L : Locs} : ∀ {l : List AV} {xs : List Value} {o : List Nat}, RepVs w Fz L l xs o → l.all storL = true → RepRow w Fz l xs o
  | [], xs, o, h, _ => by simp only [RepVs] at h; simp only [RepRow]; exact h
  | c :: cs, xs, o, h, hl => by
    simp only [RepVs] at h
    obtain ⟨x, xs', o1, o2, hx, ho, hc, hr⟩ := h
    simp only [List.all_cons, Bool.and_eq_true] at hl
    simp only [RepRow]
    refine ⟨x, xs', o1, o2, hx, ho, ?_, RepVs.toRow hr hl.2⟩
    cases c <;> simp [storL] at hl <;> (simp only [RepV] at hc; exact hc)
theorem stor_rep {w : World} {Fz : Nat → Prop} {L : Locs} {av : AV} {x : Value} {o : List Nat} {cs : List AV} (h : RepV w Fz L av x o) (hc : cellsS av = some cs) : ∃ xs, x.cells = xs.toArray ∧ RepRow w Fz cs xs o := by
  have leaf : ∀ av, RepC w Fz av x o → cs = [av] → ∃ xs, x.cells = xs.toArray ∧ RepRow w Fz cs xs o := by
    intro av h hcs
    subst hcs
    have h1 := h.one
    have hx : x.cells = #[x] := by cases x <;> first | rfl | (simp [Value.oneCell'] at h1)
    exact ⟨[x], hx, by simp only [RepRow]; exact ⟨x, [], o, [], rfl, by simp, h, rfl, rfl⟩⟩
  cases av with
  | agg l =>
    simp only [cellsS] at hc
    split at hc
    · rename_i hl
      cases hc
      simp only [RepV] at h
      obtain ⟨xs, rfl, hr⟩ := h
      exact ⟨xs, rfl, hr.toRow hl⟩
    · cases hc
  | v y => simp only [cellsS, Option.some.injEq] at hc; simp only [RepV] at h; exact leaf _ h hc.symm
  | fsl sz l => simp only [cellsS, Option.some.injEq] at hc; simp only [RepV] at h; exact leaf _ h hc.symm
  | usl e sz l => simp only [cellsS, Option.some.injEq] at hc; simp only [RepV] at h; exact leaf _ h hc.symm
  | fptr c => simp only [cellsS, Option.some.injEq] at hc; simp only [RepV] at h; exact leaf _ h hc.symm
  | box e c => simp only [cellsS, Option.some.injEq] at hc; simp only [RepV] at h; exact leaf _ h hc.symm
  | _ => simp [cellsS] at hc
inductive ZC where
  | v (x : Value)
  | s (e sz : Nat)
  | f (sz : Nat)
def ZC.av : ZC → AV
  | .v x => .v x
  | .s e sz => .usl e sz []
  | .f sz => .fsl sz []
def zOk1 : ZC → Value → Bool
  | .v (.int k a), .int k' b => k == k' && a == b
  | .v (.bool a), .bool b => a == b
  | .v (.string a), .string b => a.data.toList == b.data.toList
  | .v (.pointer none), .pointer none => true
  | .v .nilIface, .nilIface => true
  | .v .nilFunc, .nilFunc => true
  | .v (.map none), .map none => true
  | .s _ _, .slice none 0 0 => true
  | .f _, .slice none 0 0 => true
  | _, _ => false
def zOk : List ZC → List Value → Bool
  | [], [] => true
  | z :: zs, x :: xs => zOk1 z x && zOk zs xs
  | _, _ => false
theorem zOk1_rep {w : World} {Fz : Nat → Prop} {z : ZC} {x : Value} (h : zOk1 z x = true) : RepC w Fz z.av x [] := by
  unfold zOk1 at h
  split at h
  · simp only [Bool.and_eq_true, beq_iff_eq] at h; obtain ⟨rfl, rfl⟩ := h; simp [ZC.av, RepC, Value.oneCell']
  · simp only [beq_iff_eq] at h; subst h; simp [ZC.av, RepC, Value.oneCell']
  · rename_i s s'; simp only [beq_iff_eq] at h
    obtain rfl : s = s' := (by cases s; cases s'; simp only [ByteArray.mk.injEq]; exact Array.toList_inj.1 h)
    simp [ZC.av, RepC, Value.oneCell']
  · simp [ZC.av, RepC, Value.oneCell']
  · simp [ZC.av, RepC, Value.oneCell']
  · simp [ZC.av, RepC, Value.oneCell']
  · simp [ZC.av, RepC, Value.oneCell']
  · simp [ZC.av, RepC]
  · simp [ZC.av, RepC]
  · cases h
theorem zOk_rep {w : World} {Fz : Nat → Prop} : ∀ {zs : List ZC} {xs : List Value}, zOk zs xs = true → RepRow w Fz (zs.map ZC.av) xs []
  | [], [], _ => by simp [RepRow]
  | [], x :: xs, h => by simp [zOk] at h
  | z :: zs, [], h => by simp [zOk] at h
  | z :: zs, x :: xs, h => by
    simp only [zOk, Bool.and_eq_true] at h
    simp only [List.map_cons, RepRow]
    exact ⟨x, xs, [], [], rfl, rfl, zOk1_rep h.1, zOk_rep h.2⟩
section
variable {P : Program} {o : Oper} {c : Ctx} {N : Nat} {st : St} {a : Act} {w : World} {own : Nat → List Nat}
abbrev Ok (P : Program) (c : Ctx) (N : Nat) (a : Act) (w : World) (o : Oper) (k : K) (Q : Exit → Act → World → Prop) : Prop :=
  o.wp P a w (fun a' w' => ∃ st', Sim c N st' a' w' ∧ k st') Q
variable {Q : Exit → Act → World → Prop}
theorem fin_value (hd : a.defers = []) (hs : Slots c N a) (hN : ∀ e, o.dst = some e → e < N ∧ c.fx e = none) {st1 : St} {w' : World} {own1 : Nat → List Nat} {lo1 : List Nat} {x : Value} {av : AV} {k : K}
    (hrun : (execOp a.eval o).run P w = .ok (.value x) w') (C : Core c st1 (tmOf a) w' own1 lo1) (hr : RepV w' (frz c w' (owned own1 lo1)) (locs st1 (tmOf a) w') av x lo1) (h : putS st1 o.dst av k) : Ok P c N a w o k Q := by
  unfold Ok Oper.wp
  rw [hrun]
  exact putS_sound hd hs C hr hN h
def asgV (st : St) (y : Opd) (d : Option Nat) (k : K) : Prop :=
  match ownO st y with
  | some (av, st') => putS st' d av k
  | none => False
theorem a_asg (S : Sim c N st a w) (hN : ∀ e, o.dst = some e → e < N ∧ c.fx e = none) {x : Operand} {y : Opd} (hx : mOpd x y = true) (ho : o.op = .move x ∨ o.op = .assign x) {k : K} (h : asgV st y o.dst k) : Ok P c N a w o k Q := by
  obtain ⟨own, C⟩ := S.core
  unfold asgV at h
  split at h
  · rename_i av st' hy
    obtain ⟨own', lo1, C', hr, _⟩ := own_sound C hx hy
    have hrun : (execOp a.eval o).run P w = .ok (.value (a.eval x)) w := by rcases ho with ho | ho <;> simp [execOp, ho]
    simp only [List.nil_append] at C' hr
    exact fin_value S.defers S.size hN hrun C' hr h
  · exact h.elim
theorem core_new {st1 : St} {tm : Nat → Value} {w1 : World} {own1 : Nat → List Nat} {lo1 : List Nat} (C : Core c st1 tm w1 own1 lo1) (ob : Obj) :
    Core c st1 tm (w1.alloc ob) own1 (w1.heap.size :: lo1) ∧ Agree w1 (w1.alloc ob) (frz c w1 (owned own1 lo1)) (frz c (w1.alloc ob) (owned own1 (w1.heap.size :: lo1))) lo1 := by
  have hlt : ∀ b ∈ lo1, b < w1.heap.size := fun b hb => (C.old b (.inr hb)).2
  refine ⟨C.world (Ext.alloc _ _ _) ?_ ?_, ?_⟩
  · exact List.nodup_cons.2 ⟨fun h => Nat.lt_irrefl _ (hlt _ h), C.lnd⟩
  · intro b hb
    rcases List.mem_cons.1 hb with rfl | hb
    · exact ⟨.inr (Nat.le_refl _), by simp⟩
    · exact ⟨.inl hb, by have := hlt b hb; simp; omega⟩
  · refine agree_frz (W := []) (Ext.alloc _ _ _) ?_ (by simp) (fun b hb => ⟨hlt b hb, by simp⟩)
    rintro b (⟨k, hk⟩ | hb)
    · exact .inl (.inl ⟨k, hk⟩)
    · rcases List.mem_cons.1 hb with rfl | hb
      · exact .inr (Nat.le_refl _)
      · exact .inl (.inr hb)
theorem rep_box {st1 : St} {tm : Nat → Value} {w1 : World} {own1 : Nat → List Nat} {lo1 : List Nat} (C : Core c st1 tm w1 own1 lo1) {cs : List AV} {xs : List Value} {e : Nat} (hr : RepRow w1 (frz c w1 (owned own1 lo1)) cs xs lo1) :
    RepC (w1.alloc (.cells xs.toArray e)) (frz c (w1.alloc (.cells xs.toArray e)) (owned own1 (w1.heap.size :: lo1))) (.box e cs) (.pointer (some ⟨w1.heap.size, 0, none⟩)) (w1.heap.size :: lo1) := by
  obtain ⟨_, ag⟩ := core_new C (.cells xs.toArray e)
  simp only [RepC]
  exact ⟨w1.heap.size, xs, lo1, rfl, rfl, heap_alloc_new w1 _, hr.keep _ _ _ ag⟩
theorem rep_row {st1 : St} {tm : Nat → Value} {w1 : World} {own1 : Nat → List Nat} {lo1 : List Nat} (C : Core c st1 tm w1 own1 lo1) {l : List (List AV)} {xs rest : List Value} {e sz cp : Nat} (hcp : l.length ≤ cp) (hsz : cp * sz ≤ (xs ++ rest).length)
    (hr : RepRows w1 (frz c w1 (owned own1 lo1)) sz l xs lo1) :
    RepC (w1.alloc (.cells (xs ++ rest).toArray e)) (frz c (w1.alloc (.cells (xs ++ rest).toArray e)) (owned own1 (w1.heap.size :: lo1))) (.usl e sz l) (.slice (some ⟨w1.heap.size, 0, none⟩) l.length cp) (w1.heap.size :: lo1) := by
  obtain ⟨_, ag⟩ := core_new C (.cells (xs ++ rest).toArray e)
  simp only [RepC]
  refine .inr ⟨w1.heap.size, 0, cp, _, xs, lo1, by simp, rfl, heap_alloc_new w1 _, hcp, by simpa using hsz, hr.keep _ _ _ _ ag, ?_⟩
  intro j u hj
  have := cell_of_cells (heap_alloc_new w1 (.cells (xs ++ rest).toArray e)) j
  simp only [Nat.zero_mul, Nat.zero_add, this]
  simp only [List.getElem?_toArray]
  rw [List.getElem?_append_left (List.getElem?_eq_some_iff.1 hj).1]
  exact hj
def boxV (e : Nat) (st : St) (y : Opd) (d : Option Nat) (k : K) : Prop :=
  match ownO st y with
  | some (av, st') => match cellsS av with
    | some cs => putS st' d (.box e cs) k
    | none => False
  | none => False
theorem a_box (S : Sim c N st a w) (hN : ∀ e, o.dst = some e → e < N ∧ c.fx e = none) {e : Nat} {x : Operand} {y : Opd} (hx : mOpd x y = true) (ho : o.op = .box e x) {k : K} (h : boxV e st y o.dst k) : Ok P c N a w o k Q := by
  obtain ⟨own, C⟩ := S.core
  unfold boxV at h
  split at h
  · rename_i av st' hy
    split at h
    · rename_i cs hcs
      obtain ⟨own', lo1, C', hr, _⟩ := own_sound C hx hy
      simp only [List.nil_append] at C' hr
      obtain ⟨xs, hxs, hrow⟩ := stor_rep hr hcs
      have hrun : (execOp a.eval o).run P w = .ok (.value (.pointer (some ⟨w.heap.size, 0, none⟩))) (w.alloc (.cells xs.toArray e)) := by
        simp [execOp, ho, Instr.box, newVar, newRow, hxs]
      exact fin_value S.defers S.size hN hrun (core_new C' _).1 (rep_box C' hrow).toV h
    · exact h.elim
  · exact h.elim
def zeroOk (P : Program) (t : TypeId) (zs : List ZC) : Bool :=
  match P.info? t with
  | some i => (match i.zero with | some z => zOk zs z.cells.toList | none => false)
  | none => false
def allocV (e : Nat) (zs : List ZC) (st : St) (d : Option Nat) (k : K) : Prop := putS st d (.box e (zs.map ZC.av)) k
theorem a_alloc (S : Sim c N st a w) (hN : ∀ e, o.dst = some e → e < N ∧ c.fx e = none) {e : Nat} {zs : List ZC} (hz : zeroOk P e zs = true) (ho : o.op = .alloc e) {k : K} (h : allocV e zs st o.dst k) : Ok P c N a w o k Q := by
  obtain ⟨own, C⟩ := S.core
  unfold zeroOk at hz
  split at hz
  · rename_i i hi
    split at hz
    · rename_i z hzz
      have hrow : RepRow w (frz c w (owned own [])) (zs.map ZC.av) z.cells.toList [] := zOk_rep hz
      have hrun : (execOp a.eval o).run P w = .ok (.value (.pointer (some ⟨w.heap.size, 0, none⟩))) (w.alloc (.cells z.cells.toList.toArray e)) := by
        simp [execOp, ho, Instr.alloc, newVar, newRow, zeroValue, typeInfo, hi, hzz]
      exact fin_value S.defers S.size hN hrun (core_new C _).1 (rep_box C hrow).toV h
    · cases hz
  · cases hz
end
end Go.AM
namespace Go.AM
set_option linter.unusedVariables false
set_option linter.unusedSimpArgs false
def ovw {α : Type} (xs : List α) (off : Nat) (vs : List α) : List α := xs.take off ++ (vs ++ xs.drop (off + vs.length))
theorem ovw_length {α : Type} {xs vs : List α} {off : Nat} (h : off + vs.length ≤ xs.length) : (ovw xs off vs).length = xs.length := by
  simp [ovw]; omega
theorem fold_set (off : Nat) : ∀ (vs : List Value) (j : Nat) (cells : List Value), off + j + vs.length ≤ cells.length →
    ((vs.zipIdx j).foldl (fun (cs : Array Value) (p : Value × Nat) => cs.setIfInBounds (off + p.2) p.1) cells.toArray) = (ovw cells (off + j) vs).toArray
  | [], j, cells, h => by simp [ovw]
  | v :: vs, j, cells, h => by
    simp only [List.length_cons] at h
    simp only [List.zipIdx_cons, List.foldl_cons, List.setIfInBounds_toArray]
    rw [fold_set off vs (j + 1) _ (by simp; omega)]
    congr 1
    have e1 : (cells.set (off + j) v).take (off + (j + 1)) = cells.take (off + j) ++ [v] := by
      rw [← Nat.add_assoc, List.take_add_one, List.take_set_of_le (Nat.le_refl _)]
      simp [show off + j < cells.length from by omega]
    have e2 : (cells.set (off + j) v).drop (off + (j + 1) + vs.length) = cells.drop (off + j + (vs.length + 1)) := by
      rw [List.drop_set_of_lt (by omega)]
      congr 1; omega
    simp only [ovw, e1, e2, List.length_cons, List.append_assoc, List.singleton_append, List.cons_append, List.nil_append]
theorem run_fill {place : Nat → Option (Nat × Nat)} : ∀ (ps : List (Nat × Value)) (offs : List Nat) (cells : List Value), ps.length = offs.length →
    (∀ (j : Nat) (p : Nat × Value) (off : Nat), ps[j]? = some p → offs[j]? = some off → place p.1 = some (off, p.2.cells.size) ∧ off + p.2.cells.size ≤ cells.length) →
    Instr.fill place cells.toArray ps = some ((offs.zip ps).foldl (fun cs (q : Nat × (Nat × Value)) => ovw cs q.1 q.2.2.cells.toList) cells).toArray
  | [], [], cells, _, _ => by simp [Instr.fill]
  | [], off :: offs, cells, hl, _ => by simp at hl
  | p :: ps, [], cells, hl, _ => by simp at hl
  | (i, v) :: ps, off :: offs, cells, hl, hp => by
    obtain ⟨hp0, hb⟩ := hp 0 (i, v) off (by simp) (by simp)
    simp only at hp0 hb
    have hcl : v.cells.toList.length = v.cells.size := by simp
    have hf := fold_set off v.cells.toList 0 cells (by rw [hcl]; omega)
    simp only [Instr.fill, hp0, ne_eq, not_true_eq_false, decide_false, Bool.false_or, List.size_toArray]
    rw [if_neg (by simpa using hb)]
    have e : (v.cells.zipIdx.foldl (fun (cs : Array Value) (x : Value × Nat) => cs.setIfInBounds (off + x.2) x.1) cells.toArray) = (ovw cells off v.cells.toList).toArray := by
      rw [← Array.foldl_toList, Array.toList_zipIdx]
      simpa using hf
    have e' : (Array.foldl (fun cs x => match x with | (c, j) => cs.setIfInBounds (off + j) c) cells.toArray v.cells.zipIdx) = (ovw cells off v.cells.toList).toArray := e
    rw [e', run_fill ps offs _ (by simpa using hl)]
    · simp
    · intro j p off' h1 h2
      have := hp (j + 1) p off' (by simpa using h1) (by simpa using h2)
      rw [ovw_length (by rw [hcl]; exact hb)]
      exact this
theorem RepRow.laid {w : World} {Fz : Nat → Prop} {cs ps : List AV} {xs vs : List Value} {o q : List Nat} (h : RepRow w Fz cs xs o) (k : RepRow w Fz ps vs q) {off : Nat} (hb : off + ps.length ≤ cs.length) :
    ∃ o', RepRow w Fz (Go.AM.ovw cs off ps) (Go.AM.ovw xs off vs) o' ∧ (∀ b ∈ o', b ∈ o ∨ b ∈ q) ∧ ((o ++ q).Nodup → o'.Nodup) := by
  obtain ⟨o1, o2, ho, h1, h2⟩ := h.split off (by omega)
  obtain ⟨o3, o4, ho', _, h4⟩ := h2.split ps.length (by simp; omega)
  subst ho ho'
  simp only [List.drop_drop] at h4
  have hv : vs.length = ps.length := k.length
  refine ⟨o1 ++ (q ++ o4), ?_, ?_, ?_⟩
  · simp only [Go.AM.ovw, hv]
    exact h1.append (k.append h4)
  · intro b hb
    simp only [List.mem_append] at hb ⊢
    rcases hb with h | h | h <;> simp [h]
  · intro hn
    have hp : (o1 ++ (q ++ o4)).Sublist (o1 ++ (q ++ o4)) := List.Sublist.refl _
    rw [List.nodup_append] at hn
    obtain ⟨hn1, hn2, hn3⟩ := hn
    rw [List.nodup_append] at hn1
    obtain ⟨h5, h6, h7⟩ := hn1
    rw [List.nodup_append] at h6
    obtain ⟨h8, h9, h10⟩ := h6
    rw [List.nodup_append]
    refine ⟨h5, ?_, ?_⟩
    · rw [List.nodup_append]
      exact ⟨hn2, h9, fun a ha b hb e => hn3 b (by simp [hb]) a ha e.symm⟩
    · intro a ha b hb e
      rcases List.mem_append.1 hb with hb | hb
      · exact hn3 a (by simp [ha]) b hb e
      · exact h7 a ha b (by simp [hb]) e
def pullS (st : St) : List Opd → Option (List (List AV) × St)
  | [] => some ([], st)
  | y :: ys => match ownO st y with
    | some (av, st1) => match cellsS av with
      | some cs => (pullS st1 ys).map fun r => (cs :: r.1, r.2)
      | none => none
    | none => none
def RepL (w : World) (Fz : Nat → Prop) : List (List AV) → List Value → List Nat → Prop
  | [], xs, o => xs = [] ∧ o = []
  | cs :: css, xs, o => ∃ x xs' vs o1 o2, xs = x :: xs' ∧ o = o1 ++ o2 ∧ x.cells = vs.toArray ∧ RepRow w Fz cs vs o1 ∧ RepL w Fz css xs' o2
theorem frz_sub {c : Ctx} {w : World} {X X' : Nat → Prop} {oo : List Nat} (h : ∀ b, X' b → X b) : Agree w w (frz c w X) (frz c w X') oo :=
  ⟨fun b hb => ⟨⟨hb.1, hb.2.1, fun hx => hb.2.2 (h b hx)⟩, rfl⟩, fun _ _ => rfl⟩
theorem pull_sound {c : Ctx} {a : Act} {w : World} : ∀ {xs : List Operand} {ys : List Opd} {st st' : St} {own : Nat → List Nat} {lo : List Nat} {css : List (List AV)}, Core c st (tmOf a) w own lo →
    (xs.length == ys.length && (xs.zip ys).all fun p => mOpd p.1 p.2) = true → pullS st ys = some (css, st') →
    ∃ own' lo1, Core c st' (tmOf a) w own' (lo ++ lo1) ∧ RepL w (frz c w (owned own' (lo ++ lo1))) css (xs.map a.eval) lo1 ∧ ∀ b, owned own' (lo ++ lo1) b → owned own lo b
  | [], [], st, st', own, lo, css, C, _, h => by
    simp only [pullS, Option.some.injEq, Prod.mk.injEq] at h
    obtain ⟨rfl, rfl⟩ := h
    exact ⟨own, [], by simpa using C, by simp [RepL], fun b hb => by simpa using hb⟩
  | [], y :: ys, st, st', own, lo, css, C, hm, h => by simp at hm
  | x :: xs, [], st, st', own, lo, css, C, hm, h => by simp at hm
  | x :: xs, y :: ys, st, st', own, lo, css, C, hm, h => by
    simp only [List.length_cons, Bool.and_eq_true, beq_iff_eq, List.zip_cons_cons, List.all_cons] at hm
    simp only [pullS] at h
    split at h
    · rename_i av st1 hy
      split at h
      · rename_i cs hcs
        simp only [Option.map_eq_some_iff] at h
        obtain ⟨⟨css', st2⟩, hp, he⟩ := h
        simp only [Prod.mk.injEq] at he
        obtain ⟨rfl, rfl⟩ := he
        obtain ⟨own1, lo1, C1, hr1, hX1⟩ := own_sound C hm.2.1 hy
        obtain ⟨vs, hvs, hrow⟩ := stor_rep hr1 hcs
        obtain ⟨own2, lo2, C2, hr2, hX2⟩ := pull_sound C1 (by simp only [Bool.and_eq_true, beq_iff_eq]; exact ⟨by omega, hm.2.2⟩) hp
        refine ⟨own2, lo1 ++ lo2, by rw [← List.append_assoc]; exact C2, ?_, ?_⟩
        · simp only [List.map_cons, RepL]
          rw [← List.append_assoc]
          exact ⟨a.eval x, _, vs, lo1, lo2, rfl, rfl, hvs, hrow.keep _ _ _ (frz_sub hX2), hr2⟩
        · rw [← List.append_assoc]
          exact fun b hb => hX1 b (hX2 b hb)
      · cases h
    · cases h
theorem RepL.len {w : World} {Fz : Nat → Prop} : ∀ {css : List (List AV)} {xs : List Value} {o : List Nat}, RepL w Fz css xs o → xs.length = css.length
  | [], xs, o, h => by simp only [RepL] at h; simp [h.1]
  | cs :: css, xs, o, h => by
    simp only [RepL] at h
    obtain ⟨x, xs', vs, o1, o2, hx, ho, hc, hr, hl⟩ := h
    subst hx
    simp [hl.len]
theorem RepL.size {w : World} {Fz : Nat → Prop} : ∀ {css : List (List AV)} {xs : List Value} {o : List Nat}, RepL w Fz css xs o → xs.map (fun x => x.cells.size) = css.map List.length
  | [], xs, o, h => by simp only [RepL] at h; simp [h.1]
  | cs :: css, xs, o, h => by
    simp only [RepL] at h
    obtain ⟨x, xs', vs, o1, o2, hx, ho, hc, hr, hl⟩ := h
    subst hx
    simp [hl.size, hc, hr.length]
theorem RepRow.folded {w : World} {Fz : Nat → Prop} {n : Nat} : ∀ {css : List (List AV)} {ys : List Value} {offs szs : List Nat} {cs : List AV} {xs : List Value} {o q : List Nat}, RepRow w Fz cs xs o → RepL w Fz css ys q → cs.length = n → css.map List.length = szs →
    ((offs.zip szs).all fun p => p.1 + p.2 ≤ n) = true → (o ++ q).Nodup →
    ∃ o', RepRow w Fz ((offs.zip css).foldl (fun cs p => ovw cs p.1 p.2) cs) ((offs.zip ys).foldl (fun cs p => ovw cs p.1 p.2.cells.toList) xs) o' ∧ (∀ b ∈ o', b ∈ o ∨ b ∈ q) ∧ o'.Nodup
  | [], ys, offs, szs, cs, xs, o, q, h, k, hn, hs, hb, hd => by
    simp only [RepL] at k
    obtain ⟨rfl, rfl⟩ := k
    exact ⟨o, by simpa using h, fun b hb => .inl hb, by simpa using hd⟩
  | c :: css, ys, [], szs, cs, xs, o, q, h, k, hn, hs, hb, hd => ⟨o, by simpa using h, fun b hb => .inl hb, (List.nodup_append.1 hd).1⟩
  | c :: css, ys, off :: offs, szs, cs, xs, o, q, h, k, hn, hs, hb, hd => by
    simp only [RepL] at k
    obtain ⟨y, ys', vs, o1, o2, rfl, rfl, hc, hr, hl⟩ := k
    subst hs
    simp only [List.map_cons, List.zip_cons_cons, List.all_cons, Bool.and_eq_true, decide_eq_true_eq] at hb
    obtain ⟨o3, h3, hm3, hd3⟩ := h.laid hr (off := off) (by omega)
    rw [← List.append_assoc] at hd
    have hd1 := List.nodup_append.1 hd
    obtain ⟨o4, h4, hm4, hd4⟩ := RepRow.folded (offs := offs) h3 hl (by rw [ovw_length (by omega)]; exact hn) rfl hb.2 (by
      rw [List.nodup_append]
      refine ⟨hd3 hd1.1, hd1.2.1, fun a ha b hb' e => hd1.2.2 a ?_ b hb' e⟩
      rcases hm3 a ha with h | h <;> simp [h])
    refine ⟨o4, ?_, ?_, hd4⟩
    · simp only [List.zip_cons_cons, List.foldl_cons, hc]
      exact h4
    · intro b hb'
      rcases hm4 b hb' with h | h
      · rcases hm3 b h with h | h
        · exact .inl h
        · exact .inr (by simp [h])
      · exact .inr (by simp [h])
section
variable {P : Program} {o : Oper} {c : Ctx} {N : Nat} {st : St} {a : Act} {w : World} {own : Nat → List Nat} {Q : Exit → Act → World → Prop}
def buildV (zs : List ZC) (offs szs : List Nat) (ys : List Opd) (st : St) (d : Option Nat) (k : K) : Prop :=
  match pullS st ys with
  | some (css, st') => css.map List.length = szs ∧ putS st' d (.agg ((offs.zip css).foldl (fun cs p => ovw cs p.1 p.2) (zs.map ZC.av))) k
  | none => False
def buildOk (P : Program) (t : TypeId) (ix offs szs : List Nat) (zs : List ZC) : Bool :=
  zeroOk P t zs && ((offs.zip szs).all fun p => p.1 + p.2 ≤ zs.length) && ix.length == offs.length && szs.length == offs.length &&
  match P.underlying t with
  | some (.struct fs) => (fs.toList.all fun fd => (P.info? fd.type).isSome) && (ix.zip (offs.zip szs)).all fun q => (fs[q.1]?).any fun fd => fd.offset == q.2.1 && (P.info? fd.type).map (·.size) == some q.2.2
  | some (.array _ e) => match P.info? e with
    | some i => (ix.zip (offs.zip szs)).all fun q => q.2.1 == q.1 * i.size && q.2.2 == i.size
    | none => false
  | _ => false
theorem places_ok {P : Program} {w : World} : ∀ (fs : List Field) (szs : List Nat), (∀ (j : Nat) (f : Field), fs[j]? = some f → ∃ s, (P.info? f.type).map (·.size) = some s) →
    ∃ ps : List (Nat × Nat), ((fs.mapM (m := Sem) fun f => do pure (f.offset, ← sizeOf f.type)).run P w = .ok ps w) ∧ ∀ (j : Nat) (f : Field) (s : Nat), fs[j]? = some f → (P.info? f.type).map (·.size) = some s → ps[j]? = some (f.offset, s)
  | [], szs, _ => ⟨[], by simp, by simp⟩
  | f :: fs, szs, h => by
    obtain ⟨s, hs⟩ := h 0 f (by simp)
    obtain ⟨ps, hp, hq⟩ := places_ok (w := w) fs szs (fun j f' hj => h (j + 1) f' (by simpa using hj))
    simp only [Option.map_eq_some_iff] at hs
    obtain ⟨i, hi, hsz⟩ := hs
    refine ⟨(f.offset, s) :: ps, ?_, ?_⟩
    · have e : (sizeOf f.type).run P w = .ok s w := by simp [sizeOf, typeInfo, hi, hsz]
      simp only [List.mapM_cons, Sem.run_bind, e, Result.andThen_ok, Sem.run_pure, hp]
    · intro j f' s' hj hs'
      cases j with
      | zero => simp at hj; subst hj; rw [hi] at hs'; simp at hs'; simp [← hs', hsz]
      | succ j => simpa using hq j f' s' (by simpa using hj) hs'
theorem a_build (S : Sim c N st a w) (hN : ∀ e, o.dst = some e → e < N ∧ c.fx e = none) {t : TypeId} {ix offs szs : List Nat} {zs : List ZC} {xs : List Operand} {ys : List Opd} (hx : (xs.length == ys.length && (xs.zip ys).all fun p => mOpd p.1 p.2) = true)
    (hix : ix.length = xs.length) (ho : o.op = .build t (ix.zip xs).toArray) (hok : buildOk P t ix offs szs zs = true) {k : K} (h : buildV zs offs szs ys st o.dst k) : Ok P c N a w o k Q := by
  obtain ⟨own, C⟩ := S.core
  unfold buildV at h
  split at h
  rotate_left
  · exact h.elim
  rename_i css st' hp
  obtain ⟨hlen, h⟩ := h
  obtain ⟨own', lo1, C', hr, _⟩ := pull_sound C hx hp
  simp only [List.nil_append] at C' hr
  simp only [buildOk, Bool.and_eq_true, beq_iff_eq] at hok
  obtain ⟨⟨⟨⟨hz, hb⟩, hil⟩, hsl⟩, hst⟩ := hok
  unfold zeroOk at hz
  split at hz
  rotate_left
  · cases hz
  rename_i i hi
  split at hz
  rotate_left
  · cases hz
  rename_i z hzz
  have hrow : RepRow w (frz c w (owned own' lo1)) (zs.map ZC.av) z.cells.toList [] := zOk_rep hz
  obtain ⟨o', h', hm, hd⟩ := hrow.folded (offs := offs) (n := zs.length) hr (by simp) hlen hb (by simpa using C'.lnd)
  have C2 := C'.world (lo' := o') (Ext.refl w _) hd (fun b hb => by
    rcases hm b hb with h | h
    · simp at h
    · exact ⟨.inl h, (C'.old b (.inr h)).2⟩)
  have hX2 : ∀ b, owned own' o' b → owned own' lo1 b := by
    rintro b (⟨k, hk⟩ | hb)
    · exact .inl ⟨k, hk⟩
    · rcases hm b hb with h | h
      · simp at h
      · exact .inr h
  have hlx : xs.length = offs.length := by omega
  have hsize := hr.size
  rw [hlen] at hsize
  have hfill : ∀ (place : Nat → Option (Nat × Nat)), (∀ q ∈ ix.zip (offs.zip szs), place q.1 = some (q.2.1, q.2.2)) →
      Instr.fill place z.cells.toList.toArray (ix.zip (xs.map a.eval)) = some ((offs.zip (xs.map a.eval)).foldl (fun cs p => ovw cs p.1 p.2.cells.toList) z.cells.toList).toArray := by
    intro place hplace
    rw [run_fill (ix.zip (xs.map a.eval)) offs]
    · congr 2
      have : offs.zip (xs.map a.eval) = (offs.zip (ix.zip (xs.map a.eval))).map fun q => (q.1, q.2.2) := by
        apply List.ext_getElem?
        intro j
        simp only [List.getElem?_zip_eq_some, List.getElem?_map, List.zip_eq_zipWith, List.getElem?_zipWith]
        by_cases hj : j < offs.length
        · have h1 : j < xs.length := by omega
          have h2 : j < ix.length := by omega
          simp [hj, h1, h2]
        · have h1 : ¬ j < xs.length := by omega
          simp [hj, h1]
      rw [this, List.foldl_map]
    · simp; omega
    · rintro j ⟨i', v⟩ off h1 h2
      rw [List.getElem?_zip_eq_some] at h1
      obtain ⟨h3, h4⟩ := h1
      have h5 : szs[j]? = some v.cells.size := by rw [← hsize, List.getElem?_map, h4]; rfl
      have h6 : (ix.zip (offs.zip szs))[j]? = some (i', off, v.cells.size) := by
        rw [List.getElem?_zip_eq_some]; exact ⟨h3, by rw [List.getElem?_zip_eq_some]; exact ⟨h2, h5⟩⟩
      have h7 := hplace _ (List.mem_of_getElem? h6)
      refine ⟨h7, ?_⟩
      have h9 : (offs.zip szs)[j]? = some (off, v.cells.size) := by rw [List.getElem?_zip_eq_some]; exact ⟨h2, h5⟩
      have h10 := (List.all_eq_true.1 hb) _ (List.mem_of_getElem? h9)
      simp only [decide_eq_true_eq] at h10
      have h11 := hrow.length
      rw [List.length_map] at h11
      rw [h11]; exact h10
  have hparts : ((ix.zip xs).toArray.map fun (p : Nat × Operand) => (p.1, a.eval p.2)).toList = ix.zip (xs.map a.eval) := by
    simp only [List.map_toArray]
    rw [List.zip_map_right]
    rfl
  have hparts' : (Array.map (fun x => match x with | (i, x) => (i, a.eval x)) (ix.zip xs).toArray).toList = ix.zip (xs.map a.eval) := hparts
  have hrun : (execOp a.eval o).run P w = .ok (.value (.agg ((offs.zip (xs.map a.eval)).foldl (fun cs p => ovw cs p.1 p.2.cells.toList) z.cells.toList).toArray)) w := by
    split at hst
    · rename_i fs hu
      simp only [Bool.and_eq_true, List.all_eq_true] at hst
      obtain ⟨hall, hst⟩ := hst
      obtain ⟨ps, hps, hpq⟩ := places_ok (P := P) (w := w) fs.toList szs (fun j f hj => by
        have := hall f (List.mem_of_getElem? hj)
        obtain ⟨i, hi⟩ := Option.isSome_iff_exists.1 this
        exact ⟨i.size, by simp [hi]⟩)
      have hps' : (fs.mapM (m := Sem) fun f => do pure (f.offset, ← sizeOf f.type)).run P w = .ok ps.toArray w := by
        rw [Array.mapM_eq_mapM_toList]
        simp only [Sem.run_map, hps, Result.andThen_ok]
      have hf2 : Instr.fill (fun i => ps.toArray[i]?) z.cells (ix.zip (xs.map a.eval)) = some ((offs.zip (xs.map a.eval)).foldl (fun cs p => ovw cs p.1 p.2.cells.toList) z.cells.toList).toArray := by
        have := hfill (fun i => ps.toArray[i]?) (by
          rintro ⟨i', off, s⟩ hq
          have h7 := hst _ hq
          simp only [Option.any_eq_true, Bool.and_eq_true, beq_iff_eq] at h7
          obtain ⟨fd, hfd, hoff, hsz⟩ := h7
          have h8 := hpq i' fd s (by simpa using hfd) hsz
          simp only [List.getElem?_toArray]
          rw [h8, hoff])
        simpa using this
      simp only [execOp, ho, Instr.build, Sem.run_bind, zeroValue, typeInfo, run_program, Result.andThen_ok, hi, Sem.run_pure, hzz, run_underlying hu, hps', hparts']
      rw [hf2]
      simp
    · rename_i n e hu
      split at hst
      rotate_left
      · cases hst
      rename_i ie hie
      simp only [List.all_eq_true, Bool.and_eq_true, beq_iff_eq] at hst
      have hf2 : Instr.fill (fun i => some (i * ie.size, ie.size)) z.cells (ix.zip (xs.map a.eval)) = some ((offs.zip (xs.map a.eval)).foldl (fun cs p => ovw cs p.1 p.2.cells.toList) z.cells.toList).toArray := by
        have := hfill (fun i => some (i * ie.size, ie.size)) (by
          rintro ⟨i', off, s⟩ hq
          have h7 := hst _ hq
          simp only at h7
          rw [h7.1, h7.2])
        simpa using this
      have hse : (sizeOf e).run P w = .ok ie.size w := by simp [sizeOf, typeInfo, hie]
      simp only [execOp, ho, Instr.build, Sem.run_bind, zeroValue, typeInfo, run_program, Result.andThen_ok, hi, Sem.run_pure, hzz, run_underlying hu, hse, hparts']
      rw [hf2]
      simp
    · cases hst
  refine fin_value S.defers S.size hN hrun C2 ?_ h
  simp only [RepV]
  exact ⟨_, rfl, (h'.keep _ _ _ (frz_sub hX2)).toVs⟩
end
end Go.AM
namespace Go.AM
set_option linter.unusedVariables false
set_option linter.unusedSimpArgs false
theorem fold_complete (sz : Nat) : ∀ (vs : List Value) (j : Nat) (done rest : List Value), done.length = j * sz → rest.length = vs.length * sz → (∀ v ∈ vs, v.cells.size = sz) →
    ((((List.range' j vs.length).map (· * sz)).zip vs).foldl (fun cs (p : Nat × Value) => ovw cs p.1 p.2.cells.toList) (done ++ rest)) = done ++ (vs.map (·.cells.toList)).flatten
  | [], j, done, rest, hd, hr, _ => by
    have : rest = [] := List.eq_nil_of_length_eq_zero (by simpa using hr)
    simp [this]
  | v :: vs, j, done, rest, hd, hr, hv => by
    have h0 : v.cells.toList.length = sz := by simpa using hv v (by simp)
    simp only [List.length_cons, List.range'_succ, List.map_cons, List.zip_cons_cons, List.foldl_cons]
    have e : ovw (done ++ rest) (j * sz) v.cells.toList = (done ++ v.cells.toList) ++ rest.drop sz := by
      unfold ovw
      rw [List.take_append_of_le_length (by omega), List.take_of_length_le (by omega), h0, ← hd, List.drop_append, List.append_assoc]
      simp
    rw [e, fold_complete sz vs (j + 1) _ _ (by simp [hd, h0, Nat.add_mul]) (by simp only [List.length_drop, hr, List.length_cons, Nat.add_mul]; omega) (fun u hu => hv u (by simp [hu]))]
    simp
theorem RepL.toRows {w : World} {Fz : Nat → Prop} {sz : Nat} : ∀ {css : List (List AV)} {xs : List Value} {o : List Nat}, RepL w Fz css xs o → css.all (fun cs => cs.length == sz) = true → RepRows w Fz sz css (xs.map (·.cells.toList)).flatten o
  | [], xs, o, h, _ => by simp only [RepL] at h; simp [h.1, h.2, RepRows]
  | cs :: css, xs, o, h, hl => by
    simp only [RepL] at h
    obtain ⟨x, xs', vs, o1, o2, hx, ho, hc, hr, hrest⟩ := h
    subst hx ho
    simp only [List.all_cons, Bool.and_eq_true, beq_iff_eq] at hl
    simp only [List.map_cons, List.flatten_cons, RepRows]
    exact ⟨_, _, o1, o2, rfl, rfl, hl.1, by rw [hc]; exact hr, hrest.toRows hl.2⟩
theorem RepRows.replicate {w : World} {Fz : Nat → Prop} {sz : Nat} {r : List AV} {xs : List Value} (h : RepRow w Fz r xs []) (hl : r.length = sz) : ∀ n, RepRows w Fz sz (List.replicate n r) (List.replicate n xs).flatten []
  | 0 => by simp [RepRows]
  | n + 1 => by
    simp only [List.replicate_succ, List.flatten_cons, RepRows]
    exact ⟨xs, _, [], [], rfl, rfl, hl, h, RepRows.replicate h hl n⟩
theorem zeros_rows (z : List Value) (hz : z ≠ []) : ∀ n, ((List.range (n * z.length)).map fun i => z.toArray[i % z.length]!) = (List.replicate n z).flatten
  | 0 => by simp
  | n + 1 => by
    have hl : 0 < z.length := List.length_pos_iff.2 hz
    rw [List.replicate_succ', List.flatten_append, ← zeros_rows z hz n, Nat.add_mul, Nat.one_mul, List.range_add, List.map_append]
    congr 1
    simp only [List.map_map, List.flatten_cons, List.flatten_nil, List.append_nil]
    apply List.ext_getElem?
    intro j
    by_cases hj : j < z.length
    · have e : (n * z.length + j) % z.length = j := by rw [Nat.mul_comm, Nat.mul_add_mod, Nat.mod_eq_of_lt hj]
      simp [hj, Function.comp, e]
    · simp [hj]
theorem zip_mid {α β γ : Type} : ∀ (offs : List α) (ix : List β) (vs : List γ), ix.length = vs.length → offs.zip vs = (offs.zip (ix.zip vs)).map fun q => (q.1, q.2.2)
  | [], _, _, _ => by simp
  | _ :: _, [], [], _ => by simp
  | _ :: _, [], _ :: _, h => by simp at h
  | _ :: _, _ :: _, [], h => by simp at h
  | o :: offs, i :: ix, v :: vs, h => by
    simp only [List.zip_cons_cons, List.map_cons, zip_mid offs ix vs (by simpa using h)]
section
variable {P : Program} {o : Oper} {c : Ctx} {N : Nat} {st : St} {a : Act} {w : World} {own : Nat → List Nat} {Q : Exit → Act → World → Prop}
def bslV (e sz : Nat) (ys : List Opd) (st : St) (d : Option Nat) (k : K) : Prop :=
  match pullS st ys with
  | some (css, st') => css.all (fun cs => cs.length == sz) = true ∧ putS st' d (.usl e sz css) k
  | none => False
def bslOk (P : Program) (t e sz n : Nat) : Bool :=
  (match P.underlying t with | some (.slice e') => e' == e | _ => false) && (match P.info? e with | some i => i.size == sz && (match i.zero with | some z => z.cells.size == sz | none => false) | none => false) && (n * sz ≤ 16777216)
theorem a_bsl (S : Sim c N st a w) (hN : ∀ e, o.dst = some e → e < N ∧ c.fx e = none) {t e sz : Nat} {xs : List Operand} {ys : List Opd} (hx : (xs.length == ys.length && (xs.zip ys).all fun p => mOpd p.1 p.2) = true)
    (ho : o.op = .buildSlice t xs.length ((List.range xs.length).zip xs).toArray) (hok : bslOk P t e sz xs.length = true) {k : K} (h : bslV e sz ys st o.dst k) : Ok P c N a w o k Q := by
  obtain ⟨own, C⟩ := S.core
  unfold bslV at h
  split at h
  rotate_left
  · exact h.elim
  rename_i css st' hp
  obtain ⟨hlen, h⟩ := h
  obtain ⟨own', lo1, C', hr, _⟩ := pull_sound C hx hp
  simp only [List.nil_append] at C' hr
  simp only [bslOk, Bool.and_eq_true, decide_eq_true_eq] at hok
  obtain ⟨⟨hu, hi⟩, hn⟩ := hok
  split at hu
  rotate_left
  · cases hu
  rename_i e' hu'
  simp only [beq_iff_eq] at hu
  subst hu
  split at hi
  rotate_left
  · cases hi
  rename_i i hi'
  simp only [Bool.and_eq_true, beq_iff_eq] at hi
  obtain ⟨hsz, hz⟩ := hi
  split at hz
  rotate_left
  · cases hz
  rename_i z hzz
  simp only [beq_iff_eq] at hz
  have hrows := hr.toRows hlen
  have hsize : ∀ v ∈ xs.map a.eval, v.cells.size = sz := by
    have h1 := hr.size
    intro v hv
    have h2 : v.cells.size ∈ (xs.map a.eval).map (fun x => x.cells.size) := List.mem_map_of_mem hv
    rw [h1] at h2
    obtain ⟨cs, hcs, he⟩ := List.mem_map.1 h2
    have := (List.all_eq_true.1 hlen) cs hcs
    simp only [beq_iff_eq] at this
    omega
  have hcl : css.length = xs.length := by have := hr.len; simpa using this.symm
  let X := ((xs.map a.eval).map (·.cells.toList)).flatten
  have hcells : ∀ Z : List Value, Z.length = xs.length * sz → Instr.fill (fun i => some (i * sz, sz)) Z.toArray ((List.range xs.length).zip (xs.map a.eval)) = some X.toArray := by
    intro Z hZ
    rw [run_fill _ ((List.range xs.length).map (· * sz))]
    · have e2 := fold_complete sz (xs.map a.eval) 0 [] Z (by simp) (by simpa using hZ) hsize
      rw [zip_mid _ (List.range xs.length) _ (by simp), List.foldl_map] at e2
      simp only [List.length_map, List.nil_append, ← List.range_eq_range'] at e2
      simp only [Option.some.injEq]
      congr 1
    · simp
    · rintro j ⟨i', v⟩ off h1 h2
      rw [List.getElem?_zip_eq_some] at h1
      obtain ⟨h3, h4⟩ := h1
      have hv := hsize v (List.mem_of_getElem? h4)
      have hj : j < xs.length := by have := (List.getElem?_eq_some_iff.1 h3).1; simpa using this
      simp [hj] at h2 h3
      subst h2 h3
      refine ⟨by rw [hv], ?_⟩
      rw [hv, hZ]
      have : j * sz + sz = (j + 1) * sz := by rw [Nat.add_mul]; omega
      rw [this]
      exact Nat.mul_le_mul_right _ hj
  have hX : X.length = css.length * sz := hrows.length
  have hrun : (execOp a.eval o).run P w = .ok (.value (.slice (some ⟨w.heap.size, 0, none⟩) css.length css.length)) (w.alloc (.cells (X ++ []).toArray e')) := by
    have hparts : (Array.map (fun x => match x with | (i, x) => (i, a.eval x)) ((List.range xs.length).zip xs).toArray).toList = (List.range xs.length).zip (xs.map a.eval) := by
      simp only [List.map_toArray]
      rw [List.zip_map_right]
      rfl
    have h24 : ¬ xs.length * sz > 2 ^ 24 := by omega
    have hf : ∀ zero : Array Value, Instr.fill (fun i => some (i * sz, sz)) ((Array.range (xs.length * sz)).map (zero[· % zero.size]!)) ((List.range xs.length).zip (xs.map a.eval)) = some X.toArray := by
      intro zero
      have h1 := hcells ((List.range (xs.length * sz)).map (zero[· % zero.size]!)) (by simp)
      have h2 : ((Array.range (xs.length * sz)).map (zero[· % zero.size]!)) = ((List.range (xs.length * sz)).map (zero[· % zero.size]!)).toArray := by
        apply Array.ext'
        simp
      rw [h2]; exact h1
    have hso : (sizeOf e').run P w = .ok sz w := by simp [sizeOf, typeInfo, hi', hsz]
    have hzv : (zeroValue e').run P w = .ok z w := by simp [zeroValue, typeInfo, hi', hzz]
    by_cases h0 : xs.length * sz = 0
    · simp only [execOp, ho, Instr.buildSlice, Sem.run_bind, run_underlying hu', Result.andThen_ok, hso, h24, if_false, Sem.run_pure, Sem.run_ite, hparts, hf, newRow, run_newObj, hcl, List.append_nil, World.alloc_eq]
      rw [if_pos h0]; rfl
    · simp only [execOp, ho, Instr.buildSlice, Sem.run_bind, run_underlying hu', Result.andThen_ok, hso, h24, if_false, Sem.run_pure, Sem.run_ite, hparts, hf, newRow, run_newObj, hcl, List.append_nil, World.alloc_eq, hzv]
      rw [if_neg h0]; rfl
  exact fin_value S.defers S.size hN hrun (core_new C' _).1 (rep_row C' (Nat.le_refl _) (by rw [List.append_nil]; exact Nat.le_of_eq hX.symm) hrows).toV h
def mksV (e sz bytes : Nat) (zs : List ZC) (x y : AV) (st : St) (d : Option Nat) (k : K) : Prop :=
  match x, y with
  | .v (.int .i64 n), .v (.int .i64 m) => n = m ∧ 0 ≤ n ∧ n * bytes ≤ 140737488355328 ∧ n ≤ 9223372036854775807 ∧ putS st d (.usl e sz (List.replicate n.toNat (zs.map ZC.av))) k
  | _, _ => False
def mksOk (P : Program) (t e sz bytes : Nat) (zs : List ZC) : Bool :=
  (match P.underlying t with | some (.slice e') => e' == e | _ => false) && (match P.info? e with | some i => i.size == sz && i.bytes == bytes | none => false) && zeroOk P e zs && zs.length == sz && sz != 0
theorem a_mks (S : Sim c N st a w) (hN : ∀ e, o.dst = some e → e < N ∧ c.fx e = none) {t e sz bytes : Nat} {zs : List ZC} {x y : Operand} {x' y' : Opd} (hx : mOpd x x' = true) (hy : mOpd y y' = true) (ho : o.op = .makeSlice t x y) (hok : mksOk P t e sz bytes zs = true) {k : K}
    (h : mksV e sz bytes zs (rd st x') (rd st y') st o.dst k) : Ok P c N a w o k Q := by
  obtain ⟨own, C⟩ := S.core
  have rx := rd_rep C hx
  have ry := rd_rep C hy
  unfold mksV at h
  split at h
  rotate_left
  · exact h.elim
  rename_i n m hn hm
  rw [hn] at rx
  rw [hm] at ry
  have ex := repV_v rx
  have ey := repV_v ry
  obtain ⟨rfl, h0, hb, h63, h⟩ := h
  simp only [mksOk, Bool.and_eq_true, beq_iff_eq, bne_iff_ne] at hok
  obtain ⟨⟨⟨⟨hu, hi⟩, hz⟩, hzl⟩, hsz0⟩ := hok
  split at hu
  rotate_left
  · cases hu
  rename_i e' hu'
  simp only [beq_iff_eq] at hu
  subst hu
  split at hi
  rotate_left
  · cases hi
  rename_i i hi'
  simp only [Bool.and_eq_true, beq_iff_eq] at hi
  obtain ⟨hsz, hby⟩ := hi
  simp only [zeroOk, hi'] at hz
  split at hz
  rotate_left
  · cases hz
  rename_i z hzz
  have hrow : RepRow w (frz c w (owned own [])) (zs.map ZC.av) z.cells.toList [] := zOk_rep hz
  have hzc : z.cells.toList.length = sz := by rw [hrow.length, List.length_map]; exact hzl
  have hzn : z.cells.toList ≠ [] := by intro h; rw [h] at hzc; simp at hzc; omega
  have hrows := RepRows.replicate hrow (sz := sz) (by rw [List.length_map]; exact hzl) n.toNat
  have hX : ((List.replicate n.toNat z.cells.toList).flatten).length = n.toNat * sz := by rw [hrows.length]; simp
  have hw : IntKind.i64.wrap n = n := by
    unfold IntKind.wrap; simp [IntKind.bits, IntKind.signed]; omega
  have htl : ¬ (n < 0 ∨ (bytes : Int) * n > 2 ^ 48) := by
    have : (bytes : Int) * n = n * bytes := Int.mul_comm _ _
    omega
  have hcells : ((Array.range (n.toNat * sz)).map (z.cells[· % z.cells.size]!)) = ((List.replicate n.toNat z.cells.toList).flatten).toArray := by
    have := zeros_rows z.cells.toList hzn n.toNat
    rw [hzc] at this
    apply Array.ext'
    have hs : z.cells.size = sz := by simpa using hzc
    simp only [Array.toList_map, Array.toList_range, hs]
    simpa using this
  have hrun : (execOp a.eval o).run P w = .ok (.value (.slice (some ⟨w.heap.size, 0, none⟩) n.toNat n.toNat)) (w.alloc (.cells ((List.replicate n.toNat z.cells.toList).flatten ++ []).toArray e')) := by
    have hm := run_make (P := P) w t e' i z hu' hi' hzz .i64 .i64 n n h0 (Int.le_refl _) (by rw [hby]; have : (bytes : Int) * n = n * bytes := Int.mul_comm _ _; omega) h63
    rw [hsz] at hm
    have hmc : madeCells z.cells (n.toNat * sz) = ((List.replicate n.toNat z.cells.toList).flatten ++ []).toArray := by
      rw [List.append_nil, ← hcells]
      unfold madeCells
      have hne : z.cells ≠ #[] := by intro h; rw [h] at hzn; simp at hzn
      by_cases h00 : n.toNat * sz = 0
      · simp [h00]
      · simp [h00]
    rw [hmc] at hm
    simp only [execOp, ho, ex, ey, Sem.run_bind, hm, Result.andThen_ok, Sem.run_pure]
  have h' := (core_new C (.cells ((List.replicate n.toNat z.cells.toList).flatten ++ []).toArray e')).1
  have hr' := rep_row (e := e') (cp := n.toNat) (rest := []) C (by simp) (by rw [List.append_nil]; exact Nat.le_of_eq hX.symm) hrows
  simp only [List.length_replicate] at hr'
  exact fin_value S.defers S.size hN hrun h' hr'.toV h
end
end Go.AM
namespace Go.AM
set_option linter.unusedVariables false
set_option linter.unusedSimpArgs false
theorem ovw_get {α : Type} {xs vs : List α} {a : Nat} (h : a + vs.length ≤ xs.length) (m : Nat) : (ovw xs a vs)[m]? = if m < a then xs[m]? else if m < a + vs.length then vs[m - a]? else xs[m]? := by
  unfold ovw
  have hm : min a xs.length = a := by omega
  rw [List.getElem?_append, List.getElem?_append]
  simp only [List.length_take, hm, List.getElem?_take, List.getElem?_drop]
  by_cases h1 : m < a
  · simp [h1]
  · simp only [h1, if_false]
    by_cases h2 : m < a + vs.length
    · have : m - a < vs.length := by omega
      simp [h2, this]
    · have h3 : ¬ m - a < vs.length := by omega
      have h4 : a + vs.length + (m - a - vs.length) = m := by omega
      simp [h2, h3, h4]
theorem RepRows.laid {w : World} {Fz : Nat → Prop} {sz : Nat} {cs : List AV} {vs : List Value} {q : List Nat} (k : RepRow w Fz cs vs q) {j : Nat} (hb : j + cs.length ≤ sz) : ∀ {l : List (List AV)} {xs : List Value} {o : List Nat} (i : Nat), RepRows w Fz sz l xs o → i < l.length →
    ∃ o', RepRows w Fz sz (l.set i (ovw (nth l i) j cs)) (ovw xs (i * sz + j) vs) o' ∧ (∀ b ∈ o', b ∈ o ∨ b ∈ q) ∧ ((o ++ q).Nodup → o'.Nodup)
  | [], xs, o, i, h, hi => by simp at hi
  | r :: rs, xs, o, 0, h, hi => by
    simp only [RepRows] at h
    obtain ⟨x1, x2, o1, o2, rfl, rfl, hl, h1, h2⟩ := h
    obtain ⟨o3, h3, hm, hn⟩ := h1.laid k (off := j) (by omega)
    have hx1 : x1.length = sz := by rw [h1.length, hl]
    have hv := k.length
    refine ⟨o3 ++ o2, ?_, ?_, ?_⟩
    · simp only [List.set_cons_zero, RepRows, nth, List.getD_cons_zero, Nat.zero_mul, Nat.zero_add]
      refine ⟨ovw x1 j vs, x2, o3, o2, ?_, rfl, ?_, h3, h2⟩
      · unfold ovw
        rw [List.take_append_of_le_length (by omega), List.drop_append_of_le_length (by omega)]
        simp
      · rw [ovw_length (by omega)]; exact hl
    · intro b hb
      rcases List.mem_append.1 hb with h | h
      · rcases hm b h with h | h <;> simp [h]
      · simp [h]
    · intro hnd
      rw [List.nodup_append] at hnd
      obtain ⟨h4, h5, h6⟩ := hnd
      rw [List.nodup_append] at h4
      obtain ⟨h7, h8, h9⟩ := h4
      rw [List.nodup_append]
      refine ⟨hn ?_, h8, ?_⟩
      · rw [List.nodup_append]
        exact ⟨h7, h5, fun a ha b hb => h6 a (by simp [ha]) b hb⟩
      · intro a ha b hb e
        rcases hm a ha with h | h
        · exact h9 a h b hb e
        · exact h6 b (by simp [hb]) a h e.symm
  | r :: rs, xs, o, i + 1, h, hi => by
    simp only [RepRows] at h
    obtain ⟨x1, x2, o1, o2, rfl, rfl, hl, h1, h2⟩ := h
    obtain ⟨o3, h3, hm, hn⟩ := RepRows.laid k hb i h2 (by simpa using hi)
    have hx1 : x1.length = sz := by rw [h1.length, hl]
    refine ⟨o1 ++ o3, ?_, ?_, ?_⟩
    · simp only [List.set_cons_succ, RepRows]
      refine ⟨x1, ovw x2 (i * sz + j) vs, o1, o3, ?_, rfl, hl, h1, by simpa [nth] using h3⟩
      unfold ovw
      have e : (i + 1) * sz + j = x1.length + (i * sz + j) := by rw [hx1, Nat.add_mul]; omega
      rw [e, List.take_length_add_append, Nat.add_assoc, List.drop_length_add_append, List.append_assoc]
    · intro b hb
      rcases List.mem_append.1 hb with h | h
      · simp [h]
      · rcases hm b h with h | h <;> simp [h]
    · intro hnd
      rw [List.nodup_append] at hnd
      obtain ⟨h4, h5, h6⟩ := hnd
      rw [List.nodup_append] at h4
      obtain ⟨h7, h8, h9⟩ := h4
      rw [List.nodup_append]
      refine ⟨h7, hn ?_, ?_⟩
      · rw [List.nodup_append]
        exact ⟨h8, h5, fun a ha b hb => h6 a (by simp [ha]) b hb⟩
      · intro a ha b hb e
        rcases hm b hb with h | h
        · exact h9 a ha b h e
        · exact h6 a (by simp [ha]) b h e
theorem Ext.setRow {w : World} {g : Nat} {W : List Nat} (cs : Array Value) (hg : g ∈ W) : Ext w (w.setRow g cs) W :=
  ⟨rfl, rfl, rfl, by simp, fun b hb hn => setRow_other w g b cs (fun e => hn (e ▸ hg))⟩
def storeV (sz : Nat) (st : St) (x y : Opd) (k : K) : Prop :=
  match ownO st y with
  | some (av, st1) => match cellsS av with
    | some cs => cs.length = sz ∧ match rd st1 x with
      | .ref n p i j => match getC (st1 n) p with
        | some (.usl e sz' l) => i < l.length ∧ j + sz ≤ sz' ∧ k (setS n p (.usl e sz' (l.set i (ovw (nth l i) j cs))) st1)
        | some (.box e c) => i = 0 ∧ j + sz ≤ c.length ∧ k (setS n p (.box e (ovw c j cs)) st1)
        | _ => False
      | _ => False
    | none => False
  | none => False
theorem run_storeVar {P : Program} {w : World} {t : TypeId} {sz : Nat} (hs : (P.info? t).map (·.size) = some sz) {v : Value} {vs : List Value} (hv : v.cells = vs.toArray) (hl : vs.length = sz) (h1 : ∀ u ∈ vs, u.oneCell' = true)
    {g f : Nat} {cur : List Value} {e : Nat} (hg : w.heap[g]? = some (.cells cur.toArray e (0, 0))) (hb : f + sz ≤ cur.length) :
    (storeVar t ⟨g, f, none⟩ v).run P w = .ok () (w.setRow g (ovw cur f vs).toArray) := by
  simp only [Option.map_eq_some_iff] at hs
  obtain ⟨i, hi, hsz⟩ := hs
  have hso : (sizeOf t).run P w = .ok sz w := by simp [sizeOf, typeInfo, hi, hsz]
  have hst := run_storeCells_at P g f e vs 0 cur.toArray w hg (by simp; omega) h1
  simp only [Nat.add_zero] at hst
  simp only [storeVar, Sem.run_bind, hso, Result.andThen_ok, hv, List.size_toArray, hl, ne_eq, not_true_eq_false, if_false, Sem.run_pure]
  rw [hst]
  simp [ovw]
section
variable {P : Program} {o : Oper} {c : Ctx} {N : Nat} {st : St} {a : Act} {w : World} {Q : Exit → Act → World → Prop}
theorem core_store {st1 : St} {tm : Nat → Value} {own1 : Nat → List Nat} {lo1 : List Nat} (C : Core c st1 tm w own1 lo1) {n : Nat} {p : List (Nat × Nat)} {av : AV} {y : Value} (hw : walk w (st1 n) (tm n) p = some (av, y)) (ho : isOwner av = true)
    {s : Sh} (hs : shapeOf av = some s) {i j : Nat} (hi : i < s.len) {cs : List AV} {vs : List Value} (hr : RepRow w (frz c w (owned own1 lo1)) cs vs lo1) (hj : j + cs.length ≤ s.sz) :
    ∃ g f cur e av', addrOf y = some (g, f) ∧ w.heap[g]? = some (.cells cur.toArray e (0, 0)) ∧ f + i * s.sz + j + vs.length ≤ cur.length ∧
      ((∃ e' sz' l, av = .usl e' sz' l ∧ av' = .usl e' sz' (l.set i (ovw (nth l i) j cs))) ∨ (∃ e' cc, av = .box e' cc ∧ av' = .box e' (ovw cc j cs))) ∧
      ∃ own', Core c (setS n p av' st1) tm (w.setRow g (ovw cur (f + i * s.sz + j) vs).toArray) own' [] := by
  obtain ⟨oo, hrep, hon, hod, hoO, hwalk, H⟩ := C.mod hw ho
  have hvl := hr.length
  have fin : ∀ (g f : Nat) (cur : List Value) (e : Nat) (av' : AV) (o' : List Nat), oo = g :: o' → (∀ b ∈ o', b ∈ oo) → w.heap[g]? = some (.cells cur.toArray e (0, 0)) → f + i * s.sz + j + vs.length ≤ cur.length → shapeOf av' = some s →
      (∃ o2, (∀ b ∈ o2, b ∈ o' ∨ b ∈ lo1) ∧ ((o' ++ lo1).Nodup → o2.Nodup) ∧
        ∀ (w' : World) (Fz' : Nat → Prop), w'.heap[g]? = some (.cells (ovw cur (f + i * s.sz + j) vs).toArray e (0, 0)) → Agree w w' (frz c w (owned own1 lo1)) Fz' (o' ++ lo1) → RepC w' Fz' av' y (g :: o2)) →
      ∃ own', Core c (setS n p av' st1) tm (w.setRow g (ovw cur (f + i * s.sz + j) vs).toArray) own' [] := by
    rintro g f cur e av' o' rfl _ hg hb hsh ⟨o2, hm, hn2, hR⟩
    have hgo : g ∉ o' := (List.nodup_cons.1 hon).1
    have hon' : o'.Nodup := (List.nodup_cons.1 hon).2
    have hgl : g ∉ lo1 := hod g (by simp)
    have hdj : (o' ++ lo1).Nodup := List.nodup_append.2 ⟨hon', C.lnd, fun a ha b hb e => hod a (by simp [ha]) (e ▸ hb)⟩
    have hE : Ext w (w.setRow g (ovw cur (f + i * s.sz + j) vs).toArray) ((g :: o') ++ lo1) := Ext.setRow _ (by simp)
    have hgs : g < w.heap.size := (Array.getElem?_eq_some_iff.1 hg).1
    have hX : ∀ b, modOwned own1 lo1 (g :: o') (g :: o2) [] b → owned own1 lo1 b ∨ w.heap.size ≤ b := by
      rintro b (h | h | h)
      · rcases List.mem_cons.1 h with rfl | h
        · exact .inl (hoO _ (by simp))
        · rcases hm b h with h | h
          · exact .inl (hoO b (by simp [h]))
          · exact .inl (.inr h)
      · simp at h
      · exact .inl h.1
    have ag : Agree w (w.setRow g (ovw cur (f + i * s.sz + j) vs).toArray) (frz c w (owned own1 lo1)) (frz c (w.setRow g (ovw cur (f + i * s.sz + j) vs).toArray) (modOwned own1 lo1 (g :: o') (g :: o2) [])) (o' ++ lo1) :=
      agree_frz (W := [g]) (Ext.setRow _ (by simp)) hX (fun b hb _ => by simp at hb; subst hb; exact hoO _ (by simp)) (fun b hb => by
        refine ⟨?_, fun h => ?_⟩
        · rcases List.mem_append.1 hb with h | h
          · exact (C.old b (hoO b (by simp [h]))).2
          · exact (C.old b (.inr h)).2
        · simp at h; subst h
          rcases List.mem_append.1 hb with h | h
          · exact hgo h
          · exact hgl h)
    have hnew := hR _ _ (setRow_heap w g cur.toArray _ e (0, 0) hg) ag
    obtain ⟨own', C', _⟩ := H _ av' (g :: o2) [] (keepK n p) hE
      (List.nodup_cons.2 ⟨fun h => by rcases hm g h with h | h; exact hgo h; exact hgl h, hn2 hdj⟩) (by simp) (by simp)
      (fun b hb => by
        simp only [List.not_mem_nil, or_false] at hb
        rcases List.mem_cons.1 hb with rfl | h
        · exact ⟨.inl (by simp), by simpa using hgs⟩
        · rcases hm b h with h | h
          · exact ⟨.inl (by simp [h]), by have := (C.old b (hoO b (by simp [h]))).2; simpa using this⟩
          · exact ⟨.inr (.inl h), by have := (C.old b (.inr h)).2; simpa using this⟩)
      hnew
      (fun q r hK hq => by
        have hwk := hwalk (w.setRow g (ovw cur (f + i * s.sz + j) vs).toArray) av' hE
        by_cases hpq : p <+: q
        · have hqp : q <+: p := by
            rw [← List.isPrefixOf_iff_prefix]
            rw [← List.isPrefixOf_iff_prefix] at hpq
            simpa [keepK, hpq] using hK
          have he : q = p := List.IsPrefix.eq_of_length hqp (Nat.le_antisymm hqp.length_le hpq.length_le)
          subst he
          have h1 := hwk.2 []
          simp only [List.append_nil, walk] at h1
          simp only [walkSh, h1, Option.bind_some, hsh, Option.map_some]
          simp only [walkSh, hw, Option.bind_some, hs, Option.map_some] at hq
          exact hq
        · rw [hwk.1 q hpq]; exact hq)
    exact ⟨own', C'⟩
  cases av with
  | usl e' sz' l =>
    simp only [shapeOf, Option.some.injEq] at hs
    subst hs
    simp only at hi hj fin ⊢
    simp only [RepC] at hrep
    rcases hrep with ⟨_, hl, _⟩ | ⟨g, hh, cp, cur, xs, o', hy, hoo, hg, hcp, hsz, hrows, hat⟩
    · subst hl; simp at hi
    · have hxl := hrows.length
      have hin : i * sz' + j + vs.length ≤ xs.length := by
        rw [hxl]
        have : (i + 1) * sz' ≤ l.length * sz' := Nat.mul_le_mul_right _ hi
        rw [Nat.add_mul] at this
        omega
      have hcurl : hh * sz' + xs.length ≤ cur.toList.length := by
        have : (hh + l.length) * sz' ≤ (hh + cp) * sz' := Nat.mul_le_mul_right _ (by omega)
        rw [Nat.add_mul] at this
        simp only [Array.length_toList]
        omega
      have hcells : ∀ m, m < xs.length → cur.toList[hh * sz' + m]? = xs[m]? := by
        intro m hm
        have h1 := hat m xs[m] (by simp [hm])
        rw [cell_of_cells hg] at h1
        simp only [Array.getElem?_toList, h1]
        simp [hm]
      have hg' : w.heap[g]? = some (.cells cur.toList.toArray e' (0, 0)) := by simpa using hg
      obtain ⟨o2, h2, hm2, hn2⟩ := hrows.laid hr hj i hi
      refine ⟨g, hh * sz', cur.toList, e', _, by simp [hy, addrOf], hg', by omega, .inl ⟨e', sz', l, rfl, rfl⟩, ?_⟩
      refine fin g (hh * sz') cur.toList e' _ o' hoo (by intro b hb; rw [hoo]; simp [hb]) hg' (by omega) (by simp [shapeOf]) ⟨o2, hm2, hn2, ?_⟩
      intro w' Fz' hgw ag
      simp only [RepC]
      refine .inr ⟨g, hh, cp, _, _, o2, by rw [hy]; simp, rfl, hgw, by simpa using hcp, ?_, h2.keep _ _ _ _ (ag.sub ?_), ?_⟩
      · simp only [List.size_toArray]
        rw [ovw_length (by omega)]
        simpa using hsz
      · intro b hb; rcases hm2 b hb with h | h <;> simp [h]
      · intro m u hmu
        have hml : m < xs.length := by
          have := (List.getElem?_eq_some_iff.1 hmu).1
          rwa [ovw_length hin] at this
        rw [cell_of_cells hgw]
        simp only [List.getElem?_toArray]
        rw [ovw_get hin] at hmu
        rw [ovw_get (by omega)]
        by_cases h1 : m < i * sz' + j
        · rw [if_pos h1] at hmu
          rw [if_pos (by omega), hcells m hml]; exact hmu
        · rw [if_neg h1] at hmu
          rw [if_neg (by omega)]
          by_cases h3 : m < i * sz' + j + vs.length
          · rw [if_pos h3] at hmu
            rw [if_pos (by omega), show hh * sz' + m - (hh * sz' + i * sz' + j) = m - (i * sz' + j) from by omega]; exact hmu
          · rw [if_neg h3] at hmu
            rw [if_neg (by omega), hcells m hml]; exact hmu
  | box e' cc =>
    simp only [shapeOf, Option.some.injEq] at hs
    subst hs
    simp only at hi hj fin ⊢
    have hi0 : i = 0 := by omega
    subst hi0
    simp only [RepC] at hrep
    obtain ⟨g, xs, o', hy, hoo, hg, hrow⟩ := hrep
    have hxl := hrow.length
    obtain ⟨o2, h2, hm2, hn2⟩ := hrow.laid hr hj
    refine ⟨g, 0, xs, e', _, by simp [hy, addrOf], hg, by omega, .inr ⟨e', cc, rfl, rfl⟩, ?_⟩
    have hlen : (ovw cc j cs).length = cc.length := ovw_length hj
    refine fin g 0 xs e' _ o' hoo (by intro b hb; rw [hoo]; simp [hb]) hg (by omega) (by simp [shapeOf, hlen]) ⟨o2, hm2, hn2, ?_⟩
    intro w' Fz' hgw ag
    simp only [Nat.zero_mul, Nat.zero_add] at hgw
    simp only [RepC]
    exact ⟨g, _, o2, hy, rfl, hgw, h2.keep _ _ _ (ag.sub (by intro b hb; rcases hm2 b hb with h | h <;> simp [h]))⟩
  | _ => simp [isOwner] at ho
theorem a_store (S : Sim c N st a w) {t : TypeId} {sz : Nat} {x y : Operand} {x' y' : Opd} (hx : mOpd x x' = true) (hy : mOpd y y' = true) (ho : o.op = .store t x y) (hd : o.dst = none) (hsz : (P.info? t).map (·.size) = some sz) {k : K}
    (h : storeV sz st x' y' k) : Ok P c N a w o k Q := by
  obtain ⟨own, C⟩ := S.core
  unfold storeV at h
  split at h
  rotate_left
  · exact h.elim
  rename_i av st1 hown
  split at h
  rotate_left
  · exact h.elim
  rename_i cs hcs
  obtain ⟨hl, h⟩ := h
  obtain ⟨own1, lo1, C1, hr1, _⟩ := own_sound C hy hown
  simp only [List.nil_append] at C1 hr1
  obtain ⟨vs, hvs, hrow⟩ := stor_rep hr1 hcs
  have rx := rd_rep C1 hx
  have hvl : vs.length = sz := by rw [hrow.length]; exact hl
  split at h
  rotate_left
  · exact h.elim
  rename_i n p i j hrd
  rw [hrd] at rx
  simp only [RepV] at rx
  obtain ⟨_, s, yv, b, f, hloc, hadr, hi, hj, hxv⟩ := rx
  obtain ⟨av0, oo, hg, hw, hsh, hrep, hsub⟩ := loc_spot C1 hloc
  rw [hg] at h
  have hio : isOwner av0 = true := by cases av0 <;> simp [shapeOf] at hsh <;> rfl
  have hjs : j + cs.length ≤ s.sz := by
    cases av0 <;> simp [shapeOf] at hsh <;> (subst hsh; rw [hl]; exact h.2.1)
  obtain ⟨g, f', cur, e, av', hadr', hcur, hfit, hav', own', C'⟩ := core_store C1 hw hio hsh hi hrow hjs
  rw [hadr] at hadr'
  obtain ⟨rfl, rfl⟩ : b = g ∧ f = f' := by simpa using hadr'
  have hrun : (execOp a.eval o).run P w = .ok .skip (w.setRow b (ovw cur (f + i * s.sz + j) vs).toArray) := by
    have hst := run_storeVar (P := P) (t := t) (f := f + i * s.sz + j) hsz hvs hvl hrow.one hcur (by omega)
    simp only [execOp, ho, Instr.storeAt, Instr.sureAddr, hxv, Sem.run_bind, Sem.run_pure, Result.andThen_ok, hst]
  unfold Ok Oper.wp
  rw [hrun]
  simp only [Oper.upon, hd, Act.put]
  rcases hav' with ⟨e', sz', l, rfl, rfl⟩ | ⟨e', cc, rfl, rfl⟩
  · exact ⟨_, ⟨S.defers, S.size, own', C'⟩, h.2.2⟩
  · exact ⟨_, ⟨S.defers, S.size, own', C'⟩, h.2.2⟩
def isVo : Option AV → Bool
  | some (.v _) => true
  | _ => false
def storepW (sz : Nat) (st : St) (r y : AV) (k : K) : Prop :=
  match r, y with
  | .ref n p i j, .v u => sz = 1 ∧ match getC (st n) p with
    | some (.usl e sz' l) => i < l.length ∧ j < sz' ∧ isVo ((nth l i)[j]?) = true ∧ k (upd st n (setC (st n) p (.usl e sz' (l.set i (ovw (nth l i) j [.v u])))))
    | _ => False
  | _, _ => False
theorem walk_app {w : World} : ∀ (p q : List (Nat × Nat)) (av : AV) (y : Value), walk w av y (p ++ q) = (walk w av y p).bind fun r => walk w r.1 r.2 q
  | [], q, av, y => by simp [walk]
  | (i, k) :: p, q, av, y => by
    simp only [List.cons_append, walk]
    cases cellOf av i k with
    | none => simp
    | some c =>
      simp only [Option.bind_some]
      cases cellV w av y i k with
      | none => simp
      | some z => simp only [Option.bind_some]; exact walk_app p q c z
theorem RepRows.row_len {w : World} {Fz : Nat → Prop} {sz : Nat} : ∀ {l : List (List AV)} {xs : List Value} {o : List Nat}, RepRows w Fz sz l xs o → ∀ r ∈ l, r.length = sz
  | [], xs, o, h, r, hr => by cases hr
  | a :: l, xs, o, h, r, hr => by
    simp only [RepRows] at h
    obtain ⟨x1, x2, o1, o2, _, _, hl, _, h2⟩ := h
    rcases List.mem_cons.1 hr with rfl | hr
    · exact hl
    · exact RepRows.row_len h2 r hr
theorem cell_inj {s i j i' k : Nat} (hj : j < s) (hk : k < s) (h : i' * s + k = i * s + j) : i' = i ∧ k = j := by
  have e : i' = i := by
    rcases Nat.lt_trichotomy i' i with h1 | h1 | h1
    · have : (i' + 1) * s ≤ i * s := Nat.mul_le_mul_right _ h1
      rw [Nat.add_mul] at this; omega
    · exact h1
    · have : (i + 1) * s ≤ i' * s := Nat.mul_le_mul_right _ h1
      rw [Nat.add_mul] at this; omega
  subst e
  exact ⟨rfl, by omega⟩
theorem set_ovw {l : List (List AV)} {i j : Nat} {c : AV} (hi : i < l.length) (hj : j < (nth l i).length) : l.set i (ovw (nth l i) j [c]) = l.modify i (·.set j c) := by
  apply List.ext_getElem?
  intro m
  rw [List.getElem?_set, List.getElem?_modify]
  by_cases e : i = m
  · subst e
    have en : nth l i = l[i] := by simp [nth, hi]
    rw [en] at hj
    simp only [if_true, hi, en, List.getElem?_eq_getElem hi, Option.map_some, Option.some.injEq]
    show some (ovw l[i] j [c]) = some (l[i].set j c)
    unfold ovw
    rw [List.set_eq_take_append_cons_drop, if_pos hj]
    simp
  · simp [e]
theorem core_storep {st1 : St} {tm : Nat → Value} {own1 : Nat → List Nat} (C : Core c st1 tm w own1 []) {n : Nat} {p : List (Nat × Nat)} {y : Value} {e' sz' : Nat} {l : List (List AV)} (hw : walk w (st1 n) (tm n) p = some (.usl e' sz' l, y))
    {i j : Nat} (hi : i < l.length) (hj : j < sz') (hv : isVo ((nth l i)[j]?) = true) {u : Value} (hu : u.oneCell' = true) :
    ∃ g f cur e, addrOf y = some (g, f) ∧ w.heap[g]? = some (.cells cur.toArray e (0, 0)) ∧ f + i * sz' + j + 1 ≤ cur.length ∧
      ∃ own', Core c (upd st1 n (setC (st1 n) p (.usl e' sz' (l.set i (ovw (nth l i) j [.v u]))))) tm (w.setRow g (ovw cur (f + i * sz' + j) [u]).toArray) own' [] := by
  obtain ⟨oo, hrep, hon, hod, hoO, hwalk, H⟩ := C.mod hw rfl
  have hrep0 := hrep
  simp only [RepC] at hrep
  rcases hrep with ⟨_, hl, _⟩ | ⟨g, hh, cp, cur, xs, o', hy, hoo, hg, hcp, hsz, hrows, hat⟩
  · subst hl; simp at hi
  subst hoo
  have hxl := hrows.length
  have hin : i * sz' + j + 1 ≤ xs.length := by
    rw [hxl]
    have : (i + 1) * sz' ≤ l.length * sz' := Nat.mul_le_mul_right _ hi
    rw [Nat.add_mul] at this
    omega
  have hcurl : hh * sz' + xs.length ≤ cur.toList.length := by
    have : (hh + l.length) * sz' ≤ (hh + cp) * sz' := Nat.mul_le_mul_right _ (by omega)
    rw [Nat.add_mul] at this
    simp only [Array.length_toList]
    omega
  have hcells : ∀ m, m < xs.length → cur.toList[hh * sz' + m]? = xs[m]? := by
    intro m hm
    have h1 := hat m xs[m] (by simp [hm])
    rw [cell_of_cells hg] at h1
    simp only [Array.getElem?_toList, h1]
    simp [hm]
  have hg' : w.heap[g]? = some (.cells cur.toList.toArray e' (0, 0)) := by simpa using hg
  have hr1 : RepRow w (frz c w (owned own1 [])) [.v u] [u] [] := by
    simp only [RepRow, RepC]
    exact ⟨u, [], [], [], rfl, rfl, ⟨rfl, hu, rfl⟩, rfl, rfl⟩
  obtain ⟨o2, h2, hm2, hn2⟩ := hrows.laid hr1 (j := j) (by simp only [List.length_singleton]; omega) i hi
  simp only [List.append_nil, List.not_mem_nil, or_false] at hm2 hn2
  have hgo : g ∉ o' := (List.nodup_cons.1 hon).1
  have hon' : o'.Nodup := (List.nodup_cons.1 hon).2
  have hE : Ext w (w.setRow g (ovw cur.toList (hh * sz' + i * sz' + j) [u]).toArray) ((g :: o') ++ []) := Ext.setRow _ (by simp)
  have hgs : g < w.heap.size := (Array.getElem?_eq_some_iff.1 hg).1
  have hX : ∀ b, modOwned own1 [] (g :: o') (g :: o2) [] b → owned own1 [] b ∨ w.heap.size ≤ b := by
    rintro b (h | h | h)
    · rcases List.mem_cons.1 h with rfl | h
      · exact .inl (hoO _ (by simp))
      · exact .inl (hoO b (by simp [hm2 b h]))
    · simp at h
    · exact .inl h.1
  have ag : Agree w (w.setRow g (ovw cur.toList (hh * sz' + i * sz' + j) [u]).toArray) (frz c w (owned own1 [])) (frz c (w.setRow g (ovw cur.toList (hh * sz' + i * sz' + j) [u]).toArray) (modOwned own1 [] (g :: o') (g :: o2) [])) o' :=
    agree_frz (W := [g]) (Ext.setRow _ (by simp)) hX (fun b hb _ => by simp at hb; subst hb; exact hoO _ (by simp)) (fun b hb => by
      refine ⟨(C.old b (hoO b (by simp [hb]))).2, fun h => ?_⟩
      simp at h; subst h
      exact hgo hb)
  have hgw := setRow_heap w g cur.toList.toArray (ovw cur.toList (hh * sz' + i * sz' + j) [u]).toArray e' (0, 0) hg'
  refine ⟨g, hh * sz', cur.toList, e', by simp [hy, addrOf], hg', by omega, ?_⟩
  have hcell' : ∀ m, m ≠ i * sz' + j → m < xs.length → (w.setRow g (ovw cur.toList (hh * sz' + i * sz' + j) [u]).toArray).cell? ⟨g, hh * sz' + m, none⟩ = w.cell? ⟨g, hh * sz' + m, none⟩ := by
    intro m hm hml
    rw [cell_of_cells hgw, cell_of_cells hg']
    simp only [List.getElem?_toArray]
    rw [ovw_get (by simp only [List.length_singleton]; omega)]
    by_cases h1 : hh * sz' + m < hh * sz' + i * sz' + j
    · rw [if_pos h1]
    · rw [if_neg h1, if_neg (by simp only [List.length_singleton]; omega)]
  have hnew : RepC (w.setRow g (ovw cur.toList (hh * sz' + i * sz' + j) [u]).toArray) (frz c (w.setRow g (ovw cur.toList (hh * sz' + i * sz' + j) [u]).toArray) (modOwned own1 [] (g :: o') (g :: o2) [])) (.usl e' sz' (l.set i (ovw (nth l i) j [.v u]))) y (g :: o2) := by
    simp only [RepC]
    refine .inr ⟨g, hh, cp, _, _, o2, by rw [hy]; simp, rfl, hgw, by simpa using hcp, ?_, h2.keep _ _ _ _ (ag.sub hm2), ?_⟩
    · simp only [List.size_toArray]
      rw [ovw_length (by simp only [List.length_singleton]; omega)]
      simpa using hsz
    · intro m v hmu
      have hml : m < xs.length := by
        have := (List.getElem?_eq_some_iff.1 hmu).1
        rwa [ovw_length (by simp only [List.length_singleton]; omega)] at this
      rw [ovw_get (by simp only [List.length_singleton]; omega)] at hmu
      by_cases h1 : m = i * sz' + j
      · subst h1
        rw [if_neg (by omega), if_pos (by simp only [List.length_singleton]; omega)] at hmu
        rw [cell_of_cells hgw]
        simp only [List.getElem?_toArray]
        rw [ovw_get (by simp only [List.length_singleton]; omega), if_neg (by omega), if_pos (by simp only [List.length_singleton]; omega), show hh * sz' + (i * sz' + j) - (hh * sz' + i * sz' + j) = i * sz' + j - (i * sz' + j) from by omega]
        exact hmu
      · rw [hcell' m h1 hml]
        refine hat m v ?_
        by_cases h3 : m < i * sz' + j
        · rw [if_pos h3] at hmu; exact hmu
        · rw [if_neg h3, if_neg (by simp only [List.length_singleton]; omega)] at hmu; exact hmu
  obtain ⟨own', C', _⟩ := H _ (.usl e' sz' (l.set i (ovw (nth l i) j [.v u]))) (g :: o2) [] (fun _ _ => false) hE
    (List.nodup_cons.2 ⟨fun h => hgo (hm2 g h), hn2 hon'⟩) (by simp) (by simp)
    (fun b hb => by
      simp only [List.not_mem_nil, or_false] at hb
      rcases List.mem_cons.1 hb with rfl | h
      · exact ⟨.inl (by simp), by simpa using hgs⟩
      · exact ⟨.inl (by simp [hm2 b h]), by have := (C.old b (hoO b (by simp [hm2 b h]))).2; simpa using this⟩)
    hnew
    (fun q r _ hq => by
      have hwk := hwalk (w.setRow g (ovw cur.toList (hh * sz' + i * sz' + j) [u]).toArray) (.usl e' sz' (l.set i (ovw (nth l i) j [.v u]))) hE
      by_cases hpq : p <+: q
      · obtain ⟨q, rfl⟩ := hpq
        have h1 := hwk.2 q
        simp only [walkSh, walk_app, hw, Option.bind_some] at hq
        simp only [walkSh, h1]
        cases q with
        | nil =>
          simp only [walk, Option.bind_some, shapeOf, Option.map_some, List.length_set] at hq ⊢
          exact hq
        | cons ik q =>
          obtain ⟨i', k'⟩ := ik
          simp only [walk] at hq ⊢
          cases hc : cellOf (.usl e' sz' l) i' k' with
          | none => rw [hc] at hq; simp at hq
          | some d =>
            rw [hc] at hq
            simp only [Option.bind_some] at hq
            have hc0 := hc
            simp only [cellOf, Option.bind_eq_some_iff] at hc0
            obtain ⟨row, hrow, hcl⟩ := hc0
            have hil : i' < l.length := (List.getElem?_eq_some_iff.1 hrow).1
            have hrl : row.length = sz' := hrows.row_len row (List.mem_of_getElem? hrow)
            have hkl : k' < sz' := by rw [← hrl]; exact (List.getElem?_eq_some_iff.1 hcl).1
            have hnl : (nth l i).length = sz' := by
              have : nth l i = l[i] := by simp [nth, hi]
              rw [this]; exact hrows.row_len _ (List.getElem_mem hi)
            by_cases hik : i' = i ∧ k' = j
            · obtain ⟨rfl, rfl⟩ := hik
              have : nth l i' = row := by simp [nth, hrow]
              rw [this, hcl] at hv
              cases d with
              | v x0 =>
                cases hz : cellV w (.usl e' sz' l) y i' k' with
                | none => rw [hz] at hq; simp at hq
                | some z =>
                  rw [hz] at hq
                  cases q with
                  | nil => simp [walk, shapeOf] at hq
                  | cons ik q => simp [walk, cellOf] at hq
              | _ => simp [isVo] at hv
            · have hij : (nth l i)[j]? = some (nth l i)[j] := List.getElem?_eq_getElem (by omega)
              have hcell0 : cellOf (.usl e' sz' l) i j = some (nth l i)[j] := by
                simp only [cellOf, List.getElem?_eq_getElem hi, Option.bind_some]
                have : nth l i = l[i] := by simp [nth, hi]
                simp only [this]
                exact List.getElem?_eq_getElem _
              have hc' : cellOf (.usl e' sz' (l.set i (ovw (nth l i) j [.v u]))) i' k' = some d := by
                have es : AV.usl e' sz' (l.set i (ovw (nth l i) j [.v u])) = setOf (.usl e' sz' l) i j (.v u) := by
                  simp only [setOf]; rw [set_ovw hi (by omega)]
                rw [es, cellOf_setOf_other hcell0 hik, hc]
              rw [hc']
              simp only [Option.bind_some]
              obtain ⟨z, oc, oR, CA⟩ := hrep0.cellAt hc
              rw [CA.cv] at hq
              simp only [Option.bind_some] at hq
              have hml : i' * sz' + k' < xs.length := by
                rw [hxl]
                have : (i' + 1) * sz' ≤ l.length * sz' := Nat.mul_le_mul_right _ hil
                rw [Nat.add_mul] at this
                omega
              have hzv : cellV (w.setRow g (ovw cur.toList (hh * sz' + i * sz' + j) [u]).toArray) (.usl e' sz' (l.set i (ovw (nth l i) j [.v u]))) y i' k' = some z := by
                rw [← CA.cv, hy]
                simp only [cellV]
                rw [show hh * sz' + i' * sz' + k' = hh * sz' + (i' * sz' + k') from by omega]
                exact hcell' _ (fun h => hik (cell_inj hj hkl h)) hml
              rw [hzv]
              simp only [Option.bind_some]
              have hgoc : g ∉ oc := by
                intro hgc
                have hnd := (CA.dj hon).2 g hgc
                have := hrows.at hrow hcl
                obtain ⟨z2, q1, qc, q2, hq0, _, hqr, _⟩ := this
                have hno := (CA.mem g).2 (.inl hgc)
                exact hnd (by
                  have hR := CA.put w (frz c w (owned own1 [])) .dead [] ⟨fun _ h => ⟨h, rfl⟩, fun _ _ => rfl⟩ (by simp only [RepC]; exact ⟨CA.rep.one, trivial⟩)
                  obtain ⟨o3, hr3, hm3, _⟩ := hR
                  have h4 := (hm3 g).1
                  simp only [List.not_mem_nil, false_or] at h4
                  apply h4
                  simp only [setOf, RepC] at hr3
                  rcases hr3 with ⟨h5, _⟩ | ⟨g5, hh5, cp5, cur5, xs5, o5, hy5, ho5, _⟩
                  · rw [hy] at h5; cases h5
                  · rw [hy] at hy5
                    simp only [Value.slice.injEq, Option.some.injEq, Addr.mk.injEq] at hy5
                    rw [ho5, ← hy5.1.1]; simp)
              have hkeep : walk (w.setRow g (ovw cur.toList (hh * sz' + i * sz' + j) [u]).toArray) d z q = walk w d z q :=
                walk_keepC q CA.rep (fun b hb => setRow_other w g b _ (fun e => hgoc (e ▸ hb)))
              rw [hkeep]
              exact hq
      · rw [hwk.1 q hpq]; exact hq)
  refine ⟨own', ?_⟩
  have ef : (fun k => killV (fun _ _ => false) (upd st1 n (setC (st1 n) p (.usl e' sz' (l.set i (ovw (nth l i) j [.v u])))) k)) = upd st1 n (setC (st1 n) p (.usl e' sz' (l.set i (ovw (nth l i) j [.v u])))) := by
    funext k; exact killV_none _
  rw [ef] at C'
  exact C'
theorem a_storep (S : Sim c N st a w) {t : TypeId} {sz : Nat} {x y : Operand} {x' y' : Opd} (hx : mOpd x x' = true) (hy : mOpd y y' = true) (ho : o.op = .store t x y) (hd : o.dst = none) (hsz : (P.info? t).map (·.size) = some sz) {k : K}
    (h : storepW sz st (rd st x') (rd st y') k) : Ok P c N a w o k Q := by
  obtain ⟨own, C⟩ := S.core
  have rx := rd_rep C hx
  have ry := rd_rep C hy
  unfold storepW at h
  split at h
  rotate_left
  · exact h.elim
  rename_i n p i j u e1 e2
  obtain ⟨rfl, h⟩ := h
  rw [e1] at rx
  rw [e2] at ry
  simp only [RepV, RepC] at ry
  obtain ⟨hyu, hu1, _⟩ := ry
  simp only [RepV] at rx
  obtain ⟨_, s, yv, b, f, hloc, hadr, hi, hj, hxv⟩ := rx
  obtain ⟨av0, oo, hg, hw, hsh, hrep, hsub⟩ := loc_spot C hloc
  rw [hg] at h
  cases av0 with
  | usl e' sz' l =>
    simp only [shapeOf, Option.some.injEq] at hsh
    subst hsh
    simp only at h hi hj hxv
    obtain ⟨h1, h2, h3, hk⟩ := h
    obtain ⟨g, f', cur, e, hadr', hcur, hfit, own', C'⟩ := core_storep C hw h1 h2 h3 hu1
    rw [hadr] at hadr'
    obtain ⟨rfl, rfl⟩ : b = g ∧ f = f' := by simpa using hadr'
    have hrun : (execOp a.eval o).run P w = .ok .skip (w.setRow b (ovw cur (f + i * sz' + j) [u]).toArray) := by
      have hvs : (a.eval y).cells = [u].toArray := by
        rw [hyu]
        cases u <;> simp [Value.oneCell'] at hu1 <;> rfl
      have hst := run_storeVar (P := P) (t := t) (f := f + i * sz' + j) hsz hvs rfl (by simpa using hu1) hcur (by omega)
      simp only [execOp, ho, Instr.storeAt, Instr.sureAddr, hxv, Sem.run_bind, Sem.run_pure, Result.andThen_ok, hst]
    unfold Ok Oper.wp
    rw [hrun]
    simp only [Oper.upon, hd, Act.put]
    exact ⟨_, ⟨S.defers, S.size, own', C'⟩, hk⟩
  | _ => simp at h
end
end Go.AM
namespace Go.AM
set_option linter.unusedVariables false
set_option linter.unusedSimpArgs false
section
variable {P : Program} {o : Oper} {c : Ctx} {N : Nat} {st : St} {a : Act} {w : World} {Q : Exit → Act → World → Prop}
theorem app_core {st2 : St} {tm : Nat → Value} {own2 : Nat → List Nat} {lo1 lo2 oy : List Nat} (C : Core c st2 tm w own2 (lo1 ++ lo2)) {e sz bytes : Nat} {l ys : List (List AV)} {vx vy : Value}
    (hx : RepC w (frz c w (owned own2 (lo1 ++ lo2))) (.usl e sz l) vx lo1) {t ty : TypeId} {i : TypeInfo} {z : Value} (ht : P.underlying t = some (.slice e)) (hi : P.info? e = some i) (hz : i.zero = some z) (hzs : z.cells.size = sz) (hsz : i.size = sz) (hby : i.bytes = bytes)
    {news : List Value} (hy : RepRows w (frz c w (owned own2 (lo1 ++ lo2))) sz ys news oy) (hoy : ∀ b ∈ oy, b ∈ lo2) (hon : oy.Nodup) {A : Option Addr} {cy : Nat} (hvy : vy = .slice A ys.length cy)
    (hat : ys ≠ [] → ∃ gy fy, A = some ⟨gy, fy, none⟩ ∧ At w gy fy news) (h63 : l.length + ys.length ≤ 9223372036854775807) (hb : (l.length + ys.length) * bytes ≤ 140737488355328) :
    ∃ x' w' lo', (Builtin.append_ #[t, t] ty #[vx, vy]).run P w = .ok x' w' ∧ Core c st2 tm w' own2 lo' ∧ RepC w' (frz c w' (owned own2 lo')) (.usl e sz (l ++ ys)) x' lo' := by
  have hnl := hy.length
  have hlod : (lo1 ++ oy).Nodup := by
    have := List.nodup_append.1 C.lnd
    exact List.nodup_append.2 ⟨this.1, hon, fun a ha b hb => this.2.2 a ha b (hoy b hb)⟩
  have hold : ∀ b ∈ lo1 ++ oy, b ∈ lo1 ++ lo2 := fun b hb => by
    rcases List.mem_append.1 hb with h | h
    · simp [h]
    · simp [hoy b h]
  by_cases hys : ys = []
  · subst hys
    have hn0 : news = [] := List.eq_nil_of_length_eq_zero (by simpa using hnl)
    have ho0 : oy = [] := by simp only [RepRows] at hy; exact hy.2
    subst hn0 ho0
    have C' := C.world (lo' := lo1) (Ext.refl w _) (List.nodup_append.1 C.lnd).1 (fun b hb => ⟨.inl (by simp [hb]), (C.old b (.inr (by simp [hb]))).2⟩)
    refine ⟨vx, w, lo1, ?_, C', ?_⟩
    · simp only [RepC] at hx
      have hf : ∀ A : Option Addr, (Builtin.firstCells sz 0 (.slice A 0 cy)).run P w = .ok #[] w := by
        intro A; cases A <;> simp [Builtin.firstCells, loadCells, loadCellsFrom]
      rcases hx with ⟨rfl, hl, _⟩ | ⟨g, hh, cp, cur, xs, o', rfl, _, _, hcp, _⟩
      · simp [Builtin.append_, run_underlying ht, sizeOf, typeInfo, hi, hsz, hvy, Builtin.lenOf, hf]
      · simp [Builtin.append_, run_underlying ht, sizeOf, typeInfo, hi, hsz, hvy, Builtin.lenOf, hf, hcp, storeCells]
    · rw [List.append_nil]
      refine hx.keep _ _ _ (frz_sub ?_)
      rintro b (⟨k, hk⟩ | hb)
      · exact .inl ⟨k, hk⟩
      · exact .inr (by simp [hb])
  · obtain ⟨gy, fy, rfl, haty⟩ := hat hys
    have hm0 : 0 < ys.length := List.length_pos_iff.2 hys
    have hcell : ∀ (w' : World), w'.heap[gy]? = w.heap[gy]? → ∀ j u, news[j]? = some u → w'.cell? ((⟨gy, fy, none⟩ : Addr).add j) = some u := fun w' h j u hj => by
      rw [Addr.add_lit]; exact (haty.of_block h) j u hj
    have hone : ∀ u ∈ news, u.oneCell' = true := hy.one
    have hnl' : news.length = ys.length * i.size := by rw [hsz]; exact hnl
    have fresh : ∀ (xs : List Value) (o' : List Nat) (old : Nat), RepRows w (frz c w (owned own2 (lo1 ++ lo2))) sz l xs o' → (∀ b ∈ o', b ∈ lo1) → o'.Nodup → old < l.length + ys.length →
        ∃ lo', Core c st2 tm (w.drew.alloc (.cells (xs.toArray ++ news.toArray ++ Builtin.zeroCells z.cells (grownCap w (l.length + ys.length) old e - (l.length + ys.length))) e)) own2 lo' ∧
          RepC (w.drew.alloc (.cells (xs.toArray ++ news.toArray ++ Builtin.zeroCells z.cells (grownCap w (l.length + ys.length) old e - (l.length + ys.length))) e))
            (frz c (w.drew.alloc (.cells (xs.toArray ++ news.toArray ++ Builtin.zeroCells z.cells (grownCap w (l.length + ys.length) old e - (l.length + ys.length))) e)) (owned own2 lo'))
            (.usl e sz (l ++ ys)) (.slice (some ⟨w.heap.size, 0, none⟩) (l.length + ys.length) (grownCap w (l.length + ys.length) old e)) lo' := by
      intro xs o' old hxs ho' hno hlt
      have hxl := hxs.length
      have ho'l : ∀ b ∈ o' ++ oy, b ∈ lo1 ++ lo2 := fun b hb => by
        rcases List.mem_append.1 hb with h | h
        · simp [ho' b h]
        · simp [hoy b h]
      have hn2 : (o' ++ oy).Nodup := by
        rw [List.nodup_append] at hlod ⊢
        exact ⟨hno, hon, fun a ha b hb => hlod.2.2 a (ho' a ha) b hb⟩
      have C1 := C.world (lo' := o' ++ oy) (Ext.drew w _) hn2 (fun b hb => ⟨.inl (ho'l b hb), (C.old b (.inr (ho'l b hb))).2⟩)
      have ag1 : ∀ oo, Agree w w.drew (frz c w (owned own2 (lo1 ++ lo2))) (frz c w.drew (owned own2 (o' ++ oy))) oo := fun oo => by
        refine ⟨fun b hb => ⟨⟨hb.1, hb.2.1, fun hx => hb.2.2 ?_⟩, rfl⟩, fun _ _ => rfl⟩
        rcases hx with ⟨k, hk⟩ | hx
        · exact .inl ⟨k, hk⟩
        · exact .inr (ho'l b hx)
      have hrows := (hxs.append hy).keep _ _ _ _ (ag1 _)
      have hge := grownCap_ge w (l.length + ys.length) old e
      have e1 : (xs.toArray ++ news.toArray ++ Builtin.zeroCells z.cells (grownCap w (l.length + ys.length) old e - (l.length + ys.length))) = ((xs ++ news) ++ (Builtin.zeroCells z.cells (grownCap w (l.length + ys.length) old e - (l.length + ys.length))).toList).toArray := by
        apply Array.ext'; simp
      rw [e1]
      refine ⟨w.heap.size :: (o' ++ oy), (core_new C1 _).1, ?_⟩
      have hlen : (l ++ ys).length = l.length + ys.length := by simp
      have hr := rep_row (e := e) (cp := grownCap w (l.length + ys.length) old e) (rest := (Builtin.zeroCells z.cells (grownCap w (l.length + ys.length) old e - (l.length + ys.length))).toList) C1 (by rw [hlen]; exact hge) (by
        simp only [List.length_append, hxl, hnl, Array.length_toList, size_zeroCells, hzs, ← Nat.add_mul]
        apply Nat.mul_le_mul_right
        omega) hrows
      rw [hlen] at hr
      exact hr
    simp only [RepC] at hx
    rcases hx with ⟨rfl, rfl, rfl⟩ | ⟨g, hh, cp, cur, xs, o', rfl, hlo, hg, hcp, hfit, hrows, hatx⟩
    ·
      obtain ⟨lo', C', hr'⟩ := fresh [] [] 0 (by simp [RepRows]) (by simp) (by simp) (by simpa using hm0)
      simp only [List.length_nil, Nat.zero_add, List.nil_append, Array.empty_append] at C' hr' hb h63
      refine ⟨_, _, lo', ?_, C', hr'⟩
      rw [hvy]
      exact run_append_nil (P := P) w t ty e i z ht hi hz ⟨gy, fy, none⟩ ys.length cy news hnl' (hcell w rfl) hm0 (by omega) (by rw [hby]; omega)
    · have hxl := hrows.length
      have hgl : g ∈ lo1 := by rw [hlo]; simp
      have hn1 : lo1.Nodup := (List.nodup_append.1 C.lnd).1
      have hgo : g ∉ o' ∧ o'.Nodup := by rw [hlo] at hn1; exact List.nodup_cons.1 hn1
      have ho'1 : ∀ b ∈ o', b ∈ lo1 := fun b hb => by rw [hlo]; simp [hb]
      by_cases hroom : l.length + ys.length ≤ cp
      ·
        have hg' : w.heap[g]? = some (.cells cur.toList.toArray e (0, 0)) := by simpa using hg
        have hfit' : hh * sz + l.length * sz + news.length ≤ cur.toList.length := by
          have : (hh + (l.length + ys.length)) * sz ≤ (hh + cp) * sz := Nat.mul_le_mul_right _ (by omega)
          rw [Nat.add_mul, Nat.add_mul] at this
          simp only [Array.length_toList]
          omega
        have hst := run_storeCells_at P g (hh * sz + l.length * sz) e news 0 cur w hg (by simpa using hfit') hone
        simp only [Nat.add_zero] at hst
        have hrun : (Builtin.append_ #[t, t] ty #[.slice (some ⟨g, hh * sz, none⟩) l.length cp, vy]).run P w = .ok (.slice (some ⟨g, hh * sz, none⟩) (l.length + ys.length) cp) (w.setRow g (ovw cur.toList (hh * sz + l.length * sz) news).toArray) := by
          have hf := run_firstCells_some (P := P) w i.size ys.length ⟨gy, fy, none⟩ ys.length cy news hnl' (hcell w rfl)
          rw [hvy]
          rw [hsz] at hf
          rw [List.append_assoc] at hst
          simp [Builtin.append_, run_underlying ht, sizeOf, typeInfo, hi, Builtin.lenOf, hroom, hf, Addr.add_lit, hsz, hst, ovw]
        have hgs : g < w.heap.size := (Array.getElem?_eq_some_iff.1 hg).1
        have hE : Ext w (w.setRow g (ovw cur.toList (hh * sz + l.length * sz) news).toArray) [g] := Ext.setRow _ (by simp)
        have hlo' : ∀ b ∈ g :: (o' ++ oy), b ∈ lo1 ++ lo2 := by
          intro b hb
          rcases List.mem_cons.1 hb with rfl | hb
          · simp [hgl]
          · rcases List.mem_append.1 hb with h | h
            · simp [ho'1 b h]
            · simp [hoy b h]
        have hnd : (g :: (o' ++ oy)).Nodup := by
          rw [hlo] at hlod
          simpa using hlod
        have C' := C.world (lo' := g :: (o' ++ oy)) (hE.mono (fun b hb _ => by simp at hb; subst hb; simp [hgl])) hnd (fun b hb => ⟨.inl (hlo' b hb), by have := (C.old b (.inr (hlo' b hb))).2; simpa using this⟩)
        have ag : Agree w (w.setRow g (ovw cur.toList (hh * sz + l.length * sz) news).toArray) (frz c w (owned own2 (lo1 ++ lo2))) (frz c (w.setRow g (ovw cur.toList (hh * sz + l.length * sz) news).toArray) (owned own2 (g :: (o' ++ oy)))) (o' ++ oy) := by
          refine agree_frz hE ?_ (fun b hb _ => by simp at hb; subst hb; exact .inr (by simp [hgl])) ?_
          · rintro b (⟨k, hk⟩ | hb)
            · exact .inl (.inl ⟨k, hk⟩)
            · exact .inl (.inr (hlo' b hb))
          · intro b hb
            refine ⟨(C.old b (.inr (hlo' b (by simp only [List.mem_cons]; exact .inr hb)))).2, fun h => ?_⟩
            simp at h; subst h
            exact (List.nodup_cons.1 hnd).1 hb
        refine ⟨_, _, _, hrun, C', ?_⟩
        simp only [RepC]
        refine .inr ⟨g, hh, cp, _, xs ++ news, o' ++ oy, by simp, rfl, setRow_heap w g cur _ e (0, 0) hg, by simpa using hroom, ?_, (hrows.append hy).keep _ _ _ _ ag, ?_⟩
        · simp only [List.size_toArray]
          rw [ovw_length hfit']
          simpa using hfit
        · intro m u hm
          rw [cell_of_cells (setRow_heap w g cur _ e (0, 0) hg)]
          simp only [List.getElem?_toArray]
          rw [ovw_get hfit']
          rw [List.getElem?_append] at hm
          split at hm
          · rename_i hml
            rw [if_pos (by omega)]
            have := hatx m u hm
            rw [cell_of_cells hg] at this
            simpa using this
          · rename_i hml
            have hml2 : m - xs.length < news.length := (List.getElem?_eq_some_iff.1 hm).1
            rw [if_neg (by omega), if_pos (by omega), show hh * sz + m - (hh * sz + l.length * sz) = m - xs.length from by omega]
            exact hm
      · obtain ⟨lo', C', hr'⟩ := fresh xs o' cp hrows ho'1 hgo.2 (by omega)
        refine ⟨_, _, lo', ?_, C', hr'⟩
        rw [hvy]
        exact run_append_grow (P := P) w t ty e i z ht hi hz ⟨g, hh * sz, none⟩ l.length cp xs (by rw [hsz]; exact hxl) (fun j v hj => by rw [Addr.add_lit]; exact hatx j v hj) ⟨gy, fy, none⟩ ys.length cy news hnl' (hcell w rfl) (by omega) (by omega) (growslice_fits (by omega) (by rw [hby]; exact hb))
def storP : AV → Bool
  | .v _ => true
  | .fsl .. => true
  | .fptr _ => true
  | _ => false
def appV (own : Bool) (e sz bytes : Nat) (st : St) (x y : Opd) (d : Option Nat) (k : K) : Prop :=
  match ownO st x with
  | some (.usl e' sz' l, st1) => e' = e ∧ sz' = sz ∧
    (if own then match ownO st1 y with
      | some (.usl e2 sz2 ys, st2) => sz2 = sz ∧ (l.length + ys.length) * bytes ≤ 140737488355328 ∧ l.length + ys.length ≤ 9223372036854775807 ∧ putS st2 d (.usl e sz (l ++ ys)) k
      | _ => False
    else match rd st1 y with
      | .fsl sz2 ys => (sz2 = sz ∨ ys = []) ∧ (l.length + ys.length) * bytes ≤ 140737488355328 ∧ l.length + ys.length ≤ 9223372036854775807 ∧ putS st1 d (.usl e sz (l ++ ys)) k
      | .sref n p off len => match getC (st1 n) p with
        | some (.usl _ sz2 r) => sz2 = sz ∧ (∀ c ∈ (r.drop off).take len, ∀ u ∈ c, storP u = true) ∧ (l.length + len) * bytes ≤ 140737488355328 ∧ l.length + len ≤ 9223372036854775807 ∧ putS st1 d (.usl e sz (l ++ (r.drop off).take len)) k
        | _ => False
      | _ => False)
  | _ => False
def appOk (P : Program) (t e sz bytes : Nat) : Bool :=
  (match P.underlying t with | some (.slice e') => e' == e | _ => false) && (match P.info? e with | some i => i.size == sz && i.bytes == bytes && (match i.zero with | some z => z.cells.size == sz | none => false) | none => false)
theorem storP_row {w : World} {Fz : Nat → Prop} : ∀ {cs : List AV} {xs : List Value} {o : List Nat}, RepRow w Fz cs xs o → (∀ u ∈ cs, storP u = true) → o = []
  | [], xs, o, h, _ => by simp only [RepRow] at h; exact h.2
  | c :: cs, xs, o, h, hp => by
    simp only [RepRow] at h
    obtain ⟨x, xs', o1, o2, hx, ho, hc, hr⟩ := h
    have h1 := hp c (by simp)
    have h2 : o1 = [] := by
      cases c <;> simp [storP] at h1
      · simp only [RepC] at hc; exact hc.2.2
      · simp only [RepC] at hc; exact hc.1
      · simp only [RepC] at hc; exact hc.1
    rw [ho, h2, storP_row hr (fun u hu => hp u (by simp [hu]))]
    rfl
theorem storP_rows {w : World} {Fz : Nat → Prop} {sz : Nat} : ∀ {cs : List (List AV)} {xs : List Value} {o : List Nat}, RepRows w Fz sz cs xs o → (∀ c ∈ cs, ∀ u ∈ c, storP u = true) → o = []
  | [], xs, o, h, _ => by simp only [RepRows] at h; exact h.2
  | c :: cs, xs, o, h, hp => by
    simp only [RepRows] at h
    obtain ⟨x1, x2, o1, o2, hx, ho, hl, h1, h2⟩ := h
    rw [ho, storP_row h1 (hp c (by simp)), storP_rows h2 (fun c' hc => hp c' (by simp [hc]))]
    rfl
theorem a_app (S : Sim c N st a w) (hN : ∀ e, o.dst = some e → e < N ∧ c.fx e = none) {own : Bool} {t e sz bytes : Nat} {x y : Operand} {x' y' : Opd} (hx : mOpd x x' = true) (hy : mOpd y y' = true)
    (ho : o.op = .call { callee := .builtin .append, args := #[x, y], argTypes := #[t, t] }) (hok : appOk P t e sz bytes = true) {k : K} (h : appV own e sz bytes st x' y' o.dst k) : Ok P c N a w o k Q := by
  obtain ⟨own0, C⟩ := S.core
  simp only [appOk, Bool.and_eq_true] at hok
  obtain ⟨hu, hi⟩ := hok
  split at hu
  rotate_left
  · cases hu
  rename_i e' hu'
  simp only [beq_iff_eq] at hu
  subst hu
  split at hi
  rotate_left
  · cases hi
  rename_i i hi'
  simp only [Bool.and_eq_true, beq_iff_eq] at hi
  obtain ⟨⟨hsz, hby⟩, hz⟩ := hi
  split at hz
  rotate_left
  · cases hz
  rename_i z hzz
  simp only [beq_iff_eq] at hz
  unfold appV at h
  split at h
  rotate_left
  · exact h.elim
  rename_i e2 sz2 l st1 hown
  obtain ⟨rfl, rfl, h⟩ := h
  obtain ⟨own1, lo1, C1, hr1, _⟩ := own_sound C hx hown
  simp only [List.nil_append] at C1 hr1
  simp only [RepV] at hr1
  have fin : ∀ {st2 : St} {own2 : Nat → List Nat} {lo2 oy : List Nat} {ys : List (List AV)} {news : List Value} {A : Option Addr} {cy : Nat}, Core c st2 (tmOf a) w own2 (lo1 ++ lo2) → RepC w (frz c w (owned own2 (lo1 ++ lo2))) (.usl e2 sz2 l) (a.eval x) lo1 →
      RepRows w (frz c w (owned own2 (lo1 ++ lo2))) sz2 ys news oy → (∀ b ∈ oy, b ∈ lo2) → oy.Nodup → a.eval y = .slice A ys.length cy → (ys ≠ [] → ∃ gy fy, A = some ⟨gy, fy, none⟩ ∧ At w gy fy news) →
      l.length + ys.length ≤ 9223372036854775807 → (l.length + ys.length) * bytes ≤ 140737488355328 → putS st2 o.dst (.usl e2 sz2 (l ++ ys)) k → Ok P c N a w o k Q := by
    intro st2 own2 lo2 oy ys news A cy C2 hx2 hy2 hoy hon hvy hat h63 hb hk
    obtain ⟨x', w', lo', hrun, C', hr'⟩ := app_core (P := P) (ty := o.type) C2 hx2 hu' hi' hzz hz hsz hby hy2 hoy hon hvy hat h63 hb
    have hrun' : (execOp a.eval o).run P w = .ok (.value x') w' := by
      simp only [execOp, ho, resolve, Sem.run_bind, Sem.run_pure, Result.andThen_ok, invoke, builtin, List.map_toArray, List.map_cons, List.map_nil, hrun]
    exact fin_value S.defers S.size hN hrun' C' hr'.toV hk
  cases own with
  | true =>
    simp only [if_true] at h
    split at h
    rotate_left
    · exact h.elim
    rename_i e3 sz3 ys st2 hown2
    obtain ⟨rfl, hb, h63, hk⟩ := h
    obtain ⟨own2, lo2, C2, hr2, hX2⟩ := own_sound C1 hy hown2
    simp only [RepV] at hr2
    have hx2 := hr1.keep _ _ _ (frz_sub (oo := lo1) hX2)
    have hr3 := hr2
    simp only [RepC] at hr2
    rcases hr2 with ⟨hv, rfl, rfl⟩ | ⟨g, hh, cp, cur, xs, o', hv, rfl, hg, hcp, hfit, hrows, hat⟩
    · exact fin (ys := []) (news := []) (oy := []) (A := none) (cy := 0) C2 hx2 (by simp [RepRows]) (by simp) (by simp) (by rw [hv]; rfl) (by simp) h63 hb hk
    · have hn := (List.nodup_cons.1 (List.nodup_append.1 C2.lnd).2.1).2
      exact fin C2 hx2 hrows (by simp +contextual) hn hv (fun _ => ⟨_, _, rfl, hat⟩) h63 hb hk
  | false =>
    simp only [Bool.false_eq_true, if_false] at h
    have ry := rd_rep C1 hy
    have C1' : Core c st1 (tmOf a) w own1 (lo1 ++ []) := by simpa using C1
    have hx1' : RepC w (frz c w (owned own1 (lo1 ++ []))) (.usl e2 sz2 l) (a.eval x) lo1 := by simpa using hr1
    split at h
    · rename_i sz3 ys hrd
      obtain ⟨hs, hb, h63, hk⟩ := h
      rw [hrd] at ry
      simp only [RepV, RepC] at ry
      obtain ⟨_, A, cp, hv, _, hl⟩ := ry
      by_cases hys : ys = []
      · subst hys
        exact fin (ys := []) (news := []) (oy := []) C1' hx1' (by simp [RepRows]) (by simp) (by simp) hv (by simp) h63 hb hk
      · rcases hl with hl | ⟨g, hh, xs, hA, hf, hrows, hat⟩
        · exact absurd hl hys
        · have hs' : sz3 = sz2 := hs.resolve_right hys
          subst hs'
          exact fin (oy := []) C1' hx1' (by simpa using hrows) (by simp) (by simp) hv (fun _ => ⟨g, hh, hA, hat⟩) h63 hb hk
    · rename_i n p off len hrd
      split at h
      rotate_left
      · exact h.elim
      rename_i e3 sz3 r hg
      obtain ⟨rfl, hpl, hb, h63, hk⟩ := h
      rw [hrd] at ry
      simp only [RepV] at ry
      obtain ⟨_, s, yv, hloc, hbx, hle, hwin⟩ := ry
      obtain ⟨av, oo, hg', hw, hsh, hrep, hsub⟩ := loc_spot C1 hloc
      rw [hg] at hg'
      obtain rfl := Option.some.inj hg'
      simp only [shapeOf, Option.some.injEq] at hsh
      subst hsh
      obtain ⟨o', hr', _, _⟩ := win_usl hrep hle hwin
      have hlen : ((r.drop off).take len).length = len := by simp at hle ⊢; omega
      rw [← hlen] at hb h63
      simp only [RepC] at hr'
      rcases hr' with ⟨hv, hnil, _⟩ | ⟨g, hh, cp, cur, xs, o'', hv, _, hgg, _, _, hrows, hat⟩
      · rw [hnil] at hb h63 hk
        exact fin (ys := []) (news := []) (oy := []) (A := none) (cy := 0) C1' hx1' (by simp [RepRows]) (by simp) (by simp) (by rw [hv]; rfl) (by simp) h63 hb hk
      · have := storP_rows hrows hpl
        subst this
        exact fin (oy := []) C1' hx1' (by simpa using hrows) (by simp) (by simp) hv (fun _ => ⟨_, _, rfl, hat⟩) h63 hb hk
    · exact h.elim
def delW (e sz : Nat) (st : St) (x y : AV) (d : Option Nat) (k : K) : Prop :=
  match x, y with
  | .sref n p off0 k0, .sref n' p' off len => off0 = 0 ∧ n' = n ∧ p' = p ∧ match getC (st n) p with
    | some (.usl e' sz' l) => e' = e ∧ sz' = sz ∧ k0 ≤ off ∧ off + len = l.length ∧ l ≠ [] ∧ putS (takeS n p st) d (.usl e sz (l.take k0 ++ l.drop off)) k
    | _ => False
  | _, _ => False
theorem core_del {st : St} {tm : Nat → Value} {own : Nat → List Nat} (C : Core c st tm w own []) {n : Nat} {p : List (Nat × Nat)} {off len k0 : Nat} {x y : Value} {e sz : Nat} {l : List (List AV)}
    (hrx : RepV w (frz c w (owned own [])) (locs st tm w) (.sref n p 0 k0) x []) (hry : RepV w (frz c w (owned own [])) (locs st tm w) (.sref n p off len) y [])
    (hg : getC (st n) p = some (.usl e sz l)) (hk : k0 ≤ off) (hol : off + len = l.length) (hne : l ≠ [])
    {t ty : TypeId} {i : TypeInfo} (ht : P.underlying t = some (.slice e)) (hi : P.info? e = some i) (hsz : i.size = sz) :
    ∃ x' w' own' lo', (Builtin.append_ #[t, t] ty #[x, y]).run P w = .ok x' w' ∧ Core c (takeS n p st) tm w' own' lo' ∧ RepC w' (frz c w' (owned own' lo')) (.usl e sz (l.take k0 ++ l.drop off)) x' lo' := by
  simp only [RepV] at hrx hry
  obtain ⟨_, s, yv, hloc, hbx, hle, hwx⟩ := hrx
  obtain ⟨_, s', yv', hloc', _, hle', hwy⟩ := hry
  have hss := Option.some.inj (hloc'.symm.trans hloc)
  simp only [Prod.mk.injEq] at hss
  obtain ⟨rfl, rfl⟩ := hss
  obtain ⟨av, oo, hg', hw, hsh, hrep, hsub⟩ := loc_spot C hloc
  rw [hg] at hg'
  obtain rfl := Option.some.inj hg'
  simp only [shapeOf, Option.some.injEq] at hsh
  subst hsh
  obtain ⟨own', o, C', hrep', hX⟩ := core_take C hw rfl
  simp only [List.nil_append] at C' hX
  simp only [RepC] at hrep'
  rcases hrep' with ⟨_, h, _⟩ | ⟨g, hh, cp, cur, xs, o', hy, ho, hgc, hcp, hfit, hrows, hat⟩
  · exact absurd h hne
  subst ho
  have ex : x = .slice (some ⟨g, hh * sz, none⟩) k0 cp := by
    rcases hwx with ⟨h1, _⟩ | ⟨g', b, n', c', k, cx, h1, h2, h3, h4, h5⟩
    · rw [h1] at hy; cases hy
    · rw [hy] at h1
      simp only [Value.slice.injEq, Option.some.injEq, Addr.mk.injEq, and_true] at h1
      obtain ⟨⟨rfl, rfl⟩, rfl, rfl⟩ := h1
      rcases h5 with ⟨rfl, h6⟩ | ⟨h6, _⟩
      · have : cx = cp := by omega
        subst this
        simpa using h2
      · exact absurd rfl h6
  have ey : ∃ k cy, y = .slice (some ⟨g, hh * sz + k * sz, none⟩) len cy ∧ (len = 0 ∨ k = off) := by
    rcases hwy with ⟨h1, _⟩ | ⟨g', b, n', c', k, cx, h1, h2, h3, h4, h5⟩
    · rw [h1] at hy; cases hy
    · rw [hy] at h1
      simp only [Value.slice.injEq, Option.some.injEq, Addr.mk.injEq, and_true] at h1
      obtain ⟨⟨rfl, rfl⟩, rfl, rfl⟩ := h1
      refine ⟨k, cx, h2, ?_⟩
      rcases h5 with ⟨rfl, _⟩ | ⟨_, h6, _⟩
      · exact .inr rfl
      · exact .inl h6
  obtain ⟨k, cy, rfl, hky⟩ := ey
  subst ex
  have hxl := hrows.length
  obtain ⟨o1, o2, ho1, hr1, hr2⟩ := hrows.split k0 (by omega)
  obtain ⟨o3, o4, ho2, _, hr4⟩ := hr2.split (off - k0) (by simp; omega)
  rw [List.drop_drop, List.drop_drop, show k0 + (off - k0) = off from by omega, ← Nat.add_mul, show k0 + (off - k0) = off from by omega] at hr4
  subst ho1 ho2
  have hnl : (xs.drop (off * sz)).length = len * sz := by
    rw [List.length_drop, hxl, ← hol, Nat.add_mul]; omega
  have hone : ∀ u ∈ xs.drop (off * sz), u.oneCell' = true := hr4.one
  have hcell : ∀ j u, (xs.drop (off * sz))[j]? = some u → w.cell? ((⟨g, hh * sz + k * sz, none⟩ : Addr).add j) = some u := by
    intro j u hj
    rw [Addr.add_lit]
    rcases hky with h0 | h0
    · have : (xs.drop (off * sz)) = [] := List.eq_nil_of_length_eq_zero (by rw [hnl, h0]; simp)
      rw [this] at hj; simp at hj
    · subst h0
      have h1 : xs[k * sz + j]? = some u := by rw [← List.getElem?_drop]; exact hj
      have := hat _ u h1
      rw [Nat.add_assoc]; exact this
  have hkl : k0 + len ≤ l.length := by omega
  have hroom : k0 + len ≤ cp := by omega
  have hfit' : hh * sz + k0 * sz + (xs.drop (off * sz)).length ≤ cur.toList.length := by
    have : (hh + (k0 + len)) * sz ≤ (hh + cp) * sz := Nat.mul_le_mul_right _ (by omega)
    rw [Nat.add_mul, Nat.add_mul] at this
    rw [hnl]
    simp only [Array.length_toList]
    omega
  have hst := run_storeCells_at P g (hh * sz + k0 * sz) e (xs.drop (off * sz)) 0 cur w hgc (by simpa using hfit') hone
  simp only [Nat.add_zero] at hst
  have hrun : (Builtin.append_ #[t, t] ty #[.slice (some ⟨g, hh * sz, none⟩) k0 cp, .slice (some ⟨g, hh * sz + k * sz, none⟩) len cy]).run P w = .ok (.slice (some ⟨g, hh * sz, none⟩) (k0 + len) cp) (w.setRow g (ovw cur.toList (hh * sz + k0 * sz) (xs.drop (off * sz))).toArray) := by
    have hf := run_firstCells_some (P := P) w i.size len ⟨g, hh * sz + k * sz, none⟩ len cy (xs.drop (off * sz)) (by rw [hsz]; exact hnl) hcell
    rw [hsz] at hf
    rw [List.append_assoc] at hst
    simp [Builtin.append_, run_underlying ht, sizeOf, typeInfo, hi, Builtin.lenOf, hroom, hf, Addr.add_lit, hsz, hst, ovw]
  have hgs : g < w.heap.size := (Array.getElem?_eq_some_iff.1 hgc).1
  have hnd0 : (g :: (o1 ++ (o3 ++ o4))).Nodup := by simpa using C'.lnd
  have hnd : (g :: (o1 ++ o4)).Nodup := by
    refine hnd0.sublist (List.Sublist.cons_cons _ (List.Sublist.append (List.Sublist.refl _) (List.sublist_append_right _ _)))
  have hlo' : ∀ b ∈ g :: (o1 ++ o4), b ∈ g :: (o1 ++ (o3 ++ o4)) := by
    intro b hb
    simp only [List.mem_cons, List.mem_append] at hb ⊢
    rcases hb with h | h | h
    · exact .inl h
    · exact .inr (.inl h)
    · exact .inr (.inr (.inr h))
  have hE : Ext w (w.setRow g (ovw cur.toList (hh * sz + k0 * sz) (xs.drop (off * sz))).toArray) [g] := Ext.setRow _ (by simp)
  have C'' := C'.world (lo' := g :: (o1 ++ o4)) (hE.mono (fun b hb _ => by simp at hb; subst hb; simp)) hnd (fun b hb => ⟨.inl (hlo' b hb), by have := (C'.old b (.inr (hlo' b hb))).2; simpa using this⟩)
  have ag : Agree w (w.setRow g (ovw cur.toList (hh * sz + k0 * sz) (xs.drop (off * sz))).toArray) (frz c w (owned own [])) (frz c (w.setRow g (ovw cur.toList (hh * sz + k0 * sz) (xs.drop (off * sz))).toArray) (owned own' (g :: (o1 ++ o4)))) (o1 ++ o4) := by
    refine agree_frz hE ?_ (fun b hb _ => by simp at hb; subst hb; exact (hX _).1 (.inr (by simp))) ?_
    · rintro b (⟨k, hk⟩ | hb)
      · exact .inl ((hX b).1 (.inl ⟨k, hk⟩))
      · exact .inl ((hX b).1 (.inr (hlo' b hb)))
    · intro b hb
      refine ⟨(C'.old b (.inr (hlo' b (by simp only [List.mem_cons]; exact .inr hb)))).2, fun h => ?_⟩
      simp at h; subst h
      exact (List.nodup_cons.1 hnd).1 hb
  refine ⟨_, _, own', _, hrun, C'', ?_⟩
  simp only [RepC]
  have hlen : (l.take k0 ++ l.drop off).length = k0 + len := by simp; omega
  refine .inr ⟨g, hh, cp, _, xs.take (k0 * sz) ++ xs.drop (off * sz), o1 ++ o4, by rw [hlen], rfl, setRow_heap w g cur _ e (0, 0) hgc, by rw [hlen]; exact hroom, ?_, (hr1.append hr4).keep _ _ _ _ ag, ?_⟩
  · simp only [List.size_toArray]
    rw [ovw_length hfit']
    simpa using hfit
  · intro m u hm
    rw [cell_of_cells (setRow_heap w g cur _ e (0, 0) hgc)]
    simp only [List.getElem?_toArray]
    rw [ovw_get hfit']
    have hk0l : (xs.take (k0 * sz)).length = k0 * sz := by
      rw [List.length_take, hxl]
      exact Nat.min_eq_left (Nat.mul_le_mul_right _ (by omega))
    rw [List.getElem?_append, hk0l] at hm
    split at hm
    · rename_i hml
      rw [if_pos (by omega)]
      rw [List.getElem?_take_of_lt hml] at hm
      have := hat m u hm
      rw [cell_of_cells hgc] at this
      simpa using this
    · rename_i hml
      have hml2 : m - k0 * sz < (xs.drop (off * sz)).length := (List.getElem?_eq_some_iff.1 hm).1
      rw [if_neg (by omega), if_pos (by omega), show hh * sz + m - (hh * sz + k0 * sz) = m - k0 * sz from by omega]
      exact hm
theorem a_del (S : Sim c N st a w) (hN : ∀ e, o.dst = some e → e < N ∧ c.fx e = none) {t e sz bytes : Nat} {x y : Operand} {x' y' : Opd} (hx : mOpd x x' = true) (hy : mOpd y y' = true)
    (ho : o.op = .call { callee := .builtin .append, args := #[x, y], argTypes := #[t, t] }) (hok : appOk P t e sz bytes = true) {k : K} (h : delW e sz st (rd st x') (rd st y') o.dst k) : Ok P c N a w o k Q := by
  obtain ⟨own0, C⟩ := S.core
  simp only [appOk, Bool.and_eq_true] at hok
  obtain ⟨hu, hi⟩ := hok
  split at hu
  rotate_left
  · cases hu
  rename_i e' hu'
  simp only [beq_iff_eq] at hu
  subst hu
  split at hi
  rotate_left
  · cases hi
  rename_i i hi'
  simp only [Bool.and_eq_true, beq_iff_eq] at hi
  obtain ⟨⟨hsz, hby⟩, hz⟩ := hi
  have rx := rd_rep C hx
  have ry := rd_rep C hy
  unfold delW at h
  split at h
  rotate_left
  · exact h.elim
  rename_i n p off0 k0 n' p' off len e1 e2
  obtain ⟨rfl, rfl, rfl, h⟩ := h
  rw [e1] at rx
  rw [e2] at ry
  split at h
  rotate_left
  · exact h.elim
  rename_i e3 sz3 l hg
  obtain ⟨rfl, rfl, hk0, hol, hne, hk⟩ := h
  obtain ⟨v, w', own', lo', hrun, C', hr'⟩ := core_del (P := P) (ty := o.type) C rx ry hg hk0 hol hne hu' hi' hsz
  have hrun' : (execOp a.eval o).run P w = .ok (.value v) w' := by
    simp only [execOp, ho, resolve, Sem.run_bind, Sem.run_pure, Result.andThen_ok, invoke, builtin, List.map_toArray, List.map_cons, List.map_nil, hrun]
  exact fin_value S.defers S.size hN hrun' C' hr'.toV hk
end
end Go.AM
namespace Go.AM
set_option linter.unusedVariables false
set_option linter.unusedSimpArgs false
def noL : Locs := fun _ _ => none
mutual
def frzL : AV → AV
  | .v x => .v x
  | .fsl sz l => .fsl sz l
  | .usl _ sz l => .fsl sz (frzRows l)
  | .fptr c => .fptr c
  | .box _ c => .fptr (frzRow c)
  | _ => .dead
def frzRow : List AV → List AV
  | [] => []
  | c :: cs => frzL c :: frzRow cs
def frzRows : List (List AV) → List (List AV)
  | [] => []
  | r :: rs => frzRow r :: frzRows rs
end
theorem frzRow_length : ∀ l, (frzRow l).length = l.length
  | [] => rfl
  | c :: cs => by simp [frzRow, frzRow_length cs]
theorem frzRows_length : ∀ l, (frzRows l).length = l.length
  | [] => rfl
  | c :: cs => by simp [frzRows, frzRows_length cs]
mutual
theorem frz_rep {w : World} {Fz Fz' : Nat → Prop} : ∀ (av : AV) {x : Value} {o : List Nat}, RepC w Fz av x o → (∀ b, Fz b ∨ b ∈ o → Fz' b) → RepC w Fz' (frzL av) x []
  | .v y, x, o, h, hf => by simp only [RepC, frzL] at h ⊢; exact ⟨h.1, h.2.1, trivial⟩
  | .fsl sz l, x, o, h, hf => by
    simp only [frzL]
    have : o = [] := by simp only [RepC] at h; exact h.1
    subst this
    exact h.keep _ _ _ ⟨fun b hb => ⟨hf b (.inl hb), rfl⟩, fun _ _ => rfl⟩
  | .fptr c, x, o, h, hf => by
    simp only [frzL]
    have : o = [] := by simp only [RepC] at h; exact h.1
    subst this
    exact h.keep _ _ _ ⟨fun b hb => ⟨hf b (.inl hb), rfl⟩, fun _ _ => rfl⟩
  | .usl e sz l, x, o, h, hf => by
    simp only [RepC, frzL] at h ⊢
    rcases h with ⟨h1, h2, h3⟩ | ⟨g, hh, c, cur, xs, o', hx, ho, hg, hc, hfit, hr, hat⟩
    · subst h2; exact ⟨trivial, none, 0, by simpa [frzRows] using h1, by simp [frzRows], .inl (by simp [frzRows])⟩
    · subst ho
      refine ⟨trivial, some ⟨g, hh * sz, none⟩, c, by rw [frzRows_length]; exact hx, by rw [frzRows_length]; exact hc, .inr ⟨g, hh * sz, xs, rfl, hf g (.inr (by simp)), ?_, hat⟩⟩
      exact frzs_rep l hr (fun b hb => hf b (by rcases hb with h | h; exact .inl h; exact .inr (by simp [h])))
  | .box e c, x, o, h, hf => by
    simp only [RepC, frzL] at h ⊢
    obtain ⟨g, xs, o', hx, ho, hg, hr⟩ := h
    subst ho
    refine ⟨trivial, g, 0, xs, hx, hf g (.inr (by simp)), frzr_rep c hr (fun b hb => hf b (by rcases hb with h | h; exact .inl h; exact .inr (by simp [h]))), ?_⟩
    intro j u hj
    rw [Nat.zero_add, cell_of_cells hg]
    simpa using hj
  | .dead, x, o, h, hf => by simp only [RepC, frzL] at h ⊢; exact ⟨h.1, trivial⟩
  | .agg _, x, o, h, hf => by simp [RepC] at h
  | .ref _ _ _ _, x, o, h, hf => by simp [RepC] at h
  | .sref _ _ _ _, x, o, h, hf => by simp [RepC] at h
  | .clo _ _, x, o, h, hf => by simp [RepC] at h
  | .tup _, x, o, h, hf => by simp [RepC] at h
theorem frzr_rep {w : World} {Fz Fz' : Nat → Prop} : ∀ (cs : List AV) {xs : List Value} {o : List Nat}, RepRow w Fz cs xs o → (∀ b, Fz b ∨ b ∈ o → Fz' b) → RepRow w Fz' (frzRow cs) xs []
  | [], xs, o, h, hf => by simp only [RepRow, frzRow] at h ⊢; exact ⟨h.1, trivial⟩
  | c :: cs, xs, o, h, hf => by
    simp only [RepRow, frzRow] at h ⊢
    obtain ⟨x, xs', o1, o2, hx, ho, hc, hr⟩ := h
    subst ho
    exact ⟨x, xs', [], [], hx, rfl, frz_rep c hc (fun b hb => hf b (by rcases hb with h | h; exact .inl h; exact .inr (by simp [h]))), frzr_rep cs hr (fun b hb => hf b (by rcases hb with h | h; exact .inl h; exact .inr (by simp [h])))⟩
theorem frzs_rep {w : World} {Fz Fz' : Nat → Prop} {sz : Nat} : ∀ (rs : List (List AV)) {xs : List Value} {o : List Nat}, RepRows w Fz sz rs xs o → (∀ b, Fz b ∨ b ∈ o → Fz' b) → RepRows w Fz' sz (frzRows rs) xs []
  | [], xs, o, h, hf => by simp only [RepRows, frzRows] at h ⊢; exact ⟨h.1, trivial⟩
  | r :: rs, xs, o, h, hf => by
    simp only [RepRows, frzRows] at h ⊢
    obtain ⟨x1, x2, o1, o2, hx, ho, hl, h1, h2⟩ := h
    subst ho
    exact ⟨x1, x2, [], [], hx, rfl, by rw [frzRow_length]; exact hl, frzr_rep r h1 (fun b hb => hf b (by rcases hb with h | h; exact .inl h; exact .inr (by simp [h]))), frzs_rep rs h2 (fun b hb => hf b (by rcases hb with h | h; exact .inl h; exact .inr (by simp [h])))⟩
end
mutual
def frzB (st : St) : AV → AV
  | .v x => .v x
  | .fsl sz l => .fsl sz l
  | .fptr c => .fptr c
  | .usl _ sz l => .fsl sz (frzRows l)
  | .sref n p off len => match getC (st n) p with
    | some (.usl _ sz l) => .fsl sz (frzRows ((l.drop off).take len))
    | _ => .dead
  | .ref n p i k => match getC (st n) p with
    | some (.usl _ _ l) => .fptr (frzRow ((nth l i).drop k))
    | some (.box _ c) => .fptr (frzRow (c.drop k))
    | _ => .dead
  | .agg l => .agg (frzBs st l)
  | .clo f l => .clo f (frzBs st l)
  | .tup _ => .dead
  | .box _ _ => .dead
  | .dead => .dead
def frzBs (st : St) : List AV → List AV
  | [] => []
  | c :: cs => frzB st c :: frzBs st cs
end
mutual
theorem frzB_rep {c : Ctx} {st : St} {tm : Nat → Value} {w : World} {own : Nat → List Nat} {lo : List Nat} (C : Core c st tm w own lo) {Fz' : Nat → Prop} (hf : ∀ b, frz c w (owned own lo) b ∨ (∃ k, b ∈ own k) → Fz' b) :
    ∀ (av : AV) {x : Value}, RepV w (frz c w (owned own lo)) (locs st tm w) av x [] → RepV w Fz' noL (frzB st av) x []
  | .v y, x, h => by simp only [RepV, frzB] at h ⊢; exact h.keep _ _ _ ⟨fun b hb => ⟨hf b (.inl hb), rfl⟩, fun _ _ => rfl⟩
  | .fsl sz l, x, h => by simp only [RepV, frzB] at h ⊢; exact h.keep _ _ _ ⟨fun b hb => ⟨hf b (.inl hb), rfl⟩, fun _ _ => rfl⟩
  | .fptr c', x, h => by simp only [RepV, frzB] at h ⊢; exact h.keep _ _ _ ⟨fun b hb => ⟨hf b (.inl hb), rfl⟩, fun _ _ => rfl⟩
  | .usl e sz l, x, h => by
    simp only [RepV, frzB] at h ⊢
    exact frz_rep (.usl e sz l) h (fun b hb => hf b (by rcases hb with h | h; exact .inl h; simp at h))
  | .sref n p off len, x, h => by
    simp only [RepV] at h
    obtain ⟨_, s, y, hloc, hbx, hle, hwin⟩ := h
    obtain ⟨av, oo, hg, hw, hsh, hrep, hsub⟩ := loc_spot C hloc
    simp only [frzB, hg]
    cases av with
    | usl e sz l =>
      simp only [shapeOf, Option.some.injEq] at hsh
      subst hsh
      obtain ⟨o', hr', hs', _⟩ := win_usl hrep hle hwin
      simp only [RepV]
      exact frz_rep (.usl e sz _) hr' (fun b hb => hf b (by rcases hb with h | h; exact .inl h; exact .inr ⟨n, hsub b (hs' b h)⟩))
    | box e c' => simp only [shapeOf, Option.some.injEq] at hsh; subst hsh; simp at hbx
    | _ => simp [shapeOf] at hsh
  | .ref n p i k, x, h => by
    simp only [RepV] at h
    obtain ⟨_, s, y, b, f, hloc, hadr, hi, hk, hx⟩ := h
    obtain ⟨av, oo, hg, hw, hsh, hrep, hsub⟩ := loc_spot C hloc
    simp only [frzB, hg]
    have fin : ∀ r, rowOf av i = some r → RepV w Fz' noL (.fptr (frzRow (r.drop k))) x [] := by
      intro r hr
      obtain ⟨_, hrl, b', f', xs, o1, hadr', hbo, hrow, hat, hs', _, _⟩ := owner_row hrep hsh hr
      rw [hadr] at hadr'
      obtain ⟨rfl, rfl⟩ : b = b' ∧ f = f' := by simpa using hadr'
      obtain ⟨o2, o3, ho, _, h2⟩ := hrow.split k (by omega)
      simp only [RepV, RepC]
      exact ⟨trivial, b, _, _, hx, hf b (.inr ⟨n, hsub b hbo⟩), frzr_rep _ h2 (fun b' hb => hf b' (by rcases hb with h | h; exact .inl h; exact .inr ⟨n, hsub b' (hs' b' (by rw [ho]; simp [h]))⟩)), hat.dropAll k⟩
    cases av with
    | usl e sz l =>
      simp only [shapeOf, Option.some.injEq] at hsh
      subst hsh
      exact fin _ (by simp only [rowOf, nth]; simp at hi; simp [hi])
    | box e c' =>
      simp only [shapeOf, Option.some.injEq] at hsh
      subst hsh
      simp at hi
      subst hi
      exact fin _ (by simp [rowOf])
    | _ => simp [shapeOf] at hsh
  | .agg l, x, h => by
    simp only [RepV, frzB] at h ⊢
    obtain ⟨xs, hx, h⟩ := h
    exact ⟨xs, hx, frzBs_rep C hf l h⟩
  | .clo f l, x, h => by
    simp only [RepV, frzB] at h ⊢
    obtain ⟨xs, hx, h⟩ := h
    exact ⟨xs, hx, frzBs_rep C hf l h⟩
  | .tup _, x, h => by simp [frzB, RepV]
  | .box _ _, x, h => by simp [frzB, RepV]
  | .dead, x, h => by simp [frzB, RepV]
theorem frzBs_rep {c : Ctx} {st : St} {tm : Nat → Value} {w : World} {own : Nat → List Nat} {lo : List Nat} (C : Core c st tm w own lo) {Fz' : Nat → Prop} (hf : ∀ b, frz c w (owned own lo) b ∨ (∃ k, b ∈ own k) → Fz' b) :
    ∀ (l : List AV) {xs : List Value}, RepVs w (frz c w (owned own lo)) (locs st tm w) l xs [] → RepVs w Fz' noL (frzBs st l) xs []
  | [], xs, h => by simp only [RepVs, frzBs] at h ⊢; exact h
  | d :: cs, xs, h => by
    simp only [RepVs, frzBs] at h ⊢
    obtain ⟨x, xs', o1, o2, hx, ho, hc, hr⟩ := h
    obtain ⟨rfl, rfl⟩ : o1 = [] ∧ o2 = [] := by simpa using ho.symm
    exact ⟨x, xs', [], [], hx, rfl, frzB_rep C hf d hc, frzBs_rep C hf cs hr⟩
end
def whites : List Int := [9, 13, 1, 32, 133, 101, 160, 5760, 5600, 8192, 8202, 1, 8232, 8233, 1, 8239, 8287, 48, 12288, 12288, 1]
structure LaidW (P : Program) (W : World) : Prop where
  sp : ∀ g : Nat, P.globalNamed "strings.asciiSpace" = some g → ∀ c : Nat, c < 256 → W.cell? ⟨g, c, none⟩ = some (.int .u8 (if c = 9 ∨ c = 10 ∨ c = 11 ∨ c = 12 ∨ c = 13 ∨ c = 32 then 1 else 0))
  wh : ∀ g : Nat, P.globalNamed "unicode.White_Space" = some g → ∃ T oT R oR : Nat, W.cell? ⟨g, 0, none⟩ = some (.pointer (some ⟨T, oT, none⟩)) ∧ W.cell? ⟨T, oT, none⟩ = some (.slice (some ⟨R, oR, none⟩) 7 7) ∧
    W.cell? ⟨T, oT + 1, none⟩ = some (.slice none 0 0) ∧ W.cell? ⟨T, oT + 2, none⟩ = some (.int .i64 2) ∧ ∀ i, i < 21 → W.cell? ⟨R, oR + i, none⟩ = some (.int .u16 (whites.getD i 0))
def Glob (P : Program) (w : World) (Fz : Nat → Prop) : Prop := ∃ W0, LaidW P W0 ∧ ∀ b, b < W0.heap.size → Fz b ∧ w.heap[b]? = W0.heap[b]?
structure FzOk (P : Program) (w : World) (Fz : Nat → Prop) : Prop where
  lt : ∀ b, Fz b → b < w.heap.size
  gl : Glob P w Fz
instance {P : Program} {w : World} {Fz : Nat → Prop} : CoeFun (FzOk P w Fz) fun _ => ∀ b, Fz b → b < w.heap.size := ⟨FzOk.lt⟩
class GOk (c : Ctx) (P : Program) : Prop where
  gl : Glob P c.w0 c.Fz
  nf : ∀ b, b ∈ c.own0 → ¬ c.Fz b
  lt : ∀ b, c.Fz b → b < c.w0.heap.size
theorem gok_frz {c : Ctx} {P : Program} [h : GOk c P] {st : Nat → AV} {tm : Nat → Value} {w : World} {own : Nat → List Nat} {lo : List Nat} (C : Core c st tm w own lo) {Fz' : Nat → Prop} (hF : ∀ b, frz c w (owned own lo) b → Fz' b) (hlt : ∀ b, Fz' b → b < w.heap.size) : FzOk P w Fz' := by
  refine ⟨hlt, ?_⟩
  obtain ⟨W0, hL, hg⟩ := h.gl
  refine ⟨W0, hL, fun b hb => ?_⟩
  obtain ⟨h1, h2⟩ := hg b hb
  have h3 := h.lt b h1
  refine ⟨hF b ⟨Nat.lt_of_lt_of_le h3 C.fr.size, .inr (.inl h1), fun ho => ?_⟩, ?_⟩
  · rcases (C.old b ho).1 with h4 | h4
    · exact h.nf b h4 h1
    · omega
  · rw [C.fr.blk b h3 (fun hm => h.nf b hm h1)]; exact h2
def fzP (Fz : Nat → Prop) (w w' : World) (os no : List Nat) (al : Bool) (b : Nat) : Prop := ((al = true ∧ (Fz b ∨ b ∈ os)) ∨ w.heap.size ≤ b) ∧ b < w'.heap.size ∧ b ∉ no
def Con (P : Program) (f : FuncId) (args : List AV) (al : Bool) (res : AV) (outs : List AV) : Prop :=
  ∀ (w : World) (Fz : Nat → Prop) (xs : List Value) (os : List Nat), RepVs w Fz noL args xs os → os.Nodup → (∀ b ∈ os, ¬ Fz b ∧ b < w.heap.size) → FzOk P w Fz →
    Calls P f xs.toArray w fun e w' => ∃ x ox oo, e = .returned x ∧ Ext w w' os ∧ RepV w' (fzP Fz w w' os (ox ++ oo) al) noL res x ox ∧ RepVs w' (fzP Fz w w' os (ox ++ oo) true) noL outs xs oo ∧
      (ox ++ oo).Nodup ∧ ∀ b ∈ ox ++ oo, (b ∈ os ∨ w.heap.size ≤ b) ∧ b < w'.heap.size
def ConE (P : Program) (f : FuncId) (args : List AV) (al : Bool) (R : AV → List AV → Prop) : Prop :=
  ∀ (w : World) (Fz : Nat → Prop) (xs : List Value) (os : List Nat), RepVs w Fz noL args xs os → os.Nodup → (∀ b ∈ os, ¬ Fz b ∧ b < w.heap.size) → FzOk P w Fz →
    Calls P f xs.toArray w fun e w' => ∃ res outs, R res outs ∧ ∃ x ox oo, e = .returned x ∧ Ext w w' os ∧ RepV w' (fzP Fz w w' os (ox ++ oo) al) noL res x ox ∧ RepVs w' (fzP Fz w w' os (ox ++ oo) true) noL outs xs oo ∧
      (ox ++ oo).Nodup ∧ ∀ b ∈ ox ++ oo, (b ∈ os ∨ w.heap.size ≤ b) ∧ b < w'.heap.size
theorem Con.e {P : Program} {f : FuncId} {args outs : List AV} {al : Bool} {res : AV} (h : Con P f args al res outs) {R : AV → List AV → Prop} (hR : R res outs) : ConE P f args al R :=
  fun w Fz xs os h1 h2 h3 h4 => (h w Fz xs os h1 h2 h3 h4).mono fun e w' hh => ⟨res, outs, hR, hh⟩
theorem ConE.con {P : Program} {f : FuncId} {args outs : List AV} {al : Bool} {res : AV} (h : ConE P f args al fun r o => r = res ∧ o = outs) : Con P f args al res outs :=
  fun w Fz xs os h1 h2 h3 h4 => (h w Fz xs os h1 h2 h3 h4).mono (by rintro e w' ⟨_, _, ⟨rfl, rfl⟩, hh⟩; exact hh)
end Go.AM
namespace Go.AM
set_option linter.unusedVariables false
set_option linter.unusedSimpArgs false
def bytesA : List (List AV) → Option (List Int)
  | [] => some []
  | [.v (.int .u8 n)] :: r => (bytesA r).map (n :: ·)
  | _ => none
def strA (ns : List Int) : ByteArray := ns.foldl (fun r n => r.push (UInt8.ofNat n.toNat)) ByteArray.empty
def b2sV (st : St) (x : AV) (k : AV → Prop) : Prop :=
  match frzB st x with
  | .fsl _ l => (match bytesA l with | some ns => k (.v (.string (strA ns))) | none => False)
  | _ => False
def b2sOk (P : Program) (s d : TypeId) : Bool :=
  (match P.underlying s with | some (.slice e) => (match P.underlying e with | some (.int .u8) => true | _ => false) | _ => false) && (match P.underlying d with | some .string => true | _ => false)
theorem bytes_rep {w : World} {Fz : Nat → Prop} {sz : Nat} : ∀ {l : List (List AV)} {xs : List Value} {o : List Nat} {ns : List Int}, RepRows w Fz sz l xs o → bytesA l = some ns → xs = ns.map (Value.int .u8) ∧ ns.length = l.length
  | [], xs, o, ns, h, hb => by
    simp only [RepRows] at h
    simp only [bytesA, Option.some.injEq] at hb
    subst hb
    exact ⟨by rw [h.1]; rfl, rfl⟩
  | r :: rs, xs, o, ns, h, hb => by
    simp only [RepRows] at h
    obtain ⟨x1, x2, o1, o2, rfl, rfl, hl, h1, h2⟩ := h
    unfold bytesA at hb
    split at hb
    · rename_i he; cases he
    · rename_i n r' he
      simp only [List.cons.injEq] at he
      obtain ⟨rfl, rfl⟩ := he
      simp only [Option.map_eq_some_iff] at hb
      obtain ⟨ns', hb, rfl⟩ := hb
      obtain ⟨rfl, hlen⟩ := bytes_rep h2 hb
      simp only [RepRow, RepC] at h1
      obtain ⟨x, xs', p1, p2, rfl, _, hx, hxs, _⟩ := h1
      rw [hx.1, hxs]
      exact ⟨rfl, by simp [hlen]⟩
    · cases hb
section
variable {P : Program} {o : Oper} {c : Ctx} {st : St} {a : Act} {w : World} {own : Nat → List Nat} {lo : List Nat}
theorem q_b2s (C : Core c st (tmOf a) w own lo) {s d : TypeId} {x : Operand} {x' : Opd} (hx : mOpd x x' = true) (ho : o.op = .convert s d x) (hok : b2sOk P s d = true) {k : AV → Prop} (h : b2sV st (rd st x') k) : QRes P o c st a w own lo k := by
  have rx := rd_rep C hx
  have rf := frzB_rep C (Fz' := fun b => frz c w (owned own lo) b ∨ ∃ k, b ∈ own k) (fun _ h => h) _ rx
  unfold b2sV at h
  split at h
  rotate_left
  · exact h.elim
  rename_i sz l hf
  split at h
  rotate_left
  · exact h.elim
  rename_i ns hns
  rw [hf] at rf
  simp only [RepV, RepC] at rf
  obtain ⟨_, A, cp, hxv, hcp, hl⟩ := rf
  simp only [b2sOk, Bool.and_eq_true] at hok
  obtain ⟨h1, h2⟩ := hok
  split at h1
  rotate_left
  · cases h1
  rename_i e hs
  split at h1
  rotate_left
  · cases h1
  rename_i he
  split at h2
  rotate_left
  · cases h2
  rename_i hd
  refine ⟨.string (strA ns), _, fun w' hS0 => ?_, by simp [RepV, RepC, Value.oneCell'], h⟩
  have hS := hS0 (by rw [ho]; rfl)
  have hconv := run_convert_bytes_string w' s d e A l.length cp hs he hd
  have key : (Conv.bytesToString (.slice A l.length cp)).run P w' = .ok (.string (strA ns)) w' := by
    rcases hl with rfl | ⟨g, hh, xs, rfl, hfz, hrows, hat⟩
    · simp only [bytesA, Option.some.injEq] at hns
      subst hns
      cases A with
      | none => simp [Conv.bytesToString, strA]
      | some ad =>
        exact run_bytesToString w' ad 0 cp [] (by have := run_loadCells_list (P := P) w' ad [] (by simp); simpa using this)
    · obtain ⟨rfl, hlen⟩ := bytes_rep hrows hns
      refine run_bytesToString w' ⟨g, hh, none⟩ l.length cp ns ?_
      have hbk : w'.heap[g]? = w.heap[g]? := hS g (by rcases hfz with h | ⟨k, h⟩; exact .inl h; exact .inr (.inl ⟨k, h⟩))
      have := run_loadCells_list (P := P) w' ⟨g, hh, none⟩ (ns.map (Value.int .u8)) (fun j v hv => by rw [Addr.add_lit]; exact (hat.of_block hbk) j v hv)
      rw [List.length_map, hlen] at this
      exact this
  simp only [execOp, ho, hxv, Sem.run_bind, hconv, key, Result.andThen_ok, Sem.run_pure]
end
end Go.AM
namespace Go.AM
set_option linter.unusedVariables false
set_option linter.unusedSimpArgs false
inductive Arg where
  | lend (y : Opd)
  | give (y : Opd)
  | io (y : Opd)
def Arg.opd : Arg → Opd
  | .lend y => y
  | .give y => y
  | .io y => y
def frzA : AV → AV
  | .agg l => .agg (frzRow l)
  | .clo f l => if plains l then .clo f l else .dead
  | av => frzL av
theorem frzRow_rep {w : World} {Fz Fz' : Nat → Prop} {L : Locs} : ∀ {l : List AV} {xs : List Value} {o : List Nat}, RepVs w Fz L l xs o → (∀ b, Fz b ∨ b ∈ o → Fz' b) → RepVs w Fz' noL (frzRow l) xs []
  | [], xs, o, h, hf => by simp only [RepVs, frzRow] at h ⊢; exact ⟨h.1, trivial⟩
  | c :: cs, xs, o, h, hf => by
    simp only [RepVs, frzRow] at h ⊢
    obtain ⟨x, xs', o1, o2, hx, ho, hc, hr⟩ := h
    subst ho
    refine ⟨x, xs', [], [], hx, rfl, ?_, frzRow_rep hr (fun b hb => hf b (by rcases hb with h | h; exact .inl h; exact .inr (by simp [h])))⟩
    have hf' : ∀ b, Fz b ∨ b ∈ o1 → Fz' b := fun b hb => hf b (by rcases hb with h | h; exact .inl h; exact .inr (by simp [h]))
    cases c <;> simp only [RepV] at hc <;> first | exact (frz_rep _ hc hf').toV | simp [frzL, RepV]
theorem frzA_rep {w : World} {Fz Fz' : Nat → Prop} {L : Locs} {av : AV} {x : Value} {o : List Nat} (h : RepV w Fz L av x o) (hf : ∀ b, Fz b ∨ b ∈ o → Fz' b) : RepV w Fz' noL (frzA av) x [] := by
  cases av with
  | agg l =>
    simp only [RepV, frzA] at h ⊢
    obtain ⟨xs, hx, h⟩ := h
    exact ⟨xs, hx, frzRow_rep h hf⟩
  | clo f l =>
    simp only [frzA]
    split
    · rename_i hp
      exact plain_rep (.clo f l) h (by simpa [plain] using hp) ⟨fun b hb => ⟨hf b (.inl hb), rfl⟩, fun _ _ => rfl⟩
    · simp [RepV]
  | v y => simp only [RepV] at h; exact (frz_rep _ h hf).toV
  | fsl sz l => simp only [RepV] at h; exact (frz_rep _ h hf).toV
  | usl e sz l => simp only [RepV] at h; exact (frz_rep _ h hf).toV
  | fptr cs => simp only [RepV] at h; exact (frz_rep _ h hf).toV
  | box e cs => simp only [RepV] at h; exact (frz_rep _ h hf).toV
  | ref _ _ _ _ => simp [frzA, frzL, RepV]
  | sref _ _ _ _ => simp [frzA, frzL, RepV]
  | tup _ => simp [frzA, frzL, RepV]
  | dead => simp [frzA, frzL, RepV]
def giveS (st : St) : List Arg → Option (List AV × St)
  | [] => some ([], st)
  | .give y :: as => match ownO st y with
    | some (av, st1) => (giveS st1 as).map fun r => (frzA av :: r.1, r.2)
    | none => none
  | .lend _ :: as => (giveS st as).map fun r => (.dead :: r.1, r.2)
  | .io _ :: as => (giveS st as).map fun r => (.dead :: r.1, r.2)
def ioOf (st : St) (y : Opd) : Option (Nat × List (Nat × Nat) × AV) :=
  match rd st y with
  | .sref n p off len => match getC (st n) p with
    | some (.usl e sz l) => if off = 0 ∧ len = l.length then some (n, p, .usl e sz l) else none
    | _ => none
  | .ref n p i k => match getC (st n) p with
    | some (.box e c) => if i = 0 ∧ k = 0 then some (n, p, .box e c) else none
    | _ => none
  | _ => none
def ioAll (st : St) : List Arg → List (Option (Nat × List (Nat × Nat) × AV))
  | [] => []
  | .io y :: as => ioOf st y :: ioAll st as
  | .lend _ :: as => ioAll st as
  | .give _ :: as => ioAll st as
def argL (st : St) : List Arg → List AV → List AV
  | .lend y :: as, g :: gs => frzB st (rd st y) :: argL st as gs
  | .give _ :: as, g :: gs => g :: argL st as gs
  | .io y :: as, g :: gs => (match ioOf st y with | some (_, _, av) => av | none => .dead) :: argL st as gs
  | _, _ => []
def lendPlain (st : St) : List Arg → Bool
  | [] => true
  | .lend y :: as => plain (rd st y) && lendPlain st as
  | .give _ :: as => lendPlain st as
  | .io _ :: as => lendPlain st as
def outL (out : AV) : List Arg → List AV
  | [] => []
  | .io _ :: as => out :: outL out as
  | .lend _ :: as => .dead :: outL out as
  | .give _ :: as => .dead :: outL out as
mutual
theorem plain_frzB {st : St} : ∀ (av : AV), plain av = true → frzB st av = av
  | .agg l, h => by simp only [frzB, plains_frzB l (by simpa [plain] using h)]
  | .clo f l, h => by simp only [frzB, plains_frzB l (by simpa [plain] using h)]
  | .v _, h => rfl
  | .fsl _ _, h => rfl
  | .fptr _, h => rfl
  | .tup _, h => by simp [plain] at h
  | .usl _ _ _, h => by simp [plain] at h
  | .box _ _, h => by simp [plain] at h
  | .ref _ _ _ _, h => by simp [plain] at h
  | .sref _ _ _ _, h => by simp [plain] at h
  | .dead, h => by simp [plain] at h
theorem plains_frzB {st : St} : ∀ (l : List AV), plains l = true → frzBs st l = l
  | [], h => rfl
  | c :: cs, h => by
    simp only [plains, Bool.and_eq_true] at h
    simp only [frzBs, plain_frzB c h.1, plains_frzB cs h.2]
end
def fnOk (P : Program) (f : FuncId) : Bool :=
  match P.funcs[f]? with
  | some fn => !(fn.name == "runtime.NumGoroutine") && fn.body.isSome
  | none => false
def calleeV (st : St) (y : Opd) : Option (FuncId × List AV) :=
  match rd st y with
  | .clo f caps => if plains caps then some (f, caps) else none
  | _ => none
def Does (P : Program) (f : FuncId) (args : List AV) (al : Bool) (res : AV) (outs : List AV) : Prop := fnOk P f = true ∧ Con P f args al res outs
def DoesE (P : Program) (f : FuncId) (args : List AV) (al : Bool) (R : AV → List AV → Prop) : Prop := fnOk P f = true ∧ ConE P f args al R
def callV (P : Program) (y : Opd) (al : Bool) (as : List Arg) (st : St) (d : Option Nat) (k : K) : Prop :=
  match giveS st as with
  | some (gs, st1) => (match calleeV st1 y with
    | some (f, caps) => (match ioAll st1 as with
      | [] => (al = true → lendPlain st1 as = true) ∧ ∃ R : AV → Prop, DoesE P f (argL st1 as gs ++ caps) al (fun r o => R r ∧ o = outL .dead as ++ caps.map fun _ => AV.dead) ∧ ∀ r, R r → putS st1 d r k
      | [some (n, p, av)] => lendPlain st1 as = true ∧ caps = [] ∧ ∃ R : AV → AV → Prop, DoesE P f (argL st1 as gs) al (fun r o => ∃ out, R r out ∧ o = outL out as) ∧ ∀ r out, R r out → isOwner out = true ∧ shapeOf out = shapeOf av ∧ putS (setS n p out st1) d r k
      | _ => False)
    | none => False)
  | none => False
section
variable {P : Program} {o : Oper} {c : Ctx} {N : Nat} {st : St} {a : Act} {w : World} {Q : Exit → Act → World → Prop}
def mArgs (xs : List Operand) (as : List Arg) : Bool := xs.length == as.length && (xs.zip as).all fun p => mOpd p.1 p.2.opd
theorem mArgs_cons {x : Operand} {xs : List Operand} {g : Arg} {as : List Arg} (h : mArgs (x :: xs) (g :: as) = true) : mOpd x g.opd = true ∧ mArgs xs as = true := by
  simp only [mArgs, List.length_cons, Bool.and_eq_true, beq_iff_eq, List.zip_cons_cons, List.all_cons] at h ⊢
  exact ⟨h.2.1, by omega, h.2.2⟩
def GivenOk (w : World) (Fz : Nat → Prop) (a : Act) : List Operand → List Arg → List AV → Prop
  | x :: xs, .give _ :: as, g :: gs => RepV w Fz noL g (a.eval x) [] ∧ GivenOk w Fz a xs as gs
  | x :: xs, _ :: as, g :: gs => GivenOk w Fz a xs as gs
  | [], [], [] => True
  | _, _, _ => False
theorem give_sound : ∀ {xs : List Operand} {as : List Arg} {st st1 : St} {own : Nat → List Nat} {gs : List AV}, Core c st (tmOf a) w own [] → mArgs xs as = true → giveS st as = some (gs, st1) →
    ∃ own1, Core c st1 (tmOf a) w own1 [] ∧ GivenOk w (frz c w (owned own1 [])) a xs as gs ∧ ∀ b, owned own1 [] b → owned own [] b
  | [], [], st, st1, own, gs, C, _, h => by
    simp only [giveS, Option.some.injEq, Prod.mk.injEq] at h
    obtain ⟨rfl, rfl⟩ := h
    exact ⟨own, C, trivial, fun _ h => h⟩
  | [], g :: as, st, st1, own, gs, C, hm, h => by simp [mArgs] at hm
  | x :: xs, [], st, st1, own, gs, C, hm, h => by simp [mArgs] at hm
  | x :: xs, .lend y :: as, st, st1, own, gs, C, hm, h => by
    simp only [giveS, Option.map_eq_some_iff] at h
    obtain ⟨⟨gs', st2⟩, hp, he⟩ := h
    simp only [Prod.mk.injEq] at he
    obtain ⟨rfl, rfl⟩ := he
    obtain ⟨own1, C1, hg, hX⟩ := give_sound C (mArgs_cons hm).2 hp
    exact ⟨own1, C1, hg, hX⟩
  | x :: xs, .io y :: as, st, st1, own, gs, C, hm, h => by
    simp only [giveS, Option.map_eq_some_iff] at h
    obtain ⟨⟨gs', st2⟩, hp, he⟩ := h
    simp only [Prod.mk.injEq] at he
    obtain ⟨rfl, rfl⟩ := he
    obtain ⟨own1, C1, hg, hX⟩ := give_sound C (mArgs_cons hm).2 hp
    exact ⟨own1, C1, hg, hX⟩
  | x :: xs, .give y :: as, st, st1, own, gs, C, hm, h => by
    simp only [giveS] at h
    split at h
    rotate_left
    · cases h
    rename_i av st2 hown
    simp only [Option.map_eq_some_iff] at h
    obtain ⟨⟨gs', st3⟩, hp, he⟩ := h
    simp only [Prod.mk.injEq] at he
    obtain ⟨rfl, rfl⟩ := he
    obtain ⟨own2, lo2, C2, hr2, hX2⟩ := own_sound C (mArgs_cons hm).1 hown
    simp only [List.nil_append] at C2 hr2 hX2
    have C3 := C2.world (lo' := []) (Ext.refl w _) (by simp) (by simp)
    have hX3 : ∀ b, owned own2 [] b → owned own2 lo2 b := by
      rintro b (⟨k, hk⟩ | hb)
      · exact .inl ⟨k, hk⟩
      · simp at hb
    obtain ⟨own1, C1, hg, hX⟩ := give_sound C3 (mArgs_cons hm).2 hp
    refine ⟨own1, C1, ⟨frzA_rep hr2 ?_, hg⟩, fun b hb => hX2 b (hX3 b (hX b hb))⟩
    intro b hb
    rcases hb with hb | hb
    · exact ⟨hb.1, hb.2.1, fun hx => hb.2.2 (hX3 b (hX b hx))⟩
    · have ho := C2.old b (.inr hb)
      refine ⟨ho.2, ?_, fun hx => ?_⟩
      · rcases ho.1 with h | h
        · exact .inr (.inr h)
        · exact .inl h
      · rcases hX b hx with ⟨k, hk⟩ | hx
        · exact C2.ldj k b hk hb
        · simp at hx
theorem arg_rep0 {st1 : St} {own1 : Nat → List Nat} (C : Core c st1 (tmOf a) w own1 []) {Fz' : Nat → Prop} (hf : ∀ b, frz c w (owned own1 []) b → Fz' b) :
    ∀ {xs : List Operand} {as : List Arg} {gs : List AV}, mArgs xs as = true → GivenOk w (frz c w (owned own1 [])) a xs as gs → ((∀ b, (∃ k, b ∈ own1 k) → Fz' b) ∨ lendPlain st1 as = true) → ioAll st1 as = [] →
    RepVs w Fz' noL (argL st1 as gs) (xs.map a.eval) []
  | [], [], gs, _, hg, _, _ => by cases gs <;> simp [GivenOk] at hg; simp [argL, RepVs]
  | [], g :: as, gs, hm, _, _, _ => by simp [mArgs] at hm
  | x :: xs, [], gs, hm, _, _, _ => by simp [mArgs] at hm
  | x :: xs, .lend y :: as, [], hm, hg, _, _ => hg.elim
  | x :: xs, .give y :: as, [], hm, hg, _, _ => hg.elim
  | x :: xs, .io y :: as, gs, hm, hg, _, hi => by simp [ioAll] at hi
  | x :: xs, .lend y :: as, g :: gs, hm, hg, hl, hi => by
    obtain ⟨h1, h2⟩ := mArgs_cons hm
    simp only [GivenOk] at hg
    simp only [argL, List.map_cons, RepVs]
    have rx := rd_rep C h1
    refine ⟨_, _, [], [], rfl, rfl, ?_, arg_rep0 C hf h2 hg ?_ (by simpa [ioAll] using hi)⟩
    · rcases hl with hl | hl
      · exact frzB_rep C (fun b hb => by rcases hb with h | h; exact hf b h; exact hl b h) _ rx
      · simp only [lendPlain, Bool.and_eq_true] at hl
        have hp := plain_rep (L' := locs st1 (tmOf a) w) _ rx hl.1 ⟨fun b hb => ⟨hf b hb, rfl⟩, fun _ _ => rfl⟩
        rw [plain_frzB _ hl.1]
        exact plain_rep (L' := noL) _ rx hl.1 ⟨fun b hb => ⟨hf b hb, rfl⟩, fun _ _ => rfl⟩
    · rcases hl with hl | hl
      · exact .inl hl
      · simp only [lendPlain, Bool.and_eq_true] at hl; exact .inr hl.2
  | x :: xs, .give y :: as, g :: gs, hm, hg, hl, hi => by
    obtain ⟨h1, h2⟩ := mArgs_cons hm
    simp only [GivenOk] at hg
    simp only [argL, List.map_cons, RepVs]
    refine ⟨_, _, [], [], rfl, rfl, ?_, arg_rep0 C hf h2 hg.2 (by rcases hl with hl | hl; exact .inl hl; exact .inr (by simpa [lendPlain] using hl)) (by simpa [ioAll] using hi)⟩
    have := hg.1.keep (K := fun _ _ => false) (L' := noL) (fun _ _ _ _ h => h) _ _ _ (⟨fun b hb => ⟨hf b hb, rfl⟩, fun _ _ => rfl⟩ : Agree w w _ Fz' [])
    rwa [killV_none] at this
theorem deads_own {Fz : Nat → Prop} {L : Locs} : ∀ {as : List Arg} {xs : List Value} {oo : List Nat}, RepVs w Fz L (outL .dead as) xs oo → oo = []
  | [], xs, oo, h => by simp only [outL, RepVs] at h; exact h.2
  | .lend _ :: as, xs, oo, h => by
    simp only [outL, RepVs] at h; obtain ⟨x, xs', o1, o2, _, ho, hc, hr⟩ := h
    simp only [RepV] at hc; rw [ho, hc, deads_own hr]; rfl
  | .give _ :: as, xs, oo, h => by
    simp only [outL, RepVs] at h; obtain ⟨x, xs', o1, o2, _, ho, hc, hr⟩ := h
    simp only [RepV] at hc; rw [ho, hc, deads_own hr]; rfl
  | .io _ :: as, xs, oo, h => by
    simp only [outL, RepVs] at h; obtain ⟨x, xs', o1, o2, _, ho, hc, hr⟩ := h
    simp only [RepV] at hc; rw [ho, hc, deads_own hr]; rfl
theorem repVs_app {Fz : Nat → Prop} {L : Locs} : ∀ {l l2 : List AV} {xs ys : List Value}, RepVs w Fz L l xs [] → RepVs w Fz L l2 ys [] → RepVs w Fz L (l ++ l2) (xs ++ ys) []
  | [], l2, xs, ys, h, h2 => by simp only [RepVs] at h; rw [h.1]; exact h2
  | d :: l, l2, xs, ys, h, h2 => by
    simp only [RepVs, List.cons_append] at h ⊢
    obtain ⟨x, xs', o1, o2, rfl, ho, hc, hr⟩ := h
    obtain ⟨rfl, rfl⟩ : o1 = [] ∧ o2 = [] := by simpa using ho.symm
    exact ⟨x, xs' ++ ys, [], [], rfl, rfl, hc, repVs_app hr h2⟩
theorem deadl_own {Fz : Nat → Prop} {L : Locs} : ∀ {l : List AV} {xs : List Value} {oo : List Nat}, RepVs w Fz L l xs oo → (∀ x ∈ l, x = .dead) → oo = []
  | [], xs, oo, h, _ => by simp only [RepVs] at h; exact h.2
  | d :: l, xs, oo, h, hd => by
    simp only [RepVs] at h
    obtain ⟨x, xs', o1, o2, _, ho, hc, hr⟩ := h
    rw [hd d (by simp)] at hc
    simp only [RepV] at hc
    rw [ho, hc, deadl_own hr (fun x hx => hd x (by simp [hx]))]
    rfl
theorem outL_deads : ∀ {as : List Arg} {x : AV}, x ∈ outL .dead as → x = .dead
  | [], x, h => by simp [outL] at h
  | .lend _ :: as, x, h => by simp only [outL, List.mem_cons] at h; rcases h with h | h; exact h; exact outL_deads h
  | .give _ :: as, x, h => by simp only [outL, List.mem_cons] at h; rcases h with h | h; exact h; exact outL_deads h
  | .io _ :: as, x, h => by simp only [outL, List.mem_cons] at h; rcases h with h | h; exact h; exact outL_deads h
theorem deads_own' {Fz : Nat → Prop} {L : Locs} {as : List Arg} {caps : List AV} {xs : List Value} {oo : List Nat} (h : RepVs w Fz L (outL .dead as ++ caps.map fun _ => AV.dead) xs oo) : oo = [] := by
  refine deadl_own h fun x hx => ?_
  rcases List.mem_append.1 hx with h | h
  · exact outL_deads h
  · obtain ⟨_, _, rfl⟩ := List.mem_map.1 h; rfl
theorem core_call0 [GOk c P] {st1 : St} {own1 : Nat → List Nat} (C : Core c st1 (tmOf a) w own1 []) {f : FuncId} {al : Bool} {as : List Arg} {gs : List AV} {xs : List Operand} {R : AV → Prop} (hm : mArgs xs as = true) (hg : GivenOk w (frz c w (owned own1 [])) a xs as gs)
    (hio : ioAll st1 as = []) (hal : al = true → lendPlain st1 as = true) {caps : List AV} {cv : List Value} (hcv : RepVs w (frz c w (owned own1 [])) noL caps cv []) (hcon : ConE P f (argL st1 as gs ++ caps) al (fun r o => R r ∧ o = outL .dead as ++ caps.map fun _ => AV.dead)) :
    Calls P f (xs.map a.eval ++ cv).toArray w fun e w' => ∃ res x ox, R res ∧ e = .returned x ∧ Ext w w' [] ∧ Core c st1 (tmOf a) w' own1 ox ∧ RepV w' (frz c w' (owned own1 ox)) (locs st1 (tmOf a) w') res x ox := by
  let Fz' : Nat → Prop := fun b => if al then frz c w (owned own1 []) b else (frz c w (owned own1 []) b ∨ ∃ k, b ∈ own1 k)
  have hlt : ∀ b, Fz' b → b < w.heap.size := by
    intro b hb
    cases al <;> simp only [Fz', if_true, Bool.false_eq_true, if_false] at hb
    · rcases hb with h | h
      · exact h.1
      · exact (C.old b (.inl h)).2
    · exact hb.1
  have hF1 : ∀ b, frz c w (owned own1 []) b → Fz' b := by
    intro b hb; cases al <;> simp only [Fz', if_true, Bool.false_eq_true, if_false]
    · exact .inl hb
    · exact hb
  have hcv' : RepVs w Fz' noL caps cv [] := by
    have := hcv.keep (K := fun _ _ => false) (L' := noL) (fun _ _ _ _ h => h) _ _ _ (⟨fun b hb => ⟨hF1 b hb, rfl⟩, fun _ _ => rfl⟩ : Agree w w _ Fz' [])
    have e : killVs (fun _ _ => false) caps = caps := by
      have := killV_none (.agg caps); simpa [killV] using this
    rwa [e] at this
  have hrep : RepVs w Fz' noL (argL st1 as gs ++ caps) (xs.map a.eval ++ cv) [] := by
    refine repVs_app ?_ hcv'
    refine arg_rep0 C ?_ hm hg ?_ hio
    · intro b hb; cases al <;> simp only [Fz', if_true, Bool.false_eq_true, if_false]
      · exact .inl hb
      · exact hb
    · cases hal' : al with
      | true => exact .inr (hal hal')
      | false => exact .inl fun b hb => by simp only [Fz', hal', Bool.false_eq_true, if_false]; exact .inr hb
  refine (hcon w Fz' _ [] hrep (by simp) (by simp) (gok_frz C hF1 hlt)).mono ?_
  rintro e w' ⟨res, outs, ⟨hR, rfl⟩, x, ox, oo, rfl, hext, hres, hout, hnd, hmem⟩
  have hoo := deads_own' hout
  subst hoo
  simp only [List.append_nil] at hres hnd hmem
  have C' := C.world (lo' := ox) hext hnd (fun b hb => ⟨by rcases (hmem b hb).1 with h | h; simp at h; exact .inr h, (hmem b hb).2⟩)
  refine ⟨res, x, ox, hR, rfl, hext, C', ?_⟩
  have := hres.keep (K := fun _ _ => false) (L' := locs st1 (tmOf a) w') (fun _ _ _ _ h => by simp [noL] at h) _ _ _ (w' := w') (Fz' := frz c w' (owned own1 ox)) (by
    refine ⟨fun b hb => ⟨?_, rfl⟩, fun _ _ => rfl⟩
    obtain ⟨h1, h2, h3⟩ := hb
    have hown : ∀ k, b ∈ own1 k → w.heap.size ≤ b → False := fun k hk hle => by have := (C.old b (.inl ⟨k, hk⟩)).2; omega
    rcases h1 with ⟨hal', hF⟩ | h1
    · rcases hF with hF | hF
      · simp only [Fz', hal', if_true] at hF
        refine ⟨h2, hF.2.1, ?_⟩
        rintro (⟨k, hk⟩ | hx)
        · exact hF.2.2 (.inl ⟨k, hk⟩)
        · exact h3 hx
      · simp at hF
    · refine ⟨h2, .inl (Nat.le_trans C.fr.size h1), ?_⟩
      rintro (⟨k, hk⟩ | hx)
      · exact hown k hk h1
      · exact h3 hx)
  rwa [killV_none] at this
theorem ioOf_rep {st1 : St} {own1 : Nat → List Nat} (C : Core c st1 (tmOf a) w own1 []) {x : Operand} {y : Opd} (hx : mOpd x y = true) {n : Nat} {p : List (Nat × Nat)} {av : AV} (h : ioOf st1 y = some (n, p, av)) :
    walk w (st1 n) (tmOf a n) p = some (av, a.eval x) ∧ isOwner av = true := by
  have rx := rd_rep C hx
  unfold ioOf at h
  split at h
  · rename_i m q off len hrd
    rw [hrd] at rx
    simp only [RepV] at rx
    obtain ⟨_, s, z, hloc, hbx, hle, hwin⟩ := rx
    obtain ⟨av0, oo, hg, hw, hsh, hrep, hsub⟩ := loc_spot C hloc
    split at h
    · rename_i e sz l hg2
      split at h
      · rename_i hof
        obtain ⟨rfl, rfl⟩ := hof
        simp only [Option.some.injEq, Prod.mk.injEq] at h
        obtain ⟨rfl, rfl, rfl⟩ := h
        rw [hg] at hg2
        obtain rfl := Option.some.inj hg2
        refine ⟨?_, rfl⟩
        rw [hw]
        congr 2
        simp only [RepC] at hrep
        rcases hwin with ⟨h1, h2, _, _⟩ | ⟨g, b, n', cp, k, cx, hy, hxx, hlc, hkc, hko⟩
        · rw [h1, h2]
        · rcases hrep with ⟨h1, _⟩ | ⟨g', hh, cp', cur, xs, o', hy', _, _, hcp, _⟩
          · rw [h1] at hy; simp at hy
          · rcases hko with ⟨rfl, hkc'⟩ | ⟨h0, _⟩
            · rw [hy'] at hy ⊢
              simp only [Value.slice.injEq, Option.some.injEq, Addr.mk.injEq, and_true] at hy
              obtain ⟨⟨rfl, rfl⟩, rfl, rfl⟩ := hy
              rw [hxx]
              simp at hkc' ⊢
              exact hkc'.symm
            · exact absurd rfl h0
      · cases h
    · cases h
  · rename_i m q i k hrd
    rw [hrd] at rx
    simp only [RepV] at rx
    obtain ⟨_, s, z, b, f, hloc, hadr, hi, hk, hxx⟩ := rx
    obtain ⟨av0, oo, hg, hw, hsh, hrep, hsub⟩ := loc_spot C hloc
    split at h
    · rename_i e cs hg2
      split at h
      · rename_i hof
        obtain ⟨rfl, rfl⟩ := hof
        simp only [Option.some.injEq, Prod.mk.injEq] at h
        obtain ⟨rfl, rfl, rfl⟩ := h
        rw [hg] at hg2
        obtain rfl := Option.some.inj hg2
        refine ⟨?_, rfl⟩
        rw [hw]
        congr 2
        simp only [RepC] at hrep
        obtain ⟨g, xs, o', hy', _⟩ := hrep
        rw [hy'] at hadr ⊢
        simp only [addrOf, Option.some.injEq, Prod.mk.injEq] at hadr
        rw [hxx, ← hadr.1, ← hadr.2]
        simp
      · cases h
    · cases h
  · cases h
theorem outL_dead {st1 : St} {out : AV} : ∀ {as : List Arg}, ioAll st1 as = [] → outL out as = outL .dead as
  | [], _ => rfl
  | .lend _ :: as, h => by simp only [outL, outL_dead (as := as) (by simpa [ioAll] using h)]
  | .give _ :: as, h => by simp only [outL, outL_dead (as := as) (by simpa [ioAll] using h)]
  | .io _ :: as, h => by simp [ioAll] at h
theorem arg_rep1 {st1 : St} {own1 : Nat → List Nat} (C : Core c st1 (tmOf a) w own1 []) {n : Nat} {p : List (Nat × Nat)} {av : AV} :
    ∀ {xs : List Operand} {as : List Arg} {gs : List AV}, mArgs xs as = true → GivenOk w (frz c w (owned own1 [])) a xs as gs → lendPlain st1 as = true → ioAll st1 as = [some (n, p, av)] →
    ∃ y, walk w (st1 n) (tmOf a n) p = some (av, y) ∧ isOwner av = true ∧ (∀ o, RepC w (frz c w (owned own1 [])) av y o → RepVs w (frz c w (owned own1 [])) noL (argL st1 as gs) (xs.map a.eval) o) ∧
      ∀ (w2 : World) (Fz2 : Nat → Prop) (out : AV) (oo : List Nat), RepVs w2 Fz2 noL (outL out as) (xs.map a.eval) oo → RepV w2 Fz2 noL out y oo
  | [], [], gs, _, _, _, hi => by simp [ioAll] at hi
  | [], g :: as, gs, hm, _, _, _ => by simp [mArgs] at hm
  | x :: xs, [], gs, hm, _, _, _ => by simp [mArgs] at hm
  | x :: xs, .lend y :: as, [], hm, hg, _, _ => hg.elim
  | x :: xs, .give y :: as, [], hm, hg, _, _ => hg.elim
  | x :: xs, .io y :: as, [], hm, hg, _, hi => hg.elim
  | x :: xs, .lend y :: as, g :: gs, hm, hg, hl, hi => by
    obtain ⟨h1, h2⟩ := mArgs_cons hm
    simp only [GivenOk] at hg
    simp only [lendPlain, Bool.and_eq_true] at hl
    obtain ⟨z, hw, ho, hr, hout⟩ := arg_rep1 C h2 hg hl.2 (by simpa [ioAll] using hi)
    refine ⟨z, hw, ho, fun o h => ?_, fun w2 Fz2 out oo h => ?_⟩
    · simp only [argL, List.map_cons, RepVs]
      have rx := rd_rep C h1
      refine ⟨_, _, [], o, rfl, rfl, ?_, hr o h⟩
      rw [plain_frzB _ hl.1]
      exact plain_rep (L' := noL) _ rx hl.1 ⟨fun b hb => ⟨hb, rfl⟩, fun _ _ => rfl⟩
    · simp only [outL, List.map_cons, RepVs, List.cons.injEq] at h
      obtain ⟨x', xs', o1, o2, ⟨_, rfl⟩, rfl, hc, hr2⟩ := h
      simp only [RepV] at hc
      subst hc
      exact hout _ _ _ _ hr2
  | x :: xs, .give y :: as, g :: gs, hm, hg, hl, hi => by
    obtain ⟨h1, h2⟩ := mArgs_cons hm
    simp only [GivenOk] at hg
    simp only [lendPlain] at hl
    obtain ⟨z, hw, ho, hr, hout⟩ := arg_rep1 C h2 hg.2 hl (by simpa [ioAll] using hi)
    refine ⟨z, hw, ho, fun o h => ?_, fun w2 Fz2 out oo h => ?_⟩
    · simp only [argL, List.map_cons, RepVs]
      exact ⟨_, _, [], o, rfl, rfl, hg.1, hr o h⟩
    · simp only [outL, List.map_cons, RepVs, List.cons.injEq] at h
      obtain ⟨x', xs', o1, o2, ⟨_, rfl⟩, rfl, hc, hr2⟩ := h
      simp only [RepV] at hc
      subst hc
      exact hout _ _ _ _ hr2
  | x :: xs, .io y :: as, g :: gs, hm, hg, hl, hi => by
    obtain ⟨h1, h2⟩ := mArgs_cons hm
    simp only [GivenOk] at hg
    simp only [lendPlain] at hl
    simp only [ioAll, List.cons.injEq] at hi
    obtain ⟨hi1, hi2⟩ := hi
    obtain ⟨hw, ho⟩ := ioOf_rep C h1 hi1
    refine ⟨a.eval x, hw, ho, fun o h => ?_, fun w2 Fz2 out oo h => ?_⟩
    · simp only [argL, hi1, List.map_cons, RepVs]
      exact ⟨_, _, o, [], rfl, by simp, h.toV, arg_rep0 C (fun _ h => h) h2 hg (.inr hl) hi2⟩
    · simp only [outL, List.map_cons, RepVs, List.cons.injEq] at h
      obtain ⟨x', xs', o1, o2, ⟨rfl, rfl⟩, rfl, hc, hr2⟩ := h
      rw [outL_dead hi2] at hr2
      have := deads_own hr2
      subst this
      simpa using hc
theorem ownerC {w : World} {Fz : Nat → Prop} {L : Locs} {av : AV} {y : Value} {o : List Nat} (h : RepV w Fz L av y o) (ho : isOwner av = true) : RepC w Fz av y o := by
  cases av <;> simp [isOwner] at ho <;> simpa only [RepV] using h
theorem core_call1 [GOk c P] {st1 : St} {own1 : Nat → List Nat} (C : Core c st1 (tmOf a) w own1 []) {f : FuncId} {al : Bool} {as : List Arg} {gs : List AV} {xs : List Operand} {R : AV → AV → Prop} (hm : mArgs xs as = true) (hg : GivenOk w (frz c w (owned own1 [])) a xs as gs)
    {n : Nat} {p : List (Nat × Nat)} {av : AV} (hio : ioAll st1 as = [some (n, p, av)]) (hl : lendPlain st1 as = true) (hcon : ConE P f (argL st1 as gs) al (fun r o => ∃ out, R r out ∧ o = outL out as)) (hRR : ∀ r out, R r out → isOwner out = true ∧ shapeOf out = shapeOf av) :
    Calls P f (xs.map a.eval).toArray w fun e w' => ∃ res out x ox own', R res out ∧ e = .returned x ∧ Core c (setS n p out st1) (tmOf a) w' own' ox ∧ RepV w' (frz c w' (owned own' ox)) (locs (setS n p out st1) (tmOf a) w') res x ox := by
  obtain ⟨y, hw, ho, hr, hout⟩ := arg_rep1 C hm hg hl hio
  obtain ⟨o, hrep, hon, hod, hoO, hwalk, H⟩ := C.mod hw ho
  refine (hcon w (frz c w (owned own1 [])) _ o (hr o hrep) hon (fun b hb => ⟨fun hf => hf.2.2 (hoO b hb), (C.old b (hoO b hb)).2⟩) (gok_frz C (fun _ h => h) (fun b hb => hb.1))).mono ?_
  rintro e w' ⟨res, outs, ⟨out, hR, rfl⟩, x, ox, oo, rfl, hext, hres, houts, hnd, hmem⟩
  obtain ⟨hoo, hsh⟩ := hRR res out hR
  have ho2 := hout _ _ _ _ houts
  have hcc := ownerC ho2 hoo
  have hE : Ext w w' (o ++ []) := by rw [List.append_nil]; exact hext
  obtain ⟨hndx, hndo, hdjx⟩ := List.nodup_append.1 hnd
  have hfz : ∀ b, fzP (frz c w (owned own1 [])) w w' o (ox ++ oo) true b → frz c w' (modOwned own1 [] o oo ox) b := by
    rintro b ⟨h1, h2, h3⟩
    have h3' : b ∉ oo ∧ b ∉ ox := ⟨fun h => h3 (by simp [h]), fun h => h3 (by simp [h])⟩
    refine ⟨h2, ?_, ?_⟩
    · rcases h1 with ⟨_, h1 | h1⟩ | h1
      · exact h1.2.1
      · rcases (C.old b (hoO b h1)).1 with h | h
        · exact .inr (.inr h)
        · exact .inl h
      · exact .inl (Nat.le_trans C.fr.size h1)
    · rintro (h | h | ⟨h, h5, _⟩)
      · exact h3'.1 h
      · exact h3'.2 h
      · rcases h1 with ⟨_, h1 | h1⟩ | h1
        · exact h1.2.2 h
        · exact h5 h1
        · have := (C.old b h).2; omega
  obtain ⟨own', C', hO⟩ := H w' out oo ox (keepK n p) hE hndo hndx (fun b hb hb' => hdjx b hb' b hb rfl) (fun b hb => by
      have := hmem b (by rcases hb with h | h <;> simp [h])
      exact ⟨by rcases this.1 with h | h; exact .inl h; exact .inr (.inr h), this.2⟩)
    (hcc.keep _ _ _ ⟨fun b hb => ⟨hfz b hb, rfl⟩, fun _ _ => rfl⟩)
    (fun q r hK hq => by
      have hwk := hwalk w' out hE
      by_cases hpq : p <+: q
      · have hqp : q <+: p := by
          rw [← List.isPrefixOf_iff_prefix]
          rw [← List.isPrefixOf_iff_prefix] at hpq
          simpa [keepK, hpq] using hK
        have he : q = p := List.IsPrefix.eq_of_length hqp (Nat.le_antisymm hqp.length_le hpq.length_le)
        subst he
        have h1 := hwk.2 []
        simp only [List.append_nil, walk] at h1
        simp only [walkSh, h1, Option.bind_some, hsh]
        simp only [walkSh, hw, Option.bind_some] at hq
        exact hq
      · rw [hwk.1 q hpq]; exact hq)
  refine ⟨res, out, x, ox, own', hR, rfl, C', ?_⟩
  have := hres.keep (K := fun _ _ => false) (L' := locs (setS n p out st1) (tmOf a) w') (fun _ _ _ _ h => by simp [noL] at h) _ _ _ (w' := w') (Fz' := frz c w' (owned own' ox))
    ⟨fun b hb => ⟨by
      have hb' : fzP (frz c w (owned own1 [])) w w' o (ox ++ oo) true b := ⟨by rcases hb.1 with h | h; exact .inl ⟨rfl, h.2⟩; exact .inr h, hb.2⟩
      have h4 := hfz b hb'
      exact ⟨h4.1, h4.2.1, fun hx => h4.2.2 ((hO b).1 hx)⟩, rfl⟩, fun _ _ => rfl⟩
  rwa [killV_none] at this
theorem Does.e {args outs : List AV} {f : FuncId} {al : Bool} {res : AV} (h : Does P f args al res outs) {R : AV → List AV → Prop} (hR : R res outs) : DoesE P f args al R := ⟨h.1, h.2.e hR⟩
theorem run_call {f : FuncId} (hf : fnOk P f = true) {y : Operand} {xs : List Operand} {ats : Array TypeId} {cv : List Value} (ho : o.op = .call { callee := .value y, args := xs.toArray, argTypes := ats }) (hy : a.eval y = .func (.func f) #[] cv.toArray) :
    (execOp a.eval o).run P w = .ok (.enter f (xs.map a.eval ++ cv).toArray) w := by
  unfold fnOk at hf
  split at hf
  rotate_left
  · cases hf
  rename_i fn hfn
  simp only [Bool.and_eq_true, Bool.not_eq_true'] at hf
  obtain ⟨h1, h2⟩ := hf
  have hn : ¬ fn.body = none := by cases hb : fn.body <;> simp [hb] at h2 ⊢
  have h1' : ¬ fn.name = "runtime.NumGoroutine" := by simpa using h1
  simp [execOp, ho, resolve, hy, Deferred.ofValue, invoke, callFunc, Sem.run_bind, Result.andThen_ok, hfn, h1', hn]
theorem a_call [GOk c P] (S : Sim c N st a w) {y : Operand} {y' : Opd} {xs : List Operand} {as : List Arg} {ats : Array TypeId} (hy : mOpd y y' = true) (hm : mArgs xs as = true) (ho : o.op = .call { callee := .value y, args := xs.toArray, argTypes := ats })
    (hN : ∀ e, o.dst = some e → e < N ∧ c.fx e = none) {al : Bool} {k : K} (h : callV P y' al as st o.dst k) : Ok P c N a w o k Q := by
  obtain ⟨own, C⟩ := S.core
  unfold callV at h
  split at h
  rotate_left
  · exact h.elim
  rename_i gs st1 hgive
  obtain ⟨own1, C1, hg, _⟩ := give_sound C hm hgive
  split at h
  rotate_left
  · exact h.elim
  rename_i f caps hcal
  unfold calleeV at hcal
  split at hcal
  rotate_left
  · cases hcal
  rename_i f' caps' hrd
  split at hcal
  rotate_left
  · cases hcal
  rename_i hpl
  simp only [Option.some.injEq, Prod.mk.injEq] at hcal
  obtain ⟨rfl, rfl⟩ := hcal
  have ry := rd_rep C1 hy
  rw [hrd] at ry
  have ry2 := plain_rep (L' := noL) (.clo f' caps') ry (by simpa [plain] using hpl) ⟨fun b hb => ⟨hb, rfl⟩, fun _ _ => rfl⟩
  simp only [RepV] at ry2
  obtain ⟨cv, hcv, hrcv⟩ := ry2
  split at h
  · rename_i hio
    obtain ⟨hal, R, hcon, h⟩ := h
    have hcall := core_call0 C1 hm hg hio hal hrcv hcon.2
    unfold Ok Oper.wp
    rw [run_call hcon.1 ho hcv]
    refine hcall.mono ?_
    rintro e w' ⟨res, x, ox, hR, rfl, _, C2, hr⟩
    exact putS_sound S.defers S.size C2 hr hN (h res hR)
  · rename_i n p av hio
    obtain ⟨hl, rfl, R, hcon, h⟩ := h
    have hcall := core_call1 C1 hm hg hio hl hcon.2 (fun r out hR => ⟨(h r out hR).1, (h r out hR).2.1⟩)
    have hcv0 : cv = [] := by simp only [RepVs] at hrcv; exact hrcv.1
    subst hcv0
    unfold Ok Oper.wp
    rw [run_call hcon.1 ho hcv]
    simp only [List.append_nil]
    refine hcall.mono ?_
    rintro e w' ⟨res, out, x, ox, own', hR, rfl, C2, hr⟩
    exact putS_sound S.defers S.size C2 hr hN (h res out hR).2.2
  · exact h.elim
end
end Go.AM
namespace Go.AM
set_option linter.unusedVariables false
set_option linter.unusedSimpArgs false
def mvK (P : Program) (cal : Option (FuncId × List AV)) (as : List Arg) (r : Option (AV × St)) (d : Option Nat) (k : K) : Prop :=
  match r with
  | some (av, st1) => (match cal with
    | some (f, []) => isOwner av = true ∧ lendPlain st1 as = true ∧ ∃ R : AV → Prop, DoesE P f (av :: argL st1 as (as.map fun _ => .dead)) false (fun r o => R r ∧ o = .dead :: outL .dead as) ∧ ∀ r, R r → putS st1 d r k
    | _ => False)
  | none => False
def lendAllM : List Arg → Bool
  | [] => true
  | .lend _ :: as => lendAllM as
  | _ => false
def callmV (P : Program) (y x : Opd) (as : List Arg) (st : St) (d : Option Nat) (k : K) : Prop :=
  lendAllM as = true ∧ mvK P (calleeV st y) as (ownO st x) d k
def copyL : AV → Option AV
  | .v x => some (.v x)
  | .fsl sz l => some (.fsl sz l)
  | .fptr c => some (.fptr c)
  | .sref _ _ _ _ => some .dead
  | .ref _ _ _ _ => some .dead
  | _ => none
def copyR : List AV → Option (List AV)
  | [] => some []
  | c :: cs => match copyL c, copyR cs with
    | some d, some ds => some (d :: ds)
    | _, _ => none
theorem copyR_rep {w : World} {Fz : Nat → Prop} {L : Locs} : ∀ {l cs : List AV} {xs : List Value}, RepVs w Fz L l xs [] → copyR l = some cs → RepRow w Fz cs xs []
  | [], cs, xs, h, hc => by
    simp only [copyR, Option.some.injEq] at hc
    subst hc
    simp only [RepVs] at h
    simp only [RepRow]
    exact ⟨h.1, trivial⟩
  | c :: l, cs, xs, h, hc => by
    simp only [copyR] at hc
    split at hc
    rotate_left
    · cases hc
    rename_i d ds hd hds
    simp only [Option.some.injEq] at hc
    subst hc
    simp only [RepVs] at h
    obtain ⟨x, xs', o1, o2, rfl, ho, h1, h2⟩ := h
    obtain ⟨rfl, rfl⟩ : o1 = [] ∧ o2 = [] := by simpa using ho.symm
    simp only [RepRow]
    refine ⟨x, xs', [], [], rfl, rfl, ?_, copyR_rep h2 hds⟩
    cases c <;> simp only [copyL, Option.some.injEq, reduceCtorEq] at hd
    · subst hd; simpa only [RepV] using h1
    · subst hd; simpa only [RepV] using h1
    · subst hd; simpa only [RepV] using h1
    · subst hd
      simp only [RepV] at h1
      simp only [RepC, and_true]
      obtain ⟨_, s, y, b, f, _, _, _, _, hx⟩ := h1
      rw [hx]; rfl
    · subst hd
      simp only [RepV] at h1
      simp only [RepC, and_true]
      obtain ⟨_, s, y, _, _, _, hwin⟩ := h1
      rcases hwin with ⟨_, h3, _⟩ | ⟨g, b, n, cp, k, cx, _, h3, _⟩
      · rw [h3]; rfl
      · rw [h3]; rfl
def storekT (sz : Nat) (st : St) (cs : Option (List AV)) (r : AV) (k : K) : Prop :=
  match cs with
  | some cs => cs.length = sz ∧ match r with
    | .ref n p i j => match getC (st n) p with
      | some (.usl e sz' l) => i < l.length ∧ j + sz ≤ sz' ∧ k (setS n p (.usl e sz' (l.set i (ovw (nth l i) j cs))) st)
      | some (.box e c) => i = 0 ∧ j + sz ≤ c.length ∧ k (setS n p (.box e (ovw c j cs)) st)
      | _ => False
    | _ => False
  | none => False
def storekV (sz : Nat) (st : St) (x y : Opd) (k : K) : Prop :=
  match rd st y with
  | .agg l => storekT sz st (copyR l) (rd st x) k
  | _ => False
def asgfK (r : Option (AV × St)) (d : Option Nat) (k : K) : Prop :=
  match r with
  | some (av, st') => putS st' d (frzA av) k
  | none => False
def asgfV (st : St) (y : Opd) (d : Option Nat) (k : K) : Prop := asgfK (ownO st y) d k
section
variable {P : Program} {o : Oper} {c : Ctx} {N : Nat} {st : St} {a : Act} {w : World} {Q : Exit → Act → World → Prop}
theorem lendM_reps {st1 : St} {Fz : Nat → Prop} {own1 : Nat → List Nat} {lo : List Nat} (C : Core c st1 (tmOf a) w own1 lo) (hf : ∀ b, frz c w (owned own1 lo) b → Fz b) :
    ∀ {xs : List Operand} {as : List Arg}, mArgs xs as = true → lendAllM as = true → lendPlain st1 as = true → RepVs w Fz noL (argL st1 as (as.map fun _ => .dead)) (xs.map a.eval) []
  | [], [], _, _, _ => by simp [argL, RepVs]
  | [], g :: as, hm, _, _ => by simp [mArgs] at hm
  | x :: xs, [], hm, _, _ => by simp [mArgs] at hm
  | x :: xs, .lend y :: as, hm, hl, hp => by
    obtain ⟨h1, h2⟩ := mArgs_cons hm
    simp only [lendPlain, Bool.and_eq_true] at hp
    simp only [argL, List.map_cons, RepVs]
    have rx := rd_rep C h1
    refine ⟨_, _, [], [], rfl, rfl, ?_, lendM_reps C hf h2 (by simpa [lendAllM] using hl) hp.2⟩
    rw [plain_frzB _ hp.1]
    exact plain_rep (L' := noL) _ rx hp.1 ⟨fun b hb => ⟨hf b hb, rfl⟩, fun _ _ => rfl⟩
  | x :: xs, .give y :: as, hm, hl, hp => by simp [lendAllM] at hl
  | x :: xs, .io y :: as, hm, hl, hp => by simp [lendAllM] at hl
theorem deadC_own {Fz : Nat → Prop} {L : Locs} {as : List Arg} {xs : List Value} {oo : List Nat} (h : RepVs w Fz L (.dead :: outL .dead as) xs oo) : oo = [] :=
  deadl_own h fun x hx => by
    rcases List.mem_cons.1 hx with h | h
    · exact h
    · exact outL_deads h
theorem a_callm [GOk c P] (S : Sim c N st a w) {y : Operand} {y' : Opd} {x : Operand} {x' : Opd} {xs : List Operand} {as : List Arg} {ats : Array TypeId} (hy : mOpd y y' = true) (hx : mOpd x x' = true) (hm : mArgs xs as = true)
    (ho : o.op = .call { callee := .value y, args := (x :: xs).toArray, argTypes := ats })
    (hN : ∀ e, o.dst = some e → e < N ∧ c.fx e = none) {k : K} (h : callmV P y' x' as st o.dst k) : Ok P c N a w o k Q := by
  obtain ⟨own, C⟩ := S.core
  obtain ⟨hla, h⟩ := h
  unfold mvK at h
  split at h
  rotate_left
  · exact h.elim
  rename_i av st1 hown
  split at h
  rotate_left
  · exact h.elim
  rename_i f hcal
  obtain ⟨hio, hlp, R, hcon, h⟩ := h
  unfold calleeV at hcal
  split at hcal
  rotate_left
  · cases hcal
  rename_i f' caps' hrd
  split at hcal
  rotate_left
  · cases hcal
  rename_i hpl
  simp only [Option.some.injEq, Prod.mk.injEq] at hcal
  obtain ⟨rfl, rfl⟩ := hcal
  have ry := rd_rep C hy
  rw [hrd] at ry
  simp only [RepV, RepVs] at ry
  obtain ⟨cv, hcv, hcv0, _⟩ := ry
  subst hcv0
  obtain ⟨own1, lo1, C1, hr1, _⟩ := own_sound C hx hown
  simp only [List.nil_append] at C1 hr1
  have hcc := ownerC hr1 hio
  have hargs : RepVs w (frz c w (owned own1 lo1)) noL (av :: argL st1 as (as.map fun _ => .dead)) (a.eval x :: xs.map a.eval) lo1 := by
    simp only [RepVs]
    exact ⟨_, _, lo1, [], rfl, by simp, hcc.toV, lendM_reps C1 (fun _ h => h) hm hla hlp⟩
  have hcall := hcon.2 w (frz c w (owned own1 lo1)) _ lo1 hargs C1.lnd (fun b hb => ⟨fun hf => hf.2.2 (.inr hb), (C1.old b (.inr hb)).2⟩) (gok_frz C1 (fun _ h => h) (fun b hb => hb.1))
  unfold Ok Oper.wp
  rw [run_call hcon.1 ho hcv]
  simp only [List.append_nil, List.map_cons]
  refine hcall.mono ?_
  rintro e w' ⟨res, outs, ⟨hR, rfl⟩, v, ox, oo, rfl, hext, hres, hout, hnd, hmem⟩
  have hoo := deadC_own hout
  subst hoo
  simp only [List.append_nil] at hres hnd hmem
  have C2 := C1.world (lo' := ox) hext hnd hmem
  have hr := hres.keep (K := fun _ _ => false) (L' := locs st1 (tmOf a) w') (fun _ _ _ _ h => by simp [noL] at h) _ _ _ (w' := w') (Fz' := frz c w' (owned own1 ox)) (by
    refine ⟨fun b hb => ⟨?_, rfl⟩, fun _ _ => rfl⟩
    obtain ⟨h1, h2, h3⟩ := hb
    rcases h1 with ⟨hal', _⟩ | h1
    · cases hal'
    · refine ⟨h2, .inl (Nat.le_trans C.fr.size h1), ?_⟩
      rintro (⟨k, hk⟩ | hx)
      · have := (C1.old b (.inl ⟨k, hk⟩)).2; omega
      · exact h3 hx)
  rw [killV_none] at hr
  exact putS_sound S.defers S.size C2 hr hN (h res hR)
theorem a_asgf (S : Sim c N st a w) (hN : ∀ e, o.dst = some e → e < N ∧ c.fx e = none) {x : Operand} {y : Opd} (hx : mOpd x y = true) (ho : o.op = .move x ∨ o.op = .assign x) {k : K} (h : asgfV st y o.dst k) : Ok P c N a w o k Q := by
  obtain ⟨own, C⟩ := S.core
  unfold asgfV asgfK at h
  split at h
  rotate_left
  · exact h.elim
  rename_i av st' hy
  obtain ⟨own', lo1, C', hr, _⟩ := own_sound C hx hy
  have hrun : (execOp a.eval o).run P w = .ok (.value (a.eval x)) w := by rcases ho with ho | ho <;> simp [execOp, ho]
  simp only [List.nil_append] at C' hr
  have C3 := C'.world (lo' := []) (Ext.refl w _) (by simp) (by simp)
  have hX3 : ∀ b, owned own' [] b → owned own' lo1 b := by
    rintro b (⟨k, hk⟩ | hb)
    · exact .inl ⟨k, hk⟩
    · simp at hb
  have hf := frzA_rep (Fz' := frz c w (owned own' [])) hr (by
    intro b hb
    rcases hb with hb | hb
    · exact ⟨hb.1, hb.2.1, fun hx => hb.2.2 (hX3 b hx)⟩
    · have ho := C'.old b (.inr hb)
      refine ⟨ho.2, ?_, fun hx => ?_⟩
      · rcases ho.1 with h | h
        · exact .inr (.inr h)
        · exact .inl h
      · rcases hx with ⟨k, hk⟩ | hx
        · exact C'.ldj k b hk hb
        · simp at hx)
  have hr2 := hf.keep (K := fun _ _ => false) (L' := locs st' (tmOf a) w) (fun _ _ _ _ h => by simp [noL] at h) _ _ _ (w' := w) (Fz' := frz c w (owned own' [])) ⟨fun b hb => ⟨hb, rfl⟩, fun _ _ => rfl⟩
  rw [killV_none] at hr2
  exact fin_value S.defers S.size hN hrun C3 hr2 h
theorem a_storek (S : Sim c N st a w) {t : TypeId} {sz : Nat} {x y : Operand} {x' y' : Opd} (hx : mOpd x x' = true) (hy : mOpd y y' = true) (ho : o.op = .store t x y) (hd : o.dst = none) (hsz : (P.info? t).map (·.size) = some sz) {k : K}
    (h : storekV sz st x' y' k) : Ok P c N a w o k Q := by
  obtain ⟨own, C⟩ := S.core
  have ry := rd_rep C hy
  unfold storekV at h
  split at h
  rotate_left
  · exact h.elim
  rename_i l hl0
  rw [hl0] at ry
  simp only [RepV] at ry
  obtain ⟨vs, hvs0, hvr⟩ := ry
  unfold storekT at h
  split at h
  rotate_left
  · exact h.elim
  rename_i cs0 cs hcs
  obtain ⟨hl, h⟩ := h
  have hrow := copyR_rep hvr hcs
  have hvs : (a.eval y).cells = vs.toArray := by rw [hvs0]; rfl
  have rx := rd_rep C hx
  have hvl : vs.length = sz := by rw [hrow.length]; exact hl
  split at h
  rotate_left
  · exact h.elim
  rename_i r n p i j hrd
  rw [hrd] at rx
  simp only [RepV] at rx
  obtain ⟨_, s, yv, b, f, hloc, hadr, hi, hj, hxv⟩ := rx
  obtain ⟨av0, oo, hg, hw, hsh, hrep, hsub⟩ := loc_spot C hloc
  rw [hg] at h
  have hio : isOwner av0 = true := by cases av0 <;> simp [shapeOf] at hsh <;> rfl
  have hjs : j + cs.length ≤ s.sz := by
    cases av0 <;> simp [shapeOf] at hsh <;> (subst hsh; rw [hl]; exact h.2.1)
  obtain ⟨g, f', cur, e, av', hadr', hcur, hfit, hav', own', C'⟩ := core_store C hw hio hsh hi hrow hjs
  rw [hadr] at hadr'
  obtain ⟨rfl, rfl⟩ : b = g ∧ f = f' := by simpa using hadr'
  have hrun : (execOp a.eval o).run P w = .ok .skip (w.setRow b (ovw cur (f + i * s.sz + j) vs).toArray) := by
    have hst := run_storeVar (P := P) (t := t) (f := f + i * s.sz + j) hsz hvs hvl hrow.one hcur (by omega)
    simp only [execOp, ho, Instr.storeAt, Instr.sureAddr, hxv, Sem.run_bind, Sem.run_pure, Result.andThen_ok, hst]
  unfold Ok Oper.wp
  rw [hrun]
  simp only [Oper.upon, hd, Act.put]
  rcases hav' with ⟨e', sz', l, rfl, rfl⟩ | ⟨e', cc, rfl, rfl⟩
  · exact ⟨_, ⟨S.defers, S.size, own', C'⟩, h.2.2⟩
  · exact ⟨_, ⟨S.defers, S.size, own', C'⟩, h.2.2⟩
end
end Go.AM
