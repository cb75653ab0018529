/- Own framework, part 18: contracts, and calls. -/
import Derived.Test.YtleomgfaplldiaaB8
namespace Go.AM
set_option linter.unusedVariables false
set_option linter.unusedSimpArgs false

def noL : Locs := fun _ _ => none

mutual
def frzL : AV → AV
  | .v x => .v x
  | .fsl sz l => .fsl sz l
  | .usl _ sz l => .fsl sz (frzRows l)
  | .fptr c => .fptr c
  | .box _ c => .fptr (frzRow c)
  | _ => .dead
def frzRow : List AV → List AV
  | [] => []
  | c :: cs => frzL c :: frzRow cs
def frzRows : List (List AV) → List (List AV)
  | [] => []
  | r :: rs => frzRow r :: frzRows rs
end

theorem frzRow_length : ∀ l, (frzRow l).length = l.length
  | [] => rfl
  | c :: cs => by simp [frzRow, frzRow_length cs]

theorem frzRows_length : ∀ l, (frzRows l).length = l.length
  | [] => rfl
  | c :: cs => by simp [frzRows, frzRows_length cs]

mutual
theorem frz_rep {w : World} {Fz Fz' : Nat → Prop} : ∀ (av : AV) {x : Value} {o : List Nat}, RepC w Fz av x o → (∀ b, Fz b ∨ b ∈ o → Fz' b) → RepC w Fz' (frzL av) x []
  | .v y, x, o, h, hf => by simp only [RepC, frzL] at h ⊢; exact ⟨h.1, h.2.1, trivial⟩
  | .fsl sz l, x, o, h, hf => by
    simp only [frzL]
    have : o = [] := by simp only [RepC] at h; exact h.1
    subst this
    exact h.keep _ _ _ ⟨fun b hb => ⟨hf b (.inl hb), rfl⟩, fun _ _ => rfl⟩
  | .fptr c, x, o, h, hf => by
    simp only [frzL]
    have : o = [] := by simp only [RepC] at h; exact h.1
    subst this
    exact h.keep _ _ _ ⟨fun b hb => ⟨hf b (.inl hb), rfl⟩, fun _ _ => rfl⟩
  | .usl e sz l, x, o, h, hf => by
    simp only [RepC, frzL] at h ⊢
    rcases h with ⟨h1, h2, h3⟩ | ⟨g, hh, c, cur, xs, o', hx, ho, hg, hc, hfit, hr, hat⟩
    · subst h2; exact ⟨trivial, none, 0, by simpa [frzRows] using h1, by simp [frzRows], .inl (by simp [frzRows])⟩
    · subst ho
      refine ⟨trivial, some ⟨g, hh * sz, none⟩, c, by rw [frzRows_length]; exact hx, by rw [frzRows_length]; exact hc, .inr ⟨g, hh * sz, xs, rfl, hf g (.inr (by simp)), ?_, hat⟩⟩
      exact frzs_rep l hr (fun b hb => hf b (by rcases hb with h | h; exact .inl h; exact .inr (by simp [h])))
  | .box e c, x, o, h, hf => by
    simp only [RepC, frzL] at h ⊢
    obtain ⟨g, xs, o', hx, ho, hg, hr⟩ := h
    subst ho
    refine ⟨trivial, g, 0, xs, hx, hf g (.inr (by simp)), frzr_rep c hr (fun b hb => hf b (by rcases hb with h | h; exact .inl h; exact .inr (by simp [h]))), ?_⟩
    intro j u hj
    rw [Nat.zero_add, cell_of_cells hg]
    simpa using hj
  | .dead, x, o, h, hf => by simp only [RepC, frzL] at h ⊢; exact ⟨h.1, trivial⟩
  | .agg _, x, o, h, hf => by simp [RepC] at h
  | .ref _ _ _ _, x, o, h, hf => by simp [RepC] at h
  | .sref _ _ _ _, x, o, h, hf => by simp [RepC] at h
  | .clo _ _, x, o, h, hf => by simp [RepC] at h
  | .tup _, x, o, h, hf => by simp [RepC] at h
theorem frzr_rep {w : World} {Fz Fz' : Nat → Prop} : ∀ (cs : List AV) {xs : List Value} {o : List Nat}, RepRow w Fz cs xs o → (∀ b, Fz b ∨ b ∈ o → Fz' b) → RepRow w Fz' (frzRow cs) xs []
  | [], xs, o, h, hf => by simp only [RepRow, frzRow] at h ⊢; exact ⟨h.1, trivial⟩
  | c :: cs, xs, o, h, hf => by
    simp only [RepRow, frzRow] at h ⊢
    obtain ⟨x, xs', o1, o2, hx, ho, hc, hr⟩ := h
    subst ho
    exact ⟨x, xs', [], [], hx, rfl, frz_rep c hc (fun b hb => hf b (by rcases hb with h | h; exact .inl h; exact .inr (by simp [h]))), frzr_rep cs hr (fun b hb => hf b (by rcases hb with h | h; exact .inl h; exact .inr (by simp [h])))⟩
theorem frzs_rep {w : World} {Fz Fz' : Nat → Prop} {sz : Nat} : ∀ (rs : List (List AV)) {xs : List Value} {o : List Nat}, RepRows w Fz sz rs xs o → (∀ b, Fz b ∨ b ∈ o → Fz' b) → RepRows w Fz' sz (frzRows rs) xs []
  | [], xs, o, h, hf => by simp only [RepRows, frzRows] at h ⊢; exact ⟨h.1, trivial⟩
  | r :: rs, xs, o, h, hf => by
    simp only [RepRows, frzRows] at h ⊢
    obtain ⟨x1, x2, o1, o2, hx, ho, hl, h1, h2⟩ := h
    subst ho
    exact ⟨x1, x2, [], [], hx, rfl, by rw [frzRow_length]; exact hl, frzr_rep r h1 (fun b hb => hf b (by rcases hb with h | h; exact .inl h; exact .inr (by simp [h]))), frzs_rep rs h2 (fun b hb => hf b (by rcases hb with h | h; exact .inl h; exact .inr (by simp [h])))⟩
end

mutual
/-- What is lent, told as frozen. -/
def frzB (st : St) : AV → AV
  | .v x => .v x
  | .fsl sz l => .fsl sz l
  | .fptr c => .fptr c
  | .usl _ sz l => .fsl sz (frzRows l)
  | .sref n p off len => match getC (st n) p with
    | some (.usl _ sz l) => .fsl sz (frzRows ((l.drop off).take len))
    | _ => .dead
  | .ref n p i k => match getC (st n) p with
    | some (.usl _ _ l) => .fptr (frzRow ((nth l i).drop k))
    | some (.box _ c) => .fptr (frzRow (c.drop k))
    | _ => .dead
  | .agg l => .agg (frzBs st l)
  | .clo f l => .clo f (frzBs st l)
  | .tup _ => .dead
  | .box _ _ => .dead
  | .dead => .dead
def frzBs (st : St) : List AV → List AV
  | [] => []
  | c :: cs => frzB st c :: frzBs st cs
end

mutual
theorem frzB_rep {c : Ctx} {st : St} {tm : Nat → Value} {w : World} {own : Nat → List Nat} {lo : List Nat} (C : Core c st tm w own lo) {Fz' : Nat → Prop} (hf : ∀ b, frz c w (owned own lo) b ∨ (∃ k, b ∈ own k) → Fz' b) :
    ∀ (av : AV) {x : Value}, RepV w (frz c w (owned own lo)) (locs st tm w) av x [] → RepV w Fz' noL (frzB st av) x []
  | .v y, x, h => by simp only [RepV, frzB] at h ⊢; exact h.keep _ _ _ ⟨fun b hb => ⟨hf b (.inl hb), rfl⟩, fun _ _ => rfl⟩
  | .fsl sz l, x, h => by simp only [RepV, frzB] at h ⊢; exact h.keep _ _ _ ⟨fun b hb => ⟨hf b (.inl hb), rfl⟩, fun _ _ => rfl⟩
  | .fptr c', x, h => by simp only [RepV, frzB] at h ⊢; exact h.keep _ _ _ ⟨fun b hb => ⟨hf b (.inl hb), rfl⟩, fun _ _ => rfl⟩
  | .usl e sz l, x, h => by
    simp only [RepV, frzB] at h ⊢
    exact frz_rep (.usl e sz l) h (fun b hb => hf b (by rcases hb with h | h; exact .inl h; simp at h))
  | .sref n p off len, x, h => by
    simp only [RepV] at h
    obtain ⟨_, s, y, hloc, hbx, hle, hwin⟩ := h
    obtain ⟨av, oo, hg, hw, hsh, hrep, hsub⟩ := loc_spot C hloc
    simp only [frzB, hg]
    cases av with
    | usl e sz l =>
      simp only [shapeOf, Option.some.injEq] at hsh
      subst hsh
      obtain ⟨o', hr', hs', _⟩ := win_usl hrep hle hwin
      simp only [RepV]
      exact frz_rep (.usl e sz _) hr' (fun b hb => hf b (by rcases hb with h | h; exact .inl h; exact .inr ⟨n, hsub b (hs' b h)⟩))
    | box e c' => simp only [shapeOf, Option.some.injEq] at hsh; subst hsh; simp at hbx
    | _ => simp [shapeOf] at hsh
  | .ref n p i k, x, h => by
    simp only [RepV] at h
    obtain ⟨_, s, y, b, f, hloc, hadr, hi, hk, hx⟩ := h
    obtain ⟨av, oo, hg, hw, hsh, hrep, hsub⟩ := loc_spot C hloc
    simp only [frzB, hg]
    have fin : ∀ r, rowOf av i = some r → RepV w Fz' noL (.fptr (frzRow (r.drop k))) x [] := by
      intro r hr
      obtain ⟨_, hrl, b', f', xs, o1, hadr', hbo, hrow, hat, hs', _, _⟩ := owner_row hrep hsh hr
      rw [hadr] at hadr'
      obtain ⟨rfl, rfl⟩ : b = b' ∧ f = f' := by simpa using hadr'
      obtain ⟨o2, o3, ho, _, h2⟩ := hrow.split k (by omega)
      simp only [RepV, RepC]
      exact ⟨trivial, b, _, _, hx, hf b (.inr ⟨n, hsub b hbo⟩), frzr_rep _ h2 (fun b' hb => hf b' (by rcases hb with h | h; exact .inl h; exact .inr ⟨n, hsub b' (hs' b' (by rw [ho]; simp [h]))⟩)), hat.dropAll k⟩
    cases av with
    | usl e sz l =>
      simp only [shapeOf, Option.some.injEq] at hsh
      subst hsh
      exact fin _ (by simp only [rowOf, nth]; simp at hi; simp [hi])
    | box e c' =>
      simp only [shapeOf, Option.some.injEq] at hsh
      subst hsh
      simp at hi
      subst hi
      exact fin _ (by simp [rowOf])
    | _ => simp [shapeOf] at hsh
  | .agg l, x, h => by
    simp only [RepV, frzB] at h ⊢
    obtain ⟨xs, hx, h⟩ := h
    exact ⟨xs, hx, frzBs_rep C hf l h⟩
  | .clo f l, x, h => by
    simp only [RepV, frzB] at h ⊢
    obtain ⟨xs, hx, h⟩ := h
    exact ⟨xs, hx, frzBs_rep C hf l h⟩
  | .tup _, x, h => by simp [frzB, RepV]
  | .box _ _, x, h => by simp [frzB, RepV]
  | .dead, x, h => by simp [frzB, RepV]
theorem frzBs_rep {c : Ctx} {st : St} {tm : Nat → Value} {w : World} {own : Nat → List Nat} {lo : List Nat} (C : Core c st tm w own lo) {Fz' : Nat → Prop} (hf : ∀ b, frz c w (owned own lo) b ∨ (∃ k, b ∈ own k) → Fz' b) :
    ∀ (l : List AV) {xs : List Value}, RepVs w (frz c w (owned own lo)) (locs st tm w) l xs [] → RepVs w Fz' noL (frzBs st l) xs []
  | [], xs, h => by simp only [RepVs, frzBs] at h ⊢; exact h
  | d :: cs, xs, h => by
    simp only [RepVs, frzBs] at h ⊢
    obtain ⟨x, xs', o1, o2, hx, ho, hc, hr⟩ := h
    obtain ⟨rfl, rfl⟩ : o1 = [] ∧ o2 = [] := by simpa using ho.symm
    exact ⟨x, xs', [], [], hx, rfl, frzB_rep C hf d hc, frzBs_rep C hf cs hr⟩
end

/-- **A contract**: called with what reads as args, f comes back with what reads as res (al: may it share memory with what it was lent?), and the things that were handed over read as outs. -/
def fzP (Fz : Nat → Prop) (w w' : World) (os no : List Nat) (al : Bool) (b : Nat) : Prop := ((al = true ∧ (Fz b ∨ b ∈ os)) ∨ w.heap.size ≤ b) ∧ b < w'.heap.size ∧ b ∉ no

def Con (P : Program) (f : FuncId) (args : List AV) (al : Bool) (res : AV) (outs : List AV) : Prop :=
  ∀ (w : World) (Fz : Nat → Prop) (xs : List Value) (os : List Nat), RepVs w Fz noL args xs os → os.Nodup → (∀ b ∈ os, ¬ Fz b ∧ b < w.heap.size) → (∀ b, Fz b → b < w.heap.size) →
    Calls P f xs.toArray w fun e w' => ∃ x ox oo, e = .returned x ∧ Ext w w' os ∧ RepV w' (fzP Fz w w' os (ox ++ oo) al) noL res x ox ∧ RepVs w' (fzP Fz w w' os (ox ++ oo) true) noL outs xs oo ∧
      (ox ++ oo).Nodup ∧ ∀ b ∈ ox ++ oo, (b ∈ os ∨ w.heap.size ≤ b) ∧ b < w'.heap.size
end Go.AM
