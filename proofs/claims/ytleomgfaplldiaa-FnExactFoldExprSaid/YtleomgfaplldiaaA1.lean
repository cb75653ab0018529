/- Own framework, part 1: abstract values of an activation, and what they say of the memory. -/
import Derived.Below
import Derived.Laws.AppendOwn
import Derived.Laws.MakeOwn
import Derived.Laws.CopyRow
import Derived.OrdersHeld
import Derived.Tactics
namespace Go.AM
set_option linter.unusedVariables false

inductive AV where
  | v (x : Value)
  | agg (l : List AV)
  | fsl (sz : Nat) (l : List (List AV))
  | usl (e sz : Nat) (l : List (List AV))
  | fptr (c : List AV)
  | box (e : Nat) (c : List AV)
  | ref (n : Nat) (p : List (Nat × Nat)) (i o : Nat)
  | sref (n : Nat) (p : List (Nat × Nat)) (off len : Nat)
  | clo (f : Nat) (caps : List AV)
  | tup (l : List AV)
  | dead
  deriving Inhabited

/-- The cells from offset h of block g on are xs. -/
def At (w : World) (g h : Nat) (xs : List Value) : Prop := ∀ j u, xs[j]? = some u → w.cell? ⟨g, h + j, none⟩ = some u

mutual
def RepC (w : World) (Fz : Nat → Prop) : AV → Value → List Nat → Prop
  | .v y, x, o => x = y ∧ y.oneCell' = true ∧ o = []
  | .fsl sz l, x, o => o = [] ∧ ∃ A c, x = .slice A l.length c ∧ l.length ≤ c ∧
      (l = [] ∨ ∃ g h xs, A = some ⟨g, h, none⟩ ∧ Fz g ∧ RepRows w Fz sz l xs [] ∧ At w g h xs)
  | .usl e sz l, x, o => (x = .slice none 0 0 ∧ l = [] ∧ o = []) ∨
      ∃ g h c cur xs o', x = .slice (some ⟨g, h * sz, none⟩) l.length c ∧ o = g :: o' ∧ w.heap[g]? = some (.cells cur e (0, 0)) ∧
        l.length ≤ c ∧ (h + c) * sz ≤ cur.size ∧ RepRows w Fz sz l xs o' ∧ At w g (h * sz) xs
  | .fptr cs, x, o => o = [] ∧ ∃ g h xs, x = .pointer (some ⟨g, h, none⟩) ∧ Fz g ∧ RepRow w Fz cs xs [] ∧ At w g h xs
  | .box e cs, x, o => ∃ g xs o', x = .pointer (some ⟨g, 0, none⟩) ∧ o = g :: o' ∧ w.heap[g]? = some (.cells xs.toArray e (0, 0)) ∧ RepRow w Fz cs xs o'
  | .dead, x, o => x.oneCell' = true ∧ o = []
  | _, _, _ => False
def RepRow (w : World) (Fz : Nat → Prop) : List AV → List Value → List Nat → Prop
  | [], xs, o => xs = [] ∧ o = []
  | c :: cs, xs, o => ∃ x xs' o1 o2, xs = x :: xs' ∧ o = o1 ++ o2 ∧ RepC w Fz c x o1 ∧ RepRow w Fz cs xs' o2
def RepRows (w : World) (Fz : Nat → Prop) (sz : Nat) : List (List AV) → List Value → List Nat → Prop
  | [], xs, o => xs = [] ∧ o = []
  | r :: rs, xs, o => ∃ x1 x2 o1 o2, xs = x1 ++ x2 ∧ o = o1 ++ o2 ∧ r.length = sz ∧ RepRow w Fz r x1 o1 ∧ RepRows w Fz sz rs x2 o2
end

theorem At.block_lt {w : World} {g h : Nat} {xs : List Value} (ha : At w g h xs) (hne : xs ≠ []) : g < w.heap.size := by
  cases xs with
  | nil => exact absurd rfl hne
  | cons x t => exact World.block_lt_of_cell? w _ (ha 0 x (by simp))

theorem At.of_block {w w' : World} {g h : Nat} {xs : List Value} (ha : At w g h xs) (hb : w'.heap[g]? = w.heap[g]?) : At w' g h xs := by
  intro j u hj
  rw [World.cell?_of_block (w := w) hb]
  exact ha j u hj

/-- w' agrees with w on all blocks that a representation leans on. -/
structure Agree (w w' : World) (Fz Fz' : Nat → Prop) (o : List Nat) : Prop where
  fz : ∀ b, Fz b → Fz' b ∧ w'.heap[b]? = w.heap[b]?
  own : ∀ b, b ∈ o → w'.heap[b]? = w.heap[b]?

theorem Agree.sub {w w' : World} {Fz Fz' : Nat → Prop} {o o' : List Nat} (h : Agree w w' Fz Fz' o) (hs : ∀ b, b ∈ o' → b ∈ o) : Agree w w' Fz Fz' o' :=
  ⟨h.fz, fun b hb => h.own b (hs b hb)⟩

mutual
theorem RepC.keep {w w' : World} {Fz Fz' : Nat → Prop} : ∀ (av : AV) (x : Value) (o : List Nat), RepC w Fz av x o → Agree w w' Fz Fz' o → RepC w' Fz' av x o
  | .v y, x, o, h, _ => by simpa [RepC] using h
  | .fsl sz l, x, o, h, ag => by
    simp only [RepC] at h ⊢
    obtain ⟨ho, A, c, hx, hc, hl⟩ := h
    refine ⟨ho, A, c, hx, hc, ?_⟩
    rcases hl with hl | ⟨g, hh, xs, hA, hf, hr, hat⟩
    · exact .inl hl
    · exact .inr ⟨g, hh, xs, hA, (ag.fz g hf).1, RepRows.keep sz l xs [] hr (ag.sub (by simp)), hat.of_block (ag.fz g hf).2⟩
  | .usl e sz l, x, o, h, ag => by
    simp only [RepC] at h ⊢
    rcases h with h | ⟨g, hh, c, cur, xs, o', hx, ho, hg, hc, hsz, hr, hat⟩
    · exact .inl h
    · subst ho
      have hb := ag.own g (by simp)
      exact .inr ⟨g, hh, c, cur, xs, o', hx, rfl, by rw [hb]; exact hg, hc, hsz, RepRows.keep sz l xs o' hr (ag.sub (by simp +contextual)), hat.of_block hb⟩
  | .fptr cs, x, o, h, ag => by
    simp only [RepC] at h ⊢
    obtain ⟨ho, g, hh, xs, hx, hf, hr, hat⟩ := h
    exact ⟨ho, g, hh, xs, hx, (ag.fz g hf).1, RepRow.keep cs xs [] hr (ag.sub (by simp)), hat.of_block (ag.fz g hf).2⟩
  | .box e cs, x, o, h, ag => by
    simp only [RepC] at h ⊢
    obtain ⟨g, xs, o', hx, ho, hg, hr⟩ := h
    subst ho
    have hb := ag.own g (by simp)
    exact ⟨g, xs, o', hx, rfl, by rw [hb]; exact hg, RepRow.keep cs xs o' hr (ag.sub (by simp +contextual))⟩
  | .dead, x, o, h, _ => by simpa [RepC] using h
  | .agg _, x, o, h, _ => by simp [RepC] at h
  | .ref .., x, o, h, _ => by simp [RepC] at h
  | .sref .., x, o, h, _ => by simp [RepC] at h
  | .clo .., x, o, h, _ => by simp [RepC] at h
  | .tup .., x, o, h, _ => by simp [RepC] at h
theorem RepRow.keep {w w' : World} {Fz Fz' : Nat → Prop} : ∀ (cs : List AV) (xs : List Value) (o : List Nat), RepRow w Fz cs xs o → Agree w w' Fz Fz' o → RepRow w' Fz' cs xs o
  | [], xs, o, h, _ => by simpa [RepRow] using h
  | c :: cs, xs, o, h, ag => by
    simp only [RepRow] at h ⊢
    obtain ⟨x, xs', o1, o2, hx, ho, hc, hr⟩ := h
    subst ho
    exact ⟨x, xs', o1, o2, hx, rfl, RepC.keep c x o1 hc (ag.sub (by simp +contextual)), RepRow.keep cs xs' o2 hr (ag.sub (by simp +contextual))⟩
theorem RepRows.keep {w w' : World} {Fz Fz' : Nat → Prop} (sz : Nat) : ∀ (rs : List (List AV)) (xs : List Value) (o : List Nat), RepRows w Fz sz rs xs o → Agree w w' Fz Fz' o → RepRows w' Fz' sz rs xs o
  | [], xs, o, h, _ => by simpa [RepRows] using h
  | r :: rs, xs, o, h, ag => by
    simp only [RepRows] at h ⊢
    obtain ⟨x1, x2, o1, o2, hx, ho, hl, h1, h2⟩ := h
    subst ho
    exact ⟨x1, x2, o1, o2, hx, rfl, hl, RepRow.keep r x1 o1 h1 (ag.sub (by simp +contextual)), RepRows.keep sz rs x2 o2 h2 (ag.sub (by simp +contextual))⟩
end
end Go.AM
