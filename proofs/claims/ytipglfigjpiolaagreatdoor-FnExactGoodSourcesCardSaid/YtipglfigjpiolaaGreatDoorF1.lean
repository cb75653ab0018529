/- Own framework: a verified machine over abstract values, part 1. No conditions. -/
import Derived.Below
import Derived.Laws.AppendOwn
import Derived.Laws.MakeOwn
import Derived.Laws.CopyRow
import Derived.OrdersHeld
import Derived.Tactics
import Derived.Laws.Slices
import Derived.Laws.Cells
import Derived.Laws.Small
import Derived.ChangeKeysEq
import Derived.Laws.StructEq
namespace Go.AM
set_option linter.unusedVariables false
inductive AV where
  | v (x : Value)
  | agg (l : List AV)
  | fsl (sz : Nat) (l : List (List AV))
  | usl (e sz : Nat) (l : List (List AV))
  | fptr (c : List AV)
  | box (e : Nat) (c : List AV)
  | ref (n : Nat) (p : List (Nat × Nat)) (i o : Nat)
  | sref (n : Nat) (p : List (Nat × Nat)) (off len : Nat)
  | clo (f : Nat) (caps : List AV)
  | tup (l : List AV)
  | dead
  deriving Inhabited
def At (w : World) (g h : Nat) (xs : List Value) : Prop := ∀ j u, xs[j]? = some u → w.cell? ⟨g, h + j, none⟩ = some u
mutual
def RepC (w : World) (Fz : Nat → Prop) : AV → Value → List Nat → Prop
  | .v y, x, o => x = y ∧ y.oneCell' = true ∧ o = []
  | .fsl sz l, x, o => o = [] ∧ ∃ A c, x = .slice A l.length c ∧ l.length ≤ c ∧
      (l = [] ∨ ∃ g h xs, A = some ⟨g, h, none⟩ ∧ Fz g ∧ RepRows w Fz sz l xs [] ∧ At w g h xs)
  | .usl e sz l, x, o => (x = .slice none 0 0 ∧ l = [] ∧ o = []) ∨
      ∃ g h c cur xs o', x = .slice (some ⟨g, h * sz, none⟩) l.length c ∧ o = g :: o' ∧ w.heap[g]? = some (.cells cur e (0, 0)) ∧
        l.length ≤ c ∧ (h + c) * sz ≤ cur.size ∧ RepRows w Fz sz l xs o' ∧ At w g (h * sz) xs
  | .fptr cs, x, o => o = [] ∧ ∃ g h xs, x = .pointer (some ⟨g, h, none⟩) ∧ Fz g ∧ RepRow w Fz cs xs [] ∧ At w g h xs
  | .box e cs, x, o => ∃ g xs o', x = .pointer (some ⟨g, 0, none⟩) ∧ o = g :: o' ∧ w.heap[g]? = some (.cells xs.toArray e (0, 0)) ∧ RepRow w Fz cs xs o'
  | .dead, x, o => x.oneCell' = true ∧ o = []
  | _, _, _ => False
def RepRow (w : World) (Fz : Nat → Prop) : List AV → List Value → List Nat → Prop
  | [], xs, o => xs = [] ∧ o = []
  | c :: cs, xs, o => ∃ x xs' o1 o2, xs = x :: xs' ∧ o = o1 ++ o2 ∧ RepC w Fz c x o1 ∧ RepRow w Fz cs xs' o2
def RepRows (w : World) (Fz : Nat → Prop) (sz : Nat) : List (List AV) → List Value → List Nat → Prop
  | [], xs, o => xs = [] ∧ o = []
  | r :: rs, xs, o => ∃ x1 x2 o1 o2, xs = x1 ++ x2 ∧ o = o1 ++ o2 ∧ r.length = sz ∧ RepRow w Fz r x1 o1 ∧ RepRows w Fz sz rs x2 o2
end
theorem At.of_block {w w' : World} {g h : Nat} {xs : List Value} (ha : At w g h xs) (hb : w'.heap[g]? = w.heap[g]?) : At w' g h xs := by
  intro j u hj
  rw [World.cell?_of_block (w := w) hb]
  exact ha j u hj
structure Agree (w w' : World) (Fz Fz' : Nat → Prop) (o : List Nat) : Prop where
  fz : ∀ b, Fz b → Fz' b ∧ w'.heap[b]? = w.heap[b]?
  own : ∀ b, b ∈ o → w'.heap[b]? = w.heap[b]?
theorem Agree.sub {w w' : World} {Fz Fz' : Nat → Prop} {o o' : List Nat} (h : Agree w w' Fz Fz' o) (hs : ∀ b, b ∈ o' → b ∈ o) : Agree w w' Fz Fz' o' :=
  ⟨h.fz, fun b hb => h.own b (hs b hb)⟩
mutual
theorem RepC.keep {w w' : World} {Fz Fz' : Nat → Prop} : ∀ (av : AV) (x : Value) (o : List Nat), RepC w Fz av x o → Agree w w' Fz Fz' o → RepC w' Fz' av x o
  | .v y, x, o, h, _ => by simpa [RepC] using h
  | .fsl sz l, x, o, h, ag => by
    simp only [RepC] at h ⊢
    obtain ⟨ho, A, c, hx, hc, hl⟩ := h
    refine ⟨ho, A, c, hx, hc, ?_⟩
    rcases hl with hl | ⟨g, hh, xs, hA, hf, hr, hat⟩
    · exact .inl hl
    · exact .inr ⟨g, hh, xs, hA, (ag.fz g hf).1, RepRows.keep sz l xs [] hr (ag.sub (by simp)), hat.of_block (ag.fz g hf).2⟩
  | .usl e sz l, x, o, h, ag => by
    simp only [RepC] at h ⊢
    rcases h with h | ⟨g, hh, c, cur, xs, o', hx, ho, hg, hc, hsz, hr, hat⟩
    · exact .inl h
    · subst ho
      have hb := ag.own g (by simp)
      exact .inr ⟨g, hh, c, cur, xs, o', hx, rfl, by rw [hb]; exact hg, hc, hsz, RepRows.keep sz l xs o' hr (ag.sub (by simp +contextual)), hat.of_block hb⟩
  | .fptr cs, x, o, h, ag => by
    simp only [RepC] at h ⊢
    obtain ⟨ho, g, hh, xs, hx, hf, hr, hat⟩ := h
    exact ⟨ho, g, hh, xs, hx, (ag.fz g hf).1, RepRow.keep cs xs [] hr (ag.sub (by simp)), hat.of_block (ag.fz g hf).2⟩
  | .box e cs, x, o, h, ag => by
    simp only [RepC] at h ⊢
    obtain ⟨g, xs, o', hx, ho, hg, hr⟩ := h
    subst ho
    have hb := ag.own g (by simp)
    exact ⟨g, xs, o', hx, rfl, by rw [hb]; exact hg, RepRow.keep cs xs o' hr (ag.sub (by simp +contextual))⟩
  | .dead, x, o, h, _ => by simpa [RepC] using h
  | .agg _, x, o, h, _ => by simp [RepC] at h
  | .ref .., x, o, h, _ => by simp [RepC] at h
  | .sref .., x, o, h, _ => by simp [RepC] at h
  | .clo .., x, o, h, _ => by simp [RepC] at h
  | .tup .., x, o, h, _ => by simp [RepC] at h
theorem RepRow.keep {w w' : World} {Fz Fz' : Nat → Prop} : ∀ (cs : List AV) (xs : List Value) (o : List Nat), RepRow w Fz cs xs o → Agree w w' Fz Fz' o → RepRow w' Fz' cs xs o
  | [], xs, o, h, _ => by simpa [RepRow] using h
  | c :: cs, xs, o, h, ag => by
    simp only [RepRow] at h ⊢
    obtain ⟨x, xs', o1, o2, hx, ho, hc, hr⟩ := h
    subst ho
    exact ⟨x, xs', o1, o2, hx, rfl, RepC.keep c x o1 hc (ag.sub (by simp +contextual)), RepRow.keep cs xs' o2 hr (ag.sub (by simp +contextual))⟩
theorem RepRows.keep {w w' : World} {Fz Fz' : Nat → Prop} (sz : Nat) : ∀ (rs : List (List AV)) (xs : List Value) (o : List Nat), RepRows w Fz sz rs xs o → Agree w w' Fz Fz' o → RepRows w' Fz' sz rs xs o
  | [], xs, o, h, _ => by simpa [RepRows] using h
  | r :: rs, xs, o, h, ag => by
    simp only [RepRows] at h ⊢
    obtain ⟨x1, x2, o1, o2, hx, ho, hl, h1, h2⟩ := h
    subst ho
    exact ⟨x1, x2, o1, o2, hx, rfl, hl, RepRow.keep r x1 o1 h1 (ag.sub (by simp +contextual)), RepRows.keep sz rs x2 o2 h2 (ag.sub (by simp +contextual))⟩
end
end Go.AM
namespace Go.AM
set_option linter.unusedVariables false
theorem RepRow.length {w : World} {Fz : Nat → Prop} : ∀ {cs : List AV} {xs : List Value} {o : List Nat}, RepRow w Fz cs xs o → xs.length = cs.length
  | [], xs, o, h => by simp [RepRow] at h; simp [h.1]
  | c :: cs, xs, o, h => by
    simp only [RepRow] at h
    obtain ⟨x, xs', o1, o2, hx, ho, hc, hr⟩ := h
    subst hx
    simp [RepRow.length hr]
theorem RepRows.length {w : World} {Fz : Nat → Prop} {sz : Nat} : ∀ {rs : List (List AV)} {xs : List Value} {o : List Nat}, RepRows w Fz sz rs xs o → xs.length = rs.length * sz
  | [], xs, o, h => by simp [RepRows] at h; simp [h.1]
  | r :: rs, xs, o, h => by
    simp only [RepRows] at h
    obtain ⟨x1, x2, o1, o2, hx, ho, hl, h1, h2⟩ := h
    subst hx
    have := RepRow.length h1
    have := RepRows.length h2
    simp [Nat.add_mul, *]
    omega
theorem RepC.one {w : World} {Fz : Nat → Prop} {av : AV} {x : Value} {o : List Nat} (h : RepC w Fz av x o) : x.oneCell' = true := by
  cases av with
  | v y => simp [RepC] at h; obtain ⟨rfl, h, _⟩ := h; exact h
  | fsl sz l => simp only [RepC] at h; obtain ⟨_, A, c, rfl, _⟩ := h; rfl
  | usl e sz l => simp only [RepC] at h; rcases h with ⟨rfl, _⟩ | ⟨g, hh, c, cur, xs, o', rfl, _⟩ <;> rfl
  | fptr cs => simp only [RepC] at h; obtain ⟨_, g, hh, xs, rfl, _⟩ := h; rfl
  | box e cs => simp only [RepC] at h; obtain ⟨g, xs, o', rfl, _⟩ := h; rfl
  | dead => simp [RepC] at h; exact h.1
  | agg _ => simp [RepC] at h
  | ref _ _ _ _ => simp [RepC] at h
  | sref _ _ _ _ => simp [RepC] at h
  | clo _ _ => simp [RepC] at h
  | tup _ => simp [RepC] at h
theorem RepRow.one {w : World} {Fz : Nat → Prop} : ∀ {cs : List AV} {xs : List Value} {o : List Nat}, RepRow w Fz cs xs o → ∀ u ∈ xs, u.oneCell' = true
  | [], xs, o, h => by simp [RepRow] at h; simp [h.1]
  | c :: cs, xs, o, h => by
    simp only [RepRow] at h
    obtain ⟨x, xs', o1, o2, hx, ho, hc, hr⟩ := h
    subst hx
    intro u hu
    rcases List.mem_cons.1 hu with rfl | hu
    · exact hc.one
    · exact RepRow.one hr u hu
theorem RepRows.one {w : World} {Fz : Nat → Prop} {sz : Nat} : ∀ {rs : List (List AV)} {xs : List Value} {o : List Nat}, RepRows w Fz sz rs xs o → ∀ u ∈ xs, u.oneCell' = true
  | [], xs, o, h => by simp [RepRows] at h; simp [h.1]
  | r :: rs, xs, o, h => by
    simp only [RepRows] at h
    obtain ⟨x1, x2, o1, o2, hx, ho, hl, h1, h2⟩ := h
    subst hx
    intro u hu
    rcases List.mem_append.1 hu with hu | hu
    · exact h1.one u hu
    · exact RepRows.one h2 u hu
theorem RepRow.append {w : World} {Fz : Nat → Prop} : ∀ {cs ds : List AV} {xs ys : List Value} {o q : List Nat}, RepRow w Fz cs xs o → RepRow w Fz ds ys q → RepRow w Fz (cs ++ ds) (xs ++ ys) (o ++ q)
  | [], ds, xs, ys, o, q, h, k => by simp [RepRow] at h; simpa [h] using k
  | c :: cs, ds, xs, ys, o, q, h, k => by
    simp only [RepRow] at h
    obtain ⟨x, xs', o1, o2, hx, ho, hc, hr⟩ := h
    subst hx ho
    simp only [List.cons_append, RepRow]
    exact ⟨x, xs' ++ ys, o1, o2 ++ q, rfl, by simp, hc, RepRow.append hr k⟩
theorem RepRows.append {w : World} {Fz : Nat → Prop} {sz : Nat} : ∀ {cs ds : List (List AV)} {xs ys : List Value} {o q : List Nat}, RepRows w Fz sz cs xs o → RepRows w Fz sz ds ys q → RepRows w Fz sz (cs ++ ds) (xs ++ ys) (o ++ q)
  | [], ds, xs, ys, o, q, h, k => by simp [RepRows] at h; simpa [h] using k
  | c :: cs, ds, xs, ys, o, q, h, k => by
    simp only [RepRows] at h
    obtain ⟨x1, x2, o1, o2, hx, ho, hl, h1, h2⟩ := h
    subst hx ho
    simp only [List.cons_append, RepRows]
    exact ⟨x1, x2 ++ ys, o1, o2 ++ q, by simp, by simp, hl, h1, RepRows.append h2 k⟩
theorem RepRow.split {w : World} {Fz : Nat → Prop} : ∀ {cs : List AV} {xs : List Value} {o : List Nat} (k : Nat), RepRow w Fz cs xs o → k ≤ cs.length →
    ∃ o1 o2, o = o1 ++ o2 ∧ RepRow w Fz (cs.take k) (xs.take k) o1 ∧ RepRow w Fz (cs.drop k) (xs.drop k) o2
  | cs, xs, o, 0, h, _ => ⟨[], o, by simp, by simp [RepRow], by simpa using h⟩
  | [], xs, o, k + 1, h, hk => by simp at hk
  | c :: cs, xs, o, k + 1, h, hk => by
    simp only [RepRow] at h
    obtain ⟨x, xs', o1, o2, hx, ho, hc, hr⟩ := h
    subst hx ho
    obtain ⟨p1, p2, hp, h1, h2⟩ := RepRow.split k hr (by simpa using hk)
    subst hp
    refine ⟨o1 ++ p1, p2, by simp, ?_, by simpa using h2⟩
    simp only [List.take_succ_cons, RepRow]
    exact ⟨x, xs'.take k, o1, p1, rfl, rfl, hc, h1⟩
theorem RepRows.split {w : World} {Fz : Nat → Prop} {sz : Nat} : ∀ {cs : List (List AV)} {xs : List Value} {o : List Nat} (k : Nat), RepRows w Fz sz cs xs o → k ≤ cs.length →
    ∃ o1 o2, o = o1 ++ o2 ∧ RepRows w Fz sz (cs.take k) (xs.take (k * sz)) o1 ∧ RepRows w Fz sz (cs.drop k) (xs.drop (k * sz)) o2
  | cs, xs, o, 0, h, _ => ⟨[], o, by simp, by simp [RepRows], by simpa using h⟩
  | [], xs, o, k + 1, h, hk => by simp at hk
  | c :: cs, xs, o, k + 1, h, hk => by
    simp only [RepRows] at h
    obtain ⟨x1, x2, o1, o2, hx, ho, hl, h1, h2⟩ := h
    subst hx ho
    obtain ⟨p1, p2, hp, k1, k2⟩ := RepRows.split k h2 (by simpa using hk)
    subst hp
    have hlen : x1.length = sz := by rw [h1.length, hl]
    have e : (k + 1) * sz = x1.length + k * sz := by rw [hlen, Nat.add_mul]; omega
    refine ⟨o1 ++ p1, p2, by simp, ?_, ?_⟩
    · simp only [List.take_succ_cons, RepRows]
      refine ⟨x1, x2.take (k * sz), o1, p1, ?_, rfl, hl, h1, k1⟩
      rw [e, List.take_length_add_append]
    · rw [e, List.drop_length_add_append]
      simpa using k2
def addrOf : Value → Option (Nat × Nat)
  | .slice (some a) _ _ => some (a.block, a.off)
  | .pointer (some a) => some (a.block, a.off)
  | _ => none
structure Sh where
  isBox : Bool
  sz : Nat
  len : Nat
def shapeOf : AV → Option Sh
  | .usl _ sz l => some ⟨false, sz, l.length⟩
  | .box _ cs => some ⟨true, cs.length, 1⟩
  | _ => none
def cellOf : AV → Nat → Nat → Option AV
  | .usl _ _ l, i, k => (l[i]?).bind (·[k]?)
  | .box _ cs, i, k => if i = 0 then cs[k]? else none
  | .agg cs, i, k => if i = 0 then cs[k]? else none
  | .tup cs, i, k => if i = 0 then cs[k]? else none
  | _, _, _ => none
def setOf : AV → Nat → Nat → AV → AV
  | .usl e sz l, i, k, c => .usl e sz (l.modify i (·.set k c))
  | .box e cs, _, k, c => .box e (cs.set k c)
  | .agg cs, _, k, c => .agg (cs.set k c)
  | .tup cs, _, k, c => .tup (cs.set k c)
  | av, _, _, _ => av
def cellV (w : World) (av : AV) (y : Value) (i k : Nat) : Option Value :=
  match av, y with
  | .agg _, .agg xs => xs[k]?
  | .tup _, .tuple xs => xs[k]?
  | .usl _ sz _, .slice (some a) _ _ => w.cell? ⟨a.block, a.off + i * sz + k, none⟩
  | .box _ _, .pointer (some a) => w.cell? ⟨a.block, a.off + k, none⟩
  | _, _ => none
def walk (w : World) : AV → Value → List (Nat × Nat) → Option (AV × Value)
  | av, y, [] => some (av, y)
  | av, y, (i, k) :: p => (cellOf av i k).bind fun c => (cellV w av y i k).bind fun z => walk w c z p
def getC : AV → List (Nat × Nat) → Option AV
  | av, [] => some av
  | av, (i, k) :: p => (cellOf av i k).bind fun c => getC c p
def setC : AV → List (Nat × Nat) → AV → AV
  | _, [], c => c
  | av, (i, k) :: p, c => match cellOf av i k with
    | some d => setOf av i k (setC d p c)
    | none => av
def walkSh (w : World) (av : AV) (y : Value) (p : List (Nat × Nat)) : Option (Sh × Value) :=
  (walk w av y p).bind fun r => (shapeOf r.1).map fun s => (s, r.2)
theorem walk_getC {w : World} : ∀ {p : List (Nat × Nat)} {av : AV} {y : Value} {c : AV} {z : Value}, walk w av y p = some (c, z) → getC av p = some c
  | [], av, y, c, z, h => by simp [walk] at h; simp [getC, h.1]
  | (i, k) :: p, av, y, c, z, h => by
    simp only [walk, Option.bind_eq_some_iff] at h
    obtain ⟨d, hd, u, hu, hw⟩ := h
    simp only [getC, hd, Option.bind_some]
    exact walk_getC hw
structure CellAt (w : World) (Fz : Nat → Prop) (av : AV) (y : Value) (o : List Nat) (i k : Nat) (c : AV) (z : Value) (oc oR : List Nat) : Prop where
  cv : cellV w av y i k = some z
  rep : RepC w Fz c z oc
  mem : ∀ b, b ∈ o ↔ b ∈ oc ∨ b ∈ oR
  dj : o.Nodup → oc.Nodup ∧ ∀ b ∈ oc, b ∉ oR
  put : ∀ (w' : World) (Fz' : Nat → Prop) (c' : AV) (oc' : List Nat), Agree w w' Fz Fz' oR → RepC w' Fz' c' z oc' →
    ∃ o', RepC w' Fz' (setOf av i k c') y o' ∧ (∀ b, b ∈ o' ↔ b ∈ oc' ∨ b ∈ oR) ∧ (o.Nodup → oc'.Nodup → (∀ b ∈ oc', b ∉ oR) → o'.Nodup)
  cv' : ∀ (w' : World) (c' : AV) (i' k' : Nat), (∀ b ∈ oR, w'.heap[b]? = w.heap[b]?) → cellV w' (setOf av i k c') y i' k' = cellV w av y i' k'
theorem RepRow.at {w : World} {Fz : Nat → Prop} : ∀ {cs : List AV} {xs : List Value} {o : List Nat} {k : Nat} {c : AV}, RepRow w Fz cs xs o → cs[k]? = some c →
    ∃ z o1 oc o2, o = o1 ++ (oc ++ o2) ∧ xs[k]? = some z ∧ RepC w Fz c z oc ∧
      ∀ w' Fz' c' oc', Agree w w' Fz Fz' (o1 ++ o2) → RepC w' Fz' c' z oc' → RepRow w' Fz' (cs.set k c') xs (o1 ++ (oc' ++ o2))
  | [], xs, o, k, c, h, hk => by simp at hk
  | d :: cs, xs, o, 0, c, h, hk => by
    simp only [RepRow] at h
    obtain ⟨x, xs', o1, o2, hx, ho, hc, hr⟩ := h
    subst hx ho
    simp at hk
    subst hk
    refine ⟨x, [], o1, o2, by simp, by simp, hc, ?_⟩
    intro w' Fz' c' oc' ag hc'
    simp only [List.set_cons_zero, RepRow]
    exact ⟨x, xs', oc', o2, rfl, by simp, hc', hr.keep _ _ _ (ag.sub (by simp))⟩
  | d :: cs, xs, o, k + 1, c, h, hk => by
    simp only [RepRow] at h
    obtain ⟨x, xs', p1, p2, hx, ho, hc, hr⟩ := h
    subst hx ho
    obtain ⟨z, o1, oc, o2, ho, hz, hcz, hput⟩ := RepRow.at hr (by simpa using hk)
    subst ho
    refine ⟨z, p1 ++ o1, oc, o2, by simp, by simpa using hz, hcz, ?_⟩
    intro w' Fz' c' oc' ag hc'
    simp only [List.set_cons_succ, RepRow]
    exact ⟨x, xs', p1, o1 ++ (oc' ++ o2), rfl, by simp, hc.keep _ _ _ (ag.sub (by simp +contextual)), hput w' Fz' c' oc' (ag.sub (by simp only [List.mem_append]; intro b hb; rcases hb with h | h <;> simp [h])) hc'⟩
theorem RepRows.at {w : World} {Fz : Nat → Prop} {sz : Nat} : ∀ {rs : List (List AV)} {xs : List Value} {o : List Nat} {i k : Nat} {r : List AV} {c : AV}, RepRows w Fz sz rs xs o → rs[i]? = some r → r[k]? = some c →
    ∃ z o1 oc o2, o = o1 ++ (oc ++ o2) ∧ xs[i * sz + k]? = some z ∧ RepC w Fz c z oc ∧
      ∀ w' Fz' c' oc', Agree w w' Fz Fz' (o1 ++ o2) → RepC w' Fz' c' z oc' → RepRows w' Fz' sz (rs.modify i (·.set k c')) xs (o1 ++ (oc' ++ o2))
  | [], xs, o, i, k, r, c, h, hi, hk => by simp at hi
  | d :: rs, xs, o, 0, k, r, c, h, hi, hk => by
    simp only [RepRows] at h
    obtain ⟨x1, x2, p1, p2, hx, ho, hl, h1, h2⟩ := h
    subst hx ho
    simp at hi
    subst hi
    obtain ⟨z, o1, oc, o2, ho, hz, hcz, hput⟩ := RepRow.at h1 hk
    subst ho
    have hkl : k < x1.length := by
      rw [h1.length]
      exact (List.getElem?_eq_some_iff.1 hk).1
    refine ⟨z, o1, oc, o2 ++ p2, by simp, ?_, hcz, ?_⟩
    · rw [Nat.zero_mul, Nat.zero_add, List.getElem?_append_left hkl]; exact hz
    intro w' Fz' c' oc' ag hc'
    simp only [List.modify_zero_cons, RepRows]
    refine ⟨x1, x2, o1 ++ (oc' ++ o2), p2, rfl, by simp, by simpa using hl, hput w' Fz' c' oc' (ag.sub ?_) hc', h2.keep _ _ _ _ (ag.sub ?_)⟩
    · intro b hb; simp only [List.mem_append] at hb ⊢; rcases hb with h | h <;> simp [h]
    · intro b hb; simp [hb]
  | d :: rs, xs, o, i + 1, k, r, c, h, hi, hk => by
    simp only [RepRows] at h
    obtain ⟨x1, x2, p1, p2, hx, ho, hl, h1, h2⟩ := h
    subst hx ho
    obtain ⟨z, o1, oc, o2, ho, hz, hcz, hput⟩ := RepRows.at h2 (by simpa using hi) hk
    subst ho
    have hlen : x1.length = sz := by rw [h1.length, hl]
    refine ⟨z, p1 ++ o1, oc, o2, by simp, ?_, hcz, ?_⟩
    · have e : (i + 1) * sz + k = x1.length + (i * sz + k) := by rw [hlen, Nat.add_mul]; omega
      rw [e, List.getElem?_append_right (by omega)]
      simpa using hz
    · intro w' Fz' c' oc' ag hc'
      simp only [List.modify_succ_cons, RepRows]
      refine ⟨x1, x2, p1, o1 ++ (oc' ++ o2), rfl, by simp, hl, h1.keep _ _ _ (ag.sub ?_), hput w' Fz' c' oc' (ag.sub ?_) hc'⟩
      · intro b hb; simp [hb]
      · intro b hb; simp only [List.mem_append] at hb ⊢; rcases hb with h | h <;> simp [h]
end Go.AM
namespace Go.AM
set_option linter.unusedVariables false
theorem mem_mid {b : Nat} {a m c : List Nat} : b ∈ a ++ (m ++ c) ↔ b ∈ m ∨ b ∈ a ++ c := by
  simp only [List.mem_append]
  constructor
  · rintro (h | h | h) <;> simp [h]
  · rintro (h | h | h) <;> simp [h]
theorem nodup_mid {a m c : List Nat} (h : (a ++ (m ++ c)).Nodup) : m.Nodup ∧ (∀ b ∈ m, b ∉ a ++ c) ∧ (a ++ c).Nodup := by
  have hp : (a ++ (m ++ c)).Perm (m ++ (a ++ c)) := by
    rw [← List.append_assoc, ← List.append_assoc]
    exact List.Perm.append_right _ List.perm_append_comm
  rw [hp.nodup_iff, List.nodup_append] at h
  exact ⟨h.1, fun b hb hb' => h.2.2 b hb b hb' rfl, h.2.1⟩
theorem nodup_mk {a m c : List Nat} (h1 : m.Nodup) (h2 : ∀ b ∈ m, b ∉ a ++ c) (h3 : (a ++ c).Nodup) : (a ++ (m ++ c)).Nodup := by
  have hp : (a ++ (m ++ c)).Perm (m ++ (a ++ c)) := by
    rw [← List.append_assoc, ← List.append_assoc]
    exact List.Perm.append_right _ List.perm_append_comm
  rw [hp.nodup_iff, List.nodup_append]
  exact ⟨h1, h3, fun b hb b' hb' e => h2 b hb (e ▸ hb')⟩
theorem At.get {w : World} {g h : Nat} {xs : List Value} (ha : At w g h xs) {j : Nat} {z : Value} (hz : xs[j]? = some z) : w.cell? ⟨g, h + j, none⟩ = some z := ha j z hz
theorem cell_of_cells {w : World} {g : Nat} {cs : Array Value} {e : TypeId} {fr : Nat × Nat} (hg : w.heap[g]? = some (.cells cs e fr)) (j : Nat) : w.cell? ⟨g, j, none⟩ = cs[j]? := cell_of_row w g j cs e fr hg
theorem RepC.cellAt {w : World} {Fz : Nat → Prop} {av : AV} {y : Value} {o : List Nat} {i k : Nat} {c : AV} (h : RepC w Fz av y o) (hc : cellOf av i k = some c) :
    ∃ z oc oR, CellAt w Fz av y o i k c z oc oR := by
  cases av with
  | usl e sz l =>
    simp only [cellOf, Option.bind_eq_some_iff] at hc
    obtain ⟨r, hi, hk⟩ := hc
    simp only [RepC] at h
    rcases h with ⟨_, hl, _⟩ | ⟨g, hh, cp, cur, xs, o', hy, ho, hg, hcp, hsz, hr, hat⟩
    · subst hl; simp at hi
    · subst hy ho
      obtain ⟨z, o1, oc, o2, ho, hz, hcz, hput⟩ := hr.at hi hk
      subst ho
      have hcell := hat.get hz
      refine ⟨z, oc, g :: (o1 ++ o2), ?_, hcz, ?_, ?_, ?_, ?_⟩
      · simp only [cellV]; rw [← hcell, Nat.add_assoc]
      · intro b
        have := @mem_mid b o1 oc o2
        simp only [List.mem_cons]
        rw [this]
        constructor
        · rintro (h | h | h) <;> simp [h]
        · rintro (h | h | h) <;> simp [h]
      · intro hnd
        have hnd' := List.nodup_cons.1 hnd
        obtain ⟨h1, h2, h3⟩ := nodup_mid hnd'.2
        refine ⟨h1, fun b hb hb' => ?_⟩
        rcases List.mem_cons.1 hb' with rfl | hb'
        · exact hnd'.1 (mem_mid.2 (.inl hb))
        · exact h2 b hb hb'
      · intro w' Fz' c' oc' ag hc'
        have hb := ag.own g (by simp)
        refine ⟨g :: (o1 ++ (oc' ++ o2)), ?_, ?_, ?_⟩
        · simp only [setOf, RepC]
          refine .inr ⟨g, hh, cp, cur, xs, o1 ++ (oc' ++ o2), by simp, rfl, by rw [hb]; exact hg, by simpa using hcp, hsz, hput w' Fz' c' oc' (ag.sub (by simp +contextual)) hc', hat.of_block hb⟩
        · intro b
          have := @mem_mid b o1 oc' o2
          simp only [List.mem_cons]
          rw [this]
          constructor
          · rintro (h | h | h) <;> simp [h]
          · rintro (h | h | h) <;> simp [h]
        · intro hnd hoc hdj
          have hnd' := List.nodup_cons.1 hnd
          obtain ⟨_, _, h3⟩ := nodup_mid hnd'.2
          refine List.nodup_cons.2 ⟨fun hm => ?_, nodup_mk hoc (fun b hb hb' => hdj b hb (by simp [hb'])) h3⟩
          rcases mem_mid.1 hm with hm | hm
          · exact hdj g hm (by simp)
          · exact hnd'.1 (mem_mid.2 (.inr hm))
      · intro w' c' i' k' hkeep
        simp only [setOf, cellV]
        exact World.cell?_of_block (w := w) (hkeep g (by simp))
  | box e cs =>
    simp only [cellOf] at hc
    split at hc
    · rename_i hi0
      simp only [RepC] at h
      obtain ⟨g, xs, o', hy, ho, hg, hr⟩ := h
      subst hy ho
      obtain ⟨z, o1, oc, o2, ho, hz, hcz, hput⟩ := hr.at hc
      subst ho
      have hcell : w.cell? ⟨g, k, none⟩ = some z := by rw [cell_of_cells hg]; simpa using hz
      refine ⟨z, oc, g :: (o1 ++ o2), ?_, hcz, ?_, ?_, ?_, ?_⟩
      · simp only [cellV, Nat.zero_add]; exact hcell
      · intro b
        have := @mem_mid b o1 oc o2
        simp only [List.mem_cons]
        rw [this]
        constructor
        · rintro (h | h | h) <;> simp [h]
        · rintro (h | h | h) <;> simp [h]
      · intro hnd
        have hnd' := List.nodup_cons.1 hnd
        obtain ⟨h1, h2, h3⟩ := nodup_mid hnd'.2
        refine ⟨h1, fun b hb hb' => ?_⟩
        rcases List.mem_cons.1 hb' with rfl | hb'
        · exact hnd'.1 (mem_mid.2 (.inl hb))
        · exact h2 b hb hb'
      · intro w' Fz' c' oc' ag hc'
        have hb := ag.own g (by simp)
        refine ⟨g :: (o1 ++ (oc' ++ o2)), ?_, ?_, ?_⟩
        · simp only [setOf, RepC]
          exact ⟨g, xs, o1 ++ (oc' ++ o2), rfl, rfl, by rw [hb]; exact hg, hput w' Fz' c' oc' (ag.sub (by simp +contextual)) hc'⟩
        · intro b
          have := @mem_mid b o1 oc' o2
          simp only [List.mem_cons]
          rw [this]
          constructor
          · rintro (h | h | h) <;> simp [h]
          · rintro (h | h | h) <;> simp [h]
        · intro hnd hoc hdj
          have hnd' := List.nodup_cons.1 hnd
          obtain ⟨_, _, h3⟩ := nodup_mid hnd'.2
          refine List.nodup_cons.2 ⟨fun hm => ?_, nodup_mk hoc (fun b hb hb' => hdj b hb (by simp [hb'])) h3⟩
          rcases mem_mid.1 hm with hm | hm
          · exact hdj g hm (by simp)
          · exact hnd'.1 (mem_mid.2 (.inr hm))
      · intro w' c' i' k' hkeep
        simp only [setOf, cellV]
        exact World.cell?_of_block (w := w) (hkeep g (by simp))
    · simp at hc
  | v _ => simp [cellOf] at hc
  | fsl _ _ => simp [cellOf] at hc
  | fptr _ => simp [cellOf] at hc
  | dead => simp [cellOf] at hc
  | agg _ => simp [RepC] at h
  | ref _ _ _ _ => simp [RepC] at h
  | sref _ _ _ _ => simp [RepC] at h
  | clo _ _ => simp [RepC] at h
  | tup _ => simp [RepC] at h
theorem cellOf_setOf {av c c' : AV} {i k : Nat} (h : cellOf av i k = some c) : cellOf (setOf av i k c') i k = some c' := by
  cases av with
  | usl e sz l =>
    simp only [cellOf, Option.bind_eq_some_iff] at h
    obtain ⟨r, hi, hk⟩ := h
    have := (List.getElem?_eq_some_iff.1 hk).1
    simp [setOf, cellOf, hi, this]
  | box e cs =>
    simp only [cellOf] at h
    split at h
    · have := (List.getElem?_eq_some_iff.1 h).1
      rename_i hi; subst hi
      simp [setOf, cellOf, this]
    · simp at h
  | agg cs =>
    simp only [cellOf] at h
    split at h
    · have := (List.getElem?_eq_some_iff.1 h).1
      rename_i hi; subst hi
      simp [setOf, cellOf, this]
    · simp at h
  | tup cs =>
    simp only [cellOf] at h
    split at h
    · have := (List.getElem?_eq_some_iff.1 h).1
      rename_i hi; subst hi
      simp [setOf, cellOf, this]
    · simp at h
  | v _ => simp [cellOf] at h
  | fsl _ _ => simp [cellOf] at h
  | fptr _ => simp [cellOf] at h
  | dead => simp [cellOf] at h
  | ref _ _ _ _ => simp [cellOf] at h
  | sref _ _ _ _ => simp [cellOf] at h
  | clo _ _ => simp [cellOf] at h
theorem cellOf_setOf_ne {av c' : AV} {i k i' k' : Nat} (h : ¬ (i' = i ∧ k' = k)) : (∃ e sz l, av = .usl e sz l) → cellOf (setOf av i k c') i' k' = cellOf av i' k' := by
  rintro ⟨e, sz, l, rfl⟩
  simp only [setOf, cellOf, List.getElem?_modify]
  by_cases hi : i = i'
  · subst hi
    have hk : ¬ k = k' := fun e => h ⟨rfl, e.symm⟩
    cases l[i]? <;> simp [hk]
  · simp [hi]
theorem shapeOf_setOf (av : AV) (i k : Nat) (c : AV) : shapeOf (setOf av i k c) = shapeOf av := by
  cases av <;> simp [setOf, shapeOf]
structure Spot (w : World) (Fz : Nat → Prop) (R : World → (Nat → Prop) → AV → Value → List Nat → Prop) (av0 : AV) (y0 : Value) (o0 : List Nat) (p : List (Nat × Nat)) (av : AV) (y : Value) (o oR : List Nat) : Prop where
  rep : RepC w Fz av y o
  mem : ∀ b, b ∈ o0 ↔ b ∈ o ∨ b ∈ oR
  dj : o0.Nodup → o.Nodup ∧ ∀ b ∈ o, b ∉ oR
  put : ∀ (w' : World) (Fz' : Nat → Prop) (av' : AV) (o' : List Nat), Agree w w' Fz Fz' oR → RepC w' Fz' av' y o' →
    ∃ o0', R w' Fz' (setC av0 p av') y0 o0' ∧ (∀ b, b ∈ o0' ↔ b ∈ o' ∨ b ∈ oR) ∧ (o0.Nodup → o'.Nodup → (∀ b ∈ o', b ∉ oR) → o0'.Nodup)
  wk : ∀ (w' : World) (av' : AV), (∀ b ∈ oR, w'.heap[b]? = w.heap[b]?) → ∀ q, walk w' (setC av0 p av') y0 (p ++ q) = walk w' av' y q
  pre : ∀ (w' : World) (av' : AV), (∀ b ∈ oR, w'.heap[b]? = w.heap[b]?) → ∀ q, q <+: p → ¬ p <+: q → walkSh w' (setC av0 p av') y0 q = walkSh w av0 y0 q
theorem RepC.spot {w : World} {Fz : Nat → Prop} : ∀ (p : List (Nat × Nat)) {av0 : AV} {y0 : Value} {o0 : List Nat} {av : AV} {y : Value}, RepC w Fz av0 y0 o0 → walk w av0 y0 p = some (av, y) →
    ∃ o oR, Spot w Fz RepC av0 y0 o0 p av y o oR
  | [], av0, y0, o0, av, y, h, hw => by
    simp only [walk, Option.some.injEq, Prod.mk.injEq] at hw
    obtain ⟨rfl, rfl⟩ := hw
    refine ⟨o0, [], h, by simp, fun hn => ⟨hn, by simp⟩, ?_, ?_, ?_⟩
    · intro w' Fz' av' o' _ h'
      exact ⟨o', by simpa [setC] using h', by simp, fun _ hn _ => hn⟩
    · intro w' av' _ q; simp [setC]
    · intro w' av' _ q hq hn; exact absurd List.nil_prefix hn
  | (i, k) :: p, av0, y0, o0, av, y, h, hw => by
    simp only [walk, Option.bind_eq_some_iff] at hw
    obtain ⟨c, hc, z, hz, hw⟩ := hw
    obtain ⟨z', oc, oR, C⟩ := h.cellAt hc
    have hzz : z' = z := by have := C.cv; rw [hz] at this; exact (Option.some.inj this).symm
    subst hzz
    obtain ⟨o, oR', S⟩ := RepC.spot p C.rep hw
    refine ⟨o, oR' ++ oR, S.rep, ?_, ?_, ?_, ?_, ?_⟩
    · intro b; rw [C.mem, S.mem, List.mem_append]; exact or_assoc
    · intro hn
      obtain ⟨h1, h2⟩ := C.dj hn
      obtain ⟨h3, h4⟩ := S.dj h1
      refine ⟨h3, fun b hb hb' => ?_⟩
      rcases List.mem_append.1 hb' with hb' | hb'
      · exact h4 b hb hb'
      · exact h2 b ((S.mem b).2 (.inl hb)) hb'
    · intro w' Fz' av' o' ag h'
      obtain ⟨oc', hr, hm, hnd⟩ := S.put w' Fz' av' o' (ag.sub (by simp +contextual)) h'
      obtain ⟨o0', hr0, hm0, hnd0⟩ := C.put w' Fz' _ oc' (ag.sub (by simp +contextual)) hr
      refine ⟨o0', ?_, ?_, ?_⟩
      · simp only [setC, hc]; exact hr0
      · intro b; rw [hm0, hm, List.mem_append]; exact or_assoc
      · intro hn ho' hdj
        obtain ⟨h1, h2⟩ := C.dj hn
        refine hnd0 hn (hnd h1 ho' fun b hb hb' => hdj b hb (by simp [hb'])) fun b hb hb' => ?_
        rcases (hm b).1 hb with hb | hb
        · exact hdj b hb (by simp [hb'])
        · exact h2 b ((S.mem b).2 (.inr hb)) hb'
    · intro w' av' hk q
      simp only [setC, hc, List.cons_append, walk, cellOf_setOf hc, Option.bind_some]
      rw [C.cv' w' _ i k (fun b hb => hk b (by simp [hb])), hz]
      simp only [Option.bind_some]
      exact S.wk w' av' (fun b hb => hk b (by simp [hb])) q
    · intro w' av' hk q hq hn
      cases q with
      | nil => simp [walkSh, walk, setC, hc, shapeOf_setOf]
      | cons ik q =>
        obtain ⟨rfl, hq'⟩ := List.cons_prefix_cons.1 hq
        have hn' : ¬ p <+: q := fun hh => hn (List.cons_prefix_cons.2 ⟨rfl, hh⟩)
        have := S.pre w' av' (fun b hb => hk b (by simp [hb])) q hq' hn'
        simp only [walkSh, walk, setC, hc, cellOf_setOf hc, Option.bind_some] at this ⊢
        rw [C.cv' w' _ i k (fun b hb => hk b (by simp [hb])), hz]
        simp only [Option.bind_some]
        exact this
end Go.AM
namespace Go.AM
set_option linter.unusedVariables false
abbrev Locs := Nat → List (Nat × Nat) → Option (Sh × Value)
def Win (sz : Nat) (y : Value) (off len : Nat) (x : Value) : Prop :=
  (y = .slice none 0 0 ∧ x = .slice none 0 0 ∧ off = 0 ∧ len = 0) ∨
  ∃ g b n c k cx, y = .slice (some ⟨g, b, none⟩) n c ∧ x = .slice (some ⟨g, b + k * sz, none⟩) len cx ∧ len ≤ cx ∧ k + cx ≤ c ∧ ((k = off ∧ k + cx = c) ∨ (off ≠ 0 ∧ len = 0 ∧ cx = 0))
mutual
def RepV (w : World) (Fz : Nat → Prop) (L : Locs) : AV → Value → List Nat → Prop
  | .agg l, x, o => ∃ xs, x = .agg xs.toArray ∧ RepVs w Fz L l xs o
  | .tup l, x, o => ∃ xs, x = .tuple xs.toArray ∧ RepVs w Fz L l xs o
  | .clo f caps, x, o => ∃ xs, x = .func (.func f) #[] xs.toArray ∧ RepVs w Fz L caps xs o
  | .ref n p i k, x, o => o = [] ∧ ∃ s y b f, L n p = some (s, y) ∧ addrOf y = some (b, f) ∧ i < s.len ∧ k ≤ s.sz ∧ x = .pointer (some ⟨b, f + i * s.sz + k, none⟩)
  | .sref n p off len, x, o => o = [] ∧ ∃ s y, L n p = some (s, y) ∧ s.isBox = false ∧ off + len ≤ s.len ∧ Win s.sz y off len x
  | .dead, x, o => o = []
  | .v y, x, o => RepC w Fz (.v y) x o
  | .fsl sz l, x, o => RepC w Fz (.fsl sz l) x o
  | .usl e sz l, x, o => RepC w Fz (.usl e sz l) x o
  | .fptr c, x, o => RepC w Fz (.fptr c) x o
  | .box e c, x, o => RepC w Fz (.box e c) x o
def RepVs (w : World) (Fz : Nat → Prop) (L : Locs) : List AV → List Value → List Nat → Prop
  | [], xs, o => xs = [] ∧ o = []
  | c :: cs, xs, o => ∃ x xs' o1 o2, xs = x :: xs' ∧ o = o1 ++ o2 ∧ RepV w Fz L c x o1 ∧ RepVs w Fz L cs xs' o2
end
theorem RepC.toV {w : World} {Fz : Nat → Prop} {L : Locs} {av : AV} {x : Value} {o : List Nat} (h : RepC w Fz av x o) : RepV w Fz L av x o := by
  cases av with
  | dead => simp only [RepC] at h; simp only [RepV]; exact h.2
  | v y => simp only [RepV]; exact h
  | fsl sz l => simp only [RepV]; exact h
  | usl e sz l => simp only [RepV]; exact h
  | fptr c => simp only [RepV]; exact h
  | box e c => simp only [RepV]; exact h
  | agg _ => simp [RepC] at h
  | ref _ _ _ _ => simp [RepC] at h
  | sref _ _ _ _ => simp [RepC] at h
  | clo _ _ => simp [RepC] at h
  | tup _ => simp [RepC] at h
mutual
def killV (K : Nat → List (Nat × Nat) → Bool) : AV → AV
  | .ref n p i k => if K n p then .dead else .ref n p i k
  | .sref n p off len => if K n p then .dead else .sref n p off len
  | .agg l => .agg (killVs K l)
  | .tup l => .tup (killVs K l)
  | .clo f caps => .clo f (killVs K caps)
  | .v y => .v y
  | .fsl sz l => .fsl sz l
  | .usl e sz l => .usl e sz l
  | .fptr c => .fptr c
  | .box e c => .box e c
  | .dead => .dead
def killVs (K : Nat → List (Nat × Nat) → Bool) : List AV → List AV
  | [] => []
  | c :: cs => killV K c :: killVs K cs
end
theorem killVs_get (K : Nat → List (Nat × Nat) → Bool) : ∀ (l : List AV) (k : Nat), (killVs K l)[k]? = (l[k]?).map (killV K)
  | [], k => by simp [killVs]
  | c :: cs, 0 => by simp [killVs]
  | c :: cs, k + 1 => by simp [killVs, killVs_get K cs k]
theorem shapeOf_kill (K : Nat → List (Nat × Nat) → Bool) (av : AV) : shapeOf (killV K av) = shapeOf av := by
  cases av with
  | ref n p i k => simp only [killV]; split <;> rfl
  | sref n p i k => simp only [killV]; split <;> rfl
  | _ => rfl
mutual
theorem RepV.keep {w w' : World} {Fz Fz' : Nat → Prop} {L L' : Locs} {K : Nat → List (Nat × Nat) → Bool} (hL : ∀ n p r, K n p = false → L n p = some r → L' n p = some r) :
    ∀ (av : AV) (x : Value) (o : List Nat), RepV w Fz L av x o → Agree w w' Fz Fz' o → RepV w' Fz' L' (killV K av) x o
  | .agg l, x, o, h, ag => by
    simp only [RepV, killV] at h ⊢
    obtain ⟨xs, hx, h⟩ := h
    exact ⟨xs, hx, RepVs.keep hL l xs o h ag⟩
  | .tup l, x, o, h, ag => by
    simp only [RepV, killV] at h ⊢
    obtain ⟨xs, hx, h⟩ := h
    exact ⟨xs, hx, RepVs.keep hL l xs o h ag⟩
  | .clo f l, x, o, h, ag => by
    simp only [RepV, killV] at h ⊢
    obtain ⟨xs, hx, h⟩ := h
    exact ⟨xs, hx, RepVs.keep hL l xs o h ag⟩
  | .ref n p i k, x, o, h, ag => by
    simp only [RepV, killV] at h ⊢
    obtain ⟨ho, s, y, b, f, hl, h⟩ := h
    cases hK : K n p with
    | true => simp [RepV, ho]
    | false => simp only [Bool.false_eq_true, if_false, RepV]; exact ⟨ho, s, y, b, f, hL n p _ hK hl, h⟩
  | .sref n p off len, x, o, h, ag => by
    simp only [RepV, killV] at h ⊢
    obtain ⟨ho, s, y, hl, h⟩ := h
    cases hK : K n p with
    | true => simp [RepV, ho]
    | false => simp only [Bool.false_eq_true, if_false, RepV]; exact ⟨ho, s, y, hL n p _ hK hl, h⟩
  | .dead, x, o, h, ag => by simpa [RepV, killV] using h
  | .v y, x, o, h, ag => by simp only [RepV, killV] at h ⊢; exact h.keep _ _ _ ag
  | .fsl sz l, x, o, h, ag => by simp only [RepV, killV] at h ⊢; exact h.keep _ _ _ ag
  | .usl e sz l, x, o, h, ag => by simp only [RepV, killV] at h ⊢; exact h.keep _ _ _ ag
  | .fptr c, x, o, h, ag => by simp only [RepV, killV] at h ⊢; exact h.keep _ _ _ ag
  | .box e c, x, o, h, ag => by simp only [RepV, killV] at h ⊢; exact h.keep _ _ _ ag
theorem RepVs.keep {w w' : World} {Fz Fz' : Nat → Prop} {L L' : Locs} {K : Nat → List (Nat × Nat) → Bool} (hL : ∀ n p r, K n p = false → L n p = some r → L' n p = some r) :
    ∀ (cs : List AV) (xs : List Value) (o : List Nat), RepVs w Fz L cs xs o → Agree w w' Fz Fz' o → RepVs w' Fz' L' (killVs K cs) xs o
  | [], xs, o, h, ag => by simpa [RepVs, killVs] using h
  | c :: cs, xs, o, h, ag => by
    simp only [RepVs, killVs] at h ⊢
    obtain ⟨x, xs', o1, o2, hx, ho, hc, hr⟩ := h
    subst ho
    exact ⟨x, xs', o1, o2, hx, rfl, RepV.keep hL c x o1 hc (ag.sub (by simp +contextual)), RepVs.keep hL cs xs' o2 hr (ag.sub (by simp +contextual))⟩
end
theorem killV_none (av : AV) : killV (fun _ _ => false) av = av := by
  have : (∀ av : AV, killV (fun _ _ => false) av = av) ∧ (∀ l : List AV, killVs (fun _ _ => false) l = l) := by
    constructor
    · intro av
      induction av using AV.rec (motive_2 := fun l => killVs (fun _ _ => false) l = l) (motive_3 := fun _ => True) <;> simp_all [killV, killVs]
    · intro l
      induction l with
      | nil => rfl
      | cons c cs ih =>
        simp only [killVs, ih, List.cons.injEq, and_true]
        induction c using AV.rec (motive_2 := fun l => killVs (fun _ _ => false) l = l) (motive_3 := fun _ => True) <;> simp_all [killV, killVs]
  exact this.1 av
theorem RepVs.at {w : World} {Fz : Nat → Prop} {L : Locs} : ∀ {cs : List AV} {xs : List Value} {o : List Nat} {k : Nat} {c : AV}, RepVs w Fz L cs xs o → cs[k]? = some c →
    ∃ z o1 oc o2, o = o1 ++ (oc ++ o2) ∧ xs[k]? = some z ∧ RepV w Fz L c z oc ∧
      ∀ w' Fz' L' c' oc', (∀ n p r, L n p = some r → L' n p = some r) → Agree w w' Fz Fz' (o1 ++ o2) → RepV w' Fz' L' c' z oc' → RepVs w' Fz' L' (cs.set k c') xs (o1 ++ (oc' ++ o2))
  | [], xs, o, k, c, h, hk => by simp at hk
  | d :: cs, xs, o, 0, c, h, hk => by
    simp only [RepVs] at h
    obtain ⟨x, xs', o1, o2, hx, ho, hc, hr⟩ := h
    subst hx ho
    simp at hk
    subst hk
    refine ⟨x, [], o1, o2, by simp, by simp, hc, ?_⟩
    intro w' Fz' L' c' oc' hL ag hc'
    simp only [List.set_cons_zero, RepVs]
    have := hr.keep (K := fun _ _ => false) (fun n p r _ => hL n p r) _ _ _ (ag.sub (by simp))
    have e : killVs (fun _ _ => false) cs = cs := by
      have := killV_none (.agg cs); simpa [killV] using this
    rw [e] at this
    exact ⟨x, xs', oc', o2, rfl, by simp, hc', this⟩
  | d :: cs, xs, o, k + 1, c, h, hk => by
    simp only [RepVs] at h
    obtain ⟨x, xs', p1, p2, hx, ho, hc, hr⟩ := h
    subst hx ho
    obtain ⟨z, o1, oc, o2, ho, hz, hcz, hput⟩ := RepVs.at hr (by simpa using hk)
    subst ho
    refine ⟨z, p1 ++ o1, oc, o2, by simp, by simpa using hz, hcz, ?_⟩
    intro w' Fz' L' c' oc' hL ag hc'
    simp only [List.set_cons_succ, RepVs]
    have h1 := hc.keep (K := fun _ _ => false) (fun n p r _ => hL n p r) _ _ _ (ag.sub (by simp +contextual))
    rw [killV_none] at h1
    exact ⟨x, xs', p1, o1 ++ (oc' ++ o2), rfl, by simp, h1, hput w' Fz' L' c' oc' hL (ag.sub (by simp only [List.mem_append]; intro b hb; rcases hb with h | h <;> simp [h])) hc'⟩
def isOwner : AV → Bool
  | .usl .. => true
  | .box .. => true
  | _ => false
structure SpotV (w : World) (Fz : Nat → Prop) (L : Locs) (av0 : AV) (y0 : Value) (o0 : List Nat) (p : List (Nat × Nat)) (av : AV) (y : Value) (o oR : List Nat) : Prop where
  rep : RepC w Fz av y o
  mem : ∀ b, b ∈ o0 ↔ b ∈ o ∨ b ∈ oR
  dj : o0.Nodup → o.Nodup ∧ ∀ b ∈ o, b ∉ oR
  put : ∀ (w' : World) (Fz' : Nat → Prop) (L' : Locs) (av' : AV) (o' : List Nat), (∀ n p r, L n p = some r → L' n p = some r) → Agree w w' Fz Fz' oR → RepC w' Fz' av' y o' →
    ∃ o0', RepV w' Fz' L' (setC av0 p av') y0 o0' ∧ (∀ b, b ∈ o0' ↔ b ∈ o' ∨ b ∈ oR) ∧ (o0.Nodup → o'.Nodup → (∀ b ∈ o', b ∉ oR) → o0'.Nodup)
  wk : ∀ (w' : World) (av' : AV), (∀ b ∈ oR, w'.heap[b]? = w.heap[b]?) → ∀ q, walk w' (setC av0 p av') y0 (p ++ q) = walk w' av' y q
  pre : ∀ (w' : World) (av' : AV), (∀ b ∈ oR, w'.heap[b]? = w.heap[b]?) → ∀ q, q <+: p → ¬ p <+: q → walkSh w' (setC av0 p av') y0 q = walkSh w av0 y0 q
theorem Spot.toV {w : World} {Fz : Nat → Prop} {L : Locs} {av0 : AV} {y0 : Value} {o0 : List Nat} {p : List (Nat × Nat)} {av : AV} {y : Value} {o oR : List Nat} (S : Spot w Fz RepC av0 y0 o0 p av y o oR) : SpotV w Fz L av0 y0 o0 p av y o oR :=
  ⟨S.rep, S.mem, S.dj, fun w' Fz' L' av' o' _ ag h' => let ⟨o0', h1, h2, h3⟩ := S.put w' Fz' av' o' ag h'; ⟨o0', h1.toV, h2, h3⟩, S.wk, S.pre⟩
theorem SpotV.step {w : World} {Fz : Nat → Prop} {L : Locs} {l : List AV} {mk : List AV → AV} {mkv : Array Value → Value} {xs : List Value} {o0 : List Nat} {k : Nat} {c : AV} {z : Value} {p : List (Nat × Nat)} {av : AV} {y : Value}
    (hmk : mk = .agg ∧ mkv = .agg ∨ mk = .tup ∧ mkv = .tuple)
    (h : RepVs w Fz L l xs o0) (hc : l[k]? = some c) (hz : xs[k]? = some z)
    (ih : ∀ oc, RepV w Fz L c z oc → ∃ o oR, SpotV w Fz L c z oc p av y o oR) :
    ∃ o oR, SpotV w Fz L (mk l) (mkv xs.toArray) o0 ((0, k) :: p) av y o oR := by
  obtain ⟨z', o1, oc, o2, ho, hz', hcz, hput⟩ := h.at hc
  rw [hz] at hz'
  obtain rfl := Option.some.inj hz'
  subst ho
  obtain ⟨o, oR', S⟩ := ih oc hcz
  have hcell : ∀ l' : List AV, l'[k]? = l'[k]? → cellOf (mk l') 0 k = l'[k]? := by
    intro l' _
    rcases hmk with ⟨rfl, _⟩ | ⟨rfl, _⟩ <;> simp [cellOf]
  have hset : ∀ c', setC (mk l) ((0, k) :: p) c' = mk (l.set k (setC c p c')) := by
    intro c'
    rcases hmk with ⟨rfl, _⟩ | ⟨rfl, _⟩ <;> simp [setC, cellOf, hc, setOf]
  refine ⟨o, oR' ++ (o1 ++ o2), S.rep, ?_, ?_, ?_, ?_, ?_⟩
  · intro b; rw [mem_mid, S.mem, or_assoc, ← List.mem_append (s := oR')]
  · intro hn
    obtain ⟨h1, h2, h3⟩ := nodup_mid hn
    obtain ⟨h4, h5⟩ := S.dj h1
    refine ⟨h4, fun b hb hb' => ?_⟩
    rcases List.mem_append.1 hb' with hb' | hb'
    · exact h5 b hb hb'
    · exact h2 b ((S.mem b).2 (.inl hb)) hb'
  · intro w' Fz' L' av' o' hL ag h'
    obtain ⟨oc', hr, hm, hnd⟩ := S.put w' Fz' L' av' o' hL (ag.sub (by simp +contextual)) h'
    have hrow := hput w' Fz' L' _ oc' hL (ag.sub (fun b hb => List.mem_append.2 (.inr hb))) hr
    refine ⟨o1 ++ (oc' ++ o2), ?_, ?_, ?_⟩
    · rw [hset]
      rcases hmk with ⟨rfl, rfl⟩ | ⟨rfl, rfl⟩ <;> (simp only [RepV]; exact ⟨xs, rfl, hrow⟩)
    · intro b; rw [mem_mid, hm, or_assoc, ← List.mem_append (s := oR')]
    · intro hn ho' hdj
      obtain ⟨h1, h2, h3⟩ := nodup_mid hn
      refine nodup_mk (hnd h1 ho' fun b hb hb' => hdj b hb (by simp [hb'])) (fun b hb hb' => ?_) h3
      rcases (hm b).1 hb with hb | hb
      · exact hdj b hb (List.mem_append.2 (.inr hb'))
      · exact h2 b ((S.mem b).2 (.inr hb)) hb'
  · intro w' av' hk q
    rw [hset]
    have hkl : k < l.length := (List.getElem?_eq_some_iff.1 hc).1
    rcases hmk with ⟨rfl, rfl⟩ | ⟨rfl, rfl⟩ <;>
      (simp only [List.cons_append, walk, cellOf, cellV, if_true, List.getElem?_set_self hkl, Option.bind_some, List.getElem?_toArray, hz]
       exact S.wk w' av' (fun b hb => hk b (by simp [hb])) q)
  · intro w' av' hk q hq hn
    rw [hset]
    have hkl : k < l.length := (List.getElem?_eq_some_iff.1 hc).1
    cases q with
    | nil => rcases hmk with ⟨rfl, rfl⟩ | ⟨rfl, rfl⟩ <;> simp [walkSh, walk, shapeOf]
    | cons ik q =>
      obtain ⟨rfl, hq'⟩ := List.cons_prefix_cons.1 hq
      have hn' : ¬ p <+: q := fun hh => hn (List.cons_prefix_cons.2 ⟨rfl, hh⟩)
      have := S.pre w' av' (fun b hb => hk b (by simp [hb])) q hq' hn'
      rcases hmk with ⟨rfl, rfl⟩ | ⟨rfl, rfl⟩ <;>
        (simp only [walkSh, walk, cellOf, cellV, if_true, List.getElem?_set_self hkl, Option.bind_some, List.getElem?_toArray, hz, hc] at this ⊢
         exact this)
theorem RepV.spot {w : World} {Fz : Nat → Prop} {L : Locs} : ∀ (p : List (Nat × Nat)) {av0 : AV} {y0 : Value} {o0 : List Nat} {av : AV} {y : Value}, RepV w Fz L av0 y0 o0 → walk w av0 y0 p = some (av, y) → isOwner av = true →
    ∃ o oR, SpotV w Fz L av0 y0 o0 p av y o oR
  | p, .usl e sz l, y0, o0, av, y, h, hw, _ => by
    simp only [RepV] at h
    obtain ⟨o, oR, S⟩ := h.spot p hw
    exact ⟨o, oR, S.toV⟩
  | p, .box e c, y0, o0, av, y, h, hw, _ => by
    simp only [RepV] at h
    obtain ⟨o, oR, S⟩ := h.spot p hw
    exact ⟨o, oR, S.toV⟩
  | [], .agg l, y0, o0, av, y, h, hw, ho => by simp [walk] at hw; rw [← hw.1] at ho; simp [isOwner] at ho
  | [], .tup l, y0, o0, av, y, h, hw, ho => by simp [walk] at hw; rw [← hw.1] at ho; simp [isOwner] at ho
  | (i, k) :: p, .agg l, y0, o0, av, y, h, hw, ho => by
    simp only [RepV] at h
    obtain ⟨xs, hx, h⟩ := h
    subst hx
    simp only [walk, Option.bind_eq_some_iff, cellOf, cellV, List.getElem?_toArray] at hw
    obtain ⟨c, hc, z, hz, hw⟩ := hw
    split at hc
    · rename_i hi
      subst hi
      exact SpotV.step (.inl ⟨rfl, rfl⟩) h hc hz fun oc hoc => RepV.spot p hoc hw ho
    · simp at hc
  | (i, k) :: p, .tup l, y0, o0, av, y, h, hw, ho => by
    simp only [RepV] at h
    obtain ⟨xs, hx, h⟩ := h
    subst hx
    simp only [walk, Option.bind_eq_some_iff, cellOf, cellV, List.getElem?_toArray] at hw
    obtain ⟨c, hc, z, hz, hw⟩ := hw
    split at hc
    · rename_i hi
      subst hi
      exact SpotV.step (.inr ⟨rfl, rfl⟩) h hc hz fun oc hoc => RepV.spot p hoc hw ho
    · simp at hc
  | p, .v _, y0, o0, av, y, h, hw, ho => by cases p <;> simp [walk, cellOf] at hw; rw [← hw.1] at ho; simp [isOwner] at ho
  | p, .fsl _ _, y0, o0, av, y, h, hw, ho => by cases p <;> simp [walk, cellOf] at hw; rw [← hw.1] at ho; simp [isOwner] at ho
  | p, .fptr _, y0, o0, av, y, h, hw, ho => by cases p <;> simp [walk, cellOf] at hw; rw [← hw.1] at ho; simp [isOwner] at ho
  | p, .dead, y0, o0, av, y, h, hw, ho => by cases p <;> simp [walk, cellOf] at hw; rw [← hw.1] at ho; simp [isOwner] at ho
  | p, .ref _ _ _ _, y0, o0, av, y, h, hw, ho => by cases p <;> simp [walk, cellOf] at hw; rw [← hw.1] at ho; simp [isOwner] at ho
  | p, .sref _ _ _ _, y0, o0, av, y, h, hw, ho => by cases p <;> simp [walk, cellOf] at hw; rw [← hw.1] at ho; simp [isOwner] at ho
  | p, .clo _ _, y0, o0, av, y, h, hw, ho => by cases p <;> simp [walk, cellOf] at hw; rw [← hw.1] at ho; simp [isOwner] at ho
end Go.AM
namespace Go.AM
set_option linter.unusedVariables false
set_option linter.unusedSimpArgs false
structure Ext (w w' : World) (W : List Nat) : Prop where
  os : w'.os = w.os
  tape : w'.tape = w.tape
  output : w'.output = w.output
  size : w.heap.size ≤ w'.heap.size
  blk : ∀ b, b < w.heap.size → b ∉ W → w'.heap[b]? = w.heap[b]?
theorem Ext.refl (w : World) (W : List Nat) : Ext w w W := ⟨rfl, rfl, rfl, Nat.le_refl _, fun _ _ _ => rfl⟩
theorem Ext.drew (w : World) (W : List Nat) : Ext w w.drew W := ⟨rfl, rfl, rfl, Nat.le_refl _, fun _ _ _ => rfl⟩
theorem Ext.alloc (w : World) (W : List Nat) (o : Obj) : Ext w (w.alloc o) W := ⟨rfl, rfl, rfl, by simp, fun b hb _ => Go.RowKit.Below.heap_alloc w o b hb⟩
theorem Ext.mono {w w' : World} {W W' : List Nat} (h : Ext w w' W) (hs : ∀ b, b ∈ W → b < w.heap.size → b ∈ W') : Ext w w' W' :=
  ⟨h.os, h.tape, h.output, h.size, fun b hb hn => h.blk b hb fun hm => hn (hs b hm hb)⟩
theorem Ext.trans {a b c : World} {W W' : List Nat} (h : Ext a b W) (k : Ext b c W') (hs : ∀ x, x ∈ W' → x < a.heap.size → x ∈ W) : Ext a c W :=
  ⟨k.os.trans h.os, k.tape.trans h.tape, k.output.trans h.output, Nat.le_trans h.size k.size,
   fun x hx hn => (k.blk x (Nat.lt_of_lt_of_le hx h.size) fun hm => hn (hs x hm hx)).trans (h.blk x hx hn)⟩
structure Ctx where
  w0 : World
  Fz : Nat → Prop
  own0 : List Nat
  fx : Nat → Option Value
def frz (c : Ctx) (w : World) (X : Nat → Prop) (b : Nat) : Prop := b < w.heap.size ∧ (c.w0.heap.size ≤ b ∨ c.Fz b ∨ b ∈ c.own0) ∧ ¬ X b
def owned (own : Nat → List Nat) (lo : List Nat) (b : Nat) : Prop := (∃ k, b ∈ own k) ∨ b ∈ lo
def locs (st : Nat → AV) (tm : Nat → Value) (w : World) : Locs := fun n p => walkSh w (st n) (tm n) p
def upd {α : Type} (f : Nat → α) (d : Nat) (x : α) : Nat → α := fun k => if k = d then x else f k
structure Core (c : Ctx) (st : Nat → AV) (tm : Nat → Value) (w : World) (own : Nat → List Nat) (lo : List Nat) : Prop where
  fr : Ext c.w0 w c.own0
  rep : ∀ k, RepV w (frz c w (owned own lo)) (locs st tm w) (st k) (tm k) (own k)
  nd : ∀ k, (own k).Nodup
  dj : ∀ j k, j ≠ k → ∀ b ∈ own j, b ∉ own k
  lnd : lo.Nodup
  ldj : ∀ k, ∀ b ∈ own k, b ∉ lo
  old : ∀ b, owned own lo b → (b ∈ c.own0 ∨ c.w0.heap.size ≤ b) ∧ b < w.heap.size
theorem agree_frz {c : Ctx} {w w' : World} {X X' : Nat → Prop} {W oo : List Nat} (he : Ext w w' W) (hX : ∀ b, X' b → X b ∨ w.heap.size ≤ b) (hW : ∀ b, b ∈ W → b < w.heap.size → X b)
    (ho : ∀ b ∈ oo, b < w.heap.size ∧ b ∉ W) : Agree w w' (frz c w X) (frz c w' X') oo := by
  constructor
  · rintro b ⟨hb, hc, hn⟩
    refine ⟨⟨Nat.lt_of_lt_of_le hb he.size, hc, fun hx => ?_⟩, he.blk b hb fun hm => hn (hW b hm hb)⟩
    rcases hX b hx with h | h
    · exact hn h
    · omega
  · intro b hb
    exact he.blk b (ho b hb).1 (ho b hb).2
theorem walk_keepC {w w' : World} {Fz : Nat → Prop} : ∀ (q : List (Nat × Nat)) {av : AV} {y : Value} {o : List Nat}, RepC w Fz av y o → (∀ b ∈ o, w'.heap[b]? = w.heap[b]?) → walk w' av y q = walk w av y q
  | [], av, y, o, h, hk => rfl
  | (i, k) :: q, av, y, o, h, hk => by
    simp only [walk]
    cases hc : cellOf av i k with
    | none => rfl
    | some c =>
      simp only [Option.bind_some]
      obtain ⟨z, oc, oR, C⟩ := h.cellAt hc
      have e1 : ∀ c', cellV w' (setOf av i k c') y i k = cellV w' av y i k := by intro c'; cases av <;> cases y <;> first | rfl | (rename_i a; cases a <;> rfl) | (rename_i a _ _; cases a <;> rfl)
      have h1 := C.cv' w' c i k (fun b hb => hk b ((C.mem b).2 (.inr hb)))
      rw [e1] at h1
      rw [h1, C.cv]
      simp only [Option.bind_some]
      exact walk_keepC q C.rep (fun b hb => hk b ((C.mem b).2 (.inl hb)))
theorem walk_keepV {w w' : World} {Fz : Nat → Prop} {L : Locs} : ∀ (q : List (Nat × Nat)) (av : AV) {y : Value} {o : List Nat}, RepV w Fz L av y o → (∀ b ∈ o, w'.heap[b]? = w.heap[b]?) → walk w' av y q = walk w av y q
  | [], av, y, o, h, hk => by simp only [walk]
  | (i, k) :: q, .agg l, y, o, h, hk => by
    simp only [RepV] at h
    obtain ⟨xs, hx, h⟩ := h
    subst hx
    simp only [walk]
    cases hc : cellOf (.agg l) i k with
    | none => rfl
    | some c =>
      simp only [cellOf] at hc
      split at hc
      · rename_i hi
        obtain ⟨z, o1, oc, o2, ho, hz, hcz, _⟩ := h.at hc
        subst ho
        simp only [Option.bind_some, cellV, List.getElem?_toArray, hz]
        exact walk_keepV q c hcz (fun b hb => hk b (by simp [hb]))
      · simp at hc
  | (i, k) :: q, .tup l, y, o, h, hk => by
    simp only [RepV] at h
    obtain ⟨xs, hx, h⟩ := h
    subst hx
    simp only [walk]
    cases hc : cellOf (.tup l) i k with
    | none => rfl
    | some c =>
      simp only [cellOf] at hc
      split at hc
      · rename_i hi
        obtain ⟨z, o1, oc, o2, ho, hz, hcz, _⟩ := h.at hc
        subst ho
        simp only [Option.bind_some, cellV, List.getElem?_toArray, hz]
        exact walk_keepV q c hcz (fun b hb => hk b (by simp [hb]))
      · simp at hc
  | q, .usl e sz l, y, o, h, hk => by simp only [RepV] at h; exact walk_keepC q h hk
  | q, .box e c, y, o, h, hk => by simp only [RepV] at h; exact walk_keepC q h hk
  | (i, k) :: q, .v _, y, o, h, hk => by simp [walk, cellOf]
  | (i, k) :: q, .fsl _ _, y, o, h, hk => by simp [walk, cellOf]
  | (i, k) :: q, .fptr _, y, o, h, hk => by simp [walk, cellOf]
  | (i, k) :: q, .dead, y, o, h, hk => by simp [walk, cellOf]
  | (i, k) :: q, .ref _ _ _ _, y, o, h, hk => by simp [walk, cellOf]
  | (i, k) :: q, .sref _ _ _ _, y, o, h, hk => by simp [walk, cellOf]
  | (i, k) :: q, .clo _ _, y, o, h, hk => by simp [walk, cellOf]
theorem walkSh_kill {w : World} {K : Nat → List (Nat × Nat) → Bool} : ∀ (q : List (Nat × Nat)) (av : AV) (y : Value), walkSh w (killV K av) y q = walkSh w av y q
  | [], av, y => by simp [walkSh, walk, shapeOf_kill]
  | (i, k) :: q, av, y => by
    cases av with
    | ref n p i' k' => simp only [killV]; split <;> simp [walkSh, walk, cellOf]
    | sref n p i' k' => simp only [killV]; split <;> simp [walkSh, walk, cellOf]
    | agg l =>
      simp only [killV, walkSh, walk, cellOf]
      by_cases hi : i = 0
      · simp only [hi, if_true, killVs_get]
        cases hl : l[k]? with
        | none => simp
        | some c =>
          simp only [Option.map_some, Option.bind_some]
          have e : cellV w (.agg (killVs K l)) y 0 k = cellV w (.agg l) y 0 k := by cases y <;> rfl
          rw [e]
          cases cellV w (.agg l) y 0 k with
          | none => rfl
          | some z => exact walkSh_kill q c z
      · simp [hi]
    | tup l =>
      simp only [killV, walkSh, walk, cellOf]
      by_cases hi : i = 0
      · simp only [hi, if_true, killVs_get]
        cases hl : l[k]? with
        | none => simp
        | some c =>
          simp only [Option.map_some, Option.bind_some]
          have e : cellV w (.tup (killVs K l)) y 0 k = cellV w (.tup l) y 0 k := by cases y <;> rfl
          rw [e]
          cases cellV w (.tup l) y 0 k with
          | none => rfl
          | some z => exact walkSh_kill q c z
      · simp [hi]
    | _ => simp [killV, walkSh, walk, cellOf]
mutual
def bare : AV → Bool
  | .usl .. => false
  | .box .. => false
  | .agg l => bares l
  | .tup l => bares l
  | .v _ => true
  | .fsl .. => true
  | .fptr _ => true
  | .ref .. => true
  | .sref .. => true
  | .clo _ caps => bares caps
  | .dead => true
def bares : List AV → Bool
  | [] => true
  | c :: cs => bare c && bares cs
end
theorem bares_get : ∀ {l : List AV} {k : Nat} {c : AV}, bares l = true → l[k]? = some c → bare c = true
  | [], k, c, h, hk => by simp at hk
  | d :: l, 0, c, h, hk => by simp [bares] at h hk; rw [← hk]; exact h.1
  | d :: l, k + 1, c, h, hk => by simp [bares] at h hk; exact bares_get h.2 hk
theorem bare_walkSh {w : World} : ∀ (q : List (Nat × Nat)) (av : AV) (y : Value), bare av = true → walkSh w av y q = none
  | [], av, y, h => by cases av <;> simp [walkSh, walk, shapeOf, bare] at h ⊢
  | (i, k) :: q, av, y, h => by
    cases av with
    | agg l =>
      simp only [walkSh, walk, cellOf]
      by_cases hi : i = 0
      · simp only [hi, if_true]
        cases hl : l[k]? with
        | none => simp
        | some c =>
          simp only [Option.bind_some]
          cases cellV w (.agg l) y 0 k with
          | none => rfl
          | some z => exact bare_walkSh q c z (bares_get (by simpa [bare] using h) hl)
      · simp [hi]
    | tup l =>
      simp only [walkSh, walk, cellOf]
      by_cases hi : i = 0
      · simp only [hi, if_true]
        cases hl : l[k]? with
        | none => simp
        | some c =>
          simp only [Option.bind_some]
          cases cellV w (.tup l) y 0 k with
          | none => rfl
          | some z => exact bare_walkSh q c z (bares_get (by simpa [bare] using h) hl)
      · simp [hi]
    | usl _ _ _ => simp [bare] at h
    | box _ _ => simp [bare] at h
    | _ => simp [walkSh, walk, cellOf]
theorem Core.drop {c : Ctx} {st : Nat → AV} {tm : Nat → Value} {w : World} {own : Nat → List Nat} {lo : List Nat} (C : Core c st tm w own lo) (d : Nat) :
    Core c (fun k => killV (fun n _ => n == d) (upd st d .dead k)) tm w (upd own d []) lo := by
  have hX : ∀ b, owned (upd own d []) lo b → owned own lo b := by
    rintro b (⟨k, hk⟩ | hb)
    · by_cases h : k = d
      · simp [upd, h] at hk
      · exact .inl ⟨k, by simpa [upd, h] using hk⟩
    · exact .inr hb
  refine ⟨C.fr, ?_, ?_, ?_, C.lnd, ?_, fun b hb => C.old b (hX b hb)⟩
  · intro k
    by_cases h : k = d
    · simp [upd, h, killV, RepV]
    · simp only [upd, h, if_false]
      refine (C.rep k).keep (L := locs st tm w) ?_ _ _ _ ?_
      · intro n p r hK hl
        have hn : n ≠ d := by simpa using hK
        simp only [locs, walkSh_kill, upd, hn, if_false]
        exact hl
      · refine ⟨fun b hb => ⟨⟨hb.1, hb.2.1, fun hx => hb.2.2 (hX b hx)⟩, rfl⟩, fun _ _ => rfl⟩
  · intro k; by_cases h : k = d
    · simp [upd, h]
    · simpa [upd, h] using C.nd k
  · intro j k hjk b hb
    by_cases h : j = d
    · simp [upd, h] at hb
    · by_cases h' : k = d
      · simp [upd, h']
      · simp only [upd, h, h', if_false] at hb ⊢; exact C.dj j k hjk b hb
  · intro k b hb
    by_cases h : k = d
    · simp [upd, h] at hb
    · exact C.ldj k b (by simpa [upd, h] using hb)
theorem Core.put {c : Ctx} {st : Nat → AV} {tm : Nat → Value} {w : World} {own : Nat → List Nat} {lo lo1 lo2 : List Nat} (C : Core c st tm w own lo) (hlo : ∀ b, b ∈ lo ↔ b ∈ lo1 ∨ b ∈ lo2) (h12 : ∀ b ∈ lo1, b ∉ lo2) (h1 : lo1.Nodup) (h2 : lo2.Nodup)
    {d : Nat} (hd : bare (st d) = true) (hod : own d = []) {av : AV} {x : Value} (hr : RepV w (frz c w (owned own lo)) (locs st tm w) av x lo1) :
    Core c (upd st d av) (upd tm d x) w (upd own d lo1) lo2 := by
  have hX : ∀ b, owned (upd own d lo1) lo2 b ↔ owned own lo b := by
    intro b
    constructor
    · rintro (⟨k, hk⟩ | hb)
      · by_cases h : k = d
        · simp [upd, h] at hk; exact .inr ((hlo b).2 (.inl hk))
        · exact .inl ⟨k, by simpa [upd, h] using hk⟩
      · exact .inr ((hlo b).2 (.inr hb))
    · rintro (⟨k, hk⟩ | hb)
      · by_cases h : k = d
        · rw [h, hod] at hk; simp at hk
        · exact .inl ⟨k, by simpa [upd, h] using hk⟩
      · rcases (hlo b).1 hb with hb | hb
        · exact .inl ⟨d, by simpa [upd] using hb⟩
        · exact .inr hb
  have hF : ∀ oo : List Nat, Agree w w (frz c w (owned own lo)) (frz c w (owned (upd own d lo1) lo2)) oo := fun oo =>
    ⟨fun b hb => ⟨⟨hb.1, hb.2.1, fun hx => hb.2.2 ((hX b).1 hx)⟩, rfl⟩, fun _ _ => rfl⟩
  have hL : ∀ n p r, (fun (_ : Nat) (_ : List (Nat × Nat)) => false) n p = false → locs st tm w n p = some r → locs (upd st d av) (upd tm d x) w n p = some r := by
    intro n p r _ hl
    by_cases h : n = d
    · subst h
      simp only [locs] at hl
      rw [bare_walkSh p _ _ hd] at hl
      simp at hl
    · simpa [locs, upd, h] using hl
  refine ⟨C.fr, ?_, ?_, ?_, h2, ?_, fun b hb => C.old b ((hX b).1 hb)⟩
  · intro k
    by_cases h : k = d
    · subst h
      have := hr.keep hL _ _ _ (hF _)
      rw [killV_none] at this
      simpa [upd] using this
    · have := (C.rep k).keep hL _ _ _ (hF _)
      rw [killV_none] at this
      simpa [upd, h] using this
  · intro k; by_cases h : k = d
    · simpa [upd, h] using h1
    · simpa [upd, h] using C.nd k
  · intro j k hjk b hb
    by_cases h : j = d
    · by_cases h' : k = d
      · exact absurd (h.trans h'.symm) hjk
      · simp only [upd, h, h', if_true, if_false] at hb ⊢
        exact fun hk => C.ldj k b hk ((hlo b).2 (.inl hb))
    · by_cases h' : k = d
      · simp only [upd, h, h', if_true, if_false] at hb ⊢
        exact fun hk => C.ldj j b hb ((hlo b).2 (.inl hk))
      · simp only [upd, h, h', if_false] at hb ⊢; exact C.dj j k hjk b hb
  · intro k b hb
    by_cases h : k = d
    · simp only [upd, h, if_true] at hb; exact h12 b hb
    · exact fun hb2 => C.ldj k b (by simpa [upd, h] using hb) ((hlo b).2 (.inr hb2))
theorem Core.world {c : Ctx} {st : Nat → AV} {tm : Nat → Value} {w w' : World} {own : Nat → List Nat} {lo lo' : List Nat} (C : Core c st tm w own lo) (he : Ext w w' lo)
    (hnd : lo'.Nodup) (hlo : ∀ b ∈ lo', (b ∈ lo ∨ w.heap.size ≤ b) ∧ b < w'.heap.size) : Core c st tm w' own lo' := by
  have hX : ∀ b, owned own lo' b → owned own lo b ∨ w.heap.size ≤ b := by
    rintro b (⟨k, hk⟩ | hb)
    · exact .inl (.inl ⟨k, hk⟩)
    · rcases (hlo b hb).1 with h | h
      · exact .inl (.inr h)
      · exact .inr h
  have hk : ∀ k, ∀ b ∈ own k, b < w.heap.size ∧ b ∉ lo := fun k b hb => ⟨(C.old b (.inl ⟨k, hb⟩)).2, C.ldj k b hb⟩
  have hL : ∀ n p r, (fun (_ : Nat) (_ : List (Nat × Nat)) => false) n p = false → locs st tm w n p = some r → locs st tm w' n p = some r := by
    intro n p r _ hl
    simp only [locs, walkSh] at hl ⊢
    rw [walk_keepV p _ (C.rep n) (fun b hb => he.blk b (hk n b hb).1 (hk n b hb).2)]
    exact hl
  refine ⟨?_, ?_, C.nd, C.dj, hnd, ?_, ?_⟩
  · refine C.fr.trans he ?_
    intro b hb hlt
    rcases (C.old b (.inr hb)).1 with h | h
    · exact h
    · omega
  · intro k
    have := (C.rep k).keep hL _ _ _ (agree_frz (c := c) (X := owned own lo) (X' := owned own lo') he hX (fun b hb _ => .inr hb) (hk k))
    rw [killV_none] at this
    exact this
  · intro k b hb hb'
    rcases (hlo b hb').1 with h | h
    · exact C.ldj k b hb h
    · have := (hk k b hb).1; omega
  · rintro b (⟨k, hk'⟩ | hb)
    · have := C.old b (.inl ⟨k, hk'⟩)
      exact ⟨this.1, Nat.lt_of_lt_of_le this.2 he.size⟩
    · refine ⟨?_, (hlo b hb).2⟩
      rcases (hlo b hb).1 with h | h
      · exact (C.old b (.inr h)).1
      · exact .inr (Nat.le_trans C.fr.size h)
end Go.AM
namespace Go.AM
set_option linter.unusedVariables false
set_option linter.unusedSimpArgs false
theorem cellOf_setOf_other {av c d : AV} {i k i' k' : Nat} (hc : cellOf av i k = some d) (h : ¬ (i' = i ∧ k' = k)) : cellOf (setOf av i k c) i' k' = cellOf av i' k' := by
  cases av with
  | usl e sz l => exact cellOf_setOf_ne h ⟨e, sz, l, rfl⟩
  | box e cs =>
    simp only [cellOf] at hc
    split at hc
    · rename_i hi
      simp only [setOf, cellOf]
      by_cases hi' : i' = 0
      · have hk : ¬ k = k' := fun e => h ⟨by omega, e.symm⟩
        simp [hi', hk]
      · simp [hi']
    · simp at hc
  | agg cs =>
    simp only [cellOf] at hc
    split at hc
    · rename_i hi
      simp only [setOf, cellOf]
      by_cases hi' : i' = 0
      · have hk : ¬ k = k' := fun e => h ⟨by omega, e.symm⟩
        simp [hi', hk]
      · simp [hi']
    · simp at hc
  | tup cs =>
    simp only [cellOf] at hc
    split at hc
    · rename_i hi
      simp only [setOf, cellOf]
      by_cases hi' : i' = 0
      · have hk : ¬ k = k' := fun e => h ⟨by omega, e.symm⟩
        simp [hi', hk]
      · simp [hi']
    · simp at hc
  | _ => simp [cellOf] at hc
theorem cellV_setOf {w : World} (av c : AV) (y : Value) (i k i' k' : Nat) : cellV w (setOf av i k c) y i' k' = cellV w av y i' k' := by
  cases av <;> cases y <;> first | rfl | (rename_i a; cases a <;> rfl) | (rename_i a _ _; cases a <;> rfl)
theorem walkSh_setC {w : World} {c : AV} : ∀ (p q : List (Nat × Nat)) (av0 : AV) (y0 : Value), ¬ p <+: q → walkSh w (setC av0 p c) y0 q = walkSh w av0 y0 q
  | [], q, av0, y0, h => absurd List.nil_prefix h
  | (i, k) :: p, q, av0, y0, h => by
    cases hc : cellOf av0 i k with
    | none => simp [setC, hc]
    | some d =>
      simp only [setC, hc]
      cases q with
      | nil => simp [walkSh, walk, shapeOf_setOf]
      | cons ik q =>
        obtain ⟨i', k'⟩ := ik
        by_cases he : i' = i ∧ k' = k
        · obtain ⟨rfl, rfl⟩ := he
          have hn : ¬ p <+: q := fun hh => h (List.cons_prefix_cons.2 ⟨rfl, hh⟩)
          simp only [walkSh, walk, cellOf_setOf hc, cellV_setOf, hc, Option.bind_some]
          cases cellV w av0 y0 i' k' with
          | none => rfl
          | some z => exact walkSh_setC p q d z hn
        · simp only [walkSh, walk, cellOf_setOf_other hc he, cellV_setOf]
def modOwned (own : Nat → List Nat) (lo o o' lo' : List Nat) (b : Nat) : Prop := b ∈ o' ∨ b ∈ lo' ∨ (owned own lo b ∧ b ∉ o ∧ b ∉ lo)
theorem Core.mod {c : Ctx} {st : Nat → AV} {tm : Nat → Value} {w : World} {own : Nat → List Nat} {lo : List Nat} (C : Core c st tm w own lo)
    {n : Nat} {p : List (Nat × Nat)} {av : AV} {y : Value} (hw : walk w (st n) (tm n) p = some (av, y)) (ho : isOwner av = true) :
    ∃ o, RepC w (frz c w (owned own lo)) av y o ∧ o.Nodup ∧ (∀ b ∈ o, b ∉ lo) ∧ (∀ b ∈ o, owned own lo b) ∧
      (∀ (w' : World) (av' : AV), Ext w w' (o ++ lo) → (∀ q, ¬ p <+: q → walkSh w' (setC (st n) p av') (tm n) q = walkSh w (st n) (tm n) q) ∧ (∀ q, walk w' (setC (st n) p av') (tm n) (p ++ q) = walk w' av' y q)) ∧
      ∀ (w' : World) (av' : AV) (o' lo' : List Nat) (K : Nat → List (Nat × Nat) → Bool), Ext w w' (o ++ lo) → o'.Nodup → lo'.Nodup → (∀ b ∈ o', b ∉ lo') →
        (∀ b, b ∈ o' ∨ b ∈ lo' → (b ∈ o ∨ b ∈ lo ∨ w.heap.size ≤ b) ∧ b < w'.heap.size) →
        RepC w' (frz c w' (modOwned own lo o o' lo')) av' y o' →
        (∀ q r, K n q = false → walkSh w (st n) (tm n) q = some r → walkSh w' (setC (st n) p av') (tm n) q = some r) →
        ∃ own', Core c (fun k => killV K (upd st n (setC (st n) p av') k)) tm w' own' lo' ∧ (∀ b, owned own' lo' b ↔ modOwned own lo o o' lo' b) := by
  obtain ⟨o, oR, S⟩ := (C.rep n).spot p hw ho
  have hdj := S.dj (C.nd n)
  have hoo : ∀ b ∈ o, b ∈ own n := fun b hb => (S.mem b).2 (.inl hb)
  have hoR : ∀ b ∈ oR, b ∈ own n := fun b hb => (S.mem b).2 (.inr hb)
  have hlo : ∀ b ∈ o, b ∉ lo := fun b hb => C.ldj n b (hoo b hb)
  have hk0 : ∀ b ∈ oR, b < w.heap.size ∧ b ∉ o ++ lo := fun b hb => ⟨(C.old b (.inl ⟨n, hoR b hb⟩)).2, fun hm => by
    rcases List.mem_append.1 hm with h | h
    · exact hdj.2 b h hb
    · exact C.ldj n b (hoR b hb) h⟩
  refine ⟨o, S.rep, hdj.1, hlo, fun b hb => .inl ⟨n, hoo b hb⟩, ?_, ?_⟩
  · intro w' av' he
    have hh : ∀ b ∈ oR, w'.heap[b]? = w.heap[b]? := fun b hb => he.blk b (hk0 b hb).1 (hk0 b hb).2
    refine ⟨fun q hn => ?_, fun q => S.wk w' av' hh q⟩
    obtain ⟨o1, hr1, hm1, _⟩ := S.put w _ (locs st tm w) .dead [] (fun _ _ _ h => h) ⟨fun b hb => ⟨hb, rfl⟩, fun _ _ => rfl⟩ (by simp only [RepC]; exact ⟨S.rep.one, trivial⟩)
    have e1 : walkSh w' (setC (st n) p .dead) (tm n) q = walkSh w (setC (st n) p .dead) (tm n) q := by
      simp only [walkSh]
      rw [walk_keepV q _ hr1 (fun b hb => hh b (by simpa using (hm1 b).1 hb))]
    rw [walkSh_setC p q _ _ hn, ← walkSh_setC (c := .dead) p q (st n) (tm n) hn, e1, walkSh_setC p q _ _ hn]
  intro w' av' o' lo' K he hno hnl hdl hsub hr hwk
  have hk : ∀ k, ∀ b ∈ own k, b < w.heap.size := fun k b hb => (C.old b (.inl ⟨k, hb⟩)).2
  have hW : ∀ b ∈ o ++ lo, owned own lo b := fun b hb => by
    rcases List.mem_append.1 hb with h | h
    · exact .inl ⟨n, hoo b h⟩
    · exact .inr h
  have hX : ∀ b, modOwned own lo o o' lo' b → owned own lo b ∨ w.heap.size ≤ b := by
    rintro b (h | h | h)
    · rcases (hsub b (.inl h)).1 with h | h | h
      · exact .inl (.inl ⟨n, hoo b h⟩)
      · exact .inl (.inr h)
      · exact .inr h
    · rcases (hsub b (.inr h)).1 with h | h | h
      · exact .inl (.inl ⟨n, hoo b h⟩)
      · exact .inl (.inr h)
      · exact .inr h
    · exact .inl h.1
  have hRn : ∀ b ∈ oR, b < w.heap.size ∧ b ∉ o ++ lo := fun b hb => ⟨hk n b (hoR b hb), fun hm => by
    rcases List.mem_append.1 hm with h | h
    · exact hdj.2 b h hb
    · exact C.ldj n b (hoR b hb) h⟩
  have ag := agree_frz (c := c) he hX (fun b hb _ => hW b hb) hRn
  obtain ⟨o0', hr0, hm0, hnd0⟩ := S.put w' _ (locs st tm w) av' o' (fun _ _ _ h => h) ag hr
  have ho'R : ∀ b ∈ o', b ∉ oR := fun b hb hbR => by
    rcases (hsub b (.inl hb)).1 with h | h | h
    · exact hdj.2 b h hbR
    · exact C.ldj n b (hoR b hbR) h
    · have := (hRn b hbR).1; omega
  have hnd0' := hnd0 (C.nd n) hno ho'R
  refine ⟨upd own n o0', ?_, ?_⟩
  rotate_left
  · intro b
    constructor
    · rintro (⟨k, hb⟩ | hb)
      · by_cases h : k = n
        · simp only [upd, h, if_true] at hb
          rcases (hm0 b).1 hb with h1 | h1
          · exact .inl h1
          · have := (hRn b h1).2
            exact .inr (.inr ⟨.inl ⟨n, hoR b h1⟩, fun hm => this (List.mem_append.2 (.inl hm)), fun hm => this (List.mem_append.2 (.inr hm))⟩)
        · simp only [upd, h, if_false] at hb
          exact .inr (.inr ⟨.inl ⟨k, hb⟩, fun hm => C.dj k n h b hb (hoo b hm), C.ldj k b hb⟩)
      · exact .inr (.inl hb)
    · rintro (hb | hb | ⟨hb, h1, h2⟩)
      · exact .inl ⟨n, by simp only [upd, if_true]; exact (hm0 b).2 (.inl hb)⟩
      · exact .inr hb
      · rcases hb with ⟨k, hb⟩ | hb
        · by_cases h : k = n
          · rw [h] at hb
            refine .inl ⟨n, ?_⟩
            simp only [upd, if_true]
            rcases (S.mem b).1 hb with h3 | h3
            · exact absurd h3 h1
            · exact (hm0 b).2 (.inr h3)
          · exact .inl ⟨k, by simpa [upd, h] using hb⟩
        · exact absurd hb h2
  · have hOwn : ∀ b, owned (upd own n o0') lo' b → modOwned own lo o o' lo' b := by
      rintro b (⟨k, hb⟩ | hb)
      · by_cases h : k = n
        · simp only [upd, h, if_true] at hb
          rcases (hm0 b).1 hb with h1 | h1
          · exact .inl h1
          · have := (hRn b h1).2
            exact .inr (.inr ⟨.inl ⟨n, hoR b h1⟩, fun hm => this (List.mem_append.2 (.inl hm)), fun hm => this (List.mem_append.2 (.inr hm))⟩)
        · simp only [upd, h, if_false] at hb
          exact .inr (.inr ⟨.inl ⟨k, hb⟩, fun hm => C.dj k n h b hb (hoo b hm), C.ldj k b hb⟩)
      · exact .inr (.inl hb)
    have hkeepOther : ∀ k, k ≠ n → ∀ b ∈ own k, b < w.heap.size ∧ b ∉ o ++ lo := fun k h b hb => ⟨hk k b hb, fun hm => by
      rcases List.mem_append.1 hm with h1 | h1
      · exact C.dj k n h b hb (hoo b h1)
      · exact C.ldj k b hb h1⟩
    have hL : ∀ m q r, K m q = false → locs st tm w m q = some r → locs (fun k => killV K (upd st n (setC (st n) p av') k)) tm w' m q = some r := by
      intro m q r hK hl
      simp only [locs, walkSh_kill] at hl ⊢
      by_cases h : m = n
      · subst h
        simp only [upd, if_true]
        exact hwk q r hK hl
      · simp only [upd, h, if_false, walkSh] at hl ⊢
        rw [walk_keepV q _ (C.rep m) (fun b hb => he.blk b (hkeepOther m h b hb).1 (hkeepOther m h b hb).2)]
        exact hl
    have hFF : ∀ (X : Nat → Prop) (oo : List Nat), (∀ b, owned (upd own n o0') lo' b → X b) → Agree w' w' (frz c w' X) (frz c w' (owned (upd own n o0') lo')) oo := fun X oo h =>
      ⟨fun b hb => ⟨⟨hb.1, hb.2.1, fun hx => hb.2.2 (h b hx)⟩, rfl⟩, fun _ _ => rfl⟩
    refine ⟨?_, ?_, ?_, ?_, hnl, ?_, ?_⟩
    · refine C.fr.trans he ?_
      intro b hb hlt
      rcases (C.old b (hW b hb)).1 with h | h
      · exact h
      · omega
    · intro k
      by_cases h : k = n
      · subst h
        simp only [upd, if_true]
        exact hr0.keep hL _ _ _ (hFF _ _ hOwn)
      · simp only [upd, h, if_false]
        exact (C.rep k).keep hL _ _ _ (agree_frz (c := c) he (fun b hb => hX b (hOwn b hb)) (fun b hb _ => hW b hb) (hkeepOther k h))
    · intro k; by_cases h : k = n
      · simpa [upd, h] using hnd0'
      · simpa [upd, h] using C.nd k
    · intro j k hjk b hb
      by_cases h : j = n
      · have h' : k ≠ n := fun e => hjk (h.trans e.symm)
        simp only [upd, h, h', if_true, if_false] at hb ⊢
        rcases (hm0 b).1 hb with h1 | h1
        · rcases (hsub b (.inl h1)).1 with h2 | h2 | h2
          · exact fun hk' => C.dj n k (Ne.symm h') b (hoo b h2) hk'
          · exact fun hk' => C.ldj k b hk' h2
          · exact fun hk' => by have := hk k b hk'; omega
        · exact C.dj n k (Ne.symm h') b (hoR b h1)
      · by_cases h' : k = n
        · simp only [upd, h, h', if_true, if_false] at hb ⊢
          intro hb'
          rcases (hm0 b).1 hb' with h1 | h1
          · rcases (hsub b (.inl h1)).1 with h2 | h2 | h2
            · exact C.dj j n h b hb (hoo b h2)
            · exact C.ldj j b hb h2
            · have := hk j b hb; omega
          · exact C.dj j n h b hb (hoR b h1)
        · simp only [upd, h, h', if_false] at hb ⊢; exact C.dj j k hjk b hb
    · intro k b hb hb'
      by_cases h : k = n
      · simp only [upd, h, if_true] at hb
        rcases (hm0 b).1 hb with h1 | h1
        · exact hdl b h1 hb'
        · rcases (hsub b (.inr hb')).1 with h2 | h2 | h2
          · exact hdj.2 b h2 h1
          · exact C.ldj n b (hoR b h1) h2
          · have := (hRn b h1).1; omega
      · simp only [upd, h, if_false] at hb
        rcases (hsub b (.inr hb')).1 with h2 | h2 | h2
        · exact C.dj k n h b hb (hoo b h2)
        · exact C.ldj k b hb h2
        · have := hk k b hb; omega
    · intro b hb
      rcases hOwn b hb with h | h | h
      · refine ⟨?_, (hsub b (.inl h)).2⟩
        rcases (hsub b (.inl h)).1 with h | h | h
        · exact (C.old b (.inl ⟨n, hoo b h⟩)).1
        · exact (C.old b (.inr h)).1
        · exact .inr (Nat.le_trans C.fr.size h)
      · refine ⟨?_, (hsub b (.inr h)).2⟩
        rcases (hsub b (.inr h)).1 with h | h | h
        · exact (C.old b (.inl ⟨n, hoo b h⟩)).1
        · exact (C.old b (.inr h)).1
        · exact .inr (Nat.le_trans C.fr.size h)
      · have := C.old b h.1
        exact ⟨this.1, Nat.lt_of_lt_of_le this.2 he.size⟩
end Go.AM
namespace Go.AM
set_option linter.unusedVariables false
set_option linter.unusedSimpArgs false
abbrev St := Nat → AV
abbrev K := St → Prop
def tmOf (a : Act) (k : Nat) : Value := a.tmps.getD k undef
def Slots (c : Ctx) (N : Nat) (a : Act) : Prop := a.tmps.size = N ∧ ∀ k v, c.fx k = some v → tmOf a k = v
structure Sim (c : Ctx) (N : Nat) (st : St) (a : Act) (w : World) : Prop where
  defers : a.defers = []
  size : Slots c N a
  core : ∃ own, Core c st (tmOf a) w own []
theorem walk_append {w : World} : ∀ (p q : List (Nat × Nat)) (av : AV) (y : Value), walk w av y (p ++ q) = (walk w av y p).bind fun r => walk w r.1 r.2 q
  | [], q, av, y => by simp [walk]
  | (i, k) :: p, q, av, y => by
    simp only [List.cons_append, walk]
    cases cellOf av i k with
    | none => rfl
    | some c =>
      simp only [Option.bind_some]
      cases cellV w av y i k with
      | none => rfl
      | some z => simp only [Option.bind_some]; exact walk_append p q c z
theorem walkSh_append {w : World} {p q : List (Nat × Nat)} {av c : AV} {y z : Value} (h : walk w av y p = some (c, z)) : walkSh w av y (p ++ q) = walkSh w c z q := by
  simp [walkSh, walk_append, h]
mutual
def brw (n : Nat) (p : List (Nat × Nat)) : AV → AV
  | .usl e sz l => .sref n p 0 l.length
  | .box e c => .ref n p 0 0
  | .agg l => .agg (brws n p 0 0 l)
  | .tup l => if bares l then .tup l else .dead
  | .clo f caps => if bares caps then .clo f caps else .dead
  | .v y => .v y
  | .fsl sz l => .fsl sz l
  | .fptr c => .fptr c
  | .ref n p i k => .ref n p i k
  | .sref n p o l => .sref n p o l
  | .dead => .dead
def brws (n : Nat) (p : List (Nat × Nat)) (i : Nat) (j : Nat) : List AV → List AV
  | [] => []
  | c :: cs => brw n (p ++ [(i, j)]) c :: brws n p i (j + 1) cs
end
mutual
theorem bare_own {w : World} {Fz : Nat → Prop} {L : Locs} : ∀ (av : AV) {x : Value} {o : List Nat}, RepV w Fz L av x o → bare av = true → o = []
  | .agg l, x, o, h, hb => by simp only [RepV] at h; obtain ⟨xs, _, h⟩ := h; exact bares_own l h (by simpa [bare] using hb)
  | .tup l, x, o, h, hb => by simp only [RepV] at h; obtain ⟨xs, _, h⟩ := h; exact bares_own l h (by simpa [bare] using hb)
  | .clo f l, x, o, h, hb => by
    simp only [RepV] at h; obtain ⟨xs, _, h⟩ := h
    exact bares_own l h (by simpa [bare] using hb)
  | .v _, x, o, h, _ => by simp only [RepV, RepC] at h; exact h.2.2
  | .fsl _ _, x, o, h, _ => by simp only [RepV, RepC] at h; exact h.1
  | .fptr _, x, o, h, _ => by simp only [RepV, RepC] at h; exact h.1
  | .ref _ _ _ _, x, o, h, _ => by simp only [RepV] at h; exact h.1
  | .sref _ _ _ _, x, o, h, _ => by simp only [RepV] at h; exact h.1
  | .dead, x, o, h, _ => by simpa only [RepV] using h
  | .usl _ _ _, x, o, h, hb => by simp [bare] at hb
  | .box _ _, x, o, h, hb => by simp [bare] at hb
theorem bares_own {w : World} {Fz : Nat → Prop} {L : Locs} : ∀ (l : List AV) {xs : List Value} {o : List Nat}, RepVs w Fz L l xs o → bares l = true → o = []
  | [], xs, o, h, _ => by simp only [RepVs] at h; exact h.2
  | c :: cs, xs, o, h, hb => by
    simp only [RepVs] at h
    obtain ⟨x, xs', o1, o2, _, ho, hc, hr⟩ := h
    simp only [bares, Bool.and_eq_true] at hb
    rw [ho, bare_own c hc hb.1, bares_own cs hr hb.2]
    rfl
end
mutual
theorem brw_rep {w : World} {Fz : Nat → Prop} {L : Locs} {n : Nat} : ∀ (av : AV) {p : List (Nat × Nat)} {y : Value} {o : List Nat}, RepV w Fz L av y o → (∀ q r, walkSh w av y q = some r → L n (p ++ q) = some r) → RepV w Fz L (brw n p av) y []
  | .usl e sz l, p, y, o, h, hL => by
    have h0 := hL [] (⟨false, sz, l.length⟩, y) (by simp [walkSh, walk, shapeOf])
    simp only [List.append_nil] at h0
    simp only [brw, RepV, RepC] at h ⊢
    refine ⟨trivial, _, y, h0, rfl, by simp, ?_⟩
    rcases h with ⟨h1, h2, _⟩ | ⟨g, hh, c, cur, xs, o', hy, _, _, hc, _⟩
    · subst h2; exact .inl ⟨h1, h1, rfl, rfl⟩
    · exact .inr ⟨g, hh * sz, l.length, c, 0, c, hy, by simpa using hy, hc, by simp, .inl ⟨rfl, by simp⟩⟩
  | .box e c, p, y, o, h, hL => by
    have h0 := hL [] (⟨true, c.length, 1⟩, y) (by simp [walkSh, walk, shapeOf])
    simp only [List.append_nil] at h0
    simp only [brw, RepV, RepC] at h ⊢
    obtain ⟨g, xs, o', hy, _⟩ := h
    refine ⟨trivial, _, y, g, 0, h0, by simp [hy, addrOf], by simp, ?_⟩
    exact ⟨by simp, by simpa using hy⟩
  | .agg l, p, y, o, h, hL => by
    simp only [brw, RepV] at h ⊢
    obtain ⟨xs, hx, h⟩ := h
    subst hx
    refine ⟨xs, rfl, brws_rep l h ?_⟩
    intro j c z hc hz q r hr
    have := hL ((0, j) :: q) r (by
      simp only [walkSh, walk, cellOf, cellV, if_true, hc, hz, Option.bind_some, List.getElem?_toArray]
      exact hr)
    simpa using this
  | .tup l, p, y, o, h, hL => by
    simp only [brw]
    split
    · rename_i hb
      have := bare_own (.tup l) h (by simp [bare, hb])
      subst this
      exact h
    · simp [RepV]
  | .clo f caps, p, y, o, h, hL => by
    simp only [brw]
    split
    · rename_i hb
      have := bare_own (.clo f caps) h (by simp [bare, hb])
      subst this
      exact h
    · simp [RepV]
  | .v _, p, y, o, h, hL => by have := bare_own _ h rfl; subst this; exact h
  | .fsl _ _, p, y, o, h, hL => by have := bare_own _ h rfl; subst this; exact h
  | .fptr _, p, y, o, h, hL => by have := bare_own _ h rfl; subst this; exact h
  | .ref _ _ _ _, p, y, o, h, hL => by have := bare_own _ h rfl; subst this; exact h
  | .sref _ _ _ _, p, y, o, h, hL => by have := bare_own _ h rfl; subst this; exact h
  | .dead, p, y, o, h, hL => by simp [brw, RepV]
theorem brws_rep {w : World} {Fz : Nat → Prop} {L : Locs} {n : Nat} : ∀ (l : List AV) {p : List (Nat × Nat)} {i : Nat} {j : Nat} {xs : List Value} {o : List Nat}, RepVs w Fz L l xs o →
    (∀ m c z, l[m]? = some c → xs[m]? = some z → ∀ q r, walkSh w c z q = some r → L n (p ++ [(i, j + m)] ++ q) = some r) → RepVs w Fz L (brws n p i j l) xs []
  | [], p, i, j, xs, o, h, hL => by simp only [RepVs] at h; simp [brws, RepVs, h.1]
  | c :: cs, p, i, j, xs, o, h, hL => by
    simp only [RepVs, brws] at h ⊢
    obtain ⟨x, xs', o1, o2, hx, ho, hc, hr⟩ := h
    subst hx
    refine ⟨x, xs', [], [], rfl, rfl, brw_rep c hc ?_, brws_rep cs hr ?_⟩
    · intro q r hq; exact hL 0 c x (by simp) (by simp) q r hq
    · intro m c' z hm hz q r hq
      have := hL (m + 1) c' z (by simpa using hm) (by simpa using hz) q r hq
      rw [show j + (m + 1) = j + 1 + m from by omega] at this
      exact this
end
inductive Opd where
  | t (n : Nat)
  | c (v : Value)
  | nils (e sz : Nat)
  | fn (f : Nat)
def rd (st : St) : Opd → AV
  | .t n => brw n [] (st n)
  | .c v => .v v
  | .nils e sz => .usl e sz []
  | .fn f => .clo f []
def mOpd : Operand → Opd → Bool
  | .tmp t, .t n => t == n
  | .const (.int k a), .c (.int k' a') => k == k' && a == a'
  | .const (.bool b), .c (.bool b') => b == b'
  | .const (.string s), .c (.string s') => s.data.toList == s'.data.toList
  | .const (.pointer none), .c (.pointer none) => true
  | .const .nilIface, .c .nilIface => true
  | .const .nilFunc, .c .nilFunc => true
  | .const (.slice none 0 0), .nils _ _ => true
  | .func f, .fn f' => f == f'
  | _, _ => false
theorem rd_rep {c : Ctx} {st : St} {a : Act} {w : World} {own : Nat → List Nat} {lo : List Nat} (C : Core c st (tmOf a) w own lo) {x : Operand} {y : Opd} (h : mOpd x y = true) :
    RepV w (frz c w (owned own lo)) (locs st (tmOf a) w) (rd st y) (a.eval x) [] := by
  unfold mOpd at h
  split at h
  · rename_i t n
    simp at h; subst h
    have h1 := brw_rep (L := locs st (tmOf a) w) (n := t) (p := []) (st t) (C.rep t) (fun q r hq => by rw [List.nil_append]; exact hq)
    exact h1
  all_goals first
    | (simp only [Bool.and_eq_true, beq_iff_eq] at h; obtain ⟨rfl, rfl⟩ := h; simp [rd, RepV, RepC, Act.eval, Value.oneCell']; done)
    | (simp only [beq_iff_eq] at h; subst h; simp [rd, RepV, RepVs, RepC, Act.eval, Value.oneCell']; done)
    | (simp [rd, RepV, RepVs, RepC, Act.eval, Value.oneCell']; done)
    | (rename_i s s'; simp only [beq_iff_eq] at h; obtain rfl : s = s' := (by cases s; cases s'; simp only [ByteArray.mk.injEq]; exact Array.toList_inj.1 h); simp [rd, RepV, RepC, Act.eval, Value.oneCell']; done)
    | (cases h; done)
def dropK (d : Nat) : Nat → List (Nat × Nat) → Bool := fun n _ => n == d
def dropS (d : Nat) (st : St) : St := fun k => killV (dropK d) (upd st d .dead k)
def putS (st : St) (d : Option Nat) (av : AV) (k : K) : Prop :=
  match d with
  | none => bare av = true ∧ k st
  | some d => if bare (st d) then k (upd st d av) else k (upd (dropS d st) d (killV (dropK d) av))
theorem tmOf_put {a : Act} {d : Nat} {x : Value} (h : d < a.tmps.size) : tmOf (a.put (some d) x) = upd (tmOf a) d x := by
  funext k
  by_cases hk : k = d
  · subst hk; simp [tmOf, Act.put, upd, h]
  · simp only [tmOf, Act.put, upd, hk, if_false, Array.getD_eq_getD_getElem?]
    rw [Array.getElem?_setIfInBounds_ne (by omega)]
theorem putS_sound {c : Ctx} {N : Nat} {st : St} {a : Act} {w : World} {own : Nat → List Nat} {lo : List Nat} (hd : a.defers = []) (hs : Slots c N a)
    (C : Core c st (tmOf a) w own lo) {av : AV} {x : Value} (hr : RepV w (frz c w (owned own lo)) (locs st (tmOf a) w) av x lo) {d : Option Nat} (hN : ∀ e, d = some e → e < N ∧ c.fx e = none) {k : K} (h : putS st d av k) :
    ∃ st', Sim c N st' (a.put d x) w ∧ k st' := by
  cases d with
  | none =>
    simp only [putS] at h
    have := bare_own av hr h.1
    subst this
    exact ⟨st, ⟨hd, hs, own, C⟩, h.2⟩
  | some d =>
    obtain ⟨hdN, hdx⟩ := hN d rfl
    obtain ⟨hs, hfx⟩ := hs
    have hfx' : ∀ k v, c.fx k = some v → tmOf (a.put (some d) x) k = v := by
      intro k v hk
      rw [tmOf_put (by omega)]
      have : k ≠ d := by intro e; rw [e, hdx] at hk; cases hk
      simp only [upd, this, if_false]
      exact hfx k v hk
    simp only [putS] at h
    have fin : ∀ (st1 : St) (own1 : Nat → List Nat) (av1 : AV), Core c st1 (tmOf a) w own1 lo → bare (st1 d) = true → own1 d = [] → RepV w (frz c w (owned own1 lo)) (locs st1 (tmOf a) w) av1 x lo →
        Sim c N (upd st1 d av1) (a.put (some d) x) w := by
      intro st1 own1 av1 C1 hb ho hr1
      have := C1.put (lo1 := lo) (lo2 := []) (by simp) (by simp) C1.lnd (by simp) hb ho hr1
      refine ⟨by simpa [Act.put] using hd, ⟨by simpa [Act.put] using hs, hfx'⟩, upd own1 d lo, ?_⟩
      rw [tmOf_put (by omega)]
      exact this
    split at h
    · rename_i hb
      exact ⟨_, fin st own av C hb (bare_own (st d) (C.rep d) hb) hr, h⟩
    · rename_i hb
      have C1 := C.drop d
      refine ⟨_, fin (dropS d st) (upd own d []) (killV (dropK d) av) C1 (by simp [dropS, upd, killV, bare]) (by simp [upd]) ?_, h⟩
      refine hr.keep (L := locs st (tmOf a) w) ?_ _ _ _ ?_
      · intro n p r hK hl
        have hn : n ≠ d := by simpa [dropK] using hK
        simp only [locs, dropS, walkSh_kill, upd, hn, if_false]
        exact hl
      · refine ⟨fun b hb => ⟨⟨hb.1, hb.2.1, fun hx => hb.2.2 ?_⟩, rfl⟩, fun _ _ => rfl⟩
        rcases hx with ⟨k, hk⟩ | hx
        · by_cases h : k = d
          · simp [upd, h] at hk
          · exact .inl ⟨k, by simpa [upd, h] using hk⟩
        · exact .inr hx
end Go.AM
namespace Go.AM
set_option linter.unusedVariables false
set_option linter.unusedSimpArgs false
def nth (l : List (List AV)) (i : Nat) : List AV := l.getD i []
def scal : Value → Bool
  | .int .. => true
  | .bool _ => true
  | .string _ => true
  | _ => false
def binC (op : BinOp) (x y : Value) : Prop :=
  match x, y with
  | .int kx a, .int ky b =>
    match op with
    | .shl => 0 ≤ b
    | .shr => 0 ≤ b
    | .quo => kx = ky ∧ b ≠ 0
    | .rem => kx = ky ∧ b ≠ 0
    | _ => kx = ky
  | .string a, .string b =>
    match op with
    | .add => ((a.size + b.size : Nat) : Int) ≤ 9223372036854775807
    | .eql => True
    | .neq => True
    | .lss => True
    | .leq => True
    | .gtr => True
    | .geq => True
    | _ => False
  | .bool a, .bool b =>
    match op with
    | .eql => True
    | .neq => True
    | _ => False
  | _, _ => False
def binR (op : BinOp) (x y : Value) : Value :=
  match x, y with
  | .int kx a, .int ky b =>
    match op with
    | .shl => .int kx (kx.wrap (a * 2 ^ (min b.toNat kx.bits)))
    | .shr => .int kx (a.fdiv (2 ^ (min b.toNat kx.bits)))
    | .add => .int kx (kx.wrap (a + b))
    | .sub => .int kx (kx.wrap (a - b))
    | .mul => .int kx (kx.wrap (a * b))
    | .quo => .int kx (kx.wrap (a.tdiv b))
    | .rem => .int kx (a.tmod b)
    | .and => .int kx (kx.wrap (BitVec.ofInt kx.bits a &&& BitVec.ofInt kx.bits b).toNat)
    | .or => .int kx (kx.wrap (BitVec.ofInt kx.bits a ||| BitVec.ofInt kx.bits b).toNat)
    | .xor => .int kx (kx.wrap (BitVec.ofInt kx.bits a ^^^ BitVec.ofInt kx.bits b).toNat)
    | .andNot => .int kx (kx.wrap (BitVec.ofInt kx.bits a &&& ~~~BitVec.ofInt kx.bits b).toNat)
    | .eql => .bool (a == b)
    | .neq => .bool (a != b)
    | .lss => .bool (decide (a < b))
    | .leq => .bool (decide (a ≤ b))
    | .gtr => .bool (decide (a > b))
    | .geq => .bool (decide (a ≥ b))
  | .string a, .string b =>
    match op with
    | .add => .string (a ++ b)
    | .eql => .bool (a.toList == b.toList)
    | .neq => .bool (!(a.toList == b.toList))
    | .lss => .bool (Op.bytesLess a.toList b.toList)
    | .leq => .bool (Op.bytesLess a.toList b.toList || a.toList == b.toList)
    | .gtr => .bool (!(Op.bytesLess a.toList b.toList || a.toList == b.toList))
    | .geq => .bool (!(Op.bytesLess a.toList b.toList))
    | _ => .bool false
  | .bool a, .bool b =>
    match op with
    | .eql => .bool (a == b)
    | .neq => .bool (!(a == b))
    | _ => .bool false
  | _, _ => .bool false
theorem binR_run_int {P : Program} {w : World} {t : TypeId} {op : BinOp} {kx ky : IntKind} {a b : Int} (h : binC op (.int kx a) (.int ky b)) :
    (binOp op t (.int kx a) (.int ky b)).run P w = .ok (binR op (.int kx a) (.int ky b)) w := by
  cases op <;> simp only [binC] at h
  case shl => simp [binOp, Op.shift, Int.not_lt.2 h, binR]
  case shr => simp [binOp, Op.shift, Int.not_lt.2 h, binR]
  case quo => obtain ⟨rfl, h0⟩ := h; simp [binOp, Op.intDiv, h0, binR]
  case rem => obtain ⟨rfl, h0⟩ := h; simp [binOp, Op.intDiv, h0, binR]
  all_goals (subst h; simp [binOp, Op.intArith, Op.intBits, Op.intCmp, binR])
theorem binR_run_string {P : Program} {w : World} {t : TypeId} {op : BinOp} {a b : ByteArray} (h : binC op (.string a) (.string b)) :
    (binOp op t (.string a) (.string b)).run P w = .ok (binR op (.string a) (.string b)) w := by
  cases op <;> simp only [binC] at h
  case add =>
    have : ¬ (((a.size + b.size : Nat) : Int) > IntKind.i64.max) := by
      have e : IntKind.i64.max = 9223372036854775807 := by decide
      rw [e]; omega
    simp only [binOp, Op.stringOp, this, if_false, Sem.run_pure, binR]
  all_goals simp [binOp, Op.stringOp, binR]
theorem binR_run_bool {P : Program} {w : World} {t : TypeId} {op : BinOp} {a b : Bool} (h : binC op (.bool a) (.bool b)) (hu : P.underlying t = some .bool) :
    (binOp op t (.bool a) (.bool b)).run P w = .ok (binR op (.bool a) (.bool b)) w := by
  cases op <;> simp only [binC] at h
  case eql => exact run_eql_bool w t a b hu
  case neq => exact run_neq_bool w t a b hu
theorem binR_scal {op : BinOp} {x y : Value} (h : binC op x y) : scal (binR op x y) = true := by
  unfold binC at h
  split at h
  · cases op <;> rfl
  · cases op <;> rfl
  · cases op <;> rfl
  · exact h.elim
theorem binR_run {P : Program} {w : World} {t : TypeId} {op : BinOp} {x y : Value} (h : binC op x y) (ht : (∃ a b, x = .bool a ∧ y = .bool b) → P.underlying t = some .bool) :
    (binOp op t x y).run P w = .ok (binR op x y) w := by
  have h' := h
  unfold binC at h'
  split at h'
  · exact binR_run_int h
  · exact binR_run_string h
  · exact binR_run_bool h (ht ⟨_, _, rfl, rfl⟩)
  · exact h'.elim
theorem eqGuard_v {P : Program} {w : World} {op : BinOp} {t : TypeId} {x y : Operand} {p q : Value} (hp : binC op p q) : (eqGuard op t x y p q).run P w = .ok () w := by
  unfold eqGuard
  unfold binC at hp
  split at hp
  · cases op <;> rfl
  · cases op <;> rfl
  · cases op <;> rfl
  · exact hp.elim
def Same (c : Ctx) (own : Nat → List Nat) (lo : List Nat) (w w' : World) : Prop := ∀ b, frz c w (owned own lo) b ∨ owned own lo b → w'.heap[b]? = w.heap[b]?
def needsW : Op → Bool
  | .load .. => true
  | .convert .. => true
  | _ => false
def QRes (P : Program) (o : Oper) (c : Ctx) (st : St) (a : Act) (w : World) (own : Nat → List Nat) (lo : List Nat) (k : AV → Prop) : Prop :=
  ∃ x av, (∀ w', (needsW o.op = true → Same c own lo w w') → (execOp a.eval o).run P w' = .ok (.value x) w') ∧ RepV w (frz c w (owned own lo)) (locs st (tmOf a) w) av x [] ∧ k av
section
variable {P : Program} {o : Oper} {c : Ctx} {st : St} {a : Act} {w : World} {own : Nat → List Nat} {lo : List Nat}
theorem q_mov (C : Core c st (tmOf a) w own lo) {x : Operand} {y : Opd} (hx : mOpd x y = true) (ho : o.op = .move x ∨ o.op = .assign x) {k : AV → Prop} (h : k (rd st y)) : QRes P o c st a w own lo k := by
  refine ⟨a.eval x, rd st y, fun w' _ => ?_, rd_rep C hx, h⟩
  rcases ho with ho | ho <;> simp [execOp, ho]
def pickA (x y z : AV) (k : AV → Prop) : Prop :=
  match x with
  | .v (.bool b) => if b then k y else k z
  | _ => False
theorem repV_v {Fz : Nat → Prop} {L : Locs} {y x : Value} {oo : List Nat} (h : RepV w Fz L (.v y) x oo) : x = y := by simp only [RepV, RepC] at h; exact h.1
theorem q_pick (C : Core c st (tmOf a) w own lo) {x y z : Operand} {x' y' z' : Opd} (hx : mOpd x x' = true) (hy : mOpd y y' = true) (hz : mOpd z z' = true) (ho : o.op = .pick x y z) {k : AV → Prop}
    (h : pickA (rd st x') (rd st y') (rd st z') k) : QRes P o c st a w own lo k := by
  have rx := rd_rep C hx
  unfold pickA at h
  split at h
  · rename_i b hb
    rw [hb] at rx
    have ex := repV_v rx
    cases b with
    | true => exact ⟨a.eval y, rd st y', fun w' _ => by simp [execOp, ho, ex, asBool], rd_rep C hy, by simpa using h⟩
    | false => exact ⟨a.eval z, rd st z', fun w' _ => by simp [execOp, ho, ex, asBool], rd_rep C hz, by simpa using h⟩
  · exact h.elim
def binV (op : BinOp) (x y : AV) (k : AV → Prop) : Prop :=
  match x, y with
  | .v p, .v q => binC op p q ∧ k (.v (binR op p q))
  | _, _ => False
theorem scal_one {z : Value} (h : scal z = true) : z.oneCell' = true := by cases z <;> simp_all [scal, Value.oneCell']
theorem repV_scal {Fz : Nat → Prop} {L : Locs} {z : Value} (h : scal z = true) : RepV w Fz L (.v z) z [] := by
  simp only [RepV, RepC]; exact ⟨trivial, scal_one h, trivial⟩
theorem q_bin (C : Core c st (tmOf a) w own lo) {op : BinOp} {t t' : TypeId} {x y : Operand} {x' y' : Opd} (hx : mOpd x x' = true) (hy : mOpd y y' = true) (ho : o.op = .binOp op t x y t') {k : AV → Prop}
    (hb : ∀ a b, rd st x' = .v (.bool a) → rd st y' = .v (.bool b) → P.underlying t = some .bool)
    (h : binV op (rd st x') (rd st y') k) : QRes P o c st a w own lo k := by
  have rx := rd_rep C hx
  have ry := rd_rep C hy
  unfold binV at h
  split at h
  · rename_i p q hp hq
    rw [hp] at rx
    rw [hq] at ry
    have ex := repV_v rx
    have ey := repV_v ry
    have hbool : (∃ a b, p = .bool a ∧ q = .bool b) → P.underlying t = some .bool := by
      rintro ⟨a', b', rfl, rfl⟩
      exact hb a' b' hp hq
    refine ⟨binR op p q, .v (binR op p q), fun w' _ => ?_, repV_scal (binR_scal h.1), h.2⟩
    simp [execOp, ho, ex, ey, eqGuard_v (P := P) (w := w') (t := t) (x := x) (y := y) h.1, binR_run (P := P) (w := w') (t := t) h.1 hbool]
  · exact h.elim
def unV (op : UnOp) (x : AV) (k : AV → Prop) : Prop :=
  match op, x with
  | .not, .v (.bool b) => k (.v (.bool !b))
  | .neg, .v (.int kd n) => k (.v (.int kd (kd.wrap (0 - n))))
  | _, _ => False
theorem q_un (C : Core c st (tmOf a) w own lo) {op : UnOp} {t : TypeId} {x : Operand} {x' : Opd} (hx : mOpd x x' = true) (ho : o.op = .unOp op t x) {k : AV → Prop} (h : unV op (rd st x') k) : QRes P o c st a w own lo k := by
  have rx := rd_rep C hx
  unfold unV at h
  split at h
  · rename_i b hb
    rw [hb] at rx
    exact ⟨.bool !b, _, fun w' _ => by simp [execOp, ho, repV_v rx, Op.unary], repV_scal rfl, h⟩
  · rename_i kd n hb
    rw [hb] at rx
    exact ⟨.int kd (kd.wrap (0 - n)), _, fun w' _ => by simp [execOp, ho, repV_v rx, Op.unary, Op.intArith], repV_scal rfl, h⟩
  · exact h.elim
def convV (kd : IntKind) (x : AV) (k : AV → Prop) : Prop :=
  match x with
  | .v (.int _ n) => k (.v (.int kd (kd.wrap n)))
  | _ => False
theorem q_conv (C : Core c st (tmOf a) w own lo) {s d : TypeId} {kd : IntKind} {x : Operand} {x' : Opd} (hx : mOpd x x' = true) (ho : o.op = .convert s d x) (hs : (P.underlying s).isSome = true) (hd : P.underlying d = some (.int kd)) {k : AV → Prop}
    (h : convV kd (rd st x') k) : QRes P o c st a w own lo k := by
  have rx := rd_rep C hx
  unfold convV at h
  split at h
  · rename_i k0 n hb
    rw [hb] at rx
    obtain ⟨ds, hds⟩ := Option.isSome_iff_exists.mp hs
    exact ⟨.int kd (kd.wrap n), _, fun w' _ => by simp [execOp, ho, repV_v rx, convert, run_underlying hds, run_underlying hd, Conv.intToInt], repV_scal rfl, h⟩
  · exact h.elim
def lenV (x : AV) (k : AV → Prop) : Prop :=
  match x with
  | .v (.string s) => k (.v (.int .i64 s.size))
  | .fsl _ l => k (.v (.int .i64 l.length))
  | .usl _ _ l => k (.v (.int .i64 l.length))
  | .sref _ _ _ len => k (.v (.int .i64 len))
  | _ => False
theorem win_len {sz off len : Nat} {y x : Value} (h : Win sz y off len x) : ∃ A cp, x = .slice A len cp := by
  rcases h with ⟨_, rfl, _, rfl⟩ | ⟨g, b, n, cp, k, cx, _, rfl, _⟩
  · exact ⟨_, _, rfl⟩
  · exact ⟨_, _, rfl⟩
theorem q_len (C : Core c st (tmOf a) w own lo) {t ty : TypeId} {x : Operand} {x' : Opd} (hx : mOpd x x' = true) (ho : o.op = .call { callee := .builtin .len, args := #[x], argTypes := #[t] })
    (ht : (match P.underlying t with | some .string => true | some (.slice _) => true | _ => false) = true) {k : AV → Prop}
    (hs : (match P.underlying t with | some .string => true | _ => false) = true ↔ ∃ s, rd st x' = .v (.string s)) (h : lenV (rd st x') k) : QRes P o c st a w own lo k := by
  have rx := rd_rep C hx
  have sl : (∀ s, rd st x' ≠ .v (.string s)) → ∃ e, P.underlying t = some (.slice e) := by
    intro hne
    split at ht
    · rename_i hu
      obtain ⟨s, hs⟩ := hs.1 (by rw [hu])
      exact absurd hs (hne s)
    · rename_i e hu; exact ⟨e, hu⟩
    · simp at ht
  unfold lenV at h
  split at h
  · rename_i s hb
    have hu : P.underlying t = some .string := by
      have := hs.2 ⟨s, hb⟩
      split at this
      · assumption
      · simp at this
    rw [hb] at rx
    refine ⟨.int .i64 s.size, _, fun w' _ => ?_, repV_scal rfl, h⟩
    simp [execOp, ho, resolve, invoke, builtin, repV_v rx, Builtin.len_, run_underlying hu, goInt]
  · rename_i sz l hb
    obtain ⟨e, hu⟩ := sl (by rw [hb]; simp)
    rw [hb] at rx
    simp only [RepV, RepC] at rx
    obtain ⟨_, A, cp, hx, _⟩ := rx
    refine ⟨.int .i64 l.length, _, fun w' _ => ?_, repV_scal rfl, h⟩
    simp [execOp, ho, resolve, invoke, builtin, hx, Builtin.len_, run_underlying hu, goInt]
  · rename_i e' sz l hb
    obtain ⟨e, hu⟩ := sl (by rw [hb]; simp)
    rw [hb] at rx
    simp only [RepV, RepC] at rx
    have : ∃ A cp, a.eval x = .slice A l.length cp := by
      rcases rx with ⟨h1, h2, _⟩ | ⟨g, hh, cp, cur, xs, o', hx, _⟩
      · subst h2; exact ⟨_, _, h1⟩
      · exact ⟨_, _, hx⟩
    obtain ⟨A, cp, hx⟩ := this
    refine ⟨.int .i64 l.length, _, fun w' _ => ?_, repV_scal rfl, h⟩
    simp [execOp, ho, resolve, invoke, builtin, hx, Builtin.len_, run_underlying hu, goInt]
  · rename_i n p off len hb
    obtain ⟨e, hu⟩ := sl (by rw [hb]; simp)
    rw [hb] at rx
    simp only [RepV] at rx
    obtain ⟨_, s, y, _, _, _, hw⟩ := rx
    obtain ⟨A, cp, hx⟩ := win_len hw
    refine ⟨.int .i64 len, _, fun w' _ => ?_, repV_scal rfl, h⟩
    simp [execOp, ho, resolve, invoke, builtin, hx, Builtin.len_, run_underlying hu, goInt]
  · exact h.elim
end
end Go.AM
namespace Go.AM
set_option linter.unusedVariables false
set_option linter.unusedSimpArgs false
def rowOf : AV → Nat → Option (List AV)
  | .usl _ _ l, i => l[i]?
  | .box _ c, i => if i = 0 then some c else none
  | _, _ => none
theorem owner_row {w : World} {Fz : Nat → Prop} {av : AV} {y : Value} {o : List Nat} {i : Nat} {r : List AV} {s : Sh} (h : RepC w Fz av y o) (hs : shapeOf av = some s) (hr : rowOf av i = some r) :
    i < s.len ∧ r.length = s.sz ∧ ∃ b f xs o1, addrOf y = some (b, f) ∧ b ∈ o ∧ RepRow w Fz r xs o1 ∧ At w b (f + i * s.sz) xs ∧ (∀ b' ∈ o1, b' ∈ o) ∧ (∀ j, cellOf av i j = r[j]?) ∧ ∀ j, j < r.length → cellV w av y i j = xs[j]? := by
  cases av with
  | usl e sz l =>
    simp only [shapeOf, Option.some.injEq] at hs
    subst hs
    simp only [rowOf] at hr
    have hil := (List.getElem?_eq_some_iff.1 hr).1
    simp only [RepC] at h
    rcases h with ⟨_, hl, _⟩ | ⟨g, hh, cp, cur, xs, o', hy, ho, hg, hcp, hsz, hrep, hat⟩
    · subst hl; simp at hil
    · subst hy ho
      obtain ⟨o1, o2, hoo, _, h2⟩ := hrep.split i (Nat.le_of_lt hil)
      have hd : l.drop i = r :: l.drop (i + 1) := by
        rw [List.drop_eq_getElem_cons hil]
        congr 1
        rw [List.getElem?_eq_getElem hil] at hr
        exact Option.some.inj hr
      rw [hd] at h2
      simp only [RepRows] at h2
      obtain ⟨x1, x2, p1, p2, hx, hp, hrl, hrow, _⟩ := h2
      refine ⟨hil, hrl, g, hh * sz, x1, p1, rfl, by simp, hrow, ?_, ?_, ?_, ?_⟩
      · intro j u hj
        have : xs[i * sz + j]? = some u := by
          rw [← List.getElem?_drop, hx, List.getElem?_append_left (List.getElem?_eq_some_iff.1 hj).1]; exact hj
        have := hat _ _ this
        rw [← Nat.add_assoc] at this
        exact this
      · intro b' hb'; rw [hoo, hp]; simp [hb']
      · intro j; simp [cellOf, hr]
      · intro j hj
        have hjx : j < x1.length := by rw [hrow.length]; exact hj
        have : xs[i * sz + j]? = x1[j]? := by
          rw [← List.getElem?_drop, hx, List.getElem?_append_left hjx]
        simp only [cellV]
        have hz := hat (i * sz + j) x1[j] (by rw [this]; simp [hjx])
        rw [← Nat.add_assoc] at hz
        rw [hz]; simp [hjx]
  | box e cs =>
    simp only [shapeOf, Option.some.injEq] at hs
    subst hs
    simp only [rowOf] at hr
    split at hr
    · rename_i hi
      subst hi
      simp at hr
      subst hr
      simp only [RepC] at h
      obtain ⟨g, xs, o', hy, ho, hg, hrep⟩ := h
      subst hy ho
      refine ⟨by simp, rfl, g, 0, xs, o', rfl, by simp, hrep, ?_, by simp +contextual, by simp [cellOf], ?_⟩
      · intro j u hj
        have := cell_of_cells hg j
        simp only [Nat.zero_mul, Nat.zero_add, this]
        simpa using hj
      · intro j hj
        have := cell_of_cells hg j
        simp only [cellV, Nat.zero_add, this]
        simp
    · simp at hr
  | _ => simp [shapeOf] at hs
theorem loc_spot {c : Ctx} {st : St} {tm : Nat → Value} {w : World} {own : Nat → List Nat} {lo : List Nat} (C : Core c st tm w own lo) {n : Nat} {p : List (Nat × Nat)} {s : Sh} {y : Value} (h : locs st tm w n p = some (s, y)) :
    ∃ av o, getC (st n) p = some av ∧ walk w (st n) (tm n) p = some (av, y) ∧ shapeOf av = some s ∧ RepC w (frz c w (owned own lo)) av y o ∧ ∀ b ∈ o, b ∈ own n := by
  simp only [locs, walkSh, Option.bind_eq_some_iff, Option.map_eq_some_iff] at h
  obtain ⟨⟨av, y'⟩, hw, s', hs, he⟩ := h
  simp only [Prod.mk.injEq] at he
  obtain ⟨rfl, rfl⟩ := he
  have ho : isOwner av = true := by cases av <;> simp_all [shapeOf, isOwner]
  obtain ⟨o, oR, S⟩ := (C.rep n).spot p hw ho
  exact ⟨av, o, walk_getC hw, hw, hs, S.rep, fun b hb => (S.mem b).2 (.inl hb)⟩
def inRow (o : Option AV) (i : Nat) (F : List AV → Prop) : Prop :=
  match o with
  | some (.usl _ _ l) => i < l.length ∧ F (nth l i)
  | some (.box _ c) => i = 0 ∧ F c
  | _ => False
theorem inRow_row {av : AV} {i : Nat} {F : List AV → Prop} (h : inRow (some av) i F) : ∃ r, rowOf av i = some r ∧ F r := by
  cases av with
  | usl e sz l =>
    simp only [inRow] at h
    refine ⟨nth l i, ?_, h.2⟩
    simp [rowOf, nth, h.1]
  | box e c => simp only [inRow] at h; exact ⟨c, by simp [rowOf, h.1], h.2⟩
  | _ => exact h.elim
theorem RepRow.toVs {w : World} {Fz : Nat → Prop} {L : Locs} : ∀ {cs : List AV} {xs : List Value} {o : List Nat}, RepRow w Fz cs xs o → RepVs w Fz L cs xs o
  | [], xs, o, h => by simp only [RepRow] at h; simp only [RepVs]; exact h
  | c :: cs, xs, o, h => by
    simp only [RepRow] at h
    obtain ⟨x, xs', o1, o2, hx, ho, hc, hr⟩ := h
    simp only [RepVs]
    exact ⟨x, xs', o1, o2, hx, ho, hc.toV, RepRow.toVs hr⟩
theorem RepRow.sub {w : World} {Fz : Nat → Prop} {cs : List AV} {xs : List Value} {o : List Nat} (h : RepRow w Fz cs xs o) (j n : Nat) (hj : j + n ≤ cs.length) :
    ∃ o', RepRow w Fz ((cs.drop j).take n) ((xs.drop j).take n) o' ∧ ∀ b ∈ o', b ∈ o := by
  obtain ⟨o1, o2, ho, _, h2⟩ := h.split j (by omega)
  obtain ⟨o3, o4, ho', h3, _⟩ := h2.split n (by simp; omega)
  exact ⟨o3, h3, fun b hb => by rw [ho, ho']; simp [hb]⟩
def isAggD : TypeDesc → Bool
  | .struct _ => true
  | .array _ _ => true
  | _ => false
theorem run_loadVar_agg {P : Program} {w : World} {t : TypeId} {d : TypeDesc} {sz : Nat} (hu : P.underlying t = some d) (hd : isAggD d = true) (hs : (P.info? t).map (·.size) = some sz)
    {b f : Nat} {xs : List Value} (hl : xs.length = sz) (ha : At w b f xs) : (loadVar t ⟨b, f, none⟩).run P w = .ok (.agg xs.toArray) w := by
  have hl' : (loadCells ⟨b, f, none⟩ xs.length).run P w = .ok xs.toArray w :=
    run_loadCells_list (P := P) w ⟨b, f, none⟩ xs (fun j v hv => by rw [Addr.add_lit]; exact ha j v hv)
  cases hq : P.info? t with
  | none => simp [hq] at hs
  | some i =>
    have hs' : i.size = sz := by simpa [hq] using hs
    have hagg : (isAgg t).run P w = .ok true w := by
      unfold isAgg
      rw [Sem.run_bind, run_underlying hu w]
      cases d <;> simp_all [isAggD]
    simp [loadVar, Sem.run_bind, hagg, sizeOf, typeInfo, hq, hs', ← hl, hl']
theorem run_loadVar_one {P : Program} {w : World} {t : TypeId} {d : TypeDesc} (hu : P.underlying t = some d) (hd : isAggD d = false)
    {b f : Nat} {x : Value} (ha : w.cell? ⟨b, f, none⟩ = some x) : (loadVar t ⟨b, f, none⟩).run P w = .ok x w := by
  have hagg : (isAgg t).run P w = .ok false w := by
    unfold isAgg
    rw [Sem.run_bind, run_underlying hu w]
    cases d <;> simp_all [isAggD]
  simp [loadVar, Sem.run_bind, hagg, ha]
def aggB (P : Program) (t : TypeId) : Option Bool := (P.underlying t).map isAggD
def loadOk (P : Program) (t : TypeId) (agg : Bool) (sz : Nat) : Bool := aggB P t == some agg && (!agg || (P.info? t).map (·.size) == some sz)
def loadV (agg : Bool) (sz : Nat) (st : St) (x : AV) (k : AV → Prop) : Prop :=
  match x with
  | .fptr c => if agg then sz ≤ c.length ∧ k (.agg (c.take sz)) else 0 < c.length ∧ k (c.getD 0 .dead)
  | .ref n p i j => inRow (getC (st n) p) i fun r =>
      if agg then j + sz ≤ r.length ∧ k (.agg (brws n p i j ((r.drop j).take sz))) else j < r.length ∧ k (brw n (p ++ [(i, j)]) (r.getD j .dead))
  | _ => False
section
variable {P : Program} {o : Oper} {c : Ctx} {st : St} {a : Act} {w : World} {own : Nat → List Nat} {lo : List Nat}
theorem At.same {w w' : World} {b f : Nat} {xs : List Value} (h : At w b f xs) (hs : w'.heap[b]? = w.heap[b]?) : At w' b f xs := h.of_block hs
theorem At.drop {w : World} {b f : Nat} {xs : List Value} (h : At w b f xs) (j n : Nat) : At w b (f + j) ((xs.drop j).take n) := by
  intro m u hm
  rw [List.getElem?_take] at hm
  split at hm
  · rw [List.getElem?_drop] at hm
    have := h _ _ hm
    rw [← Nat.add_assoc] at this
    exact this
  · simp at hm
theorem q_load (C : Core c st (tmOf a) w own lo) {t : TypeId} {x : Operand} {x' : Opd} {agg : Bool} {sz : Nat} (hx : mOpd x x' = true) (ho : o.op = .load t x) (hok : loadOk P t agg sz = true) {k : AV → Prop}
    (h : loadV agg sz st (rd st x') k) : QRes P o c st a w own lo k := by
  have rx := rd_rep C hx
  simp only [loadOk, aggB, Bool.and_eq_true, Bool.or_eq_true, beq_iff_eq, Option.map_eq_some_iff] at hok
  obtain ⟨⟨d, hu, hd⟩, hsz⟩ := hok
  have hex : ∀ w' b f, a.eval x = .pointer (some ⟨b, f, none⟩) → (execOp a.eval o).run P w' = ((loadVar t ⟨b, f, none⟩).run P w').andThen fun v w => .ok (.value v) w := by
    intro w' b f hp
    simp [execOp, ho, hp, Instr.loadAt, Instr.sureAddr]
  unfold loadV at h
  split at h
  · rename_i cs hb
    rw [hb] at rx
    simp only [RepV, RepC] at rx
    obtain ⟨_, g, hh, xs, hp, hf, hrow, hat⟩ := rx
    cases agg with
    | true =>
      simp only [if_true] at h
      obtain ⟨o', hr', hs'⟩ := hrow.sub 0 sz (by omega)
      simp only [List.drop_zero] at hr'
      have : o' = [] := List.eq_nil_iff_forall_not_mem.2 fun b hb => by simpa using hs' b hb
      subst this
      have hl : (xs.take sz).length = sz := by rw [hr'.length]; simp; omega
      refine ⟨.agg (xs.take sz).toArray, _, fun w' hsame0 => ?_, ?_, h.2⟩
      · have hat' := (hat.drop 0 sz).same (hsame0 (by rw [ho]; rfl) g (.inl hf))
        simp only [Nat.add_zero, List.drop_zero] at hat'
        rw [hex w' g hh hp, run_loadVar_agg hu hd (by simpa using hsz) hl hat']
        rfl
      · simp only [RepV]; exact ⟨_, rfl, hr'.toVs⟩
    | false =>
      simp only [Bool.false_eq_true, if_false] at h
      cases cs with
      | nil => simp at h
      | cons c0 cs =>
        simp only [RepRow] at hrow
        obtain ⟨x0, xs', o1, o2, hxs, hoo, hc0, _⟩ := hrow
        obtain ⟨rfl, rfl⟩ : o1 = [] ∧ o2 = [] := by simpa using hoo.symm
        subst hxs
        refine ⟨x0, _, fun w' hsame0 => ?_, hc0.toV, by simpa using h.2⟩
        have hcell := (hat.same (hsame0 (by rw [ho]; rfl) g (.inl hf))) 0 x0 (by simp)
        rw [Nat.add_zero] at hcell
        rw [hex w' g hh hp, run_loadVar_one hu hd hcell]
        rfl
  · rename_i n p i j hb
    rw [hb] at rx
    simp only [RepV] at rx
    obtain ⟨_, s, y, b, f, hloc, hadr, hi, hj, hp⟩ := rx
    obtain ⟨av, oo, hg, hw, hsh, hrep, hsub⟩ := loc_spot C hloc
    rw [hg] at h
    obtain ⟨r, hr, hF⟩ := inRow_row h
    obtain ⟨_, hrl, b', f', xs, o1, hadr', hbo, hrow, hat, hsub', hcell, hcv⟩ := owner_row hrep hsh hr
    rw [hadr] at hadr'
    obtain ⟨rfl, rfl⟩ : b = b' ∧ f = f' := by simpa using hadr'
    have hsameb : ∀ w', Same c own lo w w' → w'.heap[b]? = w.heap[b]? := fun w' hs => hs b (.inr (.inl ⟨n, hsub b hbo⟩))
    have hwalk : ∀ m c0 z, r[m]? = some c0 → xs[m]? = some z → ∀ q r', walkSh w c0 z q = some r' → locs st (tmOf a) w n (p ++ [(i, m)] ++ q) = some r' := by
      intro m c0 z hm hz q r' hq
      have hml := (List.getElem?_eq_some_iff.1 hm).1
      have : walk w (st n) (tmOf a n) (p ++ [(i, m)]) = some (c0, z) := by
        rw [walk_append, hw]
        simp only [Option.bind_some, walk, hcell, hm, hcv m hml, hz]
      simp only [locs]
      rw [walkSh_append this]
      exact hq
    cases agg with
    | true =>
      simp only [if_true] at hF
      obtain ⟨o', hr', hs'⟩ := hrow.sub j sz hF.1
      have hl : ((xs.drop j).take sz).length = sz := by rw [hr'.length]; simp; omega
      refine ⟨.agg ((xs.drop j).take sz).toArray, _, fun w' hsame0 => ?_, ?_, hF.2⟩
      · have hat' := (hat.drop j sz).same (hsameb w' (hsame0 (by rw [ho]; rfl)))
        rw [hex w' b _ hp, run_loadVar_agg hu hd (by simpa using hsz) hl hat']
        rfl
      · simp only [RepV]
        refine ⟨_, rfl, brws_rep _ (L := locs st (tmOf a) w) hr'.toVs ?_⟩
        intro m c0 z hm hz q r' hq
        rw [List.getElem?_take] at hm hz
        split at hm
        · rename_i hms
          simp only [hms, if_true, List.getElem?_drop] at hm hz
          exact hwalk (j + m) c0 z hm hz q r' hq
        · simp at hm
    | false =>
      simp only [Bool.false_eq_true, if_false] at hF
      have hjr := hF.1
      have hjx : j < xs.length := by rw [hrow.length]; exact hjr
      obtain ⟨z, p1, oc, p2, _, hz, hcz, _⟩ := hrow.at (k := j) (c := r[j]) (by simp [hjr])
      refine ⟨z, _, fun w' hsame0 => ?_, ?_, hF.2⟩
      · have hat' := (hat.same (hsameb w' (hsame0 (by rw [ho]; rfl)))) j z hz
        rw [hex w' b _ hp, run_loadVar_one hu hd hat']
        rfl
      · have e : r.getD j .dead = r[j] := by simp [hjr]
        rw [e]
        exact brw_rep (L := locs st (tmOf a) w) r[j] hcz.toV (fun q r' hq => hwalk j r[j] z (by simp [hjr]) hz q r' hq)
  · exact h.elim
end
end Go.AM
namespace Go.AM
set_option linter.unusedVariables false
set_option linter.unusedSimpArgs false
theorem RepRow.dropF {w : World} {Fz : Nat → Prop} {cs : List AV} {xs : List Value} (h : RepRow w Fz cs xs []) (k : Nat) (hk : k ≤ cs.length) : RepRow w Fz (cs.drop k) (xs.drop k) [] := by
  obtain ⟨o1, o2, ho, _, h2⟩ := h.split k hk
  obtain ⟨rfl, rfl⟩ : o1 = [] ∧ o2 = [] := by simpa using ho.symm
  exact h2
theorem RepRows.get {w : World} {Fz : Nat → Prop} {sz : Nat} {l : List (List AV)} {xs : List Value} (h : RepRows w Fz sz l xs []) {i : Nat} (hi : i < l.length) :
    (nth l i).length = sz ∧ RepRow w Fz (nth l i) ((xs.drop (i * sz)).take sz) [] := by
  obtain ⟨o1, o2, ho, _, h2⟩ := h.split i (Nat.le_of_lt hi)
  obtain ⟨rfl, rfl⟩ : o1 = [] ∧ o2 = [] := by simpa using ho.symm
  have hd : l.drop i = nth l i :: l.drop (i + 1) := by
    rw [List.drop_eq_getElem_cons hi]; simp [nth, hi]
  rw [hd] at h2
  simp only [RepRows] at h2
  obtain ⟨x1, x2, p1, p2, hx, hp, hrl, hrow, _⟩ := h2
  obtain ⟨rfl, rfl⟩ : p1 = [] ∧ p2 = [] := by simpa using hp.symm
  refine ⟨hrl, ?_⟩
  rw [hx, List.take_left' (by rw [hrow.length, hrl])]
  exact hrow
theorem At.dropAll {w : World} {b f : Nat} {xs : List Value} (h : At w b f xs) (j : Nat) : At w b (f + j) (xs.drop j) := by
  intro m u hm
  rw [List.getElem?_drop] at hm
  have := h _ _ hm
  rw [← Nat.add_assoc] at this
  exact this
def nilchkV (x : AV) (k : AV → Prop) : Prop :=
  match x with
  | .fptr cs => k (.fptr cs)
  | .ref n p i j => k (.ref n p i j)
  | _ => False
def fadV (off : Nat) (st : St) (x : AV) (k : AV → Prop) : Prop :=
  match x with
  | .fptr cs => off ≤ cs.length ∧ k (.fptr (cs.drop off))
  | .ref n p i j => (match getC (st n) p with | some (.usl _ sz _) => j + off ≤ sz | some (.box _ cs) => j + off ≤ cs.length | _ => False) ∧ k (.ref n p i (j + off))
  | _ => False
def fadOk (P : Program) (s : TypeId) (f off : Nat) : Bool :=
  match P.underlying s with
  | some (.struct fs) => (fs[f]?).any fun fd => fd.offset == off && (P.info? fd.type).any fun i => i.size != 0
  | _ => false
def fldV (agg : Bool) (off sz : Nat) (x : AV) (k : AV → Prop) : Prop :=
  match x with
  | .agg cs => if agg then off + sz ≤ cs.length ∧ k (.agg ((cs.drop off).take sz)) else off < cs.length ∧ k (cs.getD off .dead)
  | _ => False
def fldOk (P : Program) (s : TypeId) (f : Nat) (agg : Bool) (off sz : Nat) : Bool :=
  match P.underlying s with
  | some (.struct fs) => (fs[f]?).any fun fd => fd.offset == off && aggB P fd.type == some agg && (!agg || (P.info? fd.type).map (·.size) == some sz)
  | _ => false
def iadV (sz : Nat) (st : St) (x i : AV) (k : AV → Prop) : Prop :=
  match i with
  | .v (.int _ n) =>
    match x with
    | .fsl sz' l => sz' = sz ∧ 0 ≤ n ∧ n < l.length ∧ k (.fptr (nth l n.toNat))
    | .sref m p off len => (match getC (st m) p with | some (.usl _ sz' _) => sz' = sz | _ => False) ∧ 0 ≤ n ∧ n < len ∧ k (.ref m p (off + n.toNat) 0)
    | _ => False
  | _ => False
def iadOk (P : Program) (t : TypeId) (sz : Nat) : Bool :=
  match P.underlying t with
  | some (.slice e) => (P.info? e).map (·.size) == some sz
  | _ => false
def sAt (s : ByteArray) (n : Int) : Int := ((s.data.toList.getD n.toNat 0).toNat : Int)
def idxV (x i : AV) (k : AV → Prop) : Prop :=
  match x, i with
  | .v (.string s), .v (.int _ n) => 0 ≤ n ∧ n < s.size ∧ k (.v (.int .u8 (sAt s n)))
  | _, _ => False
def extV (st : St) (n i : Nat) (k : AV → Prop) : Prop :=
  match st n with
  | .tup l => i < l.length ∧ k (brw n [(0, i)] (l.getD i .dead))
  | _ => False
section
variable {P : Program} {o : Oper} {c : Ctx} {st : St} {a : Act} {w : World} {own : Nat → List Nat} {lo : List Nat}
theorem q_nilchk (C : Core c st (tmOf a) w own lo) {x : Operand} {x' : Opd} (hx : mOpd x x' = true) (ho : o.op = .nilCheck x) {k : AV → Prop} (h : nilchkV (rd st x') k) : QRes P o c st a w own lo k := by
  have rx := rd_rep C hx
  unfold nilchkV at h
  split at h
  · rename_i cs hb
    rw [hb] at rx
    refine ⟨a.eval x, _, fun w' _ => ?_, rx, h⟩
    simp only [RepV, RepC] at rx
    obtain ⟨_, g, hh, xs, hp, _⟩ := rx
    simp [execOp, ho, hp]
  · rename_i n p i j hb
    rw [hb] at rx
    refine ⟨a.eval x, _, fun w' _ => ?_, rx, h⟩
    simp only [RepV] at rx
    obtain ⟨_, s, y, b, f, _, _, _, _, hp⟩ := rx
    simp [execOp, ho, hp]
  · exact h.elim
theorem q_fad (C : Core c st (tmOf a) w own lo) {s : TypeId} {f off : Nat} {x : Operand} {x' : Opd} (hx : mOpd x x' = true) (ho : o.op = .fieldAddr s x f) (hok : fadOk P s f off = true) {k : AV → Prop}
    (h : fadV off st (rd st x') k) : QRes P o c st a w own lo k := by
  have rx := rd_rep C hx
  unfold fadOk at hok
  split at hok
  rotate_left
  · simp at hok
  rename_i fs hu
  simp only [Option.any_eq_true, Bool.and_eq_true, beq_iff_eq, bne_iff_ne] at hok
  obtain ⟨fd, hfd, hoff, i, hi, hsz⟩ := hok
  have hex : ∀ w' b g, a.eval x = .pointer (some ⟨b, g, none⟩) → (execOp a.eval o).run P w' = .ok (.value (.pointer (some ⟨b, g + off, none⟩))) w' := by
    intro w' b g hp
    simp [execOp, ho, hp, Instr.fieldAt, run_underlying hu, hfd, Instr.sureAddr, fieldPlace, sizeOf, typeInfo, hi, hsz, Addr.add_lit, hoff]
  unfold fadV at h
  split at h
  · rename_i cs hb
    rw [hb] at rx
    simp only [RepV, RepC] at rx
    obtain ⟨_, g, hh, xs, hp, hf, hrow, hat⟩ := rx
    refine ⟨_, _, fun w' _ => hex w' g hh hp, ?_, h.2⟩
    simp only [RepV, RepC]
    exact ⟨trivial, g, hh + off, xs.drop off, rfl, hf, hrow.dropF off h.1, hat.dropAll off⟩
  · rename_i n p i' j hb
    rw [hb] at rx
    simp only [RepV] at rx
    obtain ⟨_, s', y, b, g, hloc, hadr, hi', hj, hp⟩ := rx
    refine ⟨_, _, fun w' _ => hex w' b _ hp, ?_, h.2⟩
    obtain ⟨av, oo, hg, hw, hsh, hrep, hsub⟩ := loc_spot C hloc
    simp only [RepV]
    refine ⟨trivial, s', y, b, g, hloc, hadr, hi', ?_, by simp [Nat.add_assoc]⟩
    have h1 := h.1
    rw [hg] at h1
    cases av <;> simp [shapeOf] at hsh h1
    · subst hsh; exact h1
    · subst hsh; exact h1
  · exact h.elim
theorem RepVs.get {w : World} {Fz : Nat → Prop} {L : Locs} : ∀ {cs : List AV} {xs : List Value}, RepVs w Fz L cs xs [] → ∀ k, k < cs.length → ∃ z, xs[k]? = some z ∧ RepV w Fz L (cs.getD k .dead) z []
  | [], xs, h, k, hk => by simp at hk
  | d :: cs, xs, h, k, hk => by
    simp only [RepVs] at h
    obtain ⟨x, xs', o1, o2, hx, ho, hc, hr⟩ := h
    obtain ⟨rfl, rfl⟩ : o1 = [] ∧ o2 = [] := by simpa using ho.symm
    subst hx
    cases k with
    | zero => exact ⟨x, by simp, by simpa using hc⟩
    | succ k =>
      obtain ⟨z, hz, hr⟩ := RepVs.get hr k (by simpa using hk)
      exact ⟨z, by simpa using hz, by simpa using hr⟩
theorem RepVs.len {w : World} {Fz : Nat → Prop} {L : Locs} : ∀ {cs : List AV} {xs : List Value} {o : List Nat}, RepVs w Fz L cs xs o → xs.length = cs.length
  | [], xs, o, h => by simp only [RepVs] at h; simp [h.1]
  | d :: cs, xs, o, h => by
    simp only [RepVs] at h
    obtain ⟨x, xs', o1, o2, hx, ho, hc, hr⟩ := h
    subst hx
    simp [RepVs.len hr]
theorem RepVs.sub {w : World} {Fz : Nat → Prop} {L : Locs} : ∀ {cs : List AV} {xs : List Value}, RepVs w Fz L cs xs [] → ∀ j n, RepVs w Fz L ((cs.drop j).take n) ((xs.drop j).take n) []
  | [], xs, h, j, n => by simp only [RepVs] at h; simp [h.1, RepVs]
  | d :: cs, xs, h, 0, 0 => by simp [RepVs]
  | d :: cs, xs, h, 0, n + 1 => by
    simp only [RepVs] at h
    obtain ⟨x, xs', o1, o2, hx, ho, hc, hr⟩ := h
    obtain ⟨rfl, rfl⟩ : o1 = [] ∧ o2 = [] := by simpa using ho.symm
    subst hx
    simp only [List.drop_zero, List.take_succ_cons, RepVs]
    have := RepVs.sub hr 0 n
    simp only [List.drop_zero] at this
    exact ⟨x, xs'.take n, [], [], rfl, rfl, hc, this⟩
  | d :: cs, xs, h, j + 1, n => by
    simp only [RepVs] at h
    obtain ⟨x, xs', o1, o2, hx, ho, hc, hr⟩ := h
    obtain ⟨rfl, rfl⟩ : o1 = [] ∧ o2 = [] := by simpa using ho.symm
    subst hx
    simpa using RepVs.sub hr j n
theorem q_fld (C : Core c st (tmOf a) w own lo) {s : TypeId} {f off sz : Nat} {agg : Bool} {x : Operand} {x' : Opd} (hx : mOpd x x' = true) (ho : o.op = .field s x f) (hok : fldOk P s f agg off sz = true) {k : AV → Prop}
    (h : fldV agg off sz (rd st x') k) : QRes P o c st a w own lo k := by
  have rx := rd_rep C hx
  unfold fldOk at hok
  split at hok
  rotate_left
  · simp at hok
  rename_i fs hu
  simp only [Option.any_eq_true, Bool.and_eq_true, Bool.or_eq_true, beq_iff_eq, aggB, Option.map_eq_some_iff] at hok
  obtain ⟨fd, hfd, ⟨hoff, d, hd, hagg⟩, hsz⟩ := hok
  unfold fldV at h
  split at h
  · rename_i cs hb
    rw [hb] at rx
    simp only [RepV] at rx
    obtain ⟨xs, hp, hrow⟩ := rx
    have hlen := hrow.len
    cases agg with
    | true =>
      simp only [if_true] at h
      have hagg' : ∀ w', (isAgg fd.type).run P w' = .ok true w' := by
        intro w'; unfold isAgg; rw [Sem.run_bind, run_underlying hd w']; cases d <;> simp_all [isAggD]
      obtain ⟨i, hi, hs⟩ : ∃ i, P.info? fd.type = some i ∧ i.size = sz := by simpa using hsz
      refine ⟨.agg ((xs.drop off).take sz).toArray, _, fun w' _ => ?_, ?_, h.2⟩
      · simp [execOp, ho, hp, Instr.field, run_underlying hu, hfd, part, hagg', asAgg, sizeOf, typeInfo, hi, hs, hoff]
      · simp only [RepV]; exact ⟨_, rfl, hrow.sub off sz⟩
    | false =>
      simp only [Bool.false_eq_true, if_false] at h
      have hagg' : ∀ w', (isAgg fd.type).run P w' = .ok false w' := by
        intro w'; unfold isAgg; rw [Sem.run_bind, run_underlying hd w']; cases d <;> simp_all [isAggD]
      obtain ⟨z, hz, hr⟩ := hrow.get off h.1
      refine ⟨z, _, fun w' _ => ?_, hr, h.2⟩
      simp [execOp, ho, hp, Instr.field, run_underlying hu, hfd, part, hagg', asAgg, hoff, hz]
  · exact h.elim
theorem q_iad (C : Core c st (tmOf a) w own lo) {t : TypeId} {sz : Nat} {x y : Operand} {x' y' : Opd} (hx : mOpd x x' = true) (hy : mOpd y y' = true) (ho : o.op = .indexAddr t x y) (hok : iadOk P t sz = true) {k : AV → Prop}
    (h : iadV sz st (rd st x') (rd st y') k) : QRes P o c st a w own lo k := by
  have rx := rd_rep C hx
  have ry := rd_rep C hy
  unfold iadOk at hok
  split at hok
  rotate_left
  · simp at hok
  rename_i e hu
  simp only [beq_iff_eq, Option.map_eq_some_iff] at hok
  obtain ⟨i, hi, hsz⟩ := hok
  have hex : ∀ w' kd n b g len cp, a.eval y = .int kd n → a.eval x = .slice (some ⟨b, g, none⟩) len cp → 0 ≤ n → n < len → (execOp a.eval o).run P w' = .ok (.value (.pointer (some ⟨b, g + n.toNat * sz, none⟩))) w' := by
    intro w' kd n b g len cp hn hp h0 h1
    simp [execOp, ho, hp, hn, Instr.indexAt, asIntOf, run_underlying hu, h0, h1, sizeOf, typeInfo, hi, hsz, Addr.add_lit]
  unfold iadV at h
  split at h
  rotate_left
  · exact h.elim
  rename_i kd n hn
  rw [hn] at ry
  have ey := repV_v ry
  split at h
  · rename_i sz' l hb
    rw [hb] at rx
    simp only [RepV, RepC] at rx
    obtain ⟨_, A, cp, hp, _, hl⟩ := rx
    obtain ⟨rfl, h0, h1, hk⟩ := h
    rcases hl with hl | ⟨g, hh, xs, hA, hf, hrows, hat⟩
    · subst hl; simp at h1; omega
    · subst hA
      have hlt : n.toNat < l.length := by omega
      obtain ⟨hrl, hrow⟩ := hrows.get hlt
      refine ⟨_, _, fun w' _ => hex w' kd n g hh _ _ ey hp h0 h1, ?_, hk⟩
      simp only [RepV, RepC]
      exact ⟨trivial, g, _, _, rfl, hf, hrow, hat.drop _ _⟩
  · rename_i m p off len hb
    rw [hb] at rx
    simp only [RepV] at rx
    obtain ⟨_, s, z, hloc, hbx, hle, hwin⟩ := rx
    obtain ⟨hsz', h0, h1, hk⟩ := h
    obtain ⟨av, oo, hg, hw, hsh, hrep, hsub⟩ := loc_spot C hloc
    rw [hg] at hsz'
    cases av <;> simp [shapeOf] at hsh hsz'
    rename_i e' sz'' l
    subst hsh hsz'
    rcases hwin with ⟨_, _, _, hlen⟩ | ⟨g, b, n', cp, kk, cx, hz, hx', hlc, hkc, hko⟩
    · omega
    · have hko' : kk = off := by
        rcases hko with ⟨h, _⟩ | ⟨_, h, _⟩
        · exact h
        · omega
      subst hko'
      refine ⟨_, _, fun w' _ => hex w' kd n g _ _ _ ey hx' h0 h1, ?_, hk⟩
      simp only [RepV]
      refine ⟨trivial, _, z, g, b, hloc, by simp [hz, addrOf], ?_, by simp, ?_⟩
      · simp at hle ⊢; omega
      · simp only [Nat.add_mul, Nat.add_zero, Nat.add_assoc]
  · exact h.elim
theorem q_idx (C : Core c st (tmOf a) w own lo) {t : TypeId} {x y : Operand} {x' y' : Opd} (hx : mOpd x x' = true) (hy : mOpd y y' = true) (ho : o.op = .index t x y) (hu : P.underlying t = some .string) {k : AV → Prop}
    (h : idxV (rd st x') (rd st y') k) : QRes P o c st a w own lo k := by
  have rx := rd_rep C hx
  have ry := rd_rep C hy
  unfold idxV at h
  split at h
  · rename_i s kd n hs hn
    rw [hs] at rx
    rw [hn] at ry
    obtain ⟨h0, h1, hk⟩ := h
    refine ⟨_, _, fun w' _ => ?_, repV_scal rfl, hk⟩
    have hlt : n.toNat < s.size := by omega
    have e : s[n.toNat]? = some (s.data.toList.getD n.toNat 0) := by
      rw [getElem?_pos s n.toNat hlt]
      congr 1
      have : n.toNat < s.data.toList.length := by simpa using hlt
      simp [List.getD, hlt, ByteArray.getElem_eq_getElem_data]
    simp [execOp, ho, repV_v rx, repV_v ry, Instr.index, asIntOf, run_underlying hu, h0, e, sAt]
  · exact h.elim
theorem q_ext (C : Core c st (tmOf a) w own lo) {n i : Nat} (ho : o.op = .extract (.tmp n) i) {k : AV → Prop} (h : extV st n i k) : QRes P o c st a w own lo k := by
  unfold extV at h
  split at h
  · rename_i l hb
    have rn := C.rep n
    rw [hb] at rn
    simp only [RepV] at rn
    obtain ⟨xs, hx, hr⟩ := rn
    obtain ⟨z, o1, oc, o2, _, hz, hcz, _⟩ := hr.at (k := i) (c := l[i]'h.1) (by simp [h.1])
    refine ⟨z, _, fun w' _ => ?_, ?_, h.2⟩
    · have hx' : a.eval (.tmp n) = .tuple xs.toArray := hx
      simp [execOp, ho, hx', Instr.extract, hz]
    · have e : l.getD i .dead = l[i]'h.1 := by simp [h.1]
      rw [e]
      refine brw_rep (L := locs st (tmOf a) w) _ hcz ?_
      intro q r hq
      have : walk w (st n) (tmOf a n) [(0, i)] = some (l[i]'h.1, z) := by
        rw [hb, hx]
        simp [walk, cellOf, cellV, h.1, hz]
      simp only [locs]
      rw [walkSh_append this]
      exact hq
  · exact h.elim
end
end Go.AM
namespace Go.AM
set_option linter.unusedVariables false
set_option linter.unusedSimpArgs false
def bnd (d : Int) : Option AV → Option Int
  | none => some d
  | some (.v (.int _ n)) => some n
  | _ => none
def lhs (l h : Option Int) (F : Int → Int → Prop) : Prop :=
  match l, h with
  | some l, some h => F l h
  | _, _ => False
def slcV (sz : Nat) (st : St) (x : AV) (lo hi : Option AV) (k : AV → Prop) : Prop :=
  match x with
  | .v (.string s) => lhs (bnd 0 lo) (bnd s.size hi) fun l h => 0 ≤ l ∧ l ≤ h ∧ h ≤ s.size ∧ k (.v (.string (s.extract l.toNat h.toNat)))
  | .fsl sz' r => lhs (bnd 0 lo) (bnd r.length hi) fun l h => sz' = sz ∧ 0 ≤ l ∧ l ≤ h ∧ h ≤ r.length ∧ k (.fsl sz' ((r.drop l.toNat).take (h.toNat - l.toNat)))
  | .sref n p off len => lhs (bnd 0 lo) (bnd len hi) fun l h => (match getC (st n) p with | some (.usl _ sz' _) => sz' = sz | _ => False) ∧ 0 ≤ l ∧ l ≤ h ∧ h ≤ len ∧ k (.sref n p (off + l.toNat) (h.toNat - l.toNat))
  | _ => False
def slcOk (P : Program) (t : TypeId) (sz : Nat) : Bool :=
  match P.underlying t with
  | some (.slice e) => (P.info? e).map (·.size) == some sz
  | some .string => true
  | _ => false
def mOpds : Option Operand → Option Opd → Bool
  | none, none => true
  | some x, some y => mOpd x y
  | _, _ => false
def isnilV (neq : Bool) (x : AV) (k : AV → Prop) : Prop :=
  match x with
  | .fsl _ l => (l = [] → ∀ b, k (.v (.bool b))) ∧ (l ≠ [] → k (.v (.bool neq)))
  | .sref _ _ _ len => (len = 0 → ∀ b, k (.v (.bool b))) ∧ (len ≠ 0 → k (.v (.bool neq)))
  | _ => False
def eqLeaf : AV → AV → Bool
  | .v (.int _ a), .v (.int _ b) => a == b
  | .v (.string a), .v (.string b) => a.toList == b.toList
  | .v (.bool a), .v (.bool b) => a == b
  | _, _ => false
def eqRow : List AV → List AV → Bool
  | x :: xs, y :: ys => eqLeaf x y && eqRow xs ys
  | _, _ => true
def leaf1 (d : Nat) (p q : Value) : Prop :=
  match p, q with
  | .int k _, .int k' _ => d = 0 ∧ k = k'
  | .string _, .string _ => d = 1
  | .bool _, .bool _ => d = 2
  | _, _ => False
def leafOk : List Nat → List AV → List AV → Prop
  | [], xs, ys => xs = [] ∧ ys = []
  | d :: ds, x :: xs, y :: ys => (match x, y with | .v p, .v q => leaf1 d p q | _, _ => False) ∧ leafOk ds xs ys
  | _ :: _, _, _ => False
def kindT : Nat → Option TypeDesc → Bool
  | 0, some (.int _) => true
  | 1, some .string => true
  | 2, some .bool => true
  | _, _ => false
def kindOk (P : Program) : Nat → List Field → List Nat → Bool
  | off, [], [] => true
  | off, f :: fs, d :: ds => f.offset == off && (f.name != "_") && kindT d (P.underlying f.type) && kindOk P (off + 1) fs ds
  | _, _, _ => false
theorem leafOk_inv {d : Nat} {ds : List Nat} {xs ys : List AV} (h : leafOk (d :: ds) xs ys) : ∃ p q xs' ys', xs = .v p :: xs' ∧ ys = .v q :: ys' ∧ leafOk ds xs' ys' ∧
    ((d = 0 ∧ ∃ k a b, p = .int k a ∧ q = .int k b) ∨ (d = 1 ∧ ∃ a b, p = .string a ∧ q = .string b) ∨ (d = 2 ∧ ∃ a b, p = .bool a ∧ q = .bool b)) := by
  cases xs with
  | nil => exact h.elim
  | cons x xs =>
    cases ys with
    | nil => exact h.elim
    | cons y ys =>
      simp only [leafOk] at h
      obtain ⟨h1, h2⟩ := h
      split at h1
      · rename_i p q
        refine ⟨p, q, xs, ys, rfl, rfl, h2, ?_⟩
        unfold leaf1 at h1
        split at h1
        · obtain ⟨rfl, rfl⟩ := h1; exact .inl ⟨rfl, _, _, _, rfl, rfl⟩
        · exact .inr (.inl ⟨h1, _, _, rfl, rfl⟩)
        · exact .inr (.inr ⟨h1, _, _, rfl, rfl⟩)
        · exact h1.elim
      · exact h1.elim
theorem run_isAgg {P : Program} {t : TypeId} {d : TypeDesc} (hd : P.underlying t = some d) (w : World) : (isAgg t).run P w = .ok (isAggD d) w := by
  unfold isAgg; rw [Sem.run_bind, run_underlying hd w]; cases d <;> rfl
def arrOk (P : Program) (n : Nat) (e : TypeId) (ds : List Nat) : Bool :=
  ds == List.replicate n 0 && (match P.underlying e with | some (.int _) => true | _ => false) && (P.info? e).map (·.size) == some 1
def eqOk (P : Program) (t : TypeId) (ds : List Nat) : Bool :=
  match P.underlying t with
  | some (.struct fs) => kindOk P 0 fs.toList ds && !P.stoodInHeld t && !P.eqGuardType P.depth t
  | some (.array n e) => arrOk P n e ds && !P.eqGuardType P.depth t
  | _ => false
def eqaV (neq : Bool) (ds : List Nat) (x y : AV) (k : AV → Prop) : Prop :=
  match x, y with
  | .agg xs, .agg ys => leafOk ds xs ys ∧ k (.v (.bool (neq ^^ eqRow xs ys)))
  | _, _ => False
section
variable {P : Program} {o : Oper} {c : Ctx} {st : St} {a : Act} {w : World} {own : Nat → List Nat} {lo : List Nat}
theorem bnd_rep {Fz : Nat → Prop} {L : Locs} {d : Int} {x : Option Operand} {x' : Option Opd} (C : Core c st (tmOf a) w own lo) (hx : mOpds x x' = true) {n : Int} (h : bnd d (x'.map (rd st)) = some n) :
    (x.map a.eval = none ∧ n = d) ∨ ∃ kd, x.map a.eval = some (.int kd n) := by
  cases x with
  | none =>
    cases x' with
    | none => simp [bnd] at h; exact .inl ⟨rfl, h.symm⟩
    | some _ => simp [mOpds] at hx
  | some x =>
    cases x' with
    | none => simp [mOpds] at hx
    | some x' =>
      have rx := rd_rep C (x := x) (y := x') (by simpa [mOpds] using hx)
      simp only [Option.map_some, bnd] at h
      split at h
      · rename_i h'; simp at h'
      · rename_i kd m h'
        simp only [Option.some.injEq] at h' h
        subst h
        rw [h'] at rx
        exact .inr ⟨kd, by simp [repV_v rx]⟩
      · simp at h
theorem run_bounds {w' : World} {len cap l h : Nat} {lo hi : Option Value} (hlo : lo = none ∧ l = 0 ∨ ∃ kd, lo = some (.int kd l)) (hhi : hi = none ∧ h = len ∨ ∃ kd, hi = some (.int kd h)) (b : Bool) (h1 : l ≤ h) (h2 : h ≤ cap) :
    (Instr.sliceBounds b len cap lo hi none).run P w' = .ok (l, h, cap) w' := by
  have e1 : ∀ (kd : IntKind) (i y : Nat) (code : BoundsCode), i ≤ y → (Instr.sliceBound (.int kd i) y code).run P w' = .ok i w' := fun kd i y code hi => by
    have := run_sliceBound (P := P) w' kd i y code (by omega) (by omega)
    simpa using this
  rcases hlo with ⟨rfl, rfl⟩ | ⟨kl, rfl⟩ <;> rcases hhi with ⟨rfl, rfl⟩ | ⟨kh, rfl⟩ <;>
    simp [Instr.sliceBounds, e1 _ _ _ _ h1, e1 _ _ _ _ h2]
theorem toNat_of {x : Option Value} {n d : Int} {D : Nat} (hd : d = D) (hn : 0 ≤ n) (h : (x = none ∧ n = d) ∨ ∃ kd, x = some (.int kd n)) : (x = none ∧ n.toNat = D) ∨ ∃ kd, x = some (.int kd n.toNat) := by
  rcases h with ⟨h1, h2⟩ | ⟨kd, h⟩
  · exact .inl ⟨h1, by omega⟩
  · exact .inr ⟨kd, by rw [h]; congr 2; omega⟩
theorem q_slc (C : Core c st (tmOf a) w own lo) {t : TypeId} {sz : Nat} {x : Operand} {x' : Opd} {l h : Option Operand} {l' h' : Option Opd} (hx : mOpd x x' = true) (hl : mOpds l l' = true) (hh : mOpds h h' = true)
    (ho : o.op = .slice t x l h none) (hok : slcOk P t sz = true) {k : AV → Prop}
    (hs : ∀ s, rd st x' = .v (.string s) → P.underlying t = some .string) (hns : (∀ s, rd st x' ≠ .v (.string s)) → P.underlying t ≠ some .string)
    (H : slcV sz st (rd st x') (l'.map (rd st)) (h'.map (rd st)) k) : QRes P o c st a w own lo k := by
  have rx := rd_rep C hx
  have hex : ∀ w', (execOp a.eval o).run P w' = ((Instr.sliceAt t (a.eval x) (l.map a.eval) (h.map a.eval) none).run P w').andThen fun v w => .ok (.value v) w := by
    intro w'; simp [execOp, ho]
  have part : ∀ {d : Int} {F : Int → Int → Prop}, lhs (bnd 0 (l'.map (rd st))) (bnd d (h'.map (rd st))) F → ∃ i j, F i j ∧ ((l.map a.eval = none ∧ i = 0) ∨ ∃ kd, l.map a.eval = some (.int kd i)) ∧ ((h.map a.eval = none ∧ j = d) ∨ ∃ kd, h.map a.eval = some (.int kd j)) := by
    intro d F hF
    unfold lhs at hF
    split at hF
    · rename_i i j hi hj
      exact ⟨i, j, hF, bnd_rep (Fz := fun _ => True) (L := fun _ _ => none) C hl hi, bnd_rep (Fz := fun _ => True) (L := fun _ _ => none) C hh hj⟩
    · exact hF.elim
  unfold slcV at H
  split at H
  · rename_i s hb
    have hu := hs s hb
    rw [hb] at rx
    obtain ⟨i, j, ⟨h0, h1, h2, hk⟩, hi, hj⟩ := part H
    refine ⟨_, _, fun w' => fun _ => ?_, repV_scal rfl, hk⟩
    have hi' := toNat_of (D := 0) rfl h0 hi
    have hj' := toNat_of (D := s.size) rfl (by omega) hj
    rw [hex, run_sliceAt_string w' t _ _ _ _ hu, repV_v rx]
    simp [Instr.slice, run_underlying hu, run_bounds (P := P) (w' := w') hi' hj' false (by omega) (by omega : j.toNat ≤ s.size)]
  · rename_i sz' r hb
    have hns' := hns (by rw [hb]; simp)
    rw [hb] at rx
    obtain ⟨i, j, ⟨rfl, h0, h1, h2, hk⟩, hi, hj⟩ := part H
    have hi' := toNat_of (D := 0) rfl h0 hi
    have hj' := toNat_of (D := r.length) rfl (by omega) hj
    unfold slcOk at hok
    split at hok
    · rename_i e hu
      simp only [beq_iff_eq, Option.map_eq_some_iff] at hok
      obtain ⟨ti, hti, hsz⟩ := hok
      simp only [RepV, RepC] at rx
      obtain ⟨_, A, cp, hp, hcp, hrl⟩ := rx
      have hjl : j.toNat ≤ r.length := by omega
      have hij : i.toNat ≤ j.toNat := by omega
      have hlen : ((r.drop i.toNat).take (j.toNat - i.toNat)).length = j.toNat - i.toNat := by simp; omega
      refine ⟨.slice (if cp = i.toNat then A else A.map (·.add (i.toNat * sz'))) (j.toNat - i.toNat) (cp - i.toNat), _, fun w' _ => ?_, ?_, hk⟩
      · rw [hex, hp]
        simp [Instr.sliceAt, Instr.slice, run_underlying hu, run_bounds (P := P) (w' := w') hi' hj' true hij (by omega : j.toNat ≤ cp), sizeOf, typeInfo, hti, hsz]
      · simp only [RepV, RepC]
        refine ⟨trivial, _, _, by rw [hlen], by omega, ?_⟩
        by_cases he : j.toNat = i.toNat
        · exact .inl (by simp [he])
        · refine .inr ?_
          have hne : r ≠ [] := by intro e; subst e; simp at hjl; omega
          rcases hrl with hrl | ⟨g, hh0, xs, hA, hf, hrows, hat⟩
          · exact absurd hrl hne
          · have hci : ¬ cp = i.toNat := by omega
            obtain ⟨o1, o2, ho1, _, hr2⟩ := hrows.split i.toNat (by omega)
            obtain ⟨rfl, rfl⟩ : o1 = [] ∧ o2 = [] := by simpa using ho1.symm
            obtain ⟨o3, o4, ho2, hr3, _⟩ := hr2.split (j.toNat - i.toNat) (by simp; omega)
            obtain ⟨rfl, rfl⟩ : o3 = [] ∧ o4 = [] := by simpa using ho2.symm
            refine ⟨g, hh0 + i.toNat * sz', _, by simp [hci, hA, Addr.add_lit], hf, hr3, hat.drop _ _⟩
    · rename_i hu; exact absurd hu hns'
    · simp at hok
  · rename_i n p off len hb
    have hns' := hns (by rw [hb]; simp)
    rw [hb] at rx
    obtain ⟨i, j, ⟨hsz', h0, h1, h2, hk⟩, hi, hj⟩ := part H
    have hi' := toNat_of (D := 0) rfl h0 hi
    have hj' := toNat_of (D := len) rfl (by omega) hj
    unfold slcOk at hok
    split at hok
    · rename_i e hu
      simp only [beq_iff_eq, Option.map_eq_some_iff] at hok
      obtain ⟨ti, hti, hsz⟩ := hok
      simp only [RepV] at rx
      obtain ⟨_, s, z, hloc, hbx, hle, hwin⟩ := rx
      obtain ⟨av, oo, hg, hw, hsh, hrep, hsub⟩ := loc_spot C hloc
      rw [hg] at hsz'
      have hss : s.sz = sz := by cases av <;> simp [shapeOf] at hsh hsz'; subst hsh; exact hsz'
      have hij : i.toNat ≤ j.toNat := by omega
      have hrun : ∀ A cx w', a.eval x = .slice A len cx → len ≤ cx → (execOp a.eval o).run P w' = .ok (.value (.slice (if cx = i.toNat then A else A.map (·.add (i.toNat * sz))) (j.toNat - i.toNat) (cx - i.toNat))) w' := by
        intro A cx w' hp hc
        rw [hex, hp]
        simp [Instr.sliceAt, Instr.slice, run_underlying hu, run_bounds (P := P) (w' := w') hi' hj' true hij (by omega : j.toNat ≤ cx), sizeOf, typeInfo, hti, hsz]
      rcases hwin with ⟨hz, hx', hoff, hlen⟩ | ⟨g, b, n', cp, kk, cx, hz, hx', hlc, hkc, hko⟩
      · subst hlen hoff
        have hi0 : i.toNat = 0 := by omega
        have hj0 : j.toNat = 0 := by omega
        refine ⟨_, _, fun w' _ => hrun _ _ w' hx' (Nat.le_refl _), ?_, hk⟩
        simp only [RepV]
        exact ⟨trivial, s, z, hloc, hbx, by omega, .inl ⟨hz, by simp [hi0, hj0], by omega, by omega⟩⟩
      · refine ⟨_, _, fun w' _ => hrun _ _ w' hx' hlc, ?_, hk⟩
        simp only [RepV]
        refine ⟨trivial, s, z, hloc, hbx, by omega, .inr ?_⟩
        by_cases hci : cx = i.toNat
        · refine ⟨g, b, n', cp, kk, cx - i.toNat, hz, by simp [hci], by omega, by omega, ?_⟩
          by_cases hi00 : i.toNat = 0
          · rcases hko with ⟨h, h'⟩ | ⟨h0, h, h'⟩
            · exact .inl ⟨by omega, by omega⟩
            · exact .inr ⟨by omega, by omega, by omega⟩
          · exact .inr ⟨by omega, by omega, by omega⟩
        · refine ⟨g, b, n', cp, kk + i.toNat, cx - i.toNat, hz, ?_, by omega, by omega, ?_⟩
          · simp [hci, Addr.add_lit, Nat.add_mul, Nat.add_assoc, hss]
          · rcases hko with ⟨h, h'⟩ | ⟨h0, h, h'⟩
            · exact .inl ⟨by omega, by omega⟩
            · omega
    · rename_i hu; exact absurd hu hns'
    · simp at hok
  · exact H.elim
theorem q_isnil (C : Core c st (tmOf a) w own lo) {t t' : TypeId} {x : Operand} {x' : Opd} {neq : Bool} (hx : mOpd x x' = true) (ho : o.op = .binOp (if neq then .neq else .eql) t x (.const (.slice none 0 0)) t')
    (hu : ∃ e, P.underlying t = some (.slice e)) {k : AV → Prop} (h : isnilV neq (rd st x') k) : QRes P o c st a w own lo k := by
  obtain ⟨e, hu⟩ := hu
  have rx := rd_rep C hx
  have hrun : ∀ A n cp w', a.eval x = .slice A n cp → (execOp a.eval o).run P w' = .ok (.value (.bool (neq ^^ A.isNone))) w' := by
    intro A n cp w' hp
    have e0 : ∀ op, (eqGuard op t x (.const (.slice none 0 0)) (.slice A n cp) (.slice none 0 0)).run P w' = .ok () w' := by intro op; cases op <;> rfl
    have e2 : ∀ d : Nat, (Op.equalIn (d + 1) t (.slice A n cp) (.slice none 0 0)).run P w' = .ok A.isNone w' := by
      intro d; cases A <;> simp [Op.equalIn, run_underlying hu]
    have e1 : (Op.equal t (.slice A n cp) (.slice none 0 0)).run P w' = .ok A.isNone w' := e2 9999
    have ec : a.eval (.const (.slice none 0 0)) = .slice none 0 0 := rfl
    cases neq <;> simp [execOp, ho, hp, ec, e0, binOp, e1]
  unfold isnilV at h
  split at h
  · rename_i sz l hb
    rw [hb] at rx
    simp only [RepV, RepC] at rx
    obtain ⟨_, A, cp, hp, _, hl⟩ := rx
    refine ⟨_, .v (.bool (neq ^^ A.isNone)), fun w' _ => hrun A _ cp w' hp, repV_scal rfl, ?_⟩
    by_cases hne : l = []
    · exact h.1 hne _
    · rcases hl with hl | ⟨g, hh, xs, rfl, _⟩
      · exact absurd hl hne
      · simpa using h.2 hne
  · rename_i n p off len hb
    rw [hb] at rx
    simp only [RepV] at rx
    obtain ⟨_, s, y, _, _, _, hw⟩ := rx
    rcases hw with ⟨_, hx', _, hlen⟩ | ⟨g, b, n', cp, kk, cx, _, hx', _⟩
    · exact ⟨_, _, fun w' _ => hrun _ _ _ w' hx', repV_scal rfl, h.1 hlen _⟩
    · refine ⟨_, _, fun w' _ => hrun _ _ _ w' hx', repV_scal rfl, ?_⟩
      by_cases hne : len = 0
      · exact h.1 hne _
      · simpa using h.2 hne
  · exact h.elim
theorem run_eqFields {w w' : World} {Fz : Nat → Prop} {L : Locs} {X Y : Array Value} (D : Nat) : ∀ (fs : List Field) (ds : List Nat) (off : Nat) (xs ys : List AV) (vx vy : List Value), kindOk P off fs ds = true → leafOk ds xs ys →
    RepVs w Fz L xs vx [] → RepVs w Fz L ys vy [] → (∀ j z, vx[j]? = some z → X[off + j]? = some z) → (∀ j z, vy[j]? = some z → Y[off + j]? = some z) → (Op.eqFields (D + 1) X Y fs).run P w' = .ok (eqRow xs ys) w'
  | [], [], off, xs, ys, vx, vy, hk, hl, hx, hy, hX, hY => by
    simp only [leafOk] at hl
    rw [hl.1, hl.2]
    simp [Op.eqFields, eqRow]
  | [], d :: ds, off, xs, ys, vx, vy, hk, hl, hx, hy, hX, hY => by simp [kindOk] at hk
  | f :: fs, [], off, xs, ys, vx, vy, hk, hl, hx, hy, hX, hY => by simp [kindOk] at hk
  | f :: fs, d :: ds, off, xs, ys, vx, vy, hk, hl, hx, hy, hX, hY => by
    simp only [kindOk, Bool.and_eq_true, beq_iff_eq, bne_iff_ne] at hk
    obtain ⟨⟨⟨hoff, hname⟩, hkind⟩, hk⟩ := hk
    obtain ⟨p, q, xs', ys', rfl, rfl, hl', hd⟩ := leafOk_inv hl
    simp only [RepVs] at hx hy
    obtain ⟨vx0, vx', o1, o2, hvx, ho12, hx0, hxr⟩ := hx
    obtain ⟨vy0, vy', o3, o4, hvy, ho34, hy0, hyr⟩ := hy
    obtain ⟨rfl, rfl⟩ : o1 = [] ∧ o2 = [] := by simpa using ho12.symm
    obtain ⟨rfl, rfl⟩ : o3 = [] ∧ o4 = [] := by simpa using ho34.symm
    subst hvx hvy
    obtain rfl := repV_v hx0
    obtain rfl := repV_v hy0
    have c1 := hX 0 _ (by simp; rfl)
    have c2 := hY 0 _ (by simp; rfl)
    have ih := run_eqFields (w' := w') D fs ds (off + 1) xs' ys' vx' vy' hk hl' hxr hyr (fun j z hz => by have := hX (j + 1) z (by simpa using hz); rwa [show off + (j + 1) = off + 1 + j from by omega] at this) (fun j z hz => by have := hY (j + 1) z (by simpa using hz); rwa [show off + (j + 1) = off + 1 + j from by omega] at this)
    simp only [Nat.add_zero] at c1 c2
    have fin : (isAgg f.type).run P w' = .ok false w' → (Op.equalIn (D + 1) f.type vx0 vy0).run P w' = .ok (eqLeaf (.v vx0) (.v vy0)) w' → (Op.eqFields (D + 1) X Y (f :: fs)).run P w' = .ok (eqRow (.v vx0 :: xs') (.v vy0 :: ys')) w' := by
      intro hagg heq
      simp only [Op.eqFields, hname, ne_eq, not_false_eq_true, if_true, Sem.run_bind, part, hagg, Result.andThen_ok, Bool.false_eq_true, if_false, hoff, c1, c2, Sem.run_pure, heq, eqRow]
      cases h0 : eqLeaf (.v vx0) (.v vy0)
      · simp
      · simp [ih]
    rcases hd with ⟨rfl, k, A, B, rfl, rfl⟩ | ⟨rfl, A, B, rfl, rfl⟩ | ⟨rfl, A, B, rfl, rfl⟩
    · cases hu : P.underlying f.type with
      | none => rw [hu] at hkind; cases hkind
      | some d' =>
        rw [hu] at hkind
        cases d' <;> first | cases hkind | skip
        exact fin (run_isAgg hu w') (run_equalIn_int w' D f.type k _ A B hu)
    · cases hu : P.underlying f.type with
      | none => rw [hu] at hkind; cases hkind
      | some d' =>
        rw [hu] at hkind
        cases d' <;> first | cases hkind | skip
        exact fin (run_isAgg hu w') (run_equalIn_string w' D f.type A B hu)
    · cases hu : P.underlying f.type with
      | none => rw [hu] at hkind; cases hkind
      | some d' =>
        rw [hu] at hkind
        cases d' <;> first | cases hkind | skip
        exact fin (run_isAgg hu w') (run_equalIn_bool' w' D f.type A B hu)
theorem run_eqItems_int {w w' : World} {Fz : Nat → Prop} {L : Locs} {X Y : Array Value} (D : Nat) {e : TypeId} {kk : IntKind} (he : P.underlying e = some (.int kk)) : ∀ (n off : Nat) (xs ys : List AV) (vx vy : List Value), leafOk (List.replicate n 0) xs ys →
    RepVs w Fz L xs vx [] → RepVs w Fz L ys vy [] → (∀ j z, vx[j]? = some z → X[off + j]? = some z) → (∀ j z, vy[j]? = some z → Y[off + j]? = some z) → (Op.eqItems (D + 1) e 1 X Y (List.range' off n)).run P w' = .ok (eqRow xs ys) w'
  | 0, off, xs, ys, vx, vy, hl, hx, hy, hX, hY => by
    simp only [List.replicate_zero, leafOk] at hl
    rw [hl.1, hl.2]
    simp [Op.eqItems, eqRow]
  | n + 1, off, xs, ys, vx, vy, hl, hx, hy, hX, hY => by
    rw [List.replicate_succ] at hl
    obtain ⟨p, q, xs', ys', rfl, rfl, hl', hd⟩ := leafOk_inv hl
    simp only [RepVs] at hx hy
    obtain ⟨vx0, vx', o1, o2, hvx, ho12, hx0, hxr⟩ := hx
    obtain ⟨vy0, vy', o3, o4, hvy, ho34, hy0, hyr⟩ := hy
    obtain ⟨rfl, rfl⟩ : o1 = [] ∧ o2 = [] := by simpa using ho12.symm
    obtain ⟨rfl, rfl⟩ : o3 = [] ∧ o4 = [] := by simpa using ho34.symm
    subst hvx hvy
    obtain rfl := repV_v hx0
    obtain rfl := repV_v hy0
    have c1 := hX 0 _ (by simp; rfl)
    have c2 := hY 0 _ (by simp; rfl)
    have ih := run_eqItems_int (w' := w') D he n (off + 1) xs' ys' vx' vy' hl' hxr hyr (fun j z hz => by have := hX (j + 1) z (by simpa using hz); rwa [show off + (j + 1) = off + 1 + j from by omega] at this) (fun j z hz => by have := hY (j + 1) z (by simpa using hz); rwa [show off + (j + 1) = off + 1 + j from by omega] at this)
    simp only [Nat.add_zero] at c1 c2
    have hagg : (isAgg e).run P w' = .ok false w' := run_isAgg he w'
    rcases hd with ⟨_, k, A, B, rfl, rfl⟩ | ⟨hd, _⟩ | ⟨hd, _⟩
    · have heq := run_equalIn_int (P := P) w' D e k _ A B he
      rw [List.range'_succ]
      have c1' : X[off * 1]? = some (Value.int k A) := by rw [Nat.mul_one]; exact c1
      have c2' : Y[off * 1]? = some (Value.int k B) := by rw [Nat.mul_one]; exact c2
      simp only [Op.eqItems, Sem.run_bind, part, hagg, Result.andThen_ok, Bool.false_eq_true, if_false, c1', c2', Sem.run_pure, heq, eqRow, eqLeaf]
      cases h0 : (A == B)
      · simp
      · simp [ih]
    · cases hd
    · cases hd
theorem run_binOp_agg {w' : World} {t : TypeId} {X Y : Array Value} {b neq : Bool} (h : ∀ D, (Op.equalIn (D + 1 + 1) t (.agg X) (.agg Y)).run P w' = .ok b w') :
    (binOp (if neq then .neq else .eql) t (.agg X) (.agg Y)).run P w' = .ok (.bool (neq ^^ b)) w' := by
  have h' := h 9998
  cases neq
  · rw [if_neg (by simp), run_eql_struct, h']; simp
  · rw [if_pos rfl, run_neq_struct, h']; simp
theorem q_eqa (C : Core c st (tmOf a) w own lo) {t t' : TypeId} {x y : Operand} {x' y' : Opd} {neq : Bool} {ds : List Nat} (hx : mOpd x x' = true) (hy : mOpd y y' = true) (ho : o.op = .binOp (if neq then .neq else .eql) t x y t')
    (hok : eqOk P t ds = true) {k : AV → Prop} (h : eqaV neq ds (rd st x') (rd st y') k) : QRes P o c st a w own lo k := by
  have rx := rd_rep C hx
  have ry := rd_rep C hy
  unfold eqOk at hok
  unfold eqaV at h
  split at h
  rotate_left
  · exact h.elim
  rename_i xs ys hxs hys
  rw [hxs] at rx
  rw [hys] at ry
  simp only [RepV] at rx ry
  obtain ⟨vx, hvx, hx⟩ := rx
  obtain ⟨vy, hvy, hy⟩ := ry
  refine ⟨.bool (neq ^^ eqRow xs ys), _, fun w' _ => ?_, repV_scal rfl, h.2⟩
  split at hok
  · rename_i fs hu
    simp only [Bool.and_eq_true, Bool.not_eq_true'] at hok
    obtain ⟨⟨hkind, hst⟩, hgt⟩ := hok
    have hfo : P.fieldsOf t = fs := by simp [Program.fieldsOf, hu]
    have e1 : ∀ D, (Op.equalIn (D + 1 + 1) t (.agg vx.toArray) (.agg vy.toArray)).run P w' = .ok (eqRow xs ys) w' := by
      intro D
      rw [run_equalIn_struct (P := P) w' (D + 1) t vx.toArray vy.toArray (by rw [hfo]; exact hu) hst, hfo]
      exact run_eqFields (P := P) (w' := w') (X := vx.toArray) (Y := vy.toArray) D fs.toList ds 0 xs ys vx vy hkind h.1 hx hy (by intro j z hz; simpa using hz) (by intro j z hz; simpa using hz)
    have e2 := run_binOp_agg (neq := neq) e1
    have g := fun op => run_eqGuard_agg (P := P) w' op t x y vx.toArray vy.toArray hgt
    simp [execOp, ho, hvx, hvy, g, e2]
  · rename_i n e hu
    simp only [arrOk, Bool.and_eq_true, Bool.not_eq_true', beq_iff_eq] at hok
    obtain ⟨⟨⟨rfl, hi⟩, hs⟩, hgt⟩ := hok
    cases hinf : P.info? e with
    | none => rw [hinf] at hs; simp at hs
    | some i =>
      rw [hinf] at hs
      have hs1 : i.size = 1 := by simpa using hs
      have hc1 : P.cellsOf e = 1 := by simp [Program.cellsOf, hinf, hs1]
      have hiu : ∃ kk, P.underlying e = some (.int kk) := by
        cases hu2 : P.underlying e with
        | none => rw [hu2] at hi; cases hi
        | some d => rw [hu2] at hi; cases d <;> first | exact ⟨_, rfl⟩ | cases hi
      obtain ⟨kk, hek⟩ := hiu
      have e1 : ∀ D, (Op.equalIn (D + 1 + 1) t (.agg vx.toArray) (.agg vy.toArray)).run P w' = .ok (eqRow xs ys) w' := by
        intro D
        rw [run_equalIn_array (P := P) (w := w') (D + 1) vx.toArray vy.toArray hu hinf, hc1, List.range_eq_range']
        exact run_eqItems_int (P := P) (w' := w') (X := vx.toArray) (Y := vy.toArray) D hek n 0 xs ys vx vy h.1 hx hy (by intro j z hz; simpa using hz) (by intro j z hz; simpa using hz)
      have e2 := run_binOp_agg (neq := neq) e1
      have g := fun op => run_eqGuard_agg (P := P) w' op t x y vx.toArray vy.toArray hgt
      simp [execOp, ho, hvx, hvy, g, e2]
  · cases hok
theorem mOpdL_rep (C : Core c st (tmOf a) w own lo) : ∀ (xs : List Operand) (ys : List Opd), (xs.length == ys.length && (xs.zip ys).all fun p => mOpd p.1 p.2) = true →
    RepVs w (frz c w (owned own lo)) (locs st (tmOf a) w) (ys.map (rd st)) (xs.map a.eval) []
  | [], [], _ => by simp [RepVs]
  | [], y :: ys, h => by simp at h
  | x :: xs, [], h => by simp at h
  | x :: xs, y :: ys, h => by
    simp only [List.length_cons, Nat.add_eq, Bool.and_eq_true, beq_iff_eq, List.zip_cons_cons, List.all_cons] at h
    simp only [List.map_cons, RepVs]
    refine ⟨_, _, [], [], rfl, rfl, rd_rep C h.2.1, mOpdL_rep C xs ys ?_⟩
    simp only [Bool.and_eq_true, beq_iff_eq]
    exact ⟨by omega, h.2.2⟩
theorem q_mkf (C : Core c st (tmOf a) w own lo) {f : Nat} {xs : List Operand} {ys : List Opd} (hx : (xs.length == ys.length && (xs.zip ys).all fun p => mOpd p.1 p.2) = true) (ho : o.op = .makeFunc (.func f) #[] xs.toArray) {k : AV → Prop}
    (h : k (.clo f (ys.map (rd st)))) : QRes P o c st a w own lo k := by
  refine ⟨.func (.func f) #[] (xs.map a.eval).toArray, _, fun w' _ => ?_, ?_, h⟩
  · simp [execOp, ho, Instr.makeFunc]
  · simp only [RepV]; exact ⟨_, rfl, mOpdL_rep C xs ys hx⟩
end
end Go.AM
namespace Go.AM
set_option linter.unusedVariables false
set_option linter.unusedSimpArgs false
def takeK (n : Nat) (p : List (Nat × Nat)) : Nat → List (Nat × Nat) → Bool := fun m q => m == n && p.isPrefixOf q
def keepK (n : Nat) (p : List (Nat × Nat)) : Nat → List (Nat × Nat) → Bool := fun m q => m == n && p.isPrefixOf q && !q.isPrefixOf p
def takeS (n : Nat) (p : List (Nat × Nat)) (st : St) : St := fun k => killV (takeK n p) (upd st n (setC (st n) p .dead) k)
def setS (n : Nat) (p : List (Nat × Nat)) (av : AV) (st : St) : St := fun k => killV (keepK n p) (upd st n (setC (st n) p av) k)
mutual
def plain : AV → Bool
  | .v _ => true
  | .fsl .. => true
  | .fptr _ => true
  | .agg l => plains l
  | .clo _ l => plains l
  | .tup l => false
  | .usl .. => false
  | .box .. => false
  | .ref .. => false
  | .sref .. => false
  | .dead => false
def plains : List AV → Bool
  | [] => true
  | c :: cs => plain c && plains cs
end
def takeO (st : St) : AV → Option (AV × St)
  | .sref m p off len => match getC (st m) p with
    | some (.usl e sz l) => some (.usl e sz ((l.drop off).take len), takeS m p st)
    | _ => none
  | .ref m p i k => match getC (st m) p with
    | some (.box e cs) => if i = 0 ∧ k = 0 then some (.box e cs, takeS m p st) else none
    | _ => none
  | av => if plain av then some (av, st) else none
def aggAt (av : AV) (k : Nat) : AV :=
  match av with
  | .agg l => (l[k]?).getD .dead
  | _ => .dead
def pullA (n : Nat) : List AV → Nat → St → Option (List AV × St)
  | [], _, st => some ([], st)
  | _ :: r, k, st => match takeO st (aggAt (st n) k) with
    | some (av, st1) => (pullA n r (k + 1) st1).map fun q => (av :: q.1, q.2)
    | none => none
def ownA (st : St) (n : Nat) (av : AV) : Option (AV × St) :=
  match av with
  | .agg l => (pullA n l 0 st).map fun q => (.agg q.1, q.2)
  | _ => none
def ownO (st : St) : Opd → Option (AV × St)
  | .t n => match st n with
    | .sref m p off len => match getC (st m) p with
      | some (.usl e sz l) => some (.usl e sz ((l.drop off).take len), takeS m p st)
      | _ => none
    | .ref m p i k => match getC (st m) p with
      | some (.box e cs) => if i = 0 ∧ k = 0 then some (.box e cs, takeS m p st) else none
      | _ => none
    | av => if bare av then (if plain av then some (av, st) else ownA st n av) else some (killV (dropK n) av, dropS n st)
  | .c v => some (.v v, st)
  | .nils e sz => some (.usl e sz [], st)
  | .fn f => some (.clo f [], st)
theorem core_take {c : Ctx} {st : St} {tm : Nat → Value} {w : World} {own : Nat → List Nat} {lo : List Nat} (C : Core c st tm w own lo) {n : Nat} {p : List (Nat × Nat)} {av : AV} {y : Value}
    (hw : walk w (st n) (tm n) p = some (av, y)) (ho : isOwner av = true) :
    ∃ own' o, Core c (takeS n p st) tm w own' (lo ++ o) ∧ RepC w (frz c w (owned own lo)) av y o ∧ (∀ b, owned own' (lo ++ o) b ↔ owned own lo b) := by
  obtain ⟨o, hr, hn, hd, hO, hwalk, H⟩ := C.mod hw ho
  have hX : ∀ b, modOwned own lo o [] (lo ++ o) b ↔ owned own lo b := by
    intro b
    simp only [modOwned, List.mem_append, List.not_mem_nil, false_or]
    constructor
    · rintro ((h | h) | h)
      · exact .inr h
      · exact hO b h
      · exact h.1
    · intro h
      by_cases h1 : b ∈ lo
      · exact .inl (.inl h1)
      · by_cases h2 : b ∈ o
        · exact .inl (.inr h2)
        · exact .inr ⟨h, h2, h1⟩
  obtain ⟨own', C', hX'⟩ := H w .dead [] (lo ++ o) (takeK n p) (Ext.refl _ _) (by simp)
    (List.nodup_append.2 ⟨C.lnd, hn, fun a ha b hb e => hd b hb (e ▸ ha)⟩) (by simp)
    (fun b hb => by
      simp only [List.not_mem_nil, false_or, List.mem_append] at hb
      rcases hb with hb | hb
      · exact ⟨.inr (.inl hb), (C.old b (.inr hb)).2⟩
      · exact ⟨.inl hb, (C.old b (hO b hb)).2⟩)
    (by simp only [RepC]; exact ⟨hr.one, trivial⟩)
    (fun q r hK hq => by
      have := (hwalk w .dead (Ext.refl _ _)).1 q (by
        intro hh
        rw [← List.isPrefixOf_iff_prefix] at hh
        simp [takeK, hh] at hK)
      rw [this]; exact hq)
  exact ⟨own', o, C', hr, fun b => (hX' b).trans (hX b)⟩
theorem frz_congr {c : Ctx} {w : World} {X X' : Nat → Prop} (h : ∀ b, X' b ↔ X b) : frz c w X' = frz c w X := by
  funext b
  simp only [frz, h b]
theorem win_usl {w : World} {Fz : Nat → Prop} {e sz : Nat} {l : List (List AV)} {y x : Value} {o : List Nat} {off len : Nat} (h : RepC w Fz (.usl e sz l) y o) (hl : off + len ≤ l.length) (hw : Win sz y off len x) :
    ∃ o', RepC w Fz (.usl e sz ((l.drop off).take len)) x o' ∧ (∀ b ∈ o', b ∈ o) ∧ (o.Nodup → o'.Nodup) := by
  have hlen : ((l.drop off).take len).length = len := by simp; omega
  simp only [RepC] at h
  rcases hw with ⟨h1, h2, rfl, rfl⟩ | ⟨g, b, n, cp, k, cx, hy, hx, hlc, hkc, hko⟩
  · exact ⟨[], by simp only [RepC]; exact .inl ⟨h2, by simp, trivial⟩, by simp, by simp⟩
  · rcases h with ⟨h1, _⟩ | ⟨g', hh, cp', cur, xs, o', hy', ho, hg, hcp, hsz, hrep, hat⟩
    · rw [h1] at hy; simp at hy
    · rw [hy'] at hy
      simp only [Value.slice.injEq, Option.some.injEq, Addr.mk.injEq, and_true] at hy
      obtain ⟨⟨rfl, rfl⟩, rfl, rfl⟩ := hy
      obtain ⟨o1, o2, ho1, _, hr2⟩ := hrep.split off (by omega)
      obtain ⟨o3, o4, ho2, hr3, _⟩ := hr2.split len (by simp; omega)
      subst ho ho1 ho2
      refine ⟨g' :: o3, ?_, ?_, ?_⟩
      · simp only [RepC]
        refine .inr ⟨g', hh + k, cx, cur, _, o3, by rw [hlen, hx, Nat.add_mul], rfl, hg, by rw [hlen]; exact hlc, ?_, hr3, ?_⟩
        · refine Nat.le_trans (Nat.mul_le_mul_right _ ?_) hsz; omega
        · rcases hko with ⟨rfl, _⟩ | ⟨_, rfl, rfl⟩
          · rw [Nat.add_mul]; exact hat.drop _ _
          · simp [At]
      · intro b hb
        rcases List.mem_cons.1 hb with rfl | hb
        · simp
        · simp [hb]
      · intro hn
        have := List.nodup_cons.1 hn
        rw [List.nodup_append] at this
        obtain ⟨h1, h2, h3, _⟩ := this
        rw [List.nodup_append] at h3
        exact List.nodup_cons.2 ⟨fun hm => h1 (by simp [hm]), h3.1⟩
theorem own_sref {c : Ctx} {st : St} {tm : Nat → Value} {w : World} {own : Nat → List Nat} {lo : List Nat} (C : Core c st tm w own lo) {n : Nat} {p : List (Nat × Nat)} {off len : Nat} {x : Value} {e sz : Nat} {l : List (List AV)}
    (hr : RepV w (frz c w (owned own lo)) (locs st tm w) (.sref n p off len) x []) (hg : getC (st n) p = some (.usl e sz l)) :
    ∃ own' lo1, Core c (takeS n p st) tm w own' (lo ++ lo1) ∧ RepC w (frz c w (owned own' (lo ++ lo1))) (.usl e sz ((l.drop off).take len)) x lo1 ∧ off + len ≤ l.length ∧ ∀ b, owned own' (lo ++ lo1) b → owned own lo b := by
  simp only [RepV] at hr
  obtain ⟨_, s, y, hloc, hbx, hle, hwin⟩ := hr
  obtain ⟨av, oo, hg', hw, hsh, hrep, hsub⟩ := loc_spot C hloc
  rw [hg] at hg'
  obtain rfl := Option.some.inj hg'
  simp only [shapeOf, Option.some.injEq] at hsh
  subst hsh
  obtain ⟨own', o, C', hrep', hX⟩ := core_take C hw rfl
  obtain ⟨o', hr', hsub', hnd'⟩ := win_usl hrep' hle hwin
  have hno : o.Nodup := (List.nodup_append.1 C'.lnd).2.1
  have C2 := C'.world (lo' := lo ++ o') (Ext.refl w _) (List.nodup_append.2 ⟨(List.nodup_append.1 C'.lnd).1, hnd' hno, fun a ha b hb => (List.nodup_append.1 C'.lnd).2.2 a ha b (hsub' b hb)⟩)
    (fun b hb => by
      rcases List.mem_append.1 hb with h | h
      · exact ⟨.inl (by simp [h]), (C'.old b (.inr (by simp [h]))).2⟩
      · exact ⟨.inl (by simp [hsub' b h]), (C'.old b (.inr (by simp [hsub' b h]))).2⟩)
  have hX2 : ∀ b, owned own' (lo ++ o') b → owned own lo b := by
    intro b hx
    rw [← hX]
    rcases hx with ⟨k, hk⟩ | hx
    · exact .inl ⟨k, hk⟩
    · rcases List.mem_append.1 hx with h | h
      · exact .inr (by simp [h])
      · exact .inr (by simp [hsub' b h])
  refine ⟨own', o', C2, ?_, hle, hX2⟩
  refine hr'.keep _ _ _ ⟨fun b hb => ⟨⟨hb.1, hb.2.1, fun hx => hb.2.2 ?_⟩, rfl⟩, fun _ _ => rfl⟩
  rw [← hX]
  rcases hx with ⟨k, hk⟩ | hx
  · exact .inl ⟨k, hk⟩
  · rcases List.mem_append.1 hx with h | h
    · exact .inr (by simp [h])
    · exact .inr (by simp [hsub' b h])
theorem own_ref {c : Ctx} {st : St} {tm : Nat → Value} {w : World} {own : Nat → List Nat} {lo : List Nat} (C : Core c st tm w own lo) {n : Nat} {p : List (Nat × Nat)} {x : Value} {e : Nat} {cs : List AV}
    (hr : RepV w (frz c w (owned own lo)) (locs st tm w) (.ref n p 0 0) x []) (hg : getC (st n) p = some (.box e cs)) :
    ∃ own' lo1, Core c (takeS n p st) tm w own' (lo ++ lo1) ∧ RepC w (frz c w (owned own' (lo ++ lo1))) (.box e cs) x lo1 ∧ ∀ b, owned own' (lo ++ lo1) b → owned own lo b := by
  simp only [RepV] at hr
  obtain ⟨_, s, y, b, f, hloc, hadr, _, _, hx⟩ := hr
  obtain ⟨av, oo, hg', hw, hsh, hrep, hsub⟩ := loc_spot C hloc
  rw [hg] at hg'
  obtain rfl := Option.some.inj hg'
  obtain ⟨own', o, C', hrep', hX⟩ := core_take C hw rfl
  have hyx : x = y := by
    have h := hrep'
    simp only [RepC] at h
    obtain ⟨g, xs, o', hy, _⟩ := h
    rw [hy] at hadr
    simp only [addrOf, Option.some.injEq, Prod.mk.injEq] at hadr
    rw [hx, hy, ← hadr.1, ← hadr.2]
    simp
  refine ⟨own', o, C', ?_, fun b hb => (hX b).1 hb⟩
  rw [frz_congr hX, hyx]
  exact hrep'
mutual
theorem plain_rep {w w' : World} {Fz Fz' : Nat → Prop} {L L' : Locs} : ∀ (av : AV) {x : Value} {o : List Nat}, RepV w Fz L av x o → plain av = true → Agree w w' Fz Fz' [] → RepV w' Fz' L' av x []
  | .agg l, x, o, h, hp, ag => by
    simp only [RepV] at h ⊢; obtain ⟨xs, hx, h⟩ := h
    exact ⟨xs, hx, plains_rep l h (by simpa [plain] using hp) ag⟩
  | .clo f l, x, o, h, hp, ag => by
    simp only [RepV] at h ⊢; obtain ⟨xs, hx, h⟩ := h
    exact ⟨xs, hx, plains_rep l h (by simpa [plain] using hp) ag⟩
  | .v _, x, o, h, hp, ag => by have := bare_own _ h rfl; subst this; simp only [RepV] at h ⊢; exact h.keep _ _ _ ag
  | .fsl _ _, x, o, h, hp, ag => by have := bare_own _ h rfl; subst this; simp only [RepV] at h ⊢; exact h.keep _ _ _ ag
  | .fptr _, x, o, h, hp, ag => by have := bare_own _ h rfl; subst this; simp only [RepV] at h ⊢; exact h.keep _ _ _ ag
  | .tup _, x, o, h, hp, ag => by simp [plain] at hp
  | .usl _ _ _, x, o, h, hp, ag => by simp [plain] at hp
  | .box _ _, x, o, h, hp, ag => by simp [plain] at hp
  | .ref _ _ _ _, x, o, h, hp, ag => by simp [plain] at hp
  | .sref _ _ _ _, x, o, h, hp, ag => by simp [plain] at hp
  | .dead, x, o, h, hp, ag => by simp [plain] at hp
theorem plains_rep {w w' : World} {Fz Fz' : Nat → Prop} {L L' : Locs} : ∀ (l : List AV) {xs : List Value} {o : List Nat}, RepVs w Fz L l xs o → plains l = true → Agree w w' Fz Fz' [] → RepVs w' Fz' L' l xs []
  | [], xs, o, h, hp, ag => by simp only [RepVs] at h ⊢; exact ⟨h.1, trivial⟩
  | c :: cs, xs, o, h, hp, ag => by
    simp only [RepVs] at h ⊢
    obtain ⟨x, xs', o1, o2, hx, ho, hc, hr⟩ := h
    simp only [plains, Bool.and_eq_true] at hp
    exact ⟨x, xs', [], [], hx, rfl, plain_rep c hc hp.1 ag, plains_rep cs hr hp.2 ag⟩
end
theorem Agree.rfl' {w : World} {Fz : Nat → Prop} {o : List Nat} : Agree w w Fz Fz o := ⟨fun _ h => ⟨h, rfl⟩, fun _ _ => rfl⟩
theorem core_pull {c : Ctx} {st : St} {tm : Nat → Value} {w : World} {own : Nat → List Nat} {lo : List Nat} (C : Core c st tm w own lo) (n : Nat) :
    ∃ own', Core c (dropS n st) tm w own' (lo ++ own n) ∧ RepV w (frz c w (owned own' (lo ++ own n))) (locs (dropS n st) tm w) (killV (dropK n) (st n)) (tm n) (own n) ∧ ∀ b, owned own' (lo ++ own n) b → owned own lo b := by
  have hX : ∀ b, owned (upd own n []) (lo ++ own n) b ↔ owned own lo b := by
    intro b
    constructor
    · rintro (⟨k, hk⟩ | hb)
      · by_cases h : k = n
        · simp [upd, h] at hk
        · exact .inl ⟨k, by simpa [upd, h] using hk⟩
      · rcases List.mem_append.1 hb with h | h
        · exact .inr h
        · exact .inl ⟨n, h⟩
    · rintro (⟨k, hk⟩ | hb)
      · by_cases h : k = n
        · subst h; exact .inr (by simp [hk])
        · exact .inl ⟨k, by simpa [upd, h] using hk⟩
      · exact .inr (by simp [hb])
  have hF := frz_congr (c := c) (w := w) hX
  have hL : ∀ m p r, dropK n m p = false → locs st tm w m p = some r → locs (dropS n st) tm w m p = some r := by
    intro m p r hK hl
    have hn : m ≠ n := by simpa [dropK] using hK
    simp only [locs, dropS, walkSh_kill, upd, hn, if_false]
    exact hl
  refine ⟨upd own n [], ⟨C.fr, ?_, ?_, ?_, ?_, ?_, ?_⟩, ?_⟩
  · intro k
    rw [hF]
    by_cases h : k = n
    · simp [dropS, upd, h, killV, RepV]
    · simp only [dropS, upd, h, if_false]
      exact (C.rep k).keep hL _ _ _ Agree.rfl'
  · intro k; by_cases h : k = n
    · simp [upd, h]
    · simpa [upd, h] using C.nd k
  · intro j k hjk b hb
    by_cases h : j = n
    · simp [upd, h] at hb
    · by_cases h' : k = n
      · simp [upd, h']
      · simp only [upd, h, h', if_false] at hb ⊢; exact C.dj j k hjk b hb
  · exact List.nodup_append.2 ⟨C.lnd, C.nd n, fun a ha b hb e => C.ldj n b hb (e ▸ ha)⟩
  · intro k b hb hb'
    by_cases h : k = n
    · simp [upd, h] at hb
    · simp only [upd, h, if_false] at hb
      rcases List.mem_append.1 hb' with h1 | h1
      · exact C.ldj k b hb h1
      · exact C.dj k n h b hb h1
  · intro b hb; exact C.old b ((hX b).1 hb)
  · rw [hF]
    exact ⟨(C.rep n).keep hL _ _ _ Agree.rfl', fun b hb => (hX b).1 hb⟩
theorem RepVs.len' {w : World} {Fz : Nat → Prop} {L : Locs} : ∀ {cs : List AV} {xs : List Value} {o : List Nat}, RepVs w Fz L cs xs o → xs.length = cs.length
  | [], xs, o, h => by simp only [RepVs] at h; simp [h.1]
  | c :: cs, xs, o, h => by
    simp only [RepVs] at h
    obtain ⟨x, xs', o1, o2, hx, ho, hc, hr⟩ := h
    subst hx
    simp [RepVs.len' hr]
theorem take_sound {c : Ctx} {st st1 : St} {tm : Nat → Value} {w : World} {own : Nat → List Nat} {lo : List Nat} (C : Core c st tm w own lo) {av av1 : AV} {x : Value} {oc : List Nat} (hr : RepV w (frz c w (owned own lo)) (locs st tm w) av x oc) (h : takeO st av = some (av1, st1)) :
    ∃ own' lo1, Core c st1 tm w own' (lo ++ lo1) ∧ (∀ Fz' L', Agree w w (frz c w (owned own' (lo ++ lo1))) Fz' lo1 → RepV w Fz' L' av1 x lo1) ∧ ∀ b, owned own' (lo ++ lo1) b → owned own lo b := by
  unfold takeO at h
  split at h
  · rename_i m p off len
    split at h
    · rename_i e sz l hg
      simp only [Option.some.injEq, Prod.mk.injEq] at h
      obtain ⟨rfl, rfl⟩ := h
      have hn := bare_own _ hr rfl
      rw [hn] at hr
      obtain ⟨own', lo1, C', hr', _, hX⟩ := own_sref C hr hg
      exact ⟨own', lo1, C', fun Fz' L' ag => (hr'.keep _ _ _ ag).toV, hX⟩
    · cases h
  · rename_i m p i k
    split at h
    · rename_i e cs hg
      split at h
      · rename_i hik
        obtain ⟨rfl, rfl⟩ := hik
        simp only [Option.some.injEq, Prod.mk.injEq] at h
        obtain ⟨rfl, rfl⟩ := h
        have hn := bare_own _ hr rfl
        rw [hn] at hr
        obtain ⟨own', lo1, C', hr', hX⟩ := own_ref C hr hg
        exact ⟨own', lo1, C', fun Fz' L' ag => (hr'.keep _ _ _ ag).toV, hX⟩
      · cases h
    · cases h
  · split at h
    · rename_i hp
      simp only [Option.some.injEq, Prod.mk.injEq] at h
      obtain ⟨rfl, rfl⟩ := h
      refine ⟨own, [], by simpa using C, ?_, fun b hb => by simpa using hb⟩
      intro Fz' L' ag
      exact plain_rep (L' := L') _ hr hp (by simpa using ag)
    · cases h
theorem pullA_sound {c : Ctx} {tm : Nat → Value} {w : World} {n : Nat} {xs : List Value} (hxs : tm n = .agg xs.toArray) : ∀ (l : List AV) (k : Nat) {st st' : St} {own : Nat → List Nat} {lo : List Nat} {avs : List AV}, Core c st tm w own lo →
    pullA n l k st = some (avs, st') → k + l.length = xs.length →
    ∃ own' lo1, Core c st' tm w own' (lo ++ lo1) ∧ RepVs w (frz c w (owned own' (lo ++ lo1))) (locs st' tm w) avs (xs.drop k) lo1 ∧ ∀ b, owned own' (lo ++ lo1) b → owned own lo b
  | [], k, st, st', own, lo, avs, C, h, hk => by
    simp only [pullA, Option.some.injEq, Prod.mk.injEq] at h
    obtain ⟨rfl, rfl⟩ := h
    refine ⟨own, [], by simpa using C, ?_, fun b hb => by simpa using hb⟩
    have : xs.drop k = [] := by simp at hk ⊢; omega
    simp [RepVs, this]
  | d :: r, k, st, st', own, lo, avs, C, h, hk => by
    simp only [pullA] at h
    split at h
    rotate_left
    · cases h
    rename_i av st1 ht
    simp only [Option.map_eq_some_iff] at h
    obtain ⟨⟨avs', st2⟩, hp, he⟩ := h
    simp only [Prod.mk.injEq] at he
    obtain ⟨rfl, rfl⟩ := he
    simp only [List.length_cons] at hk
    have hkl : k < xs.length := by omega
    have hpart : ∃ oc, RepV w (frz c w (owned own lo)) (locs st tm w) (aggAt (st n) k) xs[k] oc := by
      have rn := C.rep n
      unfold aggAt
      split
      · rename_i l' hl'
        rw [hl', hxs] at rn
        simp only [RepV] at rn
        obtain ⟨ys, hy, hv⟩ := rn
        have hy' : ys = xs := by
          have h1 := (Value.agg.inj hy).symm
          have := congrArg Array.toList h1
          simpa using this
        subst hy'
        have hlen := RepVs.len' hv
        have hkl' : k < l'.length := by omega
        obtain ⟨z, o1, oc, o2, _, hz, hcz, _⟩ := hv.at (k := k) (c := l'[k]) (by simp [hkl'])
        refine ⟨oc, ?_⟩
        have e1 : (l'[k]?).getD .dead = l'[k] := by simp [hkl']
        have e2 : ys[k] = z := by rw [List.getElem?_eq_getElem hkl] at hz; exact Option.some.inj hz
        rw [e1, e2]
        exact hcz
      · exact ⟨[], by simp [RepV]⟩
    obtain ⟨oc, hr⟩ := hpart
    obtain ⟨own1, lo1, C1, hr1, hX1⟩ := take_sound C hr ht
    obtain ⟨own2, lo2, C2, hr2, hX2⟩ := pullA_sound hxs r (k + 1) C1 hp (by omega)
    refine ⟨own2, lo1 ++ lo2, by rw [← List.append_assoc]; exact C2, ?_, ?_⟩
    · rw [List.drop_eq_getElem_cons hkl]
      simp only [RepVs]
      rw [← List.append_assoc]
      exact ⟨xs[k], _, lo1, lo2, rfl, rfl, hr1 _ _ ⟨fun b hb => ⟨⟨hb.1, hb.2.1, fun hx => hb.2.2 (hX2 b hx)⟩, rfl⟩, fun _ _ => rfl⟩, hr2⟩
    · rw [← List.append_assoc]
      exact fun b hb => hX1 b (hX2 b hb)
theorem own_sound {c : Ctx} {st st' : St} {a : Act} {w : World} {own : Nat → List Nat} {lo : List Nat} (C : Core c st (tmOf a) w own lo) {x : Operand} {y : Opd} (hx : mOpd x y = true) {av : AV} (h : ownO st y = some (av, st')) :
    ∃ own' lo1, Core c st' (tmOf a) w own' (lo ++ lo1) ∧ RepV w (frz c w (owned own' (lo ++ lo1))) (locs st' (tmOf a) w) av (a.eval x) lo1 ∧ ∀ b, owned own' (lo ++ lo1) b → owned own lo b := by
  have rx := rd_rep C hx
  cases y with
  | c v => simp only [ownO, Option.some.injEq, Prod.mk.injEq] at h; obtain ⟨rfl, rfl⟩ := h; exact ⟨own, [], by simpa using C, by simpa [rd] using rx, fun b hb => by simpa using hb⟩
  | nils e sz => simp only [ownO, Option.some.injEq, Prod.mk.injEq] at h; obtain ⟨rfl, rfl⟩ := h; exact ⟨own, [], by simpa using C, by simpa [rd] using rx, fun b hb => by simpa using hb⟩
  | fn f => simp only [ownO, Option.some.injEq, Prod.mk.injEq] at h; obtain ⟨rfl, rfl⟩ := h; exact ⟨own, [], by simpa using C, by simpa [rd] using rx, fun b hb => by simpa using hb⟩
  | t n =>
    have hxn : a.eval x = tmOf a n := by
      unfold mOpd at hx
      split at hx <;> simp_all
      rfl
    have rn := C.rep n
    simp only [ownO] at h
    split at h
    · rename_i m p off len hst
      rw [hst] at rn
      split at h
      · rename_i e sz l hg
        simp only [Option.some.injEq, Prod.mk.injEq] at h
        obtain ⟨rfl, rfl⟩ := h
        have hn := bare_own _ rn rfl
        rw [hn] at rn
        obtain ⟨own', lo1, C', hr, _, hX⟩ := own_sref C rn hg
        exact ⟨own', lo1, C', by rw [hxn]; exact hr.toV, hX⟩
      · cases h
    · rename_i m p i k hst
      rw [hst] at rn
      split at h
      · rename_i e cs hg
        split at h
        · rename_i hik
          obtain ⟨rfl, rfl⟩ := hik
          simp only [Option.some.injEq, Prod.mk.injEq] at h
          obtain ⟨rfl, rfl⟩ := h
          have hn := bare_own _ rn rfl
          rw [hn] at rn
          obtain ⟨own', lo1, C', hr, hX⟩ := own_ref C rn hg
          exact ⟨own', lo1, C', by rw [hxn]; exact hr.toV, hX⟩
        · cases h
      · cases h
    · split at h
      · rename_i hb
        split at h
        · rename_i hp
          simp only [Option.some.injEq, Prod.mk.injEq] at h
          obtain ⟨rfl, rfl⟩ := h
          refine ⟨own, [], by simpa using C, ?_, fun b hb => by simpa using hb⟩
          rw [hxn]
          have := plain_rep (L' := locs st (tmOf a) w) _ rn hp (Agree.rfl' (o := []))
          simpa using this
        · unfold ownA at h
          split at h
          · rename_i l' hl'
            simp only [Option.map_eq_some_iff] at h
            obtain ⟨⟨avs, st2⟩, hp2, he⟩ := h
            simp only [Prod.mk.injEq] at he
            obtain ⟨rfl, rfl⟩ := he
            rw [hl'] at rn
            simp only [RepV] at rn
            obtain ⟨xs, hxs, hv⟩ := rn
            obtain ⟨own', lo1, C', hr, hX⟩ := pullA_sound hxs l' 0 C hp2 (by have := RepVs.len' hv; omega)
            refine ⟨own', lo1, C', ?_, hX⟩
            rw [hxn, hxs]
            simp only [RepV]
            exact ⟨xs, rfl, by simpa using hr⟩
          · cases h
      · simp only [Option.some.injEq, Prod.mk.injEq] at h
        obtain ⟨rfl, rfl⟩ := h
        obtain ⟨own', C', hr, hX⟩ := core_pull C n
        exact ⟨own', own n, C', by rw [hxn]; exact hr, hX⟩
end Go.AM
