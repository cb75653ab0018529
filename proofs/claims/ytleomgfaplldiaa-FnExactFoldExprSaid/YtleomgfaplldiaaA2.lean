/- Own framework, part 2: places inside an owned value, and replacing what lies there. -/
import Derived.Test.YtleomgfaplldiaaA1
namespace Go.AM
set_option linter.unusedVariables false

theorem RepRow.length {w : World} {Fz : Nat → Prop} : ∀ {cs : List AV} {xs : List Value} {o : List Nat}, RepRow w Fz cs xs o → xs.length = cs.length
  | [], xs, o, h => by simp [RepRow] at h; simp [h.1]
  | c :: cs, xs, o, h => by
    simp only [RepRow] at h
    obtain ⟨x, xs', o1, o2, hx, ho, hc, hr⟩ := h
    subst hx
    simp [RepRow.length hr]

theorem RepRows.length {w : World} {Fz : Nat → Prop} {sz : Nat} : ∀ {rs : List (List AV)} {xs : List Value} {o : List Nat}, RepRows w Fz sz rs xs o → xs.length = rs.length * sz
  | [], xs, o, h => by simp [RepRows] at h; simp [h.1]
  | r :: rs, xs, o, h => by
    simp only [RepRows] at h
    obtain ⟨x1, x2, o1, o2, hx, ho, hl, h1, h2⟩ := h
    subst hx
    have := RepRow.length h1
    have := RepRows.length h2
    simp [Nat.add_mul, *]
    omega

theorem RepC.one {w : World} {Fz : Nat → Prop} {av : AV} {x : Value} {o : List Nat} (h : RepC w Fz av x o) : x.oneCell' = true := by
  cases av with
  | v y => simp [RepC] at h; obtain ⟨rfl, h, _⟩ := h; exact h
  | fsl sz l => simp only [RepC] at h; obtain ⟨_, A, c, rfl, _⟩ := h; rfl
  | usl e sz l => simp only [RepC] at h; rcases h with ⟨rfl, _⟩ | ⟨g, hh, c, cur, xs, o', rfl, _⟩ <;> rfl
  | fptr cs => simp only [RepC] at h; obtain ⟨_, g, hh, xs, rfl, _⟩ := h; rfl
  | box e cs => simp only [RepC] at h; obtain ⟨g, xs, o', rfl, _⟩ := h; rfl
  | dead => simp [RepC] at h; exact h.1
  | agg _ => simp [RepC] at h
  | ref _ _ _ _ => simp [RepC] at h
  | sref _ _ _ _ => simp [RepC] at h
  | clo _ _ => simp [RepC] at h
  | tup _ => simp [RepC] at h

theorem RepRow.one {w : World} {Fz : Nat → Prop} : ∀ {cs : List AV} {xs : List Value} {o : List Nat}, RepRow w Fz cs xs o → ∀ u ∈ xs, u.oneCell' = true
  | [], xs, o, h => by simp [RepRow] at h; simp [h.1]
  | c :: cs, xs, o, h => by
    simp only [RepRow] at h
    obtain ⟨x, xs', o1, o2, hx, ho, hc, hr⟩ := h
    subst hx
    intro u hu
    rcases List.mem_cons.1 hu with rfl | hu
    · exact hc.one
    · exact RepRow.one hr u hu

theorem RepRows.one {w : World} {Fz : Nat → Prop} {sz : Nat} : ∀ {rs : List (List AV)} {xs : List Value} {o : List Nat}, RepRows w Fz sz rs xs o → ∀ u ∈ xs, u.oneCell' = true
  | [], xs, o, h => by simp [RepRows] at h; simp [h.1]
  | r :: rs, xs, o, h => by
    simp only [RepRows] at h
    obtain ⟨x1, x2, o1, o2, hx, ho, hl, h1, h2⟩ := h
    subst hx
    intro u hu
    rcases List.mem_append.1 hu with hu | hu
    · exact h1.one u hu
    · exact RepRows.one h2 u hu

theorem RepRow.append {w : World} {Fz : Nat → Prop} : ∀ {cs ds : List AV} {xs ys : List Value} {o q : List Nat}, RepRow w Fz cs xs o → RepRow w Fz ds ys q → RepRow w Fz (cs ++ ds) (xs ++ ys) (o ++ q)
  | [], ds, xs, ys, o, q, h, k => by simp [RepRow] at h; simpa [h] using k
  | c :: cs, ds, xs, ys, o, q, h, k => by
    simp only [RepRow] at h
    obtain ⟨x, xs', o1, o2, hx, ho, hc, hr⟩ := h
    subst hx ho
    simp only [List.cons_append, RepRow]
    exact ⟨x, xs' ++ ys, o1, o2 ++ q, rfl, by simp, hc, RepRow.append hr k⟩

theorem RepRows.append {w : World} {Fz : Nat → Prop} {sz : Nat} : ∀ {cs ds : List (List AV)} {xs ys : List Value} {o q : List Nat}, RepRows w Fz sz cs xs o → RepRows w Fz sz ds ys q → RepRows w Fz sz (cs ++ ds) (xs ++ ys) (o ++ q)
  | [], ds, xs, ys, o, q, h, k => by simp [RepRows] at h; simpa [h] using k
  | c :: cs, ds, xs, ys, o, q, h, k => by
    simp only [RepRows] at h
    obtain ⟨x1, x2, o1, o2, hx, ho, hl, h1, h2⟩ := h
    subst hx ho
    simp only [List.cons_append, RepRows]
    exact ⟨x1, x2 ++ ys, o1, o2 ++ q, by simp, by simp, hl, h1, RepRows.append h2 k⟩

/-- A row, parted at a place. -/
theorem RepRow.split {w : World} {Fz : Nat → Prop} : ∀ {cs : List AV} {xs : List Value} {o : List Nat} (k : Nat), RepRow w Fz cs xs o → k ≤ cs.length →
    ∃ o1 o2, o = o1 ++ o2 ∧ RepRow w Fz (cs.take k) (xs.take k) o1 ∧ RepRow w Fz (cs.drop k) (xs.drop k) o2
  | cs, xs, o, 0, h, _ => ⟨[], o, by simp, by simp [RepRow], by simpa using h⟩
  | [], xs, o, k + 1, h, hk => by simp at hk
  | c :: cs, xs, o, k + 1, h, hk => by
    simp only [RepRow] at h
    obtain ⟨x, xs', o1, o2, hx, ho, hc, hr⟩ := h
    subst hx ho
    obtain ⟨p1, p2, hp, h1, h2⟩ := RepRow.split k hr (by simpa using hk)
    subst hp
    refine ⟨o1 ++ p1, p2, by simp, ?_, by simpa using h2⟩
    simp only [List.take_succ_cons, RepRow]
    exact ⟨x, xs'.take k, o1, p1, rfl, rfl, hc, h1⟩

theorem RepRows.split {w : World} {Fz : Nat → Prop} {sz : Nat} : ∀ {cs : List (List AV)} {xs : List Value} {o : List Nat} (k : Nat), RepRows w Fz sz cs xs o → k ≤ cs.length →
    ∃ o1 o2, o = o1 ++ o2 ∧ RepRows w Fz sz (cs.take k) (xs.take (k * sz)) o1 ∧ RepRows w Fz sz (cs.drop k) (xs.drop (k * sz)) o2
  | cs, xs, o, 0, h, _ => ⟨[], o, by simp, by simp [RepRows], by simpa using h⟩
  | [], xs, o, k + 1, h, hk => by simp at hk
  | c :: cs, xs, o, k + 1, h, hk => by
    simp only [RepRows] at h
    obtain ⟨x1, x2, o1, o2, hx, ho, hl, h1, h2⟩ := h
    subst hx ho
    obtain ⟨p1, p2, hp, k1, k2⟩ := RepRows.split k h2 (by simpa using hk)
    subst hp
    have hlen : x1.length = sz := by rw [h1.length, hl]
    have e : (k + 1) * sz = x1.length + k * sz := by rw [hlen, Nat.add_mul]; omega
    refine ⟨o1 ++ p1, p2, by simp, ?_, ?_⟩
    · simp only [List.take_succ_cons, RepRows]
      refine ⟨x1, x2.take (k * sz), o1, p1, ?_, rfl, hl, h1, k1⟩
      rw [e, List.take_length_add_append]
    · rw [e, List.drop_length_add_append]
      simpa using k2

/-- The address of what a value leads to. -/
def addrOf : Value → Option (Nat × Nat)
  | .slice (some a) _ _ => some (a.block, a.off)
  | .pointer (some a) => some (a.block, a.off)
  | _ => none

structure Sh where
  isBox : Bool
  sz : Nat
  len : Nat

def shapeOf : AV → Option Sh
  | .usl _ sz l => some ⟨false, sz, l.length⟩
  | .box _ cs => some ⟨true, cs.length, 1⟩
  | _ => none

def cellOf : AV → Nat → Nat → Option AV
  | .usl _ _ l, i, k => (l[i]?).bind (·[k]?)
  | .box _ cs, i, k => if i = 0 then cs[k]? else none
  | .agg cs, i, k => if i = 0 then cs[k]? else none
  | .tup cs, i, k => if i = 0 then cs[k]? else none
  | _, _, _ => none

def setOf : AV → Nat → Nat → AV → AV
  | .usl e sz l, i, k, c => .usl e sz (l.modify i (·.set k c))
  | .box e cs, _, k, c => .box e (cs.set k c)
  | .agg cs, _, k, c => .agg (cs.set k c)
  | .tup cs, _, k, c => .tup (cs.set k c)
  | av, _, _, _ => av

def cellV (w : World) (av : AV) (y : Value) (i k : Nat) : Option Value :=
  match av, y with
  | .agg _, .agg xs => xs[k]?
  | .tup _, .tuple xs => xs[k]?
  | .usl _ sz _, .slice (some a) _ _ => w.cell? ⟨a.block, a.off + i * sz + k, none⟩
  | .box _ _, .pointer (some a) => w.cell? ⟨a.block, a.off + k, none⟩
  | _, _ => none

def walk (w : World) : AV → Value → List (Nat × Nat) → Option (AV × Value)
  | av, y, [] => some (av, y)
  | av, y, (i, k) :: p => (cellOf av i k).bind fun c => (cellV w av y i k).bind fun z => walk w c z p

def getC : AV → List (Nat × Nat) → Option AV
  | av, [] => some av
  | av, (i, k) :: p => (cellOf av i k).bind fun c => getC c p

def setC : AV → List (Nat × Nat) → AV → AV
  | _, [], c => c
  | av, (i, k) :: p, c => match cellOf av i k with
    | some d => setOf av i k (setC d p c)
    | none => av

def walkSh (w : World) (av : AV) (y : Value) (p : List (Nat × Nat)) : Option (Sh × Value) :=
  (walk w av y p).bind fun r => (shapeOf r.1).map fun s => (s, r.2)

theorem walk_getC {w : World} : ∀ {p : List (Nat × Nat)} {av : AV} {y : Value} {c : AV} {z : Value}, walk w av y p = some (c, z) → getC av p = some c
  | [], av, y, c, z, h => by simp [walk] at h; simp [getC, h.1]
  | (i, k) :: p, av, y, c, z, h => by
    simp only [walk, Option.bind_eq_some_iff] at h
    obtain ⟨d, hd, u, hu, hw⟩ := h
    simp only [getC, hd, Option.bind_some]
    exact walk_getC hw

/-- One cell of an owned thing: what it holds, and what is there when another thing is put in its place. -/
structure CellAt (w : World) (Fz : Nat → Prop) (av : AV) (y : Value) (o : List Nat) (i k : Nat) (c : AV) (z : Value) (oc oR : List Nat) : Prop where
  cv : cellV w av y i k = some z
  rep : RepC w Fz c z oc
  mem : ∀ b, b ∈ o ↔ b ∈ oc ∨ b ∈ oR
  dj : o.Nodup → oc.Nodup ∧ ∀ b ∈ oc, b ∉ oR
  put : ∀ (w' : World) (Fz' : Nat → Prop) (c' : AV) (oc' : List Nat), Agree w w' Fz Fz' oR → RepC w' Fz' c' z oc' →
    ∃ o', RepC w' Fz' (setOf av i k c') y o' ∧ (∀ b, b ∈ o' ↔ b ∈ oc' ∨ b ∈ oR) ∧ (o.Nodup → oc'.Nodup → (∀ b ∈ oc', b ∉ oR) → o'.Nodup)
  cv' : ∀ (w' : World) (c' : AV) (i' k' : Nat), (∀ b ∈ oR, w'.heap[b]? = w.heap[b]?) → cellV w' (setOf av i k c') y i' k' = cellV w av y i' k'

/-- A row, with one cell taken out. -/
theorem RepRow.at {w : World} {Fz : Nat → Prop} : ∀ {cs : List AV} {xs : List Value} {o : List Nat} {k : Nat} {c : AV}, RepRow w Fz cs xs o → cs[k]? = some c →
    ∃ z o1 oc o2, o = o1 ++ (oc ++ o2) ∧ xs[k]? = some z ∧ RepC w Fz c z oc ∧
      ∀ w' Fz' c' oc', Agree w w' Fz Fz' (o1 ++ o2) → RepC w' Fz' c' z oc' → RepRow w' Fz' (cs.set k c') xs (o1 ++ (oc' ++ o2))
  | [], xs, o, k, c, h, hk => by simp at hk
  | d :: cs, xs, o, 0, c, h, hk => by
    simp only [RepRow] at h
    obtain ⟨x, xs', o1, o2, hx, ho, hc, hr⟩ := h
    subst hx ho
    simp at hk
    subst hk
    refine ⟨x, [], o1, o2, by simp, by simp, hc, ?_⟩
    intro w' Fz' c' oc' ag hc'
    simp only [List.set_cons_zero, RepRow]
    exact ⟨x, xs', oc', o2, rfl, by simp, hc', hr.keep _ _ _ (ag.sub (by simp))⟩
  | d :: cs, xs, o, k + 1, c, h, hk => by
    simp only [RepRow] at h
    obtain ⟨x, xs', p1, p2, hx, ho, hc, hr⟩ := h
    subst hx ho
    obtain ⟨z, o1, oc, o2, ho, hz, hcz, hput⟩ := RepRow.at hr (by simpa using hk)
    subst ho
    refine ⟨z, p1 ++ o1, oc, o2, by simp, by simpa using hz, hcz, ?_⟩
    intro w' Fz' c' oc' ag hc'
    simp only [List.set_cons_succ, RepRow]
    exact ⟨x, xs', p1, o1 ++ (oc' ++ o2), rfl, by simp, hc.keep _ _ _ (ag.sub (by simp +contextual)), hput w' Fz' c' oc' (ag.sub (by simp only [List.mem_append]; intro b hb; rcases hb with h | h <;> simp [h])) hc'⟩

theorem RepRows.at {w : World} {Fz : Nat → Prop} {sz : Nat} : ∀ {rs : List (List AV)} {xs : List Value} {o : List Nat} {i k : Nat} {r : List AV} {c : AV}, RepRows w Fz sz rs xs o → rs[i]? = some r → r[k]? = some c →
    ∃ z o1 oc o2, o = o1 ++ (oc ++ o2) ∧ xs[i * sz + k]? = some z ∧ RepC w Fz c z oc ∧
      ∀ w' Fz' c' oc', Agree w w' Fz Fz' (o1 ++ o2) → RepC w' Fz' c' z oc' → RepRows w' Fz' sz (rs.modify i (·.set k c')) xs (o1 ++ (oc' ++ o2))
  | [], xs, o, i, k, r, c, h, hi, hk => by simp at hi
  | d :: rs, xs, o, 0, k, r, c, h, hi, hk => by
    simp only [RepRows] at h
    obtain ⟨x1, x2, p1, p2, hx, ho, hl, h1, h2⟩ := h
    subst hx ho
    simp at hi
    subst hi
    obtain ⟨z, o1, oc, o2, ho, hz, hcz, hput⟩ := RepRow.at h1 hk
    subst ho
    have hkl : k < x1.length := by
      rw [h1.length]
      exact (List.getElem?_eq_some_iff.1 hk).1
    refine ⟨z, o1, oc, o2 ++ p2, by simp, ?_, hcz, ?_⟩
    · rw [Nat.zero_mul, Nat.zero_add, List.getElem?_append_left hkl]; exact hz
    intro w' Fz' c' oc' ag hc'
    simp only [List.modify_zero_cons, RepRows]
    refine ⟨x1, x2, o1 ++ (oc' ++ o2), p2, rfl, by simp, by simpa using hl, hput w' Fz' c' oc' (ag.sub ?_) hc', h2.keep _ _ _ _ (ag.sub ?_)⟩
    · intro b hb; simp only [List.mem_append] at hb ⊢; rcases hb with h | h <;> simp [h]
    · intro b hb; simp [hb]
  | d :: rs, xs, o, i + 1, k, r, c, h, hi, hk => by
    simp only [RepRows] at h
    obtain ⟨x1, x2, p1, p2, hx, ho, hl, h1, h2⟩ := h
    subst hx ho
    obtain ⟨z, o1, oc, o2, ho, hz, hcz, hput⟩ := RepRows.at h2 (by simpa using hi) hk
    subst ho
    have hlen : x1.length = sz := by rw [h1.length, hl]
    refine ⟨z, p1 ++ o1, oc, o2, by simp, ?_, hcz, ?_⟩
    · have e : (i + 1) * sz + k = x1.length + (i * sz + k) := by rw [hlen, Nat.add_mul]; omega
      rw [e, List.getElem?_append_right (by omega)]
      simpa using hz
    · intro w' Fz' c' oc' ag hc'
      simp only [List.modify_succ_cons, RepRows]
      refine ⟨x1, x2, p1, o1 ++ (oc' ++ o2), rfl, by simp, hl, h1.keep _ _ _ (ag.sub ?_), hput w' Fz' c' oc' (ag.sub ?_) hc'⟩
      · intro b hb; simp [hb]
      · intro b hb; simp only [List.mem_append] at hb ⊢; rcases hb with h | h <;> simp [h]
end Go.AM
