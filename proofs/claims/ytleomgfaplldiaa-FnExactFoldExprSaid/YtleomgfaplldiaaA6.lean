/- Own framework, part 6: changing what is owned at a place. -/
import Derived.Test.YtleomgfaplldiaaA5
namespace Go.AM
set_option linter.unusedVariables false
set_option linter.unusedSimpArgs false

theorem cellOf_setOf_other {av c d : AV} {i k i' k' : Nat} (hc : cellOf av i k = some d) (h : ¬ (i' = i ∧ k' = k)) : cellOf (setOf av i k c) i' k' = cellOf av i' k' := by
  cases av with
  | usl e sz l => exact cellOf_setOf_ne h ⟨e, sz, l, rfl⟩
  | box e cs =>
    simp only [cellOf] at hc
    split at hc
    · rename_i hi
      simp only [setOf, cellOf]
      by_cases hi' : i' = 0
      · have hk : ¬ k = k' := fun e => h ⟨by omega, e.symm⟩
        simp [hi', hk]
      · simp [hi']
    · simp at hc
  | agg cs =>
    simp only [cellOf] at hc
    split at hc
    · rename_i hi
      simp only [setOf, cellOf]
      by_cases hi' : i' = 0
      · have hk : ¬ k = k' := fun e => h ⟨by omega, e.symm⟩
        simp [hi', hk]
      · simp [hi']
    · simp at hc
  | tup cs =>
    simp only [cellOf] at hc
    split at hc
    · rename_i hi
      simp only [setOf, cellOf]
      by_cases hi' : i' = 0
      · have hk : ¬ k = k' := fun e => h ⟨by omega, e.symm⟩
        simp [hi', hk]
      · simp [hi']
    · simp at hc
  | _ => simp [cellOf] at hc

theorem cellV_setOf {w : World} (av c : AV) (y : Value) (i k i' k' : Nat) : cellV w (setOf av i k c) y i' k' = cellV w av y i' k' := by
  cases av <;> cases y <;> first | rfl | (rename_i a; cases a <;> rfl) | (rename_i a _ _; cases a <;> rfl)

theorem walkSh_setC {w : World} {c : AV} : ∀ (p q : List (Nat × Nat)) (av0 : AV) (y0 : Value), ¬ p <+: q → walkSh w (setC av0 p c) y0 q = walkSh w av0 y0 q
  | [], q, av0, y0, h => absurd List.nil_prefix h
  | (i, k) :: p, q, av0, y0, h => by
    cases hc : cellOf av0 i k with
    | none => simp [setC, hc]
    | some d =>
      simp only [setC, hc]
      cases q with
      | nil => simp [walkSh, walk, shapeOf_setOf]
      | cons ik q =>
        obtain ⟨i', k'⟩ := ik
        by_cases he : i' = i ∧ k' = k
        · obtain ⟨rfl, rfl⟩ := he
          have hn : ¬ p <+: q := fun hh => h (List.cons_prefix_cons.2 ⟨rfl, hh⟩)
          simp only [walkSh, walk, cellOf_setOf hc, cellV_setOf, hc, Option.bind_some]
          cases cellV w av0 y0 i' k' with
          | none => rfl
          | some z => exact walkSh_setC p q d z hn
        · simp only [walkSh, walk, cellOf_setOf_other hc he, cellV_setOf]

def modOwned (own : Nat → List Nat) (lo o o' lo' : List Nat) (b : Nat) : Prop := b ∈ o' ∨ b ∈ lo' ∨ (owned own lo b ∧ b ∉ o ∧ b ∉ lo)

theorem Core.mod {c : Ctx} {st : Nat → AV} {tm : Nat → Value} {w : World} {own : Nat → List Nat} {lo : List Nat} (C : Core c st tm w own lo)
    {n : Nat} {p : List (Nat × Nat)} {av : AV} {y : Value} (hw : walk w (st n) (tm n) p = some (av, y)) (ho : isOwner av = true) :
    ∃ o, RepC w (frz c w (owned own lo)) av y o ∧ o.Nodup ∧ (∀ b ∈ o, b ∉ lo) ∧ (∀ b ∈ o, owned own lo b) ∧
      (∀ (w' : World) (av' : AV), Ext w w' (o ++ lo) → (∀ q, ¬ p <+: q → walkSh w' (setC (st n) p av') (tm n) q = walkSh w (st n) (tm n) q) ∧ (∀ q, walk w' (setC (st n) p av') (tm n) (p ++ q) = walk w' av' y q)) ∧
      ∀ (w' : World) (av' : AV) (o' lo' : List Nat) (K : Nat → List (Nat × Nat) → Bool), Ext w w' (o ++ lo) → o'.Nodup → lo'.Nodup → (∀ b ∈ o', b ∉ lo') →
        (∀ b, b ∈ o' ∨ b ∈ lo' → (b ∈ o ∨ b ∈ lo ∨ w.heap.size ≤ b) ∧ b < w'.heap.size) →
        RepC w' (frz c w' (modOwned own lo o o' lo')) av' y o' →
        (∀ q r, K n q = false → walkSh w (st n) (tm n) q = some r → walkSh w' (setC (st n) p av') (tm n) q = some r) →
        ∃ own', Core c (fun k => killV K (upd st n (setC (st n) p av') k)) tm w' own' lo' ∧ (∀ b, owned own' lo' b ↔ modOwned own lo o o' lo' b) := by
  obtain ⟨o, oR, S⟩ := (C.rep n).spot p hw ho
  have hdj := S.dj (C.nd n)
  have hoo : ∀ b ∈ o, b ∈ own n := fun b hb => (S.mem b).2 (.inl hb)
  have hoR : ∀ b ∈ oR, b ∈ own n := fun b hb => (S.mem b).2 (.inr hb)
  have hlo : ∀ b ∈ o, b ∉ lo := fun b hb => C.ldj n b (hoo b hb)
  have hk0 : ∀ b ∈ oR, b < w.heap.size ∧ b ∉ o ++ lo := fun b hb => ⟨(C.old b (.inl ⟨n, hoR b hb⟩)).2, fun hm => by
    rcases List.mem_append.1 hm with h | h
    · exact hdj.2 b h hb
    · exact C.ldj n b (hoR b hb) h⟩
  refine ⟨o, S.rep, hdj.1, hlo, fun b hb => .inl ⟨n, hoo b hb⟩, ?_, ?_⟩
  · intro w' av' he
    have hh : ∀ b ∈ oR, w'.heap[b]? = w.heap[b]? := fun b hb => he.blk b (hk0 b hb).1 (hk0 b hb).2
    refine ⟨fun q hn => ?_, fun q => S.wk w' av' hh q⟩
    obtain ⟨o1, hr1, hm1, _⟩ := S.put w _ (locs st tm w) .dead [] (fun _ _ _ h => h) ⟨fun b hb => ⟨hb, rfl⟩, fun _ _ => rfl⟩ (by simp only [RepC]; exact ⟨S.rep.one, trivial⟩)
    have e1 : walkSh w' (setC (st n) p .dead) (tm n) q = walkSh w (setC (st n) p .dead) (tm n) q := by
      simp only [walkSh]
      rw [walk_keepV q _ hr1 (fun b hb => hh b (by simpa using (hm1 b).1 hb))]
    rw [walkSh_setC p q _ _ hn, ← walkSh_setC (c := .dead) p q (st n) (tm n) hn, e1, walkSh_setC p q _ _ hn]
  intro w' av' o' lo' K he hno hnl hdl hsub hr hwk
  have hk : ∀ k, ∀ b ∈ own k, b < w.heap.size := fun k b hb => (C.old b (.inl ⟨k, hb⟩)).2
  have hW : ∀ b ∈ o ++ lo, owned own lo b := fun b hb => by
    rcases List.mem_append.1 hb with h | h
    · exact .inl ⟨n, hoo b h⟩
    · exact .inr h
  have hX : ∀ b, modOwned own lo o o' lo' b → owned own lo b ∨ w.heap.size ≤ b := by
    rintro b (h | h | h)
    · rcases (hsub b (.inl h)).1 with h | h | h
      · exact .inl (.inl ⟨n, hoo b h⟩)
      · exact .inl (.inr h)
      · exact .inr h
    · rcases (hsub b (.inr h)).1 with h | h | h
      · exact .inl (.inl ⟨n, hoo b h⟩)
      · exact .inl (.inr h)
      · exact .inr h
    · exact .inl h.1
  -- the rest of slot n stands
  have hRn : ∀ b ∈ oR, b < w.heap.size ∧ b ∉ o ++ lo := fun b hb => ⟨hk n b (hoR b hb), fun hm => by
    rcases List.mem_append.1 hm with h | h
    · exact hdj.2 b h hb
    · exact C.ldj n b (hoR b hb) h⟩
  have ag := agree_frz (c := c) he hX (fun b hb _ => hW b hb) hRn
  obtain ⟨o0', hr0, hm0, hnd0⟩ := S.put w' _ (locs st tm w) av' o' (fun _ _ _ h => h) ag hr
  have ho'R : ∀ b ∈ o', b ∉ oR := fun b hb hbR => by
    rcases (hsub b (.inl hb)).1 with h | h | h
    · exact hdj.2 b h hbR
    · exact C.ldj n b (hoR b hbR) h
    · have := (hRn b hbR).1; omega
  have hnd0' := hnd0 (C.nd n) hno ho'R
  refine ⟨upd own n o0', ?_, ?_⟩
  rotate_left
  · intro b
    constructor
    · rintro (⟨k, hb⟩ | hb)
      · by_cases h : k = n
        · simp only [upd, h, if_true] at hb
          rcases (hm0 b).1 hb with h1 | h1
          · exact .inl h1
          · have := (hRn b h1).2
            exact .inr (.inr ⟨.inl ⟨n, hoR b h1⟩, fun hm => this (List.mem_append.2 (.inl hm)), fun hm => this (List.mem_append.2 (.inr hm))⟩)
        · simp only [upd, h, if_false] at hb
          exact .inr (.inr ⟨.inl ⟨k, hb⟩, fun hm => C.dj k n h b hb (hoo b hm), C.ldj k b hb⟩)
      · exact .inr (.inl hb)
    · rintro (hb | hb | ⟨hb, h1, h2⟩)
      · exact .inl ⟨n, by simp only [upd, if_true]; exact (hm0 b).2 (.inl hb)⟩
      · exact .inr hb
      · rcases hb with ⟨k, hb⟩ | hb
        · by_cases h : k = n
          · rw [h] at hb
            refine .inl ⟨n, ?_⟩
            simp only [upd, if_true]
            rcases (S.mem b).1 hb with h3 | h3
            · exact absurd h3 h1
            · exact (hm0 b).2 (.inr h3)
          · exact .inl ⟨k, by simpa [upd, h] using hb⟩
        · exact absurd hb h2
  · have hOwn : ∀ b, owned (upd own n o0') lo' b → modOwned own lo o o' lo' b := by
      rintro b (⟨k, hb⟩ | hb)
      · by_cases h : k = n
        · simp only [upd, h, if_true] at hb
          rcases (hm0 b).1 hb with h1 | h1
          · exact .inl h1
          · have := (hRn b h1).2
            exact .inr (.inr ⟨.inl ⟨n, hoR b h1⟩, fun hm => this (List.mem_append.2 (.inl hm)), fun hm => this (List.mem_append.2 (.inr hm))⟩)
        · simp only [upd, h, if_false] at hb
          exact .inr (.inr ⟨.inl ⟨k, hb⟩, fun hm => C.dj k n h b hb (hoo b hm), C.ldj k b hb⟩)
      · exact .inr (.inl hb)
    have hkeepOther : ∀ k, k ≠ n → ∀ b ∈ own k, b < w.heap.size ∧ b ∉ o ++ lo := fun k h b hb => ⟨hk k b hb, fun hm => by
      rcases List.mem_append.1 hm with h1 | h1
      · exact C.dj k n h b hb (hoo b h1)
      · exact C.ldj k b hb h1⟩
    have hL : ∀ m q r, K m q = false → locs st tm w m q = some r → locs (fun k => killV K (upd st n (setC (st n) p av') k)) tm w' m q = some r := by
      intro m q r hK hl
      simp only [locs, walkSh_kill] at hl ⊢
      by_cases h : m = n
      · subst h
        simp only [upd, if_true]
        exact hwk q r hK hl
      · simp only [upd, h, if_false, walkSh] at hl ⊢
        rw [walk_keepV q _ (C.rep m) (fun b hb => he.blk b (hkeepOther m h b hb).1 (hkeepOther m h b hb).2)]
        exact hl
    have hFF : ∀ (X : Nat → Prop) (oo : List Nat), (∀ b, owned (upd own n o0') lo' b → X b) → Agree w' w' (frz c w' X) (frz c w' (owned (upd own n o0') lo')) oo := fun X oo h =>
      ⟨fun b hb => ⟨⟨hb.1, hb.2.1, fun hx => hb.2.2 (h b hx)⟩, rfl⟩, fun _ _ => rfl⟩
    refine ⟨?_, ?_, ?_, ?_, hnl, ?_, ?_⟩
    · refine C.fr.trans he ?_
      intro b hb hlt
      rcases (C.old b (hW b hb)).1 with h | h
      · exact h
      · omega
    · intro k
      by_cases h : k = n
      · subst h
        simp only [upd, if_true]
        exact hr0.keep hL _ _ _ (hFF _ _ hOwn)
      · simp only [upd, h, if_false]
        exact (C.rep k).keep hL _ _ _ (agree_frz (c := c) he (fun b hb => hX b (hOwn b hb)) (fun b hb _ => hW b hb) (hkeepOther k h))
    · intro k; by_cases h : k = n
      · simpa [upd, h] using hnd0'
      · simpa [upd, h] using C.nd k
    · intro j k hjk b hb
      by_cases h : j = n
      · have h' : k ≠ n := fun e => hjk (h.trans e.symm)
        simp only [upd, h, h', if_true, if_false] at hb ⊢
        rcases (hm0 b).1 hb with h1 | h1
        · rcases (hsub b (.inl h1)).1 with h2 | h2 | h2
          · exact fun hk' => C.dj n k (Ne.symm h') b (hoo b h2) hk'
          · exact fun hk' => C.ldj k b hk' h2
          · exact fun hk' => by have := hk k b hk'; omega
        · exact C.dj n k (Ne.symm h') b (hoR b h1)
      · by_cases h' : k = n
        · simp only [upd, h, h', if_true, if_false] at hb ⊢
          intro hb'
          rcases (hm0 b).1 hb' with h1 | h1
          · rcases (hsub b (.inl h1)).1 with h2 | h2 | h2
            · exact C.dj j n h b hb (hoo b h2)
            · exact C.ldj j b hb h2
            · have := hk j b hb; omega
          · exact C.dj j n h b hb (hoR b h1)
        · simp only [upd, h, h', if_false] at hb ⊢; exact C.dj j k hjk b hb
    · intro k b hb hb'
      by_cases h : k = n
      · simp only [upd, h, if_true] at hb
        rcases (hm0 b).1 hb with h1 | h1
        · exact hdl b h1 hb'
        · rcases (hsub b (.inr hb')).1 with h2 | h2 | h2
          · exact hdj.2 b h2 h1
          · exact C.ldj n b (hoR b h1) h2
          · have := (hRn b h1).1; omega
      · simp only [upd, h, if_false] at hb
        rcases (hsub b (.inr hb')).1 with h2 | h2 | h2
        · exact C.dj k n h b hb (hoo b h2)
        · exact C.ldj k b hb h2
        · have := hk k b hb; omega
    · intro b hb
      rcases hOwn b hb with h | h | h
      · refine ⟨?_, (hsub b (.inl h)).2⟩
        rcases (hsub b (.inl h)).1 with h | h | h
        · exact (C.old b (.inl ⟨n, hoo b h⟩)).1
        · exact (C.old b (.inr h)).1
        · exact .inr (Nat.le_trans C.fr.size h)
      · refine ⟨?_, (hsub b (.inr h)).2⟩
        rcases (hsub b (.inr h)).1 with h | h | h
        · exact (C.old b (.inl ⟨n, hoo b h⟩)).1
        · exact (C.old b (.inr h)).1
        · exact .inr (Nat.le_trans C.fr.size h)
      · have := C.old b h.1
        exact ⟨this.1, Nat.lt_of_lt_of_le this.2 he.size⟩

/-- The place that a path leads to holds what was put there. -/
theorem walk_setC {w w' : World} : ∀ (p : List (Nat × Nat)) {av0 : AV} {y0 : Value} {av : AV} {y : Value} {av' : AV}, walk w av0 y0 p = some (av, y) → getC (setC av0 p av') p = some av'
  | [], av0, y0, av, y, av', h => by simp [setC, getC]
  | (i, k) :: p, av0, y0, av, y, av', h => by
    simp only [walk, Option.bind_eq_some_iff] at h
    obtain ⟨c, hc, z, hz, h⟩ := h
    simp only [setC, hc, getC, cellOf_setOf hc, Option.bind_some]
    exact walk_setC (w' := w') p h
end Go.AM
