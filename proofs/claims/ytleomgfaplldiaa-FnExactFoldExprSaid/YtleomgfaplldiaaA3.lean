/- Own framework, part 3: a path into an owned thing; slots' values. -/
import Derived.Test.YtleomgfaplldiaaA2
namespace Go.AM
set_option linter.unusedVariables false

theorem mem_mid {b : Nat} {a m c : List Nat} : b ∈ a ++ (m ++ c) ↔ b ∈ m ∨ b ∈ a ++ c := by
  simp only [List.mem_append]
  constructor
  · rintro (h | h | h) <;> simp [h]
  · rintro (h | h | h) <;> simp [h]

theorem nodup_mid {a m c : List Nat} (h : (a ++ (m ++ c)).Nodup) : m.Nodup ∧ (∀ b ∈ m, b ∉ a ++ c) ∧ (a ++ c).Nodup := by
  have hp : (a ++ (m ++ c)).Perm (m ++ (a ++ c)) := by
    rw [← List.append_assoc, ← List.append_assoc]
    exact List.Perm.append_right _ List.perm_append_comm
  rw [hp.nodup_iff, List.nodup_append] at h
  exact ⟨h.1, fun b hb hb' => h.2.2 b hb b hb' rfl, h.2.1⟩

theorem nodup_mk {a m c : List Nat} (h1 : m.Nodup) (h2 : ∀ b ∈ m, b ∉ a ++ c) (h3 : (a ++ c).Nodup) : (a ++ (m ++ c)).Nodup := by
  have hp : (a ++ (m ++ c)).Perm (m ++ (a ++ c)) := by
    rw [← List.append_assoc, ← List.append_assoc]
    exact List.Perm.append_right _ List.perm_append_comm
  rw [hp.nodup_iff, List.nodup_append]
  exact ⟨h1, h3, fun b hb b' hb' e => h2 b hb (e ▸ hb')⟩

theorem At.get {w : World} {g h : Nat} {xs : List Value} (ha : At w g h xs) {j : Nat} {z : Value} (hz : xs[j]? = some z) : w.cell? ⟨g, h + j, none⟩ = some z := ha j z hz

theorem cell_of_cells {w : World} {g : Nat} {cs : Array Value} {e : TypeId} {fr : Nat × Nat} (hg : w.heap[g]? = some (.cells cs e fr)) (j : Nat) : w.cell? ⟨g, j, none⟩ = cs[j]? := cell_of_row w g j cs e fr hg

theorem RepC.cellAt {w : World} {Fz : Nat → Prop} {av : AV} {y : Value} {o : List Nat} {i k : Nat} {c : AV} (h : RepC w Fz av y o) (hc : cellOf av i k = some c) :
    ∃ z oc oR, CellAt w Fz av y o i k c z oc oR := by
  cases av with
  | usl e sz l =>
    simp only [cellOf, Option.bind_eq_some_iff] at hc
    obtain ⟨r, hi, hk⟩ := hc
    simp only [RepC] at h
    rcases h with ⟨_, hl, _⟩ | ⟨g, hh, cp, cur, xs, o', hy, ho, hg, hcp, hsz, hr, hat⟩
    · subst hl; simp at hi
    · subst hy ho
      obtain ⟨z, o1, oc, o2, ho, hz, hcz, hput⟩ := hr.at hi hk
      subst ho
      have hcell := hat.get hz
      refine ⟨z, oc, g :: (o1 ++ o2), ?_, hcz, ?_, ?_, ?_, ?_⟩
      · simp only [cellV]; rw [← hcell, Nat.add_assoc]
      · intro b
        have := @mem_mid b o1 oc o2
        simp only [List.mem_cons]
        rw [this]
        constructor
        · rintro (h | h | h) <;> simp [h]
        · rintro (h | h | h) <;> simp [h]
      · intro hnd
        have hnd' := List.nodup_cons.1 hnd
        obtain ⟨h1, h2, h3⟩ := nodup_mid hnd'.2
        refine ⟨h1, fun b hb hb' => ?_⟩
        rcases List.mem_cons.1 hb' with rfl | hb'
        · exact hnd'.1 (mem_mid.2 (.inl hb))
        · exact h2 b hb hb'
      · intro w' Fz' c' oc' ag hc'
        have hb := ag.own g (by simp)
        refine ⟨g :: (o1 ++ (oc' ++ o2)), ?_, ?_, ?_⟩
        · simp only [setOf, RepC]
          refine .inr ⟨g, hh, cp, cur, xs, o1 ++ (oc' ++ o2), by simp, rfl, by rw [hb]; exact hg, by simpa using hcp, hsz, hput w' Fz' c' oc' (ag.sub (by simp +contextual)) hc', hat.of_block hb⟩
        · intro b
          have := @mem_mid b o1 oc' o2
          simp only [List.mem_cons]
          rw [this]
          constructor
          · rintro (h | h | h) <;> simp [h]
          · rintro (h | h | h) <;> simp [h]
        · intro hnd hoc hdj
          have hnd' := List.nodup_cons.1 hnd
          obtain ⟨_, _, h3⟩ := nodup_mid hnd'.2
          refine List.nodup_cons.2 ⟨fun hm => ?_, nodup_mk hoc (fun b hb hb' => hdj b hb (by simp [hb'])) h3⟩
          rcases mem_mid.1 hm with hm | hm
          · exact hdj g hm (by simp)
          · exact hnd'.1 (mem_mid.2 (.inr hm))
      · intro w' c' i' k' hkeep
        simp only [setOf, cellV]
        exact World.cell?_of_block (w := w) (hkeep g (by simp))
  | box e cs =>
    simp only [cellOf] at hc
    split at hc
    · rename_i hi0
      simp only [RepC] at h
      obtain ⟨g, xs, o', hy, ho, hg, hr⟩ := h
      subst hy ho
      obtain ⟨z, o1, oc, o2, ho, hz, hcz, hput⟩ := hr.at hc
      subst ho
      have hcell : w.cell? ⟨g, k, none⟩ = some z := by rw [cell_of_cells hg]; simpa using hz
      refine ⟨z, oc, g :: (o1 ++ o2), ?_, hcz, ?_, ?_, ?_, ?_⟩
      · simp only [cellV, Nat.zero_add]; exact hcell
      · intro b
        have := @mem_mid b o1 oc o2
        simp only [List.mem_cons]
        rw [this]
        constructor
        · rintro (h | h | h) <;> simp [h]
        · rintro (h | h | h) <;> simp [h]
      · intro hnd
        have hnd' := List.nodup_cons.1 hnd
        obtain ⟨h1, h2, h3⟩ := nodup_mid hnd'.2
        refine ⟨h1, fun b hb hb' => ?_⟩
        rcases List.mem_cons.1 hb' with rfl | hb'
        · exact hnd'.1 (mem_mid.2 (.inl hb))
        · exact h2 b hb hb'
      · intro w' Fz' c' oc' ag hc'
        have hb := ag.own g (by simp)
        refine ⟨g :: (o1 ++ (oc' ++ o2)), ?_, ?_, ?_⟩
        · simp only [setOf, RepC]
          exact ⟨g, xs, o1 ++ (oc' ++ o2), rfl, rfl, by rw [hb]; exact hg, hput w' Fz' c' oc' (ag.sub (by simp +contextual)) hc'⟩
        · intro b
          have := @mem_mid b o1 oc' o2
          simp only [List.mem_cons]
          rw [this]
          constructor
          · rintro (h | h | h) <;> simp [h]
          · rintro (h | h | h) <;> simp [h]
        · intro hnd hoc hdj
          have hnd' := List.nodup_cons.1 hnd
          obtain ⟨_, _, h3⟩ := nodup_mid hnd'.2
          refine List.nodup_cons.2 ⟨fun hm => ?_, nodup_mk hoc (fun b hb hb' => hdj b hb (by simp [hb'])) h3⟩
          rcases mem_mid.1 hm with hm | hm
          · exact hdj g hm (by simp)
          · exact hnd'.1 (mem_mid.2 (.inr hm))
      · intro w' c' i' k' hkeep
        simp only [setOf, cellV]
        exact World.cell?_of_block (w := w) (hkeep g (by simp))
    · simp at hc
  | v _ => simp [cellOf] at hc
  | fsl _ _ => simp [cellOf] at hc
  | fptr _ => simp [cellOf] at hc
  | dead => simp [cellOf] at hc
  | agg _ => simp [RepC] at h
  | ref _ _ _ _ => simp [RepC] at h
  | sref _ _ _ _ => simp [RepC] at h
  | clo _ _ => simp [RepC] at h
  | tup _ => simp [RepC] at h

theorem cellOf_setOf {av c c' : AV} {i k : Nat} (h : cellOf av i k = some c) : cellOf (setOf av i k c') i k = some c' := by
  cases av with
  | usl e sz l =>
    simp only [cellOf, Option.bind_eq_some_iff] at h
    obtain ⟨r, hi, hk⟩ := h
    have := (List.getElem?_eq_some_iff.1 hk).1
    simp [setOf, cellOf, hi, this]
  | box e cs =>
    simp only [cellOf] at h
    split at h
    · have := (List.getElem?_eq_some_iff.1 h).1
      rename_i hi; subst hi
      simp [setOf, cellOf, this]
    · simp at h
  | agg cs =>
    simp only [cellOf] at h
    split at h
    · have := (List.getElem?_eq_some_iff.1 h).1
      rename_i hi; subst hi
      simp [setOf, cellOf, this]
    · simp at h
  | tup cs =>
    simp only [cellOf] at h
    split at h
    · have := (List.getElem?_eq_some_iff.1 h).1
      rename_i hi; subst hi
      simp [setOf, cellOf, this]
    · simp at h
  | v _ => simp [cellOf] at h
  | fsl _ _ => simp [cellOf] at h
  | fptr _ => simp [cellOf] at h
  | dead => simp [cellOf] at h
  | ref _ _ _ _ => simp [cellOf] at h
  | sref _ _ _ _ => simp [cellOf] at h
  | clo _ _ => simp [cellOf] at h

theorem cellOf_setOf_ne {av c' : AV} {i k i' k' : Nat} (h : ¬ (i' = i ∧ k' = k)) : (∃ e sz l, av = .usl e sz l) → cellOf (setOf av i k c') i' k' = cellOf av i' k' := by
  rintro ⟨e, sz, l, rfl⟩
  simp only [setOf, cellOf, List.getElem?_modify]
  by_cases hi : i = i'
  · subst hi
    have hk : ¬ k = k' := fun e => h ⟨rfl, e.symm⟩
    cases l[i]? <;> simp [hk]
  · simp [hi]

theorem shapeOf_setOf (av : AV) (i k : Nat) (c : AV) : shapeOf (setOf av i k c) = shapeOf av := by
  cases av <;> simp [setOf, shapeOf]

/-- A place on a path: what is owned there, and what stands when it is replaced. -/
structure Spot (w : World) (Fz : Nat → Prop) (R : World → (Nat → Prop) → AV → Value → List Nat → Prop) (av0 : AV) (y0 : Value) (o0 : List Nat) (p : List (Nat × Nat)) (av : AV) (y : Value) (o oR : List Nat) : Prop where
  rep : RepC w Fz av y o
  mem : ∀ b, b ∈ o0 ↔ b ∈ o ∨ b ∈ oR
  dj : o0.Nodup → o.Nodup ∧ ∀ b ∈ o, b ∉ oR
  put : ∀ (w' : World) (Fz' : Nat → Prop) (av' : AV) (o' : List Nat), Agree w w' Fz Fz' oR → RepC w' Fz' av' y o' →
    ∃ o0', R w' Fz' (setC av0 p av') y0 o0' ∧ (∀ b, b ∈ o0' ↔ b ∈ o' ∨ b ∈ oR) ∧ (o0.Nodup → o'.Nodup → (∀ b ∈ o', b ∉ oR) → o0'.Nodup)
  wk : ∀ (w' : World) (av' : AV), (∀ b ∈ oR, w'.heap[b]? = w.heap[b]?) → ∀ q, walk w' (setC av0 p av') y0 (p ++ q) = walk w' av' y q
  pre : ∀ (w' : World) (av' : AV), (∀ b ∈ oR, w'.heap[b]? = w.heap[b]?) → ∀ q, q <+: p → ¬ p <+: q → walkSh w' (setC av0 p av') y0 q = walkSh w av0 y0 q

theorem RepC.spot {w : World} {Fz : Nat → Prop} : ∀ (p : List (Nat × Nat)) {av0 : AV} {y0 : Value} {o0 : List Nat} {av : AV} {y : Value}, RepC w Fz av0 y0 o0 → walk w av0 y0 p = some (av, y) →
    ∃ o oR, Spot w Fz RepC av0 y0 o0 p av y o oR
  | [], av0, y0, o0, av, y, h, hw => by
    simp only [walk, Option.some.injEq, Prod.mk.injEq] at hw
    obtain ⟨rfl, rfl⟩ := hw
    refine ⟨o0, [], h, by simp, fun hn => ⟨hn, by simp⟩, ?_, ?_, ?_⟩
    · intro w' Fz' av' o' _ h'
      exact ⟨o', by simpa [setC] using h', by simp, fun _ hn _ => hn⟩
    · intro w' av' _ q; simp [setC]
    · intro w' av' _ q hq hn; exact absurd List.nil_prefix hn
  | (i, k) :: p, av0, y0, o0, av, y, h, hw => by
    simp only [walk, Option.bind_eq_some_iff] at hw
    obtain ⟨c, hc, z, hz, hw⟩ := hw
    obtain ⟨z', oc, oR, C⟩ := h.cellAt hc
    have hzz : z' = z := by have := C.cv; rw [hz] at this; exact (Option.some.inj this).symm
    subst hzz
    obtain ⟨o, oR', S⟩ := RepC.spot p C.rep hw
    refine ⟨o, oR' ++ oR, S.rep, ?_, ?_, ?_, ?_, ?_⟩
    · intro b; rw [C.mem, S.mem, List.mem_append]; exact or_assoc
    · intro hn
      obtain ⟨h1, h2⟩ := C.dj hn
      obtain ⟨h3, h4⟩ := S.dj h1
      refine ⟨h3, fun b hb hb' => ?_⟩
      rcases List.mem_append.1 hb' with hb' | hb'
      · exact h4 b hb hb'
      · exact h2 b ((S.mem b).2 (.inl hb)) hb'
    · intro w' Fz' av' o' ag h'
      obtain ⟨oc', hr, hm, hnd⟩ := S.put w' Fz' av' o' (ag.sub (by simp +contextual)) h'
      obtain ⟨o0', hr0, hm0, hnd0⟩ := C.put w' Fz' _ oc' (ag.sub (by simp +contextual)) hr
      refine ⟨o0', ?_, ?_, ?_⟩
      · simp only [setC, hc]; exact hr0
      · intro b; rw [hm0, hm, List.mem_append]; exact or_assoc
      · intro hn ho' hdj
        obtain ⟨h1, h2⟩ := C.dj hn
        refine hnd0 hn (hnd h1 ho' fun b hb hb' => hdj b hb (by simp [hb'])) fun b hb hb' => ?_
        rcases (hm b).1 hb with hb | hb
        · exact hdj b hb (by simp [hb'])
        · exact h2 b ((S.mem b).2 (.inr hb)) hb'
    · intro w' av' hk q
      simp only [setC, hc, List.cons_append, walk, cellOf_setOf hc, Option.bind_some]
      rw [C.cv' w' _ i k (fun b hb => hk b (by simp [hb])), hz]
      simp only [Option.bind_some]
      exact S.wk w' av' (fun b hb => hk b (by simp [hb])) q
    · intro w' av' hk q hq hn
      cases q with
      | nil => simp [walkSh, walk, setC, hc, shapeOf_setOf]
      | cons ik q =>
        obtain ⟨rfl, hq'⟩ := List.cons_prefix_cons.1 hq
        have hn' : ¬ p <+: q := fun hh => hn (List.cons_prefix_cons.2 ⟨rfl, hh⟩)
        have := S.pre w' av' (fun b hb => hk b (by simp [hb])) q hq' hn'
        simp only [walkSh, walk, setC, hc, cellOf_setOf hc, Option.bind_some] at this ⊢
        rw [C.cv' w' _ i k (fun b hb => hk b (by simp [hb])), hz]
        simp only [Option.bind_some]
        exact this
end Go.AM
