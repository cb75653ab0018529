/- Own framework, part 5: the state of an activation: slots, owned memory, frozen memory; the three moves. -/
import Derived.Test.YtleomgfaplldiaaA4
namespace Go.AM
set_option linter.unusedVariables false
set_option linter.unusedSimpArgs false

/-- w' is w with new blocks, and with writes to the blocks W alone. -/
structure Ext (w w' : World) (W : List Nat) : Prop where
  os : w'.os = w.os
  tape : w'.tape = w.tape
  output : w'.output = w.output
  size : w.heap.size ≤ w'.heap.size
  blk : ∀ b, b < w.heap.size → b ∉ W → w'.heap[b]? = w.heap[b]?

theorem Ext.refl (w : World) (W : List Nat) : Ext w w W := ⟨rfl, rfl, rfl, Nat.le_refl _, fun _ _ _ => rfl⟩
theorem Ext.drew (w : World) (W : List Nat) : Ext w w.drew W := ⟨rfl, rfl, rfl, Nat.le_refl _, fun _ _ _ => rfl⟩
theorem Ext.alloc (w : World) (W : List Nat) (o : Obj) : Ext w (w.alloc o) W := ⟨rfl, rfl, rfl, by simp, fun b hb _ => Go.RowKit.Below.heap_alloc w o b hb⟩
theorem Ext.mono {w w' : World} {W W' : List Nat} (h : Ext w w' W) (hs : ∀ b, b ∈ W → b < w.heap.size → b ∈ W') : Ext w w' W' :=
  ⟨h.os, h.tape, h.output, h.size, fun b hb hn => h.blk b hb fun hm => hn (hs b hm hb)⟩
theorem Ext.trans {a b c : World} {W W' : List Nat} (h : Ext a b W) (k : Ext b c W') (hs : ∀ x, x ∈ W' → x < a.heap.size → x ∈ W) : Ext a c W :=
  ⟨k.os.trans h.os, k.tape.trans h.tape, k.output.trans h.output, Nat.le_trans h.size k.size,
   fun x hx hn => (k.blk x (Nat.lt_of_lt_of_le hx h.size) fun hm => hn (hs x hm hx)).trans (h.blk x hx hn)⟩

structure Ctx where
  w0 : World
  Fz : Nat → Prop
  own0 : List Nat
  /-- The slots that are never written. -/
  fx : Nat → Option Value

def frz (c : Ctx) (w : World) (X : Nat → Prop) (b : Nat) : Prop := b < w.heap.size ∧ (c.w0.heap.size ≤ b ∨ c.Fz b ∨ b ∈ c.own0) ∧ ¬ X b
def owned (own : Nat → List Nat) (lo : List Nat) (b : Nat) : Prop := (∃ k, b ∈ own k) ∨ b ∈ lo
def locs (st : Nat → AV) (tm : Nat → Value) (w : World) : Locs := fun n p => walkSh w (st n) (tm n) p
def upd {α : Type} (f : Nat → α) (d : Nat) (x : α) : Nat → α := fun k => if k = d then x else f k

structure Core (c : Ctx) (st : Nat → AV) (tm : Nat → Value) (w : World) (own : Nat → List Nat) (lo : List Nat) : Prop where
  fr : Ext c.w0 w c.own0
  rep : ∀ k, RepV w (frz c w (owned own lo)) (locs st tm w) (st k) (tm k) (own k)
  nd : ∀ k, (own k).Nodup
  dj : ∀ j k, j ≠ k → ∀ b ∈ own j, b ∉ own k
  lnd : lo.Nodup
  ldj : ∀ k, ∀ b ∈ own k, b ∉ lo
  old : ∀ b, owned own lo b → (b ∈ c.own0 ∨ c.w0.heap.size ≤ b) ∧ b < w.heap.size

theorem agree_frz {c : Ctx} {w w' : World} {X X' : Nat → Prop} {W oo : List Nat} (he : Ext w w' W) (hX : ∀ b, X' b → X b ∨ w.heap.size ≤ b) (hW : ∀ b, b ∈ W → b < w.heap.size → X b)
    (ho : ∀ b ∈ oo, b < w.heap.size ∧ b ∉ W) : Agree w w' (frz c w X) (frz c w' X') oo := by
  constructor
  · rintro b ⟨hb, hc, hn⟩
    refine ⟨⟨Nat.lt_of_lt_of_le hb he.size, hc, fun hx => ?_⟩, he.blk b hb fun hm => hn (hW b hm hb)⟩
    rcases hX b hx with h | h
    · exact hn h
    · omega
  · intro b hb
    exact he.blk b (ho b hb).1 (ho b hb).2

theorem walk_keepC {w w' : World} {Fz : Nat → Prop} : ∀ (q : List (Nat × Nat)) {av : AV} {y : Value} {o : List Nat}, RepC w Fz av y o → (∀ b ∈ o, w'.heap[b]? = w.heap[b]?) → walk w' av y q = walk w av y q
  | [], av, y, o, h, hk => rfl
  | (i, k) :: q, av, y, o, h, hk => by
    simp only [walk]
    cases hc : cellOf av i k with
    | none => rfl
    | some c =>
      simp only [Option.bind_some]
      obtain ⟨z, oc, oR, C⟩ := h.cellAt hc
      have e1 : ∀ c', cellV w' (setOf av i k c') y i k = cellV w' av y i k := by intro c'; cases av <;> cases y <;> first | rfl | (rename_i a; cases a <;> rfl) | (rename_i a _ _; cases a <;> rfl)
      have h1 := C.cv' w' c i k (fun b hb => hk b ((C.mem b).2 (.inr hb)))
      rw [e1] at h1
      rw [h1, C.cv]
      simp only [Option.bind_some]
      exact walk_keepC q C.rep (fun b hb => hk b ((C.mem b).2 (.inl hb)))

theorem walk_keepV {w w' : World} {Fz : Nat → Prop} {L : Locs} : ∀ (q : List (Nat × Nat)) (av : AV) {y : Value} {o : List Nat}, RepV w Fz L av y o → (∀ b ∈ o, w'.heap[b]? = w.heap[b]?) → walk w' av y q = walk w av y q
  | [], av, y, o, h, hk => by simp only [walk]
  | (i, k) :: q, .agg l, y, o, h, hk => by
    simp only [RepV] at h
    obtain ⟨xs, hx, h⟩ := h
    subst hx
    simp only [walk]
    cases hc : cellOf (.agg l) i k with
    | none => rfl
    | some c =>
      simp only [cellOf] at hc
      split at hc
      · rename_i hi
        obtain ⟨z, o1, oc, o2, ho, hz, hcz, _⟩ := h.at hc
        subst ho
        simp only [Option.bind_some, cellV, List.getElem?_toArray, hz]
        exact walk_keepV q c hcz (fun b hb => hk b (by simp [hb]))
      · simp at hc
  | (i, k) :: q, .tup l, y, o, h, hk => by
    simp only [RepV] at h
    obtain ⟨xs, hx, h⟩ := h
    subst hx
    simp only [walk]
    cases hc : cellOf (.tup l) i k with
    | none => rfl
    | some c =>
      simp only [cellOf] at hc
      split at hc
      · rename_i hi
        obtain ⟨z, o1, oc, o2, ho, hz, hcz, _⟩ := h.at hc
        subst ho
        simp only [Option.bind_some, cellV, List.getElem?_toArray, hz]
        exact walk_keepV q c hcz (fun b hb => hk b (by simp [hb]))
      · simp at hc
  | q, .usl e sz l, y, o, h, hk => by simp only [RepV] at h; exact walk_keepC q h hk
  | q, .box e c, y, o, h, hk => by simp only [RepV] at h; exact walk_keepC q h hk
  | (i, k) :: q, .v _, y, o, h, hk => by simp [walk, cellOf]
  | (i, k) :: q, .fsl _ _, y, o, h, hk => by simp [walk, cellOf]
  | (i, k) :: q, .fptr _, y, o, h, hk => by simp [walk, cellOf]
  | (i, k) :: q, .dead, y, o, h, hk => by simp [walk, cellOf]
  | (i, k) :: q, .ref _ _ _ _, y, o, h, hk => by simp [walk, cellOf]
  | (i, k) :: q, .sref _ _ _ _, y, o, h, hk => by simp [walk, cellOf]
  | (i, k) :: q, .clo _ _, y, o, h, hk => by simp [walk, cellOf]

theorem walkSh_kill {w : World} {K : Nat → List (Nat × Nat) → Bool} : ∀ (q : List (Nat × Nat)) (av : AV) (y : Value), walkSh w (killV K av) y q = walkSh w av y q
  | [], av, y => by simp [walkSh, walk, shapeOf_kill]
  | (i, k) :: q, av, y => by
    cases av with
    | ref n p i' k' => simp only [killV]; split <;> simp [walkSh, walk, cellOf]
    | sref n p i' k' => simp only [killV]; split <;> simp [walkSh, walk, cellOf]
    | agg l =>
      simp only [killV, walkSh, walk, cellOf]
      by_cases hi : i = 0
      · simp only [hi, if_true, killVs_get]
        cases hl : l[k]? with
        | none => simp
        | some c =>
          simp only [Option.map_some, Option.bind_some]
          have e : cellV w (.agg (killVs K l)) y 0 k = cellV w (.agg l) y 0 k := by cases y <;> rfl
          rw [e]
          cases cellV w (.agg l) y 0 k with
          | none => rfl
          | some z => exact walkSh_kill q c z
      · simp [hi]
    | tup l =>
      simp only [killV, walkSh, walk, cellOf]
      by_cases hi : i = 0
      · simp only [hi, if_true, killVs_get]
        cases hl : l[k]? with
        | none => simp
        | some c =>
          simp only [Option.map_some, Option.bind_some]
          have e : cellV w (.tup (killVs K l)) y 0 k = cellV w (.tup l) y 0 k := by cases y <;> rfl
          rw [e]
          cases cellV w (.tup l) y 0 k with
          | none => rfl
          | some z => exact walkSh_kill q c z
      · simp [hi]
    | _ => simp [killV, walkSh, walk, cellOf]

mutual
def bare : AV → Bool
  | .usl .. => false
  | .box .. => false
  | .agg l => bares l
  | .tup l => bares l
  | .v _ => true
  | .fsl .. => true
  | .fptr _ => true
  | .ref .. => true
  | .sref .. => true
  | .clo _ caps => bares caps
  | .dead => true
def bares : List AV → Bool
  | [] => true
  | c :: cs => bare c && bares cs
end

theorem bares_get : ∀ {l : List AV} {k : Nat} {c : AV}, bares l = true → l[k]? = some c → bare c = true
  | [], k, c, h, hk => by simp at hk
  | d :: l, 0, c, h, hk => by simp [bares] at h hk; rw [← hk]; exact h.1
  | d :: l, k + 1, c, h, hk => by simp [bares] at h hk; exact bares_get h.2 hk

theorem bare_walkSh {w : World} : ∀ (q : List (Nat × Nat)) (av : AV) (y : Value), bare av = true → walkSh w av y q = none
  | [], av, y, h => by cases av <;> simp [walkSh, walk, shapeOf, bare] at h ⊢
  | (i, k) :: q, av, y, h => by
    cases av with
    | agg l =>
      simp only [walkSh, walk, cellOf]
      by_cases hi : i = 0
      · simp only [hi, if_true]
        cases hl : l[k]? with
        | none => simp
        | some c =>
          simp only [Option.bind_some]
          cases cellV w (.agg l) y 0 k with
          | none => rfl
          | some z => exact bare_walkSh q c z (bares_get (by simpa [bare] using h) hl)
      · simp [hi]
    | tup l =>
      simp only [walkSh, walk, cellOf]
      by_cases hi : i = 0
      · simp only [hi, if_true]
        cases hl : l[k]? with
        | none => simp
        | some c =>
          simp only [Option.bind_some]
          cases cellV w (.tup l) y 0 k with
          | none => rfl
          | some z => exact bare_walkSh q c z (bares_get (by simpa [bare] using h) hl)
      · simp [hi]
    | usl _ _ _ => simp [bare] at h
    | box _ _ => simp [bare] at h
    | _ => simp [walkSh, walk, cellOf]

/-- Forget what slot d holds. -/
theorem Core.drop {c : Ctx} {st : Nat → AV} {tm : Nat → Value} {w : World} {own : Nat → List Nat} {lo : List Nat} (C : Core c st tm w own lo) (d : Nat) :
    Core c (fun k => killV (fun n _ => n == d) (upd st d .dead k)) tm w (upd own d []) lo := by
  have hX : ∀ b, owned (upd own d []) lo b → owned own lo b := by
    rintro b (⟨k, hk⟩ | hb)
    · by_cases h : k = d
      · simp [upd, h] at hk
      · exact .inl ⟨k, by simpa [upd, h] using hk⟩
    · exact .inr hb
  refine ⟨C.fr, ?_, ?_, ?_, C.lnd, ?_, fun b hb => C.old b (hX b hb)⟩
  · intro k
    by_cases h : k = d
    · simp [upd, h, killV, RepV]
    · simp only [upd, h, if_false]
      refine (C.rep k).keep (L := locs st tm w) ?_ _ _ _ ?_
      · intro n p r hK hl
        have hn : n ≠ d := by simpa using hK
        simp only [locs, walkSh_kill, upd, hn, if_false]
        exact hl
      · refine ⟨fun b hb => ⟨⟨hb.1, hb.2.1, fun hx => hb.2.2 (hX b hx)⟩, rfl⟩, fun _ _ => rfl⟩
  · intro k; by_cases h : k = d
    · simp [upd, h]
    · simpa [upd, h] using C.nd k
  · intro j k hjk b hb
    by_cases h : j = d
    · simp [upd, h] at hb
    · by_cases h' : k = d
      · simp [upd, h']
      · simp only [upd, h, h', if_false] at hb ⊢; exact C.dj j k hjk b hb
  · intro k b hb
    by_cases h : k = d
    · simp [upd, h] at hb
    · exact C.ldj k b (by simpa [upd, h] using hb)

/-- Put a value into slot d, which leads to nothing that is owned. -/
theorem Core.put {c : Ctx} {st : Nat → AV} {tm : Nat → Value} {w : World} {own : Nat → List Nat} {lo lo1 lo2 : List Nat} (C : Core c st tm w own lo) (hlo : ∀ b, b ∈ lo ↔ b ∈ lo1 ∨ b ∈ lo2) (h12 : ∀ b ∈ lo1, b ∉ lo2) (h1 : lo1.Nodup) (h2 : lo2.Nodup)
    {d : Nat} (hd : bare (st d) = true) (hod : own d = []) {av : AV} {x : Value} (hr : RepV w (frz c w (owned own lo)) (locs st tm w) av x lo1) :
    Core c (upd st d av) (upd tm d x) w (upd own d lo1) lo2 := by
  have hX : ∀ b, owned (upd own d lo1) lo2 b ↔ owned own lo b := by
    intro b
    constructor
    · rintro (⟨k, hk⟩ | hb)
      · by_cases h : k = d
        · simp [upd, h] at hk; exact .inr ((hlo b).2 (.inl hk))
        · exact .inl ⟨k, by simpa [upd, h] using hk⟩
      · exact .inr ((hlo b).2 (.inr hb))
    · rintro (⟨k, hk⟩ | hb)
      · by_cases h : k = d
        · rw [h, hod] at hk; simp at hk
        · exact .inl ⟨k, by simpa [upd, h] using hk⟩
      · rcases (hlo b).1 hb with hb | hb
        · exact .inl ⟨d, by simpa [upd] using hb⟩
        · exact .inr hb
  have hF : ∀ oo : List Nat, Agree w w (frz c w (owned own lo)) (frz c w (owned (upd own d lo1) lo2)) oo := fun oo =>
    ⟨fun b hb => ⟨⟨hb.1, hb.2.1, fun hx => hb.2.2 ((hX b).1 hx)⟩, rfl⟩, fun _ _ => rfl⟩
  have hL : ∀ n p r, (fun (_ : Nat) (_ : List (Nat × Nat)) => false) n p = false → locs st tm w n p = some r → locs (upd st d av) (upd tm d x) w n p = some r := by
    intro n p r _ hl
    by_cases h : n = d
    · subst h
      simp only [locs] at hl
      rw [bare_walkSh p _ _ hd] at hl
      simp at hl
    · simpa [locs, upd, h] using hl
  refine ⟨C.fr, ?_, ?_, ?_, h2, ?_, fun b hb => C.old b ((hX b).1 hb)⟩
  · intro k
    by_cases h : k = d
    · subst h
      have := hr.keep hL _ _ _ (hF _)
      rw [killV_none] at this
      simpa [upd] using this
    · have := (C.rep k).keep hL _ _ _ (hF _)
      rw [killV_none] at this
      simpa [upd, h] using this
  · intro k; by_cases h : k = d
    · simpa [upd, h] using h1
    · simpa [upd, h] using C.nd k
  · intro j k hjk b hb
    by_cases h : j = d
    · by_cases h' : k = d
      · exact absurd (h.trans h'.symm) hjk
      · simp only [upd, h, h', if_true, if_false] at hb ⊢
        exact fun hk => C.ldj k b hk ((hlo b).2 (.inl hb))
    · by_cases h' : k = d
      · simp only [upd, h, h', if_true, if_false] at hb ⊢
        exact fun hk => C.ldj j b hb ((hlo b).2 (.inl hk))
      · simp only [upd, h, h', if_false] at hb ⊢; exact C.dj j k hjk b hb
  · intro k b hb
    by_cases h : k = d
    · simp only [upd, h, if_true] at hb; exact h12 b hb
    · exact fun hb2 => C.ldj k b (by simpa [upd, h] using hb) ((hlo b).2 (.inr hb2))

/-- The world goes on: new blocks, writes to what is loose. -/
theorem Core.world {c : Ctx} {st : Nat → AV} {tm : Nat → Value} {w w' : World} {own : Nat → List Nat} {lo lo' : List Nat} (C : Core c st tm w own lo) (he : Ext w w' lo)
    (hnd : lo'.Nodup) (hlo : ∀ b ∈ lo', (b ∈ lo ∨ w.heap.size ≤ b) ∧ b < w'.heap.size) : Core c st tm w' own lo' := by
  have hX : ∀ b, owned own lo' b → owned own lo b ∨ w.heap.size ≤ b := by
    rintro b (⟨k, hk⟩ | hb)
    · exact .inl (.inl ⟨k, hk⟩)
    · rcases (hlo b hb).1 with h | h
      · exact .inl (.inr h)
      · exact .inr h
  have hk : ∀ k, ∀ b ∈ own k, b < w.heap.size ∧ b ∉ lo := fun k b hb => ⟨(C.old b (.inl ⟨k, hb⟩)).2, C.ldj k b hb⟩
  have hL : ∀ n p r, (fun (_ : Nat) (_ : List (Nat × Nat)) => false) n p = false → locs st tm w n p = some r → locs st tm w' n p = some r := by
    intro n p r _ hl
    simp only [locs, walkSh] at hl ⊢
    rw [walk_keepV p _ (C.rep n) (fun b hb => he.blk b (hk n b hb).1 (hk n b hb).2)]
    exact hl
  refine ⟨?_, ?_, C.nd, C.dj, hnd, ?_, ?_⟩
  · refine C.fr.trans he ?_
    intro b hb hlt
    rcases (C.old b (.inr hb)).1 with h | h
    · exact h
    · omega
  · intro k
    have := (C.rep k).keep hL _ _ _ (agree_frz (c := c) (X := owned own lo) (X' := owned own lo') he hX (fun b hb _ => .inr hb) (hk k))
    rw [killV_none] at this
    exact this
  · intro k b hb hb'
    rcases (hlo b hb').1 with h | h
    · exact C.ldj k b hb h
    · have := (hk k b hb).1; omega
  · rintro b (⟨k, hk'⟩ | hb)
    · have := C.old b (.inl ⟨k, hk'⟩)
      exact ⟨this.1, Nat.lt_of_lt_of_le this.2 he.size⟩
    · refine ⟨?_, (hlo b hb).2⟩
      rcases (hlo b hb).1 with h | h
      · exact (C.old b (.inr h)).1
      · exact .inr (Nat.le_trans C.fr.size h)
end Go.AM
