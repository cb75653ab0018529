/- Own framework, part 7: reading a slot (what is owned is lent), taking what is owned out of its place, putting into a slot. -/
import Derived.Test.YtleomgfaplldiaaA6
namespace Go.AM
set_option linter.unusedVariables false
set_option linter.unusedSimpArgs false

abbrev St := Nat → AV
abbrev K := St → Prop

def tmOf (a : Act) (k : Nat) : Value := a.tmps.getD k undef

def Slots (c : Ctx) (N : Nat) (a : Act) : Prop := a.tmps.size = N ∧ ∀ k v, c.fx k = some v → tmOf a k = v

structure Sim (c : Ctx) (N : Nat) (st : St) (a : Act) (w : World) : Prop where
  defers : a.defers = []
  size : Slots c N a
  core : ∃ own, Core c st (tmOf a) w own []

theorem walk_append {w : World} : ∀ (p q : List (Nat × Nat)) (av : AV) (y : Value), walk w av y (p ++ q) = (walk w av y p).bind fun r => walk w r.1 r.2 q
  | [], q, av, y => by simp [walk]
  | (i, k) :: p, q, av, y => by
    simp only [List.cons_append, walk]
    cases cellOf av i k with
    | none => rfl
    | some c =>
      simp only [Option.bind_some]
      cases cellV w av y i k with
      | none => rfl
      | some z => simp only [Option.bind_some]; exact walk_append p q c z

theorem walkSh_append {w : World} {p q : List (Nat × Nat)} {av c : AV} {y z : Value} (h : walk w av y p = some (c, z)) : walkSh w av y (p ++ q) = walkSh w c z q := by
  simp [walkSh, walk_append, h]

mutual
def brw (n : Nat) (p : List (Nat × Nat)) : AV → AV
  | .usl e sz l => .sref n p 0 l.length
  | .box e c => .ref n p 0 0
  | .agg l => .agg (brws n p 0 0 l)
  | .tup l => if bares l then .tup l else .dead
  | .clo f caps => if bares caps then .clo f caps else .dead
  | .v y => .v y
  | .fsl sz l => .fsl sz l
  | .fptr c => .fptr c
  | .ref n p i k => .ref n p i k
  | .sref n p o l => .sref n p o l
  | .dead => .dead
def brws (n : Nat) (p : List (Nat × Nat)) (i : Nat) (j : Nat) : List AV → List AV
  | [] => []
  | c :: cs => brw n (p ++ [(i, j)]) c :: brws n p i (j + 1) cs
end

mutual
theorem bare_own {w : World} {Fz : Nat → Prop} {L : Locs} : ∀ (av : AV) {x : Value} {o : List Nat}, RepV w Fz L av x o → bare av = true → o = []
  | .agg l, x, o, h, hb => by simp only [RepV] at h; obtain ⟨xs, _, h⟩ := h; exact bares_own l h (by simpa [bare] using hb)
  | .tup l, x, o, h, hb => by simp only [RepV] at h; obtain ⟨xs, _, h⟩ := h; exact bares_own l h (by simpa [bare] using hb)
  | .clo f l, x, o, h, hb => by
    simp only [RepV] at h; obtain ⟨xs, _, h⟩ := h
    exact bares_own l h (by simpa [bare] using hb)
  | .v _, x, o, h, _ => by simp only [RepV, RepC] at h; exact h.2.2
  | .fsl _ _, x, o, h, _ => by simp only [RepV, RepC] at h; exact h.1
  | .fptr _, x, o, h, _ => by simp only [RepV, RepC] at h; exact h.1
  | .ref _ _ _ _, x, o, h, _ => by simp only [RepV] at h; exact h.1
  | .sref _ _ _ _, x, o, h, _ => by simp only [RepV] at h; exact h.1
  | .dead, x, o, h, _ => by simpa only [RepV] using h
  | .usl _ _ _, x, o, h, hb => by simp [bare] at hb
  | .box _ _, x, o, h, hb => by simp [bare] at hb
theorem bares_own {w : World} {Fz : Nat → Prop} {L : Locs} : ∀ (l : List AV) {xs : List Value} {o : List Nat}, RepVs w Fz L l xs o → bares l = true → o = []
  | [], xs, o, h, _ => by simp only [RepVs] at h; exact h.2
  | c :: cs, xs, o, h, hb => by
    simp only [RepVs] at h
    obtain ⟨x, xs', o1, o2, _, ho, hc, hr⟩ := h
    simp only [bares, Bool.and_eq_true] at hb
    rw [ho, bare_own c hc hb.1, bares_own cs hr hb.2]
    rfl
end

mutual
theorem brw_rep {w : World} {Fz : Nat → Prop} {L : Locs} {n : Nat} : ∀ (av : AV) {p : List (Nat × Nat)} {y : Value} {o : List Nat}, RepV w Fz L av y o → (∀ q r, walkSh w av y q = some r → L n (p ++ q) = some r) → RepV w Fz L (brw n p av) y []
  | .usl e sz l, p, y, o, h, hL => by
    have h0 := hL [] (⟨false, sz, l.length⟩, y) (by simp [walkSh, walk, shapeOf])
    simp only [List.append_nil] at h0
    simp only [brw, RepV, RepC] at h ⊢
    refine ⟨trivial, _, y, h0, rfl, by simp, ?_⟩
    rcases h with ⟨h1, h2, _⟩ | ⟨g, hh, c, cur, xs, o', hy, _, _, hc, _⟩
    · subst h2; exact .inl ⟨h1, h1, rfl, rfl⟩
    · exact .inr ⟨g, hh * sz, l.length, c, 0, c, hy, by simpa using hy, hc, by simp, .inl ⟨rfl, by simp⟩⟩
  | .box e c, p, y, o, h, hL => by
    have h0 := hL [] (⟨true, c.length, 1⟩, y) (by simp [walkSh, walk, shapeOf])
    simp only [List.append_nil] at h0
    simp only [brw, RepV, RepC] at h ⊢
    obtain ⟨g, xs, o', hy, _⟩ := h
    refine ⟨trivial, _, y, g, 0, h0, by simp [hy, addrOf], by simp, ?_⟩
    exact ⟨by simp, by simpa using hy⟩
  | .agg l, p, y, o, h, hL => by
    simp only [brw, RepV] at h ⊢
    obtain ⟨xs, hx, h⟩ := h
    subst hx
    refine ⟨xs, rfl, brws_rep l h ?_⟩
    intro j c z hc hz q r hr
    have := hL ((0, j) :: q) r (by
      simp only [walkSh, walk, cellOf, cellV, if_true, hc, hz, Option.bind_some, List.getElem?_toArray]
      exact hr)
    simpa using this
  | .tup l, p, y, o, h, hL => by
    simp only [brw]
    split
    · rename_i hb
      have := bare_own (.tup l) h (by simp [bare, hb])
      subst this
      exact h
    · simp [RepV]
  | .clo f caps, p, y, o, h, hL => by
    simp only [brw]
    split
    · rename_i hb
      have := bare_own (.clo f caps) h (by simp [bare, hb])
      subst this
      exact h
    · simp [RepV]
  | .v _, p, y, o, h, hL => by have := bare_own _ h rfl; subst this; exact h
  | .fsl _ _, p, y, o, h, hL => by have := bare_own _ h rfl; subst this; exact h
  | .fptr _, p, y, o, h, hL => by have := bare_own _ h rfl; subst this; exact h
  | .ref _ _ _ _, p, y, o, h, hL => by have := bare_own _ h rfl; subst this; exact h
  | .sref _ _ _ _, p, y, o, h, hL => by have := bare_own _ h rfl; subst this; exact h
  | .dead, p, y, o, h, hL => by simp [brw, RepV]
theorem brws_rep {w : World} {Fz : Nat → Prop} {L : Locs} {n : Nat} : ∀ (l : List AV) {p : List (Nat × Nat)} {i : Nat} {j : Nat} {xs : List Value} {o : List Nat}, RepVs w Fz L l xs o →
    (∀ m c z, l[m]? = some c → xs[m]? = some z → ∀ q r, walkSh w c z q = some r → L n (p ++ [(i, j + m)] ++ q) = some r) → RepVs w Fz L (brws n p i j l) xs []
  | [], p, i, j, xs, o, h, hL => by simp only [RepVs] at h; simp [brws, RepVs, h.1]
  | c :: cs, p, i, j, xs, o, h, hL => by
    simp only [RepVs, brws] at h ⊢
    obtain ⟨x, xs', o1, o2, hx, ho, hc, hr⟩ := h
    subst hx
    refine ⟨x, xs', [], [], rfl, rfl, brw_rep c hc ?_, brws_rep cs hr ?_⟩
    · intro q r hq; exact hL 0 c x (by simp) (by simp) q r hq
    · intro m c' z hm hz q r hq
      have := hL (m + 1) c' z (by simpa using hm) (by simpa using hz) q r hq
      rw [show j + (m + 1) = j + 1 + m from by omega] at this
      exact this
end

inductive Opd where
  | t (n : Nat)
  | c (v : Value)
  | nils (e sz : Nat)
  | fn (f : Nat)

def rd (st : St) : Opd → AV
  | .t n => brw n [] (st n)
  | .c v => .v v
  | .nils e sz => .usl e sz []
  | .fn f => .clo f []

/-- Does an operand of the program fit one of ours? -/
def mOpd : Operand → Opd → Bool
  | .tmp t, .t n => t == n
  | .const (.int k a), .c (.int k' a') => k == k' && a == a'
  | .const (.bool b), .c (.bool b') => b == b'
  | .const (.string s), .c (.string s') => s.data.toList == s'.data.toList
  | .const (.pointer none), .c (.pointer none) => true
  | .const .nilIface, .c .nilIface => true
  | .const .nilFunc, .c .nilFunc => true
  | .const (.slice none 0 0), .nils _ _ => true
  | .func f, .fn f' => f == f'
  | _, _ => false

theorem rd_rep {c : Ctx} {st : St} {a : Act} {w : World} {own : Nat → List Nat} {lo : List Nat} (C : Core c st (tmOf a) w own lo) {x : Operand} {y : Opd} (h : mOpd x y = true) :
    RepV w (frz c w (owned own lo)) (locs st (tmOf a) w) (rd st y) (a.eval x) [] := by
  unfold mOpd at h
  split at h
  · rename_i t n
    simp at h; subst h
    have h1 := brw_rep (L := locs st (tmOf a) w) (n := t) (p := []) (st t) (C.rep t) (fun q r hq => by rw [List.nil_append]; exact hq)
    exact h1
  all_goals first
    | (simp only [Bool.and_eq_true, beq_iff_eq] at h; obtain ⟨rfl, rfl⟩ := h; simp [rd, RepV, RepC, Act.eval, Value.oneCell']; done)
    | (simp only [beq_iff_eq] at h; subst h; simp [rd, RepV, RepVs, RepC, Act.eval, Value.oneCell']; done)
    | (simp [rd, RepV, RepVs, RepC, Act.eval, Value.oneCell']; done)
    | (rename_i s s'; simp only [beq_iff_eq] at h; obtain rfl : s = s' := (by cases s; cases s'; simp only [ByteArray.mk.injEq]; exact Array.toList_inj.1 h); simp [rd, RepV, RepC, Act.eval, Value.oneCell']; done)
    | (cases h; done)

/-! ### Putting into a slot -/

def dropK (d : Nat) : Nat → List (Nat × Nat) → Bool := fun n _ => n == d
def dropS (d : Nat) (st : St) : St := fun k => killV (dropK d) (upd st d .dead k)

def putS (st : St) (d : Option Nat) (av : AV) (k : K) : Prop :=
  match d with
  | none => bare av = true ∧ k st
  | some d => if bare (st d) then k (upd st d av) else k (upd (dropS d st) d (killV (dropK d) av))

theorem tmOf_put {a : Act} {d : Nat} {x : Value} (h : d < a.tmps.size) : tmOf (a.put (some d) x) = upd (tmOf a) d x := by
  funext k
  by_cases hk : k = d
  · subst hk; simp [tmOf, Act.put, upd, h]
  · simp only [tmOf, Act.put, upd, hk, if_false, Array.getD_eq_getD_getElem?]
    rw [Array.getElem?_setIfInBounds_ne (by omega)]

theorem putS_sound {c : Ctx} {N : Nat} {st : St} {a : Act} {w : World} {own : Nat → List Nat} {lo : List Nat} (hd : a.defers = []) (hs : Slots c N a)
    (C : Core c st (tmOf a) w own lo) {av : AV} {x : Value} (hr : RepV w (frz c w (owned own lo)) (locs st (tmOf a) w) av x lo) {d : Option Nat} (hN : ∀ e, d = some e → e < N ∧ c.fx e = none) {k : K} (h : putS st d av k) :
    ∃ st', Sim c N st' (a.put d x) w ∧ k st' := by
  cases d with
  | none =>
    simp only [putS] at h
    have := bare_own av hr h.1
    subst this
    exact ⟨st, ⟨hd, hs, own, C⟩, h.2⟩
  | some d =>
    obtain ⟨hdN, hdx⟩ := hN d rfl
    obtain ⟨hs, hfx⟩ := hs
    have hfx' : ∀ k v, c.fx k = some v → tmOf (a.put (some d) x) k = v := by
      intro k v hk
      rw [tmOf_put (by omega)]
      have : k ≠ d := by intro e; rw [e, hdx] at hk; cases hk
      simp only [upd, this, if_false]
      exact hfx k v hk
    simp only [putS] at h
    have fin : ∀ (st1 : St) (own1 : Nat → List Nat) (av1 : AV), Core c st1 (tmOf a) w own1 lo → bare (st1 d) = true → own1 d = [] → RepV w (frz c w (owned own1 lo)) (locs st1 (tmOf a) w) av1 x lo →
        Sim c N (upd st1 d av1) (a.put (some d) x) w := by
      intro st1 own1 av1 C1 hb ho hr1
      have := C1.put (lo1 := lo) (lo2 := []) (by simp) (by simp) C1.lnd (by simp) hb ho hr1
      refine ⟨by simpa [Act.put] using hd, ⟨by simpa [Act.put] using hs, hfx'⟩, upd own1 d lo, ?_⟩
      rw [tmOf_put (by omega)]
      exact this
    split at h
    · rename_i hb
      exact ⟨_, fin st own av C hb (bare_own (st d) (C.rep d) hb) hr, h⟩
    · rename_i hb
      have C1 := C.drop d
      refine ⟨_, fin (dropS d st) (upd own d []) (killV (dropK d) av) C1 (by simp [dropS, upd, killV, bare]) (by simp [upd]) ?_, h⟩
      refine hr.keep (L := locs st (tmOf a) w) ?_ _ _ _ ?_
      · intro n p r hK hl
        have hn : n ≠ d := by simpa [dropK] using hK
        simp only [locs, dropS, walkSh_kill, upd, hn, if_false]
        exact hl
      · refine ⟨fun b hb => ⟨⟨hb.1, hb.2.1, fun hx => hb.2.2 ?_⟩, rfl⟩, fun _ _ => rfl⟩
        rcases hx with ⟨k, hk⟩ | hx
        · by_cases h : k = d
          · simp [upd, h] at hk
          · exact .inl ⟨k, by simpa [upd, h] using hk⟩
        · exact .inr hx
end Go.AM
