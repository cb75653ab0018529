/- Own framework, part 21: regions and code. -/
import Derived.Test.YtleomgfaplldiaaC2
import Derived.Deep.LoopGhost
import Derived.Deep.Quiet
namespace Go.AM
set_option linter.unusedVariables false
set_option linter.unusedSimpArgs false

def gV (st : St) (g : Option (Nat × Bool)) (yes no : Prop) : Prop :=
  match g with
  | none => yes
  | some (s, want) => match st s with
    | .v (.bool b) => if b = want then yes else no
    | .tup [] => no
    | _ => False

def oV (P : Program) (m : MO) (st : St) (k : K) : Prop :=
  match m.i with
  | .q q => mqV q st fun av => putS st m.d av k
  | .a x => maV P x st m.d k

def opsV (P : Program) : List MO → K → K
  | [], k, st => k st
  | m :: ms, k, st => gV st m.g (oV P m st (opsV P ms k)) (putS st m.d (.tup []) (opsV P ms k))

def lendAll : List Arg → Bool
  | [] => true
  | .lend _ :: as => lendAll as
  | .give _ :: _ => false
  | .io _ :: _ => false

/-- A call in a region whose order is drawn: it only reads, and what it hands back is a scalar. -/
def dcallV (P : Program) (y : Opd) (al : Bool) (as : List Arg) (st : St) (k : AV → Prop) : Prop :=
  match calleeV st y with
  | some (f, caps) => lendAll as = true ∧ (al = true → lendPlain st as = true) ∧ ∃ val, scal val = true ∧ Does P f (argL st as (as.map fun _ => .dead) ++ caps) al (.v val) (outL .dead as ++ caps.map fun _ => AV.dead) ∧ k (.v val)
  | none => False

def dV (P : Program) (m : MO) (st : St) (k : AV → Prop) : Prop :=
  match m.i with
  | .q q => mqV q st k
  | .a (.call y al as) => dcallV P y al as st k
  | .a _ => False

def dopsV (P : Program) : List MO → K → K
  | [], k, st => k st
  | m :: ms, k, st => gV st m.g (dV P m st fun av => putS st m.d av (dopsV P ms k)) (putS st m.d (.tup []) (dopsV P ms k))

def mO (P : Program) (N : Nat) (fx : List Nat) (ops : Array Oper) (o : Oper) (m : MO) : Bool :=
  (o.dst == m.d) && (match m.d with | some d => decide (d < N) && !fx.contains d | none => true) &&
  (match m.g with
   | none => o.guard.isNone
   | some (s, want') => (match o.guard with
     | some (j, want) => want == want' && decide (s < N) && (match ops[j]? with | some oj => oj.dst == some s | none => false)
     | none => false)) &&
  (match m.i with | .q q => mQ P o.op q | .a x => mA P o.op x)

def mOs (P : Program) (N : Nat) (fx : List Nat) (ops : Array Oper) : List Oper → List MO → Bool
  | [], [] => true
  | o :: os, m :: ms => mO P N fx ops o m && mOs P N fx ops os ms
  | _, _ => false

section
variable {P : Program} {o : Oper} {c : Ctx} {N : Nat} {st : St} {a : Act} {w : World} {ops : Array Oper} {Q : Exit → Act → World → Prop} {fx : List Nat}

theorem fin_q (S : Sim c N st a w) {own : Nat → List Nat} (C : Core c st (tmOf a) w own []) (hN : ∀ e, o.dst = some e → e < N ∧ c.fx e = none) {k : K} (h : QRes P o c st a w own [] fun av => putS st o.dst av k) : Ok P c N a w o k Q := by
  obtain ⟨x, av, hrun, hr, hk⟩ := h
  unfold Ok Oper.wp
  rw [hrun w (fun _ _ _ => rfl)]
  exact putS_sound S.defers S.size C hr hN hk

theorem put_undef (S : Sim c N st a w) (hN : ∀ e, o.dst = some e → e < N ∧ c.fx e = none) {k : K} (h : putS st o.dst (.tup []) k) : ∃ st', Sim c N st' (a.put o.dst undef) w ∧ k st' := by
  obtain ⟨own, C⟩ := S.core
  exact putS_sound S.defers S.size C (by simp [RepV, RepVs, undef]) hN h

theorem mO_spec {m : MO} (h : mO P N fx ops o m = true) (hfx : ∀ e, c.fx e ≠ none → e ∈ fx) :
    m.d = o.dst ∧ (∀ e, o.dst = some e → e < N ∧ c.fx e = none) ∧ (match m.i with | .q q => mQ P o.op q | .a x => mA P o.op x) = true := by
  simp only [mO, Bool.and_eq_true, beq_iff_eq] at h
  obtain ⟨⟨⟨h1, h2⟩, h3⟩, h4⟩ := h
  refine ⟨h1.symm, ?_, h4⟩
  intro e he
  rw [← h1, he] at h2
  simp only [Bool.and_eq_true, decide_eq_true_eq, Bool.not_eq_true'] at h2
  refine ⟨h2.1, ?_⟩
  cases hc : c.fx e with
  | none => rfl
  | some v =>
    have := hfx e (by simp [hc])
    simp [this] at h2

/-- The guard, seen from the state. -/
theorem guard_sound (S : Sim c N st a w) {m : MO} (h : mO P N fx ops o m = true) {yes no : Prop} (hg : gV st m.g yes no) :
    if Region.wanted o (yielded ops a.tmps) = true then yes else no := by
  simp only [mO, Bool.and_eq_true, beq_iff_eq] at h
  obtain ⟨⟨⟨_, _⟩, h3⟩, _⟩ := h
  unfold gV at hg
  split at hg
  · rename_i hm
    rw [hm] at h3
    have : o.guard = none := by simpa using h3
    simp only [Region.wanted, this, if_true]
    exact hg
  · rename_i s want hm
    rw [hm] at h3
    simp only at h3
    split at h3
    rotate_left
    · cases h3
    rename_i j want' hgd
    simp only [Bool.and_eq_true, beq_iff_eq, decide_eq_true_eq] at h3
    obtain ⟨⟨rfl, hs⟩, h3⟩ := h3
    split at h3
    rotate_left
    · cases h3
    rename_i oj hoj
    simp only [beq_iff_eq] at h3
    obtain ⟨own, C⟩ := S.core
    have hr := C.rep s
    have hsz : s < a.tmps.size := by rw [S.size.1]; exact hs
    have hy : yielded ops a.tmps j = match tmOf a s with | .bool b => some b | _ => none := by
      simp only [yielded, hoj, Option.bind_some, h3, tmOf]
      rw [Array.getElem?_eq_getElem hsz]
      simp only [Array.getD_eq_getD_getElem?, Array.getElem?_eq_getElem hsz, Option.getD_some]
      cases a.tmps[s] <;> rfl
    simp only [Region.wanted, hgd, hy]
    split at hg
    · rename_i b hb
      rw [hb] at hr
      simp only [RepV, RepC] at hr
      rw [hr.1]
      simp only [beq_iff_eq, Option.some.injEq]
      exact hg
    · rename_i hb
      rw [hb] at hr
      simp only [RepV, RepVs] at hr
      obtain ⟨xs, hx, hxs, _⟩ := hr
      rw [hx]
      simp only [reduceCtorEq, beq_iff_eq, if_false]
      exact hg
    · exact hg.elim

theorem ops_sound (hfx : ∀ e, c.fx e ≠ none → e ∈ fx) {k : K} (hQ : ∀ st a w, Sim c N st a w → k st → Q .normal a w) : ∀ (l : List Oper) (ms : List MO) (st : St) (a : Act) (w : World), mOs P N fx ops l ms = true → Sim c N st a w → opsV P ms k st → wpList P ops Q l a w
  | [], [], st, a, w, _, S, h => hQ _ _ _ S h
  | [], _ :: _, st, a, w, hm, S, h => by simp [mOs] at hm
  | _ :: _, [], st, a, w, hm, S, h => by simp [mOs] at hm
  | o :: l, m :: ms, st, a, w, hm, S, h => by
    simp only [mOs, Bool.and_eq_true] at hm
    obtain ⟨h1, h2⟩ := hm
    obtain ⟨hd, hN, hi⟩ := mO_spec h1 hfx
    refine wpList_step ?_
    intro K hK
    simp only [opsV] at h
    have hg := guard_sound S h1 h
    by_cases hw : Region.wanted o (yielded ops a.tmps) = true
    · rw [if_pos hw] at hg ⊢
      have hok : Ok P c N a w o (opsV P ms k) Q := by
        unfold oV at hg
        rw [hd] at hg
        cases hmi : m.i with
        | q q =>
          rw [hmi] at hg hi
          obtain ⟨own, C⟩ := S.core
          exact fin_q S C hN (q_sound C hi hg)
        | a x =>
          rw [hmi] at hg hi
          exact a_sound S hN hi hg
      refine Oper.wp_mono ?_ hok
      rintro a' w' ⟨st', S', h'⟩
      exact hK _ _ (ops_sound hfx hQ l ms st' a' w' h2 S' h')
    · rw [if_neg hw] at hg ⊢
      rw [hd] at hg
      obtain ⟨st', S', h'⟩ := put_undef S hN hg
      exact hK _ _ (ops_sound hfx hQ l ms st' _ w h2 S' h')

theorem Sim.world {w' : World} (S : Sim c N st a w) (he : Ext w w' []) : Sim c N st a w' := by
  obtain ⟨own, C⟩ := S.core
  exact ⟨S.defers, S.size, own, C.world (lo' := []) he (by simp) (by simp)⟩

theorem giveS_lend {st : St} : ∀ {as : List Arg}, lendAll as = true → giveS st as = some (as.map fun _ => .dead, st) ∧ ioAll st as = []
  | [], _ => ⟨rfl, rfl⟩
  | .lend y :: as, h => by
    obtain ⟨h1, h2⟩ := giveS_lend (st := st) (as := as) (by simpa [lendAll] using h)
    simp [giveS, h1, ioAll, h2]
  | .give _ :: _, h => by simp [lendAll] at h
  | .io _ :: _, h => by simp [lendAll] at h

theorem quiet_call {own : Nat → List Nat} (S : Sim c N st a w) {y : Opd} {al : Bool} {as : List Arg} (hm : mA P o.op (.call y al as) = true) {k : AV → Prop} (h : dcallV P y al as st k) :
    ∃ val, (∀ w', Ext w w' [] → o.quietAt P a (fun w' => Ext w w' []) w' val) ∧ scal val = true ∧ k (.v val) := by
  unfold dcallV at h
  split at h
  rotate_left
  · exact h.elim
  rename_i f caps hcal
  obtain ⟨hla, hal, val, hsc, hcon, hk⟩ := h
  refine ⟨val, ?_, hsc, hk⟩
  intro w' hE
  obtain ⟨own, C⟩ := (S.world hE).core
  simp only [mA] at hm
  split at hm
  rotate_left
  · cases hm
  rename_i cl ho
  simp only [Bool.and_eq_true] at hm
  obtain ⟨h1, h2⟩ := hm
  split at h1
  rotate_left
  · cases h1
  rename_i yy hcal'
  have ho' : o.op = .call { callee := .value yy, args := cl.args.toList.toArray, argTypes := cl.argTypes } := by
    rw [ho]; congr 1
    obtain ⟨ca, ar, at'⟩ := cl
    simp only at hcal'
    rw [hcal', Array.toArray_toList]
  obtain ⟨hgv, hio⟩ := giveS_lend (st := st) hla
  obtain ⟨own1, C1, hg, _⟩ := give_sound C h2 hgv
  unfold calleeV at hcal
  split at hcal
  rotate_left
  · cases hcal
  rename_i f' caps' hrd
  split at hcal
  rotate_left
  · cases hcal
  rename_i hpl
  simp only [Option.some.injEq, Prod.mk.injEq] at hcal
  obtain ⟨rfl, rfl⟩ := hcal
  have ry := rd_rep C1 h1
  rw [hrd] at ry
  have ry2 := plain_rep (L' := noL) (.clo f' caps') ry (by simpa [plain] using hpl) ⟨fun b hb => ⟨hb, rfl⟩, fun _ _ => rfl⟩
  simp only [RepV] at ry2
  obtain ⟨cv, hcv, hrcv⟩ := ry2
  have hcall := core_call0 C1 h2 hg hio hal hrcv hcon.2
  unfold Oper.quietAt
  rw [run_call hcon.1 ho' hcv]
  simp only [Oper.quietUpon, true_and]
  refine hcall.mono ?_
  rintro e w'' ⟨x, ox, rfl, hE2, C2, hr⟩
  simp only [RepV, RepC] at hr
  rw [hr.1]
  exact ⟨rfl, hE.trans hE2 (by simp)⟩

theorem wpQuiet_mono {C : World → Prop} {Q1 Q2 : Act → Prop} (h : ∀ a, Q1 a → Q2 a) : ∀ (l : List Oper) (a : Act), wpQuiet P ops C Q1 l a → wpQuiet P ops C Q2 l a
  | [], a, hh => h a hh
  | o :: l, a, hh => by
    simp only [wpQuiet] at hh ⊢
    split
    · rename_i hw; rw [if_pos hw] at hh; obtain ⟨v, h1, h2⟩ := hh; exact ⟨v, h1, wpQuiet_mono h l _ h2⟩
    · rename_i hw; rw [if_neg hw] at hh; exact wpQuiet_mono h l _ hh

theorem dops_sound (hfx : ∀ e, c.fx e ≠ none → e ∈ fx) {k : K} : ∀ (l : List Oper) (ms : List MO) (st : St) (a : Act), mOs P N fx ops l ms = true → Sim c N st a w → dopsV P ms k st →
    wpQuiet P ops (fun w' => Ext w w' []) (fun a' => ∃ st', Sim c N st' a' w ∧ k st') l a
  | [], [], st, a, _, S, h => ⟨st, S, h⟩
  | [], _ :: _, st, a, hm, S, h => by simp [mOs] at hm
  | _ :: _, [], st, a, hm, S, h => by simp [mOs] at hm
  | o :: l, m :: ms, st, a, hm, S, h => by
    simp only [mOs, Bool.and_eq_true] at hm
    obtain ⟨h1, h2⟩ := hm
    obtain ⟨hd, hN, hi⟩ := mO_spec h1 hfx
    simp only [dopsV] at h
    have hg := guard_sound S h1 h
    simp only [wpQuiet]
    by_cases hw : Region.wanted o (yielded ops a.tmps) = true
    · rw [if_pos hw] at hg ⊢
      obtain ⟨own, C⟩ := S.core
      unfold dV at hg
      rw [hd] at hg
      split at hg
      · rename_i q hmi
        rw [hmi] at hi
        obtain ⟨x, av, hrun, hr, hk⟩ := q_sound C hi hg
        obtain ⟨st', S', h'⟩ := putS_sound S.defers S.size C hr hN hk
        refine ⟨x, ?_, dops_sound hfx l ms st' _ h2 S' h'⟩
        intro w' hE
        unfold Oper.quietAt
        rw [hrun w' (fun _ b hb => hE.blk b (by rcases hb with h | h; exact h.1; exact (C.old b h).2) (by simp))]
        exact ⟨rfl, rfl⟩
      · rename_i y al as hmi
        rw [hmi] at hi
        obtain ⟨val, hq, hsc, hk⟩ := quiet_call (own := own) S hi hg
        obtain ⟨st', S', h'⟩ := putS_sound (x := val) S.defers S.size C (by simp [RepV, RepC, scal_one hsc]) hN hk
        exact ⟨val, hq, dops_sound hfx l ms st' _ h2 S' h'⟩
      · exact hg.elim
    · rw [if_neg hw] at hg ⊢
      rw [hd] at hg
      obtain ⟨st', S', h'⟩ := put_undef S hN hg
      exact dops_sound hfx l ms st' _ h2 S' h'
end
end Go.AM
