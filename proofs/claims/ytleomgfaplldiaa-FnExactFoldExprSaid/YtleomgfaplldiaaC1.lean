/- Own framework, part 19: calls by contract. -/
import Derived.Test.YtleomgfaplldiaaB2s
namespace Go.AM
set_option linter.unusedVariables false
set_option linter.unusedSimpArgs false

/-- How an argument is handed over: lent for reading; given for good, to be read alone from then on; lent for writing. -/
inductive Arg where
  | lend (y : Opd)
  | give (y : Opd)
  | io (y : Opd)

def Arg.opd : Arg → Opd
  | .lend y => y
  | .give y => y
  | .io y => y

def frzA : AV → AV
  | .agg l => .agg (frzRow l)
  | .clo f l => if plains l then .clo f l else .dead
  | av => frzL av

theorem frzRow_rep {w : World} {Fz Fz' : Nat → Prop} {L : Locs} : ∀ {l : List AV} {xs : List Value} {o : List Nat}, RepVs w Fz L l xs o → (∀ b, Fz b ∨ b ∈ o → Fz' b) → RepVs w Fz' noL (frzRow l) xs []
  | [], xs, o, h, hf => by simp only [RepVs, frzRow] at h ⊢; exact ⟨h.1, trivial⟩
  | c :: cs, xs, o, h, hf => by
    simp only [RepVs, frzRow] at h ⊢
    obtain ⟨x, xs', o1, o2, hx, ho, hc, hr⟩ := h
    subst ho
    refine ⟨x, xs', [], [], hx, rfl, ?_, frzRow_rep hr (fun b hb => hf b (by rcases hb with h | h; exact .inl h; exact .inr (by simp [h])))⟩
    have hf' : ∀ b, Fz b ∨ b ∈ o1 → Fz' b := fun b hb => hf b (by rcases hb with h | h; exact .inl h; exact .inr (by simp [h]))
    cases c <;> simp only [RepV] at hc <;> first | exact (frz_rep _ hc hf').toV | simp [frzL, RepV]

theorem frzA_rep {w : World} {Fz Fz' : Nat → Prop} {L : Locs} {av : AV} {x : Value} {o : List Nat} (h : RepV w Fz L av x o) (hf : ∀ b, Fz b ∨ b ∈ o → Fz' b) : RepV w Fz' noL (frzA av) x [] := by
  cases av with
  | agg l =>
    simp only [RepV, frzA] at h ⊢
    obtain ⟨xs, hx, h⟩ := h
    exact ⟨xs, hx, frzRow_rep h hf⟩
  | clo f l =>
    simp only [frzA]
    split
    · rename_i hp
      exact plain_rep (.clo f l) h (by simpa [plain] using hp) ⟨fun b hb => ⟨hf b (.inl hb), rfl⟩, fun _ _ => rfl⟩
    · simp [RepV]
  | v y => simp only [RepV] at h; exact (frz_rep _ h hf).toV
  | fsl sz l => simp only [RepV] at h; exact (frz_rep _ h hf).toV
  | usl e sz l => simp only [RepV] at h; exact (frz_rep _ h hf).toV
  | fptr cs => simp only [RepV] at h; exact (frz_rep _ h hf).toV
  | box e cs => simp only [RepV] at h; exact (frz_rep _ h hf).toV
  | ref _ _ _ _ => simp [frzA, frzL, RepV]
  | sref _ _ _ _ => simp [frzA, frzL, RepV]
  | tup _ => simp [frzA, frzL, RepV]
  | dead => simp [frzA, frzL, RepV]

def giveS (st : St) : List Arg → Option (List AV × St)
  | [] => some ([], st)
  | .give y :: as => match ownO st y with
    | some (av, st1) => (giveS st1 as).map fun r => (frzA av :: r.1, r.2)
    | none => none
  | .lend _ :: as => (giveS st as).map fun r => (.dead :: r.1, r.2)
  | .io _ :: as => (giveS st as).map fun r => (.dead :: r.1, r.2)

/-- Where a thing lies that is lent for writing, and what it is. -/
def ioOf (st : St) (y : Opd) : Option (Nat × List (Nat × Nat) × AV) :=
  match rd st y with
  | .sref n p off len => match getC (st n) p with
    | some (.usl e sz l) => if off = 0 ∧ len = l.length then some (n, p, .usl e sz l) else none
    | _ => none
  | .ref n p i k => match getC (st n) p with
    | some (.box e c) => if i = 0 ∧ k = 0 then some (n, p, .box e c) else none
    | _ => none
  | _ => none

def ioAll (st : St) : List Arg → List (Option (Nat × List (Nat × Nat) × AV))
  | [] => []
  | .io y :: as => ioOf st y :: ioAll st as
  | .lend _ :: as => ioAll st as
  | .give _ :: as => ioAll st as

def argL (st : St) : List Arg → List AV → List AV
  | .lend y :: as, g :: gs => frzB st (rd st y) :: argL st as gs
  | .give _ :: as, g :: gs => g :: argL st as gs
  | .io y :: as, g :: gs => (match ioOf st y with | some (_, _, av) => av | none => .dead) :: argL st as gs
  | _, _ => []

def lendPlain (st : St) : List Arg → Bool
  | [] => true
  | .lend y :: as => plain (rd st y) && lendPlain st as
  | .give _ :: as => lendPlain st as
  | .io _ :: as => lendPlain st as

def outL (out : AV) : List Arg → List AV
  | [] => []
  | .io _ :: as => out :: outL out as
  | .lend _ :: as => .dead :: outL out as
  | .give _ :: as => .dead :: outL out as

mutual
theorem plain_frzB {st : St} : ∀ (av : AV), plain av = true → frzB st av = av
  | .agg l, h => by simp only [frzB, plains_frzB l (by simpa [plain] using h)]
  | .clo f l, h => by simp only [frzB, plains_frzB l (by simpa [plain] using h)]
  | .v _, h => rfl
  | .fsl _ _, h => rfl
  | .fptr _, h => rfl
  | .tup _, h => by simp [plain] at h
  | .usl _ _ _, h => by simp [plain] at h
  | .box _ _, h => by simp [plain] at h
  | .ref _ _ _ _, h => by simp [plain] at h
  | .sref _ _ _ _, h => by simp [plain] at h
  | .dead, h => by simp [plain] at h
theorem plains_frzB {st : St} : ∀ (l : List AV), plains l = true → frzBs st l = l
  | [], h => rfl
  | c :: cs, h => by
    simp only [plains, Bool.and_eq_true] at h
    simp only [frzBs, plain_frzB c h.1, plains_frzB cs h.2]
end

def fnOk (P : Program) (f : FuncId) : Bool :=
  match P.funcs[f]? with
  | some fn => !(fn.name == "runtime.NumGoroutine") && fn.body.isSome
  | none => false

/-- What is called: a function by name, or a closure in a slot. -/
def calleeV (st : St) (y : Opd) : Option (FuncId × List AV) :=
  match rd st y with
  | .clo f caps => if plains caps then some (f, caps) else none
  | _ => none

def Does (P : Program) (f : FuncId) (args : List AV) (al : Bool) (res : AV) (outs : List AV) : Prop := fnOk P f = true ∧ Con P f args al res outs

def callV (P : Program) (y : Opd) (al : Bool) (as : List Arg) (st : St) (d : Option Nat) (k : K) : Prop :=
  match giveS st as with
  | some (gs, st1) => (match calleeV st1 y with
    | some (f, caps) => (match ioAll st1 as with
      | [] => (al = true → lendPlain st1 as = true) ∧ ∃ res, Does P f (argL st1 as gs ++ caps) al res (outL .dead as ++ caps.map fun _ => AV.dead) ∧ putS st1 d res k
      | [some (n, p, av)] => lendPlain st1 as = true ∧ caps = [] ∧ ∃ res out, Does P f (argL st1 as gs) al res (outL out as) ∧ isOwner out = true ∧ shapeOf out = shapeOf av ∧ putS (setS n p out st1) d res k
      | _ => False)
    | none => False)
  | none => False

section
variable {P : Program} {o : Oper} {c : Ctx} {N : Nat} {st : St} {a : Act} {w : World} {Q : Exit → Act → World → Prop}

def mArgs (xs : List Operand) (as : List Arg) : Bool := xs.length == as.length && (xs.zip as).all fun p => mOpd p.1 p.2.opd

theorem mArgs_cons {x : Operand} {xs : List Operand} {g : Arg} {as : List Arg} (h : mArgs (x :: xs) (g :: as) = true) : mOpd x g.opd = true ∧ mArgs xs as = true := by
  simp only [mArgs, List.length_cons, Bool.and_eq_true, beq_iff_eq, List.zip_cons_cons, List.all_cons] at h ⊢
  exact ⟨h.2.1, by omega, h.2.2⟩

/-- What was given reads as frozen from then on. -/
def GivenOk (w : World) (Fz : Nat → Prop) (a : Act) : List Operand → List Arg → List AV → Prop
  | x :: xs, .give _ :: as, g :: gs => RepV w Fz noL g (a.eval x) [] ∧ GivenOk w Fz a xs as gs
  | x :: xs, _ :: as, g :: gs => GivenOk w Fz a xs as gs
  | [], [], [] => True
  | _, _, _ => False

theorem GivenOk.mono {Fz Fz' : Nat → Prop} (hf : ∀ b, Fz b → Fz' b) : ∀ {xs : List Operand} {as : List Arg} {gs : List AV}, GivenOk w Fz a xs as gs → GivenOk w Fz' a xs as gs
  | [], [], [], h => h
  | [], [], _ :: _, h => h.elim
  | [], _ :: _, _, h => h.elim
  | _ :: _, [], _, h => h.elim
  | x :: xs, .give _ :: as, [], h => h.elim
  | x :: xs, .lend _ :: as, [], h => h.elim
  | x :: xs, .io _ :: as, [], h => h.elim
  | x :: xs, .give _ :: as, g :: gs, h => by
    simp only [GivenOk] at h ⊢
    refine ⟨?_, h.2.mono hf⟩
    have := h.1.keep (K := fun _ _ => false) (L' := noL) (fun _ _ _ _ h => h) _ _ _ (⟨fun b hb => ⟨hf b hb, rfl⟩, fun _ _ => rfl⟩ : Agree w w Fz Fz' [])
    rwa [killV_none] at this
  | x :: xs, .lend _ :: as, g :: gs, h => by simp only [GivenOk] at h ⊢; exact h.mono hf
  | x :: xs, .io _ :: as, g :: gs, h => by simp only [GivenOk] at h ⊢; exact h.mono hf

theorem give_sound : ∀ {xs : List Operand} {as : List Arg} {st st1 : St} {own : Nat → List Nat} {gs : List AV}, Core c st (tmOf a) w own [] → mArgs xs as = true → giveS st as = some (gs, st1) →
    ∃ own1, Core c st1 (tmOf a) w own1 [] ∧ GivenOk w (frz c w (owned own1 [])) a xs as gs ∧ ∀ b, owned own1 [] b → owned own [] b
  | [], [], st, st1, own, gs, C, _, h => by
    simp only [giveS, Option.some.injEq, Prod.mk.injEq] at h
    obtain ⟨rfl, rfl⟩ := h
    exact ⟨own, C, trivial, fun _ h => h⟩
  | [], g :: as, st, st1, own, gs, C, hm, h => by simp [mArgs] at hm
  | x :: xs, [], st, st1, own, gs, C, hm, h => by simp [mArgs] at hm
  | x :: xs, .lend y :: as, st, st1, own, gs, C, hm, h => by
    simp only [giveS, Option.map_eq_some_iff] at h
    obtain ⟨⟨gs', st2⟩, hp, he⟩ := h
    simp only [Prod.mk.injEq] at he
    obtain ⟨rfl, rfl⟩ := he
    obtain ⟨own1, C1, hg, hX⟩ := give_sound C (mArgs_cons hm).2 hp
    exact ⟨own1, C1, hg, hX⟩
  | x :: xs, .io y :: as, st, st1, own, gs, C, hm, h => by
    simp only [giveS, Option.map_eq_some_iff] at h
    obtain ⟨⟨gs', st2⟩, hp, he⟩ := h
    simp only [Prod.mk.injEq] at he
    obtain ⟨rfl, rfl⟩ := he
    obtain ⟨own1, C1, hg, hX⟩ := give_sound C (mArgs_cons hm).2 hp
    exact ⟨own1, C1, hg, hX⟩
  | x :: xs, .give y :: as, st, st1, own, gs, C, hm, h => by
    simp only [giveS] at h
    split at h
    rotate_left
    · cases h
    rename_i av st2 hown
    simp only [Option.map_eq_some_iff] at h
    obtain ⟨⟨gs', st3⟩, hp, he⟩ := h
    simp only [Prod.mk.injEq] at he
    obtain ⟨rfl, rfl⟩ := he
    obtain ⟨own2, lo2, C2, hr2, hX2⟩ := own_sound C (mArgs_cons hm).1 hown
    simp only [List.nil_append] at C2 hr2 hX2
    have C3 := C2.world (lo' := []) (Ext.refl w _) (by simp) (by simp)
    have hX3 : ∀ b, owned own2 [] b → owned own2 lo2 b := by
      rintro b (⟨k, hk⟩ | hb)
      · exact .inl ⟨k, hk⟩
      · simp at hb
    obtain ⟨own1, C1, hg, hX⟩ := give_sound C3 (mArgs_cons hm).2 hp
    refine ⟨own1, C1, ⟨frzA_rep hr2 ?_, hg⟩, fun b hb => hX2 b (hX3 b (hX b hb))⟩
    intro b hb
    rcases hb with hb | hb
    · exact ⟨hb.1, hb.2.1, fun hx => hb.2.2 (hX3 b (hX b hx))⟩
    · have ho := C2.old b (.inr hb)
      refine ⟨ho.2, ?_, fun hx => ?_⟩
      · rcases ho.1 with h | h
        · exact .inr (.inr h)
        · exact .inl h
      · rcases hX b hx with ⟨k, hk⟩ | hx
        · exact C2.ldj k b hk hb
        · simp at hx

theorem arg_rep0 {st1 : St} {own1 : Nat → List Nat} (C : Core c st1 (tmOf a) w own1 []) {Fz' : Nat → Prop} (hf : ∀ b, frz c w (owned own1 []) b → Fz' b) :
    ∀ {xs : List Operand} {as : List Arg} {gs : List AV}, mArgs xs as = true → GivenOk w (frz c w (owned own1 [])) a xs as gs → ((∀ b, (∃ k, b ∈ own1 k) → Fz' b) ∨ lendPlain st1 as = true) → ioAll st1 as = [] →
    RepVs w Fz' noL (argL st1 as gs) (xs.map a.eval) []
  | [], [], gs, _, hg, _, _ => by cases gs <;> simp [GivenOk] at hg; simp [argL, RepVs]
  | [], g :: as, gs, hm, _, _, _ => by simp [mArgs] at hm
  | x :: xs, [], gs, hm, _, _, _ => by simp [mArgs] at hm
  | x :: xs, .lend y :: as, [], hm, hg, _, _ => hg.elim
  | x :: xs, .give y :: as, [], hm, hg, _, _ => hg.elim
  | x :: xs, .io y :: as, gs, hm, hg, _, hi => by simp [ioAll] at hi
  | x :: xs, .lend y :: as, g :: gs, hm, hg, hl, hi => by
    obtain ⟨h1, h2⟩ := mArgs_cons hm
    simp only [GivenOk] at hg
    simp only [argL, List.map_cons, RepVs]
    have rx := rd_rep C h1
    refine ⟨_, _, [], [], rfl, rfl, ?_, arg_rep0 C hf h2 hg ?_ (by simpa [ioAll] using hi)⟩
    · rcases hl with hl | hl
      · exact frzB_rep C (fun b hb => by rcases hb with h | h; exact hf b h; exact hl b h) _ rx
      · simp only [lendPlain, Bool.and_eq_true] at hl
        have hp := plain_rep (L' := locs st1 (tmOf a) w) _ rx hl.1 ⟨fun b hb => ⟨hf b hb, rfl⟩, fun _ _ => rfl⟩
        rw [plain_frzB _ hl.1]
        exact plain_rep (L' := noL) _ rx hl.1 ⟨fun b hb => ⟨hf b hb, rfl⟩, fun _ _ => rfl⟩
    · rcases hl with hl | hl
      · exact .inl hl
      · simp only [lendPlain, Bool.and_eq_true] at hl; exact .inr hl.2
  | x :: xs, .give y :: as, g :: gs, hm, hg, hl, hi => by
    obtain ⟨h1, h2⟩ := mArgs_cons hm
    simp only [GivenOk] at hg
    simp only [argL, List.map_cons, RepVs]
    refine ⟨_, _, [], [], rfl, rfl, ?_, arg_rep0 C hf h2 hg.2 (by rcases hl with hl | hl; exact .inl hl; exact .inr (by simpa [lendPlain] using hl)) (by simpa [ioAll] using hi)⟩
    have := hg.1.keep (K := fun _ _ => false) (L' := noL) (fun _ _ _ _ h => h) _ _ _ (⟨fun b hb => ⟨hf b hb, rfl⟩, fun _ _ => rfl⟩ : Agree w w _ Fz' [])
    rwa [killV_none] at this

theorem deads_own {Fz : Nat → Prop} {L : Locs} : ∀ {as : List Arg} {xs : List Value} {oo : List Nat}, RepVs w Fz L (outL .dead as) xs oo → oo = []
  | [], xs, oo, h => by simp only [outL, RepVs] at h; exact h.2
  | .lend _ :: as, xs, oo, h => by
    simp only [outL, RepVs] at h; obtain ⟨x, xs', o1, o2, _, ho, hc, hr⟩ := h
    simp only [RepV] at hc; rw [ho, hc, deads_own hr]; rfl
  | .give _ :: as, xs, oo, h => by
    simp only [outL, RepVs] at h; obtain ⟨x, xs', o1, o2, _, ho, hc, hr⟩ := h
    simp only [RepV] at hc; rw [ho, hc, deads_own hr]; rfl
  | .io _ :: as, xs, oo, h => by
    simp only [outL, RepVs] at h; obtain ⟨x, xs', o1, o2, _, ho, hc, hr⟩ := h
    simp only [RepV] at hc; rw [ho, hc, deads_own hr]; rfl

theorem repVs_app {Fz : Nat → Prop} {L : Locs} : ∀ {l l2 : List AV} {xs ys : List Value}, RepVs w Fz L l xs [] → RepVs w Fz L l2 ys [] → RepVs w Fz L (l ++ l2) (xs ++ ys) []
  | [], l2, xs, ys, h, h2 => by simp only [RepVs] at h; rw [h.1]; exact h2
  | d :: l, l2, xs, ys, h, h2 => by
    simp only [RepVs, List.cons_append] at h ⊢
    obtain ⟨x, xs', o1, o2, rfl, ho, hc, hr⟩ := h
    obtain ⟨rfl, rfl⟩ : o1 = [] ∧ o2 = [] := by simpa using ho.symm
    exact ⟨x, xs' ++ ys, [], [], rfl, rfl, hc, repVs_app hr h2⟩

theorem deadl_own {Fz : Nat → Prop} {L : Locs} : ∀ {l : List AV} {xs : List Value} {oo : List Nat}, RepVs w Fz L l xs oo → (∀ x ∈ l, x = .dead) → oo = []
  | [], xs, oo, h, _ => by simp only [RepVs] at h; exact h.2
  | d :: l, xs, oo, h, hd => by
    simp only [RepVs] at h
    obtain ⟨x, xs', o1, o2, _, ho, hc, hr⟩ := h
    rw [hd d (by simp)] at hc
    simp only [RepV] at hc
    rw [ho, hc, deadl_own hr (fun x hx => hd x (by simp [hx]))]
    rfl

theorem outL_deads : ∀ {as : List Arg} {x : AV}, x ∈ outL .dead as → x = .dead
  | [], x, h => by simp [outL] at h
  | .lend _ :: as, x, h => by simp only [outL, List.mem_cons] at h; rcases h with h | h; exact h; exact outL_deads h
  | .give _ :: as, x, h => by simp only [outL, List.mem_cons] at h; rcases h with h | h; exact h; exact outL_deads h
  | .io _ :: as, x, h => by simp only [outL, List.mem_cons] at h; rcases h with h | h; exact h; exact outL_deads h

theorem deads_own' {Fz : Nat → Prop} {L : Locs} {as : List Arg} {caps : List AV} {xs : List Value} {oo : List Nat} (h : RepVs w Fz L (outL .dead as ++ caps.map fun _ => AV.dead) xs oo) : oo = [] := by
  refine deadl_own h fun x hx => ?_
  rcases List.mem_append.1 hx with h | h
  · exact outL_deads h
  · obtain ⟨_, _, rfl⟩ := List.mem_map.1 h; rfl

/-- A call in which nothing is handed over for writing. -/
theorem core_call0 {st1 : St} {own1 : Nat → List Nat} (C : Core c st1 (tmOf a) w own1 []) {f : FuncId} {al : Bool} {as : List Arg} {gs : List AV} {xs : List Operand} {res : AV} (hm : mArgs xs as = true) (hg : GivenOk w (frz c w (owned own1 [])) a xs as gs)
    (hio : ioAll st1 as = []) (hal : al = true → lendPlain st1 as = true) {caps : List AV} {cv : List Value} (hcv : RepVs w (frz c w (owned own1 [])) noL caps cv []) (hcon : Con P f (argL st1 as gs ++ caps) al res (outL .dead as ++ caps.map fun _ => AV.dead)) :
    Calls P f (xs.map a.eval ++ cv).toArray w fun e w' => ∃ x ox, e = .returned x ∧ Ext w w' [] ∧ Core c st1 (tmOf a) w' own1 ox ∧ RepV w' (frz c w' (owned own1 ox)) (locs st1 (tmOf a) w') res x ox := by
  let Fz' : Nat → Prop := fun b => if al then frz c w (owned own1 []) b else (frz c w (owned own1 []) b ∨ ∃ k, b ∈ own1 k)
  have hlt : ∀ b, Fz' b → b < w.heap.size := by
    intro b hb
    cases al <;> simp only [Fz', if_true, Bool.false_eq_true, if_false] at hb
    · rcases hb with h | h
      · exact h.1
      · exact (C.old b (.inl h)).2
    · exact hb.1
  have hF1 : ∀ b, frz c w (owned own1 []) b → Fz' b := by
    intro b hb; cases al <;> simp only [Fz', if_true, Bool.false_eq_true, if_false]
    · exact .inl hb
    · exact hb
  have hcv' : RepVs w Fz' noL caps cv [] := by
    have := hcv.keep (K := fun _ _ => false) (L' := noL) (fun _ _ _ _ h => h) _ _ _ (⟨fun b hb => ⟨hF1 b hb, rfl⟩, fun _ _ => rfl⟩ : Agree w w _ Fz' [])
    have e : killVs (fun _ _ => false) caps = caps := by
      have := killV_none (.agg caps); simpa [killV] using this
    rwa [e] at this
  have hrep : RepVs w Fz' noL (argL st1 as gs ++ caps) (xs.map a.eval ++ cv) [] := by
    refine repVs_app ?_ hcv'
    refine arg_rep0 C ?_ hm hg ?_ hio
    · intro b hb; cases al <;> simp only [Fz', if_true, Bool.false_eq_true, if_false]
      · exact .inl hb
      · exact hb
    · cases hal' : al with
      | true => exact .inr (hal hal')
      | false => exact .inl fun b hb => by simp only [Fz', hal', Bool.false_eq_true, if_false]; exact .inr hb
  refine (hcon w Fz' _ [] hrep (by simp) (by simp) hlt).mono ?_
  rintro e w' ⟨x, ox, oo, rfl, hext, hres, hout, hnd, hmem⟩
  have hoo := deads_own' hout
  subst hoo
  simp only [List.append_nil] at hres hnd hmem
  have C' := C.world (lo' := ox) hext hnd (fun b hb => ⟨by rcases (hmem b hb).1 with h | h; simp at h; exact .inr h, (hmem b hb).2⟩)
  refine ⟨x, ox, rfl, hext, C', ?_⟩
  have := hres.keep (K := fun _ _ => false) (L' := locs st1 (tmOf a) w') (fun _ _ _ _ h => by simp [noL] at h) _ _ _ (w' := w') (Fz' := frz c w' (owned own1 ox)) (by
    refine ⟨fun b hb => ⟨?_, rfl⟩, fun _ _ => rfl⟩
    obtain ⟨h1, h2, h3⟩ := hb
    have hown : ∀ k, b ∈ own1 k → w.heap.size ≤ b → False := fun k hk hle => by have := (C.old b (.inl ⟨k, hk⟩)).2; omega
    rcases h1 with ⟨hal', hF⟩ | h1
    · rcases hF with hF | hF
      · simp only [Fz', hal', if_true] at hF
        refine ⟨h2, hF.2.1, ?_⟩
        rintro (⟨k, hk⟩ | hx)
        · exact hF.2.2 (.inl ⟨k, hk⟩)
        · exact h3 hx
      · simp at hF
    · refine ⟨h2, .inl (Nat.le_trans C.fr.size h1), ?_⟩
      rintro (⟨k, hk⟩ | hx)
      · exact hown k hk h1
      · exact h3 hx)
  rwa [killV_none] at this

theorem ioOf_rep {st1 : St} {own1 : Nat → List Nat} (C : Core c st1 (tmOf a) w own1 []) {x : Operand} {y : Opd} (hx : mOpd x y = true) {n : Nat} {p : List (Nat × Nat)} {av : AV} (h : ioOf st1 y = some (n, p, av)) :
    walk w (st1 n) (tmOf a n) p = some (av, a.eval x) ∧ isOwner av = true := by
  have rx := rd_rep C hx
  unfold ioOf at h
  split at h
  · rename_i m q off len hrd
    rw [hrd] at rx
    simp only [RepV] at rx
    obtain ⟨_, s, z, hloc, hbx, hle, hwin⟩ := rx
    obtain ⟨av0, oo, hg, hw, hsh, hrep, hsub⟩ := loc_spot C hloc
    split at h
    · rename_i e sz l hg2
      split at h
      · rename_i hof
        obtain ⟨rfl, rfl⟩ := hof
        simp only [Option.some.injEq, Prod.mk.injEq] at h
        obtain ⟨rfl, rfl, rfl⟩ := h
        rw [hg] at hg2
        obtain rfl := Option.some.inj hg2
        refine ⟨?_, rfl⟩
        rw [hw]
        congr 2
        simp only [RepC] at hrep
        rcases hwin with ⟨h1, h2, _, _⟩ | ⟨g, b, n', cp, k, cx, hy, hxx, hlc, hkc, hko⟩
        · rw [h1, h2]
        · rcases hrep with ⟨h1, _⟩ | ⟨g', hh, cp', cur, xs, o', hy', _, _, hcp, _⟩
          · rw [h1] at hy; simp at hy
          · rcases hko with ⟨rfl, hkc'⟩ | ⟨h0, _⟩
            · rw [hy'] at hy ⊢
              simp only [Value.slice.injEq, Option.some.injEq, Addr.mk.injEq, and_true] at hy
              obtain ⟨⟨rfl, rfl⟩, rfl, rfl⟩ := hy
              rw [hxx]
              simp at hkc' ⊢
              exact hkc'.symm
            · exact absurd rfl h0
      · cases h
    · cases h
  · rename_i m q i k hrd
    rw [hrd] at rx
    simp only [RepV] at rx
    obtain ⟨_, s, z, b, f, hloc, hadr, hi, hk, hxx⟩ := rx
    obtain ⟨av0, oo, hg, hw, hsh, hrep, hsub⟩ := loc_spot C hloc
    split at h
    · rename_i e cs hg2
      split at h
      · rename_i hof
        obtain ⟨rfl, rfl⟩ := hof
        simp only [Option.some.injEq, Prod.mk.injEq] at h
        obtain ⟨rfl, rfl, rfl⟩ := h
        rw [hg] at hg2
        obtain rfl := Option.some.inj hg2
        refine ⟨?_, rfl⟩
        rw [hw]
        congr 2
        simp only [RepC] at hrep
        obtain ⟨g, xs, o', hy', _⟩ := hrep
        rw [hy'] at hadr ⊢
        simp only [addrOf, Option.some.injEq, Prod.mk.injEq] at hadr
        rw [hxx, ← hadr.1, ← hadr.2]
        simp
      · cases h
    · cases h
  · cases h

theorem outL_dead {st1 : St} {out : AV} : ∀ {as : List Arg}, ioAll st1 as = [] → outL out as = outL .dead as
  | [], _ => rfl
  | .lend _ :: as, h => by simp only [outL, outL_dead (as := as) (by simpa [ioAll] using h)]
  | .give _ :: as, h => by simp only [outL, outL_dead (as := as) (by simpa [ioAll] using h)]
  | .io _ :: as, h => by simp [ioAll] at h

theorem arg_rep1 {st1 : St} {own1 : Nat → List Nat} (C : Core c st1 (tmOf a) w own1 []) {n : Nat} {p : List (Nat × Nat)} {av : AV} :
    ∀ {xs : List Operand} {as : List Arg} {gs : List AV}, mArgs xs as = true → GivenOk w (frz c w (owned own1 [])) a xs as gs → lendPlain st1 as = true → ioAll st1 as = [some (n, p, av)] →
    ∃ y, walk w (st1 n) (tmOf a n) p = some (av, y) ∧ isOwner av = true ∧ (∀ o, RepC w (frz c w (owned own1 [])) av y o → RepVs w (frz c w (owned own1 [])) noL (argL st1 as gs) (xs.map a.eval) o) ∧
      ∀ (w2 : World) (Fz2 : Nat → Prop) (out : AV) (oo : List Nat), RepVs w2 Fz2 noL (outL out as) (xs.map a.eval) oo → RepV w2 Fz2 noL out y oo
  | [], [], gs, _, _, _, hi => by simp [ioAll] at hi
  | [], g :: as, gs, hm, _, _, _ => by simp [mArgs] at hm
  | x :: xs, [], gs, hm, _, _, _ => by simp [mArgs] at hm
  | x :: xs, .lend y :: as, [], hm, hg, _, _ => hg.elim
  | x :: xs, .give y :: as, [], hm, hg, _, _ => hg.elim
  | x :: xs, .io y :: as, [], hm, hg, _, hi => hg.elim
  | x :: xs, .lend y :: as, g :: gs, hm, hg, hl, hi => by
    obtain ⟨h1, h2⟩ := mArgs_cons hm
    simp only [GivenOk] at hg
    simp only [lendPlain, Bool.and_eq_true] at hl
    obtain ⟨z, hw, ho, hr, hout⟩ := arg_rep1 C h2 hg hl.2 (by simpa [ioAll] using hi)
    refine ⟨z, hw, ho, fun o h => ?_, fun w2 Fz2 out oo h => ?_⟩
    · simp only [argL, List.map_cons, RepVs]
      have rx := rd_rep C h1
      refine ⟨_, _, [], o, rfl, rfl, ?_, hr o h⟩
      rw [plain_frzB _ hl.1]
      exact plain_rep (L' := noL) _ rx hl.1 ⟨fun b hb => ⟨hb, rfl⟩, fun _ _ => rfl⟩
    · simp only [outL, List.map_cons, RepVs, List.cons.injEq] at h
      obtain ⟨x', xs', o1, o2, ⟨_, rfl⟩, rfl, hc, hr2⟩ := h
      simp only [RepV] at hc
      subst hc
      exact hout _ _ _ _ hr2
  | x :: xs, .give y :: as, g :: gs, hm, hg, hl, hi => by
    obtain ⟨h1, h2⟩ := mArgs_cons hm
    simp only [GivenOk] at hg
    simp only [lendPlain] at hl
    obtain ⟨z, hw, ho, hr, hout⟩ := arg_rep1 C h2 hg.2 hl (by simpa [ioAll] using hi)
    refine ⟨z, hw, ho, fun o h => ?_, fun w2 Fz2 out oo h => ?_⟩
    · simp only [argL, List.map_cons, RepVs]
      exact ⟨_, _, [], o, rfl, rfl, hg.1, hr o h⟩
    · simp only [outL, List.map_cons, RepVs, List.cons.injEq] at h
      obtain ⟨x', xs', o1, o2, ⟨_, rfl⟩, rfl, hc, hr2⟩ := h
      simp only [RepV] at hc
      subst hc
      exact hout _ _ _ _ hr2
  | x :: xs, .io y :: as, g :: gs, hm, hg, hl, hi => by
    obtain ⟨h1, h2⟩ := mArgs_cons hm
    simp only [GivenOk] at hg
    simp only [lendPlain] at hl
    simp only [ioAll, List.cons.injEq] at hi
    obtain ⟨hi1, hi2⟩ := hi
    obtain ⟨hw, ho⟩ := ioOf_rep C h1 hi1
    refine ⟨a.eval x, hw, ho, fun o h => ?_, fun w2 Fz2 out oo h => ?_⟩
    · simp only [argL, hi1, List.map_cons, RepVs]
      exact ⟨_, _, o, [], rfl, by simp, h.toV, arg_rep0 C (fun _ h => h) h2 hg (.inr hl) hi2⟩
    · simp only [outL, List.map_cons, RepVs, List.cons.injEq] at h
      obtain ⟨x', xs', o1, o2, ⟨rfl, rfl⟩, rfl, hc, hr2⟩ := h
      rw [outL_dead hi2] at hr2
      have := deads_own hr2
      subst this
      simpa using hc

theorem ownerC {w : World} {Fz : Nat → Prop} {L : Locs} {av : AV} {y : Value} {o : List Nat} (h : RepV w Fz L av y o) (ho : isOwner av = true) : RepC w Fz av y o := by
  cases av <;> simp [isOwner] at ho <;> simpa only [RepV] using h

/-- A call in which one thing is handed over for writing. -/
theorem core_call1 {st1 : St} {own1 : Nat → List Nat} (C : Core c st1 (tmOf a) w own1 []) {f : FuncId} {al : Bool} {as : List Arg} {gs : List AV} {xs : List Operand} {res out : AV} (hm : mArgs xs as = true) (hg : GivenOk w (frz c w (owned own1 [])) a xs as gs)
    {n : Nat} {p : List (Nat × Nat)} {av : AV} (hio : ioAll st1 as = [some (n, p, av)]) (hl : lendPlain st1 as = true) (hcon : Con P f (argL st1 as gs) al res (outL out as)) (hoo : isOwner out = true) (hsh : shapeOf out = shapeOf av) :
    Calls P f (xs.map a.eval).toArray w fun e w' => ∃ x ox own', e = .returned x ∧ Core c (setS n p out st1) (tmOf a) w' own' ox ∧ RepV w' (frz c w' (owned own' ox)) (locs (setS n p out st1) (tmOf a) w') res x ox := by
  obtain ⟨y, hw, ho, hr, hout⟩ := arg_rep1 C hm hg hl hio
  obtain ⟨o, hrep, hon, hod, hoO, hwalk, H⟩ := C.mod hw ho
  refine (hcon w (frz c w (owned own1 [])) _ o (hr o hrep) hon (fun b hb => ⟨fun hf => hf.2.2 (hoO b hb), (C.old b (hoO b hb)).2⟩) (fun b hb => hb.1)).mono ?_
  rintro e w' ⟨x, ox, oo, rfl, hext, hres, houts, hnd, hmem⟩
  have ho2 := hout _ _ _ _ houts
  have hcc := ownerC ho2 hoo
  have hE : Ext w w' (o ++ []) := by rw [List.append_nil]; exact hext
  obtain ⟨hndx, hndo, hdjx⟩ := List.nodup_append.1 hnd
  have hfz : ∀ b, fzP (frz c w (owned own1 [])) w w' o (ox ++ oo) true b → frz c w' (modOwned own1 [] o oo ox) b := by
    rintro b ⟨h1, h2, h3⟩
    have h3' : b ∉ oo ∧ b ∉ ox := ⟨fun h => h3 (by simp [h]), fun h => h3 (by simp [h])⟩
    refine ⟨h2, ?_, ?_⟩
    · rcases h1 with ⟨_, h1 | h1⟩ | h1
      · exact h1.2.1
      · rcases (C.old b (hoO b h1)).1 with h | h
        · exact .inr (.inr h)
        · exact .inl h
      · exact .inl (Nat.le_trans C.fr.size h1)
    · rintro (h | h | ⟨h, h5, _⟩)
      · exact h3'.1 h
      · exact h3'.2 h
      · rcases h1 with ⟨_, h1 | h1⟩ | h1
        · exact h1.2.2 h
        · exact h5 h1
        · have := (C.old b h).2; omega
  obtain ⟨own', C', hO⟩ := H w' out oo ox (keepK n p) hE hndo hndx (fun b hb hb' => hdjx b hb' b hb rfl) (fun b hb => by
      have := hmem b (by rcases hb with h | h <;> simp [h])
      exact ⟨by rcases this.1 with h | h; exact .inl h; exact .inr (.inr h), this.2⟩)
    (hcc.keep _ _ _ ⟨fun b hb => ⟨hfz b hb, rfl⟩, fun _ _ => rfl⟩)
    (fun q r hK hq => by
      have hwk := hwalk w' out hE
      by_cases hpq : p <+: q
      · have hqp : q <+: p := by
          rw [← List.isPrefixOf_iff_prefix]
          rw [← List.isPrefixOf_iff_prefix] at hpq
          simpa [keepK, hpq] using hK
        have he : q = p := List.IsPrefix.eq_of_length hqp (Nat.le_antisymm hqp.length_le hpq.length_le)
        subst he
        have h1 := hwk.2 []
        simp only [List.append_nil, walk] at h1
        simp only [walkSh, h1, Option.bind_some, hsh]
        simp only [walkSh, hw, Option.bind_some] at hq
        exact hq
      · rw [hwk.1 q hpq]; exact hq)
  refine ⟨x, ox, own', rfl, C', ?_⟩
  have := hres.keep (K := fun _ _ => false) (L' := locs (setS n p out st1) (tmOf a) w') (fun _ _ _ _ h => by simp [noL] at h) _ _ _ (w' := w') (Fz' := frz c w' (owned own' ox))
    ⟨fun b hb => ⟨by
      have hb' : fzP (frz c w (owned own1 [])) w w' o (ox ++ oo) true b := ⟨by rcases hb.1 with h | h; exact .inl ⟨rfl, h.2⟩; exact .inr h, hb.2⟩
      have h4 := hfz b hb'
      exact ⟨h4.1, h4.2.1, fun hx => h4.2.2 ((hO b).1 hx)⟩, rfl⟩, fun _ _ => rfl⟩
  rwa [killV_none] at this

theorem run_call {f : FuncId} (hf : fnOk P f = true) {y : Operand} {xs : List Operand} {ats : Array TypeId} {cv : List Value} (ho : o.op = .call { callee := .value y, args := xs.toArray, argTypes := ats }) (hy : a.eval y = .func (.func f) #[] cv.toArray) :
    (execOp a.eval o).run P w = .ok (.enter f (xs.map a.eval ++ cv).toArray) w := by
  unfold fnOk at hf
  split at hf
  rotate_left
  · cases hf
  rename_i fn hfn
  simp only [Bool.and_eq_true, Bool.not_eq_true'] at hf
  obtain ⟨h1, h2⟩ := hf
  have hn : ¬ fn.body = none := by cases hb : fn.body <;> simp [hb] at h2 ⊢
  have h1' : ¬ fn.name = "runtime.NumGoroutine" := by simpa using h1
  simp [execOp, ho, resolve, hy, Deferred.ofValue, invoke, callFunc, Sem.run_bind, Result.andThen_ok, hfn, h1', hn]

/-- **A call.** -/
theorem a_call (S : Sim c N st a w) {y : Operand} {y' : Opd} {xs : List Operand} {as : List Arg} {ats : Array TypeId} (hy : mOpd y y' = true) (hm : mArgs xs as = true) (ho : o.op = .call { callee := .value y, args := xs.toArray, argTypes := ats })
    (hN : ∀ e, o.dst = some e → e < N ∧ c.fx e = none) {al : Bool} {k : K} (h : callV P y' al as st o.dst k) : Ok P c N a w o k Q := by
  obtain ⟨own, C⟩ := S.core
  unfold callV at h
  split at h
  rotate_left
  · exact h.elim
  rename_i gs st1 hgive
  obtain ⟨own1, C1, hg, _⟩ := give_sound C hm hgive
  split at h
  rotate_left
  · exact h.elim
  rename_i f caps hcal
  unfold calleeV at hcal
  split at hcal
  rotate_left
  · cases hcal
  rename_i f' caps' hrd
  split at hcal
  rotate_left
  · cases hcal
  rename_i hpl
  simp only [Option.some.injEq, Prod.mk.injEq] at hcal
  obtain ⟨rfl, rfl⟩ := hcal
  have ry := rd_rep C1 hy
  rw [hrd] at ry
  have ry2 := plain_rep (L' := noL) (.clo f' caps') ry (by simpa [plain] using hpl) ⟨fun b hb => ⟨hb, rfl⟩, fun _ _ => rfl⟩
  simp only [RepV] at ry2
  obtain ⟨cv, hcv, hrcv⟩ := ry2
  split at h
  · rename_i hio
    obtain ⟨hal, res, hcon, h⟩ := h
    have hcall := core_call0 C1 hm hg hio hal hrcv hcon.2
    unfold Ok Oper.wp
    rw [run_call hcon.1 ho hcv]
    refine hcall.mono ?_
    rintro e w' ⟨x, ox, rfl, _, C2, hr⟩
    exact putS_sound S.defers S.size C2 hr hN h
  · rename_i n p av hio
    obtain ⟨hl, rfl, res, out, hcon, hoo, hsh, h⟩ := h
    have hcall := core_call1 C1 hm hg hio hl hcon.2 hoo hsh
    have hcv0 : cv = [] := by simp only [RepVs] at hrcv; exact hrcv.1
    subst hcv0
    unfold Ok Oper.wp
    rw [run_call hcon.1 ho hcv]
    simp only [List.append_nil]
    refine hcall.mono ?_
    rintro e w' ⟨x, ox, own', rfl, C2, hr⟩
    exact putS_sound S.defers S.size C2 hr hN h
  · exact h.elim
end
end Go.AM
