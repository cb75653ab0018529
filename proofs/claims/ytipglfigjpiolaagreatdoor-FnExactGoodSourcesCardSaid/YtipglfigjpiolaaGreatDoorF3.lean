/- Own framework: a verified machine over abstract values, part 3. No conditions. -/
import Derived.Test.YtipglfigjpiolaaGreatDoorF2
import Derived.WideLaws
import Derived.Laws.Small
import Derived.Deep.LoopGhost
import Derived.Deep.Quiet
import Derived.OrdersHeld
import Derived.Laws.Build
import Derived.WalkSmall
namespace Go.AM
set_option linter.unusedVariables false
set_option linter.unusedSimpArgs false
def EndsAs : Ending → Value → Prop
  | .returned x', x => x' = x
  | .panicked _, x => x = undef
  | _, _ => False
def ConX (P : Program) (f : FuncId) (args : List AV) (al : Bool) (R : Ending → AV → List AV → Prop) : Prop :=
  ∀ (w : World) (Fz : Nat → Prop) (xs : List Value) (os : List Nat), RepVs w Fz noL args xs os → os.Nodup → (∀ b ∈ os, ¬ Fz b ∧ b < w.heap.size) → FzOk P w Fz →
    Calls P f xs.toArray w fun e w' => ∃ res outs, R e res outs ∧ ∃ x ox oo, EndsAs e x ∧ Ext w w' os ∧ RepV w' (fzP Fz w w' os (ox ++ oo) al) noL res x ox ∧ RepVs w' (fzP Fz w w' os (ox ++ oo) true) noL outs xs oo ∧
      (ox ++ oo).Nodup ∧ ∀ b ∈ ox ++ oo, (b ∈ os ∨ w.heap.size ≤ b) ∧ b < w'.heap.size
theorem ConX.mono {P : Program} {f : FuncId} {args : List AV} {al : Bool} {R S : Ending → AV → List AV → Prop} (h : ConX P f args al R) (hs : ∀ e r o, R e r o → S e r o) : ConX P f args al S :=
  fun w Fz xs os h1 h2 h3 h4 => (h w Fz xs os h1 h2 h3 h4).mono (by rintro e w' ⟨res, outs, hr, hh⟩; exact ⟨res, outs, hs _ _ _ hr, hh⟩)
theorem ConE.x {P : Program} {f : FuncId} {args : List AV} {al : Bool} {R : AV → List AV → Prop} (h : ConE P f args al R) : ConX P f args al (fun e r o => (∃ x, e = .returned x) ∧ R r o) :=
  fun w Fz xs os h1 h2 h3 h4 => (h w Fz xs os h1 h2 h3 h4).mono (by rintro e w' ⟨res, outs, hr, x, ox, oo, rfl, hh⟩; exact ⟨res, outs, ⟨⟨x, rfl⟩, hr⟩, x, ox, oo, rfl, hh⟩)
def EndR (Rn : AV → List AV → Prop) (Rp : List PanicEntry → List AV → Prop) : Ending → AV → List AV → Prop
  | .returned _, r, o => Rn r o
  | .panicked ch, r, o => r = .dead ∧ Rp ch o
  | _, _, _ => False
def EndO (Rn : AV → AV → Prop) (Rp : List PanicEntry → AV → Prop) : Ending → AV → AV → Prop
  | .returned _, r, o => Rn r o
  | .panicked ch, r, o => r = .dead ∧ Rp ch o
  | _, _, _ => False
def EndN (Rn : AV → Prop) (Rp : List PanicEntry → Prop) : Ending → AV → Prop
  | .returned _, r => Rn r
  | .panicked ch, r => r = .dead ∧ Rp ch
  | _, _ => False
def DoesP (P : Program) (f : FuncId) (args : List AV) (al : Bool) (Rn : AV → List AV → Prop) (Rp : List PanicEntry → List AV → Prop) : Prop := fnOk P f = true ∧ ConX P f args al (EndR Rn Rp)
def callpV (P : Program) (y : Opd) (al : Bool) (as : List Arg) (st : St) (d : Option Nat) (k : K) (kp : List PanicEntry → K) : Prop :=
  match giveS st as with
  | some (gs, st1) => (match calleeV st1 y with
    | some (f, caps) => (match ioAll st1 as with
      | [] => (al = true → lendPlain st1 as = true) ∧ ∃ (Rn : AV → Prop) (Rp : List PanicEntry → Prop), DoesP P f (argL st1 as gs ++ caps) al (fun r o => Rn r ∧ o = outL .dead as ++ caps.map fun _ => AV.dead) (fun ch o => Rp ch ∧ o = outL .dead as ++ caps.map fun _ => AV.dead) ∧
          (∀ r, Rn r → putS st1 d r k) ∧ ∀ ch, Rp ch → kp ch st1
      | [some (n, p, av)] => lendPlain st1 as = true ∧ caps = [] ∧ ∃ (Rn : AV → AV → Prop) (Rp : List PanicEntry → AV → Prop), DoesP P f (argL st1 as gs) al (fun r o => ∃ out, Rn r out ∧ o = outL out as) (fun ch o => ∃ out, Rp ch out ∧ o = outL out as) ∧
          (∀ r out, Rn r out → isOwner out = true ∧ shapeOf out = shapeOf av ∧ putS (setS n p out st1) d r k) ∧ ∀ ch out, Rp ch out → isOwner out = true ∧ shapeOf out = shapeOf av ∧ kp ch (setS n p out st1)
      | _ => False)
    | none => False)
  | none => False
def capO (st : St) (av : AV) : Option (FuncId × Nat × List (Nat × Nat) × AV) :=
  match av with
  | .clo g [.ref n p 0 0] => (match getC (st n) p with
    | some (.box e cs) => some (g, n, p, .box e cs)
    | _ => none)
  | _ => none
def callcV (P : Program) (y x : Opd) (st : St) (d : Option Nat) (k : K) : Prop :=
  match calleeV st y with
  | some (f, []) => (match capO st (rd st x) with
    | some (g, n, p, av) => ∃ R : AV → AV → Prop, DoesE P f [.clo g [av]] false (fun r o => ∃ out, R r out ∧ o = [.clo g [out]]) ∧ ∀ r out, R r out → isOwner out = true ∧ shapeOf out = shapeOf av ∧ putS (setS n p out st) d r k
    | none => False)
  | _ => False
section
variable {P : Program} {o : Oper} {c : Ctx} {N : Nat} {st : St} {a : Act} {w : World} {Q : Exit → Act → World → Prop}
theorem clo1_rep {Fz : Nat → Prop} {g : FuncId} {av : AV} {y : Value} {o : List Nat} (h : RepC w Fz av y o) (ho : isOwner av = true) : RepVs w Fz noL [.clo g [av]] [.func (.func g) #[] #[y]] o := by
  have h1 : RepV w Fz noL av y o := h.toV
  simp only [RepVs, RepV]
  exact ⟨_, [], o, [], rfl, by simp, ⟨[y], rfl, _, [], o, [], rfl, by simp, h1, rfl, rfl⟩, rfl, rfl⟩
theorem clo1_un {Fz : Nat → Prop} {g : FuncId} {av : AV} {y : Value} {o : List Nat} (h : RepVs w Fz noL [.clo g [av]] [.func (.func g) #[] #[y]] o) : RepV w Fz noL av y o := by
  simp only [RepVs, RepV] at h
  obtain ⟨x, xs', o1, o2, hx, ho, ⟨cv, hcv, x2, xs2, o3, o4, hx2, ho2, h4, h5, h6⟩, h7, h8⟩ := h
  simp only [List.cons.injEq] at hx
  obtain ⟨rfl, rfl⟩ := hx
  simp only [Value.func.injEq] at hcv
  obtain ⟨_, _, hcv⟩ := hcv
  have : cv = [y] := by have := congrArg Array.toList hcv; simpa using this.symm
  subst this
  simp only [List.cons.injEq] at hx2
  obtain ⟨rfl, _⟩ := hx2
  subst ho; subst ho2; subst h6; subst h8
  simpa using h4
theorem core_call0X [GOk c P] {st1 : St} {own1 : Nat → List Nat} (C : Core c st1 (tmOf a) w own1 []) {f : FuncId} {al : Bool} {as : List Arg} {gs : List AV} {xs : List Operand} {R : Ending → AV → Prop} (hm : mArgs xs as = true) (hg : GivenOk w (frz c w (owned own1 [])) a xs as gs)
    (hio : ioAll st1 as = []) (hal : al = true → lendPlain st1 as = true) {caps : List AV} {cv : List Value} (hcv : RepVs w (frz c w (owned own1 [])) noL caps cv []) (hcon : ConX P f (argL st1 as gs ++ caps) al (fun e r o => R e r ∧ o = outL .dead as ++ caps.map fun _ => AV.dead)) :
    Calls P f (xs.map a.eval ++ cv).toArray w fun e w' => ∃ res x ox, R e res ∧ EndsAs e x ∧ Ext w w' [] ∧ Core c st1 (tmOf a) w' own1 ox ∧ RepV w' (frz c w' (owned own1 ox)) (locs st1 (tmOf a) w') res x ox := by
  let Fz' : Nat → Prop := fun b => if al then frz c w (owned own1 []) b else (frz c w (owned own1 []) b ∨ ∃ k, b ∈ own1 k)
  have hlt : ∀ b, Fz' b → b < w.heap.size := by
    intro b hb
    cases al <;> simp only [Fz', if_true, Bool.false_eq_true, if_false] at hb
    · rcases hb with h | h
      · exact h.1
      · exact (C.old b (.inl h)).2
    · exact hb.1
  have hF1 : ∀ b, frz c w (owned own1 []) b → Fz' b := by
    intro b hb; cases al <;> simp only [Fz', if_true, Bool.false_eq_true, if_false]
    · exact .inl hb
    · exact hb
  have hcv' : RepVs w Fz' noL caps cv [] := by
    have := hcv.keep (K := fun _ _ => false) (L' := noL) (fun _ _ _ _ h => h) _ _ _ (⟨fun b hb => ⟨hF1 b hb, rfl⟩, fun _ _ => rfl⟩ : Agree w w _ Fz' [])
    have e : killVs (fun _ _ => false) caps = caps := by
      have := killV_none (.agg caps); simpa [killV] using this
    rwa [e] at this
  have hrep : RepVs w Fz' noL (argL st1 as gs ++ caps) (xs.map a.eval ++ cv) [] := by
    refine repVs_app ?_ hcv'
    refine arg_rep0 C ?_ hm hg ?_ hio
    · intro b hb; cases al <;> simp only [Fz', if_true, Bool.false_eq_true, if_false]
      · exact .inl hb
      · exact hb
    · cases hal' : al with
      | true => exact .inr (hal hal')
      | false => exact .inl fun b hb => by simp only [Fz', hal', Bool.false_eq_true, if_false]; exact .inr hb
  refine (hcon w Fz' _ [] hrep (by simp) (by simp) (gok_frz C hF1 hlt)).mono ?_
  rintro e w' ⟨res, outs, ⟨hR, rfl⟩, x, ox, oo, hEnd, hext, hres, hout, hnd, hmem⟩
  have hoo := deads_own' hout
  subst hoo
  simp only [List.append_nil] at hres hnd hmem
  have C' := C.world (lo' := ox) hext hnd (fun b hb => ⟨by rcases (hmem b hb).1 with h | h; simp at h; exact .inr h, (hmem b hb).2⟩)
  refine ⟨res, x, ox, hR, hEnd, hext, C', ?_⟩
  have := hres.keep (K := fun _ _ => false) (L' := locs st1 (tmOf a) w') (fun _ _ _ _ h => by simp [noL] at h) _ _ _ (w' := w') (Fz' := frz c w' (owned own1 ox)) (by
    refine ⟨fun b hb => ⟨?_, rfl⟩, fun _ _ => rfl⟩
    obtain ⟨h1, h2, h3⟩ := hb
    have hown : ∀ k, b ∈ own1 k → w.heap.size ≤ b → False := fun k hk hle => by have := (C.old b (.inl ⟨k, hk⟩)).2; omega
    rcases h1 with ⟨hal', hF⟩ | h1
    · rcases hF with hF | hF
      · simp only [Fz', hal', if_true] at hF
        refine ⟨h2, hF.2.1, ?_⟩
        rintro (⟨k, hk⟩ | hx)
        · exact hF.2.2 (.inl ⟨k, hk⟩)
        · exact h3 hx
      · simp at hF
    · refine ⟨h2, .inl (Nat.le_trans C.fr.size h1), ?_⟩
      rintro (⟨k, hk⟩ | hx)
      · exact hown k hk h1
      · exact h3 hx)
  rwa [killV_none] at this
theorem core_call1X [GOk c P] {st1 : St} {own1 : Nat → List Nat} (C : Core c st1 (tmOf a) w own1 []) {f : FuncId} {al : Bool} {as : List Arg} {gs : List AV} {xs : List Operand} {R : Ending → AV → AV → Prop} (hm : mArgs xs as = true) (hg : GivenOk w (frz c w (owned own1 [])) a xs as gs)
    {n : Nat} {p : List (Nat × Nat)} {av : AV} (hio : ioAll st1 as = [some (n, p, av)]) (hl : lendPlain st1 as = true) (hcon : ConX P f (argL st1 as gs) al (fun e r o => ∃ out, R e r out ∧ o = outL out as)) (hRR : ∀ e r out, R e r out → isOwner out = true ∧ shapeOf out = shapeOf av) :
    Calls P f (xs.map a.eval).toArray w fun e w' => ∃ res out x ox own', R e res out ∧ EndsAs e x ∧ Core c (setS n p out st1) (tmOf a) w' own' ox ∧ RepV w' (frz c w' (owned own' ox)) (locs (setS n p out st1) (tmOf a) w') res x ox := by
  obtain ⟨y, hw, ho, hr, hout⟩ := arg_rep1 C hm hg hl hio
  obtain ⟨o, hrep, hon, hod, hoO, hwalk, H⟩ := C.mod hw ho
  refine (hcon w (frz c w (owned own1 [])) _ o (hr o hrep) hon (fun b hb => ⟨fun hf => hf.2.2 (hoO b hb), (C.old b (hoO b hb)).2⟩) (gok_frz C (fun _ h => h) (fun b hb => hb.1))).mono ?_
  rintro e w' ⟨res, outs, ⟨out, hR, rfl⟩, x, ox, oo, hEnd, hext, hres, houts, hnd, hmem⟩
  obtain ⟨hoo, hsh⟩ := hRR e res out hR
  have ho2 := hout _ _ _ _ houts
  have hcc := ownerC ho2 hoo
  have hE : Ext w w' (o ++ []) := by rw [List.append_nil]; exact hext
  obtain ⟨hndx, hndo, hdjx⟩ := List.nodup_append.1 hnd
  have hfz : ∀ b, fzP (frz c w (owned own1 [])) w w' o (ox ++ oo) true b → frz c w' (modOwned own1 [] o oo ox) b := by
    rintro b ⟨h1, h2, h3⟩
    have h3' : b ∉ oo ∧ b ∉ ox := ⟨fun h => h3 (by simp [h]), fun h => h3 (by simp [h])⟩
    refine ⟨h2, ?_, ?_⟩
    · rcases h1 with ⟨_, h1 | h1⟩ | h1
      · exact h1.2.1
      · rcases (C.old b (hoO b h1)).1 with h | h
        · exact .inr (.inr h)
        · exact .inl h
      · exact .inl (Nat.le_trans C.fr.size h1)
    · rintro (h | h | ⟨h, h5, _⟩)
      · exact h3'.1 h
      · exact h3'.2 h
      · rcases h1 with ⟨_, h1 | h1⟩ | h1
        · exact h1.2.2 h
        · exact h5 h1
        · have := (C.old b h).2; omega
  obtain ⟨own', C', hO⟩ := H w' out oo ox (keepK n p) hE hndo hndx (fun b hb hb' => hdjx b hb' b hb rfl) (fun b hb => by
      have := hmem b (by rcases hb with h | h <;> simp [h])
      exact ⟨by rcases this.1 with h | h; exact .inl h; exact .inr (.inr h), this.2⟩)
    (hcc.keep _ _ _ ⟨fun b hb => ⟨hfz b hb, rfl⟩, fun _ _ => rfl⟩)
    (fun q r hK hq => by
      have hwk := hwalk w' out hE
      by_cases hpq : p <+: q
      · have hqp : q <+: p := by
          rw [← List.isPrefixOf_iff_prefix]
          rw [← List.isPrefixOf_iff_prefix] at hpq
          simpa [keepK, hpq] using hK
        have he : q = p := List.IsPrefix.eq_of_length hqp (Nat.le_antisymm hqp.length_le hpq.length_le)
        subst he
        have h1 := hwk.2 []
        simp only [List.append_nil, walk] at h1
        simp only [walkSh, h1, Option.bind_some, hsh]
        simp only [walkSh, hw, Option.bind_some] at hq
        exact hq
      · rw [hwk.1 q hpq]; exact hq)
  refine ⟨res, out, x, ox, own', hR, hEnd, C', ?_⟩
  have := hres.keep (K := fun _ _ => false) (L' := locs (setS n p out st1) (tmOf a) w') (fun _ _ _ _ h => by simp [noL] at h) _ _ _ (w' := w') (Fz' := frz c w' (owned own' ox))
    ⟨fun b hb => ⟨by
      have hb' : fzP (frz c w (owned own1 [])) w w' o (ox ++ oo) true b := ⟨by rcases hb.1 with h | h; exact .inl ⟨rfl, h.2⟩; exact .inr h, hb.2⟩
      have h4 := hfz b hb'
      exact ⟨h4.1, h4.2.1, fun hx => h4.2.2 ((hO b).1 hx)⟩, rfl⟩, fun _ _ => rfl⟩
  rwa [killV_none] at this
theorem core_callc [GOk c P] {st1 : St} {own1 : Nat → List Nat} (C : Core c st1 (tmOf a) w own1 []) {f g : FuncId} {y : Value} {R : Ending → AV → AV → Prop}
    {n : Nat} {p : List (Nat × Nat)} {av : AV} (hw : walk w (st1 n) (tmOf a n) p = some (av, y)) (ho : isOwner av = true) (hcon : ConX P f [.clo g [av]] false (fun e r o => ∃ out, R e r out ∧ o = [.clo g [out]])) (hRR : ∀ e r out, R e r out → isOwner out = true ∧ shapeOf out = shapeOf av) :
    Calls P f #[.func (.func g) #[] #[y]] w fun e w' => ∃ res out x ox own', R e res out ∧ EndsAs e x ∧ Core c (setS n p out st1) (tmOf a) w' own' ox ∧ RepV w' (frz c w' (owned own' ox)) (locs (setS n p out st1) (tmOf a) w') res x ox := by
  obtain ⟨o, hrep, hon, hod, hoO, hwalk, H⟩ := C.mod hw ho
  refine (hcon w (frz c w (owned own1 [])) [.func (.func g) #[] #[y]] o (clo1_rep hrep ho) hon (fun b hb => ⟨fun hf => hf.2.2 (hoO b hb), (C.old b (hoO b hb)).2⟩) (gok_frz C (fun _ h => h) (fun b hb => hb.1))).mono ?_
  rintro e w' ⟨res, outs, ⟨out, hR, rfl⟩, x, ox, oo, hEnd, hext, hres, houts, hnd, hmem⟩
  obtain ⟨hoo, hsh⟩ := hRR e res out hR
  have ho2 := clo1_un houts
  have hcc := ownerC ho2 hoo
  have hE : Ext w w' (o ++ []) := by rw [List.append_nil]; exact hext
  obtain ⟨hndx, hndo, hdjx⟩ := List.nodup_append.1 hnd
  have hfz : ∀ b, fzP (frz c w (owned own1 [])) w w' o (ox ++ oo) true b → frz c w' (modOwned own1 [] o oo ox) b := by
    rintro b ⟨h1, h2, h3⟩
    have h3' : b ∉ oo ∧ b ∉ ox := ⟨fun h => h3 (by simp [h]), fun h => h3 (by simp [h])⟩
    refine ⟨h2, ?_, ?_⟩
    · rcases h1 with ⟨_, h1 | h1⟩ | h1
      · exact h1.2.1
      · rcases (C.old b (hoO b h1)).1 with h | h
        · exact .inr (.inr h)
        · exact .inl h
      · exact .inl (Nat.le_trans C.fr.size h1)
    · rintro (h | h | ⟨h, h5, _⟩)
      · exact h3'.1 h
      · exact h3'.2 h
      · rcases h1 with ⟨_, h1 | h1⟩ | h1
        · exact h1.2.2 h
        · exact h5 h1
        · have := (C.old b h).2; omega
  obtain ⟨own', C', hO⟩ := H w' out oo ox (keepK n p) hE hndo hndx (fun b hb hb' => hdjx b hb' b hb rfl) (fun b hb => by
      have := hmem b (by rcases hb with h | h <;> simp [h])
      exact ⟨by rcases this.1 with h | h; exact .inl h; exact .inr (.inr h), this.2⟩)
    (hcc.keep _ _ _ ⟨fun b hb => ⟨hfz b hb, rfl⟩, fun _ _ => rfl⟩)
    (fun q r hK hq => by
      have hwk := hwalk w' out hE
      by_cases hpq : p <+: q
      · have hqp : q <+: p := by
          rw [← List.isPrefixOf_iff_prefix]
          rw [← List.isPrefixOf_iff_prefix] at hpq
          simpa [keepK, hpq] using hK
        have he : q = p := List.IsPrefix.eq_of_length hqp (Nat.le_antisymm hqp.length_le hpq.length_le)
        subst he
        have h1 := hwk.2 []
        simp only [List.append_nil, walk] at h1
        simp only [walkSh, h1, Option.bind_some, hsh]
        simp only [walkSh, hw, Option.bind_some] at hq
        exact hq
      · rw [hwk.1 q hpq]; exact hq)
  refine ⟨res, out, x, ox, own', hR, hEnd, C', ?_⟩
  have := hres.keep (K := fun _ _ => false) (L' := locs (setS n p out st1) (tmOf a) w') (fun _ _ _ _ h => by simp [noL] at h) _ _ _ (w' := w') (Fz' := frz c w' (owned own' ox))
    ⟨fun b hb => ⟨by
      have hb' : fzP (frz c w (owned own1 [])) w w' o (ox ++ oo) true b := ⟨by rcases hb.1 with h | h; exact absurd h.1 (by simp); exact .inr h, hb.2⟩
      have h4 := hfz b hb'
      exact ⟨h4.1, h4.2.1, fun hx => h4.2.2 ((hO b).1 hx)⟩, rfl⟩, fun _ _ => rfl⟩
  rwa [killV_none] at this
theorem a_callp [GOk c P] (S : Sim c N st a w) {y : Operand} {y' : Opd} {xs : List Operand} {as : List Arg} {ats : Array TypeId} (hy : mOpd y y' = true) (hm : mArgs xs as = true) (ho : o.op = .call { callee := .value y, args := xs.toArray, argTypes := ats })
    (hN : ∀ e, o.dst = some e → e < N ∧ c.fx e = none) {al : Bool} {k : K} {kp : List PanicEntry → K} (hp : ∀ ch st' w', Sim c N st' a w' → kp ch st' → Q (.panic ch) a w') (h : callpV P y' al as st o.dst k kp) : Ok P c N a w o k Q := by
  obtain ⟨own, C⟩ := S.core
  unfold callpV at h
  split at h
  rotate_left
  · exact h.elim
  rename_i gs st1 hgive
  obtain ⟨own1, C1, hg, _⟩ := give_sound C hm hgive
  split at h
  rotate_left
  · exact h.elim
  rename_i f caps hcal
  unfold calleeV at hcal
  split at hcal
  rotate_left
  · cases hcal
  rename_i f' caps' hrd
  split at hcal
  rotate_left
  · cases hcal
  rename_i hpl
  simp only [Option.some.injEq, Prod.mk.injEq] at hcal
  obtain ⟨rfl, rfl⟩ := hcal
  have ry := rd_rep C1 hy
  rw [hrd] at ry
  have ry2 := plain_rep (L' := noL) (.clo f' caps') ry (by simpa [plain] using hpl) ⟨fun b hb => ⟨hb, rfl⟩, fun _ _ => rfl⟩
  simp only [RepV] at ry2
  obtain ⟨cv, hcv, hrcv⟩ := ry2
  split at h
  · rename_i hio
    obtain ⟨hal, Rn, Rp, hcon, h, hpp⟩ := h
    have hcall := core_call0X (R := EndN Rn Rp) C1 hm hg hio hal hrcv (hcon.2.mono (by
      intro e r o' hr
      cases e with
      | returned x => exact hr
      | panicked ch => exact ⟨⟨hr.1, hr.2.1⟩, hr.2.2⟩
      | _ => exact hr.elim))
    unfold Ok Oper.wp
    rw [run_call hcon.1 ho hcv]
    refine hcall.mono ?_
    rintro e w' ⟨res, x, ox, hR, hE, _, C2, hr⟩
    cases e with
    | returned x' =>
      obtain rfl : x' = x := hE
      exact putS_sound S.defers S.size C2 hr hN (h res hR)
    | panicked ch =>
      obtain ⟨rfl, hR⟩ := hR
      have : ox = [] := by simpa only [RepV] using hr
      subst this
      exact hp _ _ _ ⟨S.defers, S.size, _, C2⟩ (hpp _ hR)
    | _ => exact hE.elim
  · rename_i n p av hio
    obtain ⟨hl, rfl, Rn, Rp, hcon, h, hpp⟩ := h
    have hcall := core_call1X (R := EndO Rn Rp) C1 hm hg hio hl (hcon.2.mono (by
      intro e r o' hr
      cases e with
      | returned x => exact hr
      | panicked ch => obtain ⟨h1, out, h2, h3⟩ := hr; exact ⟨out, ⟨h1, h2⟩, h3⟩
      | _ => exact hr.elim)) (by
      intro e r out hR
      cases e with
      | returned x => exact ⟨(h r out hR).1, (h r out hR).2.1⟩
      | panicked ch => exact ⟨(hpp ch out hR.2).1, (hpp ch out hR.2).2.1⟩
      | _ => exact hR.elim)
    have hcv0 : cv = [] := by simp only [RepVs] at hrcv; exact hrcv.1
    subst hcv0
    unfold Ok Oper.wp
    rw [run_call hcon.1 ho hcv]
    simp only [List.append_nil]
    refine hcall.mono ?_
    rintro e w' ⟨res, out, x, ox, own', hR, hE, C2, hr⟩
    cases e with
    | returned x' =>
      obtain rfl : x' = x := hE
      exact putS_sound S.defers S.size C2 hr hN (h res out hR).2.2
    | panicked ch =>
      obtain ⟨rfl, hR⟩ := hR
      have : ox = [] := by simpa only [RepV] using hr
      subst this
      exact hp _ _ _ ⟨S.defers, S.size, _, C2⟩ (hpp _ _ hR).2.2
    | _ => exact hE.elim
  · exact h.elim
theorem a_callc [GOk c P] (S : Sim c N st a w) {y : Operand} {y' : Opd} {x : Operand} {x' : Opd} {ats : Array TypeId} (hy : mOpd y y' = true) (hx : mOpd x x' = true) (ho : o.op = .call { callee := .value y, args := #[x], argTypes := ats })
    (hN : ∀ e, o.dst = some e → e < N ∧ c.fx e = none) {k : K} (h : callcV P y' x' st o.dst k) : Ok P c N a w o k Q := by
  obtain ⟨own, C⟩ := S.core
  unfold callcV at h
  split at h
  rotate_left
  · exact h.elim
  rename_i f hcal
  unfold calleeV at hcal
  split at hcal
  rotate_left
  · cases hcal
  rename_i f' caps' hrd
  split at hcal
  rotate_left
  · cases hcal
  rename_i hpl
  simp only [Option.some.injEq, Prod.mk.injEq] at hcal
  obtain ⟨rfl, rfl⟩ := hcal
  have ry := rd_rep C hy
  rw [hrd] at ry
  simp only [RepV, RepVs] at ry
  obtain ⟨cv, hcv, hrcv, _⟩ := ry
  subst hrcv
  split at h
  rotate_left
  · exact h.elim
  rename_i g n p av hcap
  obtain ⟨R, hcon, h⟩ := h
  unfold capO at hcap
  split at hcap
  rotate_left
  · cases hcap
  rename_i g' n' p' hrdx
  split at hcap
  rotate_left
  · cases hcap
  rename_i e cs hg
  simp only [Option.some.injEq, Prod.mk.injEq] at hcap
  obtain ⟨rfl, rfl, rfl, rfl⟩ := hcap
  have rx := rd_rep C hx
  rw [hrdx] at rx
  simp only [RepV, RepVs] at rx
  obtain ⟨xs, hxv, x1, xs1, o1, o2, rfl, hoo, ⟨_, s, yy, b, ff, hloc, hadr, hi, hk, hx1⟩, rfl, _⟩ := rx
  obtain ⟨av0, oo, hg0, hw, hsh, hrep, hsub⟩ := loc_spot C hloc
  rw [hg] at hg0
  obtain rfl := Option.some.inj hg0
  simp only [shapeOf, Option.some.injEq] at hsh
  subst hsh
  simp only [RepC] at hrep
  obtain ⟨gg, ys, o', hyy, _⟩ := hrep
  subst hyy
  have hy1 : x1 = .pointer (some ⟨gg, 0, none⟩) := by
    simp only [addrOf, Option.some.injEq, Prod.mk.injEq] at hadr
    obtain ⟨rfl, rfl⟩ := hadr
    simpa using hx1
  subst hy1
  have hcall := core_callc (R := fun e r out => (∃ x, e = .returned x) ∧ R r out) C (g := g') hw rfl (hcon.2.x.mono (by rintro e r o' ⟨he, out, hr, ho⟩; exact ⟨out, ⟨he, hr⟩, ho⟩)) (by rintro e r out ⟨_, hR⟩; exact ⟨(h r out hR).1, (h r out hR).2.1⟩)
  unfold Ok Oper.wp
  have := run_call (a := a) (w := w) (xs := [x]) (cv := []) hcon.1 (o := o) (y := y) (ats := ats) (by simpa using ho) hcv
  rw [this]
  simp only [List.map_cons, List.map_nil, List.append_nil, hxv]
  refine hcall.mono ?_
  rintro e w' ⟨res, out, x, ox, own', ⟨⟨x2, rfl⟩, hR⟩, hE, C2, hr⟩
  obtain rfl : x2 = x := hE
  exact putS_sound S.defers S.size C2 hr hN (h res out hR).2.2
end
end Go.AM
namespace Go.AM
set_option linter.unusedVariables false
set_option linter.unusedSimpArgs false
inductive MQ where
  | mov (x : Opd)
  | pick (x y z : Opd)
  | bin (b : Bool) (op : BinOp) (x y : Opd)
  | un (op : UnOp) (x : Opd)
  | conv (kd : IntKind) (x : Opd)
  | len (s : Bool) (x : Opd)
  | load (agg : Bool) (sz : Nat) (x : Opd)
  | nilchk (x : Opd)
  | fad (off : Nat) (x : Opd)
  | fld (agg : Bool) (off sz : Nat) (x : Opd)
  | iad (sz : Nat) (x i : Opd)
  | idx (x i : Opd)
  | slc (s : Bool) (sz : Nat) (x : Opd) (lo hi : Option Opd)
  | isnil (neq : Bool) (x : Opd)
  | eqa (neq : Bool) (ds : List Nat) (x y : Opd)
  | ext (n i : Nat)
  | mkf (f : Nat) (ys : List Opd)
  | b2s (x : Opd)
  | mm (mx : Bool) (x y : Opd)
  | isni (neq : Bool) (x : Opd)
def isniV (neq : Bool) (x : AV) (k : AV → Prop) : Prop :=
  match x with
  | .v .nilIface => k (.v (.bool (!neq)))
  | _ => False
inductive MA where
  | asg (x : Opd)
  | asgf (x : Opd)
  | box (e : Nat) (x : Opd)
  | alloc (e : Nat) (zs : List ZC)
  | build (ix offs szs : List Nat) (zs : List ZC) (ys : List Opd)
  | bsl (e sz : Nat) (ys : List Opd)
  | mks (e sz bytes : Nat) (zs : List ZC) (x y : Opd)
  | store (sz : Nat) (x y : Opd)
  | storek (sz : Nat) (x y : Opd)
  | app (own : Bool) (e sz bytes : Nat) (x y : Opd)
  | call (y : Opd) (al : Bool) (as : List Arg)
  | callm (y x : Opd) (as : List Arg)
  | callc (y x : Opd)
  | del (e sz bytes : Nat) (x y : Opd)
  | storep (sz : Nat) (x y : Opd)
inductive MI where
  | q (m : MQ)
  | a (m : MA)
structure MO where
  d : Option Nat
  g : Option (Nat × Bool)
  i : MI
def Opd.i (n : Int) : Opd := .c (.int .i64 n)
def Opd.z (s : Array UInt8) : Opd := .c (.string ⟨s⟩)
def Opd.tb : Opd := .c (.bool true)
def Opd.fb : Opd := .c (.bool false)
def ZC.z : ZC := .v (.string ⟨#[]⟩)
def ZC.i : ZC := .v (.int .i64 0)
def ZC.b : ZC := .v (.bool false)
def Xq (n : Nat) (q : MQ) : MO := ⟨some n, none, .q q⟩
def Xb (n : Nat) (a : MA) : MO := ⟨some n, none, .a a⟩
def Xm (n a : Nat) : MO := ⟨some n, none, .q (.mov (.t a))⟩
def Xl (n s a : Nat) : MO := ⟨some n, none, .q (.load false s (.t a))⟩
def XL (n s a : Nat) : MO := ⟨some n, none, .q (.load true s (.t a))⟩
def Xf (n k a : Nat) : MO := ⟨some n, none, .q (.fad k (.t a))⟩
def Xn (n a : Nat) : MO := ⟨some n, none, .q (.len false (.t a))⟩
def Xi (n s a b : Nat) : MO := ⟨some n, none, .q (.iad s (.t a) (.t b))⟩
def Xa (n a : Nat) : MO := ⟨some n, none, .a (.asg (.t a))⟩
def Xt (n g : Nat) (q : MQ) : MO := ⟨some n, some (g, true), .q q⟩
def Xu (n g : Nat) (q : MQ) : MO := ⟨some n, some (g, false), .q q⟩
def XT (n g : Nat) (a : MA) : MO := ⟨some n, some (g, true), .a a⟩
def XU (n g : Nat) (a : MA) : MO := ⟨some n, some (g, false), .a a⟩
def Xy (q : MQ) : MO := ⟨none, none, .q q⟩
def Xz (a : MA) : MO := ⟨none, none, .a a⟩
theorem evX :
    ((∀ n, Opd.i n = .c (.int .i64 n)) ∧ (∀ s, Opd.z s = .c (.string ⟨s⟩)) ∧ (Opd.tb = .c (.bool true)) ∧ (Opd.fb = .c (.bool false)) ∧ (ZC.z = .v (.string ⟨#[]⟩)) ∧ (ZC.i = .v (.int .i64 0)) ∧ (ZC.b = .v (.bool false))) ∧
    ((∀ n q, Xq n q = ⟨some n, none, .q q⟩) ∧ (∀ n a, Xb n a = ⟨some n, none, .a a⟩) ∧ (∀ n a, Xm n a = ⟨some n, none, .q (.mov (.t a))⟩) ∧ (∀ n s a, Xl n s a = ⟨some n, none, .q (.load false s (.t a))⟩) ∧ (∀ n s a, XL n s a = ⟨some n, none, .q (.load true s (.t a))⟩) ∧ (∀ n k a, Xf n k a = ⟨some n, none, .q (.fad k (.t a))⟩) ∧ (∀ n a, Xn n a = ⟨some n, none, .q (.len false (.t a))⟩) ∧ (∀ n s a b, Xi n s a b = ⟨some n, none, .q (.iad s (.t a) (.t b))⟩) ∧ (∀ n a, Xa n a = ⟨some n, none, .a (.asg (.t a))⟩)) ∧
    ((∀ n g q, Xt n g q = ⟨some n, some (g, true), .q q⟩) ∧ (∀ n g q, Xu n g q = ⟨some n, some (g, false), .q q⟩) ∧ (∀ n g a, XT n g a = ⟨some n, some (g, true), .a a⟩) ∧ (∀ n g a, XU n g a = ⟨some n, some (g, false), .a a⟩) ∧ (∀ q, Xy q = ⟨none, none, .q q⟩) ∧ (∀ a, Xz a = ⟨none, none, .a a⟩)) := by
  refine ⟨⟨?_, ?_, ?_, ?_, ?_, ?_, ?_⟩, ⟨?_, ?_, ?_, ?_, ?_, ?_, ?_, ?_, ?_⟩, ⟨?_, ?_, ?_, ?_, ?_, ?_⟩⟩ <;> intros <;> rfl
def isB : AV → Bool
  | .v (.bool _) => true
  | _ => false
def isS : AV → Bool
  | .v (.string _) => true
  | _ => false
def mmV (mx : Bool) (x y : AV) (k : AV → Prop) : Prop :=
  match x, y with
  | .v (.int .i64 a), .v (.int .i64 b) => k (.v (.int .i64 (if mx = true then (if a < b then b else a) else (if b < a then b else a))))
  | _, _ => False
def mqV (m : MQ) (st : St) (k : AV → Prop) : Prop :=
  match m with
  | .mov x => k (rd st x)
  | .pick x y z => pickA (rd st x) (rd st y) (rd st z) k
  | .bin b op x y => (isB (rd st x) = true → b = true) ∧ binV op (rd st x) (rd st y) k
  | .un op x => unV op (rd st x) k
  | .conv kd x => convV kd (rd st x) k
  | .len s x => isS (rd st x) = s ∧ lenV (rd st x) k
  | .load agg sz x => loadV agg sz st (rd st x) k
  | .nilchk x => nilchkV (rd st x) k
  | .fad off x => fadV off st (rd st x) k
  | .fld agg off sz x => fldV agg off sz (rd st x) k
  | .iad sz x i => iadV sz st (rd st x) (rd st i) k
  | .idx x i => idxV (rd st x) (rd st i) k
  | .slc s sz x lo hi => isS (rd st x) = s ∧ slcV sz st (rd st x) (lo.map (rd st)) (hi.map (rd st)) k
  | .isnil neq x => isnilV neq (rd st x) k
  | .eqa neq ds x y => eqaV neq ds (rd st x) (rd st y) k
  | .ext n i => extV st n i k
  | .mkf f ys => k (.clo f (ys.map (rd st)))
  | .b2s x => b2sV st (rd st x) k
  | .mm mx x y => mmV mx (rd st x) (rd st y) k
  | .isni neq x => isniV neq (rd st x) k
def maV (P : Program) (m : MA) (st : St) (d : Option Nat) (k : K) : Prop :=
  match m with
  | .asg x => asgV st x d k
  | .asgf x => asgfV st x d k
  | .box e x => boxV e st x d k
  | .alloc e zs => allocV e zs st d k
  | .build ix offs szs zs ys => buildV zs offs szs ys st d k
  | .bsl e sz ys => bslV e sz ys st d k
  | .mks e sz bytes zs x y => mksV e sz bytes zs (rd st x) (rd st y) st d k
  | .store sz x y => d = none ∧ storeV sz st x y k
  | .storek sz x y => d = none ∧ storekV sz st x y k
  | .app own e sz bytes x y => appV own e sz bytes st x y d k
  | .call y al as => callV P y al as st d k
  | .callm y x as => callmV P y x as st d k
  | .callc y x => callcV P y x st d k
  | .del e sz bytes x y => delW e sz st (rd st x) (rd st y) d k
  | .storep sz x y => d = none ∧ storepW sz st (rd st x) (rd st y) k
def uStr (P : Program) (t : TypeId) : Bool := match P.underlying t with | some .string => true | _ => false
def uIf (P : Program) (t : TypeId) : Bool := match P.underlying t with | some (.interface _) => true | _ => false
theorem uIf_eq {P : Program} {t : TypeId} (h : uIf P t = true) : P.underlying t = some (.interface (P.methodsAt t)) := by
  unfold uIf at h; split at h
  · rename_i ms hm; rw [hm]; simp [Program.methodsAt, hm]
  · cases h
def uSl (P : Program) (t : TypeId) : Bool := match P.underlying t with | some (.slice _) => true | _ => false
def uBool (P : Program) (t : TypeId) : Bool := match P.underlying t with | some .bool => true | _ => false
def uInt (P : Program) (t : TypeId) (k : IntKind) : Bool := match P.underlying t with | some (.int k') => k == k' | _ => false
def mZip (xs : List Operand) (ys : List Opd) : Bool := xs.length == ys.length && (xs.zip ys).all fun p => mOpd p.1 p.2
def mQ (P : Program) (o : Op) (m : MQ) : Bool :=
  match m with
  | .mov y => match o with
    | .move x => mOpd x y
    | .assign x => mOpd x y
    | _ => false
  | .pick x' y' z' => match o with
    | .pick x y z => mOpd x x' && mOpd y y' && mOpd z z'
    | _ => false
  | .bin b op' x' y' => match o with
    | .binOp op t x y t' => op == op' && mOpd x x' && mOpd y y' && (!b || uBool P t)
    | _ => false
  | .un op' x' => match o with
    | .unOp op t x => op == op' && mOpd x x'
    | _ => false
  | .conv kd x' => match o with
    | .convert s d x => mOpd x x' && (P.underlying s).isSome && uInt P d kd
    | _ => false
  | .len s x' => match o with
    | .call c => (match c.callee with | .builtin .len => true | _ => false) && (match c.args.toList, c.argTypes.toList with
      | [x], [t] => mOpd x x' && (if s then uStr P t else uSl P t)
      | _, _ => false)
    | _ => false
  | .load agg sz x' => match o with
    | .load t x => mOpd x x' && loadOk P t agg sz
    | _ => false
  | .nilchk x' => match o with
    | .nilCheck x => mOpd x x'
    | _ => false
  | .fad off x' => match o with
    | .fieldAddr s x f => mOpd x x' && fadOk P s f off
    | _ => false
  | .fld agg off sz x' => match o with
    | .field s x f => mOpd x x' && fldOk P s f agg off sz
    | _ => false
  | .iad sz x' y' => match o with
    | .indexAddr t x y => mOpd x x' && mOpd y y' && iadOk P t sz
    | _ => false
  | .idx x' y' => match o with
    | .index t x y => mOpd x x' && mOpd y y' && uStr P t
    | _ => false
  | .slc s sz x' l' h' => match o with
    | .slice t x l h none => mOpd x x' && mOpds l l' && mOpds h h' && slcOk P t sz && (uStr P t == s)
    | _ => false
  | .isnil neq x' => match o with
    | .binOp op t x (.const (.slice none 0 0)) t' => mOpd x x' && (op == (if neq then .neq else .eql)) && uSl P t
    | _ => false
  | .eqa neq ds x' y' => match o with
    | .binOp op t x y t' => mOpd x x' && mOpd y y' && (op == (if neq then .neq else .eql)) && eqOk P t ds
    | _ => false
  | .ext n i' => match o with
    | .extract (.tmp n') i => n == n' && i == i'
    | _ => false
  | .mkf f' ys => match o with
    | .makeFunc (.func f) first xs => f == f' && first.isEmpty && mZip xs.toList ys
    | _ => false
  | .b2s x' => match o with
    | .convert s d x => mOpd x x' && b2sOk P s d
    | _ => false
  | .mm mx x' y' => match o with
    | .call c => (match c.callee with | .builtin .min => !mx | .builtin .max => mx | _ => false) && (match c.args.toList with
      | [x, y] => mOpd x x' && mOpd y y'
      | _ => false)
    | _ => false
  | .isni neq x' => match o with
    | .binOp op t x (.const .nilIface) t' => mOpd x x' && (op == (if neq then .neq else .eql)) && uIf P t
    | _ => false
def mA (P : Program) (o : Op) (m : MA) : Bool :=
  match m with
  | .asg y => match o with
    | .move x => mOpd x y
    | .assign x => mOpd x y
    | _ => false
  | .asgf y => match o with
    | .move x => mOpd x y
    | .assign x => mOpd x y
    | _ => false
  | .box e y => match o with
    | .box e' x => e == e' && mOpd x y
    | _ => false
  | .alloc e zs => match o with
    | .alloc e' => e == e' && zeroOk P e zs
    | _ => false
  | .build ix offs szs zs ys => match o with
    | .build t ps => (ps.toList.map (·.1) == ix) && mZip (ps.toList.map (·.2)) ys && buildOk P t ix offs szs zs
    | _ => false
  | .bsl e sz ys => match o with
    | .buildSlice t n ps => n == ps.toList.length && (ps.toList.map (·.1) == List.range n) && mZip (ps.toList.map (·.2)) ys && bslOk P t e sz n
    | _ => false
  | .mks e sz bytes zs x' y' => match o with
    | .makeSlice t x y => mOpd x x' && mOpd y y' && mksOk P t e sz bytes zs
    | _ => false
  | .store sz x' y' => match o with
    | .store t x y => mOpd x x' && mOpd y y' && ((P.info? t).map (·.size) == some sz)
    | _ => false
  | .storek sz x' y' => match o with
    | .store t x y => mOpd x x' && mOpd y y' && ((P.info? t).map (·.size) == some sz)
    | _ => false
  | .app own e sz bytes x' y' => match o with
    | .call c => (match c.callee with | .builtin .append => true | _ => false) && (match c.args.toList, c.argTypes.toList with
      | [x, y], [t, t'] => t == t' && mOpd x x' && mOpd y y' && appOk P t e sz bytes
      | _, _ => false)
    | _ => false
  | .call y' al as => match o with
    | .call c => (match c.callee with | .value y => mOpd y y' | _ => false) && mArgs c.args.toList as
    | _ => false
  | .callc y' x' => match o with
    | .call cl => (match cl.callee, cl.args.toList with | .value y, [x] => mOpd y y' && mOpd x x' | _, _ => false)
    | _ => false
  | .callm y' x' as => match o with
    | .call c => (match c.callee with | .value y => mOpd y y' | _ => false) && (match c.args.toList with
      | x :: xs => mOpd x x' && mArgs xs as
      | [] => false)
    | _ => false
  | .del e sz bytes x' y' => match o with
    | .call c => (match c.callee with | .builtin .append => true | _ => false) && (match c.args.toList, c.argTypes.toList with
      | [x, y], [t, t'] => t == t' && mOpd x x' && mOpd y y' && appOk P t e sz bytes
      | _, _ => false)
    | _ => false
  | .storep sz x' y' => match o with
    | .store t x y => mOpd x x' && mOpd y y' && ((P.info? t).map (·.size) == some sz)
    | _ => false
theorem uStr_eq {P : Program} {t : TypeId} (h : uStr P t = true) : P.underlying t = some .string := by
  unfold uStr at h; split at h <;> first | assumption | cases h
theorem uSl_eq {P : Program} {t : TypeId} (h : uSl P t = true) : ∃ e, P.underlying t = some (.slice e) := by
  unfold uSl at h; split at h
  · exact ⟨_, by assumption⟩
  · cases h
theorem uBool_eq {P : Program} {t : TypeId} (h : uBool P t = true) : P.underlying t = some .bool := by
  unfold uBool at h; split at h <;> first | assumption | cases h
theorem uInt_eq {P : Program} {t : TypeId} {k : IntKind} (h : uInt P t k = true) : P.underlying t = some (.int k) := by
  unfold uInt at h; split at h
  · simp only [beq_iff_eq] at h; subst h; assumption
  · cases h
section
variable {P : Program} {o : Oper} {c : Ctx} {N : Nat} {st : St} {a : Act} {w : World} {own : Nat → List Nat} {lo : List Nat}
theorem isS_iff {av : AV} {s : Bool} (h : isS av = s) : s = true ↔ ∃ x, av = .v (.string x) := by
  subst h
  constructor
  · intro h; unfold isS at h; split at h
    · exact ⟨_, rfl⟩
    · cases h
  · rintro ⟨x, rfl⟩; rfl
theorem q_sound (C : Core c st (tmOf a) w own lo) {m : MQ} (hm : mQ P o.op m = true) {k : AV → Prop} (h : mqV m st k) : QRes P o c st a w own lo k := by
  cases m with
  | mov y =>
    simp only [mQ] at hm
    split at hm
    · rename_i x ho; exact q_mov C hm (.inl ho) h
    · rename_i x ho; exact q_mov C hm (.inr ho) h
    · cases hm
  | pick x' y' z' =>
    simp only [mQ] at hm
    split at hm
    · rename_i ho; simp only [Bool.and_eq_true] at hm; exact q_pick C hm.1.1 hm.1.2 hm.2 ho h
    · cases hm
  | bin b op' x' y' =>
    simp only [mQ] at hm
    split at hm
    · rename_i ho
      simp only [Bool.and_eq_true, beq_iff_eq, Bool.or_eq_true, Bool.not_eq_true'] at hm
      obtain ⟨⟨⟨rfl, hx⟩, hy⟩, hb⟩ := hm
      refine q_bin C hx hy ho ?_ h.2
      intro p q hp _
      have := h.1 (by rw [hp]; rfl)
      rcases hb with hb | hb
      · rw [hb] at this; cases this
      · exact uBool_eq hb
    · cases hm
  | un op' x' =>
    simp only [mQ] at hm
    split at hm
    · rename_i ho
      simp only [Bool.and_eq_true, beq_iff_eq] at hm
      obtain ⟨rfl, hx⟩ := hm
      exact q_un C hx ho h
    · cases hm
  | conv kd x' =>
    simp only [mQ] at hm
    split at hm
    · rename_i ho
      simp only [Bool.and_eq_true] at hm
      exact q_conv C hm.1.1 ho hm.1.2 (uInt_eq hm.2) h
    · cases hm
  | len s x' =>
    simp only [mQ] at hm
    split at hm
    · rename_i cl ho
      simp only [Bool.and_eq_true] at hm
      obtain ⟨h1, h2⟩ := hm
      split at h1
      rotate_left
      · cases h1
      rename_i hcal
      split at h2
      rotate_left
      · cases h2
      rename_i x t hargs hts
      simp only [Bool.and_eq_true] at h2
      obtain ⟨hx, ht⟩ := h2
      have ho' : o.op = .call { callee := .builtin .len, args := #[x], argTypes := #[t] } := by
        rw [ho]; congr 1
        obtain ⟨ca, ar, at'⟩ := cl
        simp only at hcal hargs hts
        rw [hcal, ← Array.toArray_toList (xs := ar), hargs, ← Array.toArray_toList (xs := at'), hts]
      have hs := h.1
      refine q_len (ty := 0) C hx ho' ?_ ?_ h.2
      · cases s
        · obtain ⟨e, he⟩ := uSl_eq (by simpa using ht); rw [he]
        · rw [uStr_eq (by simpa using ht)]
      · rw [← isS_iff hs]
        cases s
        · obtain ⟨e, he⟩ := uSl_eq (by simpa using ht); rw [he]
        · rw [uStr_eq (by simpa using ht)]
    · cases hm
  | load agg sz x' =>
    simp only [mQ] at hm
    split at hm
    · rename_i ho; simp only [Bool.and_eq_true] at hm; exact q_load C hm.1 ho hm.2 h
    · cases hm
  | nilchk x' =>
    simp only [mQ] at hm
    split at hm
    · rename_i ho; exact q_nilchk C hm ho h
    · cases hm
  | fad off x' =>
    simp only [mQ] at hm
    split at hm
    · rename_i ho; simp only [Bool.and_eq_true] at hm; exact q_fad C hm.1 ho hm.2 h
    · cases hm
  | fld agg off sz x' =>
    simp only [mQ] at hm
    split at hm
    · rename_i ho; simp only [Bool.and_eq_true] at hm; exact q_fld C hm.1 ho hm.2 h
    · cases hm
  | iad sz x' y' =>
    simp only [mQ] at hm
    split at hm
    · rename_i ho; simp only [Bool.and_eq_true] at hm; exact q_iad C hm.1.1 hm.1.2 ho hm.2 h
    · cases hm
  | idx x' y' =>
    simp only [mQ] at hm
    split at hm
    · rename_i ho; simp only [Bool.and_eq_true] at hm; exact q_idx C hm.1.1 hm.1.2 ho (uStr_eq hm.2) h
    · cases hm
  | slc s sz x' l' h' =>
    simp only [mQ] at hm
    split at hm
    · rename_i ho
      simp only [Bool.and_eq_true, beq_iff_eq] at hm
      obtain ⟨⟨⟨⟨hx, hl⟩, hh⟩, hok⟩, hs⟩ := hm
      obtain ⟨h1, h2⟩ := h
      refine q_slc C hx hl hh ho hok ?_ ?_ h2
      · intro u hu
        have := (isS_iff h1).2 ⟨u, hu⟩
        exact uStr_eq (hs.trans this)
      · intro hu hstr
        have : s = true := by rw [← hs]; simp [uStr, hstr]
        obtain ⟨u, hu'⟩ := (isS_iff h1).1 this
        exact hu u hu'
    · cases hm
  | isnil neq x' =>
    simp only [mQ] at hm
    split at hm
    · rename_i ho
      simp only [Bool.and_eq_true, beq_iff_eq] at hm
      obtain ⟨⟨hx, rfl⟩, hu⟩ := hm
      exact q_isnil C hx ho (uSl_eq hu) h
    · cases hm
  | eqa neq ds x' y' =>
    simp only [mQ] at hm
    split at hm
    · rename_i ho
      simp only [Bool.and_eq_true, beq_iff_eq] at hm
      obtain ⟨⟨⟨hx, hy⟩, rfl⟩, hok⟩ := hm
      exact q_eqa C hx hy ho hok h
    · cases hm
  | ext n i' =>
    simp only [mQ] at hm
    split at hm
    · rename_i ho
      simp only [Bool.and_eq_true, beq_iff_eq] at hm
      obtain ⟨rfl, rfl⟩ := hm
      exact q_ext C ho h
    · cases hm
  | mkf f' ys =>
    simp only [mQ] at hm
    split at hm
    · rename_i f first xs ho
      simp only [Bool.and_eq_true, beq_iff_eq] at hm
      obtain ⟨⟨rfl, hfst⟩, hz⟩ := hm
      have hf' : first = #[] := by simpa [Array.isEmpty_iff] using hfst
      subst hf'
      exact q_mkf (xs := xs.toList) C (by simpa [mZip] using hz) (by simpa using ho) h
    · cases hm
  | b2s x' =>
    simp only [mQ] at hm
    split at hm
    · rename_i ho; simp only [Bool.and_eq_true] at hm; exact q_b2s C hm.1 ho hm.2 h
    · cases hm
  | isni neq x' =>
    simp only [mQ] at hm
    split at hm
    · rename_i ho
      simp only [Bool.and_eq_true, beq_iff_eq] at hm
      obtain ⟨⟨hx, rfl⟩, hu⟩ := hm
      have rx := rd_rep C hx
      simp only [mqV, isniV] at h
      split at h
      · rename_i hv
        rw [hv] at rx
        have ex := repV_v rx
        refine ⟨.bool (!neq), .v (.bool (!neq)), fun w' _ => ?_, repV_scal rfl, h⟩
        have hU := uIf_eq hu
        have ec : a.eval (.const .nilIface) = .nilIface := rfl
        cases neq
        · simp [execOp, ho, ex, ec, run_eql_nil_nil _ _ hU, eqGuard_nil_constR]
        · simp [execOp, ho, ex, ec, run_neq_nil_nil _ _ hU, eqGuard_nil_constR]
      · exact h.elim
    · cases hm
  | mm mx x' y' =>
    simp only [mQ] at hm
    split at hm
    rotate_left
    · cases hm
    rename_i cl ho
    simp only [Bool.and_eq_true] at hm
    obtain ⟨h1, h2⟩ := hm
    split at h2
    rotate_left
    · cases h2
    rename_i x y hargs
    simp only [Bool.and_eq_true] at h2
    have rx := rd_rep C h2.1
    have ry := rd_rep C h2.2
    simp only [mqV] at h
    unfold mmV at h
    split at h
    rotate_left
    · exact h.elim
    rename_i p q hp hq
    rw [hp] at rx
    rw [hq] at ry
    have e1 := repV_v rx
    have e2 := repV_v ry
    have ho' : o.op = .call { callee := cl.callee, args := #[x, y], argTypes := cl.argTypes } := by
      rw [ho]; congr 1
      obtain ⟨ca, ar, at'⟩ := cl
      simp only at hargs
      rw [← Array.toArray_toList (xs := ar), hargs]
    split at h1
    · rename_i hcal
      have e : mx = false := by simpa using h1
      subst e
      refine ⟨_, _, fun w' _ => ?_, repV_scal rfl, h⟩
      rw [hcal] at ho'
      simp [execOp, ho', resolve, invoke, builtin, e1, e2, Builtin.min_, Builtin.min2]
    · rename_i hcal
      have e : mx = true := h1
      subst e
      refine ⟨_, _, fun w' _ => ?_, repV_scal rfl, h⟩
      rw [hcal] at ho'
      simp [execOp, ho', resolve, invoke, builtin, e1, e2, Builtin.max_, Builtin.max2]
    · cases h1
theorem zip_unzip {α β : Type} : ∀ (l : List (α × β)), (l.map (·.1)).zip (l.map (·.2)) = l
  | [] => rfl
  | (a, b) :: l => by simp [zip_unzip l]
variable {Q : Exit → Act → World → Prop} [GOk c P]
theorem a_sound (S : Sim c N st a w) (hN : ∀ e, o.dst = some e → e < N ∧ c.fx e = none) {m : MA} (hm : mA P o.op m = true) {k : K} (h : maV P m st o.dst k) : Ok P c N a w o k Q := by
  cases m with
  | asg y =>
    simp only [mA] at hm
    split at hm
    · rename_i x ho; exact a_asg S hN hm (.inl ho) h
    · rename_i x ho; exact a_asg S hN hm (.inr ho) h
    · cases hm
  | asgf y =>
    simp only [mA] at hm
    split at hm
    · rename_i x ho; exact a_asgf S hN hm (.inl ho) h
    · rename_i x ho; exact a_asgf S hN hm (.inr ho) h
    · cases hm
  | box e y =>
    simp only [mA] at hm
    split at hm
    · rename_i ho
      simp only [Bool.and_eq_true, beq_iff_eq] at hm
      obtain ⟨rfl, hx⟩ := hm
      exact a_box S hN hx ho h
    · cases hm
  | alloc e zs =>
    simp only [mA] at hm
    split at hm
    · rename_i ho
      simp only [Bool.and_eq_true, beq_iff_eq] at hm
      obtain ⟨rfl, hz⟩ := hm
      exact a_alloc S hN hz ho h
    · cases hm
  | build ix offs szs zs ys =>
    simp only [mA] at hm
    split at hm
    · rename_i t ps ho
      simp only [Bool.and_eq_true, beq_iff_eq] at hm
      obtain ⟨⟨rfl, hz⟩, hok⟩ := hm
      exact a_build (xs := ps.toList.map (·.2)) S hN (by simpa only [mZip] using hz) (by simp) (by rw [ho, zip_unzip, Array.toArray_toList]) hok h
    · cases hm
  | bsl e sz ys =>
    simp only [mA] at hm
    split at hm
    · rename_i t n ps ho
      simp only [Bool.and_eq_true, beq_iff_eq] at hm
      obtain ⟨⟨⟨rfl, hr⟩, hz⟩, hok⟩ := hm
      have hl : (ps.toList.map (·.2)).length = ps.toList.length := by simp
      exact a_bsl (xs := ps.toList.map (·.2)) S hN (by simpa only [mZip] using hz) (by rw [hl, ← hr, zip_unzip, Array.toArray_toList]; exact ho) (by rw [hl]; exact hok) h
    · cases hm
  | mks e sz bytes zs x' y' =>
    simp only [mA] at hm
    split at hm
    · rename_i ho
      simp only [Bool.and_eq_true] at hm
      exact a_mks S hN hm.1.1 hm.1.2 ho hm.2 h
    · cases hm
  | store sz x' y' =>
    simp only [mA] at hm
    split at hm
    · rename_i ho
      simp only [Bool.and_eq_true, beq_iff_eq] at hm
      exact a_store S hm.1.1 hm.1.2 ho h.1 hm.2 h.2
    · cases hm
  | storek sz x' y' =>
    simp only [mA] at hm
    split at hm
    · rename_i ho
      simp only [Bool.and_eq_true, beq_iff_eq] at hm
      exact a_storek S hm.1.1 hm.1.2 ho h.1 hm.2 h.2
    · cases hm
  | app own e sz bytes x' y' =>
    simp only [mA] at hm
    split at hm
    · rename_i cl ho
      simp only [Bool.and_eq_true] at hm
      obtain ⟨h1, h2⟩ := hm
      split at h1
      rotate_left
      · cases h1
      rename_i hcal
      split at h2
      rotate_left
      · cases h2
      rename_i x y t t' hargs hts
      simp only [Bool.and_eq_true, beq_iff_eq] at h2
      obtain ⟨⟨⟨rfl, hx⟩, hy⟩, hok⟩ := h2
      have ho' : o.op = .call { callee := .builtin .append, args := #[x, y], argTypes := #[t, t] } := by
        rw [ho]; congr 1
        obtain ⟨ca, ar, at'⟩ := cl
        simp only at hcal hargs hts
        rw [hcal, ← Array.toArray_toList (xs := ar), hargs, ← Array.toArray_toList (xs := at'), hts]
      exact a_app S hN hx hy ho' hok h
    · cases hm
  | call y' al as =>
    simp only [mA] at hm
    split at hm
    · rename_i cl ho
      simp only [Bool.and_eq_true] at hm
      obtain ⟨h1, h2⟩ := hm
      split at h1
      rotate_left
      · cases h1
      rename_i y hcal
      have ho' : o.op = .call { callee := .value y, args := cl.args.toList.toArray, argTypes := cl.argTypes } := by
        rw [ho]; congr 1
        obtain ⟨ca, ar, at'⟩ := cl
        simp only at hcal
        rw [hcal, Array.toArray_toList]
      exact a_call S h1 h2 ho' hN h
    · cases hm
  | callc y' x' =>
    simp only [mA] at hm
    split at hm
    · rename_i cl ho
      split at hm
      rotate_left
      · cases hm
      rename_i y x hcal hargs
      simp only [Bool.and_eq_true] at hm
      have ho' : o.op = .call { callee := .value y, args := #[x], argTypes := cl.argTypes } := by
        rw [ho]; congr 1
        obtain ⟨ca, ar, at'⟩ := cl
        simp only at hcal hargs
        rw [hcal, show ar = #[x] from by rw [← Array.toArray_toList (xs := ar), hargs]]
      exact a_callc S hm.1 hm.2 ho' hN h
    · cases hm
  | callm y' x' as =>
    simp only [mA] at hm
    split at hm
    · rename_i cl ho
      simp only [Bool.and_eq_true] at hm
      obtain ⟨h1, h2⟩ := hm
      split at h1
      rotate_left
      · cases h1
      rename_i y hcal
      split at h2
      rotate_left
      · cases h2
      rename_i x xs hargs
      simp only [Bool.and_eq_true] at h2
      have ho' : o.op = .call { callee := .value y, args := (x :: xs).toArray, argTypes := cl.argTypes } := by
        rw [ho]; congr 1
        obtain ⟨ca, ar, at'⟩ := cl
        simp only at hcal hargs
        rw [hcal, ← hargs, Array.toArray_toList]
      exact a_callm S h1 h2.1 h2.2 ho' hN h
    · cases hm
  | del e sz bytes x' y' =>
    simp only [mA] at hm
    split at hm
    · rename_i cl ho
      simp only [Bool.and_eq_true] at hm
      obtain ⟨h1, h2⟩ := hm
      split at h1
      rotate_left
      · cases h1
      rename_i hcal
      split at h2
      rotate_left
      · cases h2
      rename_i x y t t' hargs hts
      simp only [Bool.and_eq_true, beq_iff_eq] at h2
      obtain ⟨⟨⟨rfl, hx⟩, hy⟩, hok⟩ := h2
      have ho' : o.op = .call { callee := .builtin .append, args := #[x, y], argTypes := #[t, t] } := by
        rw [ho]; congr 1
        obtain ⟨ca, ar, at'⟩ := cl
        simp only at hcal hargs hts
        rw [hcal, ← Array.toArray_toList (xs := ar), hargs, ← Array.toArray_toList (xs := at'), hts]
      exact a_del S hN hx hy ho' hok h
    · cases hm
  | storep sz x' y' =>
    simp only [mA] at hm
    split at hm
    · rename_i ho
      simp only [Bool.and_eq_true, beq_iff_eq] at hm
      exact a_storep S hm.1.1 hm.1.2 ho h.1 hm.2 h.2
    · cases hm
end
end Go.AM
namespace Go.AM
set_option linter.unusedVariables false
set_option linter.unusedSimpArgs false
def gV (st : St) (g : Option (Nat × Bool)) (yes no : Prop) : Prop :=
  match g with
  | none => yes
  | some (s, want) => match st s with
    | .v (.bool b) => if b = want then yes else no
    | .tup [] => no
    | _ => False
def oV (P : Program) (m : MO) (st : St) (k : K) : Prop :=
  match m.i with
  | .q q => mqV q st fun av => putS st m.d av k
  | .a x => maV P x st m.d k
def opsV (P : Program) : List MO → K → K
  | [], k, st => k st
  | m :: ms, k, st => gV st m.g (oV P m st (opsV P ms k)) (putS st m.d (.tup []) (opsV P ms k))
def lendAll : List Arg → Bool
  | [] => true
  | .lend _ :: as => lendAll as
  | .give _ :: _ => false
  | .io _ :: _ => false
def dcallV (P : Program) (y : Opd) (al : Bool) (as : List Arg) (st : St) (k : AV → Prop) : Prop :=
  match calleeV st y with
  | some (f, caps) => lendAll as = true ∧ (al = true → lendPlain st as = true) ∧ ∃ val, scal val = true ∧ Does P f (argL st as (as.map fun _ => .dead) ++ caps) al (.v val) (outL .dead as ++ caps.map fun _ => AV.dead) ∧ k (.v val)
  | none => False
def dV (P : Program) (m : MO) (st : St) (k : AV → Prop) : Prop :=
  match m.i with
  | .q q => mqV q st k
  | .a (.call y al as) => dcallV P y al as st k
  | .a _ => False
def dopsV (P : Program) : List MO → K → K
  | [], k, st => k st
  | m :: ms, k, st => gV st m.g (dV P m st fun av => putS st m.d av (dopsV P ms k)) (putS st m.d (.tup []) (dopsV P ms k))
def mO (P : Program) (N : Nat) (fx : List Nat) (ops : Array Oper) (o : Oper) (m : MO) : Bool :=
  (o.dst == m.d) && (match m.d with | some d => decide (d < N) && !fx.contains d | none => true) &&
  (match m.g with
   | none => o.guard.isNone
   | some (s, want') => (match o.guard with
     | some (j, want) => want == want' && decide (s < N) && (match ops[j]? with | some oj => oj.dst == some s | none => false)
     | none => false)) &&
  (match m.i with | .q q => mQ P o.op q | .a x => mA P o.op x)
def mOs (P : Program) (N : Nat) (fx : List Nat) (ops : Array Oper) : List Oper → List MO → Bool
  | [], [] => true
  | o :: os, m :: ms => mO P N fx ops o m && mOs P N fx ops os ms
  | _, _ => false
section
variable {P : Program} {o : Oper} {c : Ctx} {N : Nat} {st : St} {a : Act} {w : World} {ops : Array Oper} {Q : Exit → Act → World → Prop} {fx : List Nat}
theorem fin_q (S : Sim c N st a w) {own : Nat → List Nat} (C : Core c st (tmOf a) w own []) (hN : ∀ e, o.dst = some e → e < N ∧ c.fx e = none) {k : K} (h : QRes P o c st a w own [] fun av => putS st o.dst av k) : Ok P c N a w o k Q := by
  obtain ⟨x, av, hrun, hr, hk⟩ := h
  unfold Ok Oper.wp
  rw [hrun w (fun _ _ _ => rfl)]
  exact putS_sound S.defers S.size C hr hN hk
theorem put_undef (S : Sim c N st a w) (hN : ∀ e, o.dst = some e → e < N ∧ c.fx e = none) {k : K} (h : putS st o.dst (.tup []) k) : ∃ st', Sim c N st' (a.put o.dst undef) w ∧ k st' := by
  obtain ⟨own, C⟩ := S.core
  exact putS_sound S.defers S.size C (by simp [RepV, RepVs, undef]) hN h
theorem mO_spec {m : MO} (h : mO P N fx ops o m = true) (hfx : ∀ e, c.fx e ≠ none → e ∈ fx) :
    m.d = o.dst ∧ (∀ e, o.dst = some e → e < N ∧ c.fx e = none) ∧ (match m.i with | .q q => mQ P o.op q | .a x => mA P o.op x) = true := by
  simp only [mO, Bool.and_eq_true, beq_iff_eq] at h
  obtain ⟨⟨⟨h1, h2⟩, h3⟩, h4⟩ := h
  refine ⟨h1.symm, ?_, h4⟩
  intro e he
  rw [← h1, he] at h2
  simp only [Bool.and_eq_true, decide_eq_true_eq, Bool.not_eq_true'] at h2
  refine ⟨h2.1, ?_⟩
  cases hc : c.fx e with
  | none => rfl
  | some v =>
    have := hfx e (by simp [hc])
    simp [this] at h2
theorem guard_sound (S : Sim c N st a w) {m : MO} (h : mO P N fx ops o m = true) {yes no : Prop} (hg : gV st m.g yes no) :
    if Region.wanted o (yielded ops a.tmps) = true then yes else no := by
  simp only [mO, Bool.and_eq_true, beq_iff_eq] at h
  obtain ⟨⟨⟨_, _⟩, h3⟩, _⟩ := h
  unfold gV at hg
  split at hg
  · rename_i hm
    rw [hm] at h3
    have : o.guard = none := by simpa using h3
    simp only [Region.wanted, this, if_true]
    exact hg
  · rename_i s want hm
    rw [hm] at h3
    simp only at h3
    split at h3
    rotate_left
    · cases h3
    rename_i j want' hgd
    simp only [Bool.and_eq_true, beq_iff_eq, decide_eq_true_eq] at h3
    obtain ⟨⟨rfl, hs⟩, h3⟩ := h3
    split at h3
    rotate_left
    · cases h3
    rename_i oj hoj
    simp only [beq_iff_eq] at h3
    obtain ⟨own, C⟩ := S.core
    have hr := C.rep s
    have hsz : s < a.tmps.size := by rw [S.size.1]; exact hs
    have hy : yielded ops a.tmps j = match tmOf a s with | .bool b => some b | _ => none := by
      simp only [yielded, hoj, Option.bind_some, h3, tmOf]
      rw [Array.getElem?_eq_getElem hsz]
      simp only [Array.getD_eq_getD_getElem?, Array.getElem?_eq_getElem hsz, Option.getD_some]
      cases a.tmps[s] <;> rfl
    simp only [Region.wanted, hgd, hy]
    split at hg
    · rename_i b hb
      rw [hb] at hr
      simp only [RepV, RepC] at hr
      rw [hr.1]
      simp only [beq_iff_eq, Option.some.injEq]
      exact hg
    · rename_i hb
      rw [hb] at hr
      simp only [RepV, RepVs] at hr
      obtain ⟨xs, hx, hxs, _⟩ := hr
      rw [hx]
      simp only [reduceCtorEq, beq_iff_eq, if_false]
      exact hg
    · exact hg.elim
theorem ops_sound [GOk c P] (hfx : ∀ e, c.fx e ≠ none → e ∈ fx) {k : K} (hQ : ∀ st a w, Sim c N st a w → k st → Q .normal a w) : ∀ (l : List Oper) (ms : List MO) (st : St) (a : Act) (w : World), mOs P N fx ops l ms = true → Sim c N st a w → opsV P ms k st → wpList P ops Q l a w
  | [], [], st, a, w, _, S, h => hQ _ _ _ S h
  | [], _ :: _, st, a, w, hm, S, h => by simp [mOs] at hm
  | _ :: _, [], st, a, w, hm, S, h => by simp [mOs] at hm
  | o :: l, m :: ms, st, a, w, hm, S, h => by
    simp only [mOs, Bool.and_eq_true] at hm
    obtain ⟨h1, h2⟩ := hm
    obtain ⟨hd, hN, hi⟩ := mO_spec h1 hfx
    refine wpList_step ?_
    intro K hK
    simp only [opsV] at h
    have hg := guard_sound S h1 h
    by_cases hw : Region.wanted o (yielded ops a.tmps) = true
    · rw [if_pos hw] at hg ⊢
      have hok : Ok P c N a w o (opsV P ms k) Q := by
        unfold oV at hg
        rw [hd] at hg
        cases hmi : m.i with
        | q q =>
          rw [hmi] at hg hi
          obtain ⟨own, C⟩ := S.core
          exact fin_q S C hN (q_sound C hi hg)
        | a x =>
          rw [hmi] at hg hi
          exact a_sound S hN hi hg
      refine Oper.wp_mono ?_ hok
      rintro a' w' ⟨st', S', h'⟩
      exact hK _ _ (ops_sound hfx hQ l ms st' a' w' h2 S' h')
    · rw [if_neg hw] at hg ⊢
      rw [hd] at hg
      obtain ⟨st', S', h'⟩ := put_undef S hN hg
      exact hK _ _ (ops_sound hfx hQ l ms st' _ w h2 S' h')
theorem Sim.world {w' : World} (S : Sim c N st a w) (he : Ext w w' []) : Sim c N st a w' := by
  obtain ⟨own, C⟩ := S.core
  exact ⟨S.defers, S.size, own, C.world (lo' := []) he (by simp) (by simp)⟩
theorem giveS_lend {st : St} : ∀ {as : List Arg}, lendAll as = true → giveS st as = some (as.map fun _ => .dead, st) ∧ ioAll st as = []
  | [], _ => ⟨rfl, rfl⟩
  | .lend y :: as, h => by
    obtain ⟨h1, h2⟩ := giveS_lend (st := st) (as := as) (by simpa [lendAll] using h)
    simp [giveS, h1, ioAll, h2]
  | .give _ :: _, h => by simp [lendAll] at h
  | .io _ :: _, h => by simp [lendAll] at h
theorem quiet_call [GOk c P] {own : Nat → List Nat} (S : Sim c N st a w) {y : Opd} {al : Bool} {as : List Arg} (hm : mA P o.op (.call y al as) = true) {k : AV → Prop} (h : dcallV P y al as st k) :
    ∃ val, (∀ w', Ext w w' [] → o.quietAt P a (fun w' => Ext w w' []) w' val) ∧ scal val = true ∧ k (.v val) := by
  unfold dcallV at h
  split at h
  rotate_left
  · exact h.elim
  rename_i f caps hcal
  obtain ⟨hla, hal, val, hsc, hcon, hk⟩ := h
  refine ⟨val, ?_, hsc, hk⟩
  intro w' hE
  obtain ⟨own, C⟩ := (S.world hE).core
  simp only [mA] at hm
  split at hm
  rotate_left
  · cases hm
  rename_i cl ho
  simp only [Bool.and_eq_true] at hm
  obtain ⟨h1, h2⟩ := hm
  split at h1
  rotate_left
  · cases h1
  rename_i yy hcal'
  have ho' : o.op = .call { callee := .value yy, args := cl.args.toList.toArray, argTypes := cl.argTypes } := by
    rw [ho]; congr 1
    obtain ⟨ca, ar, at'⟩ := cl
    simp only at hcal'
    rw [hcal', Array.toArray_toList]
  obtain ⟨hgv, hio⟩ := giveS_lend (st := st) hla
  obtain ⟨own1, C1, hg, _⟩ := give_sound C h2 hgv
  unfold calleeV at hcal
  split at hcal
  rotate_left
  · cases hcal
  rename_i f' caps' hrd
  split at hcal
  rotate_left
  · cases hcal
  rename_i hpl
  simp only [Option.some.injEq, Prod.mk.injEq] at hcal
  obtain ⟨rfl, rfl⟩ := hcal
  have ry := rd_rep C1 h1
  rw [hrd] at ry
  have ry2 := plain_rep (L' := noL) (.clo f' caps') ry (by simpa [plain] using hpl) ⟨fun b hb => ⟨hb, rfl⟩, fun _ _ => rfl⟩
  simp only [RepV] at ry2
  obtain ⟨cv, hcv, hrcv⟩ := ry2
  have hcall := core_call0 (R := fun r => r = .v val) C1 h2 hg hio hal hrcv (hcon.2.e ⟨rfl, rfl⟩)
  unfold Oper.quietAt
  rw [run_call hcon.1 ho' hcv]
  simp only [Oper.quietUpon, true_and]
  refine hcall.mono ?_
  rintro e w'' ⟨res, x, ox, rfl, rfl, hE2, C2, hr⟩
  simp only [RepV, RepC] at hr
  rw [hr.1]
  exact ⟨rfl, hE.trans hE2 (by simp)⟩
theorem wpQuiet_mono {C : World → Prop} {Q1 Q2 : Act → Prop} (h : ∀ a, Q1 a → Q2 a) : ∀ (l : List Oper) (a : Act), wpQuiet P ops C Q1 l a → wpQuiet P ops C Q2 l a
  | [], a, hh => h a hh
  | o :: l, a, hh => by
    simp only [wpQuiet] at hh ⊢
    split
    · rename_i hw; rw [if_pos hw] at hh; obtain ⟨v, h1, h2⟩ := hh; exact ⟨v, h1, wpQuiet_mono h l _ h2⟩
    · rename_i hw; rw [if_neg hw] at hh; exact wpQuiet_mono h l _ hh
theorem dops_sound [GOk c P] (hfx : ∀ e, c.fx e ≠ none → e ∈ fx) {k : K} : ∀ (l : List Oper) (ms : List MO) (st : St) (a : Act), mOs P N fx ops l ms = true → Sim c N st a w → dopsV P ms k st →
    wpQuiet P ops (fun w' => Ext w w' []) (fun a' => ∃ st', Sim c N st' a' w ∧ k st') l a
  | [], [], st, a, _, S, h => ⟨st, S, h⟩
  | [], _ :: _, st, a, hm, S, h => by simp [mOs] at hm
  | _ :: _, [], st, a, hm, S, h => by simp [mOs] at hm
  | o :: l, m :: ms, st, a, hm, S, h => by
    simp only [mOs, Bool.and_eq_true] at hm
    obtain ⟨h1, h2⟩ := hm
    obtain ⟨hd, hN, hi⟩ := mO_spec h1 hfx
    simp only [dopsV] at h
    have hg := guard_sound S h1 h
    simp only [wpQuiet]
    by_cases hw : Region.wanted o (yielded ops a.tmps) = true
    · rw [if_pos hw] at hg ⊢
      obtain ⟨own, C⟩ := S.core
      unfold dV at hg
      rw [hd] at hg
      split at hg
      · rename_i q hmi
        rw [hmi] at hi
        obtain ⟨x, av, hrun, hr, hk⟩ := q_sound C hi hg
        obtain ⟨st', S', h'⟩ := putS_sound S.defers S.size C hr hN hk
        refine ⟨x, ?_, dops_sound hfx l ms st' _ h2 S' h'⟩
        intro w' hE
        unfold Oper.quietAt
        rw [hrun w' (fun _ b hb => hE.blk b (by rcases hb with h | h; exact h.1; exact (C.old b h).2) (by simp))]
        exact ⟨rfl, rfl⟩
      · rename_i y al as hmi
        rw [hmi] at hi
        obtain ⟨val, hq, hsc, hk⟩ := quiet_call (own := own) S hi hg
        obtain ⟨st', S', h'⟩ := putS_sound (x := val) S.defers S.size C (by simp [RepV, RepC, scal_one hsc]) hN hk
        exact ⟨val, hq, dops_sound hfx l ms st' _ h2 S' h'⟩
      · exact hg.elim
    · rw [if_neg hw] at hg ⊢
      rw [hd] at hg
      obtain ⟨st', S', h'⟩ := put_undef S hN hg
      exact dops_sound hfx l ms st' _ h2 S' h'
end
end Go.AM
namespace Go.AM
set_option linter.unusedVariables false
set_option linter.unusedSimpArgs false
def allK : Nat → List (Nat × Nat) → Bool := fun _ _ => true
def keepL (l : List Nat) (st : St) : St := fun k => if k ∈ l then killV (fun n _ => !l.contains n) (st k) else .dead
def isQ (m : MO) : Bool := match m.i with | .q _ => true | .a _ => false
def notFl (B : List Nat) (l l' : List Nat) : Bool := l.all fun k => !l'.contains k || B.contains k
def fV (P : Program) : List MO → (St → K) → St → K
  | [], k, sF, sW => k sF sW
  | m :: ms, k, sF, sW => (match m.d with | some d => bare (sF d) = true | none => True) ∧
      match m.i with
      | .q q => gV sF m.g (mqV q sF fun av => putS sW m.d (killV allK av) (fV P ms k (match m.d with | some d => upd sF d av | none => sF)))
          (putS sW m.d (.tup []) (fV P ms k (match m.d with | some d => upd sF d (.tup []) | none => sF)))
      | .a _ => False
def backS (RL : List Nat) (st st' : St) : St := fun k => if k ∈ RL then killV (fun n _ => !RL.contains n) (st k) else killV (fun n _ => RL.contains n) (st' k)
def mixV (P : Program) (FL WL RL B : List Nat) (fs cs : List MO) (k : K) (st : St) : Prop :=
  (B.all fun n => bare (st n)) = true ∧ fV P fs (fun _ sW => opsV P cs (fun s3 => k (backS RL st s3)) sW) (keepL FL st) (keepL WL st)
def mF (P : Program) (N : Nat) (fx : List Nat) (ops : Array Oper) (F : Array Bool → Bool) : List Nat → List MO → Array Bool → Bool
  | [], [], listed => F listed
  | i :: is, m :: ms, listed => (match ops[i]? with
      | some o => mO P N fx ops o m && isQ m && Region.free .any ops listed i && (Region.ready .any ops listed).contains i
      | none => false) && mF P N fx ops F is ms (listed.setIfInBounds i true)
  | _, _, _ => false
def mT (P : Program) (N : Nat) (fx : List Nat) (ops : Array Oper) : List Nat → List MO → Array Bool → Bool
  | [], [], listed => (Region.ready .any ops listed).isEmpty
  | i :: is, m :: ms, listed => (match ops[i]? with
      | some o => mO P N fx ops o m && ((Region.ready .any ops listed == [i]) || (isQ m && !needsW o.op && Region.free .any ops listed i && (Region.ready .any ops listed).contains i))
      | none => false) && mT P N fx ops is ms (listed.setIfInBounds i true)
  | _, _, _ => false
def mixOk (P : Program) (N : Nat) (fx : List Nat) (ops : Array Oper) (FL WL RL B fi ci : List Nat) (fs cs : List MO) : Bool :=
  Region.noSelect ops && P.follows .mixedOrders && (fi.length + ci.length == ops.size) && notFl B FL WL && notFl B RL WL &&
    mF P N (RL ++ fx) ops (fun listed => mT P N (RL ++ fx) ops ci cs listed) fi fs (Array.replicate ops.size false)
section
variable {P : Program} {o : Oper} {c : Ctx} {N : Nat} {st : St} {a : Act} {w : World} {ops : Array Oper} {Q : Exit → Act → World → Prop} {fx : List Nat}
def ctxL (c : Ctx) (w : World) (own : Nat → List Nat) (l : List Nat) (RL : List Nat) (a : Act) : Ctx :=
  { w0 := w, Fz := frz c w (owned own []), own0 := l.flatMap own, fx := fun k => if k ∈ RL then some (tmOf a k) else c.fx k }
def ownL (l : List Nat) (own : Nat → List Nat) : Nat → List Nat := fun k => if k ∈ l then own k else []
theorem ownL_mem {l : List Nat} {own : Nat → List Nat} {b : Nat} : owned (ownL l own) [] b ↔ b ∈ l.flatMap own := by
  constructor
  · rintro (⟨k, hk⟩ | hb)
    · simp only [ownL] at hk
      split at hk
      · rename_i h; exact List.mem_flatMap.2 ⟨k, h, hk⟩
      · simp at hk
    · simp at hb
  · intro h
    obtain ⟨k, hk, hb⟩ := List.mem_flatMap.1 h
    exact .inl ⟨k, by simp only [ownL, if_pos hk]; exact hb⟩
theorem gok_ctxL [GOk c P] {own : Nat → List Nat} (C : Core c st (tmOf a) w own []) (l RL : List Nat) : GOk (ctxL c w own l RL a) P := by
  refine ⟨(gok_frz C (fun _ h => h) (fun b hb => hb.1)).gl, fun b hb hf => ?_, fun b hb => hb.1⟩
  obtain ⟨k, _, hk⟩ := List.mem_flatMap.1 hb
  exact hf.2.2 (.inl ⟨k, hk⟩)
theorem core_part {own : Nat → List Nat} (C : Core c st (tmOf a) w own []) (l RL : List Nat) : Core (ctxL c w own l RL a) (keepL l st) (tmOf a) w (ownL l own) [] := by
  have hX : ∀ b, owned (ownL l own) [] b → owned own [] b := by
    intro b hb
    obtain ⟨k, _, hk⟩ := List.mem_flatMap.1 (ownL_mem.1 hb)
    exact .inl ⟨k, hk⟩
  refine ⟨Ext.refl _ _, ?_, ?_, ?_, by simp, by simp, ?_⟩
  · intro k
    unfold keepL ownL
    by_cases h : k ∈ l
    · rw [if_pos h, if_pos h]
      refine (C.rep k).keep (L := locs st (tmOf a) w) ?_ _ _ _ ?_
      · intro n p r hK hl
        have hn : n ∈ l := by simpa using hK
        simp only [locs, if_pos hn, walkSh_kill]
        exact hl
      · exact ⟨fun b hb => ⟨⟨hb.1, .inr (.inl hb), fun hx => hb.2.2 (hX b hx)⟩, rfl⟩, fun _ _ => rfl⟩
    · rw [if_neg h, if_neg h]
      simp [RepV]
  · intro k; unfold ownL; split
    · exact C.nd k
    · simp
  · intro j k hjk b hb
    unfold ownL at hb ⊢
    split at hb
    · split
      · exact C.dj j k hjk b hb
      · simp
    · simp at hb
  · intro b hb
    refine ⟨.inl (ownL_mem.1 hb), (C.old b (hX b hb)).2⟩
def held (w : World) (W : List Nat) (w' : World) : Prop := ∀ b, b < w.heap.size → b ∉ W → w'.heap[b]? = w.heap[b]?
theorem back_sound {own : Nat → List Nat} (C : Core c st (tmOf a) w own []) (hsz : Slots c N a) {WL RL : List Nat} (hdj : ∀ k ∈ RL, ∀ b ∈ own k, b ∉ WL.flatMap own) {st3 : St} {a3 : Act} {w3 : World}
    (S3 : Sim (ctxL c w own WL RL a) N st3 a3 w3) : Sim c N (backS RL st st3) a3 w3 := by
  obtain ⟨hd, ⟨hs1, hs2⟩, own3, C3⟩ := S3
  have htm : ∀ k ∈ RL, tmOf a3 k = tmOf a k := by
    intro k hk
    exact hs2 k _ (by simp only [ctxL, if_pos hk])
  have hW : ∀ b ∈ WL.flatMap own, owned own [] b := by
    intro b hb
    obtain ⟨k, _, hk⟩ := List.mem_flatMap.1 hb
    exact .inl ⟨k, hk⟩
  have hE : Ext w w3 (WL.flatMap own) := C3.fr
  have h3 : ∀ b, owned own3 [] b → (b ∈ WL.flatMap own ∨ w.heap.size ≤ b) ∧ b < w3.heap.size := C3.old
  have hRb : ∀ k ∈ RL, ∀ b ∈ own k, b < w.heap.size ∧ b ∉ WL.flatMap own := fun k hk b hb => ⟨(C.old b (.inl ⟨k, hb⟩)).2, hdj k hk b hb⟩
  let ownR : Nat → List Nat := fun k => if k ∈ RL then own k else own3 k
  have hoR : ∀ b, owned ownR [] b → (∃ k ∈ RL, b ∈ own k) ∨ owned own3 [] b := by
    rintro b (⟨k, hk⟩ | hb)
    · simp only [ownR] at hk
      split at hk
      · rename_i h; exact .inl ⟨k, h, hk⟩
      · exact .inr (.inl ⟨k, hk⟩)
    · simp at hb
  refine ⟨hd, ⟨hs1, ?_⟩, ownR, ?_⟩
  · intro k v hk
    by_cases h : k ∈ RL
    · rw [htm k h]; exact hsz.2 k v hk
    · exact hs2 k v (by simp only [ctxL, if_neg h]; exact hk)
  · refine ⟨?_, ?_, ?_, ?_, by simp, by simp, ?_⟩
    · refine C.fr.trans hE ?_
      intro x hx hlt
      rcases (C.old x (hW x hx)).1 with h | h
      · exact h
      · omega
    · intro k
      show RepV w3 _ _ (backS RL st st3 k) (tmOf a3 k) (if k ∈ RL then own k else own3 k)
      by_cases h : k ∈ RL
      · simp only [backS, if_pos h]
        rw [htm k h]
        refine (C.rep k).keep (L := locs st (tmOf a) w) ?_ _ _ _ ?_
        · intro n p r hK hl
          have hn : n ∈ RL := by simpa using hK
          simp only [locs, backS, if_pos hn, walkSh_kill, htm n hn]
          simp only [locs] at hl
          simp only [walkSh] at hl ⊢
          rw [walk_keepV p _ (C.rep n) (fun b hb => hE.blk b (hRb n hn b hb).1 (hRb n hn b hb).2)]
          exact hl
        · refine ⟨?_, fun b hb => hE.blk b (hRb k h b hb).1 (hRb k h b hb).2⟩
          intro b hb
          have hnW : b ∉ WL.flatMap own := fun hx => hb.2.2 (hW b hx)
          refine ⟨⟨Nat.lt_of_lt_of_le hb.1 hE.size, hb.2.1, fun hx => ?_⟩, hE.blk b hb.1 hnW⟩
          rcases hoR b hx with ⟨j, _, hj⟩ | h'
          · exact hb.2.2 (.inl ⟨j, hj⟩)
          · rcases (h3 b h').1 with h'' | h''
            · exact hnW h''
            · have := hb.1; omega
      · simp only [backS, if_neg h]
        refine (C3.rep k).keep (L := locs st3 (tmOf a3) w3) ?_ _ _ _ ?_
        · intro n p r hK hl
          have hn : ¬ n ∈ RL := by simpa using hK
          simp only [locs, backS, if_neg hn, walkSh_kill]
          exact hl
        · refine ⟨?_, fun _ _ => rfl⟩
          intro b hb
          refine ⟨⟨hb.1, ?_, fun hx => ?_⟩, rfl⟩
          · rcases hb.2.1 with h' | h' | h'
            · exact .inl (Nat.le_trans C.fr.size h')
            · exact h'.2.1
            · rcases (C.old b (hW b h')).1 with h'' | h''
              · exact .inr (.inr h'')
              · exact .inl h''
          · rcases hoR b hx with ⟨j, hj, hbj⟩ | h'
            · rcases hb.2.1 with h'' | h'' | h''
              · have := (hRb j hj b hbj).1
                simp only [ctxL] at h''
                omega
              · exact h''.2.2 (.inl ⟨j, hbj⟩)
              · exact (hRb j hj b hbj).2 h''
            · exact hb.2.2 h'
    · intro k; simp only [ownR]; split
      · exact C.nd k
      · exact C3.nd k
    · intro j k hjk b hb
      simp only [ownR] at hb ⊢
      split at hb
      · rename_i hj
        split
        · exact C.dj j k hjk b hb
        · intro hk
          have h1 := hRb j hj b hb
          rcases (h3 b (.inl ⟨k, hk⟩)).1 with h' | h'
          · exact h1.2 h'
          · omega
      · split
        · rename_i hk
          intro hb2
          have h1 := hRb k hk b hb2
          rcases (h3 b (.inl ⟨j, hb⟩)).1 with h' | h'
          · exact h1.2 h'
          · omega
        · exact C3.dj j k hjk b hb
    · intro b hb
      rcases hoR b hb with ⟨k, _, hk⟩ | h'
      · have := C.old b (.inl ⟨k, hk⟩)
        exact ⟨this.1, Nat.lt_of_lt_of_le this.2 hE.size⟩
      · refine ⟨?_, (h3 b h').2⟩
        rcases (h3 b h').1 with h'' | h''
        · exact (C.old b (hW b h'')).1
        · exact .inr (Nat.le_trans C.fr.size h'')
end
section
variable {P : Program} {N : Nat} {ops : Array Oper} {Q : Exit → Act → World → Prop} {fx : List Nat} {w1 : World} {W : List Nat}
theorem Sim.held {cW : Ctx} {st : St} {a : Act} {w : World} (S : Sim cW N st a w) (h0 : cW.w0 = w1) (hW : cW.own0 = W) : held w1 W w := by
  obtain ⟨own, C⟩ := S.core
  intro b hb hn
  have := C.fr.blk b
  rw [h0, hW] at this
  exact this hb hn
theorem t_sound {cW : Ctx} [GOk cW P] (h0 : cW.w0 = w1) (hW0 : cW.own0 = W) (hfx : ∀ e, cW.fx e ≠ none → e ∈ fx) (hsel : Region.noSelect ops = true) {k : K} (hQ : ∀ st a w, Sim cW N st a w → k st → Q .normal a w) (hQp : ∀ c a w, ¬ Q (.panic c) a w) :
    ∀ (is : List Nat) (ms : List MO) (listed : Array Bool) (st : St) (a : Act) (w : World), mT P N fx ops is ms listed = true → Sim cW N st a w → opsV P ms k st → wpAnyH P .any ops Q (held w1 W) is.length listed a w
  | [], [], listed, st, a, w, hm, S, h => by
    simp only [mT] at hm
    exact wpAnyH_done (by simpa using hm) (hQ _ _ _ S h) _
  | [], _ :: _, listed, st, a, w, hm, S, h => by simp [mT] at hm
  | _ :: _, [], listed, st, a, w, hm, S, h => by simp [mT] at hm
  | i :: is, m :: ms, listed, st, a, w, hm, S, h => by
    simp only [mT, Bool.and_eq_true] at hm
    obtain ⟨h1, h2⟩ := hm
    split at h1
    rotate_left
    · cases h1
    rename_i o ho
    simp only [Bool.and_eq_true, Bool.or_eq_true, beq_iff_eq, Bool.not_eq_true'] at h1
    obtain ⟨hmo, hcase⟩ := h1
    obtain ⟨hd, hN, hi⟩ := mO_spec hmo hfx
    simp only [opsV] at h
    have hg := guard_sound S hmo h
    rcases hcase with hr | ⟨⟨⟨hq, hnw⟩, hfree⟩, hready⟩
    · refine wpAnyH_all (rs := [i]) hr (by simp) ?_
      intro j hj
      obtain rfl : j = i := by simpa using hj
      unfold wpOp
      simp only [ho]
      by_cases hw : Region.wanted o (yielded ops a.tmps) = true
      · rw [if_pos hw] at hg ⊢
        left
        have hok : Ok P cW N a w o (opsV P ms k) Q := by
          unfold oV at hg
          rw [hd] at hg
          cases hmi : m.i with
          | q q =>
            rw [hmi] at hg hi
            obtain ⟨own, C⟩ := S.core
            exact fin_q S C hN (q_sound C hi hg)
          | a x =>
            rw [hmi] at hg hi
            exact a_sound S hN hi hg
        refine Oper.wp_mono ?_ hok
        rintro a' w' ⟨st', S', h'⟩
        exact ⟨S'.held h0 hW0, t_sound h0 hW0 hfx hsel hQ hQp is ms _ st' a' w' h2 S' h'⟩
      · rw [if_neg hw] at hg ⊢
        rw [hd] at hg
        obtain ⟨st', S', h'⟩ := put_undef S hN hg
        exact ⟨S'.held h0 hW0, t_sound h0 hW0 hfx hsel hQ hQp is ms _ st' _ w h2 S' h'⟩
    · by_cases hw : Region.wanted o (yielded ops a.tmps) = true
      · rw [if_pos hw] at hg
        unfold oV at hg
        rw [hd] at hg
        cases hmi : m.i with
        | a x => rw [isQ, hmi] at hq; cases hq
        | q q =>
          rw [hmi] at hg hi
          obtain ⟨own, C⟩ := S.core
          obtain ⟨x, av, hrun, hrep, hk⟩ := q_sound C hi hg
          obtain ⟨st', S', h'⟩ := putS_sound S.defers S.size C hrep hN hk
          exact wpAnyH_take ho hsel hfree hready (fun c a w h => (hQp _ _ _ h).elim) (.inl ⟨hw, fun w' _ => hrun w' (fun hn => by rw [hnw] at hn; cases hn)⟩) (S.held h0 hW0)
            (t_sound h0 hW0 hfx hsel hQ hQp is ms _ st' _ w h2 S' h')
      · rw [if_neg hw] at hg
        rw [hd] at hg
        obtain ⟨st', S', h'⟩ := put_undef S hN hg
        exact wpAnyH_take ho hsel hfree hready (fun c a w h => (hQp _ _ _ h).elim) (.inr ⟨by simpa using hw, rfl⟩) (S.held h0 hW0)
          (t_sound h0 hW0 hfx hsel hQ hQp is ms _ st' _ w h2 S' h')
theorem f_sound {c : Ctx} {st0 : St} {a0 : Act} {own : Nat → List Nat} (C0 : Core c st0 (tmOf a0) w1 own []) {FL WL RL : List Nat} (hfx : ∀ e, (ctxL c w1 own FL RL a0).fx e ≠ none → e ∈ fx) (hsel : Region.noSelect ops = true) (hQp : ∀ c a w, ¬ Q (.panic c) a w)
    (hdj : ∀ b ∈ FL.flatMap own, b ∉ WL.flatMap own) {F : Array Bool → Bool} {kk : St → K} {n : Nat}
    (hend : ∀ listed a sF sW, F listed = true → Sim (ctxL c w1 own WL RL a0) N sW a w1 → kk sF sW → wpAnyH P .any ops Q (held w1 (WL.flatMap own)) n listed a w1) :
    ∀ (is : List Nat) (ms : List MO) (listed : Array Bool) (sF sW : St) (a : Act) (ownF : Nat → List Nat), mF P N fx ops F is ms listed = true → Core (ctxL c w1 own FL RL a0) sF (tmOf a) w1 ownF [] → (∀ b ∈ FL.flatMap own, owned ownF [] b) →
      Sim (ctxL c w1 own WL RL a0) N sW a w1 → fV P ms kk sF sW → wpAnyH P .any ops Q (held w1 (WL.flatMap own)) (is.length + n) listed a w1
  | [], [], listed, sF, sW, a, ownF, hm, CF, hown, SW, h => by
    simp only [mF] at hm
    rw [List.length_nil, Nat.zero_add]
    exact hend _ _ _ _ hm SW h
  | [], _ :: _, listed, sF, sW, a, ownF, hm, CF, hown, SW, h => by simp [mF] at hm
  | _ :: _, [], listed, sF, sW, a, ownF, hm, CF, hown, SW, h => by simp [mF] at hm
  | i :: is, m :: ms, listed, sF, sW, a, ownF, hm, CF, hown, SW, h => by
    simp only [mF, Bool.and_eq_true] at hm
    obtain ⟨h1, h2⟩ := hm
    split at h1
    rotate_left
    · cases h1
    rename_i o ho
    simp only [Bool.and_eq_true] at h1
    obtain ⟨⟨⟨hmo, hq⟩, hfree⟩, hready⟩ := h1
    obtain ⟨hd, hN, hi⟩ := mO_spec hmo hfx
    simp only [fV] at h
    obtain ⟨hb, h⟩ := h
    have SF : Sim (ctxL c w1 own FL RL a0) N sF a w1 := ⟨SW.defers, SW.size, ownF, CF⟩
    rw [List.length_cons, Nat.add_right_comm]
    cases hmi : m.i with
    | a x => rw [isQ, hmi] at hq; cases hq
    | q q =>
      rw [hmi] at h hi
      simp only at h
      have hg := guard_sound SF hmo h
      have hput : ∀ (av : AV) (x : Value), RepV w1 (frz (ctxL c w1 own FL RL a0) w1 (owned ownF [])) (locs sF (tmOf a) w1) av x [] →
          ∃ ownF', Core (ctxL c w1 own FL RL a0) (match m.d with | some d => upd sF d av | none => sF) (tmOf (a.put o.dst x)) w1 ownF' [] ∧ ∀ b ∈ FL.flatMap own, owned ownF' [] b := by
        intro av x hr
        rw [hd] at hb ⊢
        cases hdst : o.dst with
        | none => exact ⟨ownF, CF, hown⟩
        | some d =>
          rw [hdst] at hb
          simp only at hb ⊢
          have hod := bare_own (sF d) (CF.rep d) hb
          have C2 := CF.put (lo1 := []) (lo2 := []) (by simp) (by simp) (by simp) (by simp) hb hod hr
          rw [tmOf_put (by rw [SW.size.1]; exact (hN d hdst).1)]
          refine ⟨upd ownF d [], C2, ?_⟩
          intro b hb'
          rcases hown b hb' with ⟨k, hk⟩ | hk
          · by_cases e : k = d
            · rw [e, hod] at hk; simp at hk
            · exact .inl ⟨k, by simpa [upd, e] using hk⟩
          · simp at hk
      by_cases hw : Region.wanted o (yielded ops a.tmps) = true
      · rw [if_pos hw] at hg
        obtain ⟨x, av, hrun, hrep, hk⟩ := q_sound CF hi hg
        obtain ⟨ownW, CW⟩ := SW.core
        have hrepW : RepV w1 (frz (ctxL c w1 own WL RL a0) w1 (owned ownW [])) (locs sW (tmOf a) w1) (killV allK av) x [] := by
          refine hrep.keep (K := allK) (L' := locs sW (tmOf a) w1) (fun _ _ _ h => by simp [allK] at h) _ _ _ ?_
          refine ⟨?_, fun _ _ => rfl⟩
          intro b hbf
          have hF : frz c w1 (owned own []) b := by
            rcases hbf.2.1 with h' | h' | h'
            · have := hbf.1; simp only [ctxL] at h'; omega
            · exact h'
            · exact absurd (hown b h') hbf.2.2
          refine ⟨⟨hbf.1, .inr (.inl hF), fun hx => ?_⟩, rfl⟩
          rcases (CW.old b hx).1 with h' | h'
          · obtain ⟨k, _, hk⟩ := List.mem_flatMap.1 h'
            exact hF.2.2 (.inl ⟨k, hk⟩)
          · have := hbf.1; simp only [ctxL] at h'; omega
        rw [hd] at hk
        obtain ⟨sW', SW', h'⟩ := putS_sound (c := ctxL c w1 own WL RL a0) SW.defers SW.size CW hrepW hN hk
        obtain ⟨ownF', CF', hown'⟩ := hput av x hrep
        rw [hd] at CF'
        refine wpAnyH_take ho hsel hfree hready (fun c a w h => (hQp _ _ _ h).elim) (.inl ⟨hw, fun w' hS => hrun w' (fun _ => ?_)⟩) (fun _ _ _ => rfl)
          (f_sound C0 hfx hsel hQp hdj hend is ms _ _ sW' _ ownF' h2 CF' hown' SW' h')
        intro b hbb
        rcases hbb with hbf | hbo | hbl
        · refine hS b hbf.1 ?_
          rcases hbf.2.1 with h' | h' | h'
          · have := hbf.1; simp only [ctxL] at h'; omega
          · intro hx
            obtain ⟨k, _, hk⟩ := List.mem_flatMap.1 hx
            exact h'.2.2 (.inl ⟨k, hk⟩)
          · exact absurd (hown b h') hbf.2.2
        · have := CF.old b (.inl hbo)
          refine hS b this.2 ?_
          rcases this.1 with h' | h'
          · exact hdj b h'
          · have := this.2; simp only [ctxL] at h'; omega
        · simp at hbl
      · rw [if_neg hw] at hg
        rw [hd] at hg
        obtain ⟨sW', SW', h'⟩ := put_undef SW hN hg
        obtain ⟨ownF', CF', hown'⟩ := hput (.tup []) undef (by simp [RepV, RepVs, undef])
        rw [hd] at CF'
        exact wpAnyH_take ho hsel hfree hready (fun c a w h => (hQp _ _ _ h).elim) (.inr ⟨by simpa using hw, rfl⟩) (fun _ _ _ => rfl)
          (f_sound C0 hfx hsel hQp hdj hend is ms _ _ sW' _ ownF' h2 CF' hown' SW' h')
theorem mix_sound {id : Nat} {c : Ctx} [GOk c P] {st : St} {a : Act} {w : World} (hfx : ∀ e, c.fx e ≠ none → e ∈ fx) {FL WL RL B fi ci : List Nat} {fs cs : List MO} (hm : mixOk P N fx ops FL WL RL B fi ci fs cs = true) (S : Sim c N st a w) {k : K} (h : mixV P FL WL RL B fs cs k st)
    (hQ : ∀ st a w, Sim c N st a w → k st → Q .normal a w) : (Code.region id ops true).wp P Q a w := by
  simp only [mixOk, Bool.and_eq_true] at hm
  obtain ⟨⟨⟨⟨⟨hsel, hfol⟩, hlen⟩, hFW⟩, hRW⟩, hm⟩ := hm
  have S1 : Sim c N st a w.drew := S.world (Ext.drew w [])
  obtain ⟨hB, h⟩ := h
  obtain ⟨hd, hs, own, C⟩ := S1
  have hbare : ∀ k ∈ B, own k = [] := fun k hk => bare_own (st k) (C.rep k) (by simpa using List.all_eq_true.1 hB k hk)
  have hno : ∀ (l : List Nat), notFl B l WL = true → ∀ k ∈ l, ∀ b ∈ own k, b ∉ WL.flatMap own := by
    intro l hl k hk b hb hb2
    obtain ⟨j, hj, hbj⟩ := List.mem_flatMap.1 hb2
    by_cases e : k = j
    · subst e
      have h1 := List.all_eq_true.1 hl k hk
      simp only [Bool.or_eq_true, Bool.not_eq_true', List.contains_eq_mem, decide_eq_true_eq, decide_eq_false_iff_not] at h1
      rcases h1 with h1 | h1
      · exact h1 hj
      · rw [hbare k h1] at hb; simp at hb
    · exact C.dj k j e b hb hbj
  have hdj : ∀ b ∈ FL.flatMap own, b ∉ WL.flatMap own := by
    intro b hb
    obtain ⟨k, hk, hbk⟩ := List.mem_flatMap.1 hb
    exact hno FL hFW k hk b hbk
  have hfx' : ∀ (l : List Nat) e, (ctxL c w.drew own l RL a).fx e ≠ none → e ∈ RL ++ fx := by
    intro l e he
    simp only [ctxL] at he
    split at he
    · rename_i h'; simp [h']
    · have := hfx e he; simp [this]
  have hslots : ∀ l, Slots (ctxL c w.drew own l RL a) N a := by
    intro l
    refine ⟨hs.1, ?_⟩
    intro k v hk
    simp only [ctxL] at hk
    split at hk
    · simpa using hk
    · exact hs.2 k v hk
  haveI : GOk (ctxL c w.drew own WL RL a) P := gok_ctxL C WL RL
  have SW : Sim (ctxL c w.drew own WL RL a) N (keepL WL st) a w.drew := ⟨hd, hslots WL, _, core_part C WL RL⟩
  refine wp_mono (Q := fun e a w => e = .normal ∧ Q .normal a w) ?_ ?_
  · refine wp_region_held (S := held w.drew (WL.flatMap own)) hfol ?_
    have hsz : ops.size = fi.length + ci.length := by simp only [beq_iff_eq] at hlen; exact hlen.symm
    show wpAnyH P .any ops _ _ ops.size (Array.replicate ops.size false) a w.drew
    have key := f_sound (Q := fun e a w => e = .normal ∧ Q .normal a w) (n := ci.length) C (hfx' FL) hsel (by rintro _ _ _ ⟨h, _⟩; cases h) hdj
      (kk := fun _ sW => opsV P cs (fun s3 => k (backS RL st s3)) sW) (F := fun listed => mT P N (RL ++ fx) ops ci cs listed)
      (fun listed a' sF sW hF SW' h' => t_sound (cW := ctxL c w.drew own WL RL a) rfl rfl (hfx' WL) hsel (k := fun s3 => k (backS RL st s3))
        (fun s3 a3 w3 S3 h3 => ⟨rfl, hQ _ _ _ (back_sound C hs (hno RL hRW) S3) h3⟩) (by rintro _ _ _ ⟨h, _⟩; cases h) ci cs listed sW a' _ hF SW' h')
      fi fs (Array.replicate ops.size false) (keepL FL st) (keepL WL st) a (ownL FL own) hm (core_part C FL RL) (fun b hb => ownL_mem.2 hb) SW h
    rw [← hsz] at key
    exact key
  · rintro e a w ⟨rfl, h⟩
    exact h
end
end Go.AM
namespace Go.AM
set_option linter.unusedVariables false
set_option linter.unusedSimpArgs false
inductive TT where
  | nil
  | step (i : Nat) (m : MO) (t : TT)
  | alt (x y : TT)
def TT.sz : TT → Nat
  | .nil => 0
  | .step _ _ t => t.sz + 1
  | .alt x _ => x.sz
def TT.heads : TT → List Nat
  | .nil => []
  | .step i _ _ => [i]
  | .alt x y => x.heads ++ y.heads
def headsOk (ops : Array Oper) (listed : Array Bool) : TT → Bool
  | .nil => (Region.ready .any ops listed).isEmpty
  | .step i m t => (Region.ready .any ops listed == [i]) || (isQ m && (match ops[i]? with | some o => !needsW o.op | none => false) && Region.free .any ops listed i && (Region.ready .any ops listed).contains i)
  | .alt x y => Region.ready .any ops listed == x.heads ++ y.heads
def ttOk (P : Program) (N : Nat) (fx : List Nat) (ops : Array Oper) : TT → Array Bool → Bool
  | .nil, _ => true
  | .step i m t, listed => (match ops[i]? with | some o => mO P N fx ops o m | none => false) && headsOk ops (listed.setIfInBounds i true) t && ttOk P N fx ops t (listed.setIfInBounds i true)
  | .alt x y, listed => (x.sz == y.sz) && decide (0 < x.sz) && ttOk P N fx ops x listed && ttOk P N fx ops y listed
def ttV (P : Program) (k : K) : TT → K
  | .nil, st => k st
  | .step i m t, st => gV st m.g (oV P m st (ttV P k t)) (putS st m.d (.tup []) (ttV P k t))
  | .alt x y, st => ttV P k x st ∧ ttV P k y st
def mixtOk (P : Program) (N : Nat) (fx : List Nat) (ops : Array Oper) (FL WL RL B fi : List Nat) (fs : List MO) (t : TT) : Bool :=
  Region.noSelect ops && P.follows .mixedOrders && (fi.length + t.sz == ops.size) && notFl B FL WL && notFl B RL WL &&
    mF P N (RL ++ fx) ops (fun listed => (headsOk ops listed t && ttOk P N (RL ++ fx) ops t listed)) fi fs (Array.replicate ops.size false)
def mixtV (P : Program) (FL WL RL B : List Nat) (fs : List MO) (t : TT) (k : K) (st : St) : Prop :=
  (B.all fun n => bare (st n)) = true ∧ fV P fs (fun _ sW => ttV P (fun s3 => k (backS RL st s3)) t sW) (keepL FL st) (keepL WL st)
section
variable {P : Program} {N : Nat} {ops : Array Oper} {Q : Exit → Act → World → Prop} {fx : List Nat} {w1 : World} {W : List Nat}
theorem heads_ne : ∀ {t : TT} {listed : Array Bool}, ttOk P N fx ops t listed = true → 0 < t.sz → t.heads ≠ []
  | .nil, _, _, h => absurd h (by simp [TT.sz])
  | .step i m t, _, _, _ => by simp [TT.heads]
  | .alt x y, listed, ho, h => by
    simp only [ttOk, Bool.and_eq_true] at ho
    have := heads_ne (t := x) ho.1.2 h
    simp [TT.heads, this]
theorem tt_branch {k : K} : ∀ {t : TT} {listed : Array Bool} {st : St} {j : Nat}, ttOk P N fx ops t listed = true → ttV P k t st → j ∈ t.heads →
    ∃ o m t', ops[j]? = some o ∧ mO P N fx ops o m = true ∧ headsOk ops (listed.setIfInBounds j true) t' = true ∧ ttOk P N fx ops t' (listed.setIfInBounds j true) = true ∧ gV st m.g (oV P m st (ttV P k t')) (putS st m.d (.tup []) (ttV P k t')) ∧ t'.sz + 1 = t.sz
  | .nil, _, _, _, _, _, hj => by simp [TT.heads] at hj
  | .step i m t, listed, st, j, ho, h, hj => by
    simp only [TT.heads, List.mem_singleton] at hj
    subst hj
    simp only [ttOk, Bool.and_eq_true] at ho
    obtain ⟨⟨h1, h2⟩, h3⟩ := ho
    split at h1
    · rename_i o hoj
      exact ⟨o, m, t, hoj, h1, h2, h3, h, rfl⟩
    · cases h1
  | .alt x y, listed, st, j, ho, h, hj => by
    simp only [ttOk, Bool.and_eq_true, beq_iff_eq] at ho
    obtain ⟨⟨⟨hs, _⟩, hx⟩, hy⟩ := ho
    simp only [ttV] at h
    simp only [TT.heads, List.mem_append] at hj
    rcases hj with hj | hj
    · obtain ⟨o, m, t', a1, a2, a3, a4, a5, a6⟩ := tt_branch (t := x) hx h.1 hj
      exact ⟨o, m, t', a1, a2, a3, a4, a5, a6⟩
    · obtain ⟨o, m, t', a1, a2, a3, a4, a5, a6⟩ := tt_branch (t := y) hy h.2 hj
      exact ⟨o, m, t', a1, a2, a3, a4, a5, by simp only [TT.sz]; omega⟩
theorem tt_sound {cW : Ctx} [GOk cW P] (h0 : cW.w0 = w1) (hW0 : cW.own0 = W) (hfx : ∀ e, cW.fx e ≠ none → e ∈ fx) (hsel : Region.noSelect ops = true) {k : K} (hQ : ∀ st a w, Sim cW N st a w → k st → Q .normal a w) (hQp : ∀ c a w, ¬ Q (.panic c) a w) :
    ∀ (n : Nat) (t : TT) (listed : Array Bool) (st : St) (a : Act) (w : World), t.sz = n → headsOk ops listed t = true → ttOk P N fx ops t listed = true → Sim cW N st a w → ttV P k t st → wpAnyH P .any ops Q (held w1 W) n listed a w
  | 0, t, listed, st, a, w, hsz, hh, ho, S, h => by
    cases t with
    | nil => exact wpAnyH_done (by simpa [headsOk] using hh) (hQ _ _ _ S h) _
    | step i m t => simp [TT.sz] at hsz
    | alt x y =>
      simp only [ttOk, Bool.and_eq_true, decide_eq_true_eq] at ho
      simp only [TT.sz] at hsz
      have := ho.1.1.2
      omega
  | n + 1, t, listed, st, a, w, hsz, hh, ho, S, h => by
    have all : Region.ready .any ops listed = t.heads → wpAnyH P .any ops Q (held w1 W) (n + 1) listed a w := by
      intro hr
      refine wpAnyH_all (rs := t.heads) hr (heads_ne ho (by omega)) ?_
      intro j hj
      obtain ⟨o, m, t', hoj, hmo, hh', ho', hv, hs'⟩ := tt_branch ho h hj
      obtain ⟨hd, hN, hi⟩ := mO_spec hmo hfx
      have hg := guard_sound S hmo hv
      unfold wpOp
      simp only [hoj]
      by_cases hw : Region.wanted o (yielded ops a.tmps) = true
      · rw [if_pos hw] at hg ⊢
        left
        have hok : Ok P cW N a w o (ttV P k t') Q := by
          unfold oV at hg
          rw [hd] at hg
          cases hmi : m.i with
          | q q =>
            rw [hmi] at hg hi
            obtain ⟨own, C⟩ := S.core
            exact fin_q S C hN (q_sound C hi hg)
          | a x =>
            rw [hmi] at hg hi
            exact a_sound S hN hi hg
        refine Oper.wp_mono ?_ hok
        rintro a' w' ⟨st', S', h'⟩
        exact ⟨S'.held h0 hW0, tt_sound h0 hW0 hfx hsel hQ hQp n t' _ st' a' w' (by omega) hh' ho' S' h'⟩
      · rw [if_neg hw] at hg ⊢
        rw [hd] at hg
        obtain ⟨st', S', h'⟩ := put_undef S hN hg
        exact ⟨S'.held h0 hW0, tt_sound h0 hW0 hfx hsel hQ hQp n t' _ st' _ w (by omega) hh' ho' S' h'⟩
    cases t with
    | nil => simp [TT.sz] at hsz
    | alt x y => exact all (by simpa [headsOk, TT.heads] using hh)
    | step i m t =>
      simp only [headsOk, Bool.or_eq_true, beq_iff_eq, Bool.and_eq_true] at hh
      rcases hh with hr | ⟨⟨⟨hq, hnw⟩, hfree⟩, hready⟩
      · exact all (by simpa [TT.heads] using hr)
      · obtain ⟨o, m', t', hoj, hmo, hh', ho', hv, hs'⟩ := tt_branch (j := i) ho h (by simp [TT.heads])
        have ho2 := ho
        simp only [ttOk, Bool.and_eq_true] at ho2
        obtain ⟨⟨g1, g2⟩, g3⟩ := ho2
        rw [hoj] at g1 hnw
        simp only [Bool.not_eq_true'] at hnw g1
        obtain ⟨hd, hN, hi⟩ := mO_spec g1 hfx
        simp only [ttV] at h
        have hg := guard_sound S g1 h
        simp only [TT.sz] at hsz
        by_cases hw : Region.wanted o (yielded ops a.tmps) = true
        · rw [if_pos hw] at hg
          unfold oV at hg
          rw [hd] at hg
          cases hmi : m.i with
          | a x => rw [isQ, hmi] at hq; cases hq
          | q q =>
            rw [hmi] at hg hi
            obtain ⟨own, C⟩ := S.core
            obtain ⟨x, av, hrun, hrep, hk⟩ := q_sound C hi hg
            obtain ⟨st', S', h'⟩ := putS_sound S.defers S.size C hrep hN hk
            exact wpAnyH_take hoj hsel hfree hready (fun c a w h => (hQp _ _ _ h).elim) (.inl ⟨hw, fun w' _ => hrun w' (fun hn => by rw [hnw] at hn; cases hn)⟩) (S.held h0 hW0)
              (tt_sound h0 hW0 hfx hsel hQ hQp n t _ st' _ w (by omega) g2 g3 S' h')
        · rw [if_neg hw] at hg
          rw [hd] at hg
          obtain ⟨st', S', h'⟩ := put_undef S hN hg
          exact wpAnyH_take hoj hsel hfree hready (fun c a w h => (hQp _ _ _ h).elim) (.inr ⟨by simpa using hw, rfl⟩) (S.held h0 hW0)
            (tt_sound h0 hW0 hfx hsel hQ hQp n t _ st' _ w (by omega) g2 g3 S' h')
theorem mixt_sound {id : Nat} {c : Ctx} [GOk c P] {st : St} {a : Act} {w : World} (hfx : ∀ e, c.fx e ≠ none → e ∈ fx) {FL WL RL B fi : List Nat} {fs : List MO} {t : TT} (hm : mixtOk P N fx ops FL WL RL B fi fs t = true) (S : Sim c N st a w) {k : K} (h : mixtV P FL WL RL B fs t k st)
    (hQ : ∀ st a w, Sim c N st a w → k st → Q .normal a w) : (Code.region id ops true).wp P Q a w := by
  simp only [mixtOk, Bool.and_eq_true] at hm
  obtain ⟨⟨⟨⟨⟨hsel, hfol⟩, hlen⟩, hFW⟩, hRW⟩, hm⟩ := hm
  have S1 : Sim c N st a w.drew := S.world (Ext.drew w [])
  obtain ⟨hB, h⟩ := h
  obtain ⟨hd, hs, own, C⟩ := S1
  have hbare : ∀ k ∈ B, own k = [] := fun k hk => bare_own (st k) (C.rep k) (by simpa using List.all_eq_true.1 hB k hk)
  have hno : ∀ (l : List Nat), notFl B l WL = true → ∀ k ∈ l, ∀ b ∈ own k, b ∉ WL.flatMap own := by
    intro l hl k hk b hb hb2
    obtain ⟨j, hj, hbj⟩ := List.mem_flatMap.1 hb2
    by_cases e : k = j
    · subst e
      have h1 := List.all_eq_true.1 hl k hk
      simp only [Bool.or_eq_true, Bool.not_eq_true', List.contains_eq_mem, decide_eq_true_eq, decide_eq_false_iff_not] at h1
      rcases h1 with h1 | h1
      · exact h1 hj
      · rw [hbare k h1] at hb; simp at hb
    · exact C.dj k j e b hb hbj
  have hdj : ∀ b ∈ FL.flatMap own, b ∉ WL.flatMap own := by
    intro b hb
    obtain ⟨k, hk, hbk⟩ := List.mem_flatMap.1 hb
    exact hno FL hFW k hk b hbk
  have hfx' : ∀ (l : List Nat) e, (ctxL c w.drew own l RL a).fx e ≠ none → e ∈ RL ++ fx := by
    intro l e he
    simp only [ctxL] at he
    split at he
    · rename_i h'; simp [h']
    · have := hfx e he; simp [this]
  have hslots : ∀ l, Slots (ctxL c w.drew own l RL a) N a := by
    intro l
    refine ⟨hs.1, ?_⟩
    intro k v hk
    simp only [ctxL] at hk
    split at hk
    · simpa using hk
    · exact hs.2 k v hk
  haveI : GOk (ctxL c w.drew own WL RL a) P := gok_ctxL C WL RL
  have SW : Sim (ctxL c w.drew own WL RL a) N (keepL WL st) a w.drew := ⟨hd, hslots WL, _, core_part C WL RL⟩
  refine wp_mono (Q := fun e a w => e = .normal ∧ Q .normal a w) ?_ ?_
  · refine wp_region_held (S := held w.drew (WL.flatMap own)) hfol ?_
    have hsz : ops.size = fi.length + t.sz := by simp only [beq_iff_eq] at hlen; exact hlen.symm
    show wpAnyH P .any ops _ _ ops.size (Array.replicate ops.size false) a w.drew
    have key := f_sound (Q := fun e a w => e = .normal ∧ Q .normal a w) (n := t.sz) C (hfx' FL) hsel (by rintro _ _ _ ⟨h, _⟩; cases h) hdj
      (kk := fun _ sW => ttV P (fun s3 => k (backS RL st s3)) t sW) (F := fun listed => (headsOk ops listed t && ttOk P N (RL ++ fx) ops t listed))
      (fun listed a' sF sW hF SW' h' => tt_sound (cW := ctxL c w.drew own WL RL a) rfl rfl (hfx' WL) hsel (k := fun s3 => k (backS RL st s3))
        (fun s3 a3 w3 S3 h3 => ⟨rfl, hQ _ _ _ (back_sound C hs (hno RL hRW) S3) h3⟩) (by rintro _ _ _ ⟨h, _⟩; cases h) t.sz t listed sW a' _ rfl (by simp only [Bool.and_eq_true] at hF; exact hF.1) (by simp only [Bool.and_eq_true] at hF; exact hF.2) SW' h')
      fi fs (Array.replicate ops.size false) (keepL FL st) (keepL WL st) a (ownL FL own) hm (core_part C FL RL) (fun b hb => ownL_mem.2 hb) SW h
    rw [← hsz] at key
    exact key
  · rintro e a w ⟨rfl, h⟩
    exact h
end
end Go.AM
namespace Go.AM
set_option linter.unusedVariables false
set_option linter.unusedSimpArgs false
def stl : List (Nat × AV) → St
  | [], _ => .dead
  | (n, av) :: l, k => if k = n then av else stl l k
theorem stl_map {l : List Nat} {g : Nat → AV} {k : Nat} : stl (l.map fun k => (k, g k)) k = if k ∈ l then g k else .dead := by
  induction l with
  | nil => rfl
  | cons n l ih =>
    simp only [List.map_cons, stl, ih, List.mem_cons]
    by_cases h : k = n
    · simp [h]
    · simp [h]
def keepS (l : List Nat) (st : St) : St := stl (l.map fun k => (k, killV (fun n _ => !l.contains n) (st k)))
def frzS (k : Nat) (st : St) : St := fun j => if j = k then frzL (st k) else killV (fun n _ => n == k) (st j)
inductive AE where
  | nrm
  | ex (id : Nat)
  | ret
  | pan (ch : List PanicEntry)
def AE.toE : AE → Exit
  | .nrm => .normal
  | .ex id => .exit id
  | .ret => .ret
  | .pan ch => .panic ch
inductive MC where
  | skip
  | reg (ms : List MO)
  | dreg (ms : List MO)
  | seq (x y : MC)
  | cond (c : Opd) (x y : MC)
  | block (id : Nat) (x : MC)
  | loop (l : List Nat) (x : MC)
  | join (l : List Nat) (x y : MC)
  | exit (id : Nat)
  | ret
  | keep (l : List Nat) (x : MC)
  | frz (k : Nat) (x : MC)
  | mix (FL WL RL B fi ci : List Nat) (fs cs : List MO)
  | mixt (FL WL RL B fi : List Nat) (fs : List MO) (t : TT)
  | regp (ms : List MO) (d : Option Nat) (y : Opd) (al : Bool) (as : List Arg) (ms2 : List MO)
  | panr (ms : List MO) (d t : Nat) (x : Opd)
def thn (n : K) (Q : AE → K) : AE → K
  | .nrm, st => n st
  | e, st => Q e st
def inB (id : Nat) (Q : AE → K) : AE → K
  | .ex id', st => if id' = id then Q .nrm st else Q (.ex id') st
  | e, st => Q e st
def condV (x : AV) (p q : Prop) : Prop :=
  match x with
  | .v (.bool b) => if b then p else q
  | _ => False
def valsOf : List AV → Option (List Value)
  | [] => some []
  | .v x :: l => (valsOf l).map (x :: ·)
  | _ :: _ => none
def panV (t : Nat) (av : AV) (k : Value → Prop) : Prop :=
  match av with
  | .agg l => (match valsOf l with | some vs => k (.iface t (.agg vs.toArray)) | none => False)
  | _ => False
theorem valsOf_rep {w : World} {Fz : Nat → Prop} {L : Locs} : ∀ {l : List AV} {vs xs : List Value} {o : List Nat}, valsOf l = some vs → RepVs w Fz L l xs o → xs = vs
  | [], vs, xs, o, h, hr => by
    simp only [valsOf, Option.some.injEq] at h
    simp only [RepVs] at hr
    rw [hr.1, ← h]
  | .v x :: l, vs, xs, o, h, hr => by
    simp only [valsOf, Option.map_eq_some_iff] at h
    obtain ⟨vs', h', rfl⟩ := h
    simp only [RepVs, RepV, RepC] at hr
    obtain ⟨y, ys, o1, o2, rfl, _, h1, h2⟩ := hr
    rw [h1.1, valsOf_rep h' h2]
  | .fsl _ _ :: l, vs, xs, o, h, hr => by simp [valsOf] at h
  | .usl _ _ _ :: l, vs, xs, o, h, hr => by simp [valsOf] at h
  | .fptr _ :: l, vs, xs, o, h, hr => by simp [valsOf] at h
  | .box _ _ :: l, vs, xs, o, h, hr => by simp [valsOf] at h
  | .agg _ :: l, vs, xs, o, h, hr => by simp [valsOf] at h
  | .ref _ _ _ _ :: l, vs, xs, o, h, hr => by simp [valsOf] at h
  | .sref _ _ _ _ :: l, vs, xs, o, h, hr => by simp [valsOf] at h
  | .clo _ _ :: l, vs, xs, o, h, hr => by simp [valsOf] at h
  | .tup _ :: l, vs, xs, o, h, hr => by simp [valsOf] at h
  | .dead :: l, vs, xs, o, h, hr => by simp [valsOf] at h
def awp (P : Program) : MC → (AE → K) → K
  | .skip, Q, st => Q .nrm st
  | .reg ms, Q, st => opsV P ms (Q .nrm) st
  | .dreg ms, Q, st => dopsV P ms (Q .nrm) st
  | .seq x y, Q, st => awp P x (thn (awp P y Q) Q) st
  | .cond c x y, Q, st => condV (rd st c) (awp P x Q st) (awp P y Q st)
  | .block id x, Q, st => awp P x (inB id Q) st
  | .loop l x, Q, st => ∃ I : Nat → K, (∃ n, I n (keepS l st)) ∧ ∀ n st', I n st' → awp P x (thn (fun s => ∃ m, m < n ∧ I m (keepS l s)) Q) st'
  | .join l x y, Q, st => ∃ J : K, awp P x (thn (fun s => J (keepS l s)) Q) st ∧ ∀ s, J s → awp P y Q s
  | .exit id, Q, st => Q (.ex id) st
  | .ret, Q, st => Q .ret st
  | .keep l x, Q, st => awp P x Q (keepS l st)
  | .frz k x, Q, st => awp P x Q st ∨ (isOwner (st k) = true ∧ awp P x Q (frzS k st))
  | .mix FL WL RL B fi ci fs cs, Q, st => mixV P FL WL RL B fs cs (Q .nrm) st
  | .mixt FL WL RL B fi fs t, Q, st => mixtV P FL WL RL B fs t (Q .nrm) st
  | .regp ms d y al as ms2, Q, st => opsV P ms (fun st1 => callpV P y al as st1 d (opsV P ms2 (Q .nrm)) fun ch => Q (.pan ch)) st
  | .panr ms d t x, Q, st => opsV P ms (fun st1 => panV t (rd st1 x) fun v => putS st1 (some d) .dead (Q (.pan [{ v := v, recovered := false }]))) st
def panrOk (P : Program) (N : Nat) (fx : List Nat) (ops : Array Oper) (d t : Nat) (x : Opd) : List Oper → List MO → Bool
  | [o1, o2], [] => (match o1.op, o2.op with
    | .makeInterface t' x', .panic y' => t' == t && mOpd x' x && mOpd y' (.t d) && P.concrete t
    | _, _ => false) && o1.dst == some d && o1.guard.isNone && o2.guard.isNone && decide (d < N) && !fx.contains d
  | o :: l, m :: ms => mO P N fx ops o m && panrOk P N fx ops d t x l ms
  | _, _ => false
def regpOk (P : Program) (N : Nat) (fx : List Nat) (ops : Array Oper) (d : Option Nat) (y : Opd) (al : Bool) (as : List Arg) (ms2 : List MO) : List Oper → List MO → Bool
  | o :: l, [] => mO P N fx ops o ⟨d, none, .a (.call y al as)⟩ && mOs P N fx ops l ms2
  | o :: l, m :: ms => mO P N fx ops o m && regpOk P N fx ops d y al as ms2 l ms
  | [], _ => false
def mC (P : Program) (N : Nat) (fx : List Nat) : MC → Code → Bool
  | .skip, c => match c with | .skip => true | _ => false
  | .reg ms, c => match c with | .region _ ops false => mOs P N fx ops ops.toList ms | _ => false
  | .dreg ms, c => match c with | .region _ ops true => mOs P N fx ops ops.toList ms && Region.lexB .any ops && P.follows .mixedOrders | _ => false
  | .seq x y, c => match c with | .seq a b => mC P N fx x a && mC P N fx y b | _ => false
  | .cond v x y, c => match c with | .cond o a b => mOpd o v && mC P N fx x a && mC P N fx y b | _ => false
  | .block id x, c => match c with | .block id' a => id == id' && mC P N fx x a | _ => false
  | .join _ x y, c => match c with | .seq a b => mC P N fx x a && mC P N fx y b | _ => false
  | .loop _ x, c => match c with | .loop a => mC P N fx x a | _ => false
  | .exit id, c => match c with | .exit id' => id == id' | _ => false
  | .ret, c => match c with | .ret => true | _ => false
  | .keep _ x, c => mC P N fx x c
  | .frz _ x, c => mC P N fx x c
  | .mix FL WL RL B fi ci fs cs, c => match c with | .region _ ops true => mixOk P N fx ops FL WL RL B fi ci fs cs | _ => false
  | .mixt FL WL RL B fi fs t, c => match c with | .region _ ops true => mixtOk P N fx ops FL WL RL B fi fs t | _ => false
  | .regp ms d y al as ms2, c => match c with | .region _ ops false => regpOk P N fx ops d y al as ms2 ops.toList ms | _ => false
  | .panr ms d t x, c => match c with | .region _ ops false => panrOk P N fx ops d t x ops.toList ms | _ => false
section
variable {P : Program} {o : Oper} {c : Ctx} {N : Nat} {st : St} {a : Act} {w : World} {fx : List Nat}
theorem keep_sound (l : List Nat) (S : Sim c N st a w) : Sim c N (keepS l st) a w := by
  obtain ⟨hd, hs, own, C⟩ := S
  refine ⟨hd, hs, fun k => if k ∈ l then own k else [], ?_⟩
  have hX : ∀ b, owned (fun k => if k ∈ l then own k else []) [] b → owned own [] b := by
    rintro b (⟨k, hk⟩ | hb)
    · dsimp only at hk
      by_cases h : k ∈ l
      · rw [if_pos h] at hk; exact .inl ⟨k, hk⟩
      · rw [if_neg h] at hk; simp at hk
    · simp at hb
  refine ⟨C.fr, ?_, ?_, ?_, by simp, by simp, fun b hb => C.old b (hX b hb)⟩
  · intro k
    unfold keepS
    rw [stl_map]
    by_cases h : k ∈ l
    · rw [if_pos h, if_pos h]
      refine (C.rep k).keep (L := locs st (tmOf a) w) ?_ _ _ _ ?_
      · intro n p r hK hl
        have hn : n ∈ l := by simpa using hK
        simp only [locs, stl_map, if_pos hn, walkSh_kill]
        exact hl
      · exact ⟨fun b hb => ⟨⟨hb.1, hb.2.1, fun hx => hb.2.2 (hX b hx)⟩, rfl⟩, fun _ _ => rfl⟩
    · rw [if_neg h, if_neg h]
      simp [RepV]
  · intro k; split
    · exact C.nd k
    · simp
  · intro j k hjk b hb
    split at hb
    · split
      · exact C.dj j k hjk b hb
      · simp
    · simp at hb
theorem frz_sound (k : Nat) (hio : isOwner (st k) = true) (S : Sim c N st a w) : Sim c N (frzS k st) a w := by
  obtain ⟨hd, hs, own, C⟩ := S
  refine ⟨hd, hs, fun j => if j = k then [] else own j, ?_⟩
  have hX : ∀ b, owned (fun j => if j = k then [] else own j) [] b → owned own [] b := by
    rintro b (⟨j, hj⟩ | hb)
    · dsimp only at hj
      by_cases h : j = k
      · rw [if_pos h] at hj; simp at hj
      · rw [if_neg h] at hj; exact .inl ⟨j, hj⟩
    · simp at hb
  refine ⟨C.fr, ?_, ?_, ?_, by simp, by simp, fun b hb => C.old b (hX b hb)⟩
  · intro j
    by_cases h : j = k
    · subst h
      simp only [frzS, if_true]
      refine (frz_rep _ (ownerC (C.rep j) hio) ?_).toV
      rintro b (hb | hb)
      · exact ⟨hb.1, hb.2.1, fun hx => hb.2.2 (hX b hx)⟩
      · have ho := C.old b (.inl ⟨j, hb⟩)
        refine ⟨ho.2, ?_, ?_⟩
        · rcases ho.1 with h1 | h1
          · exact .inr (.inr h1)
          · exact .inl h1
        · rintro (⟨i, hi⟩ | hx)
          · dsimp only at hi
            by_cases h2 : i = j
            · rw [if_pos h2] at hi; simp at hi
            · rw [if_neg h2] at hi; exact C.dj i j h2 b hi hb
          · simp at hx
    · simp only [frzS, if_neg h]
      refine (C.rep j).keep (L := locs st (tmOf a) w) ?_ _ _ _ ⟨fun b hb => ⟨⟨hb.1, hb.2.1, fun hx => hb.2.2 (hX b hx)⟩, rfl⟩, fun _ _ => rfl⟩
      intro n p r hK hl
      have hn : ¬ n = k := by simpa using hK
      simp only [locs, frzS, if_neg hn, walkSh_kill]
      exact hl
  · intro j; split
    · simp
    · exact C.nd j
  · intro i j hij b hb
    split at hb
    · simp at hb
    · split
      · simp
      · exact C.dj i j hij b hb
theorem regp_sound [GOk c P] {ops : Array Oper} {Q : Exit → Act → World → Prop} {d : Option Nat} {y : Opd} {al : Bool} {as : List Arg} {ms2 : List MO} (hfx : ∀ e, c.fx e ≠ none → e ∈ fx) {k : K} {kp : List PanicEntry → K}
    (hQ : ∀ st a w, Sim c N st a w → k st → Q .normal a w) (hp : ∀ ch st a w, Sim c N st a w → kp ch st → Q (.panic ch) a w) :
    ∀ (l : List Oper) (ms : List MO) (st : St) (a : Act) (w : World), regpOk P N fx ops d y al as ms2 l ms = true → Sim c N st a w → opsV P ms (fun st1 => callpV P y al as st1 d (opsV P ms2 k) kp) st → wpList P ops Q l a w
  | [], _, st, a, w, hm, S, h => by simp [regpOk] at hm
  | o :: l, [], st, a, w, hm, S, h => by
    simp only [regpOk, Bool.and_eq_true] at hm
    obtain ⟨h1, h2⟩ := hm
    obtain ⟨hd, hN, hi⟩ := mO_spec h1 hfx
    simp only at hd
    subst hd
    have hg := guard_sound S h1 (yes := True) (no := False) (by simp [gV])
    refine wpList_step ?_
    intro K hK
    have hw : Region.wanted o (yielded ops a.tmps) = true := by
      by_cases hw : Region.wanted o (yielded ops a.tmps) = true
      · exact hw
      · rw [if_neg hw] at hg; exact hg.elim
    rw [if_pos hw]
    simp only [opsV] at h
    simp only [mA] at hi
    split at hi
    rotate_left
    · cases hi
    rename_i cl ho
    simp only [Bool.and_eq_true] at hi
    obtain ⟨h3, h4⟩ := hi
    split at h3
    rotate_left
    · cases h3
    rename_i y0 hcal
    have ho' : o.op = .call { callee := .value y0, args := cl.args.toList.toArray, argTypes := cl.argTypes } := by
      rw [ho]; congr 1
      obtain ⟨ca, ar, at'⟩ := cl
      simp only at hcal
      rw [hcal, Array.toArray_toList]
    have hok : Ok P c N a w o (opsV P ms2 k) Q := a_callp S h3 h4 ho' hN (fun ch st' w' => hp ch st' a w') h
    refine Oper.wp_mono ?_ hok
    rintro a' w' ⟨st', S', h'⟩
    exact hK _ _ (ops_sound hfx hQ l ms2 st' a' w' h2 S' h')
  | o :: l, m :: ms, st, a, w, hm, S, h => by
    simp only [regpOk, Bool.and_eq_true] at hm
    obtain ⟨h1, h2⟩ := hm
    obtain ⟨hd, hN, hi⟩ := mO_spec h1 hfx
    refine wpList_step ?_
    intro K hK
    simp only [opsV] at h
    have hg := guard_sound S h1 h
    by_cases hw : Region.wanted o (yielded ops a.tmps) = true
    · rw [if_pos hw] at hg ⊢
      have hok : Ok P c N a w o (opsV P ms (fun st1 => callpV P y al as st1 d (opsV P ms2 k) kp)) Q := by
        unfold oV at hg
        rw [hd] at hg
        cases hmi : m.i with
        | q q =>
          rw [hmi] at hg hi
          obtain ⟨own, C⟩ := S.core
          exact fin_q S C hN (q_sound C hi hg)
        | a x =>
          rw [hmi] at hg hi
          exact a_sound S hN hi hg
      refine Oper.wp_mono ?_ hok
      rintro a' w' ⟨st', S', h'⟩
      exact hK _ _ (regp_sound hfx hQ hp l ms st' a' w' h2 S' h')
    · rw [if_neg hw] at hg ⊢
      rw [hd] at hg
      obtain ⟨st', S', h'⟩ := put_undef S hN hg
      exact hK _ _ (regp_sound hfx hQ hp l ms st' _ w h2 S' h')
theorem panr_sound [GOk c P] {ops : Array Oper} {Q : Exit → Act → World → Prop} {d t : Nat} {x : Opd} (hfx : ∀ e, c.fx e ≠ none → e ∈ fx) {kp : List PanicEntry → K}
    (hp : ∀ ch st a w, Sim c N st a w → kp ch st → Q (.panic ch) a w) :
    ∀ (l : List Oper) (ms : List MO) (st : St) (a : Act) (w : World), panrOk P N fx ops d t x l ms = true → Sim c N st a w → opsV P ms (fun st1 => panV t (rd st1 x) fun v => putS st1 (some d) .dead (kp [{ v := v, recovered := false }])) st → wpList P ops Q l a w
  | [], _, st, a, w, hm, S, h => by simp [panrOk] at hm
  | [o1], [], st, a, w, hm, S, h => by simp [panrOk] at hm
  | o1 :: o2 :: o3 :: l, [], st, a, w, hm, S, h => by simp [panrOk] at hm
  | [o1, o2], [], st, a, w, hm, S, h => by
    simp only [panrOk, Bool.and_eq_true, beq_iff_eq, decide_eq_true_eq, Bool.not_eq_true', Option.isNone_iff_eq_none] at hm
    obtain ⟨⟨⟨⟨⟨hm, hd⟩, hg1⟩, hg2⟩, hN⟩, hf⟩ := hm
    split at hm
    rotate_left
    · cases hm
    rename_i t' x' y' ho1 ho2
    simp only [Bool.and_eq_true, beq_iff_eq] at hm
    obtain ⟨⟨⟨rfl, hx⟩, hy⟩, hc⟩ := hm
    simp only [opsV] at h
    obtain ⟨own, C⟩ := S.core
    have rx := rd_rep C hx
    unfold panV at h
    split at h
    rotate_left
    · exact h.elim
    rename_i l hrd
    split at h
    rotate_left
    · exact h.elim
    rename_i vs hvs
    rw [hrd] at rx
    simp only [RepV] at rx
    obtain ⟨xs, hxv, hxs⟩ := rx
    obtain rfl := valsOf_rep hvs hxs
    have hfd : c.fx d = none := by
      cases hcf : c.fx d with
      | none => rfl
      | some v =>
        have := hfx d (by simp [hcf])
        simp [this] at hf
    refine wpList_plain hg1 ?_
    intro K hK
    unfold Oper.wp
    rw [show (execOp a.eval o1).run P w = .ok (.value (.iface t' (a.eval x'))) w from by simp [execOp, ho1, run_makeInterface w t' _ hc]]
    obtain ⟨st', S', h'⟩ := putS_sound (d := some d) (x := .iface t' (a.eval x')) S.defers S.size C (av := .dead) (by simp [RepV]) (fun e he => by cases he; exact ⟨hN, hfd⟩) h
    rw [← hd] at S'
    refine hK _ _ ?_
    refine wpList_plain hg2 ?_
    intro K2 hK2
    unfold Oper.wp
    have hev : (a.put o1.dst (.iface t' (a.eval x'))).eval y' = .iface t' (.agg xs.toArray) := by
      have hsz : d < a.tmps.size := by rw [S.size.1]; exact hN
      have e1 : tmOf (a.put o1.dst (.iface t' (a.eval x'))) d = .iface t' (a.eval x') := by rw [hd, tmOf_put hsz]; simp [upd]
      cases y' with
      | tmp s =>
        have : s = d := by simpa [mOpd] using hy
        subst this
        rw [← hxv]; exact e1
      | _ => simp [mOpd] at hy
    rw [show (execOp (a.put o1.dst (.iface t' (a.eval x'))).eval o2).run P w = .halt (.panic (.iface t' (.agg xs.toArray))) w from by simp [execOp, ho2, hev, run_panic_iface]]
    exact hp _ _ _ _ S' h'
  | o :: l, m :: ms, st, a, w, hm, S, h => by
    simp only [panrOk, Bool.and_eq_true] at hm
    obtain ⟨h1, h2⟩ := hm
    obtain ⟨hd, hN, hi⟩ := mO_spec h1 hfx
    refine wpList_step ?_
    intro K hK
    simp only [opsV] at h
    have hg := guard_sound S h1 h
    by_cases hw : Region.wanted o (yielded ops a.tmps) = true
    · rw [if_pos hw] at hg ⊢
      have hok : Ok P c N a w o (opsV P ms (fun st1 => panV t (rd st1 x) fun v => putS st1 (some d) .dead (kp [{ v := v, recovered := false }]))) Q := by
        unfold oV at hg
        rw [hd] at hg
        cases hmi : m.i with
        | q q =>
          rw [hmi] at hg hi
          obtain ⟨own, C⟩ := S.core
          exact fin_q S C hN (q_sound C hi hg)
        | a x =>
          rw [hmi] at hg hi
          exact a_sound S hN hi hg
      refine Oper.wp_mono ?_ hok
      rintro a' w' ⟨st', S', h'⟩
      exact hK _ _ (panr_sound hfx hp l ms st' a' w' h2 S' h')
    · rw [if_neg hw] at hg ⊢
      rw [hd] at hg
      obtain ⟨st', S', h'⟩ := put_undef S hN hg
      exact hK _ _ (panr_sound hfx hp l ms st' _ w h2 S' h')
theorem c_sound [GOk c P] (hfx : ∀ e, c.fx e ≠ none → e ∈ fx) : ∀ (mc : MC) (code : Code), mC P N fx mc code = true → ∀ {Q : AE → K} {Q' : Exit → Act → World → Prop} (st : St) (a : Act) (w : World),
    (∀ e st a w, Sim c N st a w → Q e st → Q' e.toE a w) → Sim c N st a w → awp P mc Q st → code.wp P Q' a w
  | .skip, code, hm, Q, Q', st, a, w, hQ, S, h => by
    simp only [mC] at hm
    split at hm
    · exact wp_skip (hQ .nrm _ _ _ S h)
    · cases hm
  | .reg ms, code, hm, Q, Q', st, a, w, hQ, S, h => by
    simp only [mC] at hm
    split at hm
    · exact wp_region_list (ops_sound hfx (fun st a w S h => hQ .nrm st a w S h) _ ms st a w hm S h)
    · cases hm
  | .dreg ms, code, hm, Q, Q', st, a, w, hQ, S, h => by
    simp only [mC] at hm
    split at hm
    · simp only [Bool.and_eq_true] at hm
      have S1 := S.world (Ext.drew w [])
      refine wp_region_quiet (C := fun w' => Ext w.drew w' []) hm.2 hm.1.2 (Ext.refl _ _) ?_
      have := dops_sound (w := w.drew) hfx _ ms st a hm.1.1 S1 h
      refine wpQuiet_mono ?_ _ _ this
      rintro a' ⟨st', S', h'⟩ w' hE
      exact hQ .nrm st' a' w' (S'.world hE) h'
    · cases hm
  | .seq x y, code, hm, Q, Q', st, a, w, hQ, S, h => by
    simp only [mC] at hm
    split at hm
    · simp only [Bool.and_eq_true] at hm
      refine wp_seq (c_sound hfx x _ hm.1 st a w ?_ S h)
      intro e st' a' w' S' h'
      cases e with
      | nrm => exact c_sound hfx y _ hm.2 st' a' w' hQ S' h'
      | ex id => exact hQ (.ex id) st' a' w' S' h'
      | ret => exact hQ .ret st' a' w' S' h'
      | pan ch => exact hQ (.pan ch) st' a' w' S' h'
    · cases hm
  | .cond v x y, code, hm, Q, Q', st, a, w, hQ, S, h => by
    simp only [mC] at hm
    split at hm
    · simp only [Bool.and_eq_true] at hm
      obtain ⟨own, C⟩ := S.core
      have rx := rd_rep C hm.1.1
      simp only [awp] at h
      unfold condV at h
      split at h
      · rename_i b hb
        rw [hb] at rx
        simp only [RepV, RepC] at rx
        refine wp_cond rx.1 ?_
        cases b
        · exact c_sound hfx y _ hm.2 st a w hQ S (by simpa using h)
        · exact c_sound hfx x _ hm.1.2 st a w hQ S (by simpa using h)
      · exact h.elim
    · cases hm
  | .block id x, code, hm, Q, Q', st, a, w, hQ, S, h => by
    simp only [mC] at hm
    split at hm
    · simp only [Bool.and_eq_true, beq_iff_eq] at hm
      obtain ⟨rfl, hm⟩ := hm
      refine wp_block (c_sound hfx x _ hm st a w ?_ S h)
      intro e st' a' w' S' h'
      cases e with
      | nrm => exact hQ .nrm st' a' w' S' h'
      | ex id' =>
        simp only [inB] at h'
        simp only [AE.toE, Exit.inBlock]
        split
        · rename_i he; rw [if_pos he] at h'; exact hQ .nrm st' a' w' S' h'
        · rename_i he; rw [if_neg he] at h'; exact hQ (.ex id') st' a' w' S' h'
      | ret => exact hQ .ret st' a' w' S' h'
      | pan ch => exact hQ (.pan ch) st' a' w' S' h'
    · cases hm
  | .join l x y, code, hm, Q, Q', st, a, w, hQ, S, h => by
    simp only [mC] at hm
    split at hm
    · simp only [Bool.and_eq_true] at hm
      simp only [awp] at h
      obtain ⟨J, h1, h2⟩ := h
      refine wp_seq (c_sound hfx x _ hm.1 st a w ?_ S h1)
      intro e st' a' w' S' h'
      cases e with
      | nrm => exact c_sound hfx y _ hm.2 _ a' w' hQ (keep_sound l S') (h2 _ h')
      | ex id => exact hQ (.ex id) st' a' w' S' h'
      | ret => exact hQ .ret st' a' w' S' h'
      | pan ch => exact hQ (.pan ch) st' a' w' S' h'
    · cases hm
  | .loop l x, code, hm, Q, Q', st, a, w, hQ, S, h => by
    simp only [mC] at hm
    split at hm
    · simp only [awp] at h
      obtain ⟨I, ⟨n0, h0⟩, hI⟩ := h
      refine wp_loop_ghost (fun n a w => ∃ st, Sim c N st a w ∧ I n st) n0 ⟨_, keep_sound l S, h0⟩ ?_
      rintro n a' w' ⟨st', S', h'⟩
      refine c_sound hfx x _ hm st' a' w' ?_ S' (hI n st' h')
      intro e st2 a2 w2 S2 h2
      cases e with
      | nrm => obtain ⟨m, hlt, h2⟩ := h2; exact ⟨m, hlt, _, keep_sound l S2, h2⟩
      | ex id => exact hQ (.ex id) st2 a2 w2 S2 h2
      | ret => exact hQ .ret st2 a2 w2 S2 h2
      | pan ch => exact hQ (.pan ch) st2 a2 w2 S2 h2
    · cases hm
  | .exit id, code, hm, Q, Q', st, a, w, hQ, S, h => by
    simp only [mC] at hm
    split at hm
    · simp only [beq_iff_eq] at hm
      subst hm
      exact wp_exit (hQ (.ex id) _ _ _ S h)
    · cases hm
  | .ret, code, hm, Q, Q', st, a, w, hQ, S, h => by
    simp only [mC] at hm
    split at hm
    · exact wp_ret (hQ .ret _ _ _ S h)
    · cases hm
  | .keep l x, code, hm, Q, Q', st, a, w, hQ, S, h => by
    simp only [mC] at hm
    exact c_sound hfx x code hm (keepS l st) a w hQ (keep_sound l S) h
  | .frz k x, code, hm, Q, Q', st, a, w, hQ, S, h => by
    simp only [mC] at hm
    simp only [awp] at h
    rcases h with h | ⟨h1, h2⟩
    · exact c_sound hfx x code hm st a w hQ S h
    · exact c_sound hfx x code hm (frzS k st) a w hQ (frz_sound k h1 S) h2
  | .mix FL WL RL B fi ci fs cs, code, hm, Q, Q', st, a, w, hQ, S, h => by
    simp only [mC] at hm
    split at hm
    · exact mix_sound hfx hm S h (fun st a w S h => hQ .nrm st a w S h)
    · cases hm
  | .mixt FL WL RL B fi fs t, code, hm, Q, Q', st, a, w, hQ, S, h => by
    simp only [mC] at hm
    split at hm
    · exact mixt_sound hfx hm S h (fun st a w S h => hQ .nrm st a w S h)
    · cases hm
  | .regp ms d y al as ms2, code, hm, Q, Q', st, a, w, hQ, S, h => by
    simp only [mC] at hm
    split at hm
    · exact wp_region_list (regp_sound hfx (fun st a w S h => hQ .nrm st a w S h) (fun ch st a w S h => hQ (.pan ch) st a w S h) _ ms st a w hm S h)
    · cases hm
  | .panr ms d t x, code, hm, Q, Q', st, a, w, hQ, S, h => by
    simp only [mC] at hm
    split at hm
    · exact wp_region_list (panr_sound hfx (fun ch st a w S h => hQ (.pan ch) st a w S h) _ ms st a w hm S h)
    · cases hm
end
end Go.AM
namespace Go.AM
set_option linter.unusedVariables false
set_option linter.unusedSimpArgs false
mutual
def nfz : AV → Bool
  | .v _ => true
  | .dead => true
  | .usl _ _ l => nfzss l
  | .box _ c => nfzs c
  | .agg l => nfzs l
  | .tup l => nfzs l
  | .clo _ l => nfzs l
  | .fsl _ l => l.isEmpty
  | .fptr _ => false
  | .ref _ _ _ _ => false
  | .sref _ _ _ _ => false
def nfzs : List AV → Bool
  | [] => true
  | c :: cs => nfz c && nfzs cs
def nfzss : List (List AV) → Bool
  | [] => true
  | r :: rs => nfzs r && nfzss rs
end
mutual
theorem nfzC {w : World} {Fz Fz' : Nat → Prop} : ∀ (av : AV) {x : Value} {o : List Nat}, RepC w Fz av x o → nfz av = true → RepC w Fz' av x o
  | .v y, x, o, h, _ => by simpa only [RepC] using h
  | .dead, x, o, h, _ => by simpa only [RepC] using h
  | .fsl sz l, x, o, h, hn => by
    simp only [nfz, List.isEmpty_iff] at hn
    simp only [RepC] at h ⊢
    obtain ⟨ho, A, c, hx, hc, _⟩ := h
    exact ⟨ho, A, c, hx, hc, .inl hn⟩
  | .usl e sz l, x, o, h, hn => by
    simp only [RepC] at h ⊢
    rcases h with h | ⟨g, hh, c, cur, xs, o', hx, ho, hg, hc, hsz, hr, hat⟩
    · exact .inl h
    · exact .inr ⟨g, hh, c, cur, xs, o', hx, ho, hg, hc, hsz, nfzRs l hr (by simpa [nfz] using hn), hat⟩
  | .box e cs, x, o, h, hn => by
    simp only [RepC] at h ⊢
    obtain ⟨g, xs, o', hx, ho, hg, hr⟩ := h
    exact ⟨g, xs, o', hx, ho, hg, nfzR cs hr (by simpa [nfz] using hn)⟩
  | .fptr _, x, o, h, hn => by simp [nfz] at hn
  | .agg _, x, o, h, hn => by simp [RepC] at h
  | .tup _, x, o, h, hn => by simp [RepC] at h
  | .clo _ _, x, o, h, hn => by simp [RepC] at h
  | .ref _ _ _ _, x, o, h, hn => by simp [RepC] at h
  | .sref _ _ _ _, x, o, h, hn => by simp [RepC] at h
theorem nfzR {w : World} {Fz Fz' : Nat → Prop} : ∀ (cs : List AV) {xs : List Value} {o : List Nat}, RepRow w Fz cs xs o → nfzs cs = true → RepRow w Fz' cs xs o
  | [], xs, o, h, _ => by simpa only [RepRow] using h
  | c :: cs, xs, o, h, hn => by
    simp only [nfzs, Bool.and_eq_true] at hn
    simp only [RepRow] at h ⊢
    obtain ⟨x, xs', o1, o2, hx, ho, hc, hr⟩ := h
    exact ⟨x, xs', o1, o2, hx, ho, nfzC c hc hn.1, nfzR cs hr hn.2⟩
theorem nfzRs {w : World} {Fz Fz' : Nat → Prop} {sz : Nat} : ∀ (rs : List (List AV)) {xs : List Value} {o : List Nat}, RepRows w Fz sz rs xs o → nfzss rs = true → RepRows w Fz' sz rs xs o
  | [], xs, o, h, _ => by simpa only [RepRows] using h
  | r :: rs, xs, o, h, hn => by
    simp only [nfzss, Bool.and_eq_true] at hn
    simp only [RepRows] at h ⊢
    obtain ⟨x1, x2, o1, o2, hx, ho, hl, h1, h2⟩ := h
    exact ⟨x1, x2, o1, o2, hx, ho, hl, nfzR r h1 hn.1, nfzRs rs h2 hn.2⟩
end
mutual
theorem nfzV {w : World} {Fz Fz' : Nat → Prop} {L L' : Locs} : ∀ (av : AV) {x : Value} {o : List Nat}, RepV w Fz L av x o → nfz av = true → RepV w Fz' L' av x o
  | .v y, x, o, h, hn => by simp only [RepV] at h ⊢; exact nfzC _ h hn
  | .fsl sz l, x, o, h, hn => by simp only [RepV] at h ⊢; exact nfzC _ h hn
  | .usl e sz l, x, o, h, hn => by simp only [RepV] at h ⊢; exact nfzC _ h hn
  | .fptr c, x, o, h, hn => by simp only [RepV] at h ⊢; exact nfzC _ h hn
  | .box e c, x, o, h, hn => by simp only [RepV] at h ⊢; exact nfzC _ h hn
  | .dead, x, o, h, hn => by simpa only [RepV] using h
  | .agg l, x, o, h, hn => by simp only [RepV] at h ⊢; obtain ⟨xs, hx, h⟩ := h; exact ⟨xs, hx, nfzVs l h (by simpa [nfz] using hn)⟩
  | .tup l, x, o, h, hn => by simp only [RepV] at h ⊢; obtain ⟨xs, hx, h⟩ := h; exact ⟨xs, hx, nfzVs l h (by simpa [nfz] using hn)⟩
  | .clo f l, x, o, h, hn => by simp only [RepV] at h ⊢; obtain ⟨xs, hx, h⟩ := h; exact ⟨xs, hx, nfzVs l h (by simpa [nfz] using hn)⟩
  | .ref _ _ _ _, x, o, h, hn => by simp [nfz] at hn
  | .sref _ _ _ _, x, o, h, hn => by simp [nfz] at hn
theorem nfzVs {w : World} {Fz Fz' : Nat → Prop} {L L' : Locs} : ∀ (l : List AV) {xs : List Value} {o : List Nat}, RepVs w Fz L l xs o → nfzs l = true → RepVs w Fz' L' l xs o
  | [], xs, o, h, _ => by simpa only [RepVs] using h
  | c :: cs, xs, o, h, hn => by
    simp only [nfzs, Bool.and_eq_true] at hn
    simp only [RepVs] at h ⊢
    obtain ⟨x, xs', o1, o2, hx, ho, hc, hr⟩ := h
    exact ⟨x, xs', o1, o2, hx, ho, nfzV c hc hn.1, nfzVs cs hr hn.2⟩
end
def zipA : Nat → List AV → List (Nat × AV)
  | _, [] => []
  | k, av :: l => (k, av) :: zipA (k + 1) l
theorem stl_zipA : ∀ (l : List AV) (k j : Nat), stl (zipA k l) j = if k ≤ j then (l[j - k]?).getD .dead else .dead
  | [], k, j => by simp [zipA, stl]
  | av :: l, k, j => by
    simp only [zipA, stl, stl_zipA l (k + 1) j]
    by_cases h : j = k
    · subst h; simp
    · by_cases h2 : k ≤ j
      · have : k + 1 ≤ j := by omega
        simp only [h, if_false, this, if_true, h2]
        have e : j - k = (j - (k + 1)) + 1 := by omega
        rw [e, List.getElem?_cons_succ]
      · have : ¬ k + 1 ≤ j := by omega
        simp [h, this, h2]
def resA (st : St) : List Nat → AV
  | [t] => st t
  | ts => .tup (ts.map st)
def outsA (fx : List Nat) (st : St) : Nat → Nat → List AV
  | _, 0 => []
  | k, n + 1 => (if fx.contains k then killV allK (st k) else .dead) :: outsA fx st (k + 1) n
def retV (n : Nat) (rs fx : List Nat) (al : Bool) (res : AV) (outs : List AV) : AE → K
  | .ex _, _ => False
  | .pan _, _ => False
  | _, st => killV allK (resA st rs) = res ∧ (al = true ∨ nfz res = true) ∧ outsA fx st 0 n = outs
def retE (n : Nat) (rs fx : List Nat) (al : Bool) (R : AV → List AV → Prop) : AE → K
  | .ex _, _ => False
  | .pan _, _ => False
  | _, st => R (killV allK (resA st rs)) (outsA fx st 0 n) ∧ (al = true ∨ nfz (killV allK (resA st rs)) = true)
def retP (n : Nat) (rs fx : List Nat) (al : Bool) (R : AV → List AV → Prop) (Rp : List PanicEntry → List AV → Prop) : AE → K
  | .ex _, _ => False
  | .pan ch, st => Rp ch (outsA fx st 0 n)
  | _, st => R (killV allK (resA st rs)) (outsA fx st 0 n) ∧ (al = true ∨ nfz (killV allK (resA st rs)) = true)
def resOk : List ResultVar → List Nat → Bool
  | [], [] => true
  | .tmp t :: l, r :: rs => t == r && resOk l rs
  | _, _ => false
def fnC (P : Program) (f : FuncId) (n N : Nat) (rs fx : List Nat) (mc : MC) : Bool :=
  match P.funcs[f]? with
  | some fn => !(fn.name == "runtime.NumGoroutine") && fn.ntmps == N && decide (n ≤ N) && resOk fn.results.toList rs && decide (rs.length ≤ 4) && decide ((rs ++ fx).Nodup) && (rs.all fun t => t < N) && (fx.all fun t => t < n) &&
    (match fn.body with | some c => mC P N fx mc c | none => false)
  | none => false
def resVal : List Value → Value
  | [x] => x
  | l => .tuple l.toArray
theorem results_run {P : Program} {fn : Func} {rs : List Nat} {tmps : Array Value} {w : World} (h : resOk fn.results.toList rs = true) (hl : rs.length ≤ 4) : (results fn tmps).run P w = .ok (resVal (rs.map fun t => tmps.getD t undef)) w := by
  have key : ∀ (l : List ResultVar) (rs : List Nat), resOk l rs = true → l = rs.map ResultVar.tmp := by
    intro l
    induction l with
    | nil => intro rs h; cases rs with | nil => rfl | cons _ _ => simp [resOk] at h
    | cons v l ih =>
      intro rs h
      cases v with
      | tmp t => cases rs with
        | nil => simp [resOk] at h
        | cons r rs => simp only [resOk, Bool.and_eq_true, beq_iff_eq] at h; simp [h.1, ih rs h.2]
      | cell _ _ => cases rs <;> simp [resOk] at h
  have e := key _ _ h
  have e' : fn.results = (rs.map ResultVar.tmp).toArray := by rw [← e, Array.toArray_toList]
  match rs, hl with
  | [], _ => exact results_none (by simpa using e') tmps P w
  | [t], _ => exact results_tmp (by simpa using e') tmps P w
  | [t, u], _ => exact results_tmp2 (by simpa using e') tmps P w
  | [t, u, v], _ => (have e3 : fn.results = #[.tmp t, .tmp u, .tmp v] := by simpa using e'); simp [results, e3, resVal]
  | [t, u, v, x], _ => (have e3 : fn.results = #[.tmp t, .tmp u, .tmp v, .tmp x] := by simpa using e'); simp [results, e3, resVal]
  | _ :: _ :: _ :: _ :: _ :: _, hl => simp at hl
section
variable {P : Program} {w : World} {Fz : Nat → Prop} {L : Locs}
theorem args_own : ∀ {args : List AV} {xs : List Value} {os : List Nat}, RepVs w Fz L args xs os → os.Nodup → ∃ own : Nat → List Nat, (∀ (k : Nat) (av : AV), args[k]? = some av → ∃ x, xs[k]? = some x ∧ RepV w Fz L av x (own k)) ∧ (∀ k, args.length ≤ k → own k = []) ∧
    (∀ k, (own k).Nodup) ∧ (∀ j k, j ≠ k → ∀ b ∈ own j, b ∉ own k) ∧ (∀ b, b ∈ os ↔ ∃ k, b ∈ own k) ∧ xs.length = args.length
  | [], xs, os, h, hn => by
    simp only [RepVs] at h
    obtain ⟨rfl, rfl⟩ := h
    exact ⟨fun _ => [], by simp, by simp, by simp, by simp, by simp, rfl⟩
  | c :: cs, xs, os, h, hn => by
    simp only [RepVs] at h
    obtain ⟨x, xs', o1, o2, rfl, rfl, hc, hr⟩ := h
    obtain ⟨h1, h2, h3⟩ := List.nodup_append.1 hn
    obtain ⟨own, ha, hb, hnd, hdj, hm, hl⟩ := args_own hr h2
    refine ⟨fun k => match k with | 0 => o1 | k + 1 => own k, ?_, ?_, ?_, ?_, ?_, by simp [hl]⟩
    · intro k av hk
      cases k with
      | zero => simp at hk; subst hk; exact ⟨x, by simp, hc⟩
      | succ k => simp at hk; obtain ⟨z, hz, hr⟩ := ha k av hk; exact ⟨z, by simpa using hz, hr⟩
    · intro k hk
      cases k with
      | zero => simp at hk
      | succ k => exact hb k (by simpa using hk)
    · intro k
      cases k with
      | zero => exact h1
      | succ k => exact hnd k
    · intro j k hjk b hbj hbk
      cases j with
      | zero => cases k with
        | zero => exact hjk rfl
        | succ k => exact h3 b hbj b ((hm b).2 ⟨k, hbk⟩) rfl
      | succ j => cases k with
        | zero => exact h3 b hbk b ((hm b).2 ⟨j, hbj⟩) rfl
        | succ k => exact hdj j k (by omega) b hbj hbk
    · intro b
      constructor
      · intro hbm
        rcases List.mem_append.1 hbm with h | h
        · exact ⟨0, h⟩
        · obtain ⟨k, hk⟩ := (hm b).1 h; exact ⟨k + 1, hk⟩
      · rintro ⟨k, hk⟩
        cases k with
        | zero => exact List.mem_append.2 (.inl hk)
        | succ k => exact List.mem_append.2 (.inr ((hm b).2 ⟨k, hk⟩))
theorem flat_nodup {own : Nat → List Nat} (hn : ∀ k, (own k).Nodup) (hd : ∀ j k, j ≠ k → ∀ b ∈ own j, b ∉ own k) : ∀ {ts : List Nat}, ts.Nodup → (ts.flatMap own).Nodup
  | [], _ => by simp
  | t :: ts, h => by
    rw [List.nodup_cons] at h
    rw [List.flatMap_cons, List.nodup_append]
    refine ⟨hn t, flat_nodup hn hd h.2, ?_⟩
    intro b hb b' hb' e
    subst e
    obtain ⟨u, hu, hbu⟩ := List.mem_flatMap.1 hb'
    exact hd t u (fun e => h.1 (e ▸ hu)) b hb hbu
theorem slots_rep {st : St} {tm : Nat → Value} {own : Nat → List Nat} (h : ∀ k, RepV w Fz L (st k) (tm k) (own k)) : ∀ (ts : List Nat), RepVs w Fz L (ts.map st) (ts.map tm) (ts.flatMap own)
  | [] => by simp [RepVs]
  | t :: ts => by
    simp only [List.map_cons, List.flatMap_cons, RepVs]
    exact ⟨_, _, _, _, rfl, rfl, h t, slots_rep h ts⟩
theorem resA_rep {st : St} {tm : Nat → Value} {own : Nat → List Nat} (h : ∀ k, RepV w Fz L (st k) (tm k) (own k)) (ts : List Nat) : RepV w Fz L (resA st ts) (resVal (ts.map tm)) (ts.flatMap own) := by
  match ts with
  | [] => simp [resA, resVal, RepV, RepVs]
  | [t] => simpa [resA, resVal] using h t
  | t :: u :: ts =>
    simp only [resA, List.map_cons, resVal, RepV]
    exact ⟨_, rfl, slots_rep h (t :: u :: ts)⟩
theorem outs_rep {st : St} {tm : Nat → Value} {own : Nat → List Nat} {fx : List Nat} (h : ∀ k, RepV w Fz L (killV allK (st k)) (tm k) (own k)) : ∀ (xs : List Value) (k : Nat), (∀ j, fx.contains (k + j) = true → ∀ x, xs[j]? = some x → tm (k + j) = x) →
    RepVs w Fz L (outsA fx st k xs.length) xs (((List.range' k xs.length).filter fx.contains).flatMap own)
  | [], k, _ => by simp [outsA, RepVs]
  | x :: xs, k, hx => by
    have ih := outs_rep h xs (k + 1) (fun j hj y hy => by
      have := hx (j + 1) (by rw [show k + (j + 1) = k + 1 + j from by omega]; exact hj) y (by simpa using hy)
      rw [← this]; congr 1; omega)
    simp only [List.length_cons, outsA, List.range'_succ, RepVs]
    by_cases hk : fx.contains k = true
    · rw [if_pos hk, List.filter_cons_of_pos hk, List.flatMap_cons]
      have := hx 0 (by simpa using hk) x (by simp)
      refine ⟨x, xs, own k, _, rfl, rfl, ?_, ih⟩
      rw [← this]; exact h k
    · rw [if_neg hk, List.filter_cons_of_neg (by simpa using hk)]
      exact ⟨x, xs, [], _, rfl, rfl, by simp [RepV], ih⟩
theorem doesE_intro {f : FuncId} {mc : MC} {N : Nat} {rs fx : List Nat} {args : List AV} {al : Bool} {R : AV → List AV → Prop} (n : Nat) (hn0 : args.length = n) (hchk : fnC P f n N rs fx mc = true)
    (h : awp P mc (retE n rs fx al R) (stl (zipA 0 args))) : DoesE P f args al R := by
  subst hn0
  unfold fnC at hchk
  split at hchk
  rotate_left
  · cases hchk
  rename_i fn hfn
  simp only [Bool.and_eq_true, beq_iff_eq, decide_eq_true_eq, Bool.not_eq_true', List.all_eq_true] at hchk
  obtain ⟨⟨⟨⟨⟨⟨⟨⟨hname, hN⟩, hnN⟩, hres⟩, hrl⟩, hnd⟩, hrN⟩, hfn2⟩, hbody⟩ := hchk
  split at hbody
  rotate_left
  · cases hbody
  rename_i code hcode
  refine ⟨by simp [fnOk, hfn, hname, hcode], ?_⟩
  intro w Fz xs os hrep hos hfz hlt
  obtain ⟨own, hown, hown0, hond, hodj, hom, hlen⟩ := args_own hrep hos
  let c : Ctx := { w0 := w, Fz := Fz, own0 := os, fx := fun e => if fx.contains e then some (xs.getD e undef) else none }
  haveI : GOk c P := ⟨hlt.gl, fun b hb hf => (hfz b hb).1 hf, hlt.lt⟩
  have hcfx : ∀ e, c.fx e ≠ none → e ∈ fx := by
    intro e he
    by_cases h : fx.contains e = true
    · simpa using h
    · simp only [c] at he; rw [if_neg h] at he; exact absurd rfl he
  let a0 : Act := { tmps := xs.toArray ++ Array.replicate (fn.ntmps - xs.toArray.size) undef, defers := [] }
  have htm : ∀ k, tmOf a0 k = xs.getD k undef := by
    intro k
    simp only [tmOf, a0, Array.getD_eq_getD_getElem?, List.getD_eq_getElem?_getD]
    by_cases hk : k < xs.length
    · rw [Array.getElem?_append_left (by simpa using hk)]; simp
    · rw [Array.getElem?_append_right (by simp; omega), List.getElem?_eq_none (by omega)]
      simp only [List.size_toArray]
      by_cases h2 : k - xs.length < fn.ntmps - xs.length
      · simp [h2]
      · rw [Array.getElem?_eq_none (by simp; omega)]
  have S : Sim c N (stl (zipA 0 args)) a0 w := by
    refine ⟨rfl, ⟨by simp only [a0, Array.size_append, List.size_toArray, Array.size_replicate]; omega, ?_⟩, own, ?_⟩
    · intro k v hk
      simp only [c] at hk
      split at hk
      · simp only [Option.some.injEq] at hk; rw [htm, hk]
      · cases hk
    · have hX : ∀ b, owned own [] b ↔ b ∈ os := fun b => by
        rw [hom b]
        constructor
        · rintro (h | h)
          · exact h
          · simp at h
        · exact fun h => .inl h
      refine ⟨Ext.refl _ _, ?_, hond, hodj, by simp, by simp, ?_⟩
      · intro k
        rw [htm, stl_zipA]
        simp only [Nat.zero_le, if_true, Nat.sub_zero]
        cases hk : args[k]? with
        | none =>
          have : args.length ≤ k := by simpa using hk
          simp [RepV, hown0 k this]
        | some av =>
          obtain ⟨x, hx, hr⟩ := hown k av hk
          simp only [Option.getD_some, List.getD_eq_getElem?_getD, hx]
          have := hr.keep (K := fun _ _ => false) (L' := locs (stl (zipA 0 args)) (tmOf a0) w) (fun _ _ _ _ h => by simp [noL] at h) _ _ _ (w' := w) (Fz' := frz c w (owned own []))
            ⟨fun b hb => ⟨⟨hlt b hb, .inr (.inl hb), fun ho => (hfz b ((hX b).1 ho)).1 hb⟩, rfl⟩, fun _ _ => rfl⟩
          rwa [killV_none] at this
      · intro b hb
        have := (hX b).1 hb
        exact ⟨.inl this, (hfz b this).2⟩
  refine calls_of_wp hfn hcode ?_
  refine c_sound (c := c) hcfx mc code hbody (stl (zipA 0 args)) a0 w ?_ S h
  have fin : ∀ (st : St) (a : Act) (w' : World), Sim c N st a w' → (R (killV allK (resA st rs)) (outsA fx st 0 args.length) ∧ (al = true ∨ nfz (killV allK (resA st rs)) = true)) →
      a.defers = [] ∧ ∃ v, (results fn a.tmps).run P w' = .ok v w' ∧ ∃ res outs, R res outs ∧ ∃ x ox oo, Ending.returned v = .returned x ∧ Ext w w' os ∧ RepV w' (fzP Fz w w' os (ox ++ oo) al) noL res x ox ∧ RepVs w' (fzP Fz w w' os (ox ++ oo) true) noL outs xs oo ∧
        (ox ++ oo).Nodup ∧ ∀ b ∈ ox ++ oo, (b ∈ os ∨ w.heap.size ≤ b) ∧ b < w'.heap.size := by
    rintro st a w' ⟨hd, hs, own', C⟩ ⟨hR, h2'⟩
    obtain ⟨res, h1⟩ : ∃ res, killV allK (resA st rs) = res := ⟨_, rfl⟩
    obtain ⟨outs, h3⟩ : ∃ outs, outsA fx st 0 args.length = outs := ⟨_, rfl⟩
    have h2 : al = true ∨ nfz res = true := by rw [← h1]; exact h2'
    have hR' : R res outs := by rw [← h1, ← h3]; exact hR
    refine ⟨hd, _, results_run hres hrl, res, outs, hR', resVal (rs.map (tmOf a)), rs.flatMap own', ((List.range' 0 xs.length).filter fx.contains).flatMap own', rfl, C.fr, ?_, ?_, ?_, ?_⟩
    · have hr := resA_rep C.rep rs
      have hr2 := hr.keep (K := allK) (L' := noL) (fun _ _ _ h => by simp [allK] at h) _ _ _ (w' := w') (Fz' := fzP Fz w w' os (rs.flatMap own' ++ ((List.range' 0 xs.length).filter fx.contains).flatMap own') true) (by
        refine ⟨fun b hb => ⟨⟨?_, hb.1, ?_⟩, rfl⟩, fun _ _ => rfl⟩
        · rcases hb.2.1 with h | h | h
          · exact .inr h
          · exact .inl ⟨rfl, .inl h⟩
          · exact .inl ⟨rfl, .inr h⟩
        · intro hm
          rw [← List.flatMap_append] at hm
          obtain ⟨k, _, hk⟩ := List.mem_flatMap.1 hm
          exact hb.2.2 (.inl ⟨k, hk⟩))
      rw [h1] at hr2
      rcases h2 with h2 | h2
      · rw [h2]; exact hr2
      · exact nfzV res hr2 h2
    · rw [← h3, ← hlen]
      refine outs_rep (own := own') (tm := tmOf a) ?_ xs 0 ?_
      · intro k
        refine (C.rep k).keep (K := allK) (L' := noL) (fun _ _ _ h => by simp [allK] at h) _ _ _ ?_
        refine ⟨fun b hb => ⟨⟨?_, hb.1, ?_⟩, rfl⟩, fun _ _ => rfl⟩
        · rcases hb.2.1 with h | h | h
          · exact .inr h
          · exact .inl ⟨rfl, .inl h⟩
          · exact .inl ⟨rfl, .inr h⟩
        · intro hm
          rw [← List.flatMap_append] at hm
          obtain ⟨k, _, hk⟩ := List.mem_flatMap.1 hm
          exact hb.2.2 (.inl ⟨k, hk⟩)
      · intro j hj x hx
        have := hs.2 (0 + j) (xs.getD (0 + j) undef) (by simp only [c]; rw [if_pos hj])
        rw [this]
        simp [hx]
    · rw [← List.flatMap_append]
      refine flat_nodup C.nd C.dj ?_
      rw [List.nodup_append] at hnd ⊢
      refine ⟨hnd.1, List.Nodup.sublist List.filter_sublist List.nodup_range', ?_⟩
      intro x hx y hy e
      exact hnd.2.2 x hx y (by have := (List.mem_filter.1 hy).2; simpa using this) e
    · intro b hb
      rw [← List.flatMap_append] at hb
      obtain ⟨k, _, hk⟩ := List.mem_flatMap.1 hb
      exact C.old b (.inl ⟨k, hk⟩)
  intro e st a w' S' h'
  cases e with
  | nrm => exact fin st a w' S' h'
  | ret => exact fin st a w' S' h'
  | ex id => exact h'.elim
  | pan ch => exact h'.elim
theorem doesP_intro {f : FuncId} {mc : MC} {N : Nat} {rs fx : List Nat} {args : List AV} {al : Bool} {R : AV → List AV → Prop} {Rp : List PanicEntry → List AV → Prop} (n : Nat) (hn0 : args.length = n) (hchk : fnC P f n N rs fx mc = true)
    (h : awp P mc (retP n rs fx al R Rp) (stl (zipA 0 args))) : DoesP P f args al R Rp := by
  subst hn0
  unfold fnC at hchk
  split at hchk
  rotate_left
  · cases hchk
  rename_i fn hfn
  simp only [Bool.and_eq_true, beq_iff_eq, decide_eq_true_eq, Bool.not_eq_true', List.all_eq_true] at hchk
  obtain ⟨⟨⟨⟨⟨⟨⟨⟨hname, hN⟩, hnN⟩, hres⟩, hrl⟩, hnd⟩, hrN⟩, hfn2⟩, hbody⟩ := hchk
  split at hbody
  rotate_left
  · cases hbody
  rename_i code hcode
  refine ⟨by simp [fnOk, hfn, hname, hcode], ?_⟩
  intro w Fz xs os hrep hos hfz hlt
  obtain ⟨own, hown, hown0, hond, hodj, hom, hlen⟩ := args_own hrep hos
  let c : Ctx := { w0 := w, Fz := Fz, own0 := os, fx := fun e => if fx.contains e then some (xs.getD e undef) else none }
  haveI : GOk c P := ⟨hlt.gl, fun b hb hf => (hfz b hb).1 hf, hlt.lt⟩
  have hcfx : ∀ e, c.fx e ≠ none → e ∈ fx := by
    intro e he
    by_cases h : fx.contains e = true
    · simpa using h
    · simp only [c] at he; rw [if_neg h] at he; exact absurd rfl he
  let a0 : Act := { tmps := xs.toArray ++ Array.replicate (fn.ntmps - xs.toArray.size) undef, defers := [] }
  have htm : ∀ k, tmOf a0 k = xs.getD k undef := by
    intro k
    simp only [tmOf, a0, Array.getD_eq_getD_getElem?, List.getD_eq_getElem?_getD]
    by_cases hk : k < xs.length
    · rw [Array.getElem?_append_left (by simpa using hk)]; simp
    · rw [Array.getElem?_append_right (by simp; omega), List.getElem?_eq_none (by omega)]
      simp only [List.size_toArray]
      by_cases h2 : k - xs.length < fn.ntmps - xs.length
      · simp [h2]
      · rw [Array.getElem?_eq_none (by simp; omega)]
  have S : Sim c N (stl (zipA 0 args)) a0 w := by
    refine ⟨rfl, ⟨by simp only [a0, Array.size_append, List.size_toArray, Array.size_replicate]; omega, ?_⟩, own, ?_⟩
    · intro k v hk
      simp only [c] at hk
      split at hk
      · simp only [Option.some.injEq] at hk; rw [htm, hk]
      · cases hk
    · have hX : ∀ b, owned own [] b ↔ b ∈ os := fun b => by
        rw [hom b]
        constructor
        · rintro (h | h)
          · exact h
          · simp at h
        · exact fun h => .inl h
      refine ⟨Ext.refl _ _, ?_, hond, hodj, by simp, by simp, ?_⟩
      · intro k
        rw [htm, stl_zipA]
        simp only [Nat.zero_le, if_true, Nat.sub_zero]
        cases hk : args[k]? with
        | none =>
          have : args.length ≤ k := by simpa using hk
          simp [RepV, hown0 k this]
        | some av =>
          obtain ⟨x, hx, hr⟩ := hown k av hk
          simp only [Option.getD_some, List.getD_eq_getElem?_getD, hx]
          have := hr.keep (K := fun _ _ => false) (L' := locs (stl (zipA 0 args)) (tmOf a0) w) (fun _ _ _ _ h => by simp [noL] at h) _ _ _ (w' := w) (Fz' := frz c w (owned own []))
            ⟨fun b hb => ⟨⟨hlt b hb, .inr (.inl hb), fun ho => (hfz b ((hX b).1 ho)).1 hb⟩, rfl⟩, fun _ _ => rfl⟩
          rwa [killV_none] at this
      · intro b hb
        have := (hX b).1 hb
        exact ⟨.inl this, (hfz b this).2⟩
  refine calls_of_wp hfn hcode ?_
  refine c_sound (c := c) hcfx mc code hbody (stl (zipA 0 args)) a0 w ?_ S h
  have fin : ∀ (st : St) (a : Act) (w' : World), Sim c N st a w' → (R (killV allK (resA st rs)) (outsA fx st 0 args.length) ∧ (al = true ∨ nfz (killV allK (resA st rs)) = true)) →
      a.defers = [] ∧ ∃ v, (results fn a.tmps).run P w' = .ok v w' ∧ ∃ res outs, EndR R Rp (.returned v) res outs ∧ ∃ x ox oo, EndsAs (.returned v) x ∧ Ext w w' os ∧ RepV w' (fzP Fz w w' os (ox ++ oo) al) noL res x ox ∧ RepVs w' (fzP Fz w w' os (ox ++ oo) true) noL outs xs oo ∧
        (ox ++ oo).Nodup ∧ ∀ b ∈ ox ++ oo, (b ∈ os ∨ w.heap.size ≤ b) ∧ b < w'.heap.size := by
    rintro st a w' ⟨hd, hs, own', C⟩ ⟨hR, h2'⟩
    obtain ⟨res, h1⟩ : ∃ res, killV allK (resA st rs) = res := ⟨_, rfl⟩
    obtain ⟨outs, h3⟩ : ∃ outs, outsA fx st 0 args.length = outs := ⟨_, rfl⟩
    have h2 : al = true ∨ nfz res = true := by rw [← h1]; exact h2'
    have hR' : R res outs := by rw [← h1, ← h3]; exact hR
    refine ⟨hd, _, results_run hres hrl, res, outs, hR', resVal (rs.map (tmOf a)), rs.flatMap own', ((List.range' 0 xs.length).filter fx.contains).flatMap own', rfl, C.fr, ?_, ?_, ?_, ?_⟩
    · have hr := resA_rep C.rep rs
      have hr2 := hr.keep (K := allK) (L' := noL) (fun _ _ _ h => by simp [allK] at h) _ _ _ (w' := w') (Fz' := fzP Fz w w' os (rs.flatMap own' ++ ((List.range' 0 xs.length).filter fx.contains).flatMap own') true) (by
        refine ⟨fun b hb => ⟨⟨?_, hb.1, ?_⟩, rfl⟩, fun _ _ => rfl⟩
        · rcases hb.2.1 with h | h | h
          · exact .inr h
          · exact .inl ⟨rfl, .inl h⟩
          · exact .inl ⟨rfl, .inr h⟩
        · intro hm
          rw [← List.flatMap_append] at hm
          obtain ⟨k, _, hk⟩ := List.mem_flatMap.1 hm
          exact hb.2.2 (.inl ⟨k, hk⟩))
      rw [h1] at hr2
      rcases h2 with h2 | h2
      · rw [h2]; exact hr2
      · exact nfzV res hr2 h2
    · rw [← h3, ← hlen]
      refine outs_rep (own := own') (tm := tmOf a) ?_ xs 0 ?_
      · intro k
        refine (C.rep k).keep (K := allK) (L' := noL) (fun _ _ _ h => by simp [allK] at h) _ _ _ ?_
        refine ⟨fun b hb => ⟨⟨?_, hb.1, ?_⟩, rfl⟩, fun _ _ => rfl⟩
        · rcases hb.2.1 with h | h | h
          · exact .inr h
          · exact .inl ⟨rfl, .inl h⟩
          · exact .inl ⟨rfl, .inr h⟩
        · intro hm
          rw [← List.flatMap_append] at hm
          obtain ⟨k, _, hk⟩ := List.mem_flatMap.1 hm
          exact hb.2.2 (.inl ⟨k, hk⟩)
      · intro j hj x hx
        have := hs.2 (0 + j) (xs.getD (0 + j) undef) (by simp only [c]; rw [if_pos hj])
        rw [this]
        simp [hx]
    · rw [← List.flatMap_append]
      refine flat_nodup C.nd C.dj ?_
      rw [List.nodup_append] at hnd ⊢
      refine ⟨hnd.1, List.Nodup.sublist List.filter_sublist List.nodup_range', ?_⟩
      intro x hx y hy e
      exact hnd.2.2 x hx y (by have := (List.mem_filter.1 hy).2; simpa using this) e
    · intro b hb
      rw [← List.flatMap_append] at hb
      obtain ⟨k, _, hk⟩ := List.mem_flatMap.1 hb
      exact C.old b (.inl ⟨k, hk⟩)
  have finP : ∀ (ch : List PanicEntry) (st : St) (a : Act) (w' : World), Sim c N st a w' → Rp ch (outsA fx st 0 args.length) →
      a.defers = [] ∧ ∃ res outs, EndR R Rp (.panicked ch) res outs ∧ ∃ x ox oo, EndsAs (.panicked ch) x ∧ Ext w w' os ∧ RepV w' (fzP Fz w w' os (ox ++ oo) al) noL res x ox ∧ RepVs w' (fzP Fz w w' os (ox ++ oo) true) noL outs xs oo ∧
        (ox ++ oo).Nodup ∧ ∀ b ∈ ox ++ oo, (b ∈ os ∨ w.heap.size ≤ b) ∧ b < w'.heap.size := by
    rintro ch st a w' ⟨hd, hs, own', C⟩ hR
    refine ⟨hd, .dead, outsA fx st 0 args.length, ⟨rfl, hR⟩, undef, [], ((List.range' 0 xs.length).filter fx.contains).flatMap own', rfl, C.fr, by simp [RepV], ?_, ?_, ?_⟩
    · rw [← hlen]
      refine outs_rep (own := own') (tm := tmOf a) ?_ xs 0 ?_
      · intro k
        refine (C.rep k).keep (K := allK) (L' := noL) (fun _ _ _ h => by simp [allK] at h) _ _ _ ?_
        refine ⟨fun b hb => ⟨⟨?_, hb.1, ?_⟩, rfl⟩, fun _ _ => rfl⟩
        · rcases hb.2.1 with h | h | h
          · exact .inr h
          · exact .inl ⟨rfl, .inl h⟩
          · exact .inl ⟨rfl, .inr h⟩
        · intro hm
          rw [List.nil_append] at hm
          obtain ⟨k, _, hk⟩ := List.mem_flatMap.1 hm
          exact hb.2.2 (.inl ⟨k, hk⟩)
      · intro j hj x hx
        have := hs.2 (0 + j) (xs.getD (0 + j) undef) (by simp only [c]; rw [if_pos hj])
        rw [this]
        simp [hx]
    · rw [List.nil_append]
      exact flat_nodup C.nd C.dj (List.Nodup.sublist List.filter_sublist List.nodup_range')
    · intro b hb
      rw [List.nil_append] at hb
      obtain ⟨k, _, hk⟩ := List.mem_flatMap.1 hb
      exact C.old b (.inl ⟨k, hk⟩)
  intro e st a w' S' h'
  cases e with
  | nrm => exact fin st a w' S' h'
  | ret => exact fin st a w' S' h'
  | ex id => exact h'.elim
  | pan ch => exact finP ch st a w' S' h'
end
theorem does_intro {P : Program} {f : FuncId} {mc : MC} {N : Nat} {rs fx : List Nat} {args outs : List AV} {al : Bool} {res : AV} (n : Nat) (hn0 : args.length = n) (hchk : fnC P f n N rs fx mc = true)
    (h : awp P mc (retV n rs fx al res outs) (stl (zipA 0 args))) : Does P f args al res outs := by
  have e : retV n rs fx al res outs = retE n rs fx al fun r o => r = res ∧ o = outs := by
    funext x st
    apply propext
    cases x <;> simp only [retV, retE]
    all_goals constructor
    all_goals first
      | (rintro ⟨h1, h2, h3⟩; exact ⟨⟨h1, h3⟩, by rw [h1]; exact h2⟩)
      | (rintro ⟨⟨h1, h3⟩, h2⟩; exact ⟨h1, by rw [h1] at h2; exact h2, h3⟩)
  rw [e] at h
  have := doesE_intro n hn0 hchk h
  exact ⟨this.1, this.2.con⟩
end Go.AM
namespace Go.AM
set_option linter.unusedVariables false
set_option linter.unusedSimpArgs false
def pK (st : St) (d : Option Nat) (k : K) : AV → Prop := fun av => putS st d av k
def yK (P : Program) (d : Option Nat) (i : MI) (ms : List MO) (k : K) : K := fun st => opsV P (⟨d, none, i⟩ :: ms) k st
def nK (P : Program) (d : Option Nat) (ms : List MO) (k : K) : K := fun st => putS st d (.tup []) (opsV P ms k)
def yD (P : Program) (d : Option Nat) (i : MI) (ms : List MO) (k : K) : K := fun st => dopsV P (⟨d, none, i⟩ :: ms) k st
def nD (P : Program) (d : Option Nat) (ms : List MO) (k : K) : K := fun st => putS st d (.tup []) (dopsV P ms k)
def gK (av : AV) (w : Bool) (y n : K) (st : St) : Prop := gV (fun _ => av) (some (0, w)) (y st) (n st)
def cK (av : AV) (y n : K) (st : St) : Prop := condV av (y st) (n st)
def callK (P : Program) (f : FuncId) (args : List AV) (al : Bool) (outs : List AV) (K : AV → Prop) : Prop := ∃ R : AV → Prop, DoesE P f args al (fun r o => R r ∧ o = outs) ∧ ∀ r, R r → K r
def callK2 (P : Program) (f : FuncId) (args : List AV) (al : Bool) (O : AV → List AV) (av : AV) (S : AV → AV → Prop) : Prop := ∃ R : AV → AV → Prop, DoesE P f args al (fun r o => ∃ out, R r out ∧ o = O out) ∧ ∀ r out, R r out → isOwner out = true ∧ shapeOf out = shapeOf av ∧ S out r
def callD (D : Value → Prop) (K : AV → Prop) : Prop := ∃ val, scal val = true ∧ D val ∧ K (.v val)
def sK (n : Nat) (p : List (Nat × Nat)) (st : St) (d : Option Nat) (k : K) : AV → AV → Prop := fun out res => putS (setS n p out st) d res k
theorem callK_i {P : Program} {f : FuncId} {args outs : List AV} {al : Bool} {K : AV → Prop} {res : AV} (h : Does P f args al res outs) (k : K res) : callK P f args al outs K :=
  ⟨fun r => r = res, h.e ⟨rfl, rfl⟩, by rintro r rfl; exact k⟩
theorem callE_i {P : Program} {f : FuncId} {args outs : List AV} {al : Bool} {K : AV → Prop} {R : AV → List AV → Prop} {S : AV → Prop} (h : DoesE P f args al R) (hR : ∀ r o, R r o → S r ∧ o = outs) (k : ∀ r, S r → K r) : callK P f args al outs K :=
  ⟨S, ⟨h.1, fun w Fz xs os h1 h2 h3 h4 => (h.2 w Fz xs os h1 h2 h3 h4).mono (by rintro e w' ⟨res, outs, hr, hh⟩; exact ⟨res, outs, hR _ _ hr, hh⟩)⟩, k⟩
theorem callK2_i {P : Program} {f : FuncId} {args : List AV} {al : Bool} {O : AV → List AV} {S : AV → AV → Prop} {av res out : AV} (h : Does P f args al res (O out)) (ho : isOwner out = true) (hs : shapeOf out = shapeOf av) (k : S out res) : callK2 P f args al O av S :=
  ⟨fun r o => r = res ∧ o = out, h.e ⟨out, ⟨rfl, rfl⟩, rfl⟩, by rintro r o ⟨rfl, rfl⟩; exact ⟨ho, hs, k⟩⟩
theorem callD_i {D : Value → Prop} {K : AV → Prop} {val : Value} (h : D val) (hs : scal val = true) (k : K (.v val)) : callD D K := ⟨val, hs, h, k⟩
def callX (P : Program) (c : Option (FuncId × List AV)) (al : Bool) (as : List Arg) (gs : List AV) (st1 : St) (io : List (Option (Nat × List (Nat × Nat) × AV))) (d : Option Nat) (k : K) : Prop :=
  match c with
  | some (f, caps) => (match io with
    | [] => (al = true → lendPlain st1 as = true) ∧ callK P f (argL st1 as gs ++ caps) al (outL .dead as ++ caps.map fun _ => AV.dead) (pK st1 d k)
    | [some (n, p, av)] => lendPlain st1 as = true ∧ caps = [] ∧ callK2 P f (argL st1 as gs) al (fun out => outL out as) av (sK n p st1 d k)
    | _ => False)
  | none => False
def callW (P : Program) (y : Opd) (al : Bool) (as : List Arg) (r : Option (List AV × St)) (d : Option Nat) (k : K) : Prop :=
  match r with
  | some (gs, st1) => callX P (calleeV st1 y) al as gs st1 (ioAll st1 as) d k
  | none => False
theorem callV_W {P : Program} {y : Opd} {al : Bool} {as : List Arg} {st : St} {d : Option Nat} {k : K} : callV P y al as st d k = callW P y al as (giveS st as) d k := by
  unfold callV callW
  cases giveS st as with
  | none => rfl
  | some r =>
    obtain ⟨gs, st1⟩ := r
    simp only [callX]
    cases calleeV st1 y with
    | none => rfl
    | some r =>
      obtain ⟨f, caps⟩ := r
      rfl
theorem dcallV_W {P : Program} {y : Opd} {al : Bool} {as : List Arg} {st : St} {k : AV → Prop} : dcallV P y al as st k = match calleeV st y with
    | some (f, caps) => lendAll as = true ∧ (al = true → lendPlain st as = true) ∧ callD (fun val => Does P f (argL st as (as.map fun _ => .dead) ++ caps) al (.v val) (outL .dead as ++ caps.map fun _ => AV.dead)) k
    | none => False := by
  unfold dcallV callD
  rfl
theorem sK_ap {n : Nat} {p : List (Nat × Nat)} {st : St} {d : Option Nat} {k : K} {out res : AV} : sK n p st d k out res = putS (setS n p out st) d res k := rfl
theorem putS_t {st : St} {d : Nat} {av : AV} {k : K} (h : bare (st d) = true) : putS st (some d) av k = k (upd st d av) := by simp [putS, h]
theorem putS_f {st : St} {d : Nat} {av : AV} {k : K} (h : bare (st d) = false) : putS st (some d) av k = k (upd (dropS d st) d (killV (dropK d) av)) := by simp [putS, h]
def storekW (sz : Nat) (st : St) (r y : AV) (k : K) : Prop :=
  match y with
  | .agg l => storekT sz st (copyR l) r k
  | _ => False
theorem evMv :
    (∀ (P : Program) (y x : Opd) (as : List Arg) (st : St) (d : Option Nat) (k : K), maV P (.callm y x as) st d k = (lendAllM as = true ∧ mvK P (calleeV st y) as (ownO st x) d k)) ∧
    (∀ (P : Program) (f : FuncId) (as : List Arg) (av : AV) (st1 : St) (d : Option Nat) (k : K), mvK P (some (f, [])) as (some (av, st1)) d k = (isOwner av = true ∧ lendPlain st1 as = true ∧ callK P f (av :: argL st1 as (as.map fun _ => .dead)) false (.dead :: outL .dead as) (pK st1 d k))) ∧
    lendAllM [] = true ∧ (∀ (y : Opd) (as : List Arg), lendAllM (.lend y :: as) = lendAllM as) ∧
    (∀ (P : Program) (sz : Nat) (x y : Opd) (st : St) (k : K), maV P (.storek sz x y) st none k = storekW sz st (rd st x) (rd st y) k) ∧
    (∀ (sz : Nat) (st : St) (r : AV) (l : List AV) (k : K), storekW sz st r (.agg l) k = storekT sz st (copyR l) r k) ∧
    copyR [] = some [] ∧ (∀ (x : Value) (l : List AV), copyR (.v x :: l) = (copyR l).map fun d => .v x :: d) ∧ (∀ (n : Nat) (p : List (Nat × Nat)) (i j : Nat) (l : List AV), copyR (.sref n p i j :: l) = (copyR l).map fun d => .dead :: d) ∧
    (∀ (n : Nat) (p : List (Nat × Nat)) (i j : Nat) (l : List AV), copyR (.ref n p i j :: l) = (copyR l).map fun d => .dead :: d) ∧ (∀ (sz : Nat) (m : List (List AV)) (l : List AV), copyR (.fsl sz m :: l) = (copyR l).map fun d => .fsl sz m :: d) ∧
    (∀ (sz : Nat) (st : St) (cs : List AV) (n : Nat) (p : List (Nat × Nat)) (i j : Nat) (k : K), storekT sz st (some cs) (.ref n p i j) k = (cs.length = sz ∧ match getC (st n) p with
      | some (.usl e sz' l) => i < l.length ∧ j + sz ≤ sz' ∧ k (setS n p (.usl e sz' (l.set i (ovw (nth l i) j cs))) st)
      | some (.box e c) => i = 0 ∧ j + sz ≤ c.length ∧ k (setS n p (.box e (ovw c j cs)) st)
      | _ => False)) ∧
    (∀ (P : Program) (y : Opd) (st : St) (d : Option Nat) (k : K), maV P (.asgf y) st d k = asgfK (ownO st y) d k) ∧
    (∀ (av : AV) (st1 : St) (d : Option Nat) (k : K), asgfK (some (av, st1)) d k = putS st1 d (frzA av) k) ∧
    (∀ (e sz : Nat) (l : List (List AV)), frzA (.usl e sz l) = .fsl sz (frzRows l)) ∧
    (∀ (l : List AV), frzA (.agg l) = .agg (frzRow l)) ∧
    (∀ (mx : Bool) (x y : Opd) (st : St) (k : AV → Prop), mqV (.mm mx x y) st k = mmV mx (rd st x) (rd st y) k) ∧
    (∀ (a b : Int) (k : AV → Prop), mmV true (.v (.int .i64 a)) (.v (.int .i64 b)) k = k (.v (.int .i64 (max a b)))) ∧
    (∀ (neq : Bool) (x : Opd) (st : St) (k : AV → Prop), mqV (.isni neq x) st k = isniV neq (rd st x) k) ∧
    (∀ (neq : Bool) (k : AV → Prop), isniV neq (.v .nilIface) k = k (.v (.bool (!neq)))) ∧
    (∀ (a b : Int) (k : AV → Prop), mmV false (.v (.int .i64 a)) (.v (.int .i64 b)) k = k (.v (.int .i64 (min a b)))) := by
  refine ⟨fun _ _ _ _ _ _ _ => rfl, fun _ _ _ _ _ _ _ => rfl, rfl, fun _ _ => rfl, fun P sz x y st k => by simp [maV, storekV, storekW] <;> rfl, fun _ _ _ _ _ => rfl, rfl, fun x l => by simp only [copyR, copyL]; cases copyR l <;> rfl, fun n p i j l => by simp only [copyR, copyL]; cases copyR l <;> rfl, fun n p i j l => by simp only [copyR, copyL]; cases copyR l <;> rfl, fun sz m l => by simp only [copyR, copyL]; cases copyR l <;> rfl, fun _ _ _ _ _ _ _ _ => rfl, fun _ _ _ _ _ => rfl, fun _ _ _ _ => rfl, fun _ _ _ => by simp [frzA, frzL], fun _ => rfl, fun _ _ _ _ _ => rfl, fun a b k => ?_, fun _ _ _ _ => rfl, fun _ _ => rfl, fun a b k => ?_⟩
  · have : max a b = if a < b then b else a := by split <;> omega
    simp only [mmV, this, if_true]
  · have : min a b = if b < a then b else a := by split <;> omega
    simp [mmV, this]
theorem evDel :
    (∀ (P : Program) (e sz bytes : Nat) (x y : Opd) (st : St) (d : Option Nat) (k : K), maV P (.del e sz bytes x y) st d k = delW e sz st (rd st x) (rd st y) d k) ∧
    (∀ (e sz : Nat) (st : St) (n : Nat) (p : List (Nat × Nat)) (off0 k0 n' : Nat) (p' : List (Nat × Nat)) (off len : Nat) (d : Option Nat) (k : K), delW e sz st (.sref n p off0 k0) (.sref n' p' off len) d k = (off0 = 0 ∧ n' = n ∧ p' = p ∧ match getC (st n) p with
      | some (.usl e' sz' l) => e' = e ∧ sz' = sz ∧ k0 ≤ off ∧ off + len = l.length ∧ l ≠ [] ∧ putS (takeS n p st) d (.usl e sz (l.take k0 ++ l.drop off)) k
      | _ => False)) ∧
    (∀ (P : Program) (sz : Nat) (x y : Opd) (st : St) (k : K), maV P (.storep sz x y) st none k = storepW sz st (rd st x) (rd st y) k) ∧
    (∀ (sz : Nat) (st : St) (n : Nat) (p : List (Nat × Nat)) (i j : Nat) (u : Value) (k : K), storepW sz st (.ref n p i j) (.v u) k = (sz = 1 ∧ match getC (st n) p with
      | some (.usl e sz' l) => i < l.length ∧ j < sz' ∧ isVo ((nth l i)[j]?) = true ∧ k (upd st n (setC (st n) p (.usl e sz' (l.set i (ovw (nth l i) j [.v u])))))
      | _ => False)) ∧ (∀ x : Value, isVo (some (.v x)) = true) := ⟨fun _ _ _ _ _ _ _ _ _ => rfl, fun _ _ _ _ _ _ _ _ _ _ _ _ _ => rfl, fun P sz x y st k => by simp [maV], fun _ _ _ _ _ _ _ _ => rfl, fun _ => rfl⟩
theorem evO :
    (∀ (P : Program) (k : K) (st : St), (opsV P [] k st = k st)) ∧
    (∀ (P : Program) (d : Option Nat) (q : MQ) (ms : List MO) (k : K) (st : St), (opsV P (⟨d, none, .q q⟩ :: ms) k st = mqV q st (pK st d (opsV P ms k)))) ∧
    (∀ (P : Program) (d : Option Nat) (x : MA) (ms : List MO) (k : K) (st : St), (opsV P (⟨d, none, .a x⟩ :: ms) k st = maV P x st d (opsV P ms k))) ∧
    (∀ (P : Program) (d : Option Nat) (ms : List MO) (k : K) (st : St) (s : Nat) (w : Bool) (i : MI), (opsV P (⟨d, some (s, w), i⟩ :: ms) k st = gK (st s) w (yK P d i ms k) (nK P d ms k) st)) ∧
    (∀ (P : Program) (d : Option Nat) (ms : List MO) (k : K) (st : St) (i : MI), (yK P d i ms k st = opsV P (⟨d, none, i⟩ :: ms) k st)) ∧
    (∀ (P : Program) (d : Option Nat) (ms : List MO) (k : K) (st : St), (nK P d ms k st = putS st d (.tup []) (opsV P ms k))) ∧
    (∀ (P : Program) (k : K) (st : St), (dopsV P [] k st = k st)) ∧
    (∀ (P : Program) (d : Option Nat) (q : MQ) (ms : List MO) (k : K) (st : St), (dopsV P (⟨d, none, .q q⟩ :: ms) k st = mqV q st (pK st d (dopsV P ms k)))) ∧
    (∀ (P : Program) (d : Option Nat) (x : MA) (ms : List MO) (k : K) (st : St), (dopsV P (⟨d, none, .a x⟩ :: ms) k st = dV P ⟨d, none, .a x⟩ st (pK st d (dopsV P ms k)))) ∧
    (∀ (P : Program) (d : Option Nat) (ms : List MO) (k : K) (st : St) (s : Nat) (w : Bool) (i : MI), (dopsV P (⟨d, some (s, w), i⟩ :: ms) k st = gK (st s) w (yD P d i ms k) (nD P d ms k) st)) ∧
    (∀ (P : Program) (d : Option Nat) (ms : List MO) (k : K) (st : St) (i : MI), (yD P d i ms k st = dopsV P (⟨d, none, i⟩ :: ms) k st)) ∧
    (∀ (P : Program) (d : Option Nat) (ms : List MO) (k : K) (st : St), (nD P d ms k st = putS st d (.tup []) (dopsV P ms k))) ∧
    (∀ (y : K) (n : K) (st : St), (gK (.v (.bool true)) true y n st = y st)) ∧
    (∀ (y : K) (n : K) (st : St), (gK (.v (.bool false)) false y n st = y st)) ∧
    (∀ (y : K) (n : K) (st : St), (gK (.v (.bool true)) false y n st = n st)) ∧
    (∀ (y : K) (n : K) (st : St), (gK (.v (.bool false)) true y n st = n st)) ∧
    (∀ (y : K) (n : K) (st : St) (w : Bool), (gK (.tup []) w y n st = n st)) ∧
    (∀ (d : Option Nat) (k : K) (st : St) (av : AV), (pK st d k av = putS st d av k)) ∧
    (∀ (k : K) (st : St) (av : AV), (putS st none av k = (bare av = true ∧ k st))) := by
  refine ⟨?_, ?_, ?_, ?_, ?_, ?_, ?_, ?_, ?_, ?_, ?_, ?_, ?_, ?_, ?_, ?_, ?_, ?_, ?_⟩
  all_goals intros
  all_goals first | rfl | (simp [opsV, dopsV, gK, gV, yK, nK, yD, nD, oV, dV]; done) | (rename_i i; cases i <;> rfl)
theorem evC :
    (∀ (P : Program) (Q : AE → K) (st : St), (awp P .skip Q st = Q .nrm st)) ∧
    (∀ (P : Program) (Q : AE → K) (st : St) (ms : List MO), (awp P (.reg ms) Q st = opsV P ms (Q .nrm) st)) ∧
    (∀ (P : Program) (Q : AE → K) (st : St) (ms : List MO), (awp P (.dreg ms) Q st = dopsV P ms (Q .nrm) st)) ∧
    (∀ (P : Program) (Q : AE → K) (st : St) (x : MC) (y : MC), (awp P (.seq x y) Q st = awp P x (thn (awp P y Q) Q) st)) ∧
    (∀ (P : Program) (Q : AE → K) (st : St) (x : MC) (y : MC) (c : Opd), (awp P (.cond c x y) Q st = cK (rd st c) (awp P x Q) (awp P y Q) st)) ∧
    (∀ (P : Program) (Q : AE → K) (st : St) (x : MC) (id : Nat), (awp P (.block id x) Q st = awp P x (inB id Q) st)) ∧
    (∀ (P : Program) (Q : AE → K) (st : St) (id : Nat), (awp P (.exit id) Q st = Q (.ex id) st)) ∧
    (∀ (P : Program) (Q : AE → K) (st : St), (awp P .ret Q st = Q .ret st)) ∧
    (∀ (P : Program) (Q : AE → K) (st : St) (x : MC) (l : List Nat), (awp P (.keep l x) Q st = awp P x Q (keepS l st))) ∧
    (∀ (Q : AE → K) (n : K) (st : St), (thn n Q .nrm st = n st)) ∧
    (∀ (Q : AE → K) (n : K) (st : St), (thn n Q .ret st = Q .ret st)) ∧
    (∀ (Q : AE → K) (n : K) (st : St) (id : Nat), (thn n Q (.ex id) st = Q (.ex id) st)) ∧
    (∀ (Q : AE → K) (st : St) (id : Nat), (inB id Q .nrm st = Q .nrm st)) ∧
    (∀ (Q : AE → K) (st : St) (id : Nat), (inB id Q .ret st = Q .ret st)) ∧
    (∀ (Q : AE → K) (st : St) (id : Nat) (id' : Nat), (inB id Q (.ex id') st = if id' = id then Q .nrm st else Q (.ex id') st)) ∧
    (∀ (st : St) (k1 : K) (k2 : K), (cK (.v (.bool true)) k1 k2 st = k1 st)) ∧
    (∀ (st : St) (k1 : K) (k2 : K), (cK (.v (.bool false)) k1 k2 st = k2 st)) := by
  refine ⟨?_, ?_, ?_, ?_, ?_, ?_, ?_, ?_, ?_, ?_, ?_, ?_, ?_, ?_, ?_, ?_, ?_⟩ <;> intros <;> first | rfl | simp [cK, condV]
theorem evB :
    (∀ (kd : IntKind) (a : Int) (b : Int) (K : AV → Prop), (binV .add (.v (.int kd a)) (.v (.int kd b)) K = K (.v (.int kd (kd.wrap (a + b)))))) ∧
    (∀ (kd : IntKind) (a : Int) (b : Int) (K : AV → Prop), (binV .sub (.v (.int kd a)) (.v (.int kd b)) K = K (.v (.int kd (kd.wrap (a - b)))))) ∧
    (∀ (kd : IntKind) (a : Int) (b : Int) (K : AV → Prop), (binV .mul (.v (.int kd a)) (.v (.int kd b)) K = K (.v (.int kd (kd.wrap (a * b)))))) ∧
    (∀ (kd : IntKind) (a : Int) (b : Int) (K : AV → Prop), (binV .quo (.v (.int kd a)) (.v (.int kd b)) K = (b ≠ 0 ∧ K (.v (.int kd (kd.wrap (a.tdiv b))))))) ∧
    (∀ (kd : IntKind) (a : Int) (b : Int) (K : AV → Prop), (binV .rem (.v (.int kd a)) (.v (.int kd b)) K = (b ≠ 0 ∧ K (.v (.int kd (a.tmod b)))))) ∧
    (∀ (kd : IntKind) (a : Int) (b : Int) (K : AV → Prop), (binV .eql (.v (.int kd a)) (.v (.int kd b)) K = K (.v (.bool (a == b))))) ∧
    (∀ (kd : IntKind) (a : Int) (b : Int) (K : AV → Prop), (binV .neq (.v (.int kd a)) (.v (.int kd b)) K = K (.v (.bool (a != b))))) ∧
    (∀ (kd : IntKind) (a : Int) (b : Int) (K : AV → Prop), (binV .lss (.v (.int kd a)) (.v (.int kd b)) K = K (.v (.bool (decide (a < b)))))) ∧
    (∀ (kd : IntKind) (a : Int) (b : Int) (K : AV → Prop), (binV .leq (.v (.int kd a)) (.v (.int kd b)) K = K (.v (.bool (decide (a ≤ b)))))) ∧
    (∀ (kd : IntKind) (a : Int) (b : Int) (K : AV → Prop), (binV .gtr (.v (.int kd a)) (.v (.int kd b)) K = K (.v (.bool (decide (b < a)))))) ∧
    (∀ (kd : IntKind) (a : Int) (b : Int) (K : AV → Prop), (binV .geq (.v (.int kd a)) (.v (.int kd b)) K = K (.v (.bool (decide (b ≤ a)))))) ∧
    (∀ (K : AV → Prop) (s : ByteArray) (u : ByteArray), (binV .eql (.v (.string s)) (.v (.string u)) K = K (.v (.bool (s.toList == u.toList))))) ∧
    (∀ (K : AV → Prop) (s : ByteArray) (u : ByteArray), (binV .neq (.v (.string s)) (.v (.string u)) K = K (.v (.bool (!(s.toList == u.toList)))))) ∧
    (∀ (K : AV → Prop) (s : ByteArray) (u : ByteArray), (binV .lss (.v (.string s)) (.v (.string u)) K = K (.v (.bool (Op.bytesLess s.toList u.toList))))) ∧
    (∀ (K : AV → Prop) (s : ByteArray) (u : ByteArray), (binV .leq (.v (.string s)) (.v (.string u)) K = K (.v (.bool (Op.bytesLess s.toList u.toList || s.toList == u.toList))))) ∧
    (∀ (K : AV → Prop) (s : ByteArray) (u : ByteArray), (binV .gtr (.v (.string s)) (.v (.string u)) K = K (.v (.bool (!(Op.bytesLess s.toList u.toList || s.toList == u.toList)))))) ∧
    (∀ (K : AV → Prop) (s : ByteArray) (u : ByteArray), (binV .geq (.v (.string s)) (.v (.string u)) K = K (.v (.bool (!(Op.bytesLess s.toList u.toList)))))) ∧
    (∀ (K : AV → Prop) (s : ByteArray) (u : ByteArray), (binV .add (.v (.string s)) (.v (.string u)) K = (((s.size + u.size : Nat) : Int) ≤ 9223372036854775807 ∧ K (.v (.string (s ++ u)))))) ∧
    (∀ (K : AV → Prop) (p : Bool) (q : Bool), (binV .eql (.v (.bool p)) (.v (.bool q)) K = K (.v (.bool (p == q))))) ∧
    (∀ (K : AV → Prop) (p : Bool) (q : Bool), (binV .neq (.v (.bool p)) (.v (.bool q)) K = K (.v (.bool (!(p == q)))))) ∧
    (∀ (K : AV → Prop) (y : AV) (z : AV), (pickA (.v (.bool true)) y z K = K y)) ∧
    (∀ (K : AV → Prop) (y : AV) (z : AV), (pickA (.v (.bool false)) y z K = K z)) ∧
    (∀ (K : AV → Prop) (p : Bool), (unV .not (.v (.bool p)) K = K (.v (.bool !p)))) ∧
    (∀ (kd : IntKind) (a : Int) (K : AV → Prop), (unV .neg (.v (.int kd a)) K = K (.v (.int kd (kd.wrap (0 - a)))))) ∧
    (∀ (K : AV → Prop) (s : ByteArray), (lenV (.v (.string s)) K = K (.v (.int .i64 s.size)))) ∧
    (∀ (kd : IntKind) (a : Int) (K : AV → Prop) (s : ByteArray), (idxV (.v (.string s)) (.v (.int kd a)) K = (0 ≤ a ∧ a < s.size ∧ K (.v (.int .u8 (sAt s a)))))) := by
  refine ⟨?_, ?_, ?_, ?_, ?_, ?_, ?_, ?_, ?_, ?_, ?_, ?_, ?_, ?_, ?_, ?_, ?_, ?_, ?_, ?_, ?_, ?_, ?_, ?_, ?_, ?_⟩
  all_goals intros
  all_goals simp [binV, binC, binR, pickA, unV, lenV, idxV]
theorem evS :
    (∀ (st : St) (d : Nat) (av : AV) (k : Nat), (upd st d av k = if k = d then av else st k)) ∧
    (∀ (k : Nat), (stl [] k = .dead)) ∧
    (∀ (n : Nat) (av : AV) (l : List (Nat × AV)) (k : Nat), (stl ((n, av) :: l) k = if k = n then av else stl l k)) ∧
    (∀ (st : St) (d : Nat) (k : Nat), (dropS d st k = killV (dropK d) (if k = d then .dead else st k))) ∧
    (∀ (st : St) (n : Nat) (av : AV) (p : List (Nat × Nat)) (k : Nat), (setS n p av st k = killV (keepK n p) (if k = n then setC (st n) p av else st k))) ∧
    (∀ (st : St) (n : Nat) (p : List (Nat × Nat)) (k : Nat), (takeS n p st k = killV (takeK n p) (if k = n then setC (st n) p .dead else st k))) ∧
    (∀ (d : Nat) (n : Nat) (p : List (Nat × Nat)), (dropK d n p = (n == d))) ∧
    (∀ (n : Nat), (zipA n [] = [])) ∧
    (∀ (st : St), (keepS [] st = stl [])) := by
  refine ⟨?_, ?_, ?_, ?_, ?_, ?_, ?_, ?_, ?_⟩
  all_goals intros
  all_goals first | rfl | (unfold setS upd; rfl) | (unfold takeS upd; rfl)
theorem zipA_cons (n : Nat) (av : AV) (l : List AV) : zipA n (av :: l) = (n, av) :: zipA (n + 1) l := rfl
theorem evRE :
    (∀ (n : Nat) (rs fx : List Nat) (al : Bool) (R : AV → List AV → Prop) (st : St), retE n rs fx al R .ret st = (R (killV allK (resA st rs)) (outsA fx st 0 n) ∧ (al = true ∨ nfz (killV allK (resA st rs)) = true))) ∧
    (∀ (n : Nat) (rs fx : List Nat) (al : Bool) (R : AV → List AV → Prop) (st : St), retE n rs fx al R .nrm st = (R (killV allK (resA st rs)) (outsA fx st 0 n) ∧ (al = true ∨ nfz (killV allK (resA st rs)) = true))) := ⟨fun _ _ _ _ _ _ => rfl, fun _ _ _ _ _ _ => rfl⟩
theorem evR :
    (∀ (n : Nat) (rs fx : List Nat) (al : Bool) (res : AV) (outs : List AV) (st : St), retV n rs fx al res outs .ret st = (killV allK (resA st rs) = res ∧ (al = true ∨ nfz res = true) ∧ outsA fx st 0 n = outs)) ∧
    (∀ (n : Nat) (rs fx : List Nat) (al : Bool) (res : AV) (outs : List AV) (st : St), retV n rs fx al res outs .nrm st = (killV allK (resA st rs) = res ∧ (al = true ∨ nfz res = true) ∧ outsA fx st 0 n = outs)) ∧
    (∀ (st : St) (t : Nat), resA st [t] = st t) ∧ (∀ (st : St), resA st [] = .tup []) ∧ (∀ (st : St) (t u : Nat) (ts : List Nat), resA st (t :: u :: ts) = .tup (st t :: st u :: ts.map st)) ∧
    (∀ (fx : List Nat) (st : St) (k : Nat), outsA fx st k 0 = []) ∧
    (∀ (fx : List Nat) (st : St) (k n : Nat), outsA fx st k (n + 1) = (if fx.contains k then killV allK (st k) else .dead) :: outsA fx st (k + 1) n) ∧
    (∀ (n : Nat) (p : List (Nat × Nat)), allK n p = true) := ⟨fun _ _ _ _ _ _ _ => rfl, fun _ _ _ _ _ _ _ => rfl, fun _ _ => rfl, fun _ => rfl, fun _ _ _ _ => rfl, fun _ _ _ => rfl, fun _ _ _ _ => rfl, fun _ _ => rfl⟩
theorem awp_loop {P : Program} {l : List Nat} {x : MC} {Q : AE → K} {st : St} {α : Type} (A : α → Prop) (I : α → St) (μ : α → Nat) (a : α) (h0 : A a) (e0 : keepS l st = I a)
    (h : ∀ a, A a → awp P x (thn (fun s => ∃ b, A b ∧ μ b < μ a ∧ keepS l s = I b) Q) (I a)) : awp P (.loop l x) Q st := by
  refine ⟨fun n s => ∃ a, A a ∧ μ a = n ∧ s = I a, ⟨μ a, a, h0, rfl, e0⟩, ?_⟩
  rintro n s ⟨a, ha, rfl, rfl⟩
  have e : (fun s => ∃ b, A b ∧ μ b < μ a ∧ keepS l s = I b) = (fun s => ∃ m, m < μ a ∧ ∃ b, A b ∧ μ b = m ∧ keepS l s = I b) := by
    funext s
    apply propext
    constructor
    · rintro ⟨b, h1, h2, h3⟩; exact ⟨_, h2, b, h1, rfl, h3⟩
    · rintro ⟨m, h2, b, h1, rfl, h3⟩; exact ⟨b, h1, h2, h3⟩
  have := h a ha
  rw [e] at this
  exact this
theorem awp_frz_no {P : Program} {k : Nat} {x : MC} {Q : AE → K} {st : St} (h : awp P x Q st) : awp P (.frz k x) Q st := .inl h
theorem awp_frz {P : Program} {k : Nat} {x : MC} {Q : AE → K} {st : St} (h1 : isOwner (st k) = true) (h2 : awp P x Q (frzS k st)) : awp P (.frz k x) Q st := .inr ⟨h1, h2⟩
theorem awp_join {P : Program} {l : List Nat} {x y : MC} {Q : AE → K} {st : St} {α : Type} (A : α → Prop) (J : α → St) (h1 : awp P x (thn (fun s => ∃ a, A a ∧ keepS l s = J a) Q) st) (h2 : ∀ a, A a → awp P y Q (J a)) : awp P (.join l x y) Q st :=
  ⟨fun s => ∃ a, A a ∧ s = J a, h1, by rintro s ⟨a, ha, rfl⟩; exact h2 a ha⟩
theorem nth_map {α : Type} {g : α → List AV} {l : List α} {i : Nat} (h : i < l.length) : nth (l.map g) i = g l[i] := by simp [nth, h]
theorem w64 (n : Int) (h : -9223372036854775808 ≤ n ∧ n ≤ 9223372036854775807) : IntKind.i64.wrap n = n := by rw [IntKind.wrap_i64]; omega
theorem nth_set {l : List (List AV)} {i : Nat} {a : List AV} (h : i < l.length) : nth (l.set i a) i = a := by simp [nth, h]
theorem modify_set {l : List (List AV)} {i : Nat} {a : List AV} {f : List AV → List AV} : (l.set i a).modify i f = l.set i (f a) := by
  apply List.ext_getElem?
  intro j
  rw [List.getElem?_modify]
  by_cases h : i = j
  · subst h
    by_cases h2 : i < l.length
    · simp [h2]
    · simp [h2]
  · simp [h, List.getElem?_set_ne h]
theorem nth_mid {α : Type} {g : α → List AV} {pre post : List α} {t : α} : nth ((pre ++ t :: post).map g) pre.length = g t := by simp [nth]
theorem set_mid {α : Type} {g : α → List AV} {pre post : List α} {t : α} (u : α) : ((pre ++ t :: post).map g).set pre.length (g u) = ((pre ++ [u]) ++ post).map g := by simp
theorem take_map_len {α : Type} {g : α → List AV} {l : List α} : (l.map g).take l.length = l.map g := by
  rw [← List.length_map (f := g), List.take_length]
theorem gK_cut {b : Bool} {w : Bool} {y n : K} {st : St} (h1 : b = true → gK (.v (.bool true)) w y n st) (h2 : b = false → gK (.v (.bool false)) w y n st) : gK (.v (.bool b)) w y n st := by
  cases b <;> simp_all
theorem cK_cut {b : Bool} {y n : K} {st : St} (h1 : b = true → cK (.v (.bool true)) y n st) (h2 : b = false → cK (.v (.bool false)) y n st) : cK (.v (.bool b)) y n st := by
  cases b <;> simp_all
end Go.AM
