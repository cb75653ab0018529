/- Own framework: a verified machine over abstract values, part 4. No conditions. -/
import Derived.Test.YtipglfigjpiolaaGreatDoorF3
import Derived.ChangeArms
import Derived.DataReads
import Derived.ChangeReads
import Derived.ChangeOld
import Derived.Below
namespace Go.AM
set_option linter.unusedVariables false
set_option linter.unusedSimpArgs false
def fK (P : Program) (ms : List MO) (k : St → K) (d : Nat) (sF sW : St) (av : AV) : Prop := putS sW (some d) (killV allK av) (fV P ms k (upd sF d av))
def fG (x : AV) (w : Bool) (yes no : Prop) : Prop :=
  match x with
  | .v (.bool b) => if b = w then yes else no
  | .tup [] => no
  | _ => False
def tK (P : Program) (cs : List MO) (RL : List Nat) (st : St) (k : K) (_ : St) (sW : St) : Prop := opsV P cs (fun s3 => k (backS RL st s3)) sW
theorem keepL_eq (l : List Nat) (st : St) : keepL l st = keepS l st := by
  funext k
  simp only [keepL, keepS, stl_map]
theorem evM :
    (∀ (P : Program) (Q : AE → K) (st : St) (FL WL RL B fi ci : List Nat) (fs cs : List MO), awp P (.mix FL WL RL B fi ci fs cs) Q st = ((B.all fun n => bare (st n)) = true ∧ fV P fs (tK P cs RL st (Q .nrm)) (keepS FL st) (keepS WL st))) ∧
    (∀ (P : Program) (k : St → K) (sF sW : St), fV P [] k sF sW = k sF sW) ∧
    (∀ (P : Program) (d : Nat) (q : MQ) (ms : List MO) (k : St → K) (sF sW : St), fV P (⟨some d, none, .q q⟩ :: ms) k sF sW = (bare (sF d) = true ∧ mqV q sF (fK P ms k d sF sW))) ∧
    (∀ (P : Program) (d : Nat) (s : Nat) (w : Bool) (q : MQ) (ms : List MO) (k : St → K) (sF sW : St), fV P (⟨some d, some (s, w), .q q⟩ :: ms) k sF sW = (bare (sF d) = true ∧ fG (sF s) w (mqV q sF (fK P ms k d sF sW)) (putS sW (some d) (.tup []) (fV P ms k (upd sF d (.tup [])))))) ∧
    (∀ (P : Program) (ms : List MO) (k : St → K) (d : Nat) (sF sW : St) (av : AV), fK P ms k d sF sW av = putS sW (some d) (killV allK av) (fV P ms k (upd sF d av))) ∧
    (∀ (P : Program) (cs : List MO) (RL : List Nat) (st : St) (k : K) (sF sW : St), tK P cs RL st k sF sW = opsV P cs (fun s3 => k (backS RL st s3)) sW) ∧
    (∀ (y n : Prop), fG (.v (.bool true)) true y n = y) ∧ (∀ (y n : Prop), fG (.v (.bool false)) false y n = y) ∧ (∀ (y n : Prop), fG (.v (.bool true)) false y n = n) ∧ (∀ (y n : Prop), fG (.v (.bool false)) true y n = n) ∧ (∀ (w : Bool) (y n : Prop), fG (.tup []) w y n = n) ∧
    (∀ (RL : List Nat) (st st' : St) (k : Nat), backS RL st st' k = if RL.contains k then killV (fun n _ => !RL.contains n) (st k) else killV (fun n _ => RL.contains n) (st' k)) ∧
    (∀ (n : Nat) (p : List (Nat × Nat)), allK n p = true) := by
  refine ⟨?_, ?_, ?_, ?_, ?_, ?_, ?_, ?_, ?_, ?_, ?_, ?_, ?_⟩
  · intro P Q st FL WL RL B fi ci fs cs
    simp only [awp, mixV, keepL_eq]
    rfl
  all_goals intros
  all_goals first | rfl | (simp [fG]; done) | (simp [fV, gV, fG, fK]; done) | (simp [backS]; done)
def ttK (P : Program) (t : TT) (RL : List Nat) (st : St) (k : K) (_ : St) (sW : St) : Prop := ttV P (fun s3 => k (backS RL st s3)) t sW
def ttY (P : Program) (k : K) (d : Option Nat) (i : MI) (t : TT) : K := fun st => ttV P k (.step 0 ⟨d, none, i⟩ t) st
def ttN (P : Program) (k : K) (d : Option Nat) (t : TT) : K := fun st => putS st d (.tup []) (ttV P k t)
theorem evT :
    (∀ (P : Program) (Q : AE → K) (st : St) (FL WL RL B fi : List Nat) (fs : List MO) (t : TT), awp P (.mixt FL WL RL B fi fs t) Q st = ((B.all fun n => bare (st n)) = true ∧ fV P fs (ttK P t RL st (Q .nrm)) (keepS FL st) (keepS WL st))) ∧
    (∀ (P : Program) (t : TT) (RL : List Nat) (st : St) (k : K) (sF sW : St), ttK P t RL st k sF sW = ttV P (fun s3 => k (backS RL st s3)) t sW) ∧
    (∀ (P : Program) (k : K) (st : St), ttV P k .nil st = k st) ∧
    (∀ (P : Program) (k : K) (st : St) (x y : TT), ttV P k (.alt x y) st = (ttV P k x st ∧ ttV P k y st)) ∧
    (∀ (P : Program) (k : K) (st : St) (n : Nat) (d : Option Nat) (q : MQ) (t : TT), ttV P k (.step n ⟨d, none, .q q⟩ t) st = mqV q st (pK st d (ttV P k t))) ∧
    (∀ (P : Program) (k : K) (st : St) (n : Nat) (d : Option Nat) (x : MA) (t : TT), ttV P k (.step n ⟨d, none, .a x⟩ t) st = maV P x st d (ttV P k t)) ∧
    (∀ (P : Program) (k : K) (st : St) (n : Nat) (d : Option Nat) (s : Nat) (w : Bool) (i : MI) (t : TT), ttV P k (.step n ⟨d, some (s, w), i⟩ t) st = gK (st s) w (ttY P k d i t) (ttN P k d t) st) ∧
    (∀ (P : Program) (k : K) (st : St) (d : Option Nat) (i : MI) (t : TT), ttY P k d i t st = ttV P k (.step 0 ⟨d, none, i⟩ t) st) ∧
    (∀ (P : Program) (k : K) (st : St) (d : Option Nat) (t : TT), ttN P k d t st = putS st d (.tup []) (ttV P k t)) := by
  refine ⟨?_, ?_, ?_, ?_, ?_, ?_, ?_, ?_, ?_⟩
  · intro P Q st FL WL RL B fi fs t
    simp only [awp, mixtV, keepL_eq]
    rfl
  all_goals intros
  all_goals first | rfl | (rename_i i t; cases i <;> rfl)
end Go.AM
namespace Go.AM
set_option linter.unusedVariables false
set_option linter.unusedSimpArgs false
def isCell (r : Nat) (ty : TypeId) : List ResultVar → Bool
  | [.cell a t] => a == r && t == ty
  | _ => false
def cellV' (av : AV) (agg : Bool) (sz : Nat) (k : AV → Prop) : Prop :=
  match av with
  | .box _ cs => if agg then cs.length = sz ∧ k (.agg cs) else cs.length = 1 ∧ k (cs.getD 0 .dead)
  | _ => False
def retVC (n : Nat) (r : Nat) (agg : Bool) (sz : Nat) (fx : List Nat) (al : Bool) (res : AV) (outs : List AV) : AE → K
  | .ex _, _ => False
  | .pan _, _ => False
  | _, st => cellV' (st r) agg sz fun x => killV allK x = res ∧ (al = true ∨ nfz res = true) ∧ outsA fx st 0 n = outs
def fnCC (P : Program) (f : FuncId) (n N : Nat) (r : Nat) (ty : TypeId) (agg : Bool) (sz : Nat) (fx : List Nat) (mc : MC) : Bool :=
  match P.funcs[f]? with
  | some fn => !(fn.name == "runtime.NumGoroutine") && fn.ntmps == N && decide (n ≤ N) && isCell r ty fn.results.toList && loadOk P ty agg sz && !fx.contains r && decide (fx.Nodup) && decide (r < N) && (fx.all fun t => t < n) &&
    (match fn.body with | some c => mC P N fx mc c | none => false)
  | none => false
section
variable {P : Program} {w : World} {Fz : Nat → Prop} {L : Locs}
theorem cellV'_rep {av : AV} {y : Value} {own : List Nat} {ty : TypeId} {agg : Bool} {sz : Nat} {k : AV → Prop} (hok : loadOk P ty agg sz = true) (hr : RepV w Fz L av y own) (hnd : own.Nodup) (h : cellV' av agg sz k) :
    ∃ x av' ox, (do loadVar ty (← asAddr y)).run P w = .ok x w ∧ RepV w Fz L av' x ox ∧ (∀ b ∈ ox, b ∈ own) ∧ ox.Nodup ∧ k av' := by
  unfold cellV' at h
  split at h
  rotate_left
  · exact h.elim
  rename_i e cs
  simp only [RepV, RepC] at hr
  obtain ⟨g, xs, o', rfl, rfl, hg, hrow⟩ := hr
  simp only [loadOk, aggB, Bool.and_eq_true, Bool.or_eq_true, beq_iff_eq, Option.map_eq_some_iff] at hok
  obtain ⟨⟨d, hu, hd⟩, hsz⟩ := hok
  have hat : At w g 0 xs := by
    intro j u hj
    rw [cell_of_cells hg]
    simpa using hj
  have hn : o'.Nodup := (List.nodup_cons.1 hnd).2
  have hsub : ∀ b ∈ o', b ∈ g :: o' := by simp +contextual
  cases agg with
  | true =>
    simp only [if_true] at h
    have hl : xs.length = sz := by rw [hrow.length]; exact h.1
    refine ⟨.agg xs.toArray, .agg cs, o', ?_, ?_, hsub, hn, h.2⟩
    · simp only [asAddr, Sem.run_bind, Sem.run_pure, Result.andThen_ok]
      exact run_loadVar_agg hu hd (by simpa using hsz) hl hat
    · simp only [RepV]; exact ⟨xs, rfl, hrow.toVs⟩
  | false =>
    simp only [Bool.false_eq_true, if_false] at h
    obtain ⟨h1, h2⟩ := h
    match cs, h1 with
    | [c0], _ =>
      simp only [RepRow] at hrow
      obtain ⟨x0, xs', o1, o2, rfl, rfl, hc0, rfl, rfl⟩ := hrow
      refine ⟨x0, c0, o1, ?_, hc0.toV, by simpa using hsub, by simpa using hn, by simpa using h2⟩
      simp only [asAddr, Sem.run_bind, Sem.run_pure, Result.andThen_ok]
      exact run_loadVar_one hu hd (by have := hat 0 x0 (by simp); simpa using this)
theorem results_cellV {fn : Func} {r : Nat} {ty : TypeId} {tmps : Array Value} {x : Value} (h : isCell r ty fn.results.toList = true) (hx : (do loadVar ty (← asAddr (tmps.getD r undef))).run P w = .ok x w) :
    (results fn tmps).run P w = .ok x w := by
  have e : fn.results = #[.cell r ty] := by
    unfold isCell at h
    split at h
    · rename_i a t hl
      simp only [Bool.and_eq_true, beq_iff_eq] at h
      obtain ⟨rfl, rfl⟩ := h
      rw [← Array.toArray_toList (xs := fn.results), hl]
    · cases h
  simp only [results, e]
  simp only [Sem.run_bind] at hx ⊢
  have e2 : tmps.getD r undef = tmps[r]?.getD undef := by simp
  rw [e2] at hx
  simp only [Result.andThen] at hx
  simp [Sem.run_bind, Result.andThen]
  cases h1 : Sem.run P (asAddr (tmps[r]?.getD undef)) w with
  | halt _ _ => rw [h1] at hx; simp at hx
  | ok a w1 =>
    rw [h1] at hx
    simp only at hx ⊢
    rw [hx]
    simp
theorem does_introC {f : FuncId} {mc : MC} {N : Nat} {fx : List Nat} {r : Nat} {ty : TypeId} {agg : Bool} {sz : Nat} {args outs : List AV} {al : Bool} {res : AV} (n : Nat) (hn0 : args.length = n) (hchk : fnCC P f n N r ty agg sz fx mc = true)
    (h : awp P mc (retVC n r agg sz fx al res outs) (stl (zipA 0 args))) : Does P f args al res outs := by
  subst hn0
  unfold fnCC at hchk
  split at hchk
  rotate_left
  · cases hchk
  rename_i fn hfn
  simp only [Bool.and_eq_true, beq_iff_eq, decide_eq_true_eq, Bool.not_eq_true', List.all_eq_true] at hchk
  obtain ⟨⟨⟨⟨⟨⟨⟨⟨⟨hname, hN⟩, hnN⟩, hres⟩, hok⟩, hnfx⟩, hnd⟩, hrN⟩, hfn2⟩, hbody⟩ := hchk
  split at hbody
  rotate_left
  · cases hbody
  rename_i code hcode
  refine ⟨by simp [fnOk, hfn, hname, hcode], ?_⟩
  intro w Fz xs os hrep hos hfz hlt
  obtain ⟨own, hown, hown0, hond, hodj, hom, hlen⟩ := args_own hrep hos
  let c : Ctx := { w0 := w, Fz := Fz, own0 := os, fx := fun e => if fx.contains e then some (xs.getD e undef) else none }
  haveI : GOk c P := ⟨hlt.gl, fun b hb hf => (hfz b hb).1 hf, hlt.lt⟩
  have hcfx : ∀ e, c.fx e ≠ none → e ∈ fx := by
    intro e he
    by_cases h : fx.contains e = true
    · simpa using h
    · simp only [c] at he; rw [if_neg h] at he; exact absurd rfl he
  let a0 : Act := { tmps := xs.toArray ++ Array.replicate (fn.ntmps - xs.toArray.size) undef, defers := [] }
  have htm : ∀ k, tmOf a0 k = xs.getD k undef := by
    intro k
    simp only [tmOf, a0, Array.getD_eq_getD_getElem?, List.getD_eq_getElem?_getD]
    by_cases hk : k < xs.length
    · rw [Array.getElem?_append_left (by simpa using hk)]; simp
    · rw [Array.getElem?_append_right (by simp; omega), List.getElem?_eq_none (by omega)]
      simp only [List.size_toArray]
      by_cases h2 : k - xs.length < fn.ntmps - xs.length
      · simp [h2]
      · rw [Array.getElem?_eq_none (by simp; omega)]
  have S : Sim c N (stl (zipA 0 args)) a0 w := by
    refine ⟨rfl, ⟨by simp only [a0, Array.size_append, List.size_toArray, Array.size_replicate]; omega, ?_⟩, own, ?_⟩
    · intro k v hk
      simp only [c] at hk
      split at hk
      · simp only [Option.some.injEq] at hk; rw [htm, hk]
      · cases hk
    · have hX : ∀ b, owned own [] b ↔ b ∈ os := fun b => by
        rw [hom b]
        constructor
        · rintro (h | h)
          · exact h
          · simp at h
        · exact fun h => .inl h
      refine ⟨Ext.refl _ _, ?_, hond, hodj, by simp, by simp, ?_⟩
      · intro k
        rw [htm, stl_zipA]
        simp only [Nat.zero_le, if_true, Nat.sub_zero]
        cases hk : args[k]? with
        | none =>
          have : args.length ≤ k := by simpa using hk
          simp [RepV, hown0 k this]
        | some av =>
          obtain ⟨x, hx, hr⟩ := hown k av hk
          simp only [Option.getD_some, List.getD_eq_getElem?_getD, hx]
          have := hr.keep (K := fun _ _ => false) (L' := locs (stl (zipA 0 args)) (tmOf a0) w) (fun _ _ _ _ h => by simp [noL] at h) _ _ _ (w' := w) (Fz' := frz c w (owned own []))
            ⟨fun b hb => ⟨⟨hlt b hb, .inr (.inl hb), fun ho => (hfz b ((hX b).1 ho)).1 hb⟩, rfl⟩, fun _ _ => rfl⟩
          rwa [killV_none] at this
      · intro b hb
        have := (hX b).1 hb
        exact ⟨.inl this, (hfz b this).2⟩
  refine calls_of_wp hfn hcode ?_
  refine c_sound (c := c) hcfx mc code hbody (stl (zipA 0 args)) a0 w ?_ S h
  have fin : ∀ (st : St) (a : Act) (w' : World), Sim c N st a w' → (cellV' (st r) agg sz fun x => killV allK x = res ∧ (al = true ∨ nfz res = true) ∧ outsA fx st 0 args.length = outs) →
      a.defers = [] ∧ ∃ v, (results fn a.tmps).run P w' = .ok v w' ∧ ∃ x ox oo, Ending.returned v = .returned x ∧ Ext w w' os ∧ RepV w' (fzP Fz w w' os (ox ++ oo) al) noL res x ox ∧ RepVs w' (fzP Fz w w' os (ox ++ oo) true) noL outs xs oo ∧
        (ox ++ oo).Nodup ∧ ∀ b ∈ ox ++ oo, (b ∈ os ∨ w.heap.size ≤ b) ∧ b < w'.heap.size := by
    rintro st a w' ⟨hd, hs, own', C⟩ hcell
    have hrr := C.rep r
    obtain ⟨x, av, ox, hrun, hrep, hmem, hnox, h1, h2, h3⟩ := cellV'_rep (own := own' r) hok hrr (C.nd r) hcell
    have hsub : ∀ b ∈ ox ++ ((List.range' 0 xs.length).filter fx.contains).flatMap own', owned own' [] b := by
      intro b hb
      rcases List.mem_append.1 hb with hb | hb
      · exact .inl ⟨r, hmem b hb⟩
      · obtain ⟨k, _, hk⟩ := List.mem_flatMap.1 hb; exact .inl ⟨k, hk⟩
    refine ⟨hd, _, results_cellV hres hrun, x, ox, ((List.range' 0 xs.length).filter fx.contains).flatMap own', rfl, C.fr, ?_, ?_, ?_, ?_⟩
    · have hr2 := hrep.keep (K := allK) (L' := noL) (fun _ _ _ h => by simp [allK] at h) _ _ _ (w' := w') (Fz' := fzP Fz w w' os (ox ++ ((List.range' 0 xs.length).filter fx.contains).flatMap own') true) (by
        refine ⟨fun b hb => ⟨⟨?_, hb.1, ?_⟩, rfl⟩, fun _ _ => rfl⟩
        · rcases hb.2.1 with h | h | h
          · exact .inr h
          · exact .inl ⟨rfl, .inl h⟩
          · exact .inl ⟨rfl, .inr h⟩
        · intro hm
          exact hb.2.2 (hsub b hm))
      rw [h1] at hr2
      rcases h2 with h2 | h2
      · rw [h2]; exact hr2
      · exact nfzV res hr2 h2
    · rw [← h3, ← hlen]
      refine outs_rep (own := own') (tm := tmOf a) ?_ xs 0 ?_
      · intro k
        refine (C.rep k).keep (K := allK) (L' := noL) (fun _ _ _ h => by simp [allK] at h) _ _ _ ?_
        refine ⟨fun b hb => ⟨⟨?_, hb.1, ?_⟩, rfl⟩, fun _ _ => rfl⟩
        · rcases hb.2.1 with h | h | h
          · exact .inr h
          · exact .inl ⟨rfl, .inl h⟩
          · exact .inl ⟨rfl, .inr h⟩
        · intro hm
          exact hb.2.2 (hsub b hm)
      · intro j hj x hx
        have := hs.2 (0 + j) (xs.getD (0 + j) undef) (by simp only [c]; rw [if_pos hj])
        rw [this]
        simp [hx]
    · rw [List.nodup_append]
      refine ⟨hnox, flat_nodup C.nd C.dj (List.Nodup.sublist List.filter_sublist List.nodup_range'), ?_⟩
      intro b hb b' hb' e
      subst e
      obtain ⟨k, hk, hbk⟩ := List.mem_flatMap.1 hb'
      have hkf : k ∈ fx := by have := (List.mem_filter.1 hk).2; simpa using this
      exact C.dj r k (fun e => by rw [e] at hnfx; simp [hkf] at hnfx) b (hmem b hb) hbk
    · intro b hb
      exact C.old b (hsub b hb)
  intro e st a w' S' h'
  cases e with
  | nrm => exact fin st a w' S' h'
  | ret => exact fin st a w' S' h'
  | ex id => exact h'.elim
  | pan ch => exact h'.elim
end
end Go.AM
namespace Go.AM
set_option linter.unusedVariables false
set_option linter.defProp false
def EV := (And.intro (And.intro (And.intro (And.intro (And.intro (And.intro (And.intro (And.intro @takeO.eq_1 @takeO.eq_2) (And.intro @takeO.eq_3 (And.intro @aggAt.eq_1 @aggAt.eq_2))) (And.intro (And.intro @pullA.eq_1 @pullA.eq_2) (And.intro @ownA.eq_1 (And.intro @ownA.eq_2 @Option.getD_some.{0})))) (And.intro (And.intro (And.intro @evM @evMv) (And.intro @evDel (And.intro @evT @List.contains_nil.{0}))) (And.intro (And.intro @List.contains_cons.{0} (And.intro @Bool.or_false @Bool.false_or)) (And.intro @Bool.true_or (And.intro @Bool.or_true @List.zip_cons_cons.{0, 0}))))) (And.intro (And.intro (And.intro (And.intro @List.zip_nil_right.{0, 0} @List.zip_nil_left.{0, 0}) (And.intro @List.foldl_cons.{0, 0} (And.intro @List.foldl_nil.{0, 0} @eqaV.eq_1))) (And.intro (And.intro @eqaV.eq_2 (And.intro @leafOk.eq_1 @leafOk.eq_2)) (And.intro @leafOk.eq_3 (And.intro @leafOk.eq_4 @leaf1.eq_1)))) (And.intro (And.intro (And.intro @leaf1.eq_2 @leaf1.eq_3) (And.intro @leaf1.eq_4 (And.intro @eqRow.eq_1 @eqRow.eq_2))) (And.intro (And.intro @eqLeaf.eq_1 (And.intro @eqLeaf.eq_2 @eqLeaf.eq_3)) (And.intro @eqLeaf.eq_4 (And.intro @Bool.false_xor @isnilV.eq_1)))))) (And.intro (And.intro (And.intro (And.intro (And.intro @isnilV.eq_2 @isnilV.eq_3) (And.intro @appV.eq_1 (And.intro @extV.eq_1 @slcV.eq_1))) (And.intro (And.intro @slcV.eq_2 @slcV.eq_3) (And.intro @slcV.eq_4 (And.intro @lhs.eq_1 @lhs.eq_2)))) (And.intro (And.intro (And.intro @bnd.eq_1 @bnd.eq_2) (And.intro @bnd.eq_3 (And.intro @Int.toNat_zero @Nat.sub_zero))) (And.intro (And.intro @Option.map_none.{0, 0} (And.intro @allocV.eq_1 @mksV.eq_1)) (And.intro @mksV.eq_2 (And.intro @ZC.av.eq_1 @ZC.av.eq_2))))) (And.intro (And.intro (And.intro (And.intro @ZC.av.eq_3 @evO) (And.intro @evC (And.intro @evB @evS))) (And.intro (And.intro @zipA_cons (And.intro @putS_t @putS_f)) (And.intro @mqV.eq_1 (And.intro @mqV.eq_2 @mqV.eq_3)))) (And.intro (And.intro (And.intro @mqV.eq_4 @mqV.eq_5) (And.intro @mqV.eq_6 (And.intro @mqV.eq_7 @mqV.eq_8))) (And.intro (And.intro @mqV.eq_9 (And.intro @mqV.eq_10 @mqV.eq_11)) (And.intro @mqV.eq_12 (And.intro @mqV.eq_13 @mqV.eq_14))))))) (And.intro (And.intro (And.intro (And.intro (And.intro (And.intro @mqV.eq_15 @mqV.eq_16) (And.intro @mqV.eq_17 (And.intro @mqV.eq_18 @maV.eq_1))) (And.intro (And.intro @maV.eq_3 @maV.eq_4) (And.intro @maV.eq_5 (And.intro @maV.eq_6 @maV.eq_7)))) (And.intro (And.intro (And.intro @maV.eq_8 @maV.eq_10) (And.intro @maV.eq_11 (And.intro @asgV.eq_1 @boxV.eq_1))) (And.intro (And.intro @cellsS.eq_1 (And.intro @cellsS.eq_2 @cellsS.eq_3)) (And.intro @cellsS.eq_4 (And.intro @cellsS.eq_5 @cellsS.eq_6))))) (And.intro (And.intro (And.intro (And.intro @cellsS.eq_7 @storL.eq_1) (And.intro @storL.eq_2 (And.intro @storL.eq_3 @storL.eq_4))) (And.intro (And.intro @storL.eq_5 (And.intro @storL.eq_6 @ownO.eq_1)) (And.intro @ownO.eq_2 (And.intro @ownO.eq_3 @ownO.eq_4)))) (And.intro (And.intro (And.intro @rd.eq_1 @rd.eq_2) (And.intro @rd.eq_3 (And.intro @rd.eq_4 @brw.eq_1))) (And.intro (And.intro @brw.eq_2 (And.intro @brw.eq_3 @brw.eq_4)) (And.intro @brw.eq_5 (And.intro @brw.eq_6 @brw.eq_7)))))) (And.intro (And.intro (And.intro (And.intro (And.intro @brw.eq_8 @brw.eq_9) (And.intro @brw.eq_10 (And.intro @brw.eq_11 @brws.eq_1))) (And.intro (And.intro @brws.eq_2 @bare.eq_1) (And.intro @bare.eq_2 (And.intro @bare.eq_3 @bare.eq_4)))) (And.intro (And.intro (And.intro @bare.eq_5 @bare.eq_6) (And.intro @bare.eq_7 (And.intro @bare.eq_8 @bare.eq_9))) (And.intro (And.intro @bare.eq_10 (And.intro @bare.eq_11 @bares.eq_1)) (And.intro @bares.eq_2 (And.intro @plain.eq_1 @plain.eq_2))))) (And.intro (And.intro (And.intro (And.intro @plain.eq_3 @plain.eq_4) (And.intro @plain.eq_5 (And.intro @plain.eq_6 @plain.eq_7))) (And.intro (And.intro @plain.eq_8 (And.intro @plain.eq_9 @plain.eq_10)) (And.intro @plain.eq_11 (And.intro @plains.eq_1 @plains.eq_2)))) (And.intro (And.intro (And.intro @killV.eq_1 @killV.eq_2) (And.intro @killV.eq_3 (And.intro @killV.eq_4 @killV.eq_5))) (And.intro (And.intro @killV.eq_6 (And.intro @killV.eq_7 @killV.eq_8)) (And.intro @killV.eq_9 (And.intro @killV.eq_10 @killV.eq_11)))))))) (And.intro (And.intro (And.intro (And.intro (And.intro (And.intro (And.intro @killVs.eq_1 @killVs.eq_2) (And.intro @isB.eq_1 (And.intro @isB.eq_2 @isS.eq_1))) (And.intro (And.intro @isS.eq_2 @fadV.eq_1) (And.intro @fadV.eq_2 (And.intro @fadV.eq_3 @loadV.eq_1)))) (And.intro (And.intro (And.intro @loadV.eq_2 @loadV.eq_3) (And.intro @iadV.eq_1 (And.intro @iadV.eq_2 @iadV.eq_3))) (And.intro (And.intro @iadV.eq_4 (And.intro @inRow.eq_1 @inRow.eq_2)) (And.intro @inRow.eq_3 (And.intro @getC.eq_1 @getC.eq_2))))) (And.intro (And.intro (And.intro (And.intro @List.getD_cons_zero.{0} @List.getD_cons_succ.{0}) (And.intro @List.all_cons.{0} (And.intro @List.all_nil.{0} @List.length_cons.{0}))) (And.intro (And.intro @List.length_nil.{0} (And.intro @List.drop_zero.{0} @List.drop_succ_cons.{0})) (And.intro @List.take_succ_cons.{0} (And.intro @List.take_zero.{0} @Bool.and_true)))) (And.intro (And.intro (And.intro @Bool.and_false @Bool.false_and) (And.intro @Bool.true_and (And.intro @Bool.and_self @Option.bind_some.{0, 0}))) (And.intro (And.intro @Nat.add_zero (And.intro @Nat.zero_add @Nat.zero_lt_succ)) (And.intro @Nat.le_refl (And.intro @Bool.false_eq_true @false_implies)))))) (And.intro (And.intro (And.intro (And.intro (And.intro @implies_true.{0} @implies_true.{1}) (And.intro @true_and (And.intro @and_true @and_self))) (And.intro (And.intro @Bool.not_true @Bool.not_false) (And.intro @beq_self_eq_true.{0} (And.intro @bne_self_eq_false.{0} @List.nil_append.{0})))) (And.intro (And.intro (And.intro @dV.eq_1 @dcallV_W) (And.intro @callV_W (And.intro @callW.eq_1 @callW.eq_2))) (And.intro (And.intro @callX.eq_1 (And.intro @callX.eq_2 @callX.eq_3)) (And.intro @callX.eq_4 (And.intro @sK_ap @giveS.eq_1))))) (And.intro (And.intro (And.intro (And.intro @giveS.eq_2 @giveS.eq_3) (And.intro @giveS.eq_4 (And.intro @calleeV.eq_1 @ioAll.eq_1))) (And.intro (And.intro @ioAll.eq_2 (And.intro @ioAll.eq_3 @ioAll.eq_4)) (And.intro @argL.eq_1 (And.intro @argL.eq_2 @argL.eq_3)))) (And.intro (And.intro (And.intro @argL.eq_4 @lendPlain.eq_1) (And.intro @lendPlain.eq_2 (And.intro @lendPlain.eq_3 @lendPlain.eq_4))) (And.intro (And.intro @lendAll.eq_1 (And.intro @lendAll.eq_2 @lendAll.eq_3)) (And.intro @lendAll.eq_4 (And.intro @outL.eq_1 @outL.eq_2))))))) (And.intro (And.intro (And.intro (And.intro (And.intro (And.intro @outL.eq_3 @outL.eq_4) (And.intro @frzB.eq_1 (And.intro @frzB.eq_2 @frzB.eq_3))) (And.intro (And.intro @frzB.eq_4 @frzB.eq_5) (And.intro @frzB.eq_6 (And.intro @frzB.eq_7 @frzB.eq_8)))) (And.intro (And.intro (And.intro @frzB.eq_9 @frzB.eq_10) (And.intro @frzB.eq_11 (And.intro @frzBs.eq_1 @frzBs.eq_2))) (And.intro (And.intro @List.map_cons.{0, 0} (And.intro @List.map_nil.{0, 0} @List.append_nil.{0})) (And.intro @lenV.eq_1 (And.intro @lenV.eq_2 @lenV.eq_3))))) (And.intro (And.intro (And.intro (And.intro @lenV.eq_4 @lenV.eq_5) (And.intro @keepS.eq_1 (And.intro @List.length_map.{0, 0} @Int.toNat_natCast))) (And.intro (And.intro @Int.natCast_nonneg (And.intro @take_map_len @List.take_length.{0})) (And.intro @convV.eq_1 (And.intro @convV.eq_2 @bslV.eq_1)))) (And.intro (And.intro (And.intro @pullS.eq_1 @pullS.eq_2) (And.intro @buildV.eq_1 (And.intro @b2sV.eq_1 @bytesA.eq_1))) (And.intro (And.intro @bytesA.eq_2 (And.intro @bytesA.eq_3 @frzRows.eq_1)) (And.intro @frzRows.eq_2 (And.intro @frzRow.eq_1 @frzRow.eq_2)))))) (And.intro (And.intro (And.intro (And.intro (And.intro @frzL.eq_1 @frzL.eq_2) (And.intro @frzL.eq_3 (And.intro @frzL.eq_4 @frzL.eq_5))) (And.intro (And.intro @frzL.eq_6 @storeV.eq_1) (And.intro @ovw.eq_1 (And.intro @setC.eq_1 @setC.eq_2)))) (And.intro (And.intro (And.intro @setOf.eq_1 @setOf.eq_2) (And.intro @setOf.eq_3 (And.intro @setOf.eq_4 @setOf.eq_5))) (And.intro (And.intro @cellOf.eq_1 (And.intro @cellOf.eq_2 @cellOf.eq_3)) (And.intro @cellOf.eq_4 (And.intro @cellOf.eq_5 @ioOf.eq_1))))) (And.intro (And.intro (And.intro (And.intro @isOwner.eq_1 @isOwner.eq_2) (And.intro @isOwner.eq_3 (And.intro @shapeOf.eq_1 @shapeOf.eq_2))) (And.intro (And.intro @shapeOf.eq_3 (And.intro @keepK.eq_1 @takeK.eq_1)) (And.intro @List.take_nil.{0} (And.intro @List.drop_nil.{0} @List.cons_append.{0})))) (And.intro (And.intro (And.intro @List.set_set.{0} @List.length_set.{0}) (And.intro @List.getElem?_cons_zero.{0} (And.intro @List.getElem?_cons_succ.{0} @List.set_cons_zero.{0}))) (And.intro (And.intro @List.set_cons_succ.{0} (And.intro @Option.map_some.{0, 0} @List.isPrefixOf.eq_1.{0})) (And.intro @List.isPrefixOf.eq_2.{0} (And.intro @List.isPrefixOf.eq_3.{0} @evX)))))))))
end Go.AM
namespace Go.AM
set_option linter.unusedVariables false
set_option linter.unusedSimpArgs false
def Reads {H : Type} (enc : TypeId × Value → H) (P : Program) (w : World) (base : Nat) (spare : Nat → Bool) (held : Bool) (t : TypeId) {α : Type} (c : α → List AV) (p : α → Prop) : Prop :=
  ∀ (fuel : Nat) (cs : List Value) (x : DataW H × List MemPlace), DataW.trod enc P w base spare held fuel t cs = some x → ∃ a, p a ∧ RepRow w (fun b => b < w.heap.size) (c a) cs []
section
variable {H : Type} {enc : TypeId × Value → H} {P : Program} {w : World} {base : Nat} {spare : Nat → Bool} {held : Bool} {t e : TypeId}
theorem row_one {Fz : Nat → Prop} {av : AV} {x : Value} (h : RepC w Fz av x []) : RepRow w Fz [av] [x] [] := by
  simp only [RepRow]
  exact ⟨x, [], [], [], rfl, rfl, h, rfl, rfl⟩
theorem reads_string (ht : P.underlying t = some .string) : Reads enc P w base spare held t (fun s : ByteArray => [.v (.string s)]) (fun s => s.size ≤ maxLen) := by
  intro fuel cs x h
  obtain ⟨s, rfl, _, hw⟩ := DataW.trod_string ht h
  exact ⟨s, hw, row_one (by simp [RepC, Value.oneCell'])⟩
theorem row_join {Fz : Nat → Prop} : ∀ {l1 l2 : List AV} {xs ys : List Value}, RepRow w Fz l1 xs [] → RepRow w Fz l2 ys [] → RepRow w Fz (l1 ++ l2) (xs ++ ys) []
  | [], l2, xs, ys, h, h2 => by simp only [RepRow] at h; rw [h.1]; exact h2
  | d :: l, l2, xs, ys, h, h2 => by
    simp only [RepRow, List.cons_append] at h ⊢
    obtain ⟨x, xs', o1, o2, rfl, ho, hc, hr⟩ := h
    obtain ⟨rfl, rfl⟩ : o1 = [] ∧ o2 = [] := by simpa using ho.symm
    exact ⟨x, xs' ++ ys, [], [], rfl, rfl, hc, row_join hr h2⟩
theorem reads_slice {α : Type} {c : α → List AV} {p : α → Prop} (ht : P.underlying t = some (.slice e)) (he : Reads enc P w base spare held e c p) {sz : Nat} (hsz : P.cellsOf e = sz) (hpos : 0 < sz) (hc : ∀ a, (c a).length = sz) :
    Reads enc P w base spare held t (fun l : List α => [.fsl sz (l.map c)]) (fun l => (∀ a ∈ l, p a) ∧ l.length ≤ maxLen) := by
  intro fuel cs x h
  rcases DataW.trod_slice ht h with ⟨rfl, _⟩ | ⟨a, len, cap, elems, rest, n, _, rfl, _, _, hle, hcap, hlen, hel, _, _⟩
  · exact ⟨[], ⟨by simp, by simp⟩, row_one (by simp [RepC])⟩
  · have key : ∀ m, m ≤ len → ∃ (l : List α) (xs : List Value), l.length = m ∧ (∀ a ∈ l, p a) ∧ RepRows w (fun b => b < w.heap.size) sz (l.map c) xs [] ∧ (m ≠ 0 → a.spot = none ∧ a.block < w.heap.size) ∧ At w a.block a.off xs := by
      intro m
      induction m with
      | zero => intro _; exact ⟨[], [], rfl, by simp, by simp [RepRows], by simp, by intro j u hj; simp at hj⟩
      | succ m ih =>
        intro hm
        obtain ⟨l, xs, hl, hp, hrows, hsp, hat⟩ := ih (by omega)
        have h1 := hel m (by omega)
        have h2 : elems[m]? = some elems[m] := by simp
        rw [h2, Option.bind_eq_some_iff] at h1
        obtain ⟨csm, hcm, htm⟩ := h1
        obtain ⟨am, hpm, hrow⟩ := he _ _ _ htm
        have hlm := hrow.length
        rw [hc] at hlm
        obtain ⟨hbase, hcl, hcells⟩ := World.cells?_some hcm
        rw [hsz] at hcells hcl
        have hxl := hrows.length
        rw [List.length_map, hl] at hxl
        have hcell : ∀ i u, csm[i]? = some u → w.cell? ((a.add (m * sz)).add i) = some u := by
          intro i u hu
          have hi : i < sz := by have := (List.getElem?_eq_some_iff.1 hu).1; omega
          rw [hcells i hi]; exact hu
        have hspot : a.spot = none ∧ a.block < w.heap.size := by
          by_cases hm0 : m = 0
          · subst hm0
            have h0 : csm[0]? = some csm[0] := by simp
            have := hcell 0 _ h0
            rw [Nat.zero_mul] at this
            have e0 : (a.add 0).add 0 = a := by simp [Addr.add]
            rw [e0] at this
            exact ⟨World.cell?_spot this, World.block_lt_of_cell? w _ this⟩
          · exact hsp hm0
        refine ⟨l ++ [am], xs ++ csm, by simp [hl], ?_, ?_, fun _ => hspot, ?_⟩
        · intro b hb
          rcases List.mem_append.1 hb with h | h
          · exact hp b h
          · simp at h; rw [h]; exact hpm
        · rw [List.map_append]
          have h1 : RepRows w (fun b => b < w.heap.size) sz [c am] csm [] := by
            simp only [RepRows]
            exact ⟨csm, [], [], [], by simp, rfl, hc am, hrow, rfl, rfl⟩
          exact hrows.append h1
        · intro j u hj
          by_cases hjx : j < xs.length
          · rw [List.getElem?_append_left hjx] at hj
            exact hat j u hj
          · rw [List.getElem?_append_right (by omega)] at hj
            have := hcell _ _ hj
            obtain ⟨b, o, sp⟩ := a
            obtain ⟨hs, _⟩ := hspot
            simp only at hs
            subst hs
            rw [Addr.add_lit, Addr.add_lit] at this
            rw [← this]
            congr 2
            show o + j = o + m * sz + (j - xs.length)
            omega
    obtain ⟨l, xs, hl, hp, hrows, hsp, hat⟩ := key len (Nat.le_refl _)
    refine ⟨l, ⟨hp, by omega⟩, row_one ?_⟩
    simp only [RepC]
    refine ⟨trivial, some a, cap, by rw [List.length_map, hl], by rw [List.length_map, hl]; exact hle, ?_⟩
    by_cases h0 : len = 0
    · left
      have : l = [] := by rw [← List.length_eq_zero_iff, hl, h0]
      simp [this]
    · right
      obtain ⟨hs, hb⟩ := hsp h0
      obtain ⟨b, o, sp⟩ := a
      simp only at hs
      subst hs
      exact ⟨b, o, xs, rfl, hb, hrows, hat⟩
theorem Reads.map {α β : Type} {c : α → List AV} {p : α → Prop} (h : Reads enc P w base spare held t c p) {c' : β → List AV} {p' : β → Prop} (f : α → β) (hc : ∀ a, c' (f a) = c a) (hp : ∀ a, p a → p' (f a)) : Reads enc P w base spare held t c' p' := by
  intro fuel cs x hx
  obtain ⟨a, ha, hr⟩ := h fuel cs x hx
  exact ⟨f a, hp a ha, by rw [hc]; exact hr⟩
def Segs (enc : TypeId × Value → H) (P : Program) (w : World) (base : Nat) (spare : Nat → Bool) (held : Bool) (n : Nat) : List TypeId → List Value → Prop
  | [], cs => cs = []
  | ty :: tys, cs => (∃ y, DataW.trod enc P w base spare held n ty (cs.take (P.cellsOf ty)) = some y) ∧ Segs enc P w base spare held n tys (cs.drop (P.cellsOf ty))
def SegR (enc : TypeId × Value → H) (P : Program) (w : World) (base : Nat) (spare : Nat → Bool) (held : Bool) (tys : List TypeId) {α : Type} (c : α → List AV) (p : α → Prop) : Prop :=
  ∀ n cs, Segs enc P w base spare held n tys cs → ∃ a, p a ∧ RepRow w (fun b => b < w.heap.size) (c a) cs []
theorem seg_nil : SegR enc P w base spare held [] (fun _ : Unit => []) (fun _ => True) := by
  intro n cs h
  simp only [Segs] at h
  exact ⟨(), trivial, by simp [RepRow, h]⟩
theorem seg_cons {α β : Type} {ty : TypeId} {tys : List TypeId} {c : α → List AV} {p : α → Prop} {d : β → List AV} {q : β → Prop} (h1 : Reads enc P w base spare held ty c p) (h2 : SegR enc P w base spare held tys d q) :
    SegR enc P w base spare held (ty :: tys) (fun x : α × β => c x.1 ++ d x.2) (fun x => p x.1 ∧ q x.2) := by
  intro n cs h
  simp only [Segs] at h
  obtain ⟨⟨y, hy⟩, hr⟩ := h
  obtain ⟨a, ha, ra⟩ := h1 _ _ _ hy
  obtain ⟨b, hb, rb⟩ := h2 _ _ hr
  refine ⟨(a, b), ⟨ha, hb⟩, ?_⟩
  have := row_join ra rb
  rwa [List.take_append_drop] at this
def segOk (P : Program) (fs : Array Field) (sz : Nat) : Nat → Nat → List TypeId → Bool
  | i, k, [] => k == sz
  | i, k, ty :: tys => (match fs[i]? with | some f => f.type == ty && f.offset == k | none => false) && segOk P fs sz (i + 1) (k + P.cellsOf ty) tys
def strOk (P : Program) (t : TypeId) (tys : List TypeId) : Bool :=
  match P.underlying t with
  | some (.struct fs) => segOk P fs (P.cellsOf t) 0 0 tys
  | _ => false
theorem reads_struct {α : Type} {tys : List TypeId} {c : α → List AV} {p : α → Prop} (hok : strOk P t tys = true) (h : SegR enc P w base spare held tys c p) : Reads enc P w base spare held t c p := by
  intro fuel cs x hx
  unfold strOk at hok
  split at hok
  rotate_left
  · cases hok
  rename_i fs hu
  obtain ⟨xs, n, _, _, hl, hxs, hf⟩ := DataW.trod_struct hu hx
  have key : ∀ (tys : List TypeId) (i k : Nat), segOk P fs (P.cellsOf t) i k tys = true → Segs enc P w base spare held n tys (cs.drop k) := by
    intro tys
    induction tys with
    | nil =>
      intro i k hk
      simp only [segOk, beq_iff_eq] at hk
      simp only [Segs]
      rw [hk, ← hl]; simp
    | cons ty tys ih =>
      intro i k hk
      simp only [segOk, Bool.and_eq_true] at hk
      obtain ⟨h1, h2⟩ := hk
      split at h1
      rotate_left
      · cases h1
      rename_i f hfi
      simp only [Bool.and_eq_true, beq_iff_eq] at h1
      obtain ⟨rfl, rfl⟩ := h1
      have h3 := hf i f hfi
      have hi : i < xs.length := by rw [hxs]; exact (Array.getElem?_eq_some_iff.1 hfi).1
      simp only [Segs]
      refine ⟨⟨xs[i], by rw [h3]; simp⟩, ?_⟩
      rw [List.drop_drop]
      exact ih (i + 1) _ h2
  have := key tys 0 0 hok
  rw [List.drop_zero] at this
  exact h _ _ this
theorem open_one {α : Type} {c : α → AV} {p : α → Prop} {v : Value} {d : DataW H} {ps : List MemPlace} {L : Locs} (hv : v.cells.toList = [v]) (h : Reads enc P w base spare held t (fun a => [c a]) p) (hd : DataW.Trod enc P w base spare held t v d ps) :
    ∃ a, p a ∧ RepV w (fun b => b < w.heap.size) L (c a) v [] := by
  obtain ⟨fuel, hf⟩ := hd
  obtain ⟨a, ha, hr⟩ := h _ _ _ hf
  rw [hv] at hr
  simp only [RepRow] at hr
  obtain ⟨x, xs', o1, o2, hx, ho, hc, _⟩ := hr
  obtain ⟨rfl, rfl⟩ : o1 = [] ∧ o2 = [] := by simpa using ho.symm
  simp only [List.cons.injEq] at hx
  rw [← hx.1] at hc
  exact ⟨a, ha, hc.toV⟩
theorem laidW_none {P : Program} (h1 : P.globalNamed "strings.asciiSpace" = none) (h2 : P.globalNamed "unicode.White_Space" = none) (W : World) : LaidW P W :=
  ⟨fun g h => (by rw [h1] at h; cases h), fun g h => (by rw [h2] at h; cases h)⟩
theorem Does.law {f : FuncId} {al : Bool} {b : Bool} {args outs : List AV} (h : Does P f args al (.v (.bool b)) outs) (W : World) (hL : LaidW P W) {xs : List Value} (hr : RepVs W (fun b => b < W.heap.size) noL args xs []) :
    Calls P f xs.toArray W fun e W' => e = .returned (.bool b) ∧ Go.RowKit.Below W.heap.size W W' := by
  refine (h.2 W (fun b => b < W.heap.size) xs [] hr (by simp) (by simp) ⟨fun b hb => hb, W, hL, fun b hb => ⟨hb, rfl⟩⟩).mono ?_
  rintro e W' ⟨x, ox, oo, rfl, hext, hr, _⟩
  simp only [RepV, RepC] at hr
  rw [hr.1]
  exact ⟨rfl, ⟨hext.os, hext.tape, hext.output, hext.size, fun k hk => hext.blk k hk (by simp)⟩⟩
theorem trodAll_below {w' : World} (bel : Go.RowKit.Below w.heap.size w w') : ∀ {ts : List TypeId} {vs : List Value} {ds : List (DataW H)} {ps : List MemPlace}, DataW.TrodAll enc P w base spare held ts vs ds ps → DataW.TrodAll enc P w' base spare held ts vs ds ps
  | [], [], [], ps, h => h
  | t :: ts, v :: vs, d :: ds, ps, h => by
    obtain ⟨p, q, h1, h2, rfl⟩ := h
    refine ⟨p, q, ?_, trodAll_below bel h2, rfl⟩
    obtain ⟨fuel, hf⟩ := h1
    exact ⟨fuel, DataW.trod_carry fuel t _ _ hf (fun m hm => bel.same (DataW.trod_lt fuel t _ _ hf m hm))⟩
  | [], [], _ :: _, _, h => h.elim
  | [], _ :: _, _, _, h => h.elim
  | _ :: _, [], _, _, h => h.elim
  | _ :: _, _ :: _, [], _, h => h.elim
end
end Go.AM
namespace Go.AM
set_option linter.unusedVariables false
set_option linter.unusedSimpArgs false
inductive RS where
  | t (r : Nat)
  | c (r : Nat) (ty : TypeId) (agg : Bool) (sz : Nat)
def RS.slot : RS → Nat
  | .t r => r
  | .c r _ _ _ => r
def rsOk (P : Program) : List ResultVar → List RS → Bool
  | [], [] => true
  | .tmp t :: l, .t r :: rs => t == r && rsOk P l rs
  | .cell a t :: l, .c r ty agg sz :: rs => a == r && t == ty && loadOk P ty agg sz && rsOk P l rs
  | _, _ => false
def resM (st : St) : List RS → (List AV → Prop) → Prop
  | [], k => k []
  | .t r :: l, k => resM st l fun xs => k (st r :: xs)
  | .c r _ agg sz :: l, k => cellV' (st r) agg sz fun x => resM st l fun xs => k (x :: xs)
def tupA : List AV → AV
  | [x] => x
  | l => .tup l
def retM (n : Nat) (rs : List RS) (fx : List Nat) (al : Bool) (R : AV → List AV → Prop) : AE → K
  | .ex _, _ => False
  | .pan _, _ => False
  | _, st => resM st rs fun xs => R (killV allK (tupA xs)) (outsA fx st 0 n) ∧ (al = true ∨ nfz (killV allK (tupA xs)) = true)
def fnM (P : Program) (f : FuncId) (n N : Nat) (rs : List RS) (fx : List Nat) (mc : MC) : Bool :=
  match P.funcs[f]? with
  | some fn => !(fn.name == "runtime.NumGoroutine") && fn.ntmps == N && decide (n ≤ N) && rsOk P fn.results.toList rs && decide ((rs.map RS.slot ++ fx).Nodup) && (fx.all fun t => t < n) &&
    (match fn.body with | some c => mC P N fx mc c | none => false)
  | none => false
def resW (tmps : Array Value) : ResultVar → Sem Value
  | .tmp t => pure (tmps.getD t undef)
  | .cell a t => do loadVar t (← asAddr (tmps.getD a undef))
theorem results_eq {P : Program} {fn : Func} {tmps : Array Value} {w : World} {vs : List Value} (h : (fn.results.toList.mapM (resW tmps)).run P w = .ok vs w) :
    (results fn tmps).run P w = .ok (resVal vs) w := by
  have e : fn.results.mapM (resW tmps) = List.toArray <$> fn.results.toList.mapM (resW tmps) := by
    rw [← List.mapM_toArray, Array.toArray_toList]
  have e2 : results fn tmps = (do
      let vs ← fn.results.mapM (resW tmps)
      pure (if h : vs.size = 1 then vs[0] else .tuple vs)) := by
    unfold results
    congr 1
  rw [e2, e]
  simp only [Sem.run_bind, map_eq_pure_bind, Sem.run_pure, h, Result.andThen_ok]
  congr 1
  match vs with
  | [] => rfl
  | [x] => rfl
  | x :: y :: l => simp [resVal]
section
variable {P : Program} {w : World} {Fz : Nat → Prop} {L : Locs}
theorem resM_rep {st : St} {tmps : Array Value} {own : Nat → List Nat} (h : ∀ k, RepV w Fz L (st k) (tmps.getD k undef) (own k)) (hn : ∀ k, (own k).Nodup) (hd : ∀ j k, j ≠ k → ∀ b ∈ own j, b ∉ own k) :
    ∀ (rs : List RS) (vars : List ResultVar) (k : List AV → Prop), rsOk P vars rs = true → (rs.map RS.slot).Nodup → resM st rs k →
      ∃ vs avs os, (vars.mapM (resW tmps)).run P w = .ok vs w ∧ RepVs w Fz L avs vs os ∧ (∀ b ∈ os, ∃ r ∈ rs.map RS.slot, b ∈ own r) ∧ os.Nodup ∧ k avs
  | [], [], k, _, _, hk => ⟨[], [], [], by simp [List.mapM_nil], by simp [RepVs], by simp, by simp, hk⟩
  | .t r :: rs, .tmp t :: vars, k, ho, hs, hk => by
    simp only [rsOk, Bool.and_eq_true, beq_iff_eq] at ho
    obtain ⟨rfl, ho⟩ := ho
    simp only [List.map_cons, List.nodup_cons] at hs
    simp only [resM] at hk
    obtain ⟨vs, avs, os, g1, g2, g3, g4, g5⟩ := resM_rep h hn hd rs vars _ ho hs.2 hk
    refine ⟨tmps.getD t undef :: vs, st t :: avs, own t ++ os, ?_, ?_, ?_, ?_, g5⟩
    · simp only [List.mapM_cons, resW, Sem.run_bind, Sem.run_pure, Result.andThen_ok, g1]
    · simp only [RepVs]; exact ⟨_, _, _, _, rfl, rfl, h t, g2⟩
    · intro b hb
      rcases List.mem_append.1 hb with hb | hb
      · exact ⟨t, by simp [RS.slot], hb⟩
      · obtain ⟨r, hr, hm⟩ := g3 b hb
        exact ⟨r, by rw [List.map_cons]; exact List.mem_cons_of_mem _ hr, hm⟩
    · rw [List.nodup_append]
      refine ⟨hn t, g4, ?_⟩
      intro b hb b' hb' e
      subst e
      obtain ⟨r, hr, hm⟩ := g3 b hb'
      exact hd t r (fun e => hs.1 (by rw [← e] at hr; simpa [RS.slot] using hr)) b hb hm
  | .c r ty agg sz :: rs, .cell a t :: vars, k, ho, hs, hk => by
    simp only [rsOk, Bool.and_eq_true, beq_iff_eq] at ho
    obtain ⟨⟨⟨rfl, rfl⟩, hl⟩, ho⟩ := ho
    simp only [List.map_cons, List.nodup_cons] at hs
    simp only [resM] at hk
    obtain ⟨x, av, ox, hrun, hrep, hmem, hnox, hk⟩ := cellV'_rep (own := own a) hl (h a) (hn a) hk
    obtain ⟨vs, avs, os, g1, g2, g3, g4, g5⟩ := resM_rep h hn hd rs vars _ ho hs.2 hk
    refine ⟨x :: vs, av :: avs, ox ++ os, ?_, ?_, ?_, ?_, g5⟩
    · have e : (resW tmps (.cell a t)).run P w = .ok x w := hrun
      simp only [List.mapM_cons, Sem.run_bind, e, Sem.run_pure, Result.andThen_ok, g1]
    · simp only [RepVs]; exact ⟨_, _, _, _, rfl, rfl, hrep, g2⟩
    · intro b hb
      rcases List.mem_append.1 hb with hb | hb
      · exact ⟨a, by simp [RS.slot], hmem b hb⟩
      · obtain ⟨r, hr, hm⟩ := g3 b hb
        exact ⟨r, by rw [List.map_cons]; exact List.mem_cons_of_mem _ hr, hm⟩
    · rw [List.nodup_append]
      refine ⟨hnox, g4, ?_⟩
      intro b hb b' hb' e
      subst e
      obtain ⟨r, hr, hm⟩ := g3 b hb'
      exact hd a r (fun e => hs.1 (by rw [← e] at hr; simpa [RS.slot] using hr)) b (hmem b hb) hm
  | [], _ :: _, _, ho, _, _ => by simp [rsOk] at ho
  | .t _ :: _, [], _, ho, _, _ => by simp [rsOk] at ho
  | .c .. :: _, [], _, ho, _, _ => by simp [rsOk] at ho
  | .t _ :: _, .cell .. :: _, _, ho, _, _ => by simp [rsOk] at ho
  | .c .. :: _, .tmp _ :: _, _, ho, _, _ => by simp [rsOk] at ho
theorem tupA_rep {avs : List AV} {vs : List Value} {os : List Nat} (h : RepVs w Fz L avs vs os) : RepV w Fz L (tupA avs) (resVal vs) os := by
  match avs, vs, h with
  | [], vs, h =>
    simp only [RepVs] at h
    obtain ⟨rfl, rfl⟩ := h
    simp [tupA, resVal, RepV, RepVs]
  | [c], vs, h =>
    simp only [RepVs] at h
    obtain ⟨x, xs', o1, o2, rfl, rfl, hc, rfl, rfl⟩ := h
    simpa [tupA, resVal] using hc
  | c :: d :: cs, vs, h =>
    have h' := h
    simp only [RepVs] at h
    obtain ⟨x, xs', o1, o2, rfl, rfl, hc, y, ys, o3, o4, rfl, rfl, hd, hr⟩ := h
    simp only [tupA, resVal, RepV]
    exact ⟨_, rfl, h'⟩
theorem doesM_intro {f : FuncId} {mc : MC} {N : Nat} {rs : List RS} {fx : List Nat} {args : List AV} {al : Bool} {R : AV → List AV → Prop} (n : Nat) (hn0 : args.length = n) (hchk : fnM P f n N rs fx mc = true)
    (h : awp P mc (retM n rs fx al R) (stl (zipA 0 args))) : DoesE P f args al R := by
  subst hn0
  unfold fnM at hchk
  split at hchk
  rotate_left
  · cases hchk
  rename_i fn hfn
  simp only [Bool.and_eq_true, beq_iff_eq, decide_eq_true_eq, Bool.not_eq_true', List.all_eq_true] at hchk
  obtain ⟨⟨⟨⟨⟨⟨hname, hN⟩, hnN⟩, hres⟩, hnd⟩, hfn2⟩, hbody⟩ := hchk
  split at hbody
  rotate_left
  · cases hbody
  rename_i code hcode
  refine ⟨by simp [fnOk, hfn, hname, hcode], ?_⟩
  intro w Fz xs os hrep hos hfz hlt
  obtain ⟨own, hown, hown0, hond, hodj, hom, hlen⟩ := args_own hrep hos
  let c : Ctx := { w0 := w, Fz := Fz, own0 := os, fx := fun e => if fx.contains e then some (xs.getD e undef) else none }
  haveI : GOk c P := ⟨hlt.gl, fun b hb hf => (hfz b hb).1 hf, hlt.lt⟩
  have hcfx : ∀ e, c.fx e ≠ none → e ∈ fx := by
    intro e he
    by_cases h : fx.contains e = true
    · simpa using h
    · simp only [c] at he; rw [if_neg h] at he; exact absurd rfl he
  let a0 : Act := { tmps := xs.toArray ++ Array.replicate (fn.ntmps - xs.toArray.size) undef, defers := [] }
  have htm : ∀ k, tmOf a0 k = xs.getD k undef := by
    intro k
    simp only [tmOf, a0, Array.getD_eq_getD_getElem?, List.getD_eq_getElem?_getD]
    by_cases hk : k < xs.length
    · rw [Array.getElem?_append_left (by simpa using hk)]; simp
    · rw [Array.getElem?_append_right (by simp; omega), List.getElem?_eq_none (by omega)]
      simp only [List.size_toArray]
      by_cases h2 : k - xs.length < fn.ntmps - xs.length
      · simp [h2]
      · rw [Array.getElem?_eq_none (by simp; omega)]
  have S : Sim c N (stl (zipA 0 args)) a0 w := by
    refine ⟨rfl, ⟨by simp only [a0, Array.size_append, List.size_toArray, Array.size_replicate]; omega, ?_⟩, own, ?_⟩
    · intro k v hk
      simp only [c] at hk
      split at hk
      · simp only [Option.some.injEq] at hk; rw [htm, hk]
      · cases hk
    · have hX : ∀ b, owned own [] b ↔ b ∈ os := fun b => by
        rw [hom b]
        constructor
        · rintro (h | h)
          · exact h
          · simp at h
        · exact fun h => .inl h
      refine ⟨Ext.refl _ _, ?_, hond, hodj, by simp, by simp, ?_⟩
      · intro k
        rw [htm, stl_zipA]
        simp only [Nat.zero_le, if_true, Nat.sub_zero]
        cases hk : args[k]? with
        | none =>
          have : args.length ≤ k := by simpa using hk
          simp [RepV, hown0 k this]
        | some av =>
          obtain ⟨x, hx, hr⟩ := hown k av hk
          simp only [Option.getD_some, List.getD_eq_getElem?_getD, hx]
          have := hr.keep (K := fun _ _ => false) (L' := locs (stl (zipA 0 args)) (tmOf a0) w) (fun _ _ _ _ h => by simp [noL] at h) _ _ _ (w' := w) (Fz' := frz c w (owned own []))
            ⟨fun b hb => ⟨⟨hlt b hb, .inr (.inl hb), fun ho => (hfz b ((hX b).1 ho)).1 hb⟩, rfl⟩, fun _ _ => rfl⟩
          rwa [killV_none] at this
      · intro b hb
        have := (hX b).1 hb
        exact ⟨.inl this, (hfz b this).2⟩
  refine calls_of_wp hfn hcode ?_
  refine c_sound (c := c) hcfx mc code hbody (stl (zipA 0 args)) a0 w ?_ S h
  have fin : ∀ (st : St) (a : Act) (w' : World), Sim c N st a w' → (resM st rs fun xs => R (killV allK (tupA xs)) (outsA fx st 0 args.length) ∧ (al = true ∨ nfz (killV allK (tupA xs)) = true)) →
      a.defers = [] ∧ ∃ v, (results fn a.tmps).run P w' = .ok v w' ∧ ∃ res outs, R res outs ∧ ∃ x ox oo, Ending.returned v = .returned x ∧ Ext w w' os ∧ RepV w' (fzP Fz w w' os (ox ++ oo) al) noL res x ox ∧ RepVs w' (fzP Fz w w' os (ox ++ oo) true) noL outs xs oo ∧
        (ox ++ oo).Nodup ∧ ∀ b ∈ ox ++ oo, (b ∈ os ∨ w.heap.size ≤ b) ∧ b < w'.heap.size := by
    rintro st a w' ⟨hd, hs, own', C⟩ hM
    rw [List.nodup_append] at hnd
    obtain ⟨vs, avs, ox, hrun, hrepM, hmem, hnox, hR, h2⟩ := resM_rep (tmps := a.tmps) (own := own') C.rep C.nd C.dj rs _ _ hres hnd.1 hM
    have hsub : ∀ b ∈ ox ++ ((List.range' 0 xs.length).filter fx.contains).flatMap own', owned own' [] b := by
      intro b hb
      rcases List.mem_append.1 hb with hb | hb
      · obtain ⟨r, _, hr⟩ := hmem b hb; exact .inl ⟨r, hr⟩
      · obtain ⟨k, _, hk⟩ := List.mem_flatMap.1 hb; exact .inl ⟨k, hk⟩
    refine ⟨hd, _, results_eq hrun, _, _, hR, resVal vs, ox, ((List.range' 0 xs.length).filter fx.contains).flatMap own', rfl, C.fr, ?_, ?_, ?_, ?_⟩
    · have hr2 := (tupA_rep hrepM).keep (K := allK) (L' := noL) (fun _ _ _ h => by simp [allK] at h) _ _ _ (w' := w') (Fz' := fzP Fz w w' os (ox ++ ((List.range' 0 xs.length).filter fx.contains).flatMap own') true) (by
        refine ⟨fun b hb => ⟨⟨?_, hb.1, ?_⟩, rfl⟩, fun _ _ => rfl⟩
        · rcases hb.2.1 with h | h | h
          · exact .inr h
          · exact .inl ⟨rfl, .inl h⟩
          · exact .inl ⟨rfl, .inr h⟩
        · intro hm
          exact hb.2.2 (hsub b hm))
      rcases h2 with h2 | h2
      · rw [h2]; exact hr2
      · exact nfzV _ hr2 h2
    · rw [← hlen]
      refine outs_rep (own := own') (tm := tmOf a) ?_ xs 0 ?_
      · intro k
        refine (C.rep k).keep (K := allK) (L' := noL) (fun _ _ _ h => by simp [allK] at h) _ _ _ ?_
        refine ⟨fun b hb => ⟨⟨?_, hb.1, ?_⟩, rfl⟩, fun _ _ => rfl⟩
        · rcases hb.2.1 with h | h | h
          · exact .inr h
          · exact .inl ⟨rfl, .inl h⟩
          · exact .inl ⟨rfl, .inr h⟩
        · intro hm
          exact hb.2.2 (hsub b hm)
      · intro j hj x hx
        have := hs.2 (0 + j) (xs.getD (0 + j) undef) (by simp only [c]; rw [if_pos hj])
        rw [this]
        simp [hx]
    · rw [List.nodup_append]
      refine ⟨hnox, flat_nodup C.nd C.dj (List.Nodup.sublist List.filter_sublist List.nodup_range'), ?_⟩
      intro b hb b' hb' e
      subst e
      obtain ⟨k, hk, hbk⟩ := List.mem_flatMap.1 hb'
      have hkf : k ∈ fx := by have := (List.mem_filter.1 hk).2; simpa using this
      obtain ⟨r, hr, hbr⟩ := hmem b hb
      exact C.dj r k (fun e => hnd.2.2 r hr k hkf e) b hbr hbk
    · intro b hb
      exact C.old b (hsub b hb)
  intro e st a w' S' h'
  cases e with
  | nrm => exact fin st a w' S' h'
  | ret => exact fin st a w' S' h'
  | ex id => exact h'.elim
  | pan ch => exact h'.elim
theorem does_introM {f : FuncId} {mc : MC} {N : Nat} {rs : List RS} {fx : List Nat} {args outs : List AV} {al : Bool} {res : AV} (n : Nat) (hn0 : args.length = n) (hchk : fnM P f n N rs fx mc = true)
    (h : awp P mc (retM n rs fx al fun r o => r = res ∧ o = outs) (stl (zipA 0 args))) : Does P f args al res outs := by
  have := doesM_intro n hn0 hchk h
  exact ⟨this.1, this.2.con⟩
end
theorem evRM :
    (∀ (st : St) (k : List AV → Prop), resM st [] k = k []) ∧
    (∀ (st : St) (r : Nat) (l : List RS) (k : List AV → Prop), resM st (.t r :: l) k = resM st l fun xs => k (st r :: xs)) ∧
    (∀ (st : St) (r : Nat) (ty : TypeId) (agg : Bool) (sz : Nat) (l : List RS) (k : List AV → Prop), resM st (.c r ty agg sz :: l) k = cellV' (st r) agg sz fun x => resM st l fun xs => k (x :: xs)) ∧
    (∀ (n : Nat) (rs : List RS) (fx : List Nat) (al : Bool) (R : AV → List AV → Prop) (st : St), retM n rs fx al R .ret st = resM st rs fun xs => R (killV allK (tupA xs)) (outsA fx st 0 n) ∧ (al = true ∨ nfz (killV allK (tupA xs)) = true)) ∧
    (∀ (n : Nat) (rs : List RS) (fx : List Nat) (al : Bool) (R : AV → List AV → Prop) (st : St), retM n rs fx al R .nrm st = resM st rs fun xs => R (killV allK (tupA xs)) (outsA fx st 0 n) ∧ (al = true ∨ nfz (killV allK (tupA xs)) = true)) ∧
    (∀ (x y : AV) (l : List AV), tupA (x :: y :: l) = .tup (x :: y :: l)) ∧
    (∀ (x : AV), tupA [x] = x) := ⟨fun _ _ => rfl, fun _ _ _ _ => rfl, fun _ _ _ _ _ _ _ => rfl, fun _ _ _ _ _ _ => rfl, fun _ _ _ _ _ _ => rfl, fun _ _ _ => rfl, fun _ => rfl⟩
end Go.AM
namespace Go.AM
set_option linter.unusedVariables false
set_option linter.unusedSimpArgs false
def callpK (P : Program) (f : FuncId) (args : List AV) (al : Bool) (outs : List AV) (K : AV → Prop) (Kp : List PanicEntry → Prop) : Prop :=
  ∃ (Rn : AV → Prop) (Rp : List PanicEntry → Prop), DoesP P f args al (fun r o => Rn r ∧ o = outs) (fun ch o => Rp ch ∧ o = outs) ∧ (∀ r, Rn r → K r) ∧ ∀ ch, Rp ch → Kp ch
def callpK2 (P : Program) (f : FuncId) (args : List AV) (al : Bool) (O : AV → List AV) (av : AV) (S : AV → AV → Prop) (Sp : List PanicEntry → AV → Prop) : Prop :=
  ∃ (Rn : AV → AV → Prop) (Rp : List PanicEntry → AV → Prop), DoesP P f args al (fun r o => ∃ out, Rn r out ∧ o = O out) (fun ch o => ∃ out, Rp ch out ∧ o = O out) ∧
    (∀ r out, Rn r out → isOwner out = true ∧ shapeOf out = shapeOf av ∧ S out r) ∧ ∀ ch out, Rp ch out → isOwner out = true ∧ shapeOf out = shapeOf av ∧ Sp ch out
def pSt (n : Nat) (p : List (Nat × Nat)) (st : St) (kp : List PanicEntry → K) : List PanicEntry → AV → Prop := fun ch out => kp ch (setS n p out st)
def callpX (P : Program) (c : Option (FuncId × List AV)) (al : Bool) (as : List Arg) (gs : List AV) (st1 : St) (io : List (Option (Nat × List (Nat × Nat) × AV))) (d : Option Nat) (k : K) (kp : List PanicEntry → K) : Prop :=
  match c with
  | some (f, caps) => (match io with
    | [] => (al = true → lendPlain st1 as = true) ∧ callpK P f (argL st1 as gs ++ caps) al (outL .dead as ++ caps.map fun _ => AV.dead) (pK st1 d k) (fun ch => kp ch st1)
    | [some (n, p, av)] => lendPlain st1 as = true ∧ caps = [] ∧ callpK2 P f (argL st1 as gs) al (fun out => outL out as) av (sK n p st1 d k) (pSt n p st1 kp)
    | _ => False)
  | none => False
def callpW (P : Program) (y : Opd) (al : Bool) (as : List Arg) (r : Option (List AV × St)) (d : Option Nat) (k : K) (kp : List PanicEntry → K) : Prop :=
  match r with
  | some (gs, st1) => callpX P (calleeV st1 y) al as gs st1 (ioAll st1 as) d k kp
  | none => False
theorem callpV_W {P : Program} {y : Opd} {al : Bool} {as : List Arg} {st : St} {d : Option Nat} {k : K} {kp : List PanicEntry → K} : callpV P y al as st d k kp = callpW P y al as (giveS st as) d k kp := by
  unfold callpV callpW
  cases giveS st as with
  | none => rfl
  | some r =>
    obtain ⟨gs, st1⟩ := r
    simp only [callpX]
    cases calleeV st1 y with
    | none => rfl
    | some r =>
      obtain ⟨f, caps⟩ := r
      rfl
def rpK (P : Program) (y : Opd) (al : Bool) (as : List Arg) (d : Option Nat) (ms2 : List MO) (Q : AE → K) : K := fun st1 => callpV P y al as st1 d (opsV P ms2 (Q .nrm)) fun ch => Q (.pan ch)
def panK (Q : AE → K) (ch : List PanicEntry) : K := Q (.pan ch)
def callcK (P : Program) (f g : FuncId) (av : AV) (S : AV → AV → Prop) : Prop :=
  ∃ R : AV → AV → Prop, DoesE P f [.clo g [av]] false (fun r o => ∃ out, R r out ∧ o = [.clo g [out]]) ∧ ∀ r out, R r out → isOwner out = true ∧ shapeOf out = shapeOf av ∧ S out r
def callcW (P : Program) (cal : Option (FuncId × List AV)) (cap : Option (FuncId × Nat × List (Nat × Nat) × AV)) (st : St) (d : Option Nat) (k : K) : Prop :=
  match cal with
  | some (f, []) => (match cap with
    | some (g, n, p, av) => callcK P f g av (sK n p st d k)
    | none => False)
  | _ => False
def paK (Q : AE → K) (d t : Nat) (x : Opd) : K := fun st1 => panV t (rd st1 x) fun v => putS st1 (some d) .dead (Q (.pan [{ v := v, recovered := false }]))
def paS (Q : AE → K) (d : Nat) (st : St) (v : Value) : Prop := putS st (some d) .dead (panK Q [{ v := v, recovered := false }])
theorem evPa :
    (∀ (P : Program) (Q : AE → K) (st : St) (ms : List MO) (d t : Nat) (x : Opd), awp P (.panr ms d t x) Q st = opsV P ms (paK Q d t x) st) ∧
    (∀ (Q : AE → K) (st : St) (d t : Nat) (x : Opd), paK Q d t x st = panV t (rd st x) (paS Q d st)) ∧
    (∀ (t : Nat) (l : List AV) (k : Value → Prop), panV t (.agg l) k = match valsOf l with | some vs => k (.iface t (.agg vs.toArray)) | none => False) ∧
    valsOf [] = some [] ∧ (∀ (x : Value) (l : List AV), valsOf (.v x :: l) = (valsOf l).map (x :: ·)) ∧
    (∀ (Q : AE → K) (d : Nat) (st : St) (v : Value), paS Q d st v = putS st (some d) .dead (panK Q [{ v := v, recovered := false }])) := by
  refine ⟨fun _ _ _ _ _ _ _ => rfl, fun _ _ _ _ _ => rfl, fun _ _ _ => rfl, rfl, fun _ _ => rfl, fun _ _ _ _ => rfl⟩
theorem evPn :
    (∀ (P : Program) (Q : AE → K) (st : St) (ms : List MO) (d : Option Nat) (y : Opd) (al : Bool) (as : List Arg) (ms2 : List MO), awp P (.regp ms d y al as ms2) Q st = opsV P ms (rpK P y al as d ms2 Q) st) ∧
    (∀ (P : Program) (Q : AE → K) (st : St) (d : Option Nat) (y : Opd) (al : Bool) (as : List Arg) (ms2 : List MO), rpK P y al as d ms2 Q st = callpW P y al as (giveS st as) d (opsV P ms2 (Q .nrm)) (panK Q)) ∧
    (∀ (Q : AE → K) (ch : List PanicEntry) (st : St), panK Q ch st = Q (.pan ch) st) ∧
    (∀ (n : Nat) (p : List (Nat × Nat)) (st : St) (kp : List PanicEntry → K) (ch : List PanicEntry) (out : AV), pSt n p st kp ch out = kp ch (setS n p out st)) ∧
    (∀ (Q : AE → K) (n : K) (st : St) (ch : List PanicEntry), (thn n Q (.pan ch) st = Q (.pan ch) st)) ∧
    (∀ (Q : AE → K) (st : St) (id : Nat) (ch : List PanicEntry), (inB id Q (.pan ch) st = Q (.pan ch) st)) ∧
    (∀ (P : Program) (y x : Opd) (st : St) (d : Option Nat) (k : K), maV P (.callc y x) st d k = callcW P (calleeV st y) (capO st (rd st x)) st d k) ∧
    (∀ (P : Program) (f g n : Nat) (p : List (Nat × Nat)) (av : AV) (st : St) (d : Option Nat) (k : K), callcW P (some (f, [])) (some (g, n, p, av)) st d k = callcK P f g av (sK n p st d k)) ∧
    (∀ (st : St) (g n : Nat) (p : List (Nat × Nat)), capO st (.clo g [.ref n p 0 0]) = match getC (st n) p with
      | some (.box e cs) => some (g, n, p, .box e cs)
      | _ => none) ∧
    (∀ (n : Nat) (rs fx : List Nat) (al : Bool) (R : AV → List AV → Prop) (Rp : List PanicEntry → List AV → Prop) (ch : List PanicEntry) (st : St), retP n rs fx al R Rp (.pan ch) st = Rp ch (outsA fx st 0 n)) ∧
    (∀ (n : Nat) (rs fx : List Nat) (al : Bool) (R : AV → List AV → Prop) (Rp : List PanicEntry → List AV → Prop) (st : St), retP n rs fx al R Rp .nrm st = (R (killV allK (resA st rs)) (outsA fx st 0 n) ∧ (al = true ∨ nfz (killV allK (resA st rs)) = true))) ∧
    (∀ (n : Nat) (rs fx : List Nat) (al : Bool) (R : AV → List AV → Prop) (Rp : List PanicEntry → List AV → Prop) (st : St), retP n rs fx al R Rp .ret st = (R (killV allK (resA st rs)) (outsA fx st 0 n) ∧ (al = true ∨ nfz (killV allK (resA st rs)) = true))) := by
  refine ⟨fun _ _ _ _ _ _ _ _ _ => rfl, fun P Q st d y al as ms2 => ?_, fun _ _ _ => rfl, fun _ _ _ _ _ _ => rfl, fun _ _ _ _ => rfl, fun _ _ _ _ => rfl, fun P y x st d k => ?_, fun _ _ _ _ _ _ _ _ _ => rfl, fun _ _ _ _ => rfl, fun _ _ _ _ _ _ _ _ => rfl, fun _ _ _ _ _ _ _ => rfl, fun _ _ _ _ _ _ _ => rfl⟩
  · unfold rpK
    rw [callpV_W]
    rfl
  · show callcV P y x st d k = _
    unfold callcV callcW
    rfl
def DoesOk (P : Program) (f : FuncId) (args : List AV) (res : AV) (outs : List AV) : Prop := DoesP P f args false (fun r o => r = res ∧ o = outs) (fun _ _ => False)
def DoesBad (P : Program) (f : FuncId) (args : List AV) (Rp : List PanicEntry → Prop) (outs : List AV) : Prop := DoesP P f args false (fun _ _ => False) (fun ch o => Rp ch ∧ o = outs)
theorem DoesP.mono {P : Program} {f : FuncId} {args : List AV} {al : Bool} {Rn Sn : AV → List AV → Prop} {Rp Sp : List PanicEntry → List AV → Prop} (h : DoesP P f args al Rn Rp) (h1 : ∀ r o, Rn r o → Sn r o) (h2 : ∀ ch o, Rp ch o → Sp ch o) : DoesP P f args al Sn Sp :=
  ⟨h.1, h.2.mono (by
    intro e r o hr
    cases e with
    | returned x => exact h1 _ _ hr
    | panicked ch => exact ⟨hr.1, h2 _ _ hr.2⟩
    | _ => exact hr.elim)⟩
theorem callp2_ok {P : Program} {f : FuncId} {args : List AV} {O : AV → List AV} {av res out : AV} {S : AV → AV → Prop} {Sp : List PanicEntry → AV → Prop} (h : DoesOk P f args res (O out)) (ho : isOwner out = true) (hs : shapeOf out = shapeOf av) (k : S out res) : callpK2 P f args false O av S Sp :=
  ⟨fun r o => r = res ∧ o = out, fun _ _ => False, h.mono (by rintro r o ⟨rfl, rfl⟩; exact ⟨out, ⟨rfl, rfl⟩, rfl⟩) (by rintro _ _ h; exact h.elim), by rintro r o ⟨rfl, rfl⟩; exact ⟨ho, hs, k⟩, fun _ _ h => h.elim⟩
theorem callp2_bad {P : Program} {f : FuncId} {args : List AV} {O : AV → List AV} {av out : AV} {S : AV → AV → Prop} {Sp : List PanicEntry → AV → Prop} {Rp : List PanicEntry → Prop} (h : DoesBad P f args Rp (O out)) (ho : isOwner out = true) (hs : shapeOf out = shapeOf av) (k : ∀ ch, Rp ch → Sp ch out) : callpK2 P f args false O av S Sp :=
  ⟨fun _ _ => False, fun ch o => Rp ch ∧ o = out, h.mono (by rintro _ _ h; exact h.elim) (by rintro ch o ⟨h, rfl⟩; exact ⟨out, ⟨h, rfl⟩, rfl⟩), fun _ _ h => h.elim, by rintro ch o ⟨h', rfl⟩; exact ⟨ho, hs, k ch h'⟩⟩
end Go.AM
