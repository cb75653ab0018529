/- Own framework, part 26: a function whose result lies in a variable of its own; from its code to its contract. -/
import Derived.Test.YtleomgfaplldiaaC6m
namespace Go.AM
set_option linter.unusedVariables false
set_option linter.unusedSimpArgs false

def isCell (r : Nat) (ty : TypeId) : List ResultVar → Bool
  | [.cell a t] => a == r && t == ty
  | _ => false

/-- What a box holds, as a result. -/
def cellV' (av : AV) (agg : Bool) (sz : Nat) (k : AV → Prop) : Prop :=
  match av with
  | .box _ cs => if agg then cs.length = sz ∧ k (.agg cs) else cs.length = 1 ∧ k (cs.getD 0 .dead)
  | _ => False

/-- What is asked at the end of such a function. -/
def retVC (n : Nat) (r : Nat) (agg : Bool) (sz : Nat) (fx : List Nat) (al : Bool) (res : AV) (outs : List AV) : AE → K
  | .ex _, _ => False
  | _, st => cellV' (st r) agg sz fun x => killV allK x = res ∧ (al = true ∨ nfz res = true) ∧ outsA fx st 0 n = outs

def fnCC (P : Program) (f : FuncId) (n N : Nat) (r : Nat) (ty : TypeId) (agg : Bool) (sz : Nat) (fx : List Nat) (mc : MC) : Bool :=
  match P.funcs[f]? with
  | some fn => !(fn.name == "runtime.NumGoroutine") && fn.ntmps == N && decide (n ≤ N) && isCell r ty fn.results.toList && loadOk P ty agg sz && !fx.contains r && decide (fx.Nodup) && decide (r < N) && (fx.all fun t => t < n) &&
    (match fn.body with | some c => mC P N fx mc c | none => false)
  | none => false

section
variable {P : Program} {w : World} {Fz : Nat → Prop} {L : Locs}

theorem cellV'_rep {av : AV} {y : Value} {own : List Nat} {ty : TypeId} {agg : Bool} {sz : Nat} {k : AV → Prop} (hok : loadOk P ty agg sz = true) (hr : RepV w Fz L av y own) (hnd : own.Nodup) (h : cellV' av agg sz k) :
    ∃ x av' ox, (do loadVar ty (← asAddr y)).run P w = .ok x w ∧ RepV w Fz L av' x ox ∧ (∀ b ∈ ox, b ∈ own) ∧ ox.Nodup ∧ k av' := by
  unfold cellV' at h
  split at h
  rotate_left
  · exact h.elim
  rename_i e cs
  simp only [RepV, RepC] at hr
  obtain ⟨g, xs, o', rfl, rfl, hg, hrow⟩ := hr
  simp only [loadOk, aggB, Bool.and_eq_true, Bool.or_eq_true, beq_iff_eq, Option.map_eq_some_iff] at hok
  obtain ⟨⟨d, hu, hd⟩, hsz⟩ := hok
  have hat : At w g 0 xs := by
    intro j u hj
    rw [cell_of_cells hg]
    simpa using hj
  have hn : o'.Nodup := (List.nodup_cons.1 hnd).2
  have hsub : ∀ b ∈ o', b ∈ g :: o' := by simp +contextual
  cases agg with
  | true =>
    simp only [if_true] at h
    have hl : xs.length = sz := by rw [hrow.length]; exact h.1
    refine ⟨.agg xs.toArray, .agg cs, o', ?_, ?_, hsub, hn, h.2⟩
    · simp only [asAddr, Sem.run_bind, Sem.run_pure, Result.andThen_ok]
      exact run_loadVar_agg hu hd (by simpa using hsz) hl hat
    · simp only [RepV]; exact ⟨xs, rfl, hrow.toVs⟩
  | false =>
    simp only [Bool.false_eq_true, if_false] at h
    obtain ⟨h1, h2⟩ := h
    match cs, h1 with
    | [c0], _ =>
      simp only [RepRow] at hrow
      obtain ⟨x0, xs', o1, o2, rfl, rfl, hc0, rfl, rfl⟩ := hrow
      refine ⟨x0, c0, o1, ?_, hc0.toV, by simpa using hsub, by simpa using hn, by simpa using h2⟩
      simp only [asAddr, Sem.run_bind, Sem.run_pure, Result.andThen_ok]
      exact run_loadVar_one hu hd (by have := hat 0 x0 (by simp); simpa using this)

theorem results_cellV {fn : Func} {r : Nat} {ty : TypeId} {tmps : Array Value} {x : Value} (h : isCell r ty fn.results.toList = true) (hx : (do loadVar ty (← asAddr (tmps.getD r undef))).run P w = .ok x w) :
    (results fn tmps).run P w = .ok x w := by
  have e : fn.results = #[.cell r ty] := by
    unfold isCell at h
    split at h
    · rename_i a t hl
      simp only [Bool.and_eq_true, beq_iff_eq] at h
      obtain ⟨rfl, rfl⟩ := h
      rw [← Array.toArray_toList (xs := fn.results), hl]
    · cases h
  simp only [results, e]
  simp only [Sem.run_bind] at hx ⊢
  have e2 : tmps.getD r undef = tmps[r]?.getD undef := by simp
  rw [e2] at hx
  simp only [Result.andThen] at hx
  simp [Sem.run_bind, Result.andThen]
  cases h1 : Sem.run P (asAddr (tmps[r]?.getD undef)) w with
  | halt _ _ => rw [h1] at hx; simp at hx
  | ok a w1 =>
    rw [h1] at hx
    simp only at hx ⊢
    rw [hx]
    simp

/-- **From the code to the contract**, where the result lies in a variable. -/
theorem does_introC {f : FuncId} {mc : MC} {N : Nat} {fx : List Nat} {r : Nat} {ty : TypeId} {agg : Bool} {sz : Nat} {args outs : List AV} {al : Bool} {res : AV} (n : Nat) (hn0 : args.length = n) (hchk : fnCC P f n N r ty agg sz fx mc = true)
    (h : awp P mc (retVC n r agg sz fx al res outs) (stl (zipA 0 args))) : Does P f args al res outs := by
  subst hn0
  unfold fnCC at hchk
  split at hchk
  rotate_left
  · cases hchk
  rename_i fn hfn
  simp only [Bool.and_eq_true, beq_iff_eq, decide_eq_true_eq, Bool.not_eq_true', List.all_eq_true] at hchk
  obtain ⟨⟨⟨⟨⟨⟨⟨⟨⟨hname, hN⟩, hnN⟩, hres⟩, hok⟩, hnfx⟩, hnd⟩, hrN⟩, hfn2⟩, hbody⟩ := hchk
  split at hbody
  rotate_left
  · cases hbody
  rename_i code hcode
  refine ⟨by simp [fnOk, hfn, hname, hcode], ?_⟩
  intro w Fz xs os hrep hos hfz hlt
  obtain ⟨own, hown, hown0, hond, hodj, hom, hlen⟩ := args_own hrep hos
  let c : Ctx := { w0 := w, Fz := Fz, own0 := os, fx := fun e => if fx.contains e then some (xs.getD e undef) else none }
  have hcfx : ∀ e, c.fx e ≠ none → e ∈ fx := by
    intro e he
    by_cases h : fx.contains e = true
    · simpa using h
    · simp only [c] at he; rw [if_neg h] at he; exact absurd rfl he
  let a0 : Act := { tmps := xs.toArray ++ Array.replicate (fn.ntmps - xs.toArray.size) undef, defers := [] }
  have htm : ∀ k, tmOf a0 k = xs.getD k undef := by
    intro k
    simp only [tmOf, a0, Array.getD_eq_getD_getElem?, List.getD_eq_getElem?_getD]
    by_cases hk : k < xs.length
    · rw [Array.getElem?_append_left (by simpa using hk)]; simp
    · rw [Array.getElem?_append_right (by simp; omega), List.getElem?_eq_none (by omega)]
      simp only [List.size_toArray]
      by_cases h2 : k - xs.length < fn.ntmps - xs.length
      · simp [h2]
      · rw [Array.getElem?_eq_none (by simp; omega)]
  have S : Sim c N (stl (zipA 0 args)) a0 w := by
    refine ⟨rfl, ⟨by simp only [a0, Array.size_append, List.size_toArray, Array.size_replicate]; omega, ?_⟩, own, ?_⟩
    · intro k v hk
      simp only [c] at hk
      split at hk
      · simp only [Option.some.injEq] at hk; rw [htm, hk]
      · cases hk
    · have hX : ∀ b, owned own [] b ↔ b ∈ os := fun b => by
        rw [hom b]
        constructor
        · rintro (h | h)
          · exact h
          · simp at h
        · exact fun h => .inl h
      refine ⟨Ext.refl _ _, ?_, hond, hodj, by simp, by simp, ?_⟩
      · intro k
        rw [htm, stl_zipA]
        simp only [Nat.zero_le, if_true, Nat.sub_zero]
        cases hk : args[k]? with
        | none =>
          have : args.length ≤ k := by simpa using hk
          simp [RepV, hown0 k this]
        | some av =>
          obtain ⟨x, hx, hr⟩ := hown k av hk
          simp only [Option.getD_some, List.getD_eq_getElem?_getD, hx]
          have := hr.keep (K := fun _ _ => false) (L' := locs (stl (zipA 0 args)) (tmOf a0) w) (fun _ _ _ _ h => by simp [noL] at h) _ _ _ (w' := w) (Fz' := frz c w (owned own []))
            ⟨fun b hb => ⟨⟨hlt b hb, .inr (.inl hb), fun ho => (hfz b ((hX b).1 ho)).1 hb⟩, rfl⟩, fun _ _ => rfl⟩
          rwa [killV_none] at this
      · intro b hb
        have := (hX b).1 hb
        exact ⟨.inl this, (hfz b this).2⟩
  refine calls_of_wp hfn hcode ?_
  refine c_sound (c := c) hcfx mc code hbody (stl (zipA 0 args)) a0 w ?_ S h
  -- the end
  have fin : ∀ (st : St) (a : Act) (w' : World), Sim c N st a w' → (cellV' (st r) agg sz fun x => killV allK x = res ∧ (al = true ∨ nfz res = true) ∧ outsA fx st 0 args.length = outs) →
      a.defers = [] ∧ ∃ v, (results fn a.tmps).run P w' = .ok v w' ∧ ∃ x ox oo, Ending.returned v = .returned x ∧ Ext w w' os ∧ RepV w' (fzP Fz w w' os (ox ++ oo) al) noL res x ox ∧ RepVs w' (fzP Fz w w' os (ox ++ oo) true) noL outs xs oo ∧
        (ox ++ oo).Nodup ∧ ∀ b ∈ ox ++ oo, (b ∈ os ∨ w.heap.size ≤ b) ∧ b < w'.heap.size := by
    rintro st a w' ⟨hd, hs, own', C⟩ hcell
    have hrr := C.rep r
    obtain ⟨x, av, ox, hrun, hrep, hmem, hnox, h1, h2, h3⟩ := cellV'_rep (own := own' r) hok hrr (C.nd r) hcell
    have hsub : ∀ b ∈ ox ++ ((List.range' 0 xs.length).filter fx.contains).flatMap own', owned own' [] b := by
      intro b hb
      rcases List.mem_append.1 hb with hb | hb
      · exact .inl ⟨r, hmem b hb⟩
      · obtain ⟨k, _, hk⟩ := List.mem_flatMap.1 hb; exact .inl ⟨k, hk⟩
    refine ⟨hd, _, results_cellV hres hrun, x, ox, ((List.range' 0 xs.length).filter fx.contains).flatMap own', rfl, C.fr, ?_, ?_, ?_, ?_⟩
    · have hr2 := hrep.keep (K := allK) (L' := noL) (fun _ _ _ h => by simp [allK] at h) _ _ _ (w' := w') (Fz' := fzP Fz w w' os (ox ++ ((List.range' 0 xs.length).filter fx.contains).flatMap own') true) (by
        refine ⟨fun b hb => ⟨⟨?_, hb.1, ?_⟩, rfl⟩, fun _ _ => rfl⟩
        · rcases hb.2.1 with h | h | h
          · exact .inr h
          · exact .inl ⟨rfl, .inl h⟩
          · exact .inl ⟨rfl, .inr h⟩
        · intro hm
          exact hb.2.2 (hsub b hm))
      rw [h1] at hr2
      rcases h2 with h2 | h2
      · rw [h2]; exact hr2
      · exact nfzV res hr2 h2
    · rw [← h3, ← hlen]
      refine outs_rep (own := own') (tm := tmOf a) ?_ xs 0 ?_
      · intro k
        refine (C.rep k).keep (K := allK) (L' := noL) (fun _ _ _ h => by simp [allK] at h) _ _ _ ?_
        refine ⟨fun b hb => ⟨⟨?_, hb.1, ?_⟩, rfl⟩, fun _ _ => rfl⟩
        · rcases hb.2.1 with h | h | h
          · exact .inr h
          · exact .inl ⟨rfl, .inl h⟩
          · exact .inl ⟨rfl, .inr h⟩
        · intro hm
          exact hb.2.2 (hsub b hm)
      · intro j hj x hx
        have := hs.2 (0 + j) (xs.getD (0 + j) undef) (by simp only [c]; rw [if_pos hj])
        rw [this]
        simp [hx]
    · rw [List.nodup_append]
      refine ⟨hnox, flat_nodup C.nd C.dj (List.Nodup.sublist List.filter_sublist List.nodup_range'), ?_⟩
      intro b hb b' hb' e
      subst e
      obtain ⟨k, hk, hbk⟩ := List.mem_flatMap.1 hb'
      have hkf : k ∈ fx := by have := (List.mem_filter.1 hk).2; simpa using this
      exact C.dj r k (fun e => by rw [e] at hnfx; simp [hkf] at hnfx) b (hmem b hb) hbk
    · intro b hb
      exact C.old b (hsub b hb)
  intro e st a w' S' h'
  cases e with
  | nrm => exact fin st a w' S' h'
  | ret => exact fin st a w' S' h'
  | ex id => exact h'.elim
end
end Go.AM
