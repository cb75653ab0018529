/- Own framework: a verified machine over abstract values, part 4. No conditions. -/
import Derived.Test.YtdoclmnfbdolnaaGreatF3
namespace Go.AM
set_option linter.unusedVariables false
set_option linter.unusedSimpArgs false
inductive RS where
  | t (r : Nat)
  | c (r : Nat) (ty : TypeId) (agg : Bool) (sz : Nat)
def RS.slot : RS → Nat
  | .t r => r
  | .c r _ _ _ => r
def rsOk (P : Program) : List ResultVar → List RS → Bool
  | [], [] => true
  | .tmp t :: l, .t r :: rs => t == r && rsOk P l rs
  | .cell a t :: l, .c r ty agg sz :: rs => a == r && t == ty && loadOk P ty agg sz && rsOk P l rs
  | _, _ => false
def resM (st : St) : List RS → (List AV → Prop) → Prop
  | [], k => k []
  | .t r :: l, k => resM st l fun xs => k (st r :: xs)
  | .c r _ agg sz :: l, k => cellV' (st r) agg sz fun x => resM st l fun xs => k (x :: xs)
def tupA : List AV → AV
  | [x] => x
  | l => .tup l
def retM (n : Nat) (rs : List RS) (fx : List Nat) (al : Bool) (R : AV → List AV → Prop) : AE → K
  | .ex _, _ => False
  | _, st => resM st rs fun xs => R (killV allK (tupA xs)) (outsA fx st 0 n) ∧ (al = true ∨ nfz (killV allK (tupA xs)) = true)
def fnM (P : Program) (f : FuncId) (n N : Nat) (rs : List RS) (fx : List Nat) (mc : MC) : Bool :=
  match P.funcs[f]? with
  | some fn => !(fn.name == "runtime.NumGoroutine") && fn.ntmps == N && decide (n ≤ N) && rsOk P fn.results.toList rs && decide ((rs.map RS.slot ++ fx).Nodup) && (fx.all fun t => t < n) &&
    (match fn.body with | some c => mC P N fx mc c | none => false)
  | none => false
def resW (tmps : Array Value) : ResultVar → Sem Value
  | .tmp t => pure (tmps.getD t undef)
  | .cell a t => do loadVar t (← asAddr (tmps.getD a undef))
theorem results_eq {P : Program} {fn : Func} {tmps : Array Value} {w : World} {vs : List Value} (h : (fn.results.toList.mapM (resW tmps)).run P w = .ok vs w) :
    (results fn tmps).run P w = .ok (resVal vs) w := by
  have e : fn.results.mapM (resW tmps) = List.toArray <$> fn.results.toList.mapM (resW tmps) := by
    rw [← List.mapM_toArray, Array.toArray_toList]
  have e2 : results fn tmps = (do
      let vs ← fn.results.mapM (resW tmps)
      pure (if h : vs.size = 1 then vs[0] else .tuple vs)) := by
    unfold results
    congr 1
  rw [e2, e]
  simp only [Sem.run_bind, map_eq_pure_bind, Sem.run_pure, h, Result.andThen_ok]
  congr 1
  match vs with
  | [] => rfl
  | [x] => rfl
  | x :: y :: l => simp [resVal]
section
variable {P : Program} {w : World} {Fz : Nat → Prop} {L : Locs}
theorem resM_rep {st : St} {tmps : Array Value} {own : Nat → List Nat} (h : ∀ k, RepV w Fz L (st k) (tmps.getD k undef) (own k)) (hn : ∀ k, (own k).Nodup) (hd : ∀ j k, j ≠ k → ∀ b ∈ own j, b ∉ own k) :
    ∀ (rs : List RS) (vars : List ResultVar) (k : List AV → Prop), rsOk P vars rs = true → (rs.map RS.slot).Nodup → resM st rs k →
      ∃ vs avs os, (vars.mapM (resW tmps)).run P w = .ok vs w ∧ RepVs w Fz L avs vs os ∧ (∀ b ∈ os, ∃ r ∈ rs.map RS.slot, b ∈ own r) ∧ os.Nodup ∧ k avs
  | [], [], k, _, _, hk => ⟨[], [], [], by simp [List.mapM_nil], by simp [RepVs], by simp, by simp, hk⟩
  | .t r :: rs, .tmp t :: vars, k, ho, hs, hk => by
    simp only [rsOk, Bool.and_eq_true, beq_iff_eq] at ho
    obtain ⟨rfl, ho⟩ := ho
    simp only [List.map_cons, List.nodup_cons] at hs
    simp only [resM] at hk
    obtain ⟨vs, avs, os, g1, g2, g3, g4, g5⟩ := resM_rep h hn hd rs vars _ ho hs.2 hk
    refine ⟨tmps.getD t undef :: vs, st t :: avs, own t ++ os, ?_, ?_, ?_, ?_, g5⟩
    · simp only [List.mapM_cons, resW, Sem.run_bind, Sem.run_pure, Result.andThen_ok, g1]
    · simp only [RepVs]; exact ⟨_, _, _, _, rfl, rfl, h t, g2⟩
    · intro b hb
      rcases List.mem_append.1 hb with hb | hb
      · exact ⟨t, by simp [RS.slot], hb⟩
      · obtain ⟨r, hr, hm⟩ := g3 b hb
        exact ⟨r, by rw [List.map_cons]; exact List.mem_cons_of_mem _ hr, hm⟩
    · rw [List.nodup_append]
      refine ⟨hn t, g4, ?_⟩
      intro b hb b' hb' e
      subst e
      obtain ⟨r, hr, hm⟩ := g3 b hb'
      exact hd t r (fun e => hs.1 (by rw [← e] at hr; simpa [RS.slot] using hr)) b hb hm
  | .c r ty agg sz :: rs, .cell a t :: vars, k, ho, hs, hk => by
    simp only [rsOk, Bool.and_eq_true, beq_iff_eq] at ho
    obtain ⟨⟨⟨rfl, rfl⟩, hl⟩, ho⟩ := ho
    simp only [List.map_cons, List.nodup_cons] at hs
    simp only [resM] at hk
    obtain ⟨x, av, ox, hrun, hrep, hmem, hnox, hk⟩ := cellV'_rep (own := own a) hl (h a) (hn a) hk
    obtain ⟨vs, avs, os, g1, g2, g3, g4, g5⟩ := resM_rep h hn hd rs vars _ ho hs.2 hk
    refine ⟨x :: vs, av :: avs, ox ++ os, ?_, ?_, ?_, ?_, g5⟩
    · have e : (resW tmps (.cell a t)).run P w = .ok x w := hrun
      simp only [List.mapM_cons, Sem.run_bind, e, Sem.run_pure, Result.andThen_ok, g1]
    · simp only [RepVs]; exact ⟨_, _, _, _, rfl, rfl, hrep, g2⟩
    · intro b hb
      rcases List.mem_append.1 hb with hb | hb
      · exact ⟨a, by simp [RS.slot], hmem b hb⟩
      · obtain ⟨r, hr, hm⟩ := g3 b hb
        exact ⟨r, by rw [List.map_cons]; exact List.mem_cons_of_mem _ hr, hm⟩
    · rw [List.nodup_append]
      refine ⟨hnox, g4, ?_⟩
      intro b hb b' hb' e
      subst e
      obtain ⟨r, hr, hm⟩ := g3 b hb'
      exact hd a r (fun e => hs.1 (by rw [← e] at hr; simpa [RS.slot] using hr)) b (hmem b hb) hm
  | [], _ :: _, _, ho, _, _ => by simp [rsOk] at ho
  | .t _ :: _, [], _, ho, _, _ => by simp [rsOk] at ho
  | .c .. :: _, [], _, ho, _, _ => by simp [rsOk] at ho
  | .t _ :: _, .cell .. :: _, _, ho, _, _ => by simp [rsOk] at ho
  | .c .. :: _, .tmp _ :: _, _, ho, _, _ => by simp [rsOk] at ho
theorem tupA_rep {avs : List AV} {vs : List Value} {os : List Nat} (h : RepVs w Fz L avs vs os) : RepV w Fz L (tupA avs) (resVal vs) os := by
  match avs, vs, h with
  | [], vs, h =>
    simp only [RepVs] at h
    obtain ⟨rfl, rfl⟩ := h
    simp [tupA, resVal, RepV, RepVs]
  | [c], vs, h =>
    simp only [RepVs] at h
    obtain ⟨x, xs', o1, o2, rfl, rfl, hc, rfl, rfl⟩ := h
    simpa [tupA, resVal] using hc
  | c :: d :: cs, vs, h =>
    have h' := h
    simp only [RepVs] at h
    obtain ⟨x, xs', o1, o2, rfl, rfl, hc, y, ys, o3, o4, rfl, rfl, hd, hr⟩ := h
    simp only [tupA, resVal, RepV]
    exact ⟨_, rfl, h'⟩
theorem doesM_intro {f : FuncId} {mc : MC} {N : Nat} {rs : List RS} {fx : List Nat} {args : List AV} {al : Bool} {R : AV → List AV → Prop} (n : Nat) (hn0 : args.length = n) (hchk : fnM P f n N rs fx mc = true)
    (h : awp P mc (retM n rs fx al R) (stl (zipA 0 args))) : DoesE P f args al R := by
  subst hn0
  unfold fnM at hchk
  split at hchk
  rotate_left
  · cases hchk
  rename_i fn hfn
  simp only [Bool.and_eq_true, beq_iff_eq, decide_eq_true_eq, Bool.not_eq_true', List.all_eq_true] at hchk
  obtain ⟨⟨⟨⟨⟨⟨hname, hN⟩, hnN⟩, hres⟩, hnd⟩, hfn2⟩, hbody⟩ := hchk
  split at hbody
  rotate_left
  · cases hbody
  rename_i code hcode
  refine ⟨by simp [fnOk, hfn, hname, hcode], ?_⟩
  intro w Fz xs os hrep hos hfz hlt
  obtain ⟨own, hown, hown0, hond, hodj, hom, hlen⟩ := args_own hrep hos
  let c : Ctx := { w0 := w, Fz := Fz, own0 := os, fx := fun e => if fx.contains e then some (xs.getD e undef) else none }
  have hcfx : ∀ e, c.fx e ≠ none → e ∈ fx := by
    intro e he
    by_cases h : fx.contains e = true
    · simpa using h
    · simp only [c] at he; rw [if_neg h] at he; exact absurd rfl he
  let a0 : Act := { tmps := xs.toArray ++ Array.replicate (fn.ntmps - xs.toArray.size) undef, defers := [] }
  have htm : ∀ k, tmOf a0 k = xs.getD k undef := by
    intro k
    simp only [tmOf, a0, Array.getD_eq_getD_getElem?, List.getD_eq_getElem?_getD]
    by_cases hk : k < xs.length
    · rw [Array.getElem?_append_left (by simpa using hk)]; simp
    · rw [Array.getElem?_append_right (by simp; omega), List.getElem?_eq_none (by omega)]
      simp only [List.size_toArray]
      by_cases h2 : k - xs.length < fn.ntmps - xs.length
      · simp [h2]
      · rw [Array.getElem?_eq_none (by simp; omega)]
  have S : Sim c N (stl (zipA 0 args)) a0 w := by
    refine ⟨rfl, ⟨by simp only [a0, Array.size_append, List.size_toArray, Array.size_replicate]; omega, ?_⟩, own, ?_⟩
    · intro k v hk
      simp only [c] at hk
      split at hk
      · simp only [Option.some.injEq] at hk; rw [htm, hk]
      · cases hk
    · have hX : ∀ b, owned own [] b ↔ b ∈ os := fun b => by
        rw [hom b]
        constructor
        · rintro (h | h)
          · exact h
          · simp at h
        · exact fun h => .inl h
      refine ⟨Ext.refl _ _, ?_, hond, hodj, by simp, by simp, ?_⟩
      · intro k
        rw [htm, stl_zipA]
        simp only [Nat.zero_le, if_true, Nat.sub_zero]
        cases hk : args[k]? with
        | none =>
          have : args.length ≤ k := by simpa using hk
          simp [RepV, hown0 k this]
        | some av =>
          obtain ⟨x, hx, hr⟩ := hown k av hk
          simp only [Option.getD_some, List.getD_eq_getElem?_getD, hx]
          have := hr.keep (K := fun _ _ => false) (L' := locs (stl (zipA 0 args)) (tmOf a0) w) (fun _ _ _ _ h => by simp [noL] at h) _ _ _ (w' := w) (Fz' := frz c w (owned own []))
            ⟨fun b hb => ⟨⟨hlt b hb, .inr (.inl hb), fun ho => (hfz b ((hX b).1 ho)).1 hb⟩, rfl⟩, fun _ _ => rfl⟩
          rwa [killV_none] at this
      · intro b hb
        have := (hX b).1 hb
        exact ⟨.inl this, (hfz b this).2⟩
  refine calls_of_wp hfn hcode ?_
  refine c_sound (c := c) hcfx mc code hbody (stl (zipA 0 args)) a0 w ?_ S h
  have fin : ∀ (st : St) (a : Act) (w' : World), Sim c N st a w' → (resM st rs fun xs => R (killV allK (tupA xs)) (outsA fx st 0 args.length) ∧ (al = true ∨ nfz (killV allK (tupA xs)) = true)) →
      a.defers = [] ∧ ∃ v, (results fn a.tmps).run P w' = .ok v w' ∧ ∃ res outs, R res outs ∧ ∃ x ox oo, Ending.returned v = .returned x ∧ Ext w w' os ∧ RepV w' (fzP Fz w w' os (ox ++ oo) al) noL res x ox ∧ RepVs w' (fzP Fz w w' os (ox ++ oo) true) noL outs xs oo ∧
        (ox ++ oo).Nodup ∧ ∀ b ∈ ox ++ oo, (b ∈ os ∨ w.heap.size ≤ b) ∧ b < w'.heap.size := by
    rintro st a w' ⟨hd, hs, own', C⟩ hM
    rw [List.nodup_append] at hnd
    obtain ⟨vs, avs, ox, hrun, hrepM, hmem, hnox, hR, h2⟩ := resM_rep (tmps := a.tmps) (own := own') C.rep C.nd C.dj rs _ _ hres hnd.1 hM
    have hsub : ∀ b ∈ ox ++ ((List.range' 0 xs.length).filter fx.contains).flatMap own', owned own' [] b := by
      intro b hb
      rcases List.mem_append.1 hb with hb | hb
      · obtain ⟨r, _, hr⟩ := hmem b hb; exact .inl ⟨r, hr⟩
      · obtain ⟨k, _, hk⟩ := List.mem_flatMap.1 hb; exact .inl ⟨k, hk⟩
    refine ⟨hd, _, results_eq hrun, _, _, hR, resVal vs, ox, ((List.range' 0 xs.length).filter fx.contains).flatMap own', rfl, C.fr, ?_, ?_, ?_, ?_⟩
    · have hr2 := (tupA_rep hrepM).keep (K := allK) (L' := noL) (fun _ _ _ h => by simp [allK] at h) _ _ _ (w' := w') (Fz' := fzP Fz w w' os (ox ++ ((List.range' 0 xs.length).filter fx.contains).flatMap own') true) (by
        refine ⟨fun b hb => ⟨⟨?_, hb.1, ?_⟩, rfl⟩, fun _ _ => rfl⟩
        · rcases hb.2.1 with h | h | h
          · exact .inr h
          · exact .inl ⟨rfl, .inl h⟩
          · exact .inl ⟨rfl, .inr h⟩
        · intro hm
          exact hb.2.2 (hsub b hm))
      rcases h2 with h2 | h2
      · rw [h2]; exact hr2
      · exact nfzV _ hr2 h2
    · rw [← hlen]
      refine outs_rep (own := own') (tm := tmOf a) ?_ xs 0 ?_
      · intro k
        refine (C.rep k).keep (K := allK) (L' := noL) (fun _ _ _ h => by simp [allK] at h) _ _ _ ?_
        refine ⟨fun b hb => ⟨⟨?_, hb.1, ?_⟩, rfl⟩, fun _ _ => rfl⟩
        · rcases hb.2.1 with h | h | h
          · exact .inr h
          · exact .inl ⟨rfl, .inl h⟩
          · exact .inl ⟨rfl, .inr h⟩
        · intro hm
          exact hb.2.2 (hsub b hm)
      · intro j hj x hx
        have := hs.2 (0 + j) (xs.getD (0 + j) undef) (by simp only [c]; rw [if_pos hj])
        rw [this]
        simp [hx]
    · rw [List.nodup_append]
      refine ⟨hnox, flat_nodup C.nd C.dj (List.Nodup.sublist List.filter_sublist List.nodup_range'), ?_⟩
      intro b hb b' hb' e
      subst e
      obtain ⟨k, hk, hbk⟩ := List.mem_flatMap.1 hb'
      have hkf : k ∈ fx := by have := (List.mem_filter.1 hk).2; simpa using this
      obtain ⟨r, hr, hbr⟩ := hmem b hb
      exact C.dj r k (fun e => hnd.2.2 r hr k hkf e) b hbr hbk
    · intro b hb
      exact C.old b (hsub b hb)
  intro e st a w' S' h'
  cases e with
  | nrm => exact fin st a w' S' h'
  | ret => exact fin st a w' S' h'
  | ex id => exact h'.elim
end
theorem evRM :
    (∀ (st : St) (k : List AV → Prop), resM st [] k = k []) ∧
    (∀ (st : St) (r : Nat) (l : List RS) (k : List AV → Prop), resM st (.t r :: l) k = resM st l fun xs => k (st r :: xs)) ∧
    (∀ (st : St) (r : Nat) (ty : TypeId) (agg : Bool) (sz : Nat) (l : List RS) (k : List AV → Prop), resM st (.c r ty agg sz :: l) k = cellV' (st r) agg sz fun x => resM st l fun xs => k (x :: xs)) ∧
    (∀ (n : Nat) (rs : List RS) (fx : List Nat) (al : Bool) (R : AV → List AV → Prop) (st : St), retM n rs fx al R .ret st = resM st rs fun xs => R (killV allK (tupA xs)) (outsA fx st 0 n) ∧ (al = true ∨ nfz (killV allK (tupA xs)) = true)) ∧
    (∀ (n : Nat) (rs : List RS) (fx : List Nat) (al : Bool) (R : AV → List AV → Prop) (st : St), retM n rs fx al R .nrm st = resM st rs fun xs => R (killV allK (tupA xs)) (outsA fx st 0 n) ∧ (al = true ∨ nfz (killV allK (tupA xs)) = true)) ∧
    (∀ (x y : AV) (l : List AV), tupA (x :: y :: l) = .tup (x :: y :: l)) ∧
    (∀ (x : AV), tupA [x] = x) := ⟨fun _ _ => rfl, fun _ _ _ _ => rfl, fun _ _ _ _ _ _ _ => rfl, fun _ _ _ _ _ _ => rfl, fun _ _ _ _ _ _ => rfl, fun _ _ _ => rfl, fun _ => rfl⟩
end Go.AM
