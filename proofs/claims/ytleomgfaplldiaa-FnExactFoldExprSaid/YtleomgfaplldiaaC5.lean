/- Own framework, part 23: from the code of a function to its contract. -/
import Derived.Test.YtleomgfaplldiaaC4
namespace Go.AM
set_option linter.unusedVariables false
set_option linter.unusedSimpArgs false


mutual
/-- Leans on nothing frozen. -/
def nfz : AV → Bool
  | .v _ => true
  | .dead => true
  | .usl _ _ l => nfzss l
  | .box _ c => nfzs c
  | .agg l => nfzs l
  | .tup l => nfzs l
  | .clo _ l => nfzs l
  | .fsl _ l => l.isEmpty
  | .fptr _ => false
  | .ref _ _ _ _ => false
  | .sref _ _ _ _ => false
def nfzs : List AV → Bool
  | [] => true
  | c :: cs => nfz c && nfzs cs
def nfzss : List (List AV) → Bool
  | [] => true
  | r :: rs => nfzs r && nfzss rs
end

mutual
theorem nfzC {w : World} {Fz Fz' : Nat → Prop} : ∀ (av : AV) {x : Value} {o : List Nat}, RepC w Fz av x o → nfz av = true → RepC w Fz' av x o
  | .v y, x, o, h, _ => by simpa only [RepC] using h
  | .dead, x, o, h, _ => by simpa only [RepC] using h
  | .fsl sz l, x, o, h, hn => by
    simp only [nfz, List.isEmpty_iff] at hn
    simp only [RepC] at h ⊢
    obtain ⟨ho, A, c, hx, hc, _⟩ := h
    exact ⟨ho, A, c, hx, hc, .inl hn⟩
  | .usl e sz l, x, o, h, hn => by
    simp only [RepC] at h ⊢
    rcases h with h | ⟨g, hh, c, cur, xs, o', hx, ho, hg, hc, hsz, hr, hat⟩
    · exact .inl h
    · exact .inr ⟨g, hh, c, cur, xs, o', hx, ho, hg, hc, hsz, nfzRs l hr (by simpa [nfz] using hn), hat⟩
  | .box e cs, x, o, h, hn => by
    simp only [RepC] at h ⊢
    obtain ⟨g, xs, o', hx, ho, hg, hr⟩ := h
    exact ⟨g, xs, o', hx, ho, hg, nfzR cs hr (by simpa [nfz] using hn)⟩
  | .fptr _, x, o, h, hn => by simp [nfz] at hn
  | .agg _, x, o, h, hn => by simp [RepC] at h
  | .tup _, x, o, h, hn => by simp [RepC] at h
  | .clo _ _, x, o, h, hn => by simp [RepC] at h
  | .ref _ _ _ _, x, o, h, hn => by simp [RepC] at h
  | .sref _ _ _ _, x, o, h, hn => by simp [RepC] at h
theorem nfzR {w : World} {Fz Fz' : Nat → Prop} : ∀ (cs : List AV) {xs : List Value} {o : List Nat}, RepRow w Fz cs xs o → nfzs cs = true → RepRow w Fz' cs xs o
  | [], xs, o, h, _ => by simpa only [RepRow] using h
  | c :: cs, xs, o, h, hn => by
    simp only [nfzs, Bool.and_eq_true] at hn
    simp only [RepRow] at h ⊢
    obtain ⟨x, xs', o1, o2, hx, ho, hc, hr⟩ := h
    exact ⟨x, xs', o1, o2, hx, ho, nfzC c hc hn.1, nfzR cs hr hn.2⟩
theorem nfzRs {w : World} {Fz Fz' : Nat → Prop} {sz : Nat} : ∀ (rs : List (List AV)) {xs : List Value} {o : List Nat}, RepRows w Fz sz rs xs o → nfzss rs = true → RepRows w Fz' sz rs xs o
  | [], xs, o, h, _ => by simpa only [RepRows] using h
  | r :: rs, xs, o, h, hn => by
    simp only [nfzss, Bool.and_eq_true] at hn
    simp only [RepRows] at h ⊢
    obtain ⟨x1, x2, o1, o2, hx, ho, hl, h1, h2⟩ := h
    exact ⟨x1, x2, o1, o2, hx, ho, hl, nfzR r h1 hn.1, nfzRs rs h2 hn.2⟩
end

mutual
theorem nfzV {w : World} {Fz Fz' : Nat → Prop} {L L' : Locs} : ∀ (av : AV) {x : Value} {o : List Nat}, RepV w Fz L av x o → nfz av = true → RepV w Fz' L' av x o
  | .v y, x, o, h, hn => by simp only [RepV] at h ⊢; exact nfzC _ h hn
  | .fsl sz l, x, o, h, hn => by simp only [RepV] at h ⊢; exact nfzC _ h hn
  | .usl e sz l, x, o, h, hn => by simp only [RepV] at h ⊢; exact nfzC _ h hn
  | .fptr c, x, o, h, hn => by simp only [RepV] at h ⊢; exact nfzC _ h hn
  | .box e c, x, o, h, hn => by simp only [RepV] at h ⊢; exact nfzC _ h hn
  | .dead, x, o, h, hn => by simpa only [RepV] using h
  | .agg l, x, o, h, hn => by simp only [RepV] at h ⊢; obtain ⟨xs, hx, h⟩ := h; exact ⟨xs, hx, nfzVs l h (by simpa [nfz] using hn)⟩
  | .tup l, x, o, h, hn => by simp only [RepV] at h ⊢; obtain ⟨xs, hx, h⟩ := h; exact ⟨xs, hx, nfzVs l h (by simpa [nfz] using hn)⟩
  | .clo f l, x, o, h, hn => by simp only [RepV] at h ⊢; obtain ⟨xs, hx, h⟩ := h; exact ⟨xs, hx, nfzVs l h (by simpa [nfz] using hn)⟩
  | .ref _ _ _ _, x, o, h, hn => by simp [nfz] at hn
  | .sref _ _ _ _, x, o, h, hn => by simp [nfz] at hn
theorem nfzVs {w : World} {Fz Fz' : Nat → Prop} {L L' : Locs} : ∀ (l : List AV) {xs : List Value} {o : List Nat}, RepVs w Fz L l xs o → nfzs l = true → RepVs w Fz' L' l xs o
  | [], xs, o, h, _ => by simpa only [RepVs] using h
  | c :: cs, xs, o, h, hn => by
    simp only [nfzs, Bool.and_eq_true] at hn
    simp only [RepVs] at h ⊢
    obtain ⟨x, xs', o1, o2, hx, ho, hc, hr⟩ := h
    exact ⟨x, xs', o1, o2, hx, ho, nfzV c hc hn.1, nfzVs cs hr hn.2⟩
end

def zipA : Nat → List AV → List (Nat × AV)
  | _, [] => []
  | k, av :: l => (k, av) :: zipA (k + 1) l

theorem stl_zipA : ∀ (l : List AV) (k j : Nat), stl (zipA k l) j = if k ≤ j then (l[j - k]?).getD .dead else .dead
  | [], k, j => by simp [zipA, stl]
  | av :: l, k, j => by
    simp only [zipA, stl, stl_zipA l (k + 1) j]
    by_cases h : j = k
    · subst h; simp
    · by_cases h2 : k ≤ j
      · have : k + 1 ≤ j := by omega
        simp only [h, if_false, this, if_true, h2]
        have e : j - k = (j - (k + 1)) + 1 := by omega
        rw [e, List.getElem?_cons_succ]
      · have : ¬ k + 1 ≤ j := by omega
        simp [h, this, h2]

def resA (st : St) : List Nat → AV
  | [t] => st t
  | ts => .tup (ts.map st)

def outsA (fx : List Nat) (st : St) : Nat → Nat → List AV
  | _, 0 => []
  | k, n + 1 => (if fx.contains k then killV allK (st k) else .dead) :: outsA fx st (k + 1) n

/-- What is asked at a function's end. -/
def retV (n : Nat) (rs fx : List Nat) (al : Bool) (res : AV) (outs : List AV) : AE → K
  | .ex _, _ => False
  | _, st => killV allK (resA st rs) = res ∧ (al = true ∨ nfz res = true) ∧ outsA fx st 0 n = outs

def resOk : List ResultVar → List Nat → Bool
  | [], [] => true
  | .tmp t :: l, r :: rs => t == r && resOk l rs
  | _, _ => false

def fnC (P : Program) (f : FuncId) (n N : Nat) (rs fx : List Nat) (mc : MC) : Bool :=
  match P.funcs[f]? with
  | some fn => !(fn.name == "runtime.NumGoroutine") && fn.ntmps == N && decide (n ≤ N) && resOk fn.results.toList rs && decide (rs.length ≤ 3) && decide ((rs ++ fx).Nodup) && (rs.all fun t => t < N) && (fx.all fun t => t < n) &&
    (match fn.body with | some c => mC P N fx mc c | none => false)
  | none => false

def resVal : List Value → Value
  | [x] => x
  | l => .tuple l.toArray

theorem results_run {P : Program} {fn : Func} {rs : List Nat} {tmps : Array Value} {w : World} (h : resOk fn.results.toList rs = true) (hl : rs.length ≤ 3) : (results fn tmps).run P w = .ok (resVal (rs.map fun t => tmps.getD t undef)) w := by
  have key : ∀ (l : List ResultVar) (rs : List Nat), resOk l rs = true → l = rs.map ResultVar.tmp := by
    intro l
    induction l with
    | nil => intro rs h; cases rs with | nil => rfl | cons _ _ => simp [resOk] at h
    | cons v l ih =>
      intro rs h
      cases v with
      | tmp t => cases rs with
        | nil => simp [resOk] at h
        | cons r rs => simp only [resOk, Bool.and_eq_true, beq_iff_eq] at h; simp [h.1, ih rs h.2]
      | cell _ _ => cases rs <;> simp [resOk] at h
  have e := key _ _ h
  have e' : fn.results = (rs.map ResultVar.tmp).toArray := by rw [← e, Array.toArray_toList]
  match rs, hl with
  | [], _ => exact results_none (by simpa using e') tmps P w
  | [t], _ => exact results_tmp (by simpa using e') tmps P w
  | [t, u], _ => exact results_tmp2 (by simpa using e') tmps P w
  | [t, u, v], _ => (have e3 : fn.results = #[.tmp t, .tmp u, .tmp v] := by simpa using e'); simp [results, e3, resVal]
  | _ :: _ :: _ :: _ :: _, hl => simp at hl

section
variable {P : Program} {w : World} {Fz : Nat → Prop} {L : Locs}

theorem args_own : ∀ {args : List AV} {xs : List Value} {os : List Nat}, RepVs w Fz L args xs os → os.Nodup → ∃ own : Nat → List Nat, (∀ (k : Nat) (av : AV), args[k]? = some av → ∃ x, xs[k]? = some x ∧ RepV w Fz L av x (own k)) ∧ (∀ k, args.length ≤ k → own k = []) ∧
    (∀ k, (own k).Nodup) ∧ (∀ j k, j ≠ k → ∀ b ∈ own j, b ∉ own k) ∧ (∀ b, b ∈ os ↔ ∃ k, b ∈ own k) ∧ xs.length = args.length
  | [], xs, os, h, hn => by
    simp only [RepVs] at h
    obtain ⟨rfl, rfl⟩ := h
    exact ⟨fun _ => [], by simp, by simp, by simp, by simp, by simp, rfl⟩
  | c :: cs, xs, os, h, hn => by
    simp only [RepVs] at h
    obtain ⟨x, xs', o1, o2, rfl, rfl, hc, hr⟩ := h
    obtain ⟨h1, h2, h3⟩ := List.nodup_append.1 hn
    obtain ⟨own, ha, hb, hnd, hdj, hm, hl⟩ := args_own hr h2
    refine ⟨fun k => match k with | 0 => o1 | k + 1 => own k, ?_, ?_, ?_, ?_, ?_, by simp [hl]⟩
    · intro k av hk
      cases k with
      | zero => simp at hk; subst hk; exact ⟨x, by simp, hc⟩
      | succ k => simp at hk; obtain ⟨z, hz, hr⟩ := ha k av hk; exact ⟨z, by simpa using hz, hr⟩
    · intro k hk
      cases k with
      | zero => simp at hk
      | succ k => exact hb k (by simpa using hk)
    · intro k
      cases k with
      | zero => exact h1
      | succ k => exact hnd k
    · intro j k hjk b hbj hbk
      cases j with
      | zero => cases k with
        | zero => exact hjk rfl
        | succ k => exact h3 b hbj b ((hm b).2 ⟨k, hbk⟩) rfl
      | succ j => cases k with
        | zero => exact h3 b hbk b ((hm b).2 ⟨j, hbj⟩) rfl
        | succ k => exact hdj j k (by omega) b hbj hbk
    · intro b
      constructor
      · intro hbm
        rcases List.mem_append.1 hbm with h | h
        · exact ⟨0, h⟩
        · obtain ⟨k, hk⟩ := (hm b).1 h; exact ⟨k + 1, hk⟩
      · rintro ⟨k, hk⟩
        cases k with
        | zero => exact List.mem_append.2 (.inl hk)
        | succ k => exact List.mem_append.2 (.inr ((hm b).2 ⟨k, hk⟩))

theorem flat_nodup {own : Nat → List Nat} (hn : ∀ k, (own k).Nodup) (hd : ∀ j k, j ≠ k → ∀ b ∈ own j, b ∉ own k) : ∀ {ts : List Nat}, ts.Nodup → (ts.flatMap own).Nodup
  | [], _ => by simp
  | t :: ts, h => by
    rw [List.nodup_cons] at h
    rw [List.flatMap_cons, List.nodup_append]
    refine ⟨hn t, flat_nodup hn hd h.2, ?_⟩
    intro b hb b' hb' e
    subst e
    obtain ⟨u, hu, hbu⟩ := List.mem_flatMap.1 hb'
    exact hd t u (fun e => h.1 (e ▸ hu)) b hb hbu

theorem slots_rep {st : St} {tm : Nat → Value} {own : Nat → List Nat} (h : ∀ k, RepV w Fz L (st k) (tm k) (own k)) : ∀ (ts : List Nat), RepVs w Fz L (ts.map st) (ts.map tm) (ts.flatMap own)
  | [] => by simp [RepVs]
  | t :: ts => by
    simp only [List.map_cons, List.flatMap_cons, RepVs]
    exact ⟨_, _, _, _, rfl, rfl, h t, slots_rep h ts⟩

theorem resA_rep {st : St} {tm : Nat → Value} {own : Nat → List Nat} (h : ∀ k, RepV w Fz L (st k) (tm k) (own k)) (ts : List Nat) : RepV w Fz L (resA st ts) (resVal (ts.map tm)) (ts.flatMap own) := by
  match ts with
  | [] => simp [resA, resVal, RepV, RepVs]
  | [t] => simpa [resA, resVal] using h t
  | t :: u :: ts =>
    simp only [resA, List.map_cons, resVal, RepV]
    exact ⟨_, rfl, slots_rep h (t :: u :: ts)⟩

theorem outs_rep {st : St} {tm : Nat → Value} {own : Nat → List Nat} {fx : List Nat} (h : ∀ k, RepV w Fz L (killV allK (st k)) (tm k) (own k)) : ∀ (xs : List Value) (k : Nat), (∀ j, fx.contains (k + j) = true → ∀ x, xs[j]? = some x → tm (k + j) = x) →
    RepVs w Fz L (outsA fx st k xs.length) xs (((List.range' k xs.length).filter fx.contains).flatMap own)
  | [], k, _ => by simp [outsA, RepVs]
  | x :: xs, k, hx => by
    have ih := outs_rep h xs (k + 1) (fun j hj y hy => by
      have := hx (j + 1) (by rw [show k + (j + 1) = k + 1 + j from by omega]; exact hj) y (by simpa using hy)
      rw [← this]; congr 1; omega)
    simp only [List.length_cons, outsA, List.range'_succ, RepVs]
    by_cases hk : fx.contains k = true
    · rw [if_pos hk, List.filter_cons_of_pos hk, List.flatMap_cons]
      have := hx 0 (by simpa using hk) x (by simp)
      refine ⟨x, xs, own k, _, rfl, rfl, ?_, ih⟩
      rw [← this]; exact h k
    · rw [if_neg hk, List.filter_cons_of_neg (by simpa using hk)]
      exact ⟨x, xs, [], _, rfl, rfl, by simp [RepV], ih⟩

/-- **From the code to the contract.** -/
theorem does_intro {f : FuncId} {mc : MC} {N : Nat} {rs fx : List Nat} {args outs : List AV} {al : Bool} {res : AV} (n : Nat) (hn0 : args.length = n) (hchk : fnC P f n N rs fx mc = true)
    (h : awp P mc (retV n rs fx al res outs) (stl (zipA 0 args))) : Does P f args al res outs := by
  subst hn0
  unfold fnC at hchk
  split at hchk
  rotate_left
  · cases hchk
  rename_i fn hfn
  simp only [Bool.and_eq_true, beq_iff_eq, decide_eq_true_eq, Bool.not_eq_true', List.all_eq_true] at hchk
  obtain ⟨⟨⟨⟨⟨⟨⟨⟨hname, hN⟩, hnN⟩, hres⟩, hrl⟩, hnd⟩, hrN⟩, hfn2⟩, hbody⟩ := hchk
  split at hbody
  rotate_left
  · cases hbody
  rename_i code hcode
  refine ⟨by simp [fnOk, hfn, hname, hcode], ?_⟩
  intro w Fz xs os hrep hos hfz hlt
  obtain ⟨own, hown, hown0, hond, hodj, hom, hlen⟩ := args_own hrep hos
  let c : Ctx := { w0 := w, Fz := Fz, own0 := os, fx := fun e => if fx.contains e then some (xs.getD e undef) else none }
  have hcfx : ∀ e, c.fx e ≠ none → e ∈ fx := by
    intro e he
    by_cases h : fx.contains e = true
    · simpa using h
    · simp only [c] at he; rw [if_neg h] at he; exact absurd rfl he
  let a0 : Act := { tmps := xs.toArray ++ Array.replicate (fn.ntmps - xs.toArray.size) undef, defers := [] }
  have htm : ∀ k, tmOf a0 k = xs.getD k undef := by
    intro k
    simp only [tmOf, a0, Array.getD_eq_getD_getElem?, List.getD_eq_getElem?_getD]
    by_cases hk : k < xs.length
    · rw [Array.getElem?_append_left (by simpa using hk)]; simp
    · rw [Array.getElem?_append_right (by simp; omega), List.getElem?_eq_none (by omega)]
      simp only [List.size_toArray]
      by_cases h2 : k - xs.length < fn.ntmps - xs.length
      · simp [h2]
      · rw [Array.getElem?_eq_none (by simp; omega)]
  have S : Sim c N (stl (zipA 0 args)) a0 w := by
    refine ⟨rfl, ⟨by simp only [a0, Array.size_append, List.size_toArray, Array.size_replicate]; omega, ?_⟩, own, ?_⟩
    · intro k v hk
      simp only [c] at hk
      split at hk
      · simp only [Option.some.injEq] at hk; rw [htm, hk]
      · cases hk
    · have hX : ∀ b, owned own [] b ↔ b ∈ os := fun b => by
        rw [hom b]
        constructor
        · rintro (h | h)
          · exact h
          · simp at h
        · exact fun h => .inl h
      refine ⟨Ext.refl _ _, ?_, hond, hodj, by simp, by simp, ?_⟩
      · intro k
        rw [htm, stl_zipA]
        simp only [Nat.zero_le, if_true, Nat.sub_zero]
        cases hk : args[k]? with
        | none =>
          have : args.length ≤ k := by simpa using hk
          simp [RepV, hown0 k this]
        | some av =>
          obtain ⟨x, hx, hr⟩ := hown k av hk
          simp only [Option.getD_some, List.getD_eq_getElem?_getD, hx]
          have := hr.keep (K := fun _ _ => false) (L' := locs (stl (zipA 0 args)) (tmOf a0) w) (fun _ _ _ _ h => by simp [noL] at h) _ _ _ (w' := w) (Fz' := frz c w (owned own []))
            ⟨fun b hb => ⟨⟨hlt b hb, .inr (.inl hb), fun ho => (hfz b ((hX b).1 ho)).1 hb⟩, rfl⟩, fun _ _ => rfl⟩
          rwa [killV_none] at this
      · intro b hb
        have := (hX b).1 hb
        exact ⟨.inl this, (hfz b this).2⟩
  refine calls_of_wp hfn hcode ?_
  refine c_sound (c := c) hcfx mc code hbody (stl (zipA 0 args)) a0 w ?_ S h
  -- the end
  have fin : ∀ (st : St) (a : Act) (w' : World), Sim c N st a w' → (killV allK (resA st rs) = res ∧ (al = true ∨ nfz res = true) ∧ outsA fx st 0 args.length = outs) →
      a.defers = [] ∧ ∃ v, (results fn a.tmps).run P w' = .ok v w' ∧ ∃ x ox oo, Ending.returned v = .returned x ∧ Ext w w' os ∧ RepV w' (fzP Fz w w' os (ox ++ oo) al) noL res x ox ∧ RepVs w' (fzP Fz w w' os (ox ++ oo) true) noL outs xs oo ∧
        (ox ++ oo).Nodup ∧ ∀ b ∈ ox ++ oo, (b ∈ os ∨ w.heap.size ≤ b) ∧ b < w'.heap.size := by
    rintro st a w' ⟨hd, hs, own', C⟩ ⟨h1, h2, h3⟩
    refine ⟨hd, _, results_run hres hrl, resVal (rs.map (tmOf a)), rs.flatMap own', ((List.range' 0 xs.length).filter fx.contains).flatMap own', rfl, C.fr, ?_, ?_, ?_, ?_⟩
    · have hr := resA_rep C.rep rs
      have hr2 := hr.keep (K := allK) (L' := noL) (fun _ _ _ h => by simp [allK] at h) _ _ _ (w' := w') (Fz' := fzP Fz w w' os (rs.flatMap own' ++ ((List.range' 0 xs.length).filter fx.contains).flatMap own') true) (by
        refine ⟨fun b hb => ⟨⟨?_, hb.1, ?_⟩, rfl⟩, fun _ _ => rfl⟩
        · rcases hb.2.1 with h | h | h
          · exact .inr h
          · exact .inl ⟨rfl, .inl h⟩
          · exact .inl ⟨rfl, .inr h⟩
        · intro hm
          rw [← List.flatMap_append] at hm
          obtain ⟨k, _, hk⟩ := List.mem_flatMap.1 hm
          exact hb.2.2 (.inl ⟨k, hk⟩))
      rw [h1] at hr2
      rcases h2 with h2 | h2
      · rw [h2]; exact hr2
      · exact nfzV res hr2 h2
    · rw [← h3, ← hlen]
      refine outs_rep (own := own') (tm := tmOf a) ?_ xs 0 ?_
      · intro k
        refine (C.rep k).keep (K := allK) (L' := noL) (fun _ _ _ h => by simp [allK] at h) _ _ _ ?_
        refine ⟨fun b hb => ⟨⟨?_, hb.1, ?_⟩, rfl⟩, fun _ _ => rfl⟩
        · rcases hb.2.1 with h | h | h
          · exact .inr h
          · exact .inl ⟨rfl, .inl h⟩
          · exact .inl ⟨rfl, .inr h⟩
        · intro hm
          rw [← List.flatMap_append] at hm
          obtain ⟨k, _, hk⟩ := List.mem_flatMap.1 hm
          exact hb.2.2 (.inl ⟨k, hk⟩)
      · intro j hj x hx
        have := hs.2 (0 + j) (xs.getD (0 + j) undef) (by simp only [c]; rw [if_pos hj])
        rw [this]
        simp [hx]
    · rw [← List.flatMap_append]
      refine flat_nodup C.nd C.dj ?_
      rw [List.nodup_append] at hnd ⊢
      refine ⟨hnd.1, List.Nodup.sublist List.filter_sublist List.nodup_range', ?_⟩
      intro x hx y hy e
      exact hnd.2.2 x hx y (by have := (List.mem_filter.1 hy).2; simpa using this) e
    · intro b hb
      rw [← List.flatMap_append] at hb
      obtain ⟨k, _, hk⟩ := List.mem_flatMap.1 hb
      exact C.old b (.inl ⟨k, hk⟩)
  intro e st a w' S' h'
  cases e with
  | nrm => exact fin st a w' S' h'
  | ret => exact fin st a w' S' h'
  | ex id => exact h'.elim
end
end Go.AM
