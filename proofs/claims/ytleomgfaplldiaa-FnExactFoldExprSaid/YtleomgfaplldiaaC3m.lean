/- Own framework, part 21b: regions whose order is drawn, in which something is written: what reads memory comes first, under a condition on the world that what is written keeps. -/
import Derived.Test.YtleomgfaplldiaaC3
import Derived.OrdersHeld
namespace Go.AM
set_option linter.unusedVariables false
set_option linter.unusedSimpArgs false

def allK : Nat → List (Nat × Nat) → Bool := fun _ _ => true

def keepL (l : List Nat) (st : St) : St := fun k => if k ∈ l then killV (fun n _ => !l.contains n) (st k) else .dead

def isQ (m : MO) : Bool := match m.i with | .q _ => true | .a _ => false

def notFl (B : List Nat) (l l' : List Nat) : Bool := l.all fun k => !l'.contains k || B.contains k

/-- The operations that read, on the state of what is lent alone (sF); what they yield goes to the other state, too. -/
def fV (P : Program) : List MO → (St → K) → St → K
  | [], k, sF, sW => k sF sW
  | m :: ms, k, sF, sW => (match m.d with | some d => bare (sF d) = true | none => True) ∧
      match m.i with
      | .q q => gV sF m.g (mqV q sF fun av => putS sW m.d (killV allK av) (fV P ms k (match m.d with | some d => upd sF d av | none => sF)))
          (putS sW m.d (.tup []) (fV P ms k (match m.d with | some d => upd sF d (.tup []) | none => sF)))
      | .a _ => False

/-- The two states, one again. -/
def backS (RL : List Nat) (st st' : St) : St := fun k => if k ∈ RL then killV (fun n _ => !RL.contains n) (st k) else killV (fun n _ => RL.contains n) (st' k)

def mixV (P : Program) (FL WL RL B : List Nat) (fs cs : List MO) (k : K) (st : St) : Prop :=
  (B.all fun n => bare (st n)) = true ∧ fV P fs (fun _ sW => opsV P cs (fun s3 => k (backS RL st s3)) sW) (keepL FL st) (keepL WL st)

def mF (P : Program) (N : Nat) (fx : List Nat) (ops : Array Oper) (F : Array Bool → Bool) : List Nat → List MO → Array Bool → Bool
  | [], [], listed => F listed
  | i :: is, m :: ms, listed => (match ops[i]? with
      | some o => mO P N fx ops o m && isQ m && Region.free .any ops listed i && (Region.ready .any ops listed).contains i
      | none => false) && mF P N fx ops F is ms (listed.setIfInBounds i true)
  | _, _, _ => false

def mT (P : Program) (N : Nat) (fx : List Nat) (ops : Array Oper) : List Nat → List MO → Array Bool → Bool
  | [], [], listed => (Region.ready .any ops listed).isEmpty
  | i :: is, m :: ms, listed => (match ops[i]? with
      | some o => mO P N fx ops o m && ((Region.ready .any ops listed == [i]) || (isQ m && !needsW o.op && Region.free .any ops listed i && (Region.ready .any ops listed).contains i))
      | none => false) && mT P N fx ops is ms (listed.setIfInBounds i true)
  | _, _, _ => false

def mixOk (P : Program) (N : Nat) (fx : List Nat) (ops : Array Oper) (FL WL RL B fi ci : List Nat) (fs cs : List MO) : Bool :=
  Region.noSelect ops && P.follows .mixedOrders && (fi.length + ci.length == ops.size) && notFl B FL WL && notFl B RL WL &&
    mF P N (RL ++ fx) ops (fun listed => mT P N (RL ++ fx) ops ci cs listed) fi fs (Array.replicate ops.size false)

section
variable {P : Program} {o : Oper} {c : Ctx} {N : Nat} {st : St} {a : Act} {w : World} {ops : Array Oper} {Q : Exit → Act → World → Prop} {fx : List Nat}

/-- What some slots hold, on its own: all else is neither owned nor frozen. -/
def ctxL (c : Ctx) (w : World) (own : Nat → List Nat) (l : List Nat) (RL : List Nat) (a : Act) : Ctx :=
  { w0 := w, Fz := frz c w (owned own []), own0 := l.flatMap own, fx := fun k => if k ∈ RL then some (tmOf a k) else c.fx k }

def ownL (l : List Nat) (own : Nat → List Nat) : Nat → List Nat := fun k => if k ∈ l then own k else []

theorem ownL_mem {l : List Nat} {own : Nat → List Nat} {b : Nat} : owned (ownL l own) [] b ↔ b ∈ l.flatMap own := by
  constructor
  · rintro (⟨k, hk⟩ | hb)
    · simp only [ownL] at hk
      split at hk
      · rename_i h; exact List.mem_flatMap.2 ⟨k, h, hk⟩
      · simp at hk
    · simp at hb
  · intro h
    obtain ⟨k, hk, hb⟩ := List.mem_flatMap.1 h
    exact .inl ⟨k, by simp only [ownL, if_pos hk]; exact hb⟩

theorem core_part {own : Nat → List Nat} (C : Core c st (tmOf a) w own []) (l RL : List Nat) : Core (ctxL c w own l RL a) (keepL l st) (tmOf a) w (ownL l own) [] := by
  have hX : ∀ b, owned (ownL l own) [] b → owned own [] b := by
    intro b hb
    obtain ⟨k, _, hk⟩ := List.mem_flatMap.1 (ownL_mem.1 hb)
    exact .inl ⟨k, hk⟩
  refine ⟨Ext.refl _ _, ?_, ?_, ?_, by simp, by simp, ?_⟩
  · intro k
    unfold keepL ownL
    by_cases h : k ∈ l
    · rw [if_pos h, if_pos h]
      refine (C.rep k).keep (L := locs st (tmOf a) w) ?_ _ _ _ ?_
      · intro n p r hK hl
        have hn : n ∈ l := by simpa using hK
        simp only [locs, if_pos hn, walkSh_kill]
        exact hl
      · exact ⟨fun b hb => ⟨⟨hb.1, .inr (.inl hb), fun hx => hb.2.2 (hX b hx)⟩, rfl⟩, fun _ _ => rfl⟩
    · rw [if_neg h, if_neg h]
      simp [RepV]
  · intro k; unfold ownL; split
    · exact C.nd k
    · simp
  · intro j k hjk b hb
    unfold ownL at hb ⊢
    split at hb
    · split
      · exact C.dj j k hjk b hb
      · simp
    · simp at hb
  · intro b hb
    refine ⟨.inl (ownL_mem.1 hb), (C.old b (hX b hb)).2⟩

/-- The world, as far as the region leaves it alone. -/
def held (w : World) (W : List Nat) (w' : World) : Prop := ∀ b, b < w.heap.size → b ∉ W → w'.heap[b]? = w.heap[b]?

theorem back_sound {own : Nat → List Nat} (C : Core c st (tmOf a) w own []) (hsz : Slots c N a) {WL RL : List Nat} (hdj : ∀ k ∈ RL, ∀ b ∈ own k, b ∉ WL.flatMap own) {st3 : St} {a3 : Act} {w3 : World}
    (S3 : Sim (ctxL c w own WL RL a) N st3 a3 w3) : Sim c N (backS RL st st3) a3 w3 := by
  obtain ⟨hd, ⟨hs1, hs2⟩, own3, C3⟩ := S3
  have htm : ∀ k ∈ RL, tmOf a3 k = tmOf a k := by
    intro k hk
    exact hs2 k _ (by simp only [ctxL, if_pos hk])
  have hW : ∀ b ∈ WL.flatMap own, owned own [] b := by
    intro b hb
    obtain ⟨k, _, hk⟩ := List.mem_flatMap.1 hb
    exact .inl ⟨k, hk⟩
  have hE : Ext w w3 (WL.flatMap own) := C3.fr
  have h3 : ∀ b, owned own3 [] b → (b ∈ WL.flatMap own ∨ w.heap.size ≤ b) ∧ b < w3.heap.size := C3.old
  have hRb : ∀ k ∈ RL, ∀ b ∈ own k, b < w.heap.size ∧ b ∉ WL.flatMap own := fun k hk b hb => ⟨(C.old b (.inl ⟨k, hb⟩)).2, hdj k hk b hb⟩
  let ownR : Nat → List Nat := fun k => if k ∈ RL then own k else own3 k
  have hoR : ∀ b, owned ownR [] b → (∃ k ∈ RL, b ∈ own k) ∨ owned own3 [] b := by
    rintro b (⟨k, hk⟩ | hb)
    · simp only [ownR] at hk
      split at hk
      · rename_i h; exact .inl ⟨k, h, hk⟩
      · exact .inr (.inl ⟨k, hk⟩)
    · simp at hb
  refine ⟨hd, ⟨hs1, ?_⟩, ownR, ?_⟩
  · intro k v hk
    by_cases h : k ∈ RL
    · rw [htm k h]; exact hsz.2 k v hk
    · exact hs2 k v (by simp only [ctxL, if_neg h]; exact hk)
  · refine ⟨?_, ?_, ?_, ?_, by simp, by simp, ?_⟩
    · refine C.fr.trans hE ?_
      intro x hx hlt
      rcases (C.old x (hW x hx)).1 with h | h
      · exact h
      · omega
    · intro k
      show RepV w3 _ _ (backS RL st st3 k) (tmOf a3 k) (if k ∈ RL then own k else own3 k)
      by_cases h : k ∈ RL
      · simp only [backS, if_pos h]
        rw [htm k h]
        refine (C.rep k).keep (L := locs st (tmOf a) w) ?_ _ _ _ ?_
        · intro n p r hK hl
          have hn : n ∈ RL := by simpa using hK
          simp only [locs, backS, if_pos hn, walkSh_kill, htm n hn]
          simp only [locs] at hl
          simp only [walkSh] at hl ⊢
          rw [walk_keepV p _ (C.rep n) (fun b hb => hE.blk b (hRb n hn b hb).1 (hRb n hn b hb).2)]
          exact hl
        · refine ⟨?_, fun b hb => hE.blk b (hRb k h b hb).1 (hRb k h b hb).2⟩
          intro b hb
          have hnW : b ∉ WL.flatMap own := fun hx => hb.2.2 (hW b hx)
          refine ⟨⟨Nat.lt_of_lt_of_le hb.1 hE.size, hb.2.1, fun hx => ?_⟩, hE.blk b hb.1 hnW⟩
          rcases hoR b hx with ⟨j, _, hj⟩ | h'
          · exact hb.2.2 (.inl ⟨j, hj⟩)
          · rcases (h3 b h').1 with h'' | h''
            · exact hnW h''
            · have := hb.1; omega
      · simp only [backS, if_neg h]
        refine (C3.rep k).keep (L := locs st3 (tmOf a3) w3) ?_ _ _ _ ?_
        · intro n p r hK hl
          have hn : ¬ n ∈ RL := by simpa using hK
          simp only [locs, backS, if_neg hn, walkSh_kill]
          exact hl
        · refine ⟨?_, fun _ _ => rfl⟩
          intro b hb
          refine ⟨⟨hb.1, ?_, fun hx => ?_⟩, rfl⟩
          · rcases hb.2.1 with h' | h' | h'
            · exact .inl (Nat.le_trans C.fr.size h')
            · exact h'.2.1
            · rcases (C.old b (hW b h')).1 with h'' | h''
              · exact .inr (.inr h'')
              · exact .inl h''
          · rcases hoR b hx with ⟨j, hj, hbj⟩ | h'
            · rcases hb.2.1 with h'' | h'' | h''
              · have := (hRb j hj b hbj).1
                simp only [ctxL] at h''
                omega
              · exact h''.2.2 (.inl ⟨j, hbj⟩)
              · exact (hRb j hj b hbj).2 h''
            · exact hb.2.2 h'
    · intro k; simp only [ownR]; split
      · exact C.nd k
      · exact C3.nd k
    · intro j k hjk b hb
      simp only [ownR] at hb ⊢
      split at hb
      · rename_i hj
        split
        · exact C.dj j k hjk b hb
        · intro hk
          have h1 := hRb j hj b hb
          rcases (h3 b (.inl ⟨k, hk⟩)).1 with h' | h'
          · exact h1.2 h'
          · omega
      · split
        · rename_i hk
          intro hb2
          have h1 := hRb k hk b hb2
          rcases (h3 b (.inl ⟨j, hb⟩)).1 with h' | h'
          · exact h1.2 h'
          · omega
        · exact C3.dj j k hjk b hb
    · intro b hb
      rcases hoR b hb with ⟨k, _, hk⟩ | h'
      · have := C.old b (.inl ⟨k, hk⟩)
        exact ⟨this.1, Nat.lt_of_lt_of_le this.2 hE.size⟩
      · refine ⟨?_, (h3 b h').2⟩
        rcases (h3 b h').1 with h'' | h''
        · exact (C.old b (hW b h'')).1
        · exact .inr (Nat.le_trans C.fr.size h'')
end

section
variable {P : Program} {N : Nat} {ops : Array Oper} {Q : Exit → Act → World → Prop} {fx : List Nat} {w1 : World} {W : List Nat}

theorem Sim.held {cW : Ctx} {st : St} {a : Act} {w : World} (S : Sim cW N st a w) (h0 : cW.w0 = w1) (hW : cW.own0 = W) : held w1 W w := by
  obtain ⟨own, C⟩ := S.core
  intro b hb hn
  have := C.fr.blk b
  rw [h0, hW] at this
  exact this hb hn

theorem t_sound {cW : Ctx} (h0 : cW.w0 = w1) (hW0 : cW.own0 = W) (hfx : ∀ e, cW.fx e ≠ none → e ∈ fx) (hsel : Region.noSelect ops = true) {k : K} (hQ : ∀ st a w, Sim cW N st a w → k st → Q .normal a w) (hQp : ∀ c a w, ¬ Q (.panic c) a w) :
    ∀ (is : List Nat) (ms : List MO) (listed : Array Bool) (st : St) (a : Act) (w : World), mT P N fx ops is ms listed = true → Sim cW N st a w → opsV P ms k st → wpAnyH P .any ops Q (held w1 W) is.length listed a w
  | [], [], listed, st, a, w, hm, S, h => by
    simp only [mT] at hm
    exact wpAnyH_done (by simpa using hm) (hQ _ _ _ S h) _
  | [], _ :: _, listed, st, a, w, hm, S, h => by simp [mT] at hm
  | _ :: _, [], listed, st, a, w, hm, S, h => by simp [mT] at hm
  | i :: is, m :: ms, listed, st, a, w, hm, S, h => by
    simp only [mT, Bool.and_eq_true] at hm
    obtain ⟨h1, h2⟩ := hm
    split at h1
    rotate_left
    · cases h1
    rename_i o ho
    simp only [Bool.and_eq_true, Bool.or_eq_true, beq_iff_eq, Bool.not_eq_true'] at h1
    obtain ⟨hmo, hcase⟩ := h1
    obtain ⟨hd, hN, hi⟩ := mO_spec hmo hfx
    simp only [opsV] at h
    have hg := guard_sound S hmo h
    rcases hcase with hr | ⟨⟨⟨hq, hnw⟩, hfree⟩, hready⟩
    · refine wpAnyH_all (rs := [i]) hr (by simp) ?_
      intro j hj
      obtain rfl : j = i := by simpa using hj
      unfold wpOp
      simp only [ho]
      by_cases hw : Region.wanted o (yielded ops a.tmps) = true
      · rw [if_pos hw] at hg ⊢
        left
        have hok : Ok P cW N a w o (opsV P ms k) Q := by
          unfold oV at hg
          rw [hd] at hg
          cases hmi : m.i with
          | q q =>
            rw [hmi] at hg hi
            obtain ⟨own, C⟩ := S.core
            exact fin_q S C hN (q_sound C hi hg)
          | a x =>
            rw [hmi] at hg hi
            exact a_sound S hN hi hg
        refine Oper.wp_mono ?_ hok
        rintro a' w' ⟨st', S', h'⟩
        exact ⟨S'.held h0 hW0, t_sound h0 hW0 hfx hsel hQ hQp is ms _ st' a' w' h2 S' h'⟩
      · rw [if_neg hw] at hg ⊢
        rw [hd] at hg
        obtain ⟨st', S', h'⟩ := put_undef S hN hg
        exact ⟨S'.held h0 hW0, t_sound h0 hW0 hfx hsel hQ hQp is ms _ st' _ w h2 S' h'⟩
    · by_cases hw : Region.wanted o (yielded ops a.tmps) = true
      · rw [if_pos hw] at hg
        unfold oV at hg
        rw [hd] at hg
        cases hmi : m.i with
        | a x => rw [isQ, hmi] at hq; cases hq
        | q q =>
          rw [hmi] at hg hi
          obtain ⟨own, C⟩ := S.core
          obtain ⟨x, av, hrun, hrep, hk⟩ := q_sound C hi hg
          obtain ⟨st', S', h'⟩ := putS_sound S.defers S.size C hrep hN hk
          exact wpAnyH_take ho hsel hfree hready (fun c a w h => (hQp _ _ _ h).elim) (.inl ⟨hw, fun w' _ => hrun w' (fun hn => by rw [hnw] at hn; cases hn)⟩) (S.held h0 hW0)
            (t_sound h0 hW0 hfx hsel hQ hQp is ms _ st' _ w h2 S' h')
      · rw [if_neg hw] at hg
        rw [hd] at hg
        obtain ⟨st', S', h'⟩ := put_undef S hN hg
        exact wpAnyH_take ho hsel hfree hready (fun c a w h => (hQp _ _ _ h).elim) (.inr ⟨by simpa using hw, rfl⟩) (S.held h0 hW0)
          (t_sound h0 hW0 hfx hsel hQ hQp is ms _ st' _ w h2 S' h')

theorem f_sound {c : Ctx} {st0 : St} {a0 : Act} {own : Nat → List Nat} (C0 : Core c st0 (tmOf a0) w1 own []) {FL WL RL : List Nat} (hfx : ∀ e, (ctxL c w1 own FL RL a0).fx e ≠ none → e ∈ fx) (hsel : Region.noSelect ops = true) (hQp : ∀ c a w, ¬ Q (.panic c) a w)
    (hdj : ∀ b ∈ FL.flatMap own, b ∉ WL.flatMap own) {F : Array Bool → Bool} {kk : St → K} {n : Nat}
    (hend : ∀ listed a sF sW, F listed = true → Sim (ctxL c w1 own WL RL a0) N sW a w1 → kk sF sW → wpAnyH P .any ops Q (held w1 (WL.flatMap own)) n listed a w1) :
    ∀ (is : List Nat) (ms : List MO) (listed : Array Bool) (sF sW : St) (a : Act) (ownF : Nat → List Nat), mF P N fx ops F is ms listed = true → Core (ctxL c w1 own FL RL a0) sF (tmOf a) w1 ownF [] → (∀ b ∈ FL.flatMap own, owned ownF [] b) →
      Sim (ctxL c w1 own WL RL a0) N sW a w1 → fV P ms kk sF sW → wpAnyH P .any ops Q (held w1 (WL.flatMap own)) (is.length + n) listed a w1
  | [], [], listed, sF, sW, a, ownF, hm, CF, hown, SW, h => by
    simp only [mF] at hm
    rw [List.length_nil, Nat.zero_add]
    exact hend _ _ _ _ hm SW h
  | [], _ :: _, listed, sF, sW, a, ownF, hm, CF, hown, SW, h => by simp [mF] at hm
  | _ :: _, [], listed, sF, sW, a, ownF, hm, CF, hown, SW, h => by simp [mF] at hm
  | i :: is, m :: ms, listed, sF, sW, a, ownF, hm, CF, hown, SW, h => by
    simp only [mF, Bool.and_eq_true] at hm
    obtain ⟨h1, h2⟩ := hm
    split at h1
    rotate_left
    · cases h1
    rename_i o ho
    simp only [Bool.and_eq_true] at h1
    obtain ⟨⟨⟨hmo, hq⟩, hfree⟩, hready⟩ := h1
    obtain ⟨hd, hN, hi⟩ := mO_spec hmo hfx
    simp only [fV] at h
    obtain ⟨hb, h⟩ := h
    have SF : Sim (ctxL c w1 own FL RL a0) N sF a w1 := ⟨SW.defers, SW.size, ownF, CF⟩
    rw [List.length_cons, Nat.add_right_comm]
    cases hmi : m.i with
    | a x => rw [isQ, hmi] at hq; cases hq
    | q q =>
      rw [hmi] at h hi
      simp only at h
      have hg := guard_sound SF hmo h
      have hput : ∀ (av : AV) (x : Value), RepV w1 (frz (ctxL c w1 own FL RL a0) w1 (owned ownF [])) (locs sF (tmOf a) w1) av x [] →
          ∃ ownF', Core (ctxL c w1 own FL RL a0) (match m.d with | some d => upd sF d av | none => sF) (tmOf (a.put o.dst x)) w1 ownF' [] ∧ ∀ b ∈ FL.flatMap own, owned ownF' [] b := by
        intro av x hr
        rw [hd] at hb ⊢
        cases hdst : o.dst with
        | none => exact ⟨ownF, CF, hown⟩
        | some d =>
          rw [hdst] at hb
          simp only at hb ⊢
          have hod := bare_own (sF d) (CF.rep d) hb
          have C2 := CF.put (lo1 := []) (lo2 := []) (by simp) (by simp) (by simp) (by simp) hb hod hr
          rw [tmOf_put (by rw [SW.size.1]; exact (hN d hdst).1)]
          refine ⟨upd ownF d [], C2, ?_⟩
          intro b hb'
          rcases hown b hb' with ⟨k, hk⟩ | hk
          · by_cases e : k = d
            · rw [e, hod] at hk; simp at hk
            · exact .inl ⟨k, by simpa [upd, e] using hk⟩
          · simp at hk
      by_cases hw : Region.wanted o (yielded ops a.tmps) = true
      · rw [if_pos hw] at hg
        obtain ⟨x, av, hrun, hrep, hk⟩ := q_sound CF hi hg
        obtain ⟨ownW, CW⟩ := SW.core
        have hrepW : RepV w1 (frz (ctxL c w1 own WL RL a0) w1 (owned ownW [])) (locs sW (tmOf a) w1) (killV allK av) x [] := by
          refine hrep.keep (K := allK) (L' := locs sW (tmOf a) w1) (fun _ _ _ h => by simp [allK] at h) _ _ _ ?_
          refine ⟨?_, fun _ _ => rfl⟩
          intro b hbf
          have hF : frz c w1 (owned own []) b := by
            rcases hbf.2.1 with h' | h' | h'
            · have := hbf.1; simp only [ctxL] at h'; omega
            · exact h'
            · exact absurd (hown b h') hbf.2.2
          refine ⟨⟨hbf.1, .inr (.inl hF), fun hx => ?_⟩, rfl⟩
          rcases (CW.old b hx).1 with h' | h'
          · obtain ⟨k, _, hk⟩ := List.mem_flatMap.1 h'
            exact hF.2.2 (.inl ⟨k, hk⟩)
          · have := hbf.1; simp only [ctxL] at h'; omega
        rw [hd] at hk
        obtain ⟨sW', SW', h'⟩ := putS_sound (c := ctxL c w1 own WL RL a0) SW.defers SW.size CW hrepW hN hk
        obtain ⟨ownF', CF', hown'⟩ := hput av x hrep
        rw [hd] at CF'
        refine wpAnyH_take ho hsel hfree hready (fun c a w h => (hQp _ _ _ h).elim) (.inl ⟨hw, fun w' hS => hrun w' (fun _ => ?_)⟩) (fun _ _ _ => rfl)
          (f_sound C0 hfx hsel hQp hdj hend is ms _ _ sW' _ ownF' h2 CF' hown' SW' h')
        intro b hbb
        rcases hbb with hbf | hbo | hbl
        · refine hS b hbf.1 ?_
          rcases hbf.2.1 with h' | h' | h'
          · have := hbf.1; simp only [ctxL] at h'; omega
          · intro hx
            obtain ⟨k, _, hk⟩ := List.mem_flatMap.1 hx
            exact h'.2.2 (.inl ⟨k, hk⟩)
          · exact absurd (hown b h') hbf.2.2
        · have := CF.old b (.inl hbo)
          refine hS b this.2 ?_
          rcases this.1 with h' | h'
          · exact hdj b h'
          · have := this.2; simp only [ctxL] at h'; omega
        · simp at hbl
      · rw [if_neg hw] at hg
        rw [hd] at hg
        obtain ⟨sW', SW', h'⟩ := put_undef SW hN hg
        obtain ⟨ownF', CF', hown'⟩ := hput (.tup []) undef (by simp [RepV, RepVs, undef])
        rw [hd] at CF'
        exact wpAnyH_take ho hsel hfree hready (fun c a w h => (hQp _ _ _ h).elim) (.inr ⟨by simpa using hw, rfl⟩) (fun _ _ _ => rfl)
          (f_sound C0 hfx hsel hQp hdj hend is ms _ _ sW' _ ownF' h2 CF' hown' SW' h')

/-- **A region whose order is drawn**, in which something is written. -/
theorem mix_sound {id : Nat} {c : Ctx} {st : St} {a : Act} {w : World} (hfx : ∀ e, c.fx e ≠ none → e ∈ fx) {FL WL RL B fi ci : List Nat} {fs cs : List MO} (hm : mixOk P N fx ops FL WL RL B fi ci fs cs = true) (S : Sim c N st a w) {k : K} (h : mixV P FL WL RL B fs cs k st)
    (hQ : ∀ st a w, Sim c N st a w → k st → Q .normal a w) : (Code.region id ops true).wp P Q a w := by
  simp only [mixOk, Bool.and_eq_true] at hm
  obtain ⟨⟨⟨⟨⟨hsel, hfol⟩, hlen⟩, hFW⟩, hRW⟩, hm⟩ := hm
  have S1 : Sim c N st a w.drew := S.world (Ext.drew w [])
  obtain ⟨hB, h⟩ := h
  obtain ⟨hd, hs, own, C⟩ := S1
  have hbare : ∀ k ∈ B, own k = [] := fun k hk => bare_own (st k) (C.rep k) (by simpa using List.all_eq_true.1 hB k hk)
  have hno : ∀ (l : List Nat), notFl B l WL = true → ∀ k ∈ l, ∀ b ∈ own k, b ∉ WL.flatMap own := by
    intro l hl k hk b hb hb2
    obtain ⟨j, hj, hbj⟩ := List.mem_flatMap.1 hb2
    by_cases e : k = j
    · subst e
      have h1 := List.all_eq_true.1 hl k hk
      simp only [Bool.or_eq_true, Bool.not_eq_true', List.contains_eq_mem, decide_eq_true_eq, decide_eq_false_iff_not] at h1
      rcases h1 with h1 | h1
      · exact h1 hj
      · rw [hbare k h1] at hb; simp at hb
    · exact C.dj k j e b hb hbj
  have hdj : ∀ b ∈ FL.flatMap own, b ∉ WL.flatMap own := by
    intro b hb
    obtain ⟨k, hk, hbk⟩ := List.mem_flatMap.1 hb
    exact hno FL hFW k hk b hbk
  have hfx' : ∀ (l : List Nat) e, (ctxL c w.drew own l RL a).fx e ≠ none → e ∈ RL ++ fx := by
    intro l e he
    simp only [ctxL] at he
    split at he
    · rename_i h'; simp [h']
    · have := hfx e he; simp [this]
  have hslots : ∀ l, Slots (ctxL c w.drew own l RL a) N a := by
    intro l
    refine ⟨hs.1, ?_⟩
    intro k v hk
    simp only [ctxL] at hk
    split at hk
    · simpa using hk
    · exact hs.2 k v hk
  have SW : Sim (ctxL c w.drew own WL RL a) N (keepL WL st) a w.drew := ⟨hd, hslots WL, _, core_part C WL RL⟩
  refine wp_mono (Q := fun e a w => e = .normal ∧ Q .normal a w) ?_ ?_
  · refine wp_region_held (S := held w.drew (WL.flatMap own)) hfol ?_
    have hsz : ops.size = fi.length + ci.length := by simp only [beq_iff_eq] at hlen; exact hlen.symm
    show wpAnyH P .any ops _ _ ops.size (Array.replicate ops.size false) a w.drew
    have key := f_sound (Q := fun e a w => e = .normal ∧ Q .normal a w) (n := ci.length) C (hfx' FL) hsel (by rintro _ _ _ ⟨h, _⟩; cases h) hdj
      (kk := fun _ sW => opsV P cs (fun s3 => k (backS RL st s3)) sW) (F := fun listed => mT P N (RL ++ fx) ops ci cs listed)
      (fun listed a' sF sW hF SW' h' => t_sound (cW := ctxL c w.drew own WL RL a) rfl rfl (hfx' WL) hsel (k := fun s3 => k (backS RL st s3))
        (fun s3 a3 w3 S3 h3 => ⟨rfl, hQ _ _ _ (back_sound C hs (hno RL hRW) S3) h3⟩) (by rintro _ _ _ ⟨h, _⟩; cases h) ci cs listed sW a' _ hF SW' h')
      fi fs (Array.replicate ops.size false) (keepL FL st) (keepL WL st) a (ownL FL own) hm (core_part C FL RL) (fun b hb => ownL_mem.2 hb) SW h
    rw [← hsz] at key
    exact key
  · rintro e a w ⟨rfl, h⟩
    exact h
end
end Go.AM
