/- Own framework, part 22: code. -/
import Derived.Test.YtleomgfaplldiaaC3m
namespace Go.AM
set_option linter.unusedVariables false
set_option linter.unusedSimpArgs false

def stl : List (Nat × AV) → St
  | [], _ => .dead
  | (n, av) :: l, k => if k = n then av else stl l k

theorem stl_map {l : List Nat} {g : Nat → AV} {k : Nat} : stl (l.map fun k => (k, g k)) k = if k ∈ l then g k else .dead := by
  induction l with
  | nil => rfl
  | cons n l ih =>
    simp only [List.map_cons, stl, ih, List.mem_cons]
    by_cases h : k = n
    · simp [h]
    · simp [h]

def keepS (l : List Nat) (st : St) : St := stl (l.map fun k => (k, killV (fun n _ => !l.contains n) (st k)))

inductive AE where
  | nrm
  | ex (id : Nat)
  | ret

def AE.toE : AE → Exit
  | .nrm => .normal
  | .ex id => .exit id
  | .ret => .ret

inductive MC where
  | skip
  | reg (ms : List MO)
  | dreg (ms : List MO)
  | seq (x y : MC)
  | cond (c : Opd) (x y : MC)
  | block (id : Nat) (x : MC)
  | loop (l : List Nat) (x : MC)
  /-- In turn, with what holds in between told. -/
  | join (l : List Nat) (x y : MC)
  | exit (id : Nat)
  | ret
  | keep (l : List Nat) (x : MC)
  /-- A region whose order is drawn, in which something is written. -/
  | mix (FL WL RL B fi ci : List Nat) (fs cs : List MO)

def thn (n : K) (Q : AE → K) : AE → K
  | .nrm, st => n st
  | e, st => Q e st

def inB (id : Nat) (Q : AE → K) : AE → K
  | .ex id', st => if id' = id then Q .nrm st else Q (.ex id') st
  | e, st => Q e st

def condV (x : AV) (p q : Prop) : Prop :=
  match x with
  | .v (.bool b) => if b then p else q
  | _ => False

def awp (P : Program) : MC → (AE → K) → K
  | .skip, Q, st => Q .nrm st
  | .reg ms, Q, st => opsV P ms (Q .nrm) st
  | .dreg ms, Q, st => dopsV P ms (Q .nrm) st
  | .seq x y, Q, st => awp P x (thn (awp P y Q) Q) st
  | .cond c x y, Q, st => condV (rd st c) (awp P x Q st) (awp P y Q st)
  | .block id x, Q, st => awp P x (inB id Q) st
  | .loop l x, Q, st => ∃ I : Nat → K, (∃ n, I n (keepS l st)) ∧ ∀ n st', I n st' → awp P x (thn (fun s => ∃ m, m < n ∧ I m (keepS l s)) Q) st'
  | .join l x y, Q, st => ∃ J : K, awp P x (thn (fun s => J (keepS l s)) Q) st ∧ ∀ s, J s → awp P y Q s
  | .exit id, Q, st => Q (.ex id) st
  | .ret, Q, st => Q .ret st
  | .keep l x, Q, st => awp P x Q (keepS l st)
  | .mix FL WL RL B fi ci fs cs, Q, st => mixV P FL WL RL B fs cs (Q .nrm) st

def mC (P : Program) (N : Nat) (fx : List Nat) : MC → Code → Bool
  | .skip, c => match c with | .skip => true | _ => false
  | .reg ms, c => match c with | .region _ ops false => mOs P N fx ops ops.toList ms | _ => false
  | .dreg ms, c => match c with | .region _ ops true => mOs P N fx ops ops.toList ms && Region.lexB .any ops && P.follows .mixedOrders | _ => false
  | .seq x y, c => match c with | .seq a b => mC P N fx x a && mC P N fx y b | _ => false
  | .cond v x y, c => match c with | .cond o a b => mOpd o v && mC P N fx x a && mC P N fx y b | _ => false
  | .block id x, c => match c with | .block id' a => id == id' && mC P N fx x a | _ => false
  | .join _ x y, c => match c with | .seq a b => mC P N fx x a && mC P N fx y b | _ => false
  | .loop _ x, c => match c with | .loop a => mC P N fx x a | _ => false
  | .exit id, c => match c with | .exit id' => id == id' | _ => false
  | .ret, c => match c with | .ret => true | _ => false
  | .keep _ x, c => mC P N fx x c
  | .mix FL WL RL B fi ci fs cs, c => match c with | .region _ ops true => mixOk P N fx ops FL WL RL B fi ci fs cs | _ => false

section
variable {P : Program} {o : Oper} {c : Ctx} {N : Nat} {st : St} {a : Act} {w : World} {fx : List Nat}

theorem keep_sound (l : List Nat) (S : Sim c N st a w) : Sim c N (keepS l st) a w := by
  obtain ⟨hd, hs, own, C⟩ := S
  refine ⟨hd, hs, fun k => if k ∈ l then own k else [], ?_⟩
  have hX : ∀ b, owned (fun k => if k ∈ l then own k else []) [] b → owned own [] b := by
    rintro b (⟨k, hk⟩ | hb)
    · dsimp only at hk
      by_cases h : k ∈ l
      · rw [if_pos h] at hk; exact .inl ⟨k, hk⟩
      · rw [if_neg h] at hk; simp at hk
    · simp at hb
  refine ⟨C.fr, ?_, ?_, ?_, by simp, by simp, fun b hb => C.old b (hX b hb)⟩
  · intro k
    unfold keepS
    rw [stl_map]
    by_cases h : k ∈ l
    · rw [if_pos h, if_pos h]
      refine (C.rep k).keep (L := locs st (tmOf a) w) ?_ _ _ _ ?_
      · intro n p r hK hl
        have hn : n ∈ l := by simpa using hK
        simp only [locs, stl_map, if_pos hn, walkSh_kill]
        exact hl
      · exact ⟨fun b hb => ⟨⟨hb.1, hb.2.1, fun hx => hb.2.2 (hX b hx)⟩, rfl⟩, fun _ _ => rfl⟩
    · rw [if_neg h, if_neg h]
      simp [RepV]
  · intro k; split
    · exact C.nd k
    · simp
  · intro j k hjk b hb
    split at hb
    · split
      · exact C.dj j k hjk b hb
      · simp
    · simp at hb

theorem c_sound (hfx : ∀ e, c.fx e ≠ none → e ∈ fx) : ∀ (mc : MC) (code : Code), mC P N fx mc code = true → ∀ {Q : AE → K} {Q' : Exit → Act → World → Prop} (st : St) (a : Act) (w : World),
    (∀ e st a w, Sim c N st a w → Q e st → Q' e.toE a w) → Sim c N st a w → awp P mc Q st → code.wp P Q' a w
  | .skip, code, hm, Q, Q', st, a, w, hQ, S, h => by
    simp only [mC] at hm
    split at hm
    · exact wp_skip (hQ .nrm _ _ _ S h)
    · cases hm
  | .reg ms, code, hm, Q, Q', st, a, w, hQ, S, h => by
    simp only [mC] at hm
    split at hm
    · exact wp_region_list (ops_sound hfx (fun st a w S h => hQ .nrm st a w S h) _ ms st a w hm S h)
    · cases hm
  | .dreg ms, code, hm, Q, Q', st, a, w, hQ, S, h => by
    simp only [mC] at hm
    split at hm
    · simp only [Bool.and_eq_true] at hm
      have S1 := S.world (Ext.drew w [])
      refine wp_region_quiet (C := fun w' => Ext w.drew w' []) hm.2 hm.1.2 (Ext.refl _ _) ?_
      have := dops_sound (w := w.drew) hfx _ ms st a hm.1.1 S1 h
      refine wpQuiet_mono ?_ _ _ this
      rintro a' ⟨st', S', h'⟩ w' hE
      exact hQ .nrm st' a' w' (S'.world hE) h'
    · cases hm
  | .seq x y, code, hm, Q, Q', st, a, w, hQ, S, h => by
    simp only [mC] at hm
    split at hm
    · simp only [Bool.and_eq_true] at hm
      refine wp_seq (c_sound hfx x _ hm.1 st a w ?_ S h)
      intro e st' a' w' S' h'
      cases e with
      | nrm => exact c_sound hfx y _ hm.2 st' a' w' hQ S' h'
      | ex id => exact hQ (.ex id) st' a' w' S' h'
      | ret => exact hQ .ret st' a' w' S' h'
    · cases hm
  | .cond v x y, code, hm, Q, Q', st, a, w, hQ, S, h => by
    simp only [mC] at hm
    split at hm
    · simp only [Bool.and_eq_true] at hm
      obtain ⟨own, C⟩ := S.core
      have rx := rd_rep C hm.1.1
      simp only [awp] at h
      unfold condV at h
      split at h
      · rename_i b hb
        rw [hb] at rx
        simp only [RepV, RepC] at rx
        refine wp_cond rx.1 ?_
        cases b
        · exact c_sound hfx y _ hm.2 st a w hQ S (by simpa using h)
        · exact c_sound hfx x _ hm.1.2 st a w hQ S (by simpa using h)
      · exact h.elim
    · cases hm
  | .block id x, code, hm, Q, Q', st, a, w, hQ, S, h => by
    simp only [mC] at hm
    split at hm
    · simp only [Bool.and_eq_true, beq_iff_eq] at hm
      obtain ⟨rfl, hm⟩ := hm
      refine wp_block (c_sound hfx x _ hm st a w ?_ S h)
      intro e st' a' w' S' h'
      cases e with
      | nrm => exact hQ .nrm st' a' w' S' h'
      | ex id' =>
        simp only [inB] at h'
        simp only [AE.toE, Exit.inBlock]
        split
        · rename_i he; rw [if_pos he] at h'; exact hQ .nrm st' a' w' S' h'
        · rename_i he; rw [if_neg he] at h'; exact hQ (.ex id') st' a' w' S' h'
      | ret => exact hQ .ret st' a' w' S' h'
    · cases hm
  | .join l x y, code, hm, Q, Q', st, a, w, hQ, S, h => by
    simp only [mC] at hm
    split at hm
    · simp only [Bool.and_eq_true] at hm
      simp only [awp] at h
      obtain ⟨J, h1, h2⟩ := h
      refine wp_seq (c_sound hfx x _ hm.1 st a w ?_ S h1)
      intro e st' a' w' S' h'
      cases e with
      | nrm => exact c_sound hfx y _ hm.2 _ a' w' hQ (keep_sound l S') (h2 _ h')
      | ex id => exact hQ (.ex id) st' a' w' S' h'
      | ret => exact hQ .ret st' a' w' S' h'
    · cases hm
  | .loop l x, code, hm, Q, Q', st, a, w, hQ, S, h => by
    simp only [mC] at hm
    split at hm
    · simp only [awp] at h
      obtain ⟨I, ⟨n0, h0⟩, hI⟩ := h
      refine wp_loop_ghost (fun n a w => ∃ st, Sim c N st a w ∧ I n st) n0 ⟨_, keep_sound l S, h0⟩ ?_
      rintro n a' w' ⟨st', S', h'⟩
      refine c_sound hfx x _ hm st' a' w' ?_ S' (hI n st' h')
      intro e st2 a2 w2 S2 h2
      cases e with
      | nrm => obtain ⟨m, hlt, h2⟩ := h2; exact ⟨m, hlt, _, keep_sound l S2, h2⟩
      | ex id => exact hQ (.ex id) st2 a2 w2 S2 h2
      | ret => exact hQ .ret st2 a2 w2 S2 h2
    · cases hm
  | .exit id, code, hm, Q, Q', st, a, w, hQ, S, h => by
    simp only [mC] at hm
    split at hm
    · simp only [beq_iff_eq] at hm
      subst hm
      exact wp_exit (hQ (.ex id) _ _ _ S h)
    · cases hm
  | .ret, code, hm, Q, Q', st, a, w, hQ, S, h => by
    simp only [mC] at hm
    split at hm
    · exact wp_ret (hQ .ret _ _ _ S h)
    · cases hm
  | .keep l x, code, hm, Q, Q', st, a, w, hQ, S, h => by
    simp only [mC] at hm
    exact c_sound hfx x code hm (keepS l st) a w hQ (keep_sound l S) h
  | .mix FL WL RL B fi ci fs cs, code, hm, Q, Q', st, a, w, hQ, S, h => by
    simp only [mC] at hm
    split at hm
    · exact mix_sound hfx hm S h (fun st a w S h => hQ .nrm st a w S h)
    · cases hm
end
end Go.AM
