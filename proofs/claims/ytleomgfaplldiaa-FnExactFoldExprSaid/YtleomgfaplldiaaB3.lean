/- Own framework, part 12: taking what is owned out of its place. -/
import Derived.Test.YtleomgfaplldiaaB2
namespace Go.AM
set_option linter.unusedVariables false
set_option linter.unusedSimpArgs false

/-- Which lent things die when the place (n, p) is emptied. -/
def takeK (n : Nat) (p : List (Nat × Nat)) : Nat → List (Nat × Nat) → Bool := fun m q => m == n && p.isPrefixOf q
/-- .. when the thing at (n, p) is changed: those that lie deeper. -/
def keepK (n : Nat) (p : List (Nat × Nat)) : Nat → List (Nat × Nat) → Bool := fun m q => m == n && p.isPrefixOf q && !q.isPrefixOf p

def takeS (n : Nat) (p : List (Nat × Nat)) (st : St) : St := fun k => killV (takeK n p) (upd st n (setC (st n) p .dead) k)
def setS (n : Nat) (p : List (Nat × Nat)) (av : AV) (st : St) : St := fun k => killV (keepK n p) (upd st n (setC (st n) p av) k)

mutual
/-- Nothing lent in it, nothing owned: all of it is plain or frozen. -/
def plain : AV → Bool
  | .v _ => true
  | .fsl .. => true
  | .fptr _ => true
  | .agg l => plains l
  | .clo _ l => plains l
  | .tup l => false
  | .usl .. => false
  | .box .. => false
  | .ref .. => false
  | .sref .. => false
  | .dead => false
def plains : List AV → Bool
  | [] => true
  | c :: cs => plain c && plains cs
end

def ownO (st : St) : Opd → Option (AV × St)
  | .t n => match st n with
    | .sref m p off len => match getC (st m) p with
      | some (.usl e sz l) => some (.usl e sz ((l.drop off).take len), takeS m p st)
      | _ => none
    | .ref m p i k => match getC (st m) p with
      | some (.box e cs) => if i = 0 ∧ k = 0 then some (.box e cs, takeS m p st) else none
      | _ => none
    | av => if bare av then (if plain av then some (av, st) else none) else some (killV (dropK n) av, dropS n st)
  | .c v => some (.v v, st)
  | .nils e sz => some (.usl e sz [], st)
  | .fn f => some (.clo f [], st)

theorem core_take {c : Ctx} {st : St} {tm : Nat → Value} {w : World} {own : Nat → List Nat} {lo : List Nat} (C : Core c st tm w own lo) {n : Nat} {p : List (Nat × Nat)} {av : AV} {y : Value}
    (hw : walk w (st n) (tm n) p = some (av, y)) (ho : isOwner av = true) :
    ∃ own' o, Core c (takeS n p st) tm w own' (lo ++ o) ∧ RepC w (frz c w (owned own lo)) av y o ∧ (∀ b, owned own' (lo ++ o) b ↔ owned own lo b) := by
  obtain ⟨o, hr, hn, hd, hO, hwalk, H⟩ := C.mod hw ho
  have hX : ∀ b, modOwned own lo o [] (lo ++ o) b ↔ owned own lo b := by
    intro b
    simp only [modOwned, List.mem_append, List.not_mem_nil, false_or]
    constructor
    · rintro ((h | h) | h)
      · exact .inr h
      · exact hO b h
      · exact h.1
    · intro h
      by_cases h1 : b ∈ lo
      · exact .inl (.inl h1)
      · by_cases h2 : b ∈ o
        · exact .inl (.inr h2)
        · exact .inr ⟨h, h2, h1⟩
  obtain ⟨own', C', hX'⟩ := H w .dead [] (lo ++ o) (takeK n p) (Ext.refl _ _) (by simp)
    (List.nodup_append.2 ⟨C.lnd, hn, fun a ha b hb e => hd b hb (e ▸ ha)⟩) (by simp)
    (fun b hb => by
      simp only [List.not_mem_nil, false_or, List.mem_append] at hb
      rcases hb with hb | hb
      · exact ⟨.inr (.inl hb), (C.old b (.inr hb)).2⟩
      · exact ⟨.inl hb, (C.old b (hO b hb)).2⟩)
    (by simp only [RepC]; exact ⟨hr.one, trivial⟩)
    (fun q r hK hq => by
      have := (hwalk w .dead (Ext.refl _ _)).1 q (by
        intro hh
        rw [← List.isPrefixOf_iff_prefix] at hh
        simp [takeK, hh] at hK)
      rw [this]; exact hq)
  exact ⟨own', o, C', hr, fun b => (hX' b).trans (hX b)⟩

/-- Frozen is what it was. -/
theorem frz_congr {c : Ctx} {w : World} {X X' : Nat → Prop} (h : ∀ b, X' b ↔ X b) : frz c w X' = frz c w X := by
  funext b
  simp only [frz, h b]

theorem win_usl {w : World} {Fz : Nat → Prop} {e sz : Nat} {l : List (List AV)} {y x : Value} {o : List Nat} {off len : Nat} (h : RepC w Fz (.usl e sz l) y o) (hl : off + len ≤ l.length) (hw : Win sz y off len x) :
    ∃ o', RepC w Fz (.usl e sz ((l.drop off).take len)) x o' ∧ (∀ b ∈ o', b ∈ o) ∧ (o.Nodup → o'.Nodup) := by
  have hlen : ((l.drop off).take len).length = len := by simp; omega
  simp only [RepC] at h
  rcases hw with ⟨h1, h2, rfl, rfl⟩ | ⟨g, b, n, cp, k, cx, hy, hx, hlc, hkc, hko⟩
  · exact ⟨[], by simp only [RepC]; exact .inl ⟨h2, by simp, trivial⟩, by simp, by simp⟩
  · rcases h with ⟨h1, _⟩ | ⟨g', hh, cp', cur, xs, o', hy', ho, hg, hcp, hsz, hrep, hat⟩
    · rw [h1] at hy; simp at hy
    · rw [hy'] at hy
      simp only [Value.slice.injEq, Option.some.injEq, Addr.mk.injEq, and_true] at hy
      obtain ⟨⟨rfl, rfl⟩, rfl, rfl⟩ := hy
      obtain ⟨o1, o2, ho1, _, hr2⟩ := hrep.split off (by omega)
      obtain ⟨o3, o4, ho2, hr3, _⟩ := hr2.split len (by simp; omega)
      subst ho ho1 ho2
      refine ⟨g' :: o3, ?_, ?_, ?_⟩
      · simp only [RepC]
        refine .inr ⟨g', hh + k, cx, cur, _, o3, by rw [hlen, hx, Nat.add_mul], rfl, hg, by rw [hlen]; exact hlc, ?_, hr3, ?_⟩
        · refine Nat.le_trans (Nat.mul_le_mul_right _ ?_) hsz; omega
        · rcases hko with ⟨rfl, _⟩ | ⟨_, rfl, rfl⟩
          · rw [Nat.add_mul]; exact hat.drop _ _
          · simp [At]
      · intro b hb
        rcases List.mem_cons.1 hb with rfl | hb
        · simp
        · simp [hb]
      · intro hn
        have := List.nodup_cons.1 hn
        rw [List.nodup_append] at this
        obtain ⟨h1, h2, h3, _⟩ := this
        rw [List.nodup_append] at h3
        exact List.nodup_cons.2 ⟨fun hm => h1 (by simp [hm]), h3.1⟩

theorem own_sref {c : Ctx} {st : St} {tm : Nat → Value} {w : World} {own : Nat → List Nat} {lo : List Nat} (C : Core c st tm w own lo) {n : Nat} {p : List (Nat × Nat)} {off len : Nat} {x : Value} {e sz : Nat} {l : List (List AV)}
    (hr : RepV w (frz c w (owned own lo)) (locs st tm w) (.sref n p off len) x []) (hg : getC (st n) p = some (.usl e sz l)) :
    ∃ own' lo1, Core c (takeS n p st) tm w own' (lo ++ lo1) ∧ RepC w (frz c w (owned own' (lo ++ lo1))) (.usl e sz ((l.drop off).take len)) x lo1 ∧ off + len ≤ l.length ∧ ∀ b, owned own' (lo ++ lo1) b → owned own lo b := by
  simp only [RepV] at hr
  obtain ⟨_, s, y, hloc, hbx, hle, hwin⟩ := hr
  obtain ⟨av, oo, hg', hw, hsh, hrep, hsub⟩ := loc_spot C hloc
  rw [hg] at hg'
  obtain rfl := Option.some.inj hg'
  simp only [shapeOf, Option.some.injEq] at hsh
  subst hsh
  obtain ⟨own', o, C', hrep', hX⟩ := core_take C hw rfl
  obtain ⟨o', hr', hsub', hnd'⟩ := win_usl hrep' hle hwin
  -- what the window does not own is let go
  have hno : o.Nodup := (List.nodup_append.1 C'.lnd).2.1
  have C2 := C'.world (lo' := lo ++ o') (Ext.refl w _) (List.nodup_append.2 ⟨(List.nodup_append.1 C'.lnd).1, hnd' hno, fun a ha b hb => (List.nodup_append.1 C'.lnd).2.2 a ha b (hsub' b hb)⟩)
    (fun b hb => by
      rcases List.mem_append.1 hb with h | h
      · exact ⟨.inl (by simp [h]), (C'.old b (.inr (by simp [h]))).2⟩
      · exact ⟨.inl (by simp [hsub' b h]), (C'.old b (.inr (by simp [hsub' b h]))).2⟩)
  have hX2 : ∀ b, owned own' (lo ++ o') b → owned own lo b := by
    intro b hx
    rw [← hX]
    rcases hx with ⟨k, hk⟩ | hx
    · exact .inl ⟨k, hk⟩
    · rcases List.mem_append.1 hx with h | h
      · exact .inr (by simp [h])
      · exact .inr (by simp [hsub' b h])
  refine ⟨own', o', C2, ?_, hle, hX2⟩
  refine hr'.keep _ _ _ ⟨fun b hb => ⟨⟨hb.1, hb.2.1, fun hx => hb.2.2 ?_⟩, rfl⟩, fun _ _ => rfl⟩
  rw [← hX]
  rcases hx with ⟨k, hk⟩ | hx
  · exact .inl ⟨k, hk⟩
  · rcases List.mem_append.1 hx with h | h
    · exact .inr (by simp [h])
    · exact .inr (by simp [hsub' b h])

theorem own_ref {c : Ctx} {st : St} {tm : Nat → Value} {w : World} {own : Nat → List Nat} {lo : List Nat} (C : Core c st tm w own lo) {n : Nat} {p : List (Nat × Nat)} {x : Value} {e : Nat} {cs : List AV}
    (hr : RepV w (frz c w (owned own lo)) (locs st tm w) (.ref n p 0 0) x []) (hg : getC (st n) p = some (.box e cs)) :
    ∃ own' lo1, Core c (takeS n p st) tm w own' (lo ++ lo1) ∧ RepC w (frz c w (owned own' (lo ++ lo1))) (.box e cs) x lo1 ∧ ∀ b, owned own' (lo ++ lo1) b → owned own lo b := by
  simp only [RepV] at hr
  obtain ⟨_, s, y, b, f, hloc, hadr, _, _, hx⟩ := hr
  obtain ⟨av, oo, hg', hw, hsh, hrep, hsub⟩ := loc_spot C hloc
  rw [hg] at hg'
  obtain rfl := Option.some.inj hg'
  obtain ⟨own', o, C', hrep', hX⟩ := core_take C hw rfl
  have hyx : x = y := by
    have h := hrep'
    simp only [RepC] at h
    obtain ⟨g, xs, o', hy, _⟩ := h
    rw [hy] at hadr
    simp only [addrOf, Option.some.injEq, Prod.mk.injEq] at hadr
    rw [hx, hy, ← hadr.1, ← hadr.2]
    simp
  refine ⟨own', o, C', ?_, fun b hb => (hX b).1 hb⟩
  rw [frz_congr hX, hyx]
  exact hrep'

mutual
theorem plain_rep {w w' : World} {Fz Fz' : Nat → Prop} {L L' : Locs} : ∀ (av : AV) {x : Value} {o : List Nat}, RepV w Fz L av x o → plain av = true → Agree w w' Fz Fz' [] → RepV w' Fz' L' av x []
  | .agg l, x, o, h, hp, ag => by
    simp only [RepV] at h ⊢; obtain ⟨xs, hx, h⟩ := h
    exact ⟨xs, hx, plains_rep l h (by simpa [plain] using hp) ag⟩
  | .clo f l, x, o, h, hp, ag => by
    simp only [RepV] at h ⊢; obtain ⟨xs, hx, h⟩ := h
    exact ⟨xs, hx, plains_rep l h (by simpa [plain] using hp) ag⟩
  | .v _, x, o, h, hp, ag => by have := bare_own _ h rfl; subst this; simp only [RepV] at h ⊢; exact h.keep _ _ _ ag
  | .fsl _ _, x, o, h, hp, ag => by have := bare_own _ h rfl; subst this; simp only [RepV] at h ⊢; exact h.keep _ _ _ ag
  | .fptr _, x, o, h, hp, ag => by have := bare_own _ h rfl; subst this; simp only [RepV] at h ⊢; exact h.keep _ _ _ ag
  | .tup _, x, o, h, hp, ag => by simp [plain] at hp
  | .usl _ _ _, x, o, h, hp, ag => by simp [plain] at hp
  | .box _ _, x, o, h, hp, ag => by simp [plain] at hp
  | .ref _ _ _ _, x, o, h, hp, ag => by simp [plain] at hp
  | .sref _ _ _ _, x, o, h, hp, ag => by simp [plain] at hp
  | .dead, x, o, h, hp, ag => by simp [plain] at hp
theorem plains_rep {w w' : World} {Fz Fz' : Nat → Prop} {L L' : Locs} : ∀ (l : List AV) {xs : List Value} {o : List Nat}, RepVs w Fz L l xs o → plains l = true → Agree w w' Fz Fz' [] → RepVs w' Fz' L' l xs []
  | [], xs, o, h, hp, ag => by simp only [RepVs] at h ⊢; exact ⟨h.1, trivial⟩
  | c :: cs, xs, o, h, hp, ag => by
    simp only [RepVs] at h ⊢
    obtain ⟨x, xs', o1, o2, hx, ho, hc, hr⟩ := h
    simp only [plains, Bool.and_eq_true] at hp
    exact ⟨x, xs', [], [], hx, rfl, plain_rep c hc hp.1 ag, plains_rep cs hr hp.2 ag⟩
end

theorem Agree.rfl' {w : World} {Fz : Nat → Prop} {o : List Nat} : Agree w w Fz Fz o := ⟨fun _ h => ⟨h, rfl⟩, fun _ _ => rfl⟩

/-- The whole of a slot is moved out. -/
theorem core_pull {c : Ctx} {st : St} {tm : Nat → Value} {w : World} {own : Nat → List Nat} {lo : List Nat} (C : Core c st tm w own lo) (n : Nat) :
    ∃ own', Core c (dropS n st) tm w own' (lo ++ own n) ∧ RepV w (frz c w (owned own' (lo ++ own n))) (locs (dropS n st) tm w) (killV (dropK n) (st n)) (tm n) (own n) ∧ ∀ b, owned own' (lo ++ own n) b → owned own lo b := by
  have hX : ∀ b, owned (upd own n []) (lo ++ own n) b ↔ owned own lo b := by
    intro b
    constructor
    · rintro (⟨k, hk⟩ | hb)
      · by_cases h : k = n
        · simp [upd, h] at hk
        · exact .inl ⟨k, by simpa [upd, h] using hk⟩
      · rcases List.mem_append.1 hb with h | h
        · exact .inr h
        · exact .inl ⟨n, h⟩
    · rintro (⟨k, hk⟩ | hb)
      · by_cases h : k = n
        · subst h; exact .inr (by simp [hk])
        · exact .inl ⟨k, by simpa [upd, h] using hk⟩
      · exact .inr (by simp [hb])
  have hF := frz_congr (c := c) (w := w) hX
  have hL : ∀ m p r, dropK n m p = false → locs st tm w m p = some r → locs (dropS n st) tm w m p = some r := by
    intro m p r hK hl
    have hn : m ≠ n := by simpa [dropK] using hK
    simp only [locs, dropS, walkSh_kill, upd, hn, if_false]
    exact hl
  refine ⟨upd own n [], ⟨C.fr, ?_, ?_, ?_, ?_, ?_, ?_⟩, ?_⟩
  · intro k
    rw [hF]
    by_cases h : k = n
    · simp [dropS, upd, h, killV, RepV]
    · simp only [dropS, upd, h, if_false]
      exact (C.rep k).keep hL _ _ _ Agree.rfl'
  · intro k; by_cases h : k = n
    · simp [upd, h]
    · simpa [upd, h] using C.nd k
  · intro j k hjk b hb
    by_cases h : j = n
    · simp [upd, h] at hb
    · by_cases h' : k = n
      · simp [upd, h']
      · simp only [upd, h, h', if_false] at hb ⊢; exact C.dj j k hjk b hb
  · exact List.nodup_append.2 ⟨C.lnd, C.nd n, fun a ha b hb e => C.ldj n b hb (e ▸ ha)⟩
  · intro k b hb hb'
    by_cases h : k = n
    · simp [upd, h] at hb
    · simp only [upd, h, if_false] at hb
      rcases List.mem_append.1 hb' with h1 | h1
      · exact C.ldj k b hb h1
      · exact C.dj k n h b hb h1
  · intro b hb; exact C.old b ((hX b).1 hb)
  · rw [hF]
    exact ⟨(C.rep n).keep hL _ _ _ Agree.rfl', fun b hb => (hX b).1 hb⟩

theorem own_sound {c : Ctx} {st st' : St} {a : Act} {w : World} {own : Nat → List Nat} {lo : List Nat} (C : Core c st (tmOf a) w own lo) {x : Operand} {y : Opd} (hx : mOpd x y = true) {av : AV} (h : ownO st y = some (av, st')) :
    ∃ own' lo1, Core c st' (tmOf a) w own' (lo ++ lo1) ∧ RepV w (frz c w (owned own' (lo ++ lo1))) (locs st' (tmOf a) w) av (a.eval x) lo1 ∧ ∀ b, owned own' (lo ++ lo1) b → owned own lo b := by
  have rx := rd_rep C hx
  cases y with
  | c v => simp only [ownO, Option.some.injEq, Prod.mk.injEq] at h; obtain ⟨rfl, rfl⟩ := h; exact ⟨own, [], by simpa using C, by simpa [rd] using rx, fun b hb => by simpa using hb⟩
  | nils e sz => simp only [ownO, Option.some.injEq, Prod.mk.injEq] at h; obtain ⟨rfl, rfl⟩ := h; exact ⟨own, [], by simpa using C, by simpa [rd] using rx, fun b hb => by simpa using hb⟩
  | fn f => simp only [ownO, Option.some.injEq, Prod.mk.injEq] at h; obtain ⟨rfl, rfl⟩ := h; exact ⟨own, [], by simpa using C, by simpa [rd] using rx, fun b hb => by simpa using hb⟩
  | t n =>
    have hxn : a.eval x = tmOf a n := by
      unfold mOpd at hx
      split at hx <;> simp_all
      rfl
    have rn := C.rep n
    simp only [ownO] at h
    split at h
    · rename_i m p off len hst
      rw [hst] at rn
      split at h
      · rename_i e sz l hg
        simp only [Option.some.injEq, Prod.mk.injEq] at h
        obtain ⟨rfl, rfl⟩ := h
        have hn := bare_own _ rn rfl
        rw [hn] at rn
        obtain ⟨own', lo1, C', hr, _, hX⟩ := own_sref C rn hg
        exact ⟨own', lo1, C', by rw [hxn]; exact hr.toV, hX⟩
      · cases h
    · rename_i m p i k hst
      rw [hst] at rn
      split at h
      · rename_i e cs hg
        split at h
        · rename_i hik
          obtain ⟨rfl, rfl⟩ := hik
          simp only [Option.some.injEq, Prod.mk.injEq] at h
          obtain ⟨rfl, rfl⟩ := h
          have hn := bare_own _ rn rfl
          rw [hn] at rn
          obtain ⟨own', lo1, C', hr, hX⟩ := own_ref C rn hg
          exact ⟨own', lo1, C', by rw [hxn]; exact hr.toV, hX⟩
        · cases h
      · cases h
    · split at h
      · rename_i hb
        split at h
        · rename_i hp
          simp only [Option.some.injEq, Prod.mk.injEq] at h
          obtain ⟨rfl, rfl⟩ := h
          refine ⟨own, [], by simpa using C, ?_, fun b hb => by simpa using hb⟩
          rw [hxn]
          have := plain_rep (L' := locs st (tmOf a) w) _ rn hp (Agree.rfl' (o := []))
          simpa using this
        · cases h
      · simp only [Option.some.injEq, Prod.mk.injEq] at h
        obtain ⟨rfl, rfl⟩ := h
        obtain ⟨own', C', hr, hX⟩ := core_pull C n
        exact ⟨own', own n, C', by rw [hxn]; exact hr, hX⟩
end Go.AM
