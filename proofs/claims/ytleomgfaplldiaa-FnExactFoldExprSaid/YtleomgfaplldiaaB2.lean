/- Own framework, part 11: cuts of strings and slices, comparisons, closures. -/
import Derived.Test.YtleomgfaplldiaaB1
import Derived.Laws.StructEq
namespace Go.AM
set_option linter.unusedVariables false
set_option linter.unusedSimpArgs false

def bnd (d : Int) : Option AV → Option Int
  | none => some d
  | some (.v (.int _ n)) => some n
  | _ => none

def lhs (l h : Option Int) (F : Int → Int → Prop) : Prop :=
  match l, h with
  | some l, some h => F l h
  | _, _ => False

def slcV (sz : Nat) (st : St) (x : AV) (lo hi : Option AV) (k : AV → Prop) : Prop :=
  match x with
  | .v (.string s) => lhs (bnd 0 lo) (bnd s.size hi) fun l h => 0 ≤ l ∧ l ≤ h ∧ h ≤ s.size ∧ k (.v (.string (s.extract l.toNat h.toNat)))
  | .fsl sz' r => lhs (bnd 0 lo) (bnd r.length hi) fun l h => sz' = sz ∧ 0 ≤ l ∧ l ≤ h ∧ h ≤ r.length ∧ k (.fsl sz' ((r.drop l.toNat).take (h.toNat - l.toNat)))
  | .sref n p off len => lhs (bnd 0 lo) (bnd len hi) fun l h => (match getC (st n) p with | some (.usl _ sz' _) => sz' = sz | _ => False) ∧ 0 ≤ l ∧ l ≤ h ∧ h ≤ len ∧ k (.sref n p (off + l.toNat) (h.toNat - l.toNat))
  | _ => False

def slcOk (P : Program) (t : TypeId) (sz : Nat) : Bool :=
  match P.underlying t with
  | some (.slice e) => (P.info? e).map (·.size) == some sz
  | some .string => true
  | _ => false

def mOpds : Option Operand → Option Opd → Bool
  | none, none => true
  | some x, some y => mOpd x y
  | _, _ => false

def isnilV (neq : Bool) (x : AV) (k : AV → Prop) : Prop :=
  match x with
  | .fsl _ l => (l = [] → ∀ b, k (.v (.bool b))) ∧ (l ≠ [] → k (.v (.bool neq)))
  | .sref _ _ _ len => (len = 0 → ∀ b, k (.v (.bool b))) ∧ (len ≠ 0 → k (.v (.bool neq)))
  | _ => False

def eqLeaf : AV → AV → Bool
  | .v (.int _ a), .v (.int _ b) => a == b
  | .v (.string a), .v (.string b) => a.toList == b.toList
  | .v (.bool a), .v (.bool b) => a == b
  | _, _ => false

def eqRow : List AV → List AV → Bool
  | x :: xs, y :: ys => eqLeaf x y && eqRow xs ys
  | _, _ => true

/-- The kinds of a struct's fields: 0 whole numbers, 1 strings, 2 bools. -/
def leaf1 (d : Nat) (p q : Value) : Prop :=
  match p, q with
  | .int k _, .int k' _ => d = 0 ∧ k = k'
  | .string _, .string _ => d = 1
  | .bool _, .bool _ => d = 2
  | _, _ => False

def leafOk : List Nat → List AV → List AV → Prop
  | [], xs, ys => xs = [] ∧ ys = []
  | d :: ds, x :: xs, y :: ys => (match x, y with | .v p, .v q => leaf1 d p q | _, _ => False) ∧ leafOk ds xs ys
  | _ :: _, _, _ => False

def kindT : Nat → Option TypeDesc → Bool
  | 0, some (.int _) => true
  | 1, some .string => true
  | 2, some .bool => true
  | _, _ => false

def kindOk (P : Program) : Nat → List Field → List Nat → Bool
  | off, [], [] => true
  | off, f :: fs, d :: ds => f.offset == off && (f.name != "_") && kindT d (P.underlying f.type) && kindOk P (off + 1) fs ds
  | _, _, _ => false

theorem leafOk_inv {d : Nat} {ds : List Nat} {xs ys : List AV} (h : leafOk (d :: ds) xs ys) : ∃ p q xs' ys', xs = .v p :: xs' ∧ ys = .v q :: ys' ∧ leafOk ds xs' ys' ∧
    ((d = 0 ∧ ∃ k a b, p = .int k a ∧ q = .int k b) ∨ (d = 1 ∧ ∃ a b, p = .string a ∧ q = .string b) ∨ (d = 2 ∧ ∃ a b, p = .bool a ∧ q = .bool b)) := by
  cases xs with
  | nil => exact h.elim
  | cons x xs =>
    cases ys with
    | nil => exact h.elim
    | cons y ys =>
      simp only [leafOk] at h
      obtain ⟨h1, h2⟩ := h
      split at h1
      · rename_i p q
        refine ⟨p, q, xs, ys, rfl, rfl, h2, ?_⟩
        unfold leaf1 at h1
        split at h1
        · obtain ⟨rfl, rfl⟩ := h1; exact .inl ⟨rfl, _, _, _, rfl, rfl⟩
        · exact .inr (.inl ⟨h1, _, _, rfl, rfl⟩)
        · exact .inr (.inr ⟨h1, _, _, rfl, rfl⟩)
        · exact h1.elim
      · exact h1.elim

theorem run_isAgg {P : Program} {t : TypeId} {d : TypeDesc} (hd : P.underlying t = some d) (w : World) : (isAgg t).run P w = .ok (isAggD d) w := by
  unfold isAgg; rw [Sem.run_bind, run_underlying hd w]; cases d <;> rfl

def isAggD' (P : Program) (t : TypeId) : Option Bool := (P.underlying t).map isAggD

def eqOk (P : Program) (t : TypeId) (ds : List Nat) : Bool :=
  match P.underlying t with
  | some (.struct fs) => kindOk P 0 fs.toList ds && !P.stoodInHeld t && !P.eqGuardType P.depth t
  | _ => false

def eqaV (neq : Bool) (ds : List Nat) (x y : AV) (k : AV → Prop) : Prop :=
  match x, y with
  | .agg xs, .agg ys => leafOk ds xs ys ∧ k (.v (.bool (neq ^^ eqRow xs ys)))
  | _, _ => False

section
variable {P : Program} {o : Oper} {c : Ctx} {st : St} {a : Act} {w : World} {own : Nat → List Nat} {lo : List Nat}

theorem bnd_rep {Fz : Nat → Prop} {L : Locs} {d : Int} {x : Option Operand} {x' : Option Opd} (C : Core c st (tmOf a) w own lo) (hx : mOpds x x' = true) {n : Int} (h : bnd d (x'.map (rd st)) = some n) :
    (x.map a.eval = none ∧ n = d) ∨ ∃ kd, x.map a.eval = some (.int kd n) := by
  cases x with
  | none =>
    cases x' with
    | none => simp [bnd] at h; exact .inl ⟨rfl, h.symm⟩
    | some _ => simp [mOpds] at hx
  | some x =>
    cases x' with
    | none => simp [mOpds] at hx
    | some x' =>
      have rx := rd_rep C (x := x) (y := x') (by simpa [mOpds] using hx)
      simp only [Option.map_some, bnd] at h
      split at h
      · rename_i h'; simp at h'
      · rename_i kd m h'
        simp only [Option.some.injEq] at h' h
        subst h
        rw [h'] at rx
        exact .inr ⟨kd, by simp [repV_v rx]⟩
      · simp at h

theorem run_bounds {w' : World} {len cap l h : Nat} {lo hi : Option Value} (hlo : lo = none ∧ l = 0 ∨ ∃ kd, lo = some (.int kd l)) (hhi : hi = none ∧ h = len ∨ ∃ kd, hi = some (.int kd h)) (b : Bool) (h1 : l ≤ h) (h2 : h ≤ cap) :
    (Instr.sliceBounds b len cap lo hi none).run P w' = .ok (l, h, cap) w' := by
  have e1 : ∀ (kd : IntKind) (i y : Nat) (code : BoundsCode), i ≤ y → (Instr.sliceBound (.int kd i) y code).run P w' = .ok i w' := fun kd i y code hi => by
    have := run_sliceBound (P := P) w' kd i y code (by omega) (by omega)
    simpa using this
  rcases hlo with ⟨rfl, rfl⟩ | ⟨kl, rfl⟩ <;> rcases hhi with ⟨rfl, rfl⟩ | ⟨kh, rfl⟩ <;>
    simp [Instr.sliceBounds, e1 _ _ _ _ h1, e1 _ _ _ _ h2]

theorem toNat_of {x : Option Value} {n d : Int} {D : Nat} (hd : d = D) (hn : 0 ≤ n) (h : (x = none ∧ n = d) ∨ ∃ kd, x = some (.int kd n)) : (x = none ∧ n.toNat = D) ∨ ∃ kd, x = some (.int kd n.toNat) := by
  rcases h with ⟨h1, h2⟩ | ⟨kd, h⟩
  · exact .inl ⟨h1, by omega⟩
  · exact .inr ⟨kd, by rw [h]; congr 2; omega⟩

theorem q_slc (C : Core c st (tmOf a) w own lo) {t : TypeId} {sz : Nat} {x : Operand} {x' : Opd} {l h : Option Operand} {l' h' : Option Opd} (hx : mOpd x x' = true) (hl : mOpds l l' = true) (hh : mOpds h h' = true)
    (ho : o.op = .slice t x l h none) (hok : slcOk P t sz = true) {k : AV → Prop}
    (hs : ∀ s, rd st x' = .v (.string s) → P.underlying t = some .string) (hns : (∀ s, rd st x' ≠ .v (.string s)) → P.underlying t ≠ some .string)
    (H : slcV sz st (rd st x') (l'.map (rd st)) (h'.map (rd st)) k) : QRes P o c st a w own lo k := by
  have rx := rd_rep C hx
  have hex : ∀ w', (execOp a.eval o).run P w' = ((Instr.sliceAt t (a.eval x) (l.map a.eval) (h.map a.eval) none).run P w').andThen fun v w => .ok (.value v) w := by
    intro w'; simp [execOp, ho]
  have part : ∀ {d : Int} {F : Int → Int → Prop}, lhs (bnd 0 (l'.map (rd st))) (bnd d (h'.map (rd st))) F → ∃ i j, F i j ∧ ((l.map a.eval = none ∧ i = 0) ∨ ∃ kd, l.map a.eval = some (.int kd i)) ∧ ((h.map a.eval = none ∧ j = d) ∨ ∃ kd, h.map a.eval = some (.int kd j)) := by
    intro d F hF
    unfold lhs at hF
    split at hF
    · rename_i i j hi hj
      exact ⟨i, j, hF, bnd_rep (Fz := fun _ => True) (L := fun _ _ => none) C hl hi, bnd_rep (Fz := fun _ => True) (L := fun _ _ => none) C hh hj⟩
    · exact hF.elim
  unfold slcV at H
  split at H
  · rename_i s hb
    have hu := hs s hb
    rw [hb] at rx
    obtain ⟨i, j, ⟨h0, h1, h2, hk⟩, hi, hj⟩ := part H
    refine ⟨_, _, fun w' => fun _ => ?_, repV_scal rfl, hk⟩
    have hi' := toNat_of (D := 0) rfl h0 hi
    have hj' := toNat_of (D := s.size) rfl (by omega) hj
    rw [hex, run_sliceAt_string w' t _ _ _ _ hu, repV_v rx]
    simp [Instr.slice, run_underlying hu, run_bounds (P := P) (w' := w') hi' hj' false (by omega) (by omega : j.toNat ≤ s.size)]
  · rename_i sz' r hb
    have hns' := hns (by rw [hb]; simp)
    rw [hb] at rx
    obtain ⟨i, j, ⟨rfl, h0, h1, h2, hk⟩, hi, hj⟩ := part H
    have hi' := toNat_of (D := 0) rfl h0 hi
    have hj' := toNat_of (D := r.length) rfl (by omega) hj
    unfold slcOk at hok
    split at hok
    · rename_i e hu
      simp only [beq_iff_eq, Option.map_eq_some_iff] at hok
      obtain ⟨ti, hti, hsz⟩ := hok
      simp only [RepV, RepC] at rx
      obtain ⟨_, A, cp, hp, hcp, hrl⟩ := rx
      have hjl : j.toNat ≤ r.length := by omega
      have hij : i.toNat ≤ j.toNat := by omega
      have hlen : ((r.drop i.toNat).take (j.toNat - i.toNat)).length = j.toNat - i.toNat := by simp; omega
      refine ⟨.slice (if cp = i.toNat then A else A.map (·.add (i.toNat * sz'))) (j.toNat - i.toNat) (cp - i.toNat), _, fun w' _ => ?_, ?_, hk⟩
      · rw [hex, hp]
        simp [Instr.sliceAt, Instr.slice, run_underlying hu, run_bounds (P := P) (w' := w') hi' hj' true hij (by omega : j.toNat ≤ cp), sizeOf, typeInfo, hti, hsz]
      · simp only [RepV, RepC]
        refine ⟨trivial, _, _, by rw [hlen], by omega, ?_⟩
        by_cases he : j.toNat = i.toNat
        · exact .inl (by simp [he])
        · refine .inr ?_
          have hne : r ≠ [] := by intro e; subst e; simp at hjl; omega
          rcases hrl with hrl | ⟨g, hh0, xs, hA, hf, hrows, hat⟩
          · exact absurd hrl hne
          · have hci : ¬ cp = i.toNat := by omega
            obtain ⟨o1, o2, ho1, _, hr2⟩ := hrows.split i.toNat (by omega)
            obtain ⟨rfl, rfl⟩ : o1 = [] ∧ o2 = [] := by simpa using ho1.symm
            obtain ⟨o3, o4, ho2, hr3, _⟩ := hr2.split (j.toNat - i.toNat) (by simp; omega)
            obtain ⟨rfl, rfl⟩ : o3 = [] ∧ o4 = [] := by simpa using ho2.symm
            refine ⟨g, hh0 + i.toNat * sz', _, by simp [hci, hA, Addr.add_lit], hf, hr3, hat.drop _ _⟩
    · rename_i hu; exact absurd hu hns'
    · simp at hok
  · rename_i n p off len hb
    have hns' := hns (by rw [hb]; simp)
    rw [hb] at rx
    obtain ⟨i, j, ⟨hsz', h0, h1, h2, hk⟩, hi, hj⟩ := part H
    have hi' := toNat_of (D := 0) rfl h0 hi
    have hj' := toNat_of (D := len) rfl (by omega) hj
    unfold slcOk at hok
    split at hok
    · rename_i e hu
      simp only [beq_iff_eq, Option.map_eq_some_iff] at hok
      obtain ⟨ti, hti, hsz⟩ := hok
      simp only [RepV] at rx
      obtain ⟨_, s, z, hloc, hbx, hle, hwin⟩ := rx
      obtain ⟨av, oo, hg, hw, hsh, hrep, hsub⟩ := loc_spot C hloc
      rw [hg] at hsz'
      have hss : s.sz = sz := by cases av <;> simp [shapeOf] at hsh hsz'; subst hsh; exact hsz'
      have hij : i.toNat ≤ j.toNat := by omega
      have hrun : ∀ A cx w', a.eval x = .slice A len cx → len ≤ cx → (execOp a.eval o).run P w' = .ok (.value (.slice (if cx = i.toNat then A else A.map (·.add (i.toNat * sz))) (j.toNat - i.toNat) (cx - i.toNat))) w' := by
        intro A cx w' hp hc
        rw [hex, hp]
        simp [Instr.sliceAt, Instr.slice, run_underlying hu, run_bounds (P := P) (w' := w') hi' hj' true hij (by omega : j.toNat ≤ cx), sizeOf, typeInfo, hti, hsz]
      rcases hwin with ⟨hz, hx', hoff, hlen⟩ | ⟨g, b, n', cp, kk, cx, hz, hx', hlc, hkc, hko⟩
      · subst hlen hoff
        have hi0 : i.toNat = 0 := by omega
        have hj0 : j.toNat = 0 := by omega
        refine ⟨_, _, fun w' _ => hrun _ _ w' hx' (Nat.le_refl _), ?_, hk⟩
        simp only [RepV]
        exact ⟨trivial, s, z, hloc, hbx, by omega, .inl ⟨hz, by simp [hi0, hj0], by omega, by omega⟩⟩
      · refine ⟨_, _, fun w' _ => hrun _ _ w' hx' hlc, ?_, hk⟩
        simp only [RepV]
        refine ⟨trivial, s, z, hloc, hbx, by omega, .inr ?_⟩
        by_cases hci : cx = i.toNat
        · refine ⟨g, b, n', cp, kk, cx - i.toNat, hz, by simp [hci], by omega, by omega, ?_⟩
          by_cases hi00 : i.toNat = 0
          · rcases hko with ⟨h, h'⟩ | ⟨h0, h, h'⟩
            · exact .inl ⟨by omega, by omega⟩
            · exact .inr ⟨by omega, by omega, by omega⟩
          · exact .inr ⟨by omega, by omega, by omega⟩
        · refine ⟨g, b, n', cp, kk + i.toNat, cx - i.toNat, hz, ?_, by omega, by omega, ?_⟩
          · simp [hci, Addr.add_lit, Nat.add_mul, Nat.add_assoc, hss]
          · rcases hko with ⟨h, h'⟩ | ⟨h0, h, h'⟩
            · exact .inl ⟨by omega, by omega⟩
            · omega
    · rename_i hu; exact absurd hu hns'
    · simp at hok
  · exact H.elim

theorem q_isnil (C : Core c st (tmOf a) w own lo) {t t' : TypeId} {x : Operand} {x' : Opd} {neq : Bool} (hx : mOpd x x' = true) (ho : o.op = .binOp (if neq then .neq else .eql) t x (.const (.slice none 0 0)) t')
    (hu : ∃ e, P.underlying t = some (.slice e)) {k : AV → Prop} (h : isnilV neq (rd st x') k) : QRes P o c st a w own lo k := by
  obtain ⟨e, hu⟩ := hu
  have rx := rd_rep C hx
  have hrun : ∀ A n cp w', a.eval x = .slice A n cp → (execOp a.eval o).run P w' = .ok (.value (.bool (neq ^^ A.isNone))) w' := by
    intro A n cp w' hp
    have e0 : ∀ op, (eqGuard op t x (.const (.slice none 0 0)) (.slice A n cp) (.slice none 0 0)).run P w' = .ok () w' := by intro op; cases op <;> rfl
    have e2 : ∀ d : Nat, (Op.equalIn (d + 1) t (.slice A n cp) (.slice none 0 0)).run P w' = .ok A.isNone w' := by
      intro d; cases A <;> simp [Op.equalIn, run_underlying hu]
    have e1 : (Op.equal t (.slice A n cp) (.slice none 0 0)).run P w' = .ok A.isNone w' := e2 9999
    have ec : a.eval (.const (.slice none 0 0)) = .slice none 0 0 := rfl
    cases neq <;> simp [execOp, ho, hp, ec, e0, binOp, e1]
  unfold isnilV at h
  split at h
  · rename_i sz l hb
    rw [hb] at rx
    simp only [RepV, RepC] at rx
    obtain ⟨_, A, cp, hp, _, hl⟩ := rx
    refine ⟨_, .v (.bool (neq ^^ A.isNone)), fun w' _ => hrun A _ cp w' hp, repV_scal rfl, ?_⟩
    by_cases hne : l = []
    · exact h.1 hne _
    · rcases hl with hl | ⟨g, hh, xs, rfl, _⟩
      · exact absurd hl hne
      · simpa using h.2 hne
  · rename_i n p off len hb
    rw [hb] at rx
    simp only [RepV] at rx
    obtain ⟨_, s, y, _, _, _, hw⟩ := rx
    rcases hw with ⟨_, hx', _, hlen⟩ | ⟨g, b, n', cp, kk, cx, _, hx', _⟩
    · exact ⟨_, _, fun w' _ => hrun _ _ _ w' hx', repV_scal rfl, h.1 hlen _⟩
    · refine ⟨_, _, fun w' _ => hrun _ _ _ w' hx', repV_scal rfl, ?_⟩
      by_cases hne : len = 0
      · exact h.1 hne _
      · simpa using h.2 hne
  · exact h.elim

theorem run_eqFields {w w' : World} {Fz : Nat → Prop} {L : Locs} {X Y : Array Value} (D : Nat) : ∀ (fs : List Field) (ds : List Nat) (off : Nat) (xs ys : List AV) (vx vy : List Value), kindOk P off fs ds = true → leafOk ds xs ys →
    RepVs w Fz L xs vx [] → RepVs w Fz L ys vy [] → (∀ j z, vx[j]? = some z → X[off + j]? = some z) → (∀ j z, vy[j]? = some z → Y[off + j]? = some z) → (Op.eqFields (D + 1) X Y fs).run P w' = .ok (eqRow xs ys) w'
  | [], [], off, xs, ys, vx, vy, hk, hl, hx, hy, hX, hY => by
    simp only [leafOk] at hl
    rw [hl.1, hl.2]
    simp [Op.eqFields, eqRow]
  | [], d :: ds, off, xs, ys, vx, vy, hk, hl, hx, hy, hX, hY => by simp [kindOk] at hk
  | f :: fs, [], off, xs, ys, vx, vy, hk, hl, hx, hy, hX, hY => by simp [kindOk] at hk
  | f :: fs, d :: ds, off, xs, ys, vx, vy, hk, hl, hx, hy, hX, hY => by
    simp only [kindOk, Bool.and_eq_true, beq_iff_eq, bne_iff_ne] at hk
    obtain ⟨⟨⟨hoff, hname⟩, hkind⟩, hk⟩ := hk
    obtain ⟨p, q, xs', ys', rfl, rfl, hl', hd⟩ := leafOk_inv hl
    simp only [RepVs] at hx hy
    obtain ⟨vx0, vx', o1, o2, hvx, ho12, hx0, hxr⟩ := hx
    obtain ⟨vy0, vy', o3, o4, hvy, ho34, hy0, hyr⟩ := hy
    obtain ⟨rfl, rfl⟩ : o1 = [] ∧ o2 = [] := by simpa using ho12.symm
    obtain ⟨rfl, rfl⟩ : o3 = [] ∧ o4 = [] := by simpa using ho34.symm
    subst hvx hvy
    obtain rfl := repV_v hx0
    obtain rfl := repV_v hy0
    have c1 := hX 0 _ (by simp; rfl)
    have c2 := hY 0 _ (by simp; rfl)
    have ih := run_eqFields (w' := w') D fs ds (off + 1) xs' ys' vx' vy' hk hl' hxr hyr (fun j z hz => by have := hX (j + 1) z (by simpa using hz); rwa [show off + (j + 1) = off + 1 + j from by omega] at this) (fun j z hz => by have := hY (j + 1) z (by simpa using hz); rwa [show off + (j + 1) = off + 1 + j from by omega] at this)
    simp only [Nat.add_zero] at c1 c2
    have fin : (isAgg f.type).run P w' = .ok false w' → (Op.equalIn (D + 1) f.type vx0 vy0).run P w' = .ok (eqLeaf (.v vx0) (.v vy0)) w' → (Op.eqFields (D + 1) X Y (f :: fs)).run P w' = .ok (eqRow (.v vx0 :: xs') (.v vy0 :: ys')) w' := by
      intro hagg heq
      simp only [Op.eqFields, hname, ne_eq, not_false_eq_true, if_true, Sem.run_bind, part, hagg, Result.andThen_ok, Bool.false_eq_true, if_false, hoff, c1, c2, Sem.run_pure, heq, eqRow]
      cases h0 : eqLeaf (.v vx0) (.v vy0)
      · simp
      · simp [ih]
    rcases hd with ⟨rfl, k, A, B, rfl, rfl⟩ | ⟨rfl, A, B, rfl, rfl⟩ | ⟨rfl, A, B, rfl, rfl⟩
    · cases hu : P.underlying f.type with
      | none => rw [hu] at hkind; cases hkind
      | some d' =>
        rw [hu] at hkind
        cases d' <;> first | cases hkind | skip
        exact fin (run_isAgg hu w') (run_equalIn_int w' D f.type k _ A B hu)
    · cases hu : P.underlying f.type with
      | none => rw [hu] at hkind; cases hkind
      | some d' =>
        rw [hu] at hkind
        cases d' <;> first | cases hkind | skip
        exact fin (run_isAgg hu w') (run_equalIn_string w' D f.type A B hu)
    · cases hu : P.underlying f.type with
      | none => rw [hu] at hkind; cases hkind
      | some d' =>
        rw [hu] at hkind
        cases d' <;> first | cases hkind | skip
        exact fin (run_isAgg hu w') (run_equalIn_bool' w' D f.type A B hu)

theorem run_binOp_agg {w' : World} {t : TypeId} {X Y : Array Value} {b neq : Bool} (h : ∀ D, (Op.equalIn (D + 1 + 1) t (.agg X) (.agg Y)).run P w' = .ok b w') :
    (binOp (if neq then .neq else .eql) t (.agg X) (.agg Y)).run P w' = .ok (.bool (neq ^^ b)) w' := by
  have h' := h 9998
  cases neq
  · rw [if_neg (by simp), run_eql_struct, h']; simp
  · rw [if_pos rfl, run_neq_struct, h']; simp

theorem q_eqa (C : Core c st (tmOf a) w own lo) {t t' : TypeId} {x y : Operand} {x' y' : Opd} {neq : Bool} {ds : List Nat} (hx : mOpd x x' = true) (hy : mOpd y y' = true) (ho : o.op = .binOp (if neq then .neq else .eql) t x y t')
    (hok : eqOk P t ds = true) {k : AV → Prop} (h : eqaV neq ds (rd st x') (rd st y') k) : QRes P o c st a w own lo k := by
  have rx := rd_rep C hx
  have ry := rd_rep C hy
  unfold eqOk at hok
  split at hok
  rotate_left
  · simp at hok
  rename_i fs hu
  simp only [Bool.and_eq_true, Bool.not_eq_true'] at hok
  obtain ⟨⟨hkind, hst⟩, hgt⟩ := hok
  unfold eqaV at h
  split at h
  · rename_i xs ys hxs hys
    rw [hxs] at rx
    rw [hys] at ry
    simp only [RepV] at rx ry
    obtain ⟨vx, hvx, hx⟩ := rx
    obtain ⟨vy, hvy, hy⟩ := ry
    have hfo : P.fieldsOf t = fs := by simp [Program.fieldsOf, hu]
    refine ⟨.bool (neq ^^ eqRow xs ys), _, fun w' _ => ?_, repV_scal rfl, h.2⟩
    have e1 : ∀ D, (Op.equalIn (D + 1 + 1) t (.agg vx.toArray) (.agg vy.toArray)).run P w' = .ok (eqRow xs ys) w' := by
      intro D
      rw [run_equalIn_struct (P := P) w' (D + 1) t vx.toArray vy.toArray (by rw [hfo]; exact hu) hst, hfo]
      exact run_eqFields (P := P) (w' := w') (X := vx.toArray) (Y := vy.toArray) D fs.toList ds 0 xs ys vx vy hkind h.1 hx hy (by intro j z hz; simpa using hz) (by intro j z hz; simpa using hz)
    have e2 := run_binOp_agg (neq := neq) e1
    have g := fun op => run_eqGuard_agg (P := P) w' op t x y vx.toArray vy.toArray hgt
    simp [execOp, ho, hvx, hvy, g, e2]
  · exact h.elim

theorem mOpdL_rep (C : Core c st (tmOf a) w own lo) : ∀ (xs : List Operand) (ys : List Opd), (xs.length == ys.length && (xs.zip ys).all fun p => mOpd p.1 p.2) = true →
    RepVs w (frz c w (owned own lo)) (locs st (tmOf a) w) (ys.map (rd st)) (xs.map a.eval) []
  | [], [], _ => by simp [RepVs]
  | [], y :: ys, h => by simp at h
  | x :: xs, [], h => by simp at h
  | x :: xs, y :: ys, h => by
    simp only [List.length_cons, Nat.add_eq, Bool.and_eq_true, beq_iff_eq, List.zip_cons_cons, List.all_cons] at h
    simp only [List.map_cons, RepVs]
    refine ⟨_, _, [], [], rfl, rfl, rd_rep C h.2.1, mOpdL_rep C xs ys ?_⟩
    simp only [Bool.and_eq_true, beq_iff_eq]
    exact ⟨by omega, h.2.2⟩

theorem q_mkf (C : Core c st (tmOf a) w own lo) {f : Nat} {xs : List Operand} {ys : List Opd} (hx : (xs.length == ys.length && (xs.zip ys).all fun p => mOpd p.1 p.2) = true) (ho : o.op = .makeFunc (.func f) #[] xs.toArray) {k : AV → Prop}
    (h : k (.clo f (ys.map (rd st)))) : QRes P o c st a w own lo k := by
  refine ⟨.func (.func f) #[] (xs.map a.eval).toArray, _, fun w' _ => ?_, ?_, h⟩
  · simp [execOp, ho, Instr.makeFunc]
  · simp only [RepV]; exact ⟨_, rfl, mOpdL_rep C xs ys hx⟩
end
end Go.AM
