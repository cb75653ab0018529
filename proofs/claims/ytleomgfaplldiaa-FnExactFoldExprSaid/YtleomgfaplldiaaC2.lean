/- Own framework, part 20: compact operations, and how they are matched with the program's. -/
import Derived.Test.YtleomgfaplldiaaC1
namespace Go.AM
set_option linter.unusedVariables false
set_option linter.unusedSimpArgs false

/-- Operations that only read. -/
inductive MQ where
  | mov (x : Opd)
  | pick (x y z : Opd)
  | bin (b : Bool) (op : BinOp) (x y : Opd)
  | un (op : UnOp) (x : Opd)
  | conv (kd : IntKind) (x : Opd)
  | len (s : Bool) (x : Opd)
  | load (agg : Bool) (sz : Nat) (x : Opd)
  | nilchk (x : Opd)
  | fad (off : Nat) (x : Opd)
  | fld (agg : Bool) (off sz : Nat) (x : Opd)
  | iad (sz : Nat) (x i : Opd)
  | idx (x i : Opd)
  | slc (s : Bool) (sz : Nat) (x : Opd) (lo hi : Option Opd)
  | isnil (neq : Bool) (x : Opd)
  | eqa (neq : Bool) (ds : List Nat) (x y : Opd)
  | ext (n i : Nat)
  | mkf (f : Nat) (ys : List Opd)
  | b2s (x : Opd)

/-- Operations that do something. -/
inductive MA where
  | asg (x : Opd)
  | box (e : Nat) (x : Opd)
  | alloc (e : Nat) (zs : List ZC)
  | build (ix offs szs : List Nat) (zs : List ZC) (ys : List Opd)
  | bsl (e sz : Nat) (ys : List Opd)
  | mks (e sz bytes : Nat) (zs : List ZC) (x y : Opd)
  | store (sz : Nat) (x y : Opd)
  | app (own : Bool) (e sz bytes : Nat) (x y : Opd)
  | call (y : Opd) (al : Bool) (as : List Arg)

inductive MI where
  | q (m : MQ)
  | a (m : MA)

structure MO where
  d : Option Nat
  g : Option (Nat × Bool)
  i : MI

def isB : AV → Bool
  | .v (.bool _) => true
  | _ => false
def isS : AV → Bool
  | .v (.string _) => true
  | _ => false

def mqV (m : MQ) (st : St) (k : AV → Prop) : Prop :=
  match m with
  | .mov x => k (rd st x)
  | .pick x y z => pickA (rd st x) (rd st y) (rd st z) k
  | .bin b op x y => (isB (rd st x) = true → b = true) ∧ binV op (rd st x) (rd st y) k
  | .un op x => unV op (rd st x) k
  | .conv kd x => convV kd (rd st x) k
  | .len s x => isS (rd st x) = s ∧ lenV (rd st x) k
  | .load agg sz x => loadV agg sz st (rd st x) k
  | .nilchk x => nilchkV (rd st x) k
  | .fad off x => fadV off st (rd st x) k
  | .fld agg off sz x => fldV agg off sz (rd st x) k
  | .iad sz x i => iadV sz st (rd st x) (rd st i) k
  | .idx x i => idxV (rd st x) (rd st i) k
  | .slc s sz x lo hi => isS (rd st x) = s ∧ slcV sz st (rd st x) (lo.map (rd st)) (hi.map (rd st)) k
  | .isnil neq x => isnilV neq (rd st x) k
  | .eqa neq ds x y => eqaV neq ds (rd st x) (rd st y) k
  | .ext n i => extV st n i k
  | .mkf f ys => k (.clo f (ys.map (rd st)))
  | .b2s x => b2sV st (rd st x) k

def maV (P : Program) (m : MA) (st : St) (d : Option Nat) (k : K) : Prop :=
  match m with
  | .asg x => asgV st x d k
  | .box e x => boxV e st x d k
  | .alloc e zs => allocV e zs st d k
  | .build ix offs szs zs ys => buildV zs offs szs ys st d k
  | .bsl e sz ys => bslV e sz ys st d k
  | .mks e sz bytes zs x y => mksV e sz bytes zs (rd st x) (rd st y) st d k
  | .store sz x y => d = none ∧ storeV sz st x y k
  | .app own e sz bytes x y => appV own e sz bytes st x y d k
  | .call y al as => callV P y al as st d k

def uStr (P : Program) (t : TypeId) : Bool := match P.underlying t with | some .string => true | _ => false
def uSl (P : Program) (t : TypeId) : Bool := match P.underlying t with | some (.slice _) => true | _ => false
def uBool (P : Program) (t : TypeId) : Bool := match P.underlying t with | some .bool => true | _ => false
def uInt (P : Program) (t : TypeId) (k : IntKind) : Bool := match P.underlying t with | some (.int k') => k == k' | _ => false
def mZip (xs : List Operand) (ys : List Opd) : Bool := xs.length == ys.length && (xs.zip ys).all fun p => mOpd p.1 p.2

/-- Does an operation of the program fit one of ours that only reads? -/
def mQ (P : Program) (o : Op) (m : MQ) : Bool :=
  match m with
  | .mov y => match o with
    | .move x => mOpd x y
    | .assign x => mOpd x y
    | _ => false
  | .pick x' y' z' => match o with
    | .pick x y z => mOpd x x' && mOpd y y' && mOpd z z'
    | _ => false
  | .bin b op' x' y' => match o with
    | .binOp op t x y t' => op == op' && mOpd x x' && mOpd y y' && (!b || uBool P t)
    | _ => false
  | .un op' x' => match o with
    | .unOp op t x => op == op' && mOpd x x'
    | _ => false
  | .conv kd x' => match o with
    | .convert s d x => mOpd x x' && (P.underlying s).isSome && uInt P d kd
    | _ => false
  | .len s x' => match o with
    | .call c => (match c.callee with | .builtin .len => true | _ => false) && (match c.args.toList, c.argTypes.toList with
      | [x], [t] => mOpd x x' && (if s then uStr P t else uSl P t)
      | _, _ => false)
    | _ => false
  | .load agg sz x' => match o with
    | .load t x => mOpd x x' && loadOk P t agg sz
    | _ => false
  | .nilchk x' => match o with
    | .nilCheck x => mOpd x x'
    | _ => false
  | .fad off x' => match o with
    | .fieldAddr s x f => mOpd x x' && fadOk P s f off
    | _ => false
  | .fld agg off sz x' => match o with
    | .field s x f => mOpd x x' && fldOk P s f agg off sz
    | _ => false
  | .iad sz x' y' => match o with
    | .indexAddr t x y => mOpd x x' && mOpd y y' && iadOk P t sz
    | _ => false
  | .idx x' y' => match o with
    | .index t x y => mOpd x x' && mOpd y y' && uStr P t
    | _ => false
  | .slc s sz x' l' h' => match o with
    | .slice t x l h none => mOpd x x' && mOpds l l' && mOpds h h' && slcOk P t sz && (uStr P t == s)
    | _ => false
  | .isnil neq x' => match o with
    | .binOp op t x (.const (.slice none 0 0)) t' => mOpd x x' && (op == (if neq then .neq else .eql)) && uSl P t
    | _ => false
  | .eqa neq ds x' y' => match o with
    | .binOp op t x y t' => mOpd x x' && mOpd y y' && (op == (if neq then .neq else .eql)) && eqOk P t ds
    | _ => false
  | .ext n i' => match o with
    | .extract (.tmp n') i => n == n' && i == i'
    | _ => false
  | .mkf f' ys => match o with
    | .makeFunc (.func f) first xs => f == f' && first.isEmpty && mZip xs.toList ys
    | _ => false
  | .b2s x' => match o with
    | .convert s d x => mOpd x x' && b2sOk P s d
    | _ => false

def mA (P : Program) (o : Op) (m : MA) : Bool :=
  match m with
  | .asg y => match o with
    | .move x => mOpd x y
    | .assign x => mOpd x y
    | _ => false
  | .box e y => match o with
    | .box e' x => e == e' && mOpd x y
    | _ => false
  | .alloc e zs => match o with
    | .alloc e' => e == e' && zeroOk P e zs
    | _ => false
  | .build ix offs szs zs ys => match o with
    | .build t ps => (ps.toList.map (·.1) == ix) && mZip (ps.toList.map (·.2)) ys && buildOk P t ix offs szs zs
    | _ => false
  | .bsl e sz ys => match o with
    | .buildSlice t n ps => n == ps.toList.length && (ps.toList.map (·.1) == List.range n) && mZip (ps.toList.map (·.2)) ys && bslOk P t e sz n
    | _ => false
  | .mks e sz bytes zs x' y' => match o with
    | .makeSlice t x y => mOpd x x' && mOpd y y' && mksOk P t e sz bytes zs
    | _ => false
  | .store sz x' y' => match o with
    | .store t x y => mOpd x x' && mOpd y y' && ((P.info? t).map (·.size) == some sz)
    | _ => false
  | .app own e sz bytes x' y' => match o with
    | .call c => (match c.callee with | .builtin .append => true | _ => false) && (match c.args.toList, c.argTypes.toList with
      | [x, y], [t, t'] => t == t' && mOpd x x' && mOpd y y' && appOk P t e sz bytes
      | _, _ => false)
    | _ => false
  | .call y' al as => match o with
    | .call c => (match c.callee with | .value y => mOpd y y' | _ => false) && mArgs c.args.toList as
    | _ => false

theorem uStr_eq {P : Program} {t : TypeId} (h : uStr P t = true) : P.underlying t = some .string := by
  unfold uStr at h; split at h <;> first | assumption | cases h
theorem uSl_eq {P : Program} {t : TypeId} (h : uSl P t = true) : ∃ e, P.underlying t = some (.slice e) := by
  unfold uSl at h; split at h
  · exact ⟨_, by assumption⟩
  · cases h
theorem uBool_eq {P : Program} {t : TypeId} (h : uBool P t = true) : P.underlying t = some .bool := by
  unfold uBool at h; split at h <;> first | assumption | cases h
theorem uInt_eq {P : Program} {t : TypeId} {k : IntKind} (h : uInt P t k = true) : P.underlying t = some (.int k) := by
  unfold uInt at h; split at h
  · simp only [beq_iff_eq] at h; subst h; assumption
  · cases h

section
variable {P : Program} {o : Oper} {c : Ctx} {N : Nat} {st : St} {a : Act} {w : World} {own : Nat → List Nat} {lo : List Nat}

theorem isS_iff {av : AV} {s : Bool} (h : isS av = s) : s = true ↔ ∃ x, av = .v (.string x) := by
  subst h
  constructor
  · intro h; unfold isS at h; split at h
    · exact ⟨_, rfl⟩
    · cases h
  · rintro ⟨x, rfl⟩; rfl

theorem q_sound (C : Core c st (tmOf a) w own lo) {m : MQ} (hm : mQ P o.op m = true) {k : AV → Prop} (h : mqV m st k) : QRes P o c st a w own lo k := by
  cases m with
  | mov y =>
    simp only [mQ] at hm
    split at hm
    · rename_i x ho; exact q_mov C hm (.inl ho) h
    · rename_i x ho; exact q_mov C hm (.inr ho) h
    · cases hm
  | pick x' y' z' =>
    simp only [mQ] at hm
    split at hm
    · rename_i ho; simp only [Bool.and_eq_true] at hm; exact q_pick C hm.1.1 hm.1.2 hm.2 ho h
    · cases hm
  | bin b op' x' y' =>
    simp only [mQ] at hm
    split at hm
    · rename_i ho
      simp only [Bool.and_eq_true, beq_iff_eq, Bool.or_eq_true, Bool.not_eq_true'] at hm
      obtain ⟨⟨⟨rfl, hx⟩, hy⟩, hb⟩ := hm
      refine q_bin C hx hy ho ?_ h.2
      intro p q hp _
      have := h.1 (by rw [hp]; rfl)
      rcases hb with hb | hb
      · rw [hb] at this; cases this
      · exact uBool_eq hb
    · cases hm
  | un op' x' =>
    simp only [mQ] at hm
    split at hm
    · rename_i ho
      simp only [Bool.and_eq_true, beq_iff_eq] at hm
      obtain ⟨rfl, hx⟩ := hm
      exact q_un C hx ho h
    · cases hm
  | conv kd x' =>
    simp only [mQ] at hm
    split at hm
    · rename_i ho
      simp only [Bool.and_eq_true] at hm
      exact q_conv C hm.1.1 ho hm.1.2 (uInt_eq hm.2) h
    · cases hm
  | len s x' =>
    simp only [mQ] at hm
    split at hm
    · rename_i cl ho
      simp only [Bool.and_eq_true] at hm
      obtain ⟨h1, h2⟩ := hm
      split at h1
      rotate_left
      · cases h1
      rename_i hcal
      split at h2
      rotate_left
      · cases h2
      rename_i x t hargs hts
      simp only [Bool.and_eq_true] at h2
      obtain ⟨hx, ht⟩ := h2
      have ho' : o.op = .call { callee := .builtin .len, args := #[x], argTypes := #[t] } := by
        rw [ho]; congr 1
        obtain ⟨ca, ar, at'⟩ := cl
        simp only at hcal hargs hts
        rw [hcal, ← Array.toArray_toList (xs := ar), hargs, ← Array.toArray_toList (xs := at'), hts]
      have hs := h.1
      refine q_len (ty := 0) C hx ho' ?_ ?_ h.2
      · cases s
        · obtain ⟨e, he⟩ := uSl_eq (by simpa using ht); rw [he]
        · rw [uStr_eq (by simpa using ht)]
      · rw [← isS_iff hs]
        cases s
        · obtain ⟨e, he⟩ := uSl_eq (by simpa using ht); rw [he]
        · rw [uStr_eq (by simpa using ht)]
    · cases hm
  | load agg sz x' =>
    simp only [mQ] at hm
    split at hm
    · rename_i ho; simp only [Bool.and_eq_true] at hm; exact q_load C hm.1 ho hm.2 h
    · cases hm
  | nilchk x' =>
    simp only [mQ] at hm
    split at hm
    · rename_i ho; exact q_nilchk C hm ho h
    · cases hm
  | fad off x' =>
    simp only [mQ] at hm
    split at hm
    · rename_i ho; simp only [Bool.and_eq_true] at hm; exact q_fad C hm.1 ho hm.2 h
    · cases hm
  | fld agg off sz x' =>
    simp only [mQ] at hm
    split at hm
    · rename_i ho; simp only [Bool.and_eq_true] at hm; exact q_fld C hm.1 ho hm.2 h
    · cases hm
  | iad sz x' y' =>
    simp only [mQ] at hm
    split at hm
    · rename_i ho; simp only [Bool.and_eq_true] at hm; exact q_iad C hm.1.1 hm.1.2 ho hm.2 h
    · cases hm
  | idx x' y' =>
    simp only [mQ] at hm
    split at hm
    · rename_i ho; simp only [Bool.and_eq_true] at hm; exact q_idx C hm.1.1 hm.1.2 ho (uStr_eq hm.2) h
    · cases hm
  | slc s sz x' l' h' =>
    simp only [mQ] at hm
    split at hm
    · rename_i ho
      simp only [Bool.and_eq_true, beq_iff_eq] at hm
      obtain ⟨⟨⟨⟨hx, hl⟩, hh⟩, hok⟩, hs⟩ := hm
      obtain ⟨h1, h2⟩ := h
      refine q_slc C hx hl hh ho hok ?_ ?_ h2
      · intro u hu
        have := (isS_iff h1).2 ⟨u, hu⟩
        exact uStr_eq (hs.trans this)
      · intro hu hstr
        have : s = true := by rw [← hs]; simp [uStr, hstr]
        obtain ⟨u, hu'⟩ := (isS_iff h1).1 this
        exact hu u hu'
    · cases hm
  | isnil neq x' =>
    simp only [mQ] at hm
    split at hm
    · rename_i ho
      simp only [Bool.and_eq_true, beq_iff_eq] at hm
      obtain ⟨⟨hx, rfl⟩, hu⟩ := hm
      exact q_isnil C hx ho (uSl_eq hu) h
    · cases hm
  | eqa neq ds x' y' =>
    simp only [mQ] at hm
    split at hm
    · rename_i ho
      simp only [Bool.and_eq_true, beq_iff_eq] at hm
      obtain ⟨⟨⟨hx, hy⟩, rfl⟩, hok⟩ := hm
      exact q_eqa C hx hy ho hok h
    · cases hm
  | ext n i' =>
    simp only [mQ] at hm
    split at hm
    · rename_i ho
      simp only [Bool.and_eq_true, beq_iff_eq] at hm
      obtain ⟨rfl, rfl⟩ := hm
      exact q_ext C ho h
    · cases hm
  | mkf f' ys =>
    simp only [mQ] at hm
    split at hm
    · rename_i f first xs ho
      simp only [Bool.and_eq_true, beq_iff_eq] at hm
      obtain ⟨⟨rfl, hfst⟩, hz⟩ := hm
      have hf' : first = #[] := by simpa [Array.isEmpty_iff] using hfst
      subst hf'
      exact q_mkf (xs := xs.toList) C (by simpa [mZip] using hz) (by simpa using ho) h
    · cases hm
  | b2s x' =>
    simp only [mQ] at hm
    split at hm
    · rename_i ho; simp only [Bool.and_eq_true] at hm; exact q_b2s C hm.1 ho hm.2 h
    · cases hm

theorem zip_unzip {α β : Type} : ∀ (l : List (α × β)), (l.map (·.1)).zip (l.map (·.2)) = l
  | [] => rfl
  | (a, b) :: l => by simp [zip_unzip l]

variable {Q : Exit → Act → World → Prop}

theorem a_sound (S : Sim c N st a w) (hN : ∀ e, o.dst = some e → e < N ∧ c.fx e = none) {m : MA} (hm : mA P o.op m = true) {k : K} (h : maV P m st o.dst k) : Ok P c N a w o k Q := by
  cases m with
  | asg y =>
    simp only [mA] at hm
    split at hm
    · rename_i x ho; exact a_asg S hN hm (.inl ho) h
    · rename_i x ho; exact a_asg S hN hm (.inr ho) h
    · cases hm
  | box e y =>
    simp only [mA] at hm
    split at hm
    · rename_i ho
      simp only [Bool.and_eq_true, beq_iff_eq] at hm
      obtain ⟨rfl, hx⟩ := hm
      exact a_box S hN hx ho h
    · cases hm
  | alloc e zs =>
    simp only [mA] at hm
    split at hm
    · rename_i ho
      simp only [Bool.and_eq_true, beq_iff_eq] at hm
      obtain ⟨rfl, hz⟩ := hm
      exact a_alloc S hN hz ho h
    · cases hm
  | build ix offs szs zs ys =>
    simp only [mA] at hm
    split at hm
    · rename_i t ps ho
      simp only [Bool.and_eq_true, beq_iff_eq] at hm
      obtain ⟨⟨rfl, hz⟩, hok⟩ := hm
      exact a_build (xs := ps.toList.map (·.2)) S hN (by simpa only [mZip] using hz) (by simp) (by rw [ho, zip_unzip, Array.toArray_toList]) hok h
    · cases hm
  | bsl e sz ys =>
    simp only [mA] at hm
    split at hm
    · rename_i t n ps ho
      simp only [Bool.and_eq_true, beq_iff_eq] at hm
      obtain ⟨⟨⟨rfl, hr⟩, hz⟩, hok⟩ := hm
      have hl : (ps.toList.map (·.2)).length = ps.toList.length := by simp
      exact a_bsl (xs := ps.toList.map (·.2)) S hN (by simpa only [mZip] using hz) (by rw [hl, ← hr, zip_unzip, Array.toArray_toList]; exact ho) (by rw [hl]; exact hok) h
    · cases hm
  | mks e sz bytes zs x' y' =>
    simp only [mA] at hm
    split at hm
    · rename_i ho
      simp only [Bool.and_eq_true] at hm
      exact a_mks S hN hm.1.1 hm.1.2 ho hm.2 h
    · cases hm
  | store sz x' y' =>
    simp only [mA] at hm
    split at hm
    · rename_i ho
      simp only [Bool.and_eq_true, beq_iff_eq] at hm
      exact a_store S hm.1.1 hm.1.2 ho h.1 hm.2 h.2
    · cases hm
  | app own e sz bytes x' y' =>
    simp only [mA] at hm
    split at hm
    · rename_i cl ho
      simp only [Bool.and_eq_true] at hm
      obtain ⟨h1, h2⟩ := hm
      split at h1
      rotate_left
      · cases h1
      rename_i hcal
      split at h2
      rotate_left
      · cases h2
      rename_i x y t t' hargs hts
      simp only [Bool.and_eq_true, beq_iff_eq] at h2
      obtain ⟨⟨⟨rfl, hx⟩, hy⟩, hok⟩ := h2
      have ho' : o.op = .call { callee := .builtin .append, args := #[x, y], argTypes := #[t, t] } := by
        rw [ho]; congr 1
        obtain ⟨ca, ar, at'⟩ := cl
        simp only at hcal hargs hts
        rw [hcal, ← Array.toArray_toList (xs := ar), hargs, ← Array.toArray_toList (xs := at'), hts]
      exact a_app S hN hx hy ho' hok h
    · cases hm
  | call y' al as =>
    simp only [mA] at hm
    split at hm
    · rename_i cl ho
      simp only [Bool.and_eq_true] at hm
      obtain ⟨h1, h2⟩ := hm
      split at h1
      rotate_left
      · cases h1
      rename_i y hcal
      have ho' : o.op = .call { callee := .value y, args := cl.args.toList.toArray, argTypes := cl.argTypes } := by
        rw [ho]; congr 1
        obtain ⟨ca, ar, at'⟩ := cl
        simp only at hcal
        rw [hcal, Array.toArray_toList]
      exact a_call S h1 h2 ho' hN h
    · cases hm
end
end Go.AM
