/- Own framework, part 8: operations that only read. -/
import Derived.Test.YtleomgfaplldiaaA7
import Derived.Laws.Slices
import Derived.Laws.Cells
import Derived.Laws.Small
namespace Go.AM
set_option linter.unusedVariables false
set_option linter.unusedSimpArgs false

/-- Element i of the rows. -/
def nth (l : List (List AV)) (i : Nat) : List AV := l.getD i []

def scal : Value → Bool
  | .int .. => true
  | .bool _ => true
  | .string _ => true
  | _ => false

def binC (op : BinOp) (x y : Value) : Prop :=
  match x, y with
  | .int kx a, .int ky b =>
    match op with
    | .shl => 0 ≤ b
    | .shr => 0 ≤ b
    | .quo => kx = ky ∧ b ≠ 0
    | .rem => kx = ky ∧ b ≠ 0
    | _ => kx = ky
  | .string a, .string b =>
    match op with
    | .add => ((a.size + b.size : Nat) : Int) ≤ 9223372036854775807
    | .eql => True
    | .neq => True
    | .lss => True
    | .leq => True
    | .gtr => True
    | .geq => True
    | _ => False
  | .bool a, .bool b =>
    match op with
    | .eql => True
    | .neq => True
    | _ => False
  | _, _ => False

def binR (op : BinOp) (x y : Value) : Value :=
  match x, y with
  | .int kx a, .int ky b =>
    match op with
    | .shl => .int kx (kx.wrap (a * 2 ^ (min b.toNat kx.bits)))
    | .shr => .int kx (a.fdiv (2 ^ (min b.toNat kx.bits)))
    | .add => .int kx (kx.wrap (a + b))
    | .sub => .int kx (kx.wrap (a - b))
    | .mul => .int kx (kx.wrap (a * b))
    | .quo => .int kx (kx.wrap (a.tdiv b))
    | .rem => .int kx (a.tmod b)
    | .and => .int kx (kx.wrap (BitVec.ofInt kx.bits a &&& BitVec.ofInt kx.bits b).toNat)
    | .or => .int kx (kx.wrap (BitVec.ofInt kx.bits a ||| BitVec.ofInt kx.bits b).toNat)
    | .xor => .int kx (kx.wrap (BitVec.ofInt kx.bits a ^^^ BitVec.ofInt kx.bits b).toNat)
    | .andNot => .int kx (kx.wrap (BitVec.ofInt kx.bits a &&& ~~~BitVec.ofInt kx.bits b).toNat)
    | .eql => .bool (a == b)
    | .neq => .bool (a != b)
    | .lss => .bool (decide (a < b))
    | .leq => .bool (decide (a ≤ b))
    | .gtr => .bool (decide (a > b))
    | .geq => .bool (decide (a ≥ b))
  | .string a, .string b =>
    match op with
    | .add => .string (a ++ b)
    | .eql => .bool (a.toList == b.toList)
    | .neq => .bool (!(a.toList == b.toList))
    | .lss => .bool (Op.bytesLess a.toList b.toList)
    | .leq => .bool (Op.bytesLess a.toList b.toList || a.toList == b.toList)
    | .gtr => .bool (!(Op.bytesLess a.toList b.toList || a.toList == b.toList))
    | .geq => .bool (!(Op.bytesLess a.toList b.toList))
    | _ => .bool false
  | .bool a, .bool b =>
    match op with
    | .eql => .bool (a == b)
    | .neq => .bool (!(a == b))
    | _ => .bool false
  | _, _ => .bool false

theorem binR_run_int {P : Program} {w : World} {t : TypeId} {op : BinOp} {kx ky : IntKind} {a b : Int} (h : binC op (.int kx a) (.int ky b)) :
    (binOp op t (.int kx a) (.int ky b)).run P w = .ok (binR op (.int kx a) (.int ky b)) w := by
  cases op <;> simp only [binC] at h
  case shl => simp [binOp, Op.shift, Int.not_lt.2 h, binR]
  case shr => simp [binOp, Op.shift, Int.not_lt.2 h, binR]
  case quo => obtain ⟨rfl, h0⟩ := h; simp [binOp, Op.intDiv, h0, binR]
  case rem => obtain ⟨rfl, h0⟩ := h; simp [binOp, Op.intDiv, h0, binR]
  all_goals (subst h; simp [binOp, Op.intArith, Op.intBits, Op.intCmp, binR])

theorem binR_run_string {P : Program} {w : World} {t : TypeId} {op : BinOp} {a b : ByteArray} (h : binC op (.string a) (.string b)) :
    (binOp op t (.string a) (.string b)).run P w = .ok (binR op (.string a) (.string b)) w := by
  cases op <;> simp only [binC] at h
  case add =>
    have : ¬ (((a.size + b.size : Nat) : Int) > IntKind.i64.max) := by
      have e : IntKind.i64.max = 9223372036854775807 := by decide
      rw [e]; omega
    simp only [binOp, Op.stringOp, this, if_false, Sem.run_pure, binR]
  all_goals simp [binOp, Op.stringOp, binR]

theorem binR_run_bool {P : Program} {w : World} {t : TypeId} {op : BinOp} {a b : Bool} (h : binC op (.bool a) (.bool b)) (hu : P.underlying t = some .bool) :
    (binOp op t (.bool a) (.bool b)).run P w = .ok (binR op (.bool a) (.bool b)) w := by
  cases op <;> simp only [binC] at h
  case eql => exact run_eql_bool w t a b hu
  case neq => exact run_neq_bool w t a b hu

theorem binR_scal {op : BinOp} {x y : Value} (h : binC op x y) : scal (binR op x y) = true := by
  unfold binC at h
  split at h
  · cases op <;> rfl
  · cases op <;> rfl
  · cases op <;> rfl
  · exact h.elim

theorem binR_run {P : Program} {w : World} {t : TypeId} {op : BinOp} {x y : Value} (h : binC op x y) (ht : (∃ a b, x = .bool a ∧ y = .bool b) → P.underlying t = some .bool) :
    (binOp op t x y).run P w = .ok (binR op x y) w := by
  have h' := h
  unfold binC at h'
  split at h'
  · exact binR_run_int h
  · exact binR_run_string h
  · exact binR_run_bool h (ht ⟨_, _, rfl, rfl⟩)
  · exact h'.elim

theorem eqGuard_v {P : Program} {w : World} {op : BinOp} {t : TypeId} {x y : Operand} {p q : Value} (hp : binC op p q) : (eqGuard op t x y p q).run P w = .ok () w := by
  unfold eqGuard
  unfold binC at hp
  split at hp
  · cases op <;> rfl
  · cases op <;> rfl
  · cases op <;> rfl
  · exact hp.elim

/-- Two worlds that agree on all that an activation may read. -/
def Same (c : Ctx) (own : Nat → List Nat) (lo : List Nat) (w w' : World) : Prop := ∀ b, frz c w (owned own lo) b ∨ owned own lo b → w'.heap[b]? = w.heap[b]?

/-- May what it yields hang on the memory? -/
def needsW : Op → Bool
  | .load .. => true
  | .convert .. => true
  | _ => false

def QRes (P : Program) (o : Oper) (c : Ctx) (st : St) (a : Act) (w : World) (own : Nat → List Nat) (lo : List Nat) (k : AV → Prop) : Prop :=
  ∃ x av, (∀ w', (needsW o.op = true → Same c own lo w w') → (execOp a.eval o).run P w' = .ok (.value x) w') ∧ RepV w (frz c w (owned own lo)) (locs st (tmOf a) w) av x [] ∧ k av

section
variable {P : Program} {o : Oper} {c : Ctx} {st : St} {a : Act} {w : World} {own : Nat → List Nat} {lo : List Nat}

theorem q_mov (C : Core c st (tmOf a) w own lo) {x : Operand} {y : Opd} (hx : mOpd x y = true) (ho : o.op = .move x ∨ o.op = .assign x) {k : AV → Prop} (h : k (rd st y)) : QRes P o c st a w own lo k := by
  refine ⟨a.eval x, rd st y, fun w' _ => ?_, rd_rep C hx, h⟩
  rcases ho with ho | ho <;> simp [execOp, ho]

def pickA (x y z : AV) (k : AV → Prop) : Prop :=
  match x with
  | .v (.bool b) => if b then k y else k z
  | _ => False

theorem repV_v {Fz : Nat → Prop} {L : Locs} {y x : Value} {oo : List Nat} (h : RepV w Fz L (.v y) x oo) : x = y := by simp only [RepV, RepC] at h; exact h.1

theorem q_pick (C : Core c st (tmOf a) w own lo) {x y z : Operand} {x' y' z' : Opd} (hx : mOpd x x' = true) (hy : mOpd y y' = true) (hz : mOpd z z' = true) (ho : o.op = .pick x y z) {k : AV → Prop}
    (h : pickA (rd st x') (rd st y') (rd st z') k) : QRes P o c st a w own lo k := by
  have rx := rd_rep C hx
  unfold pickA at h
  split at h
  · rename_i b hb
    rw [hb] at rx
    have ex := repV_v rx
    cases b with
    | true => exact ⟨a.eval y, rd st y', fun w' _ => by simp [execOp, ho, ex, asBool], rd_rep C hy, by simpa using h⟩
    | false => exact ⟨a.eval z, rd st z', fun w' _ => by simp [execOp, ho, ex, asBool], rd_rep C hz, by simpa using h⟩
  · exact h.elim

def binV (op : BinOp) (x y : AV) (k : AV → Prop) : Prop :=
  match x, y with
  | .v p, .v q => binC op p q ∧ k (.v (binR op p q))
  | _, _ => False

theorem scal_one {z : Value} (h : scal z = true) : z.oneCell' = true := by cases z <;> simp_all [scal, Value.oneCell']

theorem repV_scal {Fz : Nat → Prop} {L : Locs} {z : Value} (h : scal z = true) : RepV w Fz L (.v z) z [] := by
  simp only [RepV, RepC]; exact ⟨trivial, scal_one h, trivial⟩

theorem q_bin (C : Core c st (tmOf a) w own lo) {op : BinOp} {t t' : TypeId} {x y : Operand} {x' y' : Opd} (hx : mOpd x x' = true) (hy : mOpd y y' = true) (ho : o.op = .binOp op t x y t') {k : AV → Prop}
    (hb : ∀ a b, rd st x' = .v (.bool a) → rd st y' = .v (.bool b) → P.underlying t = some .bool)
    (h : binV op (rd st x') (rd st y') k) : QRes P o c st a w own lo k := by
  have rx := rd_rep C hx
  have ry := rd_rep C hy
  unfold binV at h
  split at h
  · rename_i p q hp hq
    rw [hp] at rx
    rw [hq] at ry
    have ex := repV_v rx
    have ey := repV_v ry
    have hbool : (∃ a b, p = .bool a ∧ q = .bool b) → P.underlying t = some .bool := by
      rintro ⟨a', b', rfl, rfl⟩
      exact hb a' b' hp hq
    refine ⟨binR op p q, .v (binR op p q), fun w' _ => ?_, repV_scal (binR_scal h.1), h.2⟩
    simp [execOp, ho, ex, ey, eqGuard_v (P := P) (w := w') (t := t) (x := x) (y := y) h.1, binR_run (P := P) (w := w') (t := t) h.1 hbool]
  · exact h.elim

def unV (op : UnOp) (x : AV) (k : AV → Prop) : Prop :=
  match op, x with
  | .not, .v (.bool b) => k (.v (.bool !b))
  | .neg, .v (.int kd n) => k (.v (.int kd (kd.wrap (0 - n))))
  | _, _ => False

theorem q_un (C : Core c st (tmOf a) w own lo) {op : UnOp} {t : TypeId} {x : Operand} {x' : Opd} (hx : mOpd x x' = true) (ho : o.op = .unOp op t x) {k : AV → Prop} (h : unV op (rd st x') k) : QRes P o c st a w own lo k := by
  have rx := rd_rep C hx
  unfold unV at h
  split at h
  · rename_i b hb
    rw [hb] at rx
    exact ⟨.bool !b, _, fun w' _ => by simp [execOp, ho, repV_v rx, Op.unary], repV_scal rfl, h⟩
  · rename_i kd n hb
    rw [hb] at rx
    exact ⟨.int kd (kd.wrap (0 - n)), _, fun w' _ => by simp [execOp, ho, repV_v rx, Op.unary, Op.intArith], repV_scal rfl, h⟩
  · exact h.elim

def convV (kd : IntKind) (x : AV) (k : AV → Prop) : Prop :=
  match x with
  | .v (.int _ n) => k (.v (.int kd (kd.wrap n)))
  | _ => False

theorem q_conv (C : Core c st (tmOf a) w own lo) {s d : TypeId} {kd : IntKind} {x : Operand} {x' : Opd} (hx : mOpd x x' = true) (ho : o.op = .convert s d x) (hs : (P.underlying s).isSome = true) (hd : P.underlying d = some (.int kd)) {k : AV → Prop}
    (h : convV kd (rd st x') k) : QRes P o c st a w own lo k := by
  have rx := rd_rep C hx
  unfold convV at h
  split at h
  · rename_i k0 n hb
    rw [hb] at rx
    obtain ⟨ds, hds⟩ := Option.isSome_iff_exists.mp hs
    exact ⟨.int kd (kd.wrap n), _, fun w' _ => by simp [execOp, ho, repV_v rx, convert, run_underlying hds, run_underlying hd, Conv.intToInt], repV_scal rfl, h⟩
  · exact h.elim

def lenV (x : AV) (k : AV → Prop) : Prop :=
  match x with
  | .v (.string s) => k (.v (.int .i64 s.size))
  | .fsl _ l => k (.v (.int .i64 l.length))
  | .usl _ _ l => k (.v (.int .i64 l.length))
  | .sref _ _ _ len => k (.v (.int .i64 len))
  | _ => False

theorem win_len {sz off len : Nat} {y x : Value} (h : Win sz y off len x) : ∃ A cp, x = .slice A len cp := by
  rcases h with ⟨_, rfl, _, rfl⟩ | ⟨g, b, n, cp, k, cx, _, rfl, _⟩
  · exact ⟨_, _, rfl⟩
  · exact ⟨_, _, rfl⟩

theorem q_len (C : Core c st (tmOf a) w own lo) {t ty : TypeId} {x : Operand} {x' : Opd} (hx : mOpd x x' = true) (ho : o.op = .call { callee := .builtin .len, args := #[x], argTypes := #[t] })
    (ht : (match P.underlying t with | some .string => true | some (.slice _) => true | _ => false) = true) {k : AV → Prop}
    (hs : (match P.underlying t with | some .string => true | _ => false) = true ↔ ∃ s, rd st x' = .v (.string s)) (h : lenV (rd st x') k) : QRes P o c st a w own lo k := by
  have rx := rd_rep C hx
  have sl : (∀ s, rd st x' ≠ .v (.string s)) → ∃ e, P.underlying t = some (.slice e) := by
    intro hne
    split at ht
    · rename_i hu
      obtain ⟨s, hs⟩ := hs.1 (by rw [hu])
      exact absurd hs (hne s)
    · rename_i e hu; exact ⟨e, hu⟩
    · simp at ht
  unfold lenV at h
  split at h
  · rename_i s hb
    have hu : P.underlying t = some .string := by
      have := hs.2 ⟨s, hb⟩
      split at this
      · assumption
      · simp at this
    rw [hb] at rx
    refine ⟨.int .i64 s.size, _, fun w' _ => ?_, repV_scal rfl, h⟩
    simp [execOp, ho, resolve, invoke, builtin, repV_v rx, Builtin.len_, run_underlying hu, goInt]
  · rename_i sz l hb
    obtain ⟨e, hu⟩ := sl (by rw [hb]; simp)
    rw [hb] at rx
    simp only [RepV, RepC] at rx
    obtain ⟨_, A, cp, hx, _⟩ := rx
    refine ⟨.int .i64 l.length, _, fun w' _ => ?_, repV_scal rfl, h⟩
    simp [execOp, ho, resolve, invoke, builtin, hx, Builtin.len_, run_underlying hu, goInt]
  · rename_i e' sz l hb
    obtain ⟨e, hu⟩ := sl (by rw [hb]; simp)
    rw [hb] at rx
    simp only [RepV, RepC] at rx
    have : ∃ A cp, a.eval x = .slice A l.length cp := by
      rcases rx with ⟨h1, h2, _⟩ | ⟨g, hh, cp, cur, xs, o', hx, _⟩
      · subst h2; exact ⟨_, _, h1⟩
      · exact ⟨_, _, hx⟩
    obtain ⟨A, cp, hx⟩ := this
    refine ⟨.int .i64 l.length, _, fun w' _ => ?_, repV_scal rfl, h⟩
    simp [execOp, ho, resolve, invoke, builtin, hx, Builtin.len_, run_underlying hu, goInt]
  · rename_i n p off len hb
    obtain ⟨e, hu⟩ := sl (by rw [hb]; simp)
    rw [hb] at rx
    simp only [RepV] at rx
    obtain ⟨_, s, y, _, _, _, hw⟩ := rx
    obtain ⟨A, cp, hx⟩ := win_len hw
    refine ⟨.int .i64 len, _, fun w' _ => ?_, repV_scal rfl, h⟩
    simp [execOp, ho, resolve, invoke, builtin, hx, Builtin.len_, run_underlying hu, goInt]
  · exact h.elim
end
end Go.AM
