/- Own framework, part 24: laws for the reckoning of the code's meaning. -/
import Derived.Test.YtleomgfaplldiaaC5
namespace Go.AM
set_option linter.unusedVariables false
set_option linter.unusedSimpArgs false

def pK (st : St) (d : Option Nat) (k : K) : AV → Prop := fun av => putS st d av k
def yK (P : Program) (d : Option Nat) (i : MI) (ms : List MO) (k : K) : K := fun st => opsV P (⟨d, none, i⟩ :: ms) k st
def nK (P : Program) (d : Option Nat) (ms : List MO) (k : K) : K := fun st => putS st d (.tup []) (opsV P ms k)
def yD (P : Program) (d : Option Nat) (i : MI) (ms : List MO) (k : K) : K := fun st => dopsV P (⟨d, none, i⟩ :: ms) k st
def nD (P : Program) (d : Option Nat) (ms : List MO) (k : K) : K := fun st => putS st d (.tup []) (dopsV P ms k)
def gK (av : AV) (w : Bool) (y n : K) (st : St) : Prop := gV (fun _ => av) (some (0, w)) (y st) (n st)
def cK (av : AV) (y n : K) (st : St) : Prop := condV av (y st) (n st)

/-- What is asked at a call, so that the reckoning stops there. -/
def callK (D : AV → Prop) (K : AV → Prop) : Prop := ∃ res, D res ∧ K res
def callK2 (D : AV → AV → Prop) (av : AV) (S : AV → AV → Prop) : Prop := ∃ res out, D res out ∧ isOwner out = true ∧ shapeOf out = shapeOf av ∧ S out res
def callD (D : Value → Prop) (K : AV → Prop) : Prop := ∃ val, scal val = true ∧ D val ∧ K (.v val)
def sK (n : Nat) (p : List (Nat × Nat)) (st : St) (d : Option Nat) (k : K) : AV → AV → Prop := fun out res => putS (setS n p out st) d res k

theorem callK_i {D K : AV → Prop} {res : AV} (h : D res) (k : K res) : callK D K := ⟨res, h, k⟩
theorem callK2_i {D S : AV → AV → Prop} {av res out : AV} (h : D res out) (ho : isOwner out = true) (hs : shapeOf out = shapeOf av) (k : S out res) : callK2 D av S := ⟨res, out, h, ho, hs, k⟩
theorem callD_i {D : Value → Prop} {K : AV → Prop} {val : Value} (h : D val) (hs : scal val = true) (k : K (.v val)) : callD D K := ⟨val, hs, h, k⟩

def callX (P : Program) (c : Option (FuncId × List AV)) (al : Bool) (as : List Arg) (gs : List AV) (st1 : St) (io : List (Option (Nat × List (Nat × Nat) × AV))) (d : Option Nat) (k : K) : Prop :=
  match c with
  | some (f, caps) => (match io with
    | [] => (al = true → lendPlain st1 as = true) ∧ callK (fun res => Does P f (argL st1 as gs ++ caps) al res (outL .dead as ++ caps.map fun _ => AV.dead)) (pK st1 d k)
    | [some (n, p, av)] => lendPlain st1 as = true ∧ caps = [] ∧ callK2 (fun res out => Does P f (argL st1 as gs) al res (outL out as)) av (sK n p st1 d k)
    | _ => False)
  | none => False

def callW (P : Program) (y : Opd) (al : Bool) (as : List Arg) (r : Option (List AV × St)) (d : Option Nat) (k : K) : Prop :=
  match r with
  | some (gs, st1) => callX P (calleeV st1 y) al as gs st1 (ioAll st1 as) d k
  | none => False

theorem callV_W {P : Program} {y : Opd} {al : Bool} {as : List Arg} {st : St} {d : Option Nat} {k : K} : callV P y al as st d k = callW P y al as (giveS st as) d k := by
  unfold callV callW
  cases giveS st as with
  | none => rfl
  | some r =>
    obtain ⟨gs, st1⟩ := r
    simp only [callX]
    cases calleeV st1 y with
    | none => rfl
    | some r =>
      obtain ⟨f, caps⟩ := r
      rfl

theorem dcallV_W {P : Program} {y : Opd} {al : Bool} {as : List Arg} {st : St} {k : AV → Prop} : dcallV P y al as st k = match calleeV st y with
    | some (f, caps) => lendAll as = true ∧ (al = true → lendPlain st as = true) ∧ callD (fun val => Does P f (argL st as (as.map fun _ => .dead) ++ caps) al (.v val) (outL .dead as ++ caps.map fun _ => AV.dead)) k
    | none => False := by
  unfold dcallV callD
  rfl

theorem sK_ap {n : Nat} {p : List (Nat × Nat)} {st : St} {d : Option Nat} {k : K} {out res : AV} : sK n p st d k out res = putS (setS n p out st) d res k := rfl

theorem putS_t {st : St} {d : Nat} {av : AV} {k : K} (h : bare (st d) = true) : putS st (some d) av k = k (upd st d av) := by simp [putS, h]
theorem putS_f {st : St} {d : Nat} {av : AV} {k : K} (h : bare (st d) = false) : putS st (some d) av k = k (upd (dropS d st) d (killV (dropK d) av)) := by simp [putS, h]

/-- Regions and guards. -/
theorem evO :
    (∀ (P : Program) (k : K) (st : St), (opsV P [] k st = k st)) ∧
    (∀ (P : Program) (d : Option Nat) (q : MQ) (ms : List MO) (k : K) (st : St), (opsV P (⟨d, none, .q q⟩ :: ms) k st = mqV q st (pK st d (opsV P ms k)))) ∧
    (∀ (P : Program) (d : Option Nat) (x : MA) (ms : List MO) (k : K) (st : St), (opsV P (⟨d, none, .a x⟩ :: ms) k st = maV P x st d (opsV P ms k))) ∧
    (∀ (P : Program) (d : Option Nat) (ms : List MO) (k : K) (st : St) (s : Nat) (w : Bool) (i : MI), (opsV P (⟨d, some (s, w), i⟩ :: ms) k st = gK (st s) w (yK P d i ms k) (nK P d ms k) st)) ∧
    (∀ (P : Program) (d : Option Nat) (ms : List MO) (k : K) (st : St) (i : MI), (yK P d i ms k st = opsV P (⟨d, none, i⟩ :: ms) k st)) ∧
    (∀ (P : Program) (d : Option Nat) (ms : List MO) (k : K) (st : St), (nK P d ms k st = putS st d (.tup []) (opsV P ms k))) ∧
    (∀ (P : Program) (k : K) (st : St), (dopsV P [] k st = k st)) ∧
    (∀ (P : Program) (d : Option Nat) (q : MQ) (ms : List MO) (k : K) (st : St), (dopsV P (⟨d, none, .q q⟩ :: ms) k st = mqV q st (pK st d (dopsV P ms k)))) ∧
    (∀ (P : Program) (d : Option Nat) (x : MA) (ms : List MO) (k : K) (st : St), (dopsV P (⟨d, none, .a x⟩ :: ms) k st = dV P ⟨d, none, .a x⟩ st (pK st d (dopsV P ms k)))) ∧
    (∀ (P : Program) (d : Option Nat) (ms : List MO) (k : K) (st : St) (s : Nat) (w : Bool) (i : MI), (dopsV P (⟨d, some (s, w), i⟩ :: ms) k st = gK (st s) w (yD P d i ms k) (nD P d ms k) st)) ∧
    (∀ (P : Program) (d : Option Nat) (ms : List MO) (k : K) (st : St) (i : MI), (yD P d i ms k st = dopsV P (⟨d, none, i⟩ :: ms) k st)) ∧
    (∀ (P : Program) (d : Option Nat) (ms : List MO) (k : K) (st : St), (nD P d ms k st = putS st d (.tup []) (dopsV P ms k))) ∧
    (∀ (y : K) (n : K) (st : St), (gK (.v (.bool true)) true y n st = y st)) ∧
    (∀ (y : K) (n : K) (st : St), (gK (.v (.bool false)) false y n st = y st)) ∧
    (∀ (y : K) (n : K) (st : St), (gK (.v (.bool true)) false y n st = n st)) ∧
    (∀ (y : K) (n : K) (st : St), (gK (.v (.bool false)) true y n st = n st)) ∧
    (∀ (y : K) (n : K) (st : St) (w : Bool), (gK (.tup []) w y n st = n st)) ∧
    (∀ (d : Option Nat) (k : K) (st : St) (av : AV), (pK st d k av = putS st d av k)) ∧
    (∀ (k : K) (st : St) (av : AV), (putS st none av k = (bare av = true ∧ k st))) := by
  refine ⟨?_, ?_, ?_, ?_, ?_, ?_, ?_, ?_, ?_, ?_, ?_, ?_, ?_, ?_, ?_, ?_, ?_, ?_, ?_⟩
  all_goals intros
  all_goals first | rfl | (simp [opsV, dopsV, gK, gV, yK, nK, yD, nD, oV, dV]; done) | (rename_i i; cases i <;> rfl)

/-- Code. -/
theorem evC :
    (∀ (P : Program) (Q : AE → K) (st : St), (awp P .skip Q st = Q .nrm st)) ∧
    (∀ (P : Program) (Q : AE → K) (st : St) (ms : List MO), (awp P (.reg ms) Q st = opsV P ms (Q .nrm) st)) ∧
    (∀ (P : Program) (Q : AE → K) (st : St) (ms : List MO), (awp P (.dreg ms) Q st = dopsV P ms (Q .nrm) st)) ∧
    (∀ (P : Program) (Q : AE → K) (st : St) (x : MC) (y : MC), (awp P (.seq x y) Q st = awp P x (thn (awp P y Q) Q) st)) ∧
    (∀ (P : Program) (Q : AE → K) (st : St) (x : MC) (y : MC) (c : Opd), (awp P (.cond c x y) Q st = cK (rd st c) (awp P x Q) (awp P y Q) st)) ∧
    (∀ (P : Program) (Q : AE → K) (st : St) (x : MC) (id : Nat), (awp P (.block id x) Q st = awp P x (inB id Q) st)) ∧
    (∀ (P : Program) (Q : AE → K) (st : St) (id : Nat), (awp P (.exit id) Q st = Q (.ex id) st)) ∧
    (∀ (P : Program) (Q : AE → K) (st : St), (awp P .ret Q st = Q .ret st)) ∧
    (∀ (P : Program) (Q : AE → K) (st : St) (x : MC) (l : List Nat), (awp P (.keep l x) Q st = awp P x Q (keepS l st))) ∧
    (∀ (Q : AE → K) (n : K) (st : St), (thn n Q .nrm st = n st)) ∧
    (∀ (Q : AE → K) (n : K) (st : St), (thn n Q .ret st = Q .ret st)) ∧
    (∀ (Q : AE → K) (n : K) (st : St) (id : Nat), (thn n Q (.ex id) st = Q (.ex id) st)) ∧
    (∀ (Q : AE → K) (st : St) (id : Nat), (inB id Q .nrm st = Q .nrm st)) ∧
    (∀ (Q : AE → K) (st : St) (id : Nat), (inB id Q .ret st = Q .ret st)) ∧
    (∀ (Q : AE → K) (st : St) (id : Nat) (id' : Nat), (inB id Q (.ex id') st = if id' = id then Q .nrm st else Q (.ex id') st)) ∧
    (∀ (st : St) (k1 : K) (k2 : K), (cK (.v (.bool true)) k1 k2 st = k1 st)) ∧
    (∀ (st : St) (k1 : K) (k2 : K), (cK (.v (.bool false)) k1 k2 st = k2 st)) := by
  refine ⟨?_, ?_, ?_, ?_, ?_, ?_, ?_, ?_, ?_, ?_, ?_, ?_, ?_, ?_, ?_, ?_, ?_⟩ <;> intros <;> first | rfl | simp [cK, condV]

/-- Operations on scalars. -/
theorem evB :
    (∀ (kd : IntKind) (a : Int) (b : Int) (K : AV → Prop), (binV .add (.v (.int kd a)) (.v (.int kd b)) K = K (.v (.int kd (kd.wrap (a + b)))))) ∧
    (∀ (kd : IntKind) (a : Int) (b : Int) (K : AV → Prop), (binV .sub (.v (.int kd a)) (.v (.int kd b)) K = K (.v (.int kd (kd.wrap (a - b)))))) ∧
    (∀ (kd : IntKind) (a : Int) (b : Int) (K : AV → Prop), (binV .mul (.v (.int kd a)) (.v (.int kd b)) K = K (.v (.int kd (kd.wrap (a * b)))))) ∧
    (∀ (kd : IntKind) (a : Int) (b : Int) (K : AV → Prop), (binV .quo (.v (.int kd a)) (.v (.int kd b)) K = (b ≠ 0 ∧ K (.v (.int kd (kd.wrap (a.tdiv b))))))) ∧
    (∀ (kd : IntKind) (a : Int) (b : Int) (K : AV → Prop), (binV .rem (.v (.int kd a)) (.v (.int kd b)) K = (b ≠ 0 ∧ K (.v (.int kd (a.tmod b)))))) ∧
    (∀ (kd : IntKind) (a : Int) (b : Int) (K : AV → Prop), (binV .eql (.v (.int kd a)) (.v (.int kd b)) K = K (.v (.bool (a == b))))) ∧
    (∀ (kd : IntKind) (a : Int) (b : Int) (K : AV → Prop), (binV .neq (.v (.int kd a)) (.v (.int kd b)) K = K (.v (.bool (a != b))))) ∧
    (∀ (kd : IntKind) (a : Int) (b : Int) (K : AV → Prop), (binV .lss (.v (.int kd a)) (.v (.int kd b)) K = K (.v (.bool (decide (a < b)))))) ∧
    (∀ (kd : IntKind) (a : Int) (b : Int) (K : AV → Prop), (binV .leq (.v (.int kd a)) (.v (.int kd b)) K = K (.v (.bool (decide (a ≤ b)))))) ∧
    (∀ (kd : IntKind) (a : Int) (b : Int) (K : AV → Prop), (binV .gtr (.v (.int kd a)) (.v (.int kd b)) K = K (.v (.bool (decide (b < a)))))) ∧
    (∀ (kd : IntKind) (a : Int) (b : Int) (K : AV → Prop), (binV .geq (.v (.int kd a)) (.v (.int kd b)) K = K (.v (.bool (decide (b ≤ a)))))) ∧
    (∀ (K : AV → Prop) (s : ByteArray) (u : ByteArray), (binV .eql (.v (.string s)) (.v (.string u)) K = K (.v (.bool (s.toList == u.toList))))) ∧
    (∀ (K : AV → Prop) (s : ByteArray) (u : ByteArray), (binV .neq (.v (.string s)) (.v (.string u)) K = K (.v (.bool (!(s.toList == u.toList)))))) ∧
    (∀ (K : AV → Prop) (s : ByteArray) (u : ByteArray), (binV .lss (.v (.string s)) (.v (.string u)) K = K (.v (.bool (Op.bytesLess s.toList u.toList))))) ∧
    (∀ (K : AV → Prop) (s : ByteArray) (u : ByteArray), (binV .leq (.v (.string s)) (.v (.string u)) K = K (.v (.bool (Op.bytesLess s.toList u.toList || s.toList == u.toList))))) ∧
    (∀ (K : AV → Prop) (s : ByteArray) (u : ByteArray), (binV .gtr (.v (.string s)) (.v (.string u)) K = K (.v (.bool (!(Op.bytesLess s.toList u.toList || s.toList == u.toList)))))) ∧
    (∀ (K : AV → Prop) (s : ByteArray) (u : ByteArray), (binV .geq (.v (.string s)) (.v (.string u)) K = K (.v (.bool (!(Op.bytesLess s.toList u.toList)))))) ∧
    (∀ (K : AV → Prop) (s : ByteArray) (u : ByteArray), (binV .add (.v (.string s)) (.v (.string u)) K = (((s.size + u.size : Nat) : Int) ≤ 9223372036854775807 ∧ K (.v (.string (s ++ u)))))) ∧
    (∀ (K : AV → Prop) (p : Bool) (q : Bool), (binV .eql (.v (.bool p)) (.v (.bool q)) K = K (.v (.bool (p == q))))) ∧
    (∀ (K : AV → Prop) (p : Bool) (q : Bool), (binV .neq (.v (.bool p)) (.v (.bool q)) K = K (.v (.bool (!(p == q)))))) ∧
    (∀ (K : AV → Prop) (y : AV) (z : AV), (pickA (.v (.bool true)) y z K = K y)) ∧
    (∀ (K : AV → Prop) (y : AV) (z : AV), (pickA (.v (.bool false)) y z K = K z)) ∧
    (∀ (K : AV → Prop) (p : Bool), (unV .not (.v (.bool p)) K = K (.v (.bool !p)))) ∧
    (∀ (kd : IntKind) (a : Int) (K : AV → Prop), (unV .neg (.v (.int kd a)) K = K (.v (.int kd (kd.wrap (0 - a)))))) ∧
    (∀ (K : AV → Prop) (s : ByteArray), (lenV (.v (.string s)) K = K (.v (.int .i64 s.size)))) ∧
    (∀ (kd : IntKind) (a : Int) (K : AV → Prop) (s : ByteArray), (idxV (.v (.string s)) (.v (.int kd a)) K = (0 ≤ a ∧ a < s.size ∧ K (.v (.int .u8 (sAt s a)))))) := by
  refine ⟨?_, ?_, ?_, ?_, ?_, ?_, ?_, ?_, ?_, ?_, ?_, ?_, ?_, ?_, ?_, ?_, ?_, ?_, ?_, ?_, ?_, ?_, ?_, ?_, ?_, ?_⟩
  all_goals intros
  all_goals simp [binV, binC, binR, pickA, unV, lenV, idxV]

/-- States. -/
theorem evS :
    (∀ (st : St) (d : Nat) (av : AV) (k : Nat), (upd st d av k = if k = d then av else st k)) ∧
    (∀ (k : Nat), (stl [] k = .dead)) ∧
    (∀ (n : Nat) (av : AV) (l : List (Nat × AV)) (k : Nat), (stl ((n, av) :: l) k = if k = n then av else stl l k)) ∧
    (∀ (st : St) (d : Nat) (k : Nat), (dropS d st k = killV (dropK d) (if k = d then .dead else st k))) ∧
    (∀ (st : St) (n : Nat) (av : AV) (p : List (Nat × Nat)) (k : Nat), (setS n p av st k = killV (keepK n p) (if k = n then setC (st n) p av else st k))) ∧
    (∀ (st : St) (n : Nat) (p : List (Nat × Nat)) (k : Nat), (takeS n p st k = killV (takeK n p) (if k = n then setC (st n) p .dead else st k))) ∧
    (∀ (d : Nat) (n : Nat) (p : List (Nat × Nat)), (dropK d n p = (n == d))) ∧
    (∀ (n : Nat), (zipA n [] = [])) ∧
    (∀ (st : St), (keepS [] st = stl [])) := by
  refine ⟨?_, ?_, ?_, ?_, ?_, ?_, ?_, ?_, ?_⟩
  all_goals intros
  all_goals first | rfl | (unfold setS upd; rfl) | (unfold takeS upd; rfl)

theorem zipA_cons (n : Nat) (av : AV) (l : List AV) : zipA n (av :: l) = (n, av) :: zipA (n + 1) l := rfl

/-- A function's end. -/
theorem evR :
    (∀ (n : Nat) (rs fx : List Nat) (al : Bool) (res : AV) (outs : List AV) (st : St), retV n rs fx al res outs .ret st = (killV allK (resA st rs) = res ∧ (al = true ∨ nfz res = true) ∧ outsA fx st 0 n = outs)) ∧
    (∀ (n : Nat) (rs fx : List Nat) (al : Bool) (res : AV) (outs : List AV) (st : St), retV n rs fx al res outs .nrm st = (killV allK (resA st rs) = res ∧ (al = true ∨ nfz res = true) ∧ outsA fx st 0 n = outs)) ∧
    (∀ (st : St) (t : Nat), resA st [t] = st t) ∧ (∀ (st : St), resA st [] = .tup []) ∧ (∀ (st : St) (t u : Nat) (ts : List Nat), resA st (t :: u :: ts) = .tup (st t :: st u :: ts.map st)) ∧
    (∀ (fx : List Nat) (st : St) (k : Nat), outsA fx st k 0 = []) ∧
    (∀ (fx : List Nat) (st : St) (k n : Nat), outsA fx st k (n + 1) = (if fx.contains k then killV allK (st k) else .dead) :: outsA fx st (k + 1) n) ∧
    (∀ (n : Nat) (p : List (Nat × Nat)), allK n p = true) := ⟨fun _ _ _ _ _ _ _ => rfl, fun _ _ _ _ _ _ _ => rfl, fun _ _ => rfl, fun _ => rfl, fun _ _ _ _ => rfl, fun _ _ _ => rfl, fun _ _ _ _ => rfl, fun _ _ => rfl⟩

theorem awp_loop {P : Program} {l : List Nat} {x : MC} {Q : AE → K} {st : St} {α : Type} (A : α → Prop) (I : α → St) (μ : α → Nat) (a : α) (h0 : A a) (e0 : keepS l st = I a)
    (h : ∀ a, A a → awp P x (thn (fun s => ∃ b, A b ∧ μ b < μ a ∧ keepS l s = I b) Q) (I a)) : awp P (.loop l x) Q st := by
  refine ⟨fun n s => ∃ a, A a ∧ μ a = n ∧ s = I a, ⟨μ a, a, h0, rfl, e0⟩, ?_⟩
  rintro n s ⟨a, ha, rfl, rfl⟩
  have e : (fun s => ∃ b, A b ∧ μ b < μ a ∧ keepS l s = I b) = (fun s => ∃ m, m < μ a ∧ ∃ b, A b ∧ μ b = m ∧ keepS l s = I b) := by
    funext s
    apply propext
    constructor
    · rintro ⟨b, h1, h2, h3⟩; exact ⟨_, h2, b, h1, rfl, h3⟩
    · rintro ⟨m, h2, b, h1, rfl, h3⟩; exact ⟨b, h1, h2, h3⟩
  have := h a ha
  rw [e] at this
  exact this

theorem awp_join {P : Program} {l : List Nat} {x y : MC} {Q : AE → K} {st : St} {α : Type} (A : α → Prop) (J : α → St) (h1 : awp P x (thn (fun s => ∃ a, A a ∧ keepS l s = J a) Q) st) (h2 : ∀ a, A a → awp P y Q (J a)) : awp P (.join l x y) Q st :=
  ⟨fun s => ∃ a, A a ∧ s = J a, h1, by rintro s ⟨a, ha, rfl⟩; exact h2 a ha⟩

theorem nth_map {α : Type} {g : α → List AV} {l : List α} {i : Nat} (h : i < l.length) : nth (l.map g) i = g l[i] := by simp [nth, h]

theorem w64 (n : Int) (h : -9223372036854775808 ≤ n ∧ n ≤ 9223372036854775807) : IntKind.i64.wrap n = n := by rw [IntKind.wrap_i64]; omega

theorem nth_set {l : List (List AV)} {i : Nat} {a : List AV} (h : i < l.length) : nth (l.set i a) i = a := by simp [nth, h]
theorem modify_set {l : List (List AV)} {i : Nat} {a : List AV} {f : List AV → List AV} : (l.set i a).modify i f = l.set i (f a) := by
  apply List.ext_getElem?
  intro j
  rw [List.getElem?_modify]
  by_cases h : i = j
  · subst h
    by_cases h2 : i < l.length
    · simp [h2]
    · simp [h2]
  · simp [h, List.getElem?_set_ne h]
theorem nth_mid {α : Type} {g : α → List AV} {pre post : List α} {t : α} : nth ((pre ++ t :: post).map g) pre.length = g t := by simp [nth]
theorem set_mid {α : Type} {g : α → List AV} {pre post : List α} {t : α} (u : α) : ((pre ++ t :: post).map g).set pre.length (g u) = ((pre ++ [u]) ++ post).map g := by simp

theorem take_map_len {α : Type} {g : α → List AV} {l : List α} : (l.map g).take l.length = l.map g := by
  rw [← List.length_map (f := g), List.take_length]

/-- A step, cut in two at a bool that is not known. -/
theorem gK_cut {b : Bool} {w : Bool} {y n : K} {st : St} (h1 : b = true → gK (.v (.bool true)) w y n st) (h2 : b = false → gK (.v (.bool false)) w y n st) : gK (.v (.bool b)) w y n st := by
  cases b <;> simp_all
theorem cK_cut {b : Bool} {y n : K} {st : St} (h1 : b = true → cK (.v (.bool true)) y n st) (h2 : b = false → cK (.v (.bool false)) y n st) : cK (.v (.bool b)) y n st := by
  cases b <;> simp_all
theorem pick_cut {b : Bool} {y z : AV} {k : AV → Prop} (h1 : b = true → pickA (.v (.bool true)) y z k) (h2 : b = false → pickA (.v (.bool false)) y z k) : pickA (.v (.bool b)) y z k := by
  cases b <;> simp_all
end Go.AM
