/- Own framework, part 24b: laws for reckoning a drawn region in which something is written. -/
import Derived.Test.YtleomgfaplldiaaC6
namespace Go.AM
set_option linter.unusedVariables false
set_option linter.unusedSimpArgs false

def fK (P : Program) (ms : List MO) (k : St → K) (d : Nat) (sF sW : St) (av : AV) : Prop := putS sW (some d) (killV allK av) (fV P ms k (upd sF d av))
def fG (x : AV) (w : Bool) (yes no : Prop) : Prop :=
  match x with
  | .v (.bool b) => if b = w then yes else no
  | .tup [] => no
  | _ => False
def tK (P : Program) (cs : List MO) (RL : List Nat) (st : St) (k : K) (_ : St) (sW : St) : Prop := opsV P cs (fun s3 => k (backS RL st s3)) sW

theorem keepL_eq (l : List Nat) (st : St) : keepL l st = keepS l st := by
  funext k
  simp only [keepL, keepS, stl_map]

theorem evM :
    (∀ (P : Program) (Q : AE → K) (st : St) (FL WL RL B fi ci : List Nat) (fs cs : List MO), awp P (.mix FL WL RL B fi ci fs cs) Q st = ((B.all fun n => bare (st n)) = true ∧ fV P fs (tK P cs RL st (Q .nrm)) (keepS FL st) (keepS WL st))) ∧
    (∀ (P : Program) (k : St → K) (sF sW : St), fV P [] k sF sW = k sF sW) ∧
    (∀ (P : Program) (d : Nat) (q : MQ) (ms : List MO) (k : St → K) (sF sW : St), fV P (⟨some d, none, .q q⟩ :: ms) k sF sW = (bare (sF d) = true ∧ mqV q sF (fK P ms k d sF sW))) ∧
    (∀ (P : Program) (d : Nat) (s : Nat) (w : Bool) (q : MQ) (ms : List MO) (k : St → K) (sF sW : St), fV P (⟨some d, some (s, w), .q q⟩ :: ms) k sF sW = (bare (sF d) = true ∧ fG (sF s) w (mqV q sF (fK P ms k d sF sW)) (putS sW (some d) (.tup []) (fV P ms k (upd sF d (.tup [])))))) ∧
    (∀ (P : Program) (ms : List MO) (k : St → K) (d : Nat) (sF sW : St) (av : AV), fK P ms k d sF sW av = putS sW (some d) (killV allK av) (fV P ms k (upd sF d av))) ∧
    (∀ (P : Program) (cs : List MO) (RL : List Nat) (st : St) (k : K) (sF sW : St), tK P cs RL st k sF sW = opsV P cs (fun s3 => k (backS RL st s3)) sW) ∧
    (∀ (y n : Prop), fG (.v (.bool true)) true y n = y) ∧ (∀ (y n : Prop), fG (.v (.bool false)) false y n = y) ∧ (∀ (y n : Prop), fG (.v (.bool true)) false y n = n) ∧ (∀ (y n : Prop), fG (.v (.bool false)) true y n = n) ∧ (∀ (w : Bool) (y n : Prop), fG (.tup []) w y n = n) ∧
    (∀ (RL : List Nat) (st st' : St) (k : Nat), backS RL st st' k = if RL.contains k then killV (fun n _ => !RL.contains n) (st k) else killV (fun n _ => RL.contains n) (st' k)) ∧
    (∀ (n : Nat) (p : List (Nat × Nat)), allK n p = true) := by
  refine ⟨?_, ?_, ?_, ?_, ?_, ?_, ?_, ?_, ?_, ?_, ?_, ?_, ?_⟩
  · intro P Q st FL WL RL B fi ci fs cs
    simp only [awp, mixV, keepL_eq]
    rfl
  all_goals intros
  all_goals first | rfl | (simp [fG]; done) | (simp [fV, gV, fG, fK]; done) | (simp [backS]; done)

theorem fG_cut {b : Bool} {w : Bool} {y n : Prop} (h1 : b = true → fG (.v (.bool true)) w y n) (h2 : b = false → fG (.v (.bool false)) w y n) : fG (.v (.bool b)) w y n := by
  cases b <;> simp_all
end Go.AM
