/- Proved here: the statement FnExactBaseTypesSaid, with no condition. Conditions: those that each theorem names. -/
import Derived.Test.YtleomgfaplldiaaRows
import Derived.Test.YtleomgfaplldiaaD7
import Derived.WalkKit
import Derived.ProofKit
import Derived.OpenShut
import Derived.ShutString
import Derived.ChangeOld
import Derived.Below
import Derived.SizedLaws
namespace Go.AM
/-- A contract of a law that takes nothing: it says true, and of what was there nothing has turned. -/
theorem Does.law {P : Program} {f : FuncId} {al : Bool} {b : Bool} (h : Does P f [] al (.v (.bool b)) []) (W : World) :
    Calls P f #[] W fun e W' => e = .returned (.bool b) ∧ Go.RowKit.Below W.heap.size W W' := by
  refine (h.2 W (fun _ => False) [] [] (by simp [RepVs]) (by simp) (by simp) (by simp)).mono ?_
  rintro e W' ⟨x, ox, oo, rfl, hext, hr, _⟩
  simp only [RepV, RepC] at hr
  rw [hr.1]
  exact ⟨rfl, ⟨hext.os, hext.tape, hext.output, hext.size, fun k hk => hext.blk k hk (by simp)⟩⟩
end Go.AM
namespace Go.Proofs.Ytleomgfaplldiaa.fnExactBaseTypes
open Go.ChangeShapes Go.WideShapes Go.ChangeAt Go.RowKit
open Go.ChangeMaps (open_string shut_string)
set_option linter.unusedVariables false
theorem own : ownKnob Try.prog.godebug = none := by kernel_rfl
set_option maxRecDepth 100000 in
theorem lifted (os : Os) (started : os.Started) (H : Type) (enc : TypeId × Value → H) :
    ReturnsInHanded {} Try.checked os 5 .any (Rows.fnExactBaseTypesSpec.pre6 enc Try.prog Try.f5 Rows.fnExactBaseTypesRow.domain false) (Rows.fnExactBaseTypesSpec.post enc Try.prog Try.f5 false true false false) := by
  refine returnsInHanded_of_change_sized (C := Try.checked) own started (by kernel_rfl) Try.func5
    (ChangeSpec.witness6 (enc := enc) (C := Try.checked) false ⟨#[], #[], []⟩ 8 (by kernel_rfl) (by kernel_rfl) (by kernel_rfl) (by kernel_rfl)) ?_
  intro W base args ds gs before hval0 hW hcnd hsz0 _
  have hW' := hW
  obtain ⟨p, q, hA0, hV, rfl, hfz, hnd⟩ := hW
  have hA : DataW.TrodAll enc Try.prog W 0 (fun _ => true) true Try.f5.params.toList args.toList ds p := hA0
  rw [Try.params5] at hA
  have hargs : args.toList = [] ∧ ds = [] ∧ p = [] := by have := trodAll_nil hA; simpa using this
  obtain ⟨hargs, rfl, rfl⟩ := hargs
  obtain rfl : args = #[] := by cases args; simp_all
  obtain ⟨rfl, rfl⟩ := trodVars_none hV
  clear hA0 hval0 hsz0
  refine (Go.AM.Does.law Go.AM.d5 W).mono fun e W' ⟨he, bel⟩ => ?_
  subst he
  exact ⟨_, rfl, _, _, _, [], _, [], hW', trodAll_mk1 (shut_bool Try.underlying4 _), trodAll_mk0, rfl, bel.frame _, fun h => by cases h⟩
theorem over : Rows.fnExactBaseTypesRow.holds Try.pinned (OpenSpec.ofChange Rows.fnExactBaseTypesSpec) :=
  OpenClaim.holds_of_wide 5 Try.f5 rfl rfl rfl rfl rfl rfl rfl ⟨rfl, rfl, rfl, rfl, rfl⟩ rfl rfl rfl rfl rfl (by kernel_rfl) Try.func5 (by kernel_rfl)
    (of_decide_eq_true (by kernel_rfl)) (by unfold Func.isWrapper; first | (rw [if_pos (by decide +kernel)]; kernel_rfl) | (rw [if_neg (by decide +kernel)]; exact ⟨rfl, rfl⟩))
    (fun os started H enc _ => lifted os started H enc)
theorem proved : Rows.FnExactBaseTypesSaid := over
#print axioms proved
end Go.Proofs.Ytleomgfaplldiaa.fnExactBaseTypes
namespace Go.Proofs.Ytleomgfaplldiaa
/-- The statement, under a short name. -/
theorem fnExactBaseTypes_holds : Rows.FnExactBaseTypesSaid := fnExactBaseTypes.proved
end Go.Proofs.Ytleomgfaplldiaa
