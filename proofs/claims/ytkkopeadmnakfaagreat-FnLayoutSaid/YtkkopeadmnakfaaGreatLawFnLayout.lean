/- The law FnLayout holds of the given program, for all arguments: the contract of its code, joined to the given row. No conditions. -/
import Derived.Test.YtkkopeadmnakfaaGreatRows
import Derived.Test.YtkkopeadmnakfaaGreatG4
import Derived.WalkKit
import Derived.ProofKit
import Derived.OpenShut
import Derived.ShutString
import Derived.ChangeOld
import Derived.Below
import Derived.ReadAgain
import Derived.SizedLaws
namespace Go.AM
theorem size_ok {n : Nat} (h : n ≤ maxLen) : (n : Int) ≤ 9223372036854775807 := by
  have : maxLen = 9223372036854775807 := by decide
  omega
theorem int_ok {n : Int} (h : (Lit.int .i64 n).wf = true) : -9223372036854775808 ≤ n ∧ n ≤ 9223372036854775807 := by
  have e1 : IntKind.i64.min = -9223372036854775808 := by decide
  have e2 : IntKind.i64.max = 9223372036854775807 := by decide
  simpa [Lit.wf, e1, e2] using h
theorem u8_ok {n : Int} (h : (Lit.int .u8 n).wf = true) : 0 ≤ n ∧ n ≤ 255 := by
  have e1 : IntKind.u8.min = 0 := by decide
  have e2 : IntKind.u8.max = 255 := by decide
  simpa [Lit.wf, e1, e2] using h
theorem trodAll_lt {H : Type} {enc : TypeId × Value → H} {P : Program} {w : World} {base : Nat} {spare : Nat → Bool} {held : Bool} : ∀ {ts : List TypeId} {vs : List Value} {ds : List (DataW H)} {ps : List MemPlace}, DataW.TrodAll enc P w base spare held ts vs ds ps → ∀ p ∈ ps, p.block < w.heap.size
  | [], [], [], ps, h, p, hp => by
    simp only [DataW.TrodAll] at h
    subst h; simp at hp
  | t :: ts, v :: vs, d :: ds, ps, h, p, hp => by
    obtain ⟨p1, q, h1, h2, rfl⟩ := h
    rcases List.mem_append.1 hp with hp | hp
    · obtain ⟨fuel, hf⟩ := h1
      exact DataW.trod_lt fuel t _ _ hf p hp
    · exact trodAll_lt h2 p hp
  | [], [], _ :: _, _, h, _, _ => h.elim
  | [], _ :: _, _, _, h, _, _ => h.elim
  | _ :: _, [], _, _, h, _, _ => h.elim
  | _ :: _, _ :: _, [], _, h, _, _ => h.elim
end Go.AM
namespace Go.Proofs.YtkkopeadmnakfaaGreat.fnLayout
open Go.ChangeShapes Go.WideShapes Go.ChangeAt Go.RowKit
open Go.ChangeMaps (open_string shut_string)
set_option linter.unusedVariables false


theorem kids : Kids Tryz.prog (· < Tryz.prog.types.size) := kids_rows (by kernel_rfl) (by kernel_rfl)
theorem full : ∀ t e, t < Tryz.prog.types.size → Tryz.prog.underlying t = some (.slice e) → 0 < Tryz.prog.cellsOf e := slices_full_of Tryz.prog (by kernel_rfl)
theorem own : ownKnob Tryz.prog.godebug = none := by kernel_rfl
set_option maxRecDepth 100000 in
theorem lifted (os : Os) (started : os.Started) (H : Type) (enc : TypeId × Value → H) :
    ReturnsInHanded {} Tryz.checked os 3 .any (Rows.fnLayoutSpec.pre6 enc Tryz.prog Tryz.f3 Rows.fnLayoutRow.domain false) (Rows.fnLayoutSpec.post enc Tryz.prog Tryz.f3 false true false false) := by
  refine returnsInHanded_of_change_sized (C := Tryz.checked) own started (by kernel_rfl) Tryz.func3
    (ChangeSpec.witness6 (enc := enc) (C := Tryz.checked) false ⟨#[], #[.slice none 0 0, .slice none 0 0], []⟩ 8 (by kernel_rfl) (by kernel_rfl) (by kernel_rfl) (by kernel_rfl)) ?_
  intro W base args ds gs before hval0 hW hcnd hsz0 _
  have hval : ∀ (j : Nat) t v, Tryz.f3.params[j]? = some t → args[j]? = some v → Value.okWide Tryz.prog W .any base t v := hval0
  have hW' := hW
  obtain ⟨p, q, hA0, hV, rfl, hfz, hnd⟩ := hW
  have hA : DataW.TrodAll enc Tryz.prog W 0 (fun _ => true) true Tryz.f3.params.toList args.toList ds p := hA0
  have hAk := hA
  rw [Tryz.params3] at hA hval
  obtain ⟨v0, vs0, d0, ds0, p0, q0, hargs, rfl, rfl, h0, r0⟩ := trodAll_cons hA
  obtain ⟨v1, vs1, d1, ds1, p1, q1, rfl, rfl, rfl, h1, r1⟩ := trodAll_cons r0
  obtain ⟨rfl, rfl, rfl⟩ := trodAll_nil r1
  obtain rfl : args = #[v0, v1] := by cases args; simp_all
  obtain ⟨rfl, rfl⟩ := trodVars_none hV
  obtain ⟨a0, n0, c0, rfl⟩ := okWide_slice Tryz.underlying22 (hval 0 22 v0 rfl rfl)
  obtain ⟨l0, ⟨ok0, len0⟩, rep0⟩ := Go.AM.open_one (L := Go.AM.noL) (c := fun l : List Int => .fsl 1 (l.map Go.AM.bv)) (by simp [Value.cells]) (Go.AM.reads_slice (c := Go.AM.bv) Tryz.underlying22 (Go.AM.reads_int Tryz.underlying5) (sz := 1) (by decide +kernel) (by decide) (fun _ => rfl)) h0
  obtain ⟨a1, n1, c1, rfl⟩ := okWide_slice Tryz.underlying22 (hval 1 22 v1 rfl rfl)
  obtain ⟨l1, ⟨ok1, len1⟩, rep1⟩ := Go.AM.open_one (L := Go.AM.noL) (c := fun l : List Int => .fsl 1 (l.map Go.AM.bv)) (by simp [Value.cells]) (Go.AM.reads_slice (c := Go.AM.bv) Tryz.underlying22 (Go.AM.reads_int Tryz.underlying5) (sz := 1) (by decide +kernel) (by decide) (fun _ => rfl)) h1
  clear hA0 hval0 hsz0
  refine (Go.AM.Does.law (Go.AM.d3 l0 l1 (Go.AM.size_ok len0) (Go.AM.size_ok len1) (fun b hb => Go.AM.u8_ok (ok0 b hb)) (fun b hb => Go.AM.u8_ok (ok1 b hb))) W (xs := [_, _]) ⟨_, _, [], [], rfl, rfl, rep0, ⟨_, _, [], [], rfl, rfl, rep1, rfl, rfl⟩⟩).mono fun e W' ⟨he, bel⟩ => ?_
  subst he
  exact ⟨_, rfl, _, _, _, [], _, [], hW', trodAll_mk1 (shut_bool Tryz.underlying4 _), Go.AM.trodAll_below bel (DataW.TrodAll.respare kids full (by rw [Tryz.params3]; decide) hAk (fun p hp => by simpa using Go.AM.trodAll_lt hAk p hp)), rfl, bel.frame _, fun h => by cases h⟩
theorem k1 : Tryz.pinned.checked.prog.funcNamed Rows.fnLayoutRow.func = some 3 := by kernel_rfl
theorem k2 : Tryz.f3.isInstance Tryz.pinned.checked.prog Rows.fnLayoutRow.origin Rows.fnLayoutRow.targs := of_decide_eq_true (by kernel_rfl)
theorem k3 : Tryz.f3.isWrapper Tryz.pinned.checked.prog Rows.fnLayoutRow.wrapper Rows.fnLayoutRow.mainSum := by unfold Func.isWrapper; first | (rw [if_pos (by decide +kernel)]; kernel_rfl) | (rw [if_neg (by decide +kernel)]; exact ⟨rfl, rfl⟩)
theorem k4 : joinedFacts Tryz.pinned.checked.prog 3 Tryz.f3 Rows.fnLayoutSpec Rows.fnLayoutRow = true := by kernel_rfl
theorem over : Rows.fnLayoutRow.holds Tryz.pinned (OpenSpec.ofChange Rows.fnLayoutSpec) :=
  OpenClaim.holds_of_wide 3 Tryz.f3 rfl rfl rfl rfl rfl rfl rfl ⟨rfl, rfl, rfl, rfl, rfl⟩ rfl rfl rfl rfl rfl k1 Tryz.func3 k4 k2 k3
    (fun os started H enc _ => lifted os started H enc)
theorem proved : Rows.FnLayoutSaid := over
#print axioms proved
end Go.Proofs.YtkkopeadmnakfaaGreat.fnLayout
namespace Go.Proofs.YtkkopeadmnakfaaGreat
/-- The row, under a short name, for the claim. -/
theorem fnLayout_holds : Rows.FnLayoutSaid := fnLayout.proved
end Go.Proofs.YtkkopeadmnakfaaGreat
