/- The law FnExactGoodSources holds of the given program, for all arguments: the contract of its code, joined to the given row. No conditions. -/
import Derived.Test.YtipglfigjpiolaaGreatDoorCards
import Derived.Test.YtipglfigjpiolaaGreatDoorTie
import Derived.Deep.DeepHandedRow
import Derived.Deep.DeepWitnessRowRef
import Derived.Lib.LaidU8
import Derived.Test.YtipglfigjpiolaaGreatDoorG3
import Derived.WalkKit
import Derived.ProofKit
import Derived.OpenShut
import Derived.ShutString
import Derived.ChangeOld
import Derived.Below
import Derived.ReadAgain
import Derived.SizedLaws
namespace Go.AM
theorem size_ok {n : Nat} (h : n ≤ maxLen) : (n : Int) ≤ 9223372036854775807 := by
  have : maxLen = 9223372036854775807 := by decide
  omega
theorem int_ok {n : Int} (h : (Lit.int .i64 n).wf = true) : -9223372036854775808 ≤ n ∧ n ≤ 9223372036854775807 := by
  have e1 : IntKind.i64.min = -9223372036854775808 := by decide
  have e2 : IntKind.i64.max = 9223372036854775807 := by decide
  simpa [Lit.wf, e1, e2] using h
theorem u8_ok {n : Int} (h : (Lit.int .u8 n).wf = true) : 0 ≤ n ∧ n ≤ 255 := by
  have e1 : IntKind.u8.min = 0 := by decide
  have e2 : IntKind.u8.max = 255 := by decide
  simpa [Lit.wf, e1, e2] using h
theorem trodAll_lt {H : Type} {enc : TypeId × Value → H} {P : Program} {w : World} {base : Nat} {spare : Nat → Bool} {held : Bool} : ∀ {ts : List TypeId} {vs : List Value} {ds : List (DataW H)} {ps : List MemPlace}, DataW.TrodAll enc P w base spare held ts vs ds ps → ∀ p ∈ ps, p.block < w.heap.size
  | [], [], [], ps, h, p, hp => by
    simp only [DataW.TrodAll] at h
    subst h; simp at hp
  | t :: ts, v :: vs, d :: ds, ps, h, p, hp => by
    obtain ⟨p1, q, h1, h2, rfl⟩ := h
    rcases List.mem_append.1 hp with hp | hp
    · obtain ⟨fuel, hf⟩ := h1
      exact DataW.trod_lt fuel t _ _ hf p hp
    · exact trodAll_lt h2 p hp
  | [], [], _ :: _, _, h, _, _ => h.elim
  | [], _ :: _, _, _, h, _, _ => h.elim
  | _ :: _, [], _, _, h, _, _ => h.elim
  | _ :: _, _ :: _, [], _, h, _, _ => h.elim
end Go.AM
namespace Go.Proofs.YtipglfigjpiolaaGreatDoor.fnExactGoodSources
open Go.ChangeShapes Go.WideShapes Go.ChangeAt Go.RowKit
open Go.ChangeMaps (open_string shut_string)
set_option linter.unusedVariables false


theorem readsSourc {H : Type} {enc : TypeId × Value → H} {w : World} {base : Nat} {spare : Nat → Bool} {held : Bool} : Go.AM.Reads enc Tryz.prog w base spare held 65 Go.AM.Src.c Go.AM.Src.ok := by
  refine Go.AM.Reads.map (Go.AM.reads_struct (tys := [9, 9]) (by decide +kernel) (Go.AM.seg_cons (Go.AM.reads_string Tryz.underlying9) (Go.AM.seg_cons (Go.AM.reads_string Tryz.underlying9) Go.AM.seg_nil))) (fun x => Go.AM.Src.mk (x.1) (x.2.1)) (fun _ => rfl) ?_
  rintro x w
  exact ⟨Go.AM.size_ok (w.1), Go.AM.size_ok (w.2.1)⟩

theorem kids : Kids Tryz.prog (· < Tryz.prog.types.size) := kids_rows (by kernel_rfl) (by kernel_rfl)
theorem full : ∀ t e, t < Tryz.prog.types.size → Tryz.prog.underlying t = some (.slice e) → 0 < Tryz.prog.cellsOf e := slices_full_of Tryz.prog (by kernel_rfl)
theorem own : ownKnob Tryz.prog.godebug = none := by kernel_rfl

theorem noTables (W : World) : Go.AM.LaidW Tryz.prog W := Go.AM.laidW_none (by kernel_rfl) (by kernel_rfl) W
/-- A world for the witness: the listed variables as they are laid. -/
noncomputable def laidWorld (os : Os) : World :=
  let N := (World.settled Tryz.prog os).heap.size
  let w0 := World.holding Tryz.prog os ⟨#[.cells #[.string ⟨#[118, 97, 108, 117, 101, 32, 111, 117, 116, 32, 111, 102, 32, 114, 97, 110, 103, 101]⟩] 167, .cells #[.string ⟨#[105, 110, 118, 97, 108, 105, 100, 32, 115, 121, 110, 116, 97, 120]⟩] 167], #[], []⟩
  let put (h : Array Obj) (n : String) (cs : Array Value) : Array Obj := h.modify ((Tryz.prog.globalNamed n).getD 0) fun
    | .cells _ t frozen => .cells cs t frozen
    | o => o
  let h0 := put w0.heap "math/bits.deBruijn32tab" #[.int .u8 0, .int .u8 1, .int .u8 28, .int .u8 2, .int .u8 29, .int .u8 14, .int .u8 24, .int .u8 3, .int .u8 30, .int .u8 22, .int .u8 20, .int .u8 15, .int .u8 25, .int .u8 17, .int .u8 4, .int .u8 8, .int .u8 31, .int .u8 27, .int .u8 13, .int .u8 23, .int .u8 21, .int .u8 19, .int .u8 16, .int .u8 7, .int .u8 26, .int .u8 12, .int .u8 18, .int .u8 6, .int .u8 11, .int .u8 5, .int .u8 10, .int .u8 9]
  let h1 := put h0 "math/bits.deBruijn64tab" #[.int .u8 0, .int .u8 1, .int .u8 56, .int .u8 2, .int .u8 57, .int .u8 49, .int .u8 28, .int .u8 3, .int .u8 61, .int .u8 58, .int .u8 42, .int .u8 50, .int .u8 38, .int .u8 29, .int .u8 17, .int .u8 4, .int .u8 62, .int .u8 47, .int .u8 59, .int .u8 36, .int .u8 45, .int .u8 43, .int .u8 51, .int .u8 22, .int .u8 53, .int .u8 39, .int .u8 33, .int .u8 30, .int .u8 24, .int .u8 18, .int .u8 12, .int .u8 5, .int .u8 63, .int .u8 55, .int .u8 48, .int .u8 27, .int .u8 60, .int .u8 41, .int .u8 37, .int .u8 16, .int .u8 46, .int .u8 35, .int .u8 44, .int .u8 21, .int .u8 52, .int .u8 32, .int .u8 23, .int .u8 11, .int .u8 54, .int .u8 26, .int .u8 40, .int .u8 15, .int .u8 34, .int .u8 20, .int .u8 31, .int .u8 10, .int .u8 25, .int .u8 14, .int .u8 19, .int .u8 9, .int .u8 13, .int .u8 8, .int .u8 7, .int .u8 6]
  let h2 := put h1 "internal/strconv.uint64pow10" #[.int .u64 1, .int .u64 10, .int .u64 100, .int .u64 1000, .int .u64 10000, .int .u64 100000, .int .u64 1000000, .int .u64 10000000, .int .u64 100000000, .int .u64 1000000000, .int .u64 10000000000, .int .u64 100000000000, .int .u64 1000000000000, .int .u64 10000000000000, .int .u64 100000000000000, .int .u64 1000000000000000, .int .u64 10000000000000000, .int .u64 100000000000000000, .int .u64 1000000000000000000, .int .u64 10000000000000000000]
  let h3 := put h2 "unicode/utf8.acceptRanges" #[.int .u8 128, .int .u8 191, .int .u8 160, .int .u8 191, .int .u8 128, .int .u8 159, .int .u8 144, .int .u8 191, .int .u8 128, .int .u8 143, .int .u8 0, .int .u8 0, .int .u8 0, .int .u8 0, .int .u8 0, .int .u8 0, .int .u8 0, .int .u8 0, .int .u8 0, .int .u8 0, .int .u8 0, .int .u8 0, .int .u8 0, .int .u8 0, .int .u8 0, .int .u8 0, .int .u8 0, .int .u8 0, .int .u8 0, .int .u8 0, .int .u8 0, .int .u8 0]
  let h4 := put h3 "strconv.ErrRange" #[.iface 165 (.pointer (some ⟨N + 0, 0, none⟩))]
  let h5 := put h4 "strconv.ErrSyntax" #[.iface 165 (.pointer (some ⟨N + 1, 0, none⟩))]
  let h6 := put h5 "unicode/utf8.first" (Lib.firstTab.map fun z => Value.int .u8 z).toArray
  { w0 with heap := h6 }
theorem laid_met (os : Os) : laidMet Tryz.prog Rows.fnExactGoodSourcesRow.laid ((laidWorld os).forCall (fun _ _ => 0) ⟨#[], #[.slice none 0 0], []⟩).memory :=
  laidMet_of_run' 10 (by kernel_rfl) (by kernel_rfl)
theorem reads (os : Os) {H : Type} (enc : TypeId × Value → H) : ∃ places, DataW.whole enc Tryz.prog ((laidWorld os).forCall (fun _ _ => 0) ⟨#[], #[.slice none 0 0], []⟩).memory Tryz.f4.params.toList Rows.fnExactGoodSourcesSpec.vars false (#[.slice none 0 0] : Array Value).toList 8 = some ([.nil], [], places) :=
  ⟨[], by kernel_rfl⟩
set_option maxRecDepth 100000 in
theorem lifted (os : Os) (started : os.Started) (H : Type) (enc : TypeId × Value → H) (F : Stop.Interp) :
    ReturnsInHanded {} Tryz.checked os 4 .any ((OpenSpec.ofChange Rows.fnExactGoodSourcesSpec).preRow enc Tryz.prog Tryz.f4 Rows.fnExactGoodSourcesRow.domain false Rows.fnExactGoodSourcesRow.laid) (((OpenSpec.ofChange Rows.fnExactGoodSourcesSpec).at F).post enc Tryz.prog Tryz.f4 false true false false) := by
  obtain ⟨places, hx⟩ := reads os enc
  refine returnsInHanded_of_row (C := Tryz.checked) (s := OpenSpec.ofChange Rows.fnExactGoodSourcesSpec) own started (by kernel_rfl) Tryz.func4
    (witness_row_atRef (enc := enc) (C := Tryz.checked) false (laidWorld os) #[.slice none 0 0] rfl (by kernel_rfl) (by kernel_rfl) (by kernel_rfl)
      (OpenSpec.preRow_of_cond 8 hx (by kernel_rfl) (fun k hk => by cases hk) (by kernel_rfl) (laid_met os))) ?_
  intro W base args ds gs before hval0 hW hcnd _ hsz0 hL _ _
  have hLW := noTables W
  have hval : ∀ (j : Nat) t v, Tryz.f4.params[j]? = some t → args[j]? = some v → Value.okWide Tryz.prog W .any base t v := hval0
  have hW' := hW
  obtain ⟨p, q, hA0, hV, rfl, hfz, hnd⟩ := hW
  have hA : DataW.TrodAll enc Tryz.prog W 0 (fun _ => true) true Tryz.f4.params.toList args.toList ds p := hA0
  have hAk := hA
  rw [Tryz.params4] at hA hval
  obtain ⟨v0, vs0, d0, ds0, p0, q0, hargs, rfl, rfl, h0, r0⟩ := trodAll_cons hA
  obtain ⟨rfl, rfl, rfl⟩ := trodAll_nil r0
  obtain rfl : args = #[v0] := by cases args; simp_all
  obtain ⟨rfl, rfl⟩ := trodVars_none hV
  obtain ⟨a0, n0, c0, rfl⟩ := okWide_slice Tryz.underlying28 (hval 0 28 v0 rfl rfl)
  obtain ⟨l0, ⟨ok0, len0⟩, rep0⟩ := Go.AM.open_one (L := Go.AM.noL) (c := fun l : List Go.AM.Src => .fsl 2 (l.map Go.AM.Src.c)) (by simp [Value.cells]) (Go.AM.reads_slice Tryz.underlying28 readsSourc (sz := 2) (by decide +kernel) (by decide) (fun _ => rfl)) h0
  clear hA0 hval0 hsz0
  refine (Go.AM.Does.law (Go.AM.d4 l0 (Go.AM.size_ok len0) ok0) W hLW (xs := [_]) ⟨_, _, [], [], rfl, rfl, rep0, rfl, rfl⟩).mono fun e W' ⟨he, bel⟩ => ?_
  subst he
  exact ⟨_, rfl, _, _, _, [], _, [], hW', trodAll_mk1 (shut_bool Tryz.underlying4 _), Go.AM.trodAll_below bel (DataW.TrodAll.respare kids full (by rw [Tryz.params4]; decide) hAk (fun p hp => by simpa using Go.AM.trodAll_lt hAk p hp)), rfl, bel.frame _, fun h => by cases h⟩
theorem k1 : Tryz.pinned.checked.prog.funcNamed Rows.fnExactGoodSourcesRow.func = some 4 := by kernel_rfl
theorem k2 : Tryz.f4.isInstance Tryz.pinned.checked.prog Rows.fnExactGoodSourcesRow.origin Rows.fnExactGoodSourcesRow.targs := of_decide_eq_true (by kernel_rfl)
theorem k3 : Tryz.f4.isWrapper Tryz.pinned.checked.prog Rows.fnExactGoodSourcesRow.wrapper Rows.fnExactGoodSourcesRow.mainSum := by unfold Func.isWrapper; first | (rw [if_pos (by decide +kernel)]; kernel_rfl) | (rw [if_neg (by decide +kernel)]; exact ⟨rfl, rfl⟩)
theorem k4 : joinedFacts Tryz.pinned.checked.prog 4 Tryz.f4 Rows.fnExactGoodSourcesSpec Rows.fnExactGoodSourcesRow = true := by kernel_rfl
theorem over : Rows.FnExactGoodSourcesSaid :=
  OpenClaim.holds_of_cond 4 Tryz.f4 rfl rfl rfl rfl rfl rfl rfl ⟨rfl, rfl, rfl, rfl, rfl⟩ rfl rfl rfl rfl rfl k1 Tryz.func4 k4
    k2 k3
    (fun os started H enc _ F => by rw [OpenClaim.pre_eq_preRow]; exact lifted os started H enc F)
theorem plain (f : FuncId) (fn : Func) (hf : Tryz.pinned.checked.prog.funcNamed "loop.example/g00837/laws.FnExactGoodSources" = some f) (hfn : Tryz.pinned.checked.prog.funcs[f]? = some fn) :
    true = Tryz.pinned.checked.prog.looks [] ∧ ∀ (j : Nat) t, fn.params[j]? = some t → Tryz.pinned.checked.prog.wantsStandIn t = false := by
  obtain rfl : f = 4 := Option.some.inj ((show Tryz.prog.funcNamed "loop.example/g00837/laws.FnExactGoodSources" = some 4 by kernel_rfl).symm.trans hf) |>.symm
  obtain rfl : fn = Tryz.f4 := (Option.some.inj (Tryz.func4.symm.trans hfn)).symm
  refine ⟨by kernel_rfl, fun j t ht => ?_⟩
  rw [Tryz.params4] at ht
  have hall : ∀ t ∈ (Tryz.f4.params : Array TypeId), Tryz.prog.wantsStandIn t = false := by rw [Tryz.params4]; decide +kernel
  exact hall t (by rw [Tryz.params4]; exact Array.mem_of_getElem? ht)
theorem proved : Rows.FnExactGoodSourcesCardSaid :=
  Claim7.holds_tied_plain_at .later [] _ _ _ _ over (fun _ h => by cases h) (by kernel_rfl) (fun _ h => by cases h) fnExactGoodSources_row_tie rfl ⟨rfl, rfl⟩ (by kernel_rfl) rfl plain (by kernel_rfl)
#print axioms proved
end Go.Proofs.YtipglfigjpiolaaGreatDoor.fnExactGoodSources
namespace Go.Proofs.YtipglfigjpiolaaGreatDoor
/-- The row, under a short name, for the claim. -/
theorem fnExactGoodSources_holds : Rows.FnExactGoodSourcesCardSaid := fnExactGoodSources.proved
end Go.Proofs.YtipglfigjpiolaaGreatDoor
