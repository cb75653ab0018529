/- The law FnExactReadDiff holds of the given program, for all arguments: the contract of its code, joined to the given row. No conditions. -/
import Derived.Test.YtlniipooboohkaaDoorCards
import Derived.Test.YtlniipooboohkaaDoorTie
import Derived.Deep.DeepHandedRow
import Derived.Deep.DeepWitnessRowRef
import Derived.Lib.LaidU8
import Derived.Test.YtlniipooboohkaaDoorG1
import Derived.WalkKit
import Derived.ProofKit
import Derived.OpenShut
import Derived.ShutString
import Derived.ChangeOld
import Derived.Below
import Derived.ReadAgain
import Derived.SizedLaws
namespace Go.AM
theorem size_ok {n : Nat} (h : n ≤ maxLen) : (n : Int) ≤ 9223372036854775807 := by
  have : maxLen = 9223372036854775807 := by decide
  omega
theorem int_ok {n : Int} (h : (Lit.int .i64 n).wf = true) : -9223372036854775808 ≤ n ∧ n ≤ 9223372036854775807 := by
  have e1 : IntKind.i64.min = -9223372036854775808 := by decide
  have e2 : IntKind.i64.max = 9223372036854775807 := by decide
  simpa [Lit.wf, e1, e2] using h
theorem u8_ok {n : Int} (h : (Lit.int .u8 n).wf = true) : 0 ≤ n ∧ n ≤ 255 := by
  have e1 : IntKind.u8.min = 0 := by decide
  have e2 : IntKind.u8.max = 255 := by decide
  simpa [Lit.wf, e1, e2] using h
theorem trodAll_lt {H : Type} {enc : TypeId × Value → H} {P : Program} {w : World} {base : Nat} {spare : Nat → Bool} {held : Bool} : ∀ {ts : List TypeId} {vs : List Value} {ds : List (DataW H)} {ps : List MemPlace}, DataW.TrodAll enc P w base spare held ts vs ds ps → ∀ p ∈ ps, p.block < w.heap.size
  | [], [], [], ps, h, p, hp => by
    simp only [DataW.TrodAll] at h
    subst h; simp at hp
  | t :: ts, v :: vs, d :: ds, ps, h, p, hp => by
    obtain ⟨p1, q, h1, h2, rfl⟩ := h
    rcases List.mem_append.1 hp with hp | hp
    · obtain ⟨fuel, hf⟩ := h1
      exact DataW.trod_lt fuel t _ _ hf p hp
    · exact trodAll_lt h2 p hp
  | [], [], _ :: _, _, h, _, _ => h.elim
  | [], _ :: _, _, _, h, _, _ => h.elim
  | _ :: _, [], _, _, h, _, _ => h.elim
  | _ :: _, _ :: _, [], _, h, _, _ => h.elim
end Go.AM
namespace Go.Proofs.YtlniipooboohkaaDoor.fnExactReadDiff
open Go.ChangeShapes Go.WideShapes Go.ChangeAt Go.RowKit
open Go.ChangeMaps (open_string shut_string)
set_option linter.unusedVariables false


theorem kids : Kids Tryd.prog (· < Tryd.prog.types.size) := kids_rows (by kernel_rfl) (by kernel_rfl)
theorem full : ∀ t e, t < Tryd.prog.types.size → Tryd.prog.underlying t = some (.slice e) → 0 < Tryd.prog.cellsOf e := slices_full_of Tryd.prog (by kernel_rfl)
theorem own : ownKnob Tryd.prog.godebug = none := by kernel_rfl

theorem wd : (Rows.laid_unicode_White_Space : DataW Unit) = Lib.whiteData := by kernel_rfl
theorem sd : (Rows.laid_strings_asciiSpace : DataW Unit) = Lib.tabData .u8 Lib.asciiSpaceTab := by kernel_rfl
theorem spTy : (Tryd.prog.globals[Tryd.laysFields_ren.g 0]?).map (·.type) = some (Tryd.laysFields_ren.t 119) := by kernel_rfl
theorem spC5 : Tryd.prog.cellsOf (Tryd.laysFields_ren.t 5) = 1 := by kernel_rfl
theorem spC119 : Tryd.prog.cellsOf (Tryd.laysFields_ren.t 119) = 256 := by kernel_rfl
theorem spAt : ∀ c : Nat, c < 256 → (Lib.asciiSpaceTab.map fun z => Value.int .u8 z)[c]? = some (.int .u8 (if c = 9 ∨ c = 10 ∨ c = 11 ∨ c = 12 ∨ c = 13 ∨ c = 32 then 1 else 0)) := by
  intro c hc
  have h := Lib.asciiSpaceTab_at c hc
  have hl : c < Lib.asciiSpaceTab.length := by rw [Lib.asciiSpaceTab_length]; exact hc
  rw [List.getElem?_map, List.getElem?_eq_getElem hl, Option.map_some]
  rw [List.getD_eq_getElem?_getD, List.getElem?_eq_getElem hl] at h
  have h2 : ∀ c : Nat, c < 256 → (if Lib.isSp (UInt8.ofNat c) then (1 : Int) else 0) = if c = 9 ∨ c = 10 ∨ c = 11 ∨ c = 12 ∨ c = 13 ∨ c = 32 then 1 else 0 := by decide +kernel
  rw [← h2 c hc, ← h]
  rfl
theorem whAt : ∀ i : Nat, i < 21 → ((Lib.whiteT.getD i 0 : Nat) : Int) = Go.AM.whites.getD i 0 := by decide
theorem whX : WhiteExtra Tryd.prog Tryd.laysFields_ren := ⟨by kernel_rfl, by kernel_rfl, by kernel_rfl, by kernel_rfl, by kernel_rfl, by kernel_rfl, by kernel_rfl, by kernel_rfl⟩
/-- What the row lists, as the walks want it. -/
theorem tables {W : World} (hL : laidMetH Tryd.prog Rows.fnExactReadDiffRow.laid W) : Go.AM.LaidW Tryd.prog W := by
  constructor
  · intro g hg c hc
    obtain ⟨g', t, cs, fuel, p, hg', hty, hvar, hd⟩ := Lib.laidMet.reads hL (.tail _ (.head _))
    obtain rfl := Option.some.inj (hg.symm.trans hg')
    obtain rfl := Option.some.inj (Tryd.fieldsG0.symm.trans hg)
    obtain rfl := Option.some.inj (spTy.symm.trans hty)
    rw [sd] at hd
    have hcs := Lib.cells_of_tab Tryd.laysFields.t119 Tryd.laysFields.t5 spC5 spC119 hd
    rw [World.var?_cell hg hvar c, ← Array.getElem?_toList, hcs]
    exact spAt c hc
  · intro g hg
    obtain rfl := Option.some.inj (Tryd.fieldsG6.symm.trans hg)
    have h := Lib.laidMet.reads hL (.head _)
    rw [wd] at h
    obtain ⟨T, oT, R, oR, h1, h2, h3, h4, h5⟩ := whiteTab_of_reads { Tryd.laysFields with } whX h
    exact ⟨T, oT, R, oR, h1, h2, h3, h4, fun i hi => by rw [← whAt i hi]; exact h5 i hi⟩
/-- A world for the witness: the tables as they are laid. -/
noncomputable def laidWorld (os : Os) : World :=
  let N := (World.settled Tryd.prog os).heap.size
  let w0 := World.holding Tryd.prog os ⟨#[.cells (Lib.whiteT.map fun (z : Nat) => Value.int .u16 (z : Int)).toArray (Tryd.laysFields_ren.t 198), .cells #[.slice (some ⟨N, 0, none⟩) 7 7, .slice none 0 0, .int .i64 2] (Tryd.laysFields_ren.t 196)], #[], []⟩
  let put (h : Array Obj) (g : Nat) (cs : Array Value) : Array Obj := h.modify g fun
    | .cells _ t frozen => .cells cs t frozen
    | o => o
  let h1 := put w0.heap (Tryd.laysFields_ren.g 0) (Lib.asciiSpaceTab.map fun z => Value.int .u8 z).toArray
  let h2 := put h1 (Tryd.laysFields_ren.g 6) #[.pointer (some ⟨N + 1, 0, none⟩)]
  { w0 with heap := h2 }
theorem laid_met (os : Os) : laidMet Tryd.prog Rows.fnExactReadDiffRow.laid ((laidWorld os).forCall (fun _ _ => 0) ⟨#[], #[.string ⟨#[]⟩], []⟩).memory :=
  laidMet_of_run' 10 (by kernel_rfl) (by kernel_rfl)
theorem reads (os : Os) {H : Type} (enc : TypeId × Value → H) : ∃ places, DataW.whole enc Tryd.prog ((laidWorld os).forCall (fun _ _ => 0) ⟨#[], #[.string ⟨#[]⟩], []⟩).memory Tryd.f3.params.toList Rows.fnExactReadDiffSpec.vars false (#[.string ⟨#[]⟩] : Array Value).toList 8 = some ([.lit (.string [])], [], places) :=
  ⟨[], by kernel_rfl⟩
set_option maxRecDepth 100000 in
theorem lifted (os : Os) (started : os.Started) (H : Type) (enc : TypeId × Value → H) (F : Stop.Interp) :
    ReturnsInHanded {} Tryd.checked os 3 .any ((OpenSpec.ofChange Rows.fnExactReadDiffSpec).preRow enc Tryd.prog Tryd.f3 Rows.fnExactReadDiffRow.domain false Rows.fnExactReadDiffRow.laid) (((OpenSpec.ofChange Rows.fnExactReadDiffSpec).at F).post enc Tryd.prog Tryd.f3 false true false false) := by
  obtain ⟨places, hx⟩ := reads os enc
  refine returnsInHanded_of_row (C := Tryd.checked) (s := OpenSpec.ofChange Rows.fnExactReadDiffSpec) own started (by kernel_rfl) Tryd.func3
    (witness_row_atRef (enc := enc) (C := Tryd.checked) false (laidWorld os) #[.string ⟨#[]⟩] rfl (by kernel_rfl) (by kernel_rfl) (by kernel_rfl)
      (OpenSpec.preRow_of_cond 8 hx (by kernel_rfl) (fun k hk => by cases hk) (by kernel_rfl) (laid_met os))) ?_
  intro W base args ds gs before hval0 hW hcnd _ hsz0 hL _ _
  have hLW := tables hL
  have hval : ∀ (j : Nat) t v, Tryd.f3.params[j]? = some t → args[j]? = some v → Value.okWide Tryd.prog W .any base t v := hval0
  have hW' := hW
  obtain ⟨p, q, hA0, hV, rfl, hfz, hnd⟩ := hW
  have hA : DataW.TrodAll enc Tryd.prog W 0 (fun _ => true) true Tryd.f3.params.toList args.toList ds p := hA0
  have hAk := hA
  rw [Tryd.params3] at hA hval
  obtain ⟨v0, vs0, d0, ds0, p0, q0, hargs, rfl, rfl, h0, r0⟩ := trodAll_cons hA
  obtain ⟨rfl, rfl, rfl⟩ := trodAll_nil r0
  obtain rfl : args = #[v0] := by cases args; simp_all
  obtain ⟨rfl, rfl⟩ := trodVars_none hV
  obtain ⟨s0, rfl⟩ := okWide_string Tryd.underlying9 (hval 0 9 v0 rfl rfl)
  obtain ⟨l0, len0, rep0⟩ := Go.AM.open_one (L := Go.AM.noL) (c := fun s : ByteArray => .v (.string s)) (by simp [Value.cells]) (Go.AM.reads_string Tryd.underlying9) h0
  clear hA0 hval0 hsz0
  refine (Go.AM.Does.law (Go.AM.d3 l0 (Go.AM.size_ok len0)) W hLW (xs := [_]) ⟨_, _, [], [], rfl, rfl, rep0, rfl, rfl⟩).mono fun e W' ⟨he, bel⟩ => ?_
  subst he
  exact ⟨_, rfl, _, _, _, [], _, [], hW', trodAll_mk1 (shut_bool Tryd.underlying4 _), Go.AM.trodAll_below bel (DataW.TrodAll.respare kids full (by rw [Tryd.params3]; decide) hAk (fun p hp => by simpa using Go.AM.trodAll_lt hAk p hp)), rfl, bel.frame _, fun h => by cases h⟩
theorem k1 : Tryd.pinned.checked.prog.funcNamed Rows.fnExactReadDiffRow.func = some 3 := by kernel_rfl
theorem k2 : Tryd.f3.isInstance Tryd.pinned.checked.prog Rows.fnExactReadDiffRow.origin Rows.fnExactReadDiffRow.targs := of_decide_eq_true (by kernel_rfl)
theorem k3 : Tryd.f3.isWrapper Tryd.pinned.checked.prog Rows.fnExactReadDiffRow.wrapper Rows.fnExactReadDiffRow.mainSum := by unfold Func.isWrapper; first | (rw [if_pos (by decide +kernel)]; kernel_rfl) | (rw [if_neg (by decide +kernel)]; exact ⟨rfl, rfl⟩)
theorem k4 : joinedFacts Tryd.pinned.checked.prog 3 Tryd.f3 Rows.fnExactReadDiffSpec Rows.fnExactReadDiffRow = true := by kernel_rfl
theorem over : Rows.FnExactReadDiffSaid :=
  OpenClaim.holds_of_cond 3 Tryd.f3 rfl rfl rfl rfl rfl rfl rfl ⟨rfl, rfl, rfl, rfl, rfl⟩ rfl rfl rfl rfl rfl k1 Tryd.func3 k4
    k2 k3
    (fun os started H enc _ F => by rw [OpenClaim.pre_eq_preRow]; exact lifted os started H enc F)
theorem plain (f : FuncId) (fn : Func) (hf : Tryd.pinned.checked.prog.funcNamed "loop.example/g00837/laws.FnExactReadDiff" = some f) (hfn : Tryd.pinned.checked.prog.funcs[f]? = some fn) :
    false = Tryd.pinned.checked.prog.looks [] ∧ ∀ (j : Nat) t, fn.params[j]? = some t → Tryd.pinned.checked.prog.wantsStandIn t = false := by
  obtain rfl : f = 3 := Option.some.inj ((show Tryd.prog.funcNamed "loop.example/g00837/laws.FnExactReadDiff" = some 3 by kernel_rfl).symm.trans hf) |>.symm
  obtain rfl : fn = Tryd.f3 := (Option.some.inj (Tryd.func3.symm.trans hfn)).symm
  refine ⟨by kernel_rfl, fun j t ht => ?_⟩
  rw [Tryd.params3] at ht
  have hall : ∀ t ∈ (Tryd.f3.params : Array TypeId), Tryd.prog.wantsStandIn t = false := by rw [Tryd.params3]; decide +kernel
  exact hall t (by rw [Tryd.params3]; exact Array.mem_of_getElem? ht)
theorem proved : Rows.FnExactReadDiffCardSaid :=
  Claim7.holds_tied_plain_at .later [] _ _ _ _ over (fun _ h => by cases h) (by kernel_rfl) (fun _ h => by cases h) fnExactReadDiff_row_tie rfl ⟨rfl, rfl⟩ (by kernel_rfl) rfl plain (by kernel_rfl)
#print axioms proved
end Go.Proofs.YtlniipooboohkaaDoor.fnExactReadDiff
namespace Go.Proofs.YtlniipooboohkaaDoor
/-- The row, under a short name, for the claim. -/
theorem fnExactReadDiff_holds : Rows.FnExactReadDiffCardSaid := fnExactReadDiff.proved
end Go.Proofs.YtlniipooboohkaaDoor
