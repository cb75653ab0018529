/- The law FnDiffTexts holds of the given program, for all arguments: the contract of its code, joined to the given row. No conditions. -/
import Derived.Test.YtlniipooboohkaaDoorCards
import Derived.Test.YtlniipooboohkaaDoorTie
import Derived.Deep.DeepHandedRow
import Derived.Deep.DeepWitnessRowRef
import Derived.Lib.LaidU8
import Derived.Test.YtlniipooboohkaaDoorG2
import Derived.WalkKit
import Derived.ProofKit
import Derived.OpenShut
import Derived.ShutString
import Derived.ChangeOld
import Derived.Below
import Derived.ReadAgain
import Derived.SizedLaws
namespace Go.AM
theorem size_ok {n : Nat} (h : n ≤ maxLen) : (n : Int) ≤ 9223372036854775807 := by
  have : maxLen = 9223372036854775807 := by decide
  omega
theorem int_ok {n : Int} (h : (Lit.int .i64 n).wf = true) : -9223372036854775808 ≤ n ∧ n ≤ 9223372036854775807 := by
  have e1 : IntKind.i64.min = -9223372036854775808 := by decide
  have e2 : IntKind.i64.max = 9223372036854775807 := by decide
  simpa [Lit.wf, e1, e2] using h
theorem u8_ok {n : Int} (h : (Lit.int .u8 n).wf = true) : 0 ≤ n ∧ n ≤ 255 := by
  have e1 : IntKind.u8.min = 0 := by decide
  have e2 : IntKind.u8.max = 255 := by decide
  simpa [Lit.wf, e1, e2] using h
theorem trodAll_lt {H : Type} {enc : TypeId × Value → H} {P : Program} {w : World} {base : Nat} {spare : Nat → Bool} {held : Bool} : ∀ {ts : List TypeId} {vs : List Value} {ds : List (DataW H)} {ps : List MemPlace}, DataW.TrodAll enc P w base spare held ts vs ds ps → ∀ p ∈ ps, p.block < w.heap.size
  | [], [], [], ps, h, p, hp => by
    simp only [DataW.TrodAll] at h
    subst h; simp at hp
  | t :: ts, v :: vs, d :: ds, ps, h, p, hp => by
    obtain ⟨p1, q, h1, h2, rfl⟩ := h
    rcases List.mem_append.1 hp with hp | hp
    · obtain ⟨fuel, hf⟩ := h1
      exact DataW.trod_lt fuel t _ _ hf p hp
    · exact trodAll_lt h2 p hp
  | [], [], _ :: _, _, h, _, _ => h.elim
  | [], _ :: _, _, _, h, _, _ => h.elim
  | _ :: _, [], _, _, h, _, _ => h.elim
  | _ :: _, _ :: _, [], _, h, _, _ => h.elim
end Go.AM
namespace Go.Proofs.YtlniipooboohkaaDoor.fnDiffTexts
open Go.ChangeShapes Go.WideShapes Go.ChangeAt Go.RowKit
open Go.ChangeMaps (open_string shut_string)
set_option linter.unusedVariables false


theorem kids : Kids Tryd.prog (· < Tryd.prog.types.size) := kids_rows (by kernel_rfl) (by kernel_rfl)
theorem full : ∀ t e, t < Tryd.prog.types.size → Tryd.prog.underlying t = some (.slice e) → 0 < Tryd.prog.cellsOf e := slices_full_of Tryd.prog (by kernel_rfl)
theorem own : ownKnob Tryd.prog.godebug = none := by kernel_rfl

theorem wd : (Rows.laid_unicode_White_Space : DataW Unit) = Lib.whiteData := by kernel_rfl
theorem sd : (Rows.laid_strings_asciiSpace : DataW Unit) = Lib.tabData .u8 Lib.asciiSpaceTab := by kernel_rfl
theorem spTy : (Tryd.prog.globals[Tryd.laysFields_ren.g 0]?).map (·.type) = some (Tryd.laysFields_ren.t 119) := by kernel_rfl
theorem spC5 : Tryd.prog.cellsOf (Tryd.laysFields_ren.t 5) = 1 := by kernel_rfl
theorem spC119 : Tryd.prog.cellsOf (Tryd.laysFields_ren.t 119) = 256 := by kernel_rfl
theorem spAt : ∀ c : Nat, c < 256 → (Lib.asciiSpaceTab.map fun z => Value.int .u8 z)[c]? = some (.int .u8 (if c = 9 ∨ c = 10 ∨ c = 11 ∨ c = 12 ∨ c = 13 ∨ c = 32 then 1 else 0)) := by
  intro c hc
  have h := Lib.asciiSpaceTab_at c hc
  have hl : c < Lib.asciiSpaceTab.length := by rw [Lib.asciiSpaceTab_length]; exact hc
  rw [List.getElem?_map, List.getElem?_eq_getElem hl, Option.map_some]
  rw [List.getD_eq_getElem?_getD, List.getElem?_eq_getElem hl] at h
  have h2 : ∀ c : Nat, c < 256 → (if Lib.isSp (UInt8.ofNat c) then (1 : Int) else 0) = if c = 9 ∨ c = 10 ∨ c = 11 ∨ c = 12 ∨ c = 13 ∨ c = 32 then 1 else 0 := by decide +kernel
  rw [← h2 c hc, ← h]
  rfl
theorem whAt : ∀ i : Nat, i < 21 → ((Lib.whiteT.getD i 0 : Nat) : Int) = Go.AM.whites.getD i 0 := by decide
theorem whX : WhiteExtra Tryd.prog Tryd.laysFields_ren := ⟨by kernel_rfl, by kernel_rfl, by kernel_rfl, by kernel_rfl, by kernel_rfl, by kernel_rfl, by kernel_rfl, by kernel_rfl⟩
/-- What the row lists, as the walks want it. -/
theorem tables {W : World} (hL : laidMetH Tryd.prog Rows.fnDiffTextsRow.laid W) : Go.AM.LaidW Tryd.prog W := by
  constructor
  · intro g hg c hc
    obtain ⟨g', t, cs, fuel, p, hg', hty, hvar, hd⟩ := Lib.laidMet.reads hL (.tail _ (.head _))
    obtain rfl := Option.some.inj (hg.symm.trans hg')
    obtain rfl := Option.some.inj (Tryd.fieldsG0.symm.trans hg)
    obtain rfl := Option.some.inj (spTy.symm.trans hty)
    rw [sd] at hd
    have hcs := Lib.cells_of_tab Tryd.laysFields.t119 Tryd.laysFields.t5 spC5 spC119 hd
    rw [World.var?_cell hg hvar c, ← Array.getElem?_toList, hcs]
    exact spAt c hc
  · intro g hg
    obtain rfl := Option.some.inj (Tryd.fieldsG6.symm.trans hg)
    have h := Lib.laidMet.reads hL (.head _)
    rw [wd] at h
    obtain ⟨T, oT, R, oR, h1, h2, h3, h4, h5⟩ := whiteTab_of_reads { Tryd.laysFields with } whX h
    exact ⟨T, oT, R, oR, h1, h2, h3, h4, fun i hi => by rw [← whAt i hi]; exact h5 i hi⟩
/-- A world for the witness: the tables as they are laid. -/
noncomputable def laidWorld (os : Os) : World :=
  let N := (World.settled Tryd.prog os).heap.size
  let w0 := World.holding Tryd.prog os ⟨#[.cells (Lib.whiteT.map fun (z : Nat) => Value.int .u16 (z : Int)).toArray (Tryd.laysFields_ren.t 198), .cells #[.slice (some ⟨N, 0, none⟩) 7 7, .slice none 0 0, .int .i64 2] (Tryd.laysFields_ren.t 196)], #[], []⟩
  let put (h : Array Obj) (g : Nat) (cs : Array Value) : Array Obj := h.modify g fun
    | .cells _ t frozen => .cells cs t frozen
    | o => o
  let h1 := put w0.heap (Tryd.laysFields_ren.g 0) (Lib.asciiSpaceTab.map fun z => Value.int .u8 z).toArray
  let h2 := put h1 (Tryd.laysFields_ren.g 6) #[.pointer (some ⟨N + 1, 0, none⟩)]
  { w0 with heap := h2 }
theorem laid_met (os : Os) : laidMet Tryd.prog Rows.fnDiffTextsRow.laid ((laidWorld os).forCall (fun _ _ => 0) ⟨#[], #[.slice none 0 0, .slice none 0 0], []⟩).memory :=
  laidMet_of_run' 10 (by kernel_rfl) (by kernel_rfl)
theorem reads (os : Os) {H : Type} (enc : TypeId × Value → H) : ∃ places, DataW.whole enc Tryd.prog ((laidWorld os).forCall (fun _ _ => 0) ⟨#[], #[.slice none 0 0, .slice none 0 0], []⟩).memory Tryd.f4.params.toList Rows.fnDiffTextsSpec.vars false (#[.slice none 0 0, .slice none 0 0] : Array Value).toList 8 = some ([.nil, .nil], [], places) :=
  ⟨[], by kernel_rfl⟩
set_option maxRecDepth 100000 in
theorem lifted (os : Os) (started : os.Started) (H : Type) (enc : TypeId × Value → H) (F : Stop.Interp) :
    ReturnsInHanded {} Tryd.checked os 4 .any ((OpenSpec.ofChange Rows.fnDiffTextsSpec).preRow enc Tryd.prog Tryd.f4 Rows.fnDiffTextsRow.domain false Rows.fnDiffTextsRow.laid) (((OpenSpec.ofChange Rows.fnDiffTextsSpec).at F).post enc Tryd.prog Tryd.f4 false true false false) := by
  obtain ⟨places, hx⟩ := reads os enc
  refine returnsInHanded_of_row (C := Tryd.checked) (s := OpenSpec.ofChange Rows.fnDiffTextsSpec) own started (by kernel_rfl) Tryd.func4
    (witness_row_atRef (enc := enc) (C := Tryd.checked) false (laidWorld os) #[.slice none 0 0, .slice none 0 0] rfl (by kernel_rfl) (by kernel_rfl) (by kernel_rfl)
      (OpenSpec.preRow_of_cond 8 hx (by kernel_rfl) (fun k hk => by cases hk) (by kernel_rfl) (laid_met os))) ?_
  intro W base args ds gs before hval0 hW hcnd _ hsz0 hL _ _
  have hLW := tables hL
  have hval : ∀ (j : Nat) t v, Tryd.f4.params[j]? = some t → args[j]? = some v → Value.okWide Tryd.prog W .any base t v := hval0
  have hW' := hW
  obtain ⟨p, q, hA0, hV, rfl, hfz, hnd⟩ := hW
  have hA : DataW.TrodAll enc Tryd.prog W 0 (fun _ => true) true Tryd.f4.params.toList args.toList ds p := hA0
  have hAk := hA
  rw [Tryd.params4] at hA hval
  obtain ⟨v0, vs0, d0, ds0, p0, q0, hargs, rfl, rfl, h0, r0⟩ := trodAll_cons hA
  obtain ⟨v1, vs1, d1, ds1, p1, q1, rfl, rfl, rfl, h1, r1⟩ := trodAll_cons r0
  obtain ⟨rfl, rfl, rfl⟩ := trodAll_nil r1
  obtain rfl : args = #[v0, v1] := by cases args; simp_all
  obtain ⟨rfl, rfl⟩ := trodVars_none hV
  obtain ⟨a0, n0, c0, rfl⟩ := okWide_slice Tryd.underlying28 (hval 0 28 v0 rfl rfl)
  obtain ⟨l0, ⟨ok0, len0⟩, rep0⟩ := Go.AM.open_one (L := Go.AM.noL) (c := fun l : List Int => .fsl 1 (l.map Go.AM.bv)) (by simp [Value.cells]) (Go.AM.reads_slice (c := Go.AM.bv) Tryd.underlying28 (Go.AM.reads_int Tryd.underlying5) (sz := 1) (by decide +kernel) (by decide) (fun _ => rfl)) h0
  obtain ⟨a1, n1, c1, rfl⟩ := okWide_slice Tryd.underlying28 (hval 1 28 v1 rfl rfl)
  obtain ⟨l1, ⟨ok1, len1⟩, rep1⟩ := Go.AM.open_one (L := Go.AM.noL) (c := fun l : List Int => .fsl 1 (l.map Go.AM.bv)) (by simp [Value.cells]) (Go.AM.reads_slice (c := Go.AM.bv) Tryd.underlying28 (Go.AM.reads_int Tryd.underlying5) (sz := 1) (by decide +kernel) (by decide) (fun _ => rfl)) h1
  clear hA0 hval0 hsz0
  refine (Go.AM.Does.law (Go.AM.d4 l0 l1 (Go.AM.size_ok len0) (Go.AM.size_ok len1) (fun b hb => Go.AM.u8_ok (ok0 b hb)) (fun b hb => Go.AM.u8_ok (ok1 b hb))) W hLW (xs := [_, _]) ⟨_, _, [], [], rfl, rfl, rep0, ⟨_, _, [], [], rfl, rfl, rep1, rfl, rfl⟩⟩).mono fun e W' ⟨he, bel⟩ => ?_
  subst he
  exact ⟨_, rfl, _, _, _, [], _, [], hW', trodAll_mk1 (shut_bool Tryd.underlying4 _), Go.AM.trodAll_below bel (DataW.TrodAll.respare kids full (by rw [Tryd.params4]; decide) hAk (fun p hp => by simpa using Go.AM.trodAll_lt hAk p hp)), rfl, bel.frame _, fun h => by cases h⟩
theorem k1 : Tryd.pinned.checked.prog.funcNamed Rows.fnDiffTextsRow.func = some 4 := by kernel_rfl
theorem k2 : Tryd.f4.isInstance Tryd.pinned.checked.prog Rows.fnDiffTextsRow.origin Rows.fnDiffTextsRow.targs := of_decide_eq_true (by kernel_rfl)
theorem k3 : Tryd.f4.isWrapper Tryd.pinned.checked.prog Rows.fnDiffTextsRow.wrapper Rows.fnDiffTextsRow.mainSum := by unfold Func.isWrapper; first | (rw [if_pos (by decide +kernel)]; kernel_rfl) | (rw [if_neg (by decide +kernel)]; exact ⟨rfl, rfl⟩)
theorem k4 : joinedFacts Tryd.pinned.checked.prog 4 Tryd.f4 Rows.fnDiffTextsSpec Rows.fnDiffTextsRow = true := by kernel_rfl
theorem over : Rows.FnDiffTextsSaid :=
  OpenClaim.holds_of_cond 4 Tryd.f4 rfl rfl rfl rfl rfl rfl rfl ⟨rfl, rfl, rfl, rfl, rfl⟩ rfl rfl rfl rfl rfl k1 Tryd.func4 k4
    k2 k3
    (fun os started H enc _ F => by rw [OpenClaim.pre_eq_preRow]; exact lifted os started H enc F)
theorem plain (f : FuncId) (fn : Func) (hf : Tryd.pinned.checked.prog.funcNamed "loop.example/g00837/laws.FnDiffTexts" = some f) (hfn : Tryd.pinned.checked.prog.funcs[f]? = some fn) :
    false = Tryd.pinned.checked.prog.looks [] ∧ ∀ (j : Nat) t, fn.params[j]? = some t → Tryd.pinned.checked.prog.wantsStandIn t = false := by
  obtain rfl : f = 4 := Option.some.inj ((show Tryd.prog.funcNamed "loop.example/g00837/laws.FnDiffTexts" = some 4 by kernel_rfl).symm.trans hf) |>.symm
  obtain rfl : fn = Tryd.f4 := (Option.some.inj (Tryd.func4.symm.trans hfn)).symm
  refine ⟨by kernel_rfl, fun j t ht => ?_⟩
  rw [Tryd.params4] at ht
  have hall : ∀ t ∈ (Tryd.f4.params : Array TypeId), Tryd.prog.wantsStandIn t = false := by rw [Tryd.params4]; decide +kernel
  exact hall t (by rw [Tryd.params4]; exact Array.mem_of_getElem? ht)
theorem proved : Rows.FnDiffTextsCardSaid :=
  Claim7.holds_tied_plain_at .later [] _ _ _ _ over (fun _ h => by cases h) (by kernel_rfl) (fun _ h => by cases h) fnDiffTexts_row_tie rfl ⟨rfl, rfl⟩ (by kernel_rfl) rfl plain (by kernel_rfl)
#print axioms proved
end Go.Proofs.YtlniipooboohkaaDoor.fnDiffTexts
namespace Go.Proofs.YtlniipooboohkaaDoor
/-- The row, under a short name, for the claim. -/
theorem fnDiffTexts_holds : Rows.FnDiffTextsCardSaid := fnDiffTexts.proved
end Go.Proofs.YtlniipooboohkaaDoor
