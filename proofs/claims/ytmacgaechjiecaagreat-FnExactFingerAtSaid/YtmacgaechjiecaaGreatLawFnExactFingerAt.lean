/- The law FnExactFingerAt holds of the given program, for all arguments: the contract of its code, joined to the given row. No conditions. -/
import Derived.Test.YtmacgaechjiecaaGreatRows
import Derived.Test.YtmacgaechjiecaaGreatG5
import Derived.WalkKit
import Derived.ProofKit
import Derived.OpenShut
import Derived.ShutString
import Derived.ChangeOld
import Derived.Below
import Derived.ReadAgain
import Derived.SizedLaws
namespace Go.AM
theorem size_ok {n : Nat} (h : n ≤ maxLen) : (n : Int) ≤ 9223372036854775807 := by
  have : maxLen = 9223372036854775807 := by decide
  omega
theorem int_ok {n : Int} (h : (Lit.int .i64 n).wf = true) : -9223372036854775808 ≤ n ∧ n ≤ 9223372036854775807 := by
  have e1 : IntKind.i64.min = -9223372036854775808 := by decide
  have e2 : IntKind.i64.max = 9223372036854775807 := by decide
  simpa [Lit.wf, e1, e2] using h
theorem u8_ok {n : Int} (h : (Lit.int .u8 n).wf = true) : 0 ≤ n ∧ n ≤ 255 := by
  have e1 : IntKind.u8.min = 0 := by decide
  have e2 : IntKind.u8.max = 255 := by decide
  simpa [Lit.wf, e1, e2] using h
theorem trodAll_lt {H : Type} {enc : TypeId × Value → H} {P : Program} {w : World} {base : Nat} {spare : Nat → Bool} {held : Bool} : ∀ {ts : List TypeId} {vs : List Value} {ds : List (DataW H)} {ps : List MemPlace}, DataW.TrodAll enc P w base spare held ts vs ds ps → ∀ p ∈ ps, p.block < w.heap.size
  | [], [], [], ps, h, p, hp => by
    simp only [DataW.TrodAll] at h
    subst h; simp at hp
  | t :: ts, v :: vs, d :: ds, ps, h, p, hp => by
    obtain ⟨p1, q, h1, h2, rfl⟩ := h
    rcases List.mem_append.1 hp with hp | hp
    · obtain ⟨fuel, hf⟩ := h1
      exact DataW.trod_lt fuel t _ _ hf p hp
    · exact trodAll_lt h2 p hp
  | [], [], _ :: _, _, h, _, _ => h.elim
  | [], _ :: _, _, _, h, _, _ => h.elim
  | _ :: _, [], _, _, h, _, _ => h.elim
  | _ :: _, _ :: _, [], _, h, _, _ => h.elim
theorem row_vs {w : World} {Fz : Nat → Prop} {L : Locs} : ∀ {l : List AV} {xs : List Value}, RepRow w Fz l xs [] → RepVs w Fz L l xs []
  | [], xs, h => by
    simp only [RepRow] at h
    simp only [RepVs]
    exact h
  | d :: l, xs, h => by
    simp only [RepRow] at h
    obtain ⟨x, xs', o1, o2, rfl, ho, hc, hr⟩ := h
    obtain ⟨rfl, rfl⟩ : o1 = [] ∧ o2 = [] := by simpa using ho.symm
    simp only [RepVs]
    exact ⟨x, xs', [], [], rfl, rfl, hc.toV, row_vs hr⟩
theorem okWide_agg {P : Program} {w : World} {r : Reach} {base : Nat} {t : TypeId} {v : Value} (hu : (match P.underlying t with | some (.struct _) => true | _ => false) = true) (h : Value.okWide P w r base t v) : ∃ cs, v = .agg cs := by
  split at hu
  rotate_left
  · cases hu
  rename_i fs e
  obtain ⟨cs, h1, _⟩ := Go.WideShapes.okWide_struct e h
  exact ⟨cs, h1⟩
theorem open_agg {α : Type} {c : α → List AV} {p : α → Prop} {cs : Array Value} {H : Type} {enc : TypeId × Value → H} {P : Program} {w : World} {base : Nat} {spare : Nat → Bool} {held : Bool} {t : TypeId} {d : DataW H} {ps : List MemPlace} {L : Locs} (h : Reads enc P w base spare held t c p) (hd : DataW.Trod enc P w base spare held t (.agg cs) d ps) :
    ∃ a, p a ∧ RepV w (fun b => b < w.heap.size) L (.agg (c a)) (.agg cs) [] := by
  obtain ⟨fuel, hf⟩ := hd
  obtain ⟨a, ha, hr⟩ := h _ _ _ hf
  refine ⟨a, ha, ?_⟩
  simp only [RepV]
  refine ⟨cs.toList, by simp, ?_⟩
  have e : (Value.agg cs).cells.toList = cs.toList := rfl
  rw [e] at hr
  exact row_vs hr
end Go.AM
namespace Go.Proofs.YtmacgaechjiecaaGreat.fnExactFingerAt
open Go.ChangeShapes Go.WideShapes Go.ChangeAt Go.RowKit
open Go.ChangeMaps (open_string shut_string)
set_option linter.unusedVariables false


theorem readsStr {H : Type} {enc : TypeId × Value → H} {w : World} {base : Nat} {spare : Nat → Bool} {held : Bool} : Go.AM.Reads enc Tryz.prog w base spare held 9 Go.AM.Str.z Go.AM.Str.ok := by
  refine Go.AM.Reads.map (Go.AM.reads_string Tryz.underlying9) (fun x => Go.AM.Str.mk x) (fun _ => rfl) ?_
  rintro x w
  exact Go.AM.size_ok w

theorem readsFd {H : Type} {enc : TypeId × Value → H} {w : World} {base : Nat} {spare : Nat → Bool} {held : Bool} : Go.AM.Reads enc Tryz.prog w base spare held 244 Go.AM.Fd.z Go.AM.Fd.ok := by
  refine Go.AM.Reads.map (Go.AM.reads_struct (tys := [9, 3, 3]) (by decide +kernel) (Go.AM.seg_cons (Go.AM.reads_string Tryz.underlying9) (Go.AM.seg_cons (Go.AM.reads_int Tryz.underlying3) (Go.AM.seg_cons (Go.AM.reads_int Tryz.underlying3) Go.AM.seg_nil)))) (fun x => Go.AM.Fd.mk (x.1) (x.2.1) (x.2.2.1)) (fun _ => rfl) ?_
  rintro x w
  exact ⟨Go.AM.size_ok (w.1), ⟨(Go.AM.int_ok (w.2.1)).1, (Go.AM.int_ok (w.2.1)).2⟩, ⟨(Go.AM.int_ok (w.2.2.1)).1, (Go.AM.int_ok (w.2.2.1)).2⟩⟩

theorem readsTy {H : Type} {enc : TypeId × Value → H} {w : World} {base : Nat} {spare : Nat → Bool} {held : Bool} : Go.AM.Reads enc Tryz.prog w base spare held 167 Go.AM.Ty.z Go.AM.Ty.ok := by
  refine Go.AM.Reads.map (Go.AM.reads_struct (tys := [3, 3, 3, 165, 9, 9]) (by decide +kernel) (Go.AM.seg_cons (Go.AM.reads_int Tryz.underlying3) (Go.AM.seg_cons (Go.AM.reads_int Tryz.underlying3) (Go.AM.seg_cons (Go.AM.reads_int Tryz.underlying3) (Go.AM.seg_cons (Go.AM.reads_slice Tryz.underlying165 readsFd (sz := 3) (by decide +kernel) (by decide) (fun _ => rfl)) (Go.AM.seg_cons (Go.AM.reads_string Tryz.underlying9) (Go.AM.seg_cons (Go.AM.reads_string Tryz.underlying9) Go.AM.seg_nil))))))) (fun x => Go.AM.Ty.mk (x.1) (x.2.1) (x.2.2.1) (x.2.2.2.1) (x.2.2.2.2.1) (x.2.2.2.2.2.1)) (fun _ => rfl) ?_
  rintro x w
  exact ⟨⟨(Go.AM.int_ok (w.1)).1, (Go.AM.int_ok (w.1)).2⟩, ⟨(Go.AM.int_ok (w.2.1)).1, (Go.AM.int_ok (w.2.1)).2⟩, ⟨(Go.AM.int_ok (w.2.2.1)).1, (Go.AM.int_ok (w.2.2.1)).2⟩, ⟨Go.AM.size_ok (w.2.2.2.1).2, (w.2.2.2.1).1⟩, Go.AM.size_ok (w.2.2.2.2.1), Go.AM.size_ok (w.2.2.2.2.2.1)⟩

theorem readsPar {H : Type} {enc : TypeId × Value → H} {w : World} {base : Nat} {spare : Nat → Bool} {held : Bool} : Go.AM.Reads enc Tryz.prog w base spare held 246 Go.AM.Par.z Go.AM.Par.ok := by
  refine Go.AM.Reads.map (Go.AM.reads_struct (tys := [9, 4, 3]) (by decide +kernel) (Go.AM.seg_cons (Go.AM.reads_string Tryz.underlying9) (Go.AM.seg_cons (Go.AM.reads_bool Tryz.underlying4) (Go.AM.seg_cons (Go.AM.reads_int Tryz.underlying3) Go.AM.seg_nil)))) (fun x => Go.AM.Par.mk (x.1) (x.2.1) (x.2.2.1)) (fun _ => rfl) ?_
  rintro x w
  exact ⟨Go.AM.size_ok (w.1), trivial, ⟨(Go.AM.int_ok (w.2.2.1)).1, (Go.AM.int_ok (w.2.2.1)).2⟩⟩

theorem readsOb {H : Type} {enc : TypeId × Value → H} {w : World} {base : Nat} {spare : Nat → Bool} {held : Bool} : Go.AM.Reads enc Tryz.prog w base spare held 171 Go.AM.Ob.z Go.AM.Ob.ok := by
  refine Go.AM.Reads.map (Go.AM.reads_struct (tys := [9, 3, 3, 3, 3, 169]) (by decide +kernel) (Go.AM.seg_cons (Go.AM.reads_string Tryz.underlying9) (Go.AM.seg_cons (Go.AM.reads_int Tryz.underlying3) (Go.AM.seg_cons (Go.AM.reads_int Tryz.underlying3) (Go.AM.seg_cons (Go.AM.reads_int Tryz.underlying3) (Go.AM.seg_cons (Go.AM.reads_int Tryz.underlying3) (Go.AM.seg_cons (Go.AM.reads_slice Tryz.underlying169 readsPar (sz := 3) (by decide +kernel) (by decide) (fun _ => rfl)) Go.AM.seg_nil))))))) (fun x => Go.AM.Ob.mk (x.1) (x.2.1) (x.2.2.1) (x.2.2.2.1) (x.2.2.2.2.1) (x.2.2.2.2.2.1)) (fun _ => rfl) ?_
  rintro x w
  exact ⟨Go.AM.size_ok (w.1), ⟨(Go.AM.int_ok (w.2.1)).1, (Go.AM.int_ok (w.2.1)).2⟩, ⟨(Go.AM.int_ok (w.2.2.1)).1, (Go.AM.int_ok (w.2.2.1)).2⟩, ⟨(Go.AM.int_ok (w.2.2.2.1)).1, (Go.AM.int_ok (w.2.2.2.1)).2⟩, ⟨(Go.AM.int_ok (w.2.2.2.2.1)).1, (Go.AM.int_ok (w.2.2.2.2.1)).2⟩, ⟨Go.AM.size_ok (w.2.2.2.2.2.1).2, (w.2.2.2.2.2.1).1⟩⟩

theorem readsUs {H : Type} {enc : TypeId × Value → H} {w : World} {base : Nat} {spare : Nat → Bool} {held : Bool} : Go.AM.Reads enc Tryz.prog w base spare held 173 Go.AM.Us.z Go.AM.Us.ok := by
  refine Go.AM.Reads.map (Go.AM.reads_struct (tys := [9, 9]) (by decide +kernel) (Go.AM.seg_cons (Go.AM.reads_string Tryz.underlying9) (Go.AM.seg_cons (Go.AM.reads_string Tryz.underlying9) Go.AM.seg_nil))) (fun x => Go.AM.Us.mk (x.1) (x.2.1)) (fun _ => rfl) ?_
  rintro x w
  exact ⟨Go.AM.size_ok (w.1), Go.AM.size_ok (w.2.1)⟩

theorem readsScope {H : Type} {enc : TypeId × Value → H} {w : World} {base : Nat} {spare : Nat → Bool} {held : Bool} : Go.AM.Reads enc Tryz.prog w base spare held 59 Go.AM.Scope.z Go.AM.Scope.ok := by
  refine Go.AM.Reads.map (Go.AM.reads_struct (tys := [9, 41, 55, 56, 57]) (by decide +kernel) (Go.AM.seg_cons (Go.AM.reads_string Tryz.underlying9) (Go.AM.seg_cons (Go.AM.reads_slice Tryz.underlying41 readsStr (sz := 1) (by decide +kernel) (by decide) (fun _ => rfl)) (Go.AM.seg_cons (Go.AM.reads_slice Tryz.underlying55 readsTy (sz := 6) (by decide +kernel) (by decide) (fun _ => rfl)) (Go.AM.seg_cons (Go.AM.reads_slice Tryz.underlying56 readsOb (sz := 6) (by decide +kernel) (by decide) (fun _ => rfl)) (Go.AM.seg_cons (Go.AM.reads_slice Tryz.underlying57 readsUs (sz := 2) (by decide +kernel) (by decide) (fun _ => rfl)) Go.AM.seg_nil)))))) (fun x => Go.AM.Scope.mk (x.1) (x.2.1) (x.2.2.1) (x.2.2.2.1) (x.2.2.2.2.1)) (fun _ => rfl) ?_
  rintro x w
  exact ⟨Go.AM.size_ok (w.1), ⟨Go.AM.size_ok (w.2.1).2, (w.2.1).1⟩, ⟨Go.AM.size_ok (w.2.2.1).2, (w.2.2.1).1⟩, ⟨Go.AM.size_ok (w.2.2.2.1).2, (w.2.2.2.1).1⟩, ⟨Go.AM.size_ok (w.2.2.2.2.1).2, (w.2.2.2.2.1).1⟩⟩

theorem kids : Kids Tryz.prog (· < Tryz.prog.types.size) := kids_rows (by kernel_rfl) (by kernel_rfl)
theorem full : ∀ t e, t < Tryz.prog.types.size → Tryz.prog.underlying t = some (.slice e) → 0 < Tryz.prog.cellsOf e := slices_full_of Tryz.prog (by kernel_rfl)
theorem own : ownKnob Tryz.prog.godebug = none := by kernel_rfl
set_option maxRecDepth 100000 in
theorem lifted (os : Os) (started : os.Started) (H : Type) (enc : TypeId × Value → H) :
    ReturnsInHanded {} Tryz.checked os 9 .any (Rows.fnExactFingerAtSpec.pre6 enc Tryz.prog Tryz.f9 Rows.fnExactFingerAtRow.domain false) (Rows.fnExactFingerAtSpec.post enc Tryz.prog Tryz.f9 false true false false) := by
  refine returnsInHanded_of_change_sized (C := Tryz.checked) own started (by kernel_rfl) Tryz.func9
    (ChangeSpec.witness6 (enc := enc) (C := Tryz.checked) false ⟨#[], #[.agg #[.string ⟨#[]⟩, .slice none 0 0, .slice none 0 0, .slice none 0 0, .slice none 0 0], .string ⟨#[]⟩], []⟩ 8 (by kernel_rfl) (by kernel_rfl) (by kernel_rfl) (by kernel_rfl)) ?_
  intro W base args ds gs before hval0 hW hcnd hsz0 _
  have hval : ∀ (j : Nat) t v, Tryz.f9.params[j]? = some t → args[j]? = some v → Value.okWide Tryz.prog W .any base t v := hval0
  have hW' := hW
  obtain ⟨p, q, hA0, hV, rfl, hfz, hnd⟩ := hW
  have hA : DataW.TrodAll enc Tryz.prog W 0 (fun _ => true) true Tryz.f9.params.toList args.toList ds p := hA0
  have hAk := hA
  rw [Tryz.params9] at hA hval
  obtain ⟨v0, vs0, d0, ds0, p0, q0, hargs, rfl, rfl, h0, r0⟩ := trodAll_cons hA
  obtain ⟨v1, vs1, d1, ds1, p1, q1, rfl, rfl, rfl, h1, r1⟩ := trodAll_cons r0
  obtain ⟨rfl, rfl, rfl⟩ := trodAll_nil r1
  obtain rfl : args = #[v0, v1] := by cases args; simp_all
  obtain ⟨rfl, rfl⟩ := trodVars_none hV
  obtain ⟨c0, rfl⟩ := Go.AM.okWide_agg (by kernel_rfl) (hval 0 59 v0 rfl rfl)
  obtain ⟨l0, ok0, rep0⟩ := Go.AM.open_agg (L := Go.AM.noL) readsScope h0
  obtain ⟨s1, rfl⟩ := okWide_string Tryz.underlying9 (hval 1 9 v1 rfl rfl)
  obtain ⟨l1, len1, rep1⟩ := Go.AM.open_one (L := Go.AM.noL) (c := fun s : ByteArray => .v (.string s)) (by simp [Value.cells]) (Go.AM.reads_string Tryz.underlying9) h1
  clear hA0 hval0 hsz0
  refine (Go.AM.Does.law (Go.AM.d9 l0 l1 ok0 (Go.AM.size_ok len1)) W (xs := [_, _]) ⟨_, _, [], [], rfl, rfl, rep0, ⟨_, _, [], [], rfl, rfl, rep1, rfl, rfl⟩⟩).mono fun e W' ⟨he, bel⟩ => ?_
  subst he
  exact ⟨_, rfl, _, _, _, [], _, [], hW', trodAll_mk1 (shut_bool Tryz.underlying4 _), Go.AM.trodAll_below bel (DataW.TrodAll.respare kids full (by rw [Tryz.params9]; decide) hAk (fun p hp => by simpa using Go.AM.trodAll_lt hAk p hp)), rfl, bel.frame _, fun h => by cases h⟩
theorem k1 : Tryz.pinned.checked.prog.funcNamed Rows.fnExactFingerAtRow.func = some 9 := by kernel_rfl
theorem k2 : Tryz.f9.isInstance Tryz.pinned.checked.prog Rows.fnExactFingerAtRow.origin Rows.fnExactFingerAtRow.targs := of_decide_eq_true (by kernel_rfl)
theorem k3 : Tryz.f9.isWrapper Tryz.pinned.checked.prog Rows.fnExactFingerAtRow.wrapper Rows.fnExactFingerAtRow.mainSum := by unfold Func.isWrapper; first | (rw [if_pos (by decide +kernel)]; kernel_rfl) | (rw [if_neg (by decide +kernel)]; exact ⟨rfl, rfl⟩)
theorem k4 : joinedFacts Tryz.pinned.checked.prog 9 Tryz.f9 Rows.fnExactFingerAtSpec Rows.fnExactFingerAtRow = true := by kernel_rfl
theorem over : Rows.fnExactFingerAtRow.holds Tryz.pinned (OpenSpec.ofChange Rows.fnExactFingerAtSpec) :=
  OpenClaim.holds_of_wide 9 Tryz.f9 rfl rfl rfl rfl rfl rfl rfl ⟨rfl, rfl, rfl, rfl, rfl⟩ rfl rfl rfl rfl rfl k1 Tryz.func9 k4 k2 k3
    (fun os started H enc _ => lifted os started H enc)
theorem proved : Rows.FnExactFingerAtSaid := over
#print axioms proved
end Go.Proofs.YtmacgaechjiecaaGreat.fnExactFingerAt
namespace Go.Proofs.YtmacgaechjiecaaGreat
/-- The row, under a short name, for the claim. -/
theorem fnExactFingerAt_holds : Rows.FnExactFingerAtSaid := fnExactFingerAt.proved
end Go.Proofs.YtmacgaechjiecaaGreat
