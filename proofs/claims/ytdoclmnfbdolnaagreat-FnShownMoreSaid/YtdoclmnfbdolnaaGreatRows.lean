/-
  No cell of these rows narrows 'for every input' (looked for: loops, veiled, ifaces, maps, wideKeys, modest, calm, conditions, laid).
  DERIVED. THE GIVEN ROWS OF THIS SEAT. 7 by the template 'for every input the law returns true; each argument reads behind the call as it read before'; 0 by the template 'total and deterministic' (their statements: YtdoclmnfbdolnaaGreatTotals.lean).
  GIVEN WITH THE SEED: the statements are not yours to turn. If you find one false, say at which input.
  Laid BY PROGRAM, IN A SANDBOX (cutbox-rows.mjs): the forced cells as the released guide's own fill.sh prints them over the translation b66d62857f8991eb… (all of the seat's roots in one cut). By AI agents, Wed Nov 11 2026. No macro, syntax, notation, axiom, sorry.
-/
import Derived.Test.YtdoclmnfbdolnaaGreatChecked
import GoSem.Claim
import GoSem.ClaimJoined
import GoSem.ClaimMapViews
import Derived.JoinedTies
import Derived.KernelRfl
namespace Go.Proofs.YtdoclmnfbdolnaaGreat
/- THE CELL 'sum', in the pinned program and in every row, IS THE sha256 OF THE DUMP (.gsa) THAT YtdoclmnfbdolnaaGreatProg.lean LOADS. Nothing in Lean hashes anything: it is a label: what it is worth is what the hold of that sum in a sandbox is worth. -/
noncomputable def Tryz.pinned : Pinned := { name := "ytdoclmnfbdolnaagreat", sum := "b66d62857f8991ebd7f36aa9bffbb806a8e385252ee82acf5170e8c78c580f1f", checked := Tryz.checked }
namespace Rows
def none {H : Type} : Left H := { results := [], args := [] }

/-- 'laws.FnExactGoodStore': WHATEVER THE INPUT: true; the input reads as it did. -/
def fnExactGoodStoreSpec : ChangeSpec := { name := "fnExactGoodStore", fn := fun _ => fun
  | [d] => { results := [.lit (.bool true)], args := [d] }
  | _ => none }
def fnExactGoodStoreRow : OpenClaim := { program := "ytdoclmnfbdolnaagreat", sum := "b66d62857f8991ebd7f36aa9bffbb806a8e385252ee82acf5170e8c78c580f1f", func := "loop.example/g00837/laws.FnExactGoodStore", spec := "fnExactGoodStore", unfollowed := true, recurses := true, plainKeys := false, apart := false }
def FnExactGoodStoreSaid : Prop := fnExactGoodStoreRow.holds Tryz.pinned (OpenSpec.ofChange fnExactGoodStoreSpec)

/-- ITS FALSE NEIGHBOUR: 'it returns false'. Refute it at one input. -/
def fnExactGoodStoreWrong : ChangeSpec := { name := "fnExactGoodStore", fn := fun _ => fun
  | [d] => { results := [.lit (.bool false)], args := [d] }
  | _ => none }
def FnExactGoodStoreWrongFalsely : Prop := fnExactGoodStoreRow.holds Tryz.pinned (OpenSpec.ofChange fnExactGoodStoreWrong)

/-- 'laws.FnExactMustCompile': WHATEVER THE INPUT: true; the input reads as it did. -/
def fnExactMustCompileSpec : ChangeSpec := { name := "fnExactMustCompile", fn := fun _ => fun
  | [d1, d2] => { results := [.lit (.bool true)], args := [d1, d2] }
  | _ => none }
def fnExactMustCompileRow : OpenClaim := { program := "ytdoclmnfbdolnaagreat", sum := "b66d62857f8991ebd7f36aa9bffbb806a8e385252ee82acf5170e8c78c580f1f", func := "loop.example/g00837/laws.FnExactMustCompile", spec := "fnExactMustCompile", unfollowed := true, recurses := true, plainKeys := false, apart := false }
def FnExactMustCompileSaid : Prop := fnExactMustCompileRow.holds Tryz.pinned (OpenSpec.ofChange fnExactMustCompileSpec)

/-- ITS FALSE NEIGHBOUR: 'it returns false'. Refute it at one input. -/
def fnExactMustCompileWrong : ChangeSpec := { name := "fnExactMustCompile", fn := fun _ => fun
  | [d1, d2] => { results := [.lit (.bool false)], args := [d1, d2] }
  | _ => none }
def FnExactMustCompileWrongFalsely : Prop := fnExactMustCompileRow.holds Tryz.pinned (OpenSpec.ofChange fnExactMustCompileWrong)

/-- 'laws.FnWider': WHATEVER THE INPUT: true; the input reads as it did. -/
def fnWiderSpec : ChangeSpec := { name := "fnWider", fn := fun _ => fun
  | [d1, d2] => { results := [.lit (.bool true)], args := [d1, d2] }
  | _ => none }
def fnWiderRow : OpenClaim := { program := "ytdoclmnfbdolnaagreat", sum := "b66d62857f8991ebd7f36aa9bffbb806a8e385252ee82acf5170e8c78c580f1f", func := "loop.example/g00837/laws.FnWider", spec := "fnWider", unfollowed := true, recurses := true, plainKeys := false, apart := false }
def FnWiderSaid : Prop := fnWiderRow.holds Tryz.pinned (OpenSpec.ofChange fnWiderSpec)

/-- ITS FALSE NEIGHBOUR: 'it returns false'. Refute it at one input. -/
def fnWiderWrong : ChangeSpec := { name := "fnWider", fn := fun _ => fun
  | [d1, d2] => { results := [.lit (.bool false)], args := [d1, d2] }
  | _ => none }
def FnWiderWrongFalsely : Prop := fnWiderRow.holds Tryz.pinned (OpenSpec.ofChange fnWiderWrong)

/-- 'laws.FnShownMore': WHATEVER THE INPUT: true; the input reads as it did. -/
def fnShownMoreSpec : ChangeSpec := { name := "fnShownMore", fn := fun _ => fun
  | [d1, d2] => { results := [.lit (.bool true)], args := [d1, d2] }
  | _ => none }
def fnShownMoreRow : OpenClaim := { program := "ytdoclmnfbdolnaagreat", sum := "b66d62857f8991ebd7f36aa9bffbb806a8e385252ee82acf5170e8c78c580f1f", func := "loop.example/g00837/laws.FnShownMore", spec := "fnShownMore", unfollowed := true, recurses := true, plainKeys := false, apart := false }
def FnShownMoreSaid : Prop := fnShownMoreRow.holds Tryz.pinned (OpenSpec.ofChange fnShownMoreSpec)

/-- ITS FALSE NEIGHBOUR: 'it returns false'. Refute it at one input. -/
def fnShownMoreWrong : ChangeSpec := { name := "fnShownMore", fn := fun _ => fun
  | [d1, d2] => { results := [.lit (.bool false)], args := [d1, d2] }
  | _ => none }
def FnShownMoreWrongFalsely : Prop := fnShownMoreRow.holds Tryz.pinned (OpenSpec.ofChange fnShownMoreWrong)

/-- 'laws.FnSame': WHATEVER THE INPUT: true; the input reads as it did. -/
def fnSameSpec : ChangeSpec := { name := "fnSame", fn := fun _ => fun
  | [d1, d2] => { results := [.lit (.bool true)], args := [d1, d2] }
  | _ => none }
def fnSameRow : OpenClaim := { program := "ytdoclmnfbdolnaagreat", sum := "b66d62857f8991ebd7f36aa9bffbb806a8e385252ee82acf5170e8c78c580f1f", func := "loop.example/g00837/laws.FnSame", spec := "fnSame", unfollowed := true, recurses := true, plainKeys := false, apart := false }
def FnSameSaid : Prop := fnSameRow.holds Tryz.pinned (OpenSpec.ofChange fnSameSpec)

/-- ITS FALSE NEIGHBOUR: 'it returns false'. Refute it at one input. -/
def fnSameWrong : ChangeSpec := { name := "fnSame", fn := fun _ => fun
  | [d1, d2] => { results := [.lit (.bool false)], args := [d1, d2] }
  | _ => none }
def FnSameWrongFalsely : Prop := fnSameRow.holds Tryz.pinned (OpenSpec.ofChange fnSameWrong)

/-- 'laws.FnDiffs': WHATEVER THE INPUT: true; the input reads as it did. -/
def fnDiffsSpec : ChangeSpec := { name := "fnDiffs", fn := fun _ => fun
  | [d1, d2] => { results := [.lit (.bool true)], args := [d1, d2] }
  | _ => none }
def fnDiffsRow : OpenClaim := { program := "ytdoclmnfbdolnaagreat", sum := "b66d62857f8991ebd7f36aa9bffbb806a8e385252ee82acf5170e8c78c580f1f", func := "loop.example/g00837/laws.FnDiffs", spec := "fnDiffs", unfollowed := true, recurses := true, plainKeys := false, apart := false }
def FnDiffsSaid : Prop := fnDiffsRow.holds Tryz.pinned (OpenSpec.ofChange fnDiffsSpec)

/-- ITS FALSE NEIGHBOUR: 'it returns false'. Refute it at one input. -/
def fnDiffsWrong : ChangeSpec := { name := "fnDiffs", fn := fun _ => fun
  | [d1, d2] => { results := [.lit (.bool false)], args := [d1, d2] }
  | _ => none }
def FnDiffsWrongFalsely : Prop := fnDiffsRow.holds Tryz.pinned (OpenSpec.ofChange fnDiffsWrong)

/-- 'laws.FnHidden': WHATEVER THE INPUT: true; the input reads as it did. -/
def fnHiddenSpec : ChangeSpec := { name := "fnHidden", fn := fun _ => fun
  | [d1, d2] => { results := [.lit (.bool true)], args := [d1, d2] }
  | _ => none }
def fnHiddenRow : OpenClaim := { program := "ytdoclmnfbdolnaagreat", sum := "b66d62857f8991ebd7f36aa9bffbb806a8e385252ee82acf5170e8c78c580f1f", func := "loop.example/g00837/laws.FnHidden", spec := "fnHidden", unfollowed := true, recurses := true, plainKeys := false, apart := false }
def FnHiddenSaid : Prop := fnHiddenRow.holds Tryz.pinned (OpenSpec.ofChange fnHiddenSpec)

/-- ITS FALSE NEIGHBOUR: 'it returns false'. Refute it at one input. -/
def fnHiddenWrong : ChangeSpec := { name := "fnHidden", fn := fun _ => fun
  | [d1, d2] => { results := [.lit (.bool false)], args := [d1, d2] }
  | _ => none }
def FnHiddenWrongFalsely : Prop := fnHiddenRow.holds Tryz.pinned (OpenSpec.ofChange fnHiddenWrong)

/- THE SECOND FORM. 'bulk': how many values and letters a reading holds, each counted each time it is reached (what is shared counts as often as it is met; a slice's spare places count too). A statement '..UptoSaid' is the law's where the arguments, and the package variables that the reading takes, are together of bulk at most 1048576: NARROWER than '..Said'. Prove '..Said' where nothing that the law and all that it calls make is longer than what came in: it says more and counts as full. Else prove '..UptoSaid'. A law counts once. -/
mutual
def uptoBulk {H : Type} : DataW H → Nat
  | .lit (.string bytes) => bytes.length + 1
  | .lit _ => 1
  | .nil => 1
  | .ptr d => uptoBulk d + 1
  | .slice elems spare => uptoBulkAll elems + uptoBulkAll spare + 1
  | .agg parts => uptoBulkAll parts + 1
  | .iface _ d => uptoBulk d + 1
  | .map entries => uptoBulkEntries entries + 1
  | .held _ => 1
def uptoBulkAll {H : Type} : List (DataW H) → Nat
  | [] => 0
  | d :: r => uptoBulk d + uptoBulkAll r
def uptoBulkEntries {H : Type} : List (Lit × DataW H) → Nat
  | [] => 0
  | x :: r => uptoBulkEntry x + uptoBulkEntries r
def uptoBulkEntry {H : Type} : Lit × DataW H → Nat
  | (.string bytes, d) => bytes.length + uptoBulk d + 1
  | (_, d) => uptoBulk d + 1
 end
def uptoSmall : (H : Type) → List (DataW H) → Bool := fun _ ds => decide (uptoBulkAll ds ≤ 1048576)
def OpenSpec.upto (s : _root_.Go.ChangeSpec) : _root_.Go.OpenSpec := { _root_.Go.OpenSpec.ofChange s with cond := some uptoSmall }

/-- 'laws.FnExactGoodStore', WHERE WHAT IT READS IS OF BULK AT MOST 1048576: true; the input reads as it did. -/
def fnExactGoodStoreUptoRow : OpenClaim := { program := "ytdoclmnfbdolnaagreat", sum := "b66d62857f8991ebd7f36aa9bffbb806a8e385252ee82acf5170e8c78c580f1f", func := "loop.example/g00837/laws.FnExactGoodStore", spec := "fnExactGoodStore", unfollowed := true, recurses := true, plainKeys := false, apart := false, narrowed := true }
def FnExactGoodStoreUptoSaid : Prop := fnExactGoodStoreUptoRow.holds Tryz.pinned (OpenSpec.upto fnExactGoodStoreSpec)

/-- 'laws.FnExactMustCompile', WHERE WHAT IT READS IS OF BULK AT MOST 1048576: true; the input reads as it did. -/
def fnExactMustCompileUptoRow : OpenClaim := { program := "ytdoclmnfbdolnaagreat", sum := "b66d62857f8991ebd7f36aa9bffbb806a8e385252ee82acf5170e8c78c580f1f", func := "loop.example/g00837/laws.FnExactMustCompile", spec := "fnExactMustCompile", unfollowed := true, recurses := true, plainKeys := false, apart := false, narrowed := true }
def FnExactMustCompileUptoSaid : Prop := fnExactMustCompileUptoRow.holds Tryz.pinned (OpenSpec.upto fnExactMustCompileSpec)

/-- 'laws.FnWider', WHERE WHAT IT READS IS OF BULK AT MOST 1048576: true; the input reads as it did. -/
def fnWiderUptoRow : OpenClaim := { program := "ytdoclmnfbdolnaagreat", sum := "b66d62857f8991ebd7f36aa9bffbb806a8e385252ee82acf5170e8c78c580f1f", func := "loop.example/g00837/laws.FnWider", spec := "fnWider", unfollowed := true, recurses := true, plainKeys := false, apart := false, narrowed := true }
def FnWiderUptoSaid : Prop := fnWiderUptoRow.holds Tryz.pinned (OpenSpec.upto fnWiderSpec)

/-- 'laws.FnShownMore', WHERE WHAT IT READS IS OF BULK AT MOST 1048576: true; the input reads as it did. -/
def fnShownMoreUptoRow : OpenClaim := { program := "ytdoclmnfbdolnaagreat", sum := "b66d62857f8991ebd7f36aa9bffbb806a8e385252ee82acf5170e8c78c580f1f", func := "loop.example/g00837/laws.FnShownMore", spec := "fnShownMore", unfollowed := true, recurses := true, plainKeys := false, apart := false, narrowed := true }
def FnShownMoreUptoSaid : Prop := fnShownMoreUptoRow.holds Tryz.pinned (OpenSpec.upto fnShownMoreSpec)

/-- 'laws.FnSame', WHERE WHAT IT READS IS OF BULK AT MOST 1048576: true; the input reads as it did. -/
def fnSameUptoRow : OpenClaim := { program := "ytdoclmnfbdolnaagreat", sum := "b66d62857f8991ebd7f36aa9bffbb806a8e385252ee82acf5170e8c78c580f1f", func := "loop.example/g00837/laws.FnSame", spec := "fnSame", unfollowed := true, recurses := true, plainKeys := false, apart := false, narrowed := true }
def FnSameUptoSaid : Prop := fnSameUptoRow.holds Tryz.pinned (OpenSpec.upto fnSameSpec)

/-- 'laws.FnDiffs', WHERE WHAT IT READS IS OF BULK AT MOST 1048576: true; the input reads as it did. -/
def fnDiffsUptoRow : OpenClaim := { program := "ytdoclmnfbdolnaagreat", sum := "b66d62857f8991ebd7f36aa9bffbb806a8e385252ee82acf5170e8c78c580f1f", func := "loop.example/g00837/laws.FnDiffs", spec := "fnDiffs", unfollowed := true, recurses := true, plainKeys := false, apart := false, narrowed := true }
def FnDiffsUptoSaid : Prop := fnDiffsUptoRow.holds Tryz.pinned (OpenSpec.upto fnDiffsSpec)

/-- 'laws.FnHidden', WHERE WHAT IT READS IS OF BULK AT MOST 1048576: true; the input reads as it did. -/
def fnHiddenUptoRow : OpenClaim := { program := "ytdoclmnfbdolnaagreat", sum := "b66d62857f8991ebd7f36aa9bffbb806a8e385252ee82acf5170e8c78c580f1f", func := "loop.example/g00837/laws.FnHidden", spec := "fnHidden", unfollowed := true, recurses := true, plainKeys := false, apart := false, narrowed := true }
def FnHiddenUptoSaid : Prop := fnHiddenUptoRow.holds Tryz.pinned (OpenSpec.upto fnHiddenSpec)

end Rows
end Go.Proofs.YtdoclmnfbdolnaaGreat
