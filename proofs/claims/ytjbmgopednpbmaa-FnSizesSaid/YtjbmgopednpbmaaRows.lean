/-
  No cell of these rows narrows 'for every input' (looked for: loops, veiled, ifaces, maps, wideKeys, modest, calm, conditions, laid).
  DERIVED. THE GIVEN ROWS OF THIS SEAT. 10 by the template 'for every input the law returns true; each argument reads behind the call as it read before'; 0 by the template 'total and deterministic' (their statements: YtjbmgopednpbmaaTotals.lean).
  GIVEN WITH THE SEED: the statements are not yours to turn. If you find one false, say at which input.
  Laid BY PROGRAM, IN A SANDBOX (cutbox-rows.mjs): the forced cells as the released guide's own fill.sh prints them over the translation b37d9866802567ac… (all of the seat's roots in one cut). By AI agents, Wed Nov 11 2026. No macro, syntax, notation, axiom, sorry.
-/
import Derived.Test.YtjbmgopednpbmaaChecked
import GoSem.Claim
import GoSem.ClaimJoined
import GoSem.ClaimMapViews
import Derived.JoinedTies
import Derived.KernelRfl
namespace Go.Proofs.Ytjbmgopednpbmaa
/- THE CELL 'sum', in the pinned program and in every row, IS THE sha256 OF THE DUMP (.gsa) THAT YtjbmgopednpbmaaProg.lean LOADS. Nothing in Lean hashes anything: it is a label: what it is worth is what the hold of that sum in a sandbox is worth. -/
noncomputable def Try.pinned : Pinned := { name := "ytjbmgopednpbmaa", sum := "b37d9866802567acea17944acb4a13931d2e5e25bf5fa4d3d6c380ef5a2c8cf9", checked := Try.checked }
namespace Rows
def none {H : Type} : Left H := { results := [], args := [] }

/-- 'laws.FnExactSameStore': WHATEVER THE INPUT: true; the input reads as it did. -/
def fnExactSameStoreSpec : ChangeSpec := { name := "fnExactSameStore", fn := fun _ => fun
  | [d1, d2] => { results := [.lit (.bool true)], args := [d1, d2] }
  | _ => none }
def fnExactSameStoreRow : OpenClaim := { program := "ytjbmgopednpbmaa", sum := "b37d9866802567acea17944acb4a13931d2e5e25bf5fa4d3d6c380ef5a2c8cf9", func := "loop.example/g00837/laws.FnExactSameStore", spec := "fnExactSameStore", unfollowed := true, recurses := true, apart := false }
def FnExactSameStoreSaid : Prop := fnExactSameStoreRow.holds Try.pinned (OpenSpec.ofChange fnExactSameStoreSpec)

/-- ITS FALSE NEIGHBOUR: 'it returns false'. Refute it at one input. -/
def fnExactSameStoreWrong : ChangeSpec := { name := "fnExactSameStore", fn := fun _ => fun
  | [d1, d2] => { results := [.lit (.bool false)], args := [d1, d2] }
  | _ => none }
def FnExactSameStoreWrongFalsely : Prop := fnExactSameStoreRow.holds Try.pinned (OpenSpec.ofChange fnExactSameStoreWrong)

/-- 'laws.FnExactRootOf': WHATEVER THE INPUT: true; the input reads as it did. -/
def fnExactRootOfSpec : ChangeSpec := { name := "fnExactRootOf", fn := fun _ => fun
  | [d1, d2] => { results := [.lit (.bool true)], args := [d1, d2] }
  | _ => none }
def fnExactRootOfRow : OpenClaim := { program := "ytjbmgopednpbmaa", sum := "b37d9866802567acea17944acb4a13931d2e5e25bf5fa4d3d6c380ef5a2c8cf9", func := "loop.example/g00837/laws.FnExactRootOf", spec := "fnExactRootOf", unfollowed := true, recurses := true, apart := false }
def FnExactRootOfSaid : Prop := fnExactRootOfRow.holds Try.pinned (OpenSpec.ofChange fnExactRootOfSpec)

/-- ITS FALSE NEIGHBOUR: 'it returns false'. Refute it at one input. -/
def fnExactRootOfWrong : ChangeSpec := { name := "fnExactRootOf", fn := fun _ => fun
  | [d1, d2] => { results := [.lit (.bool false)], args := [d1, d2] }
  | _ => none }
def FnExactRootOfWrongFalsely : Prop := fnExactRootOfRow.holds Try.pinned (OpenSpec.ofChange fnExactRootOfWrong)

/-- 'laws.FnExactDeepOf': WHATEVER THE INPUT: true; the input reads as it did. -/
def fnExactDeepOfSpec : ChangeSpec := { name := "fnExactDeepOf", fn := fun _ => fun
  | [d1, d2] => { results := [.lit (.bool true)], args := [d1, d2] }
  | _ => none }
def fnExactDeepOfRow : OpenClaim := { program := "ytjbmgopednpbmaa", sum := "b37d9866802567acea17944acb4a13931d2e5e25bf5fa4d3d6c380ef5a2c8cf9", func := "loop.example/g00837/laws.FnExactDeepOf", spec := "fnExactDeepOf", unfollowed := true, recurses := true, apart := false }
def FnExactDeepOfSaid : Prop := fnExactDeepOfRow.holds Try.pinned (OpenSpec.ofChange fnExactDeepOfSpec)

/-- ITS FALSE NEIGHBOUR: 'it returns false'. Refute it at one input. -/
def fnExactDeepOfWrong : ChangeSpec := { name := "fnExactDeepOf", fn := fun _ => fun
  | [d1, d2] => { results := [.lit (.bool false)], args := [d1, d2] }
  | _ => none }
def FnExactDeepOfWrongFalsely : Prop := fnExactDeepOfRow.holds Try.pinned (OpenSpec.ofChange fnExactDeepOfWrong)

/-- 'laws.FnExactMayPut': WHATEVER THE INPUT: true; the input reads as it did. -/
def fnExactMayPutSpec : ChangeSpec := { name := "fnExactMayPut", fn := fun _ => fun
  | [d1, d2, d3] => { results := [.lit (.bool true)], args := [d1, d2, d3] }
  | _ => none }
def fnExactMayPutRow : OpenClaim := { program := "ytjbmgopednpbmaa", sum := "b37d9866802567acea17944acb4a13931d2e5e25bf5fa4d3d6c380ef5a2c8cf9", func := "loop.example/g00837/laws.FnExactMayPut", spec := "fnExactMayPut", unfollowed := true, recurses := true, apart := false }
def FnExactMayPutSaid : Prop := fnExactMayPutRow.holds Try.pinned (OpenSpec.ofChange fnExactMayPutSpec)

/-- ITS FALSE NEIGHBOUR: 'it returns false'. Refute it at one input. -/
def fnExactMayPutWrong : ChangeSpec := { name := "fnExactMayPut", fn := fun _ => fun
  | [d1, d2, d3] => { results := [.lit (.bool false)], args := [d1, d2, d3] }
  | _ => none }
def FnExactMayPutWrongFalsely : Prop := fnExactMayPutRow.holds Try.pinned (OpenSpec.ofChange fnExactMayPutWrong)

/-- 'laws.FnExactReachedOf': WHATEVER THE INPUT: true; the input reads as it did. -/
def fnExactReachedOfSpec : ChangeSpec := { name := "fnExactReachedOf", fn := fun _ => fun
  | [d1, d2] => { results := [.lit (.bool true)], args := [d1, d2] }
  | _ => none }
def fnExactReachedOfRow : OpenClaim := { program := "ytjbmgopednpbmaa", sum := "b37d9866802567acea17944acb4a13931d2e5e25bf5fa4d3d6c380ef5a2c8cf9", func := "loop.example/g00837/laws.FnExactReachedOf", spec := "fnExactReachedOf", unfollowed := true, recurses := true, apart := false }
def FnExactReachedOfSaid : Prop := fnExactReachedOfRow.holds Try.pinned (OpenSpec.ofChange fnExactReachedOfSpec)

/-- ITS FALSE NEIGHBOUR: 'it returns false'. Refute it at one input. -/
def fnExactReachedOfWrong : ChangeSpec := { name := "fnExactReachedOf", fn := fun _ => fun
  | [d1, d2] => { results := [.lit (.bool false)], args := [d1, d2] }
  | _ => none }
def FnExactReachedOfWrongFalsely : Prop := fnExactReachedOfRow.holds Try.pinned (OpenSpec.ofChange fnExactReachedOfWrong)

/-- 'laws.FnExactAllFields': WHATEVER THE INPUT: true; the input reads as it did. -/
def fnExactAllFieldsSpec : ChangeSpec := { name := "fnExactAllFields", fn := fun _ => fun
  | [d1, d2] => { results := [.lit (.bool true)], args := [d1, d2] }
  | _ => none }
def fnExactAllFieldsRow : OpenClaim := { program := "ytjbmgopednpbmaa", sum := "b37d9866802567acea17944acb4a13931d2e5e25bf5fa4d3d6c380ef5a2c8cf9", func := "loop.example/g00837/laws.FnExactAllFields", spec := "fnExactAllFields", unfollowed := true, recurses := true, apart := false }
def FnExactAllFieldsSaid : Prop := fnExactAllFieldsRow.holds Try.pinned (OpenSpec.ofChange fnExactAllFieldsSpec)

/-- ITS FALSE NEIGHBOUR: 'it returns false'. Refute it at one input. -/
def fnExactAllFieldsWrong : ChangeSpec := { name := "fnExactAllFields", fn := fun _ => fun
  | [d1, d2] => { results := [.lit (.bool false)], args := [d1, d2] }
  | _ => none }
def FnExactAllFieldsWrongFalsely : Prop := fnExactAllFieldsRow.holds Try.pinned (OpenSpec.ofChange fnExactAllFieldsWrong)

/-- 'laws.FnFields': WHATEVER THE INPUT: true; the input reads as it did. -/
def fnFieldsSpec : ChangeSpec := { name := "fnFields", fn := fun _ => fun
  | [d1, d2] => { results := [.lit (.bool true)], args := [d1, d2] }
  | _ => none }
def fnFieldsRow : OpenClaim := { program := "ytjbmgopednpbmaa", sum := "b37d9866802567acea17944acb4a13931d2e5e25bf5fa4d3d6c380ef5a2c8cf9", func := "loop.example/g00837/laws.FnFields", spec := "fnFields", unfollowed := true, recurses := true, apart := false }
def FnFieldsSaid : Prop := fnFieldsRow.holds Try.pinned (OpenSpec.ofChange fnFieldsSpec)

/-- ITS FALSE NEIGHBOUR: 'it returns false'. Refute it at one input. -/
def fnFieldsWrong : ChangeSpec := { name := "fnFields", fn := fun _ => fun
  | [d1, d2] => { results := [.lit (.bool false)], args := [d1, d2] }
  | _ => none }
def FnFieldsWrongFalsely : Prop := fnFieldsRow.holds Try.pinned (OpenSpec.ofChange fnFieldsWrong)

/-- 'laws.FnReached': WHATEVER THE INPUT: true; the input reads as it did. -/
def fnReachedSpec : ChangeSpec := { name := "fnReached", fn := fun _ => fun
  | [d1, d2] => { results := [.lit (.bool true)], args := [d1, d2] }
  | _ => none }
def fnReachedRow : OpenClaim := { program := "ytjbmgopednpbmaa", sum := "b37d9866802567acea17944acb4a13931d2e5e25bf5fa4d3d6c380ef5a2c8cf9", func := "loop.example/g00837/laws.FnReached", spec := "fnReached", unfollowed := true, recurses := true, apart := false }
def FnReachedSaid : Prop := fnReachedRow.holds Try.pinned (OpenSpec.ofChange fnReachedSpec)

/-- ITS FALSE NEIGHBOUR: 'it returns false'. Refute it at one input. -/
def fnReachedWrong : ChangeSpec := { name := "fnReached", fn := fun _ => fun
  | [d1, d2] => { results := [.lit (.bool false)], args := [d1, d2] }
  | _ => none }
def FnReachedWrongFalsely : Prop := fnReachedRow.holds Try.pinned (OpenSpec.ofChange fnReachedWrong)

/-- 'laws.FnExtends': WHATEVER THE INPUT: true; the input reads as it did. -/
def fnExtendsSpec : ChangeSpec := { name := "fnExtends", fn := fun _ => fun
  | [d1, d2] => { results := [.lit (.bool true)], args := [d1, d2] }
  | _ => none }
def fnExtendsRow : OpenClaim := { program := "ytjbmgopednpbmaa", sum := "b37d9866802567acea17944acb4a13931d2e5e25bf5fa4d3d6c380ef5a2c8cf9", func := "loop.example/g00837/laws.FnExtends", spec := "fnExtends", unfollowed := true, recurses := true, apart := false }
def FnExtendsSaid : Prop := fnExtendsRow.holds Try.pinned (OpenSpec.ofChange fnExtendsSpec)

/-- ITS FALSE NEIGHBOUR: 'it returns false'. Refute it at one input. -/
def fnExtendsWrong : ChangeSpec := { name := "fnExtends", fn := fun _ => fun
  | [d1, d2] => { results := [.lit (.bool false)], args := [d1, d2] }
  | _ => none }
def FnExtendsWrongFalsely : Prop := fnExtendsRow.holds Try.pinned (OpenSpec.ofChange fnExtendsWrong)

/-- 'laws.FnSizes': WHATEVER THE INPUT: true; the input reads as it did. -/
def fnSizesSpec : ChangeSpec := { name := "fnSizes", fn := fun _ => fun
  | [d1, d2] => { results := [.lit (.bool true)], args := [d1, d2] }
  | _ => none }
def fnSizesRow : OpenClaim := { program := "ytjbmgopednpbmaa", sum := "b37d9866802567acea17944acb4a13931d2e5e25bf5fa4d3d6c380ef5a2c8cf9", func := "loop.example/g00837/laws.FnSizes", spec := "fnSizes", unfollowed := true, recurses := true, apart := false }
def FnSizesSaid : Prop := fnSizesRow.holds Try.pinned (OpenSpec.ofChange fnSizesSpec)

/-- ITS FALSE NEIGHBOUR: 'it returns false'. Refute it at one input. -/
def fnSizesWrong : ChangeSpec := { name := "fnSizes", fn := fun _ => fun
  | [d1, d2] => { results := [.lit (.bool false)], args := [d1, d2] }
  | _ => none }
def FnSizesWrongFalsely : Prop := fnSizesRow.holds Try.pinned (OpenSpec.ofChange fnSizesWrong)

/- THE SECOND FORM. 'bulk': how many values and letters a reading holds, each counted each time it is reached (what is shared counts as often as it is met; a slice's spare places count too). A statement '..UptoSaid' is the law's where the arguments, and the package variables that the reading takes, are together of bulk at most 1048576: NARROWER than '..Said'. Prove '..Said' where nothing that the law and all that it calls make is longer than what came in: it says more and counts as full. Else prove '..UptoSaid'. A law counts once. -/
mutual
def uptoBulk {H : Type} : DataW H → Nat
  | .lit (.string bytes) => bytes.length + 1
  | .lit _ => 1
  | .nil => 1
  | .ptr d => uptoBulk d + 1
  | .slice elems spare => uptoBulkAll elems + uptoBulkAll spare + 1
  | .agg parts => uptoBulkAll parts + 1
  | .iface _ d => uptoBulk d + 1
  | .map entries => uptoBulkEntries entries + 1
  | .held _ => 1
def uptoBulkAll {H : Type} : List (DataW H) → Nat
  | [] => 0
  | d :: r => uptoBulk d + uptoBulkAll r
def uptoBulkEntries {H : Type} : List (Lit × DataW H) → Nat
  | [] => 0
  | x :: r => uptoBulkEntry x + uptoBulkEntries r
def uptoBulkEntry {H : Type} : Lit × DataW H → Nat
  | (.string bytes, d) => bytes.length + uptoBulk d + 1
  | (_, d) => uptoBulk d + 1
 end
def uptoSmall : (H : Type) → List (DataW H) → Bool := fun _ ds => decide (uptoBulkAll ds ≤ 1048576)
def OpenSpec.upto (s : _root_.Go.ChangeSpec) : _root_.Go.OpenSpec := { _root_.Go.OpenSpec.ofChange s with cond := some uptoSmall }

/-- 'laws.FnExactSameStore', WHERE WHAT IT READS IS OF BULK AT MOST 1048576: true; the input reads as it did. -/
def fnExactSameStoreUptoRow : OpenClaim := { program := "ytjbmgopednpbmaa", sum := "b37d9866802567acea17944acb4a13931d2e5e25bf5fa4d3d6c380ef5a2c8cf9", func := "loop.example/g00837/laws.FnExactSameStore", spec := "fnExactSameStore", unfollowed := true, recurses := true, apart := false, narrowed := true }
def FnExactSameStoreUptoSaid : Prop := fnExactSameStoreUptoRow.holds Try.pinned (OpenSpec.upto fnExactSameStoreSpec)

/-- 'laws.FnExactRootOf', WHERE WHAT IT READS IS OF BULK AT MOST 1048576: true; the input reads as it did. -/
def fnExactRootOfUptoRow : OpenClaim := { program := "ytjbmgopednpbmaa", sum := "b37d9866802567acea17944acb4a13931d2e5e25bf5fa4d3d6c380ef5a2c8cf9", func := "loop.example/g00837/laws.FnExactRootOf", spec := "fnExactRootOf", unfollowed := true, recurses := true, apart := false, narrowed := true }
def FnExactRootOfUptoSaid : Prop := fnExactRootOfUptoRow.holds Try.pinned (OpenSpec.upto fnExactRootOfSpec)

/-- 'laws.FnExactDeepOf', WHERE WHAT IT READS IS OF BULK AT MOST 1048576: true; the input reads as it did. -/
def fnExactDeepOfUptoRow : OpenClaim := { program := "ytjbmgopednpbmaa", sum := "b37d9866802567acea17944acb4a13931d2e5e25bf5fa4d3d6c380ef5a2c8cf9", func := "loop.example/g00837/laws.FnExactDeepOf", spec := "fnExactDeepOf", unfollowed := true, recurses := true, apart := false, narrowed := true }
def FnExactDeepOfUptoSaid : Prop := fnExactDeepOfUptoRow.holds Try.pinned (OpenSpec.upto fnExactDeepOfSpec)

/-- 'laws.FnExactMayPut', WHERE WHAT IT READS IS OF BULK AT MOST 1048576: true; the input reads as it did. -/
def fnExactMayPutUptoRow : OpenClaim := { program := "ytjbmgopednpbmaa", sum := "b37d9866802567acea17944acb4a13931d2e5e25bf5fa4d3d6c380ef5a2c8cf9", func := "loop.example/g00837/laws.FnExactMayPut", spec := "fnExactMayPut", unfollowed := true, recurses := true, apart := false, narrowed := true }
def FnExactMayPutUptoSaid : Prop := fnExactMayPutUptoRow.holds Try.pinned (OpenSpec.upto fnExactMayPutSpec)

/-- 'laws.FnExactReachedOf', WHERE WHAT IT READS IS OF BULK AT MOST 1048576: true; the input reads as it did. -/
def fnExactReachedOfUptoRow : OpenClaim := { program := "ytjbmgopednpbmaa", sum := "b37d9866802567acea17944acb4a13931d2e5e25bf5fa4d3d6c380ef5a2c8cf9", func := "loop.example/g00837/laws.FnExactReachedOf", spec := "fnExactReachedOf", unfollowed := true, recurses := true, apart := false, narrowed := true }
def FnExactReachedOfUptoSaid : Prop := fnExactReachedOfUptoRow.holds Try.pinned (OpenSpec.upto fnExactReachedOfSpec)

/-- 'laws.FnExactAllFields', WHERE WHAT IT READS IS OF BULK AT MOST 1048576: true; the input reads as it did. -/
def fnExactAllFieldsUptoRow : OpenClaim := { program := "ytjbmgopednpbmaa", sum := "b37d9866802567acea17944acb4a13931d2e5e25bf5fa4d3d6c380ef5a2c8cf9", func := "loop.example/g00837/laws.FnExactAllFields", spec := "fnExactAllFields", unfollowed := true, recurses := true, apart := false, narrowed := true }
def FnExactAllFieldsUptoSaid : Prop := fnExactAllFieldsUptoRow.holds Try.pinned (OpenSpec.upto fnExactAllFieldsSpec)

/-- 'laws.FnFields', WHERE WHAT IT READS IS OF BULK AT MOST 1048576: true; the input reads as it did. -/
def fnFieldsUptoRow : OpenClaim := { program := "ytjbmgopednpbmaa", sum := "b37d9866802567acea17944acb4a13931d2e5e25bf5fa4d3d6c380ef5a2c8cf9", func := "loop.example/g00837/laws.FnFields", spec := "fnFields", unfollowed := true, recurses := true, apart := false, narrowed := true }
def FnFieldsUptoSaid : Prop := fnFieldsUptoRow.holds Try.pinned (OpenSpec.upto fnFieldsSpec)

/-- 'laws.FnReached', WHERE WHAT IT READS IS OF BULK AT MOST 1048576: true; the input reads as it did. -/
def fnReachedUptoRow : OpenClaim := { program := "ytjbmgopednpbmaa", sum := "b37d9866802567acea17944acb4a13931d2e5e25bf5fa4d3d6c380ef5a2c8cf9", func := "loop.example/g00837/laws.FnReached", spec := "fnReached", unfollowed := true, recurses := true, apart := false, narrowed := true }
def FnReachedUptoSaid : Prop := fnReachedUptoRow.holds Try.pinned (OpenSpec.upto fnReachedSpec)

/-- 'laws.FnExtends', WHERE WHAT IT READS IS OF BULK AT MOST 1048576: true; the input reads as it did. -/
def fnExtendsUptoRow : OpenClaim := { program := "ytjbmgopednpbmaa", sum := "b37d9866802567acea17944acb4a13931d2e5e25bf5fa4d3d6c380ef5a2c8cf9", func := "loop.example/g00837/laws.FnExtends", spec := "fnExtends", unfollowed := true, recurses := true, apart := false, narrowed := true }
def FnExtendsUptoSaid : Prop := fnExtendsUptoRow.holds Try.pinned (OpenSpec.upto fnExtendsSpec)

/-- 'laws.FnSizes', WHERE WHAT IT READS IS OF BULK AT MOST 1048576: true; the input reads as it did. -/
def fnSizesUptoRow : OpenClaim := { program := "ytjbmgopednpbmaa", sum := "b37d9866802567acea17944acb4a13931d2e5e25bf5fa4d3d6c380ef5a2c8cf9", func := "loop.example/g00837/laws.FnSizes", spec := "fnSizes", unfollowed := true, recurses := true, apart := false, narrowed := true }
def FnSizesUptoSaid : Prop := fnSizesUptoRow.holds Try.pinned (OpenSpec.upto fnSizesSpec)

end Rows
end Go.Proofs.Ytjbmgopednpbmaa
