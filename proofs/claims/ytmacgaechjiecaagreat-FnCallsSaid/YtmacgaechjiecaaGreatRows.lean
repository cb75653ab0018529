/-
  No cell of these rows narrows 'for every input' (looked for: loops, veiled, ifaces, maps, wideKeys, modest, calm, conditions, laid).
  DERIVED. THE GIVEN ROWS OF THIS SEAT. 10 by the template 'for every input the law returns true; each argument reads behind the call as it read before'; 0 by the template 'total and deterministic' (their statements: YtmacgaechjiecaaGreatTotals.lean).
  GIVEN WITH THE SEED: the statements are not yours to turn. If you find one false, say at which input.
  Laid BY PROGRAM, IN A SANDBOX (cutbox-rows.mjs): the forced cells as the released guide's own fill.sh prints them over the translation 66e105e41e0d7690… (all of the seat's roots in one cut). By AI agents, Wed Nov 11 2026. No macro, syntax, notation, axiom, sorry.
-/
import Derived.Test.YtmacgaechjiecaaGreatChecked
import GoSem.Claim
import GoSem.ClaimJoined
import GoSem.ClaimMapViews
import Derived.JoinedTies
import Derived.KernelRfl
namespace Go.Proofs.YtmacgaechjiecaaGreat
/- THE CELL 'sum', in the pinned program and in every row, IS THE sha256 OF THE DUMP (.gsa) THAT YtmacgaechjiecaaGreatProg.lean LOADS. Nothing in Lean hashes anything: it is a label: what it is worth is what the hold of that sum in a sandbox is worth. -/
noncomputable def Tryz.pinned : Pinned := { name := "ytmacgaechjiecaagreat", sum := "66e105e41e0d7690705ea5fddbd798cf8fcbb49ae9cb90128433568f8cc6819d", checked := Tryz.checked }
namespace Rows
def none {H : Type} : Left H := { results := [], args := [] }

/-- 'laws.FnLarger': WHATEVER THE INPUT: true; the input reads as it did. -/
def fnLargerSpec : ChangeSpec := { name := "fnLarger", fn := fun _ => fun
  | [d1, d2] => { results := [.lit (.bool true)], args := [d1, d2] }
  | _ => none }
def fnLargerRow : OpenClaim := { program := "ytmacgaechjiecaagreat", sum := "66e105e41e0d7690705ea5fddbd798cf8fcbb49ae9cb90128433568f8cc6819d", func := "loop.example/g00837/laws.FnLarger", spec := "fnLarger", unfollowed := true, recurses := true, plainKeys := false, apart := false }
def FnLargerSaid : Prop := fnLargerRow.holds Tryz.pinned (OpenSpec.ofChange fnLargerSpec)

/-- ITS FALSE NEIGHBOUR: 'it returns false'. Refute it at one input. -/
def fnLargerWrong : ChangeSpec := { name := "fnLarger", fn := fun _ => fun
  | [d1, d2] => { results := [.lit (.bool false)], args := [d1, d2] }
  | _ => none }
def FnLargerWrongFalsely : Prop := fnLargerRow.holds Tryz.pinned (OpenSpec.ofChange fnLargerWrong)

/-- 'laws.FnPut': WHATEVER THE INPUT: true; the input reads as it did. -/
def fnPutSpec : ChangeSpec := { name := "fnPut", fn := fun _ => fun
  | [d1, d2] => { results := [.lit (.bool true)], args := [d1, d2] }
  | _ => none }
def fnPutRow : OpenClaim := { program := "ytmacgaechjiecaagreat", sum := "66e105e41e0d7690705ea5fddbd798cf8fcbb49ae9cb90128433568f8cc6819d", func := "loop.example/g00837/laws.FnPut", spec := "fnPut", unfollowed := true, recurses := true, plainKeys := false, apart := false }
def FnPutSaid : Prop := fnPutRow.holds Tryz.pinned (OpenSpec.ofChange fnPutSpec)

/-- ITS FALSE NEIGHBOUR: 'it returns false'. Refute it at one input. -/
def fnPutWrong : ChangeSpec := { name := "fnPut", fn := fun _ => fun
  | [d1, d2] => { results := [.lit (.bool false)], args := [d1, d2] }
  | _ => none }
def FnPutWrongFalsely : Prop := fnPutRow.holds Tryz.pinned (OpenSpec.ofChange fnPutWrong)

/-- 'laws.FnCalls': WHATEVER THE INPUT: true; the input reads as it did. -/
def fnCallsSpec : ChangeSpec := { name := "fnCalls", fn := fun _ => fun
  | [d1, d2] => { results := [.lit (.bool true)], args := [d1, d2] }
  | _ => none }
def fnCallsRow : OpenClaim := { program := "ytmacgaechjiecaagreat", sum := "66e105e41e0d7690705ea5fddbd798cf8fcbb49ae9cb90128433568f8cc6819d", func := "loop.example/g00837/laws.FnCalls", spec := "fnCalls", unfollowed := true, recurses := true, plainKeys := false, apart := false }
def FnCallsSaid : Prop := fnCallsRow.holds Tryz.pinned (OpenSpec.ofChange fnCallsSpec)

/-- ITS FALSE NEIGHBOUR: 'it returns false'. Refute it at one input. -/
def fnCallsWrong : ChangeSpec := { name := "fnCalls", fn := fun _ => fun
  | [d1, d2] => { results := [.lit (.bool false)], args := [d1, d2] }
  | _ => none }
def FnCallsWrongFalsely : Prop := fnCallsRow.holds Tryz.pinned (OpenSpec.ofChange fnCallsWrong)

/-- 'laws.FnExactMayCall': WHATEVER THE INPUT: true; the input reads as it did. -/
def fnExactMayCallSpec : ChangeSpec := { name := "fnExactMayCall", fn := fun _ => fun
  | [d1, d2, d3] => { results := [.lit (.bool true)], args := [d1, d2, d3] }
  | _ => none }
def fnExactMayCallRow : OpenClaim := { program := "ytmacgaechjiecaagreat", sum := "66e105e41e0d7690705ea5fddbd798cf8fcbb49ae9cb90128433568f8cc6819d", func := "loop.example/g00837/laws.FnExactMayCall", spec := "fnExactMayCall", unfollowed := true, recurses := true, plainKeys := false, apart := false }
def FnExactMayCallSaid : Prop := fnExactMayCallRow.holds Tryz.pinned (OpenSpec.ofChange fnExactMayCallSpec)

/-- ITS FALSE NEIGHBOUR: 'it returns false'. Refute it at one input. -/
def fnExactMayCallWrong : ChangeSpec := { name := "fnExactMayCall", fn := fun _ => fun
  | [d1, d2, d3] => { results := [.lit (.bool false)], args := [d1, d2, d3] }
  | _ => none }
def FnExactMayCallWrongFalsely : Prop := fnExactMayCallRow.holds Tryz.pinned (OpenSpec.ofChange fnExactMayCallWrong)

/-- 'laws.FnSame': WHATEVER THE INPUT: true; the input reads as it did. -/
def fnSameSpec : ChangeSpec := { name := "fnSame", fn := fun _ => fun
  | [d1, d2] => { results := [.lit (.bool true)], args := [d1, d2] }
  | _ => none }
def fnSameRow : OpenClaim := { program := "ytmacgaechjiecaagreat", sum := "66e105e41e0d7690705ea5fddbd798cf8fcbb49ae9cb90128433568f8cc6819d", func := "loop.example/g00837/laws.FnSame", spec := "fnSame", unfollowed := true, recurses := true, plainKeys := false, apart := false }
def FnSameSaid : Prop := fnSameRow.holds Tryz.pinned (OpenSpec.ofChange fnSameSpec)

/-- ITS FALSE NEIGHBOUR: 'it returns false'. Refute it at one input. -/
def fnSameWrong : ChangeSpec := { name := "fnSame", fn := fun _ => fun
  | [d1, d2] => { results := [.lit (.bool false)], args := [d1, d2] }
  | _ => none }
def FnSameWrongFalsely : Prop := fnSameRow.holds Tryz.pinned (OpenSpec.ofChange fnSameWrong)

/-- 'laws.FnExactScopeFinger': WHATEVER THE INPUT: true; the input reads as it did. -/
def fnExactScopeFingerSpec : ChangeSpec := { name := "fnExactScopeFinger", fn := fun _ => fun
  | [d] => { results := [.lit (.bool true)], args := [d] }
  | _ => none }
def fnExactScopeFingerRow : OpenClaim := { program := "ytmacgaechjiecaagreat", sum := "66e105e41e0d7690705ea5fddbd798cf8fcbb49ae9cb90128433568f8cc6819d", func := "loop.example/g00837/laws.FnExactScopeFinger", spec := "fnExactScopeFinger", unfollowed := true, recurses := true, plainKeys := false, apart := false }
def FnExactScopeFingerSaid : Prop := fnExactScopeFingerRow.holds Tryz.pinned (OpenSpec.ofChange fnExactScopeFingerSpec)

/-- ITS FALSE NEIGHBOUR: 'it returns false'. Refute it at one input. -/
def fnExactScopeFingerWrong : ChangeSpec := { name := "fnExactScopeFinger", fn := fun _ => fun
  | [d] => { results := [.lit (.bool false)], args := [d] }
  | _ => none }
def FnExactScopeFingerWrongFalsely : Prop := fnExactScopeFingerRow.holds Tryz.pinned (OpenSpec.ofChange fnExactScopeFingerWrong)

/-- 'laws.FnExactFingerAt': WHATEVER THE INPUT: true; the input reads as it did. -/
def fnExactFingerAtSpec : ChangeSpec := { name := "fnExactFingerAt", fn := fun _ => fun
  | [d1, d2] => { results := [.lit (.bool true)], args := [d1, d2] }
  | _ => none }
def fnExactFingerAtRow : OpenClaim := { program := "ytmacgaechjiecaagreat", sum := "66e105e41e0d7690705ea5fddbd798cf8fcbb49ae9cb90128433568f8cc6819d", func := "loop.example/g00837/laws.FnExactFingerAt", spec := "fnExactFingerAt", unfollowed := true, recurses := true, plainKeys := false, apart := false }
def FnExactFingerAtSaid : Prop := fnExactFingerAtRow.holds Tryz.pinned (OpenSpec.ofChange fnExactFingerAtSpec)

/-- ITS FALSE NEIGHBOUR: 'it returns false'. Refute it at one input. -/
def fnExactFingerAtWrong : ChangeSpec := { name := "fnExactFingerAt", fn := fun _ => fun
  | [d1, d2] => { results := [.lit (.bool false)], args := [d1, d2] }
  | _ => none }
def FnExactFingerAtWrongFalsely : Prop := fnExactFingerAtRow.holds Tryz.pinned (OpenSpec.ofChange fnExactFingerAtWrong)

/-- 'laws.FnExactIsWider': WHATEVER THE INPUT: true; the input reads as it did. -/
def fnExactIsWiderSpec : ChangeSpec := { name := "fnExactIsWider", fn := fun _ => fun
  | [d1, d2] => { results := [.lit (.bool true)], args := [d1, d2] }
  | _ => none }
def fnExactIsWiderRow : OpenClaim := { program := "ytmacgaechjiecaagreat", sum := "66e105e41e0d7690705ea5fddbd798cf8fcbb49ae9cb90128433568f8cc6819d", func := "loop.example/g00837/laws.FnExactIsWider", spec := "fnExactIsWider", unfollowed := true, recurses := true, plainKeys := false, apart := false }
def FnExactIsWiderSaid : Prop := fnExactIsWiderRow.holds Tryz.pinned (OpenSpec.ofChange fnExactIsWiderSpec)

/-- ITS FALSE NEIGHBOUR: 'it returns false'. Refute it at one input. -/
def fnExactIsWiderWrong : ChangeSpec := { name := "fnExactIsWider", fn := fun _ => fun
  | [d1, d2] => { results := [.lit (.bool false)], args := [d1, d2] }
  | _ => none }
def FnExactIsWiderWrongFalsely : Prop := fnExactIsWiderRow.holds Tryz.pinned (OpenSpec.ofChange fnExactIsWiderWrong)

/-- 'laws.FnDiffs': WHATEVER THE INPUT: true; the input reads as it did. -/
def fnDiffsSpec : ChangeSpec := { name := "fnDiffs", fn := fun _ => fun
  | [d1, d2] => { results := [.lit (.bool true)], args := [d1, d2] }
  | _ => none }
def fnDiffsRow : OpenClaim := { program := "ytmacgaechjiecaagreat", sum := "66e105e41e0d7690705ea5fddbd798cf8fcbb49ae9cb90128433568f8cc6819d", func := "loop.example/g00837/laws.FnDiffs", spec := "fnDiffs", unfollowed := true, recurses := true, plainKeys := false, apart := false }
def FnDiffsSaid : Prop := fnDiffsRow.holds Tryz.pinned (OpenSpec.ofChange fnDiffsSpec)

/-- ITS FALSE NEIGHBOUR: 'it returns false'. Refute it at one input. -/
def fnDiffsWrong : ChangeSpec := { name := "fnDiffs", fn := fun _ => fun
  | [d1, d2] => { results := [.lit (.bool false)], args := [d1, d2] }
  | _ => none }
def FnDiffsWrongFalsely : Prop := fnDiffsRow.holds Tryz.pinned (OpenSpec.ofChange fnDiffsWrong)

/-- 'laws.FnHidden': WHATEVER THE INPUT: true; the input reads as it did. -/
def fnHiddenSpec : ChangeSpec := { name := "fnHidden", fn := fun _ => fun
  | [d1, d2] => { results := [.lit (.bool true)], args := [d1, d2] }
  | _ => none }
def fnHiddenRow : OpenClaim := { program := "ytmacgaechjiecaagreat", sum := "66e105e41e0d7690705ea5fddbd798cf8fcbb49ae9cb90128433568f8cc6819d", func := "loop.example/g00837/laws.FnHidden", spec := "fnHidden", unfollowed := true, recurses := true, plainKeys := false, apart := false }
def FnHiddenSaid : Prop := fnHiddenRow.holds Tryz.pinned (OpenSpec.ofChange fnHiddenSpec)

/-- ITS FALSE NEIGHBOUR: 'it returns false'. Refute it at one input. -/
def fnHiddenWrong : ChangeSpec := { name := "fnHidden", fn := fun _ => fun
  | [d1, d2] => { results := [.lit (.bool false)], args := [d1, d2] }
  | _ => none }
def FnHiddenWrongFalsely : Prop := fnHiddenRow.holds Tryz.pinned (OpenSpec.ofChange fnHiddenWrong)

/- THE SECOND FORM. 'bulk': how many values and letters a reading holds, each counted each time it is reached (what is shared counts as often as it is met; a slice's spare places count too). A statement '..UptoSaid' is the law's where the arguments, and the package variables that the reading takes, are together of bulk at most 1048576: NARROWER than '..Said'. Prove '..Said' where nothing that the law and all that it calls make is longer than what came in: it says more and counts as full. Else prove '..UptoSaid'. A law counts once. -/
mutual
def uptoBulk {H : Type} : DataW H → Nat
  | .lit (.string bytes) => bytes.length + 1
  | .lit _ => 1
  | .nil => 1
  | .ptr d => uptoBulk d + 1
  | .slice elems spare => uptoBulkAll elems + uptoBulkAll spare + 1
  | .agg parts => uptoBulkAll parts + 1
  | .iface _ d => uptoBulk d + 1
  | .map entries => uptoBulkEntries entries + 1
  | .held _ => 1
def uptoBulkAll {H : Type} : List (DataW H) → Nat
  | [] => 0
  | d :: r => uptoBulk d + uptoBulkAll r
def uptoBulkEntries {H : Type} : List (Lit × DataW H) → Nat
  | [] => 0
  | x :: r => uptoBulkEntry x + uptoBulkEntries r
def uptoBulkEntry {H : Type} : Lit × DataW H → Nat
  | (.string bytes, d) => bytes.length + uptoBulk d + 1
  | (_, d) => uptoBulk d + 1
 end
def uptoSmall : (H : Type) → List (DataW H) → Bool := fun _ ds => decide (uptoBulkAll ds ≤ 1048576)
def OpenSpec.upto (s : _root_.Go.ChangeSpec) : _root_.Go.OpenSpec := { _root_.Go.OpenSpec.ofChange s with cond := some uptoSmall }

/-- 'laws.FnLarger', WHERE WHAT IT READS IS OF BULK AT MOST 1048576: true; the input reads as it did. -/
def fnLargerUptoRow : OpenClaim := { program := "ytmacgaechjiecaagreat", sum := "66e105e41e0d7690705ea5fddbd798cf8fcbb49ae9cb90128433568f8cc6819d", func := "loop.example/g00837/laws.FnLarger", spec := "fnLarger", unfollowed := true, recurses := true, plainKeys := false, apart := false, narrowed := true }
def FnLargerUptoSaid : Prop := fnLargerUptoRow.holds Tryz.pinned (OpenSpec.upto fnLargerSpec)

/-- 'laws.FnPut', WHERE WHAT IT READS IS OF BULK AT MOST 1048576: true; the input reads as it did. -/
def fnPutUptoRow : OpenClaim := { program := "ytmacgaechjiecaagreat", sum := "66e105e41e0d7690705ea5fddbd798cf8fcbb49ae9cb90128433568f8cc6819d", func := "loop.example/g00837/laws.FnPut", spec := "fnPut", unfollowed := true, recurses := true, plainKeys := false, apart := false, narrowed := true }
def FnPutUptoSaid : Prop := fnPutUptoRow.holds Tryz.pinned (OpenSpec.upto fnPutSpec)

/-- 'laws.FnCalls', WHERE WHAT IT READS IS OF BULK AT MOST 1048576: true; the input reads as it did. -/
def fnCallsUptoRow : OpenClaim := { program := "ytmacgaechjiecaagreat", sum := "66e105e41e0d7690705ea5fddbd798cf8fcbb49ae9cb90128433568f8cc6819d", func := "loop.example/g00837/laws.FnCalls", spec := "fnCalls", unfollowed := true, recurses := true, plainKeys := false, apart := false, narrowed := true }
def FnCallsUptoSaid : Prop := fnCallsUptoRow.holds Tryz.pinned (OpenSpec.upto fnCallsSpec)

/-- 'laws.FnExactMayCall', WHERE WHAT IT READS IS OF BULK AT MOST 1048576: true; the input reads as it did. -/
def fnExactMayCallUptoRow : OpenClaim := { program := "ytmacgaechjiecaagreat", sum := "66e105e41e0d7690705ea5fddbd798cf8fcbb49ae9cb90128433568f8cc6819d", func := "loop.example/g00837/laws.FnExactMayCall", spec := "fnExactMayCall", unfollowed := true, recurses := true, plainKeys := false, apart := false, narrowed := true }
def FnExactMayCallUptoSaid : Prop := fnExactMayCallUptoRow.holds Tryz.pinned (OpenSpec.upto fnExactMayCallSpec)

/-- 'laws.FnSame', WHERE WHAT IT READS IS OF BULK AT MOST 1048576: true; the input reads as it did. -/
def fnSameUptoRow : OpenClaim := { program := "ytmacgaechjiecaagreat", sum := "66e105e41e0d7690705ea5fddbd798cf8fcbb49ae9cb90128433568f8cc6819d", func := "loop.example/g00837/laws.FnSame", spec := "fnSame", unfollowed := true, recurses := true, plainKeys := false, apart := false, narrowed := true }
def FnSameUptoSaid : Prop := fnSameUptoRow.holds Tryz.pinned (OpenSpec.upto fnSameSpec)

/-- 'laws.FnExactScopeFinger', WHERE WHAT IT READS IS OF BULK AT MOST 1048576: true; the input reads as it did. -/
def fnExactScopeFingerUptoRow : OpenClaim := { program := "ytmacgaechjiecaagreat", sum := "66e105e41e0d7690705ea5fddbd798cf8fcbb49ae9cb90128433568f8cc6819d", func := "loop.example/g00837/laws.FnExactScopeFinger", spec := "fnExactScopeFinger", unfollowed := true, recurses := true, plainKeys := false, apart := false, narrowed := true }
def FnExactScopeFingerUptoSaid : Prop := fnExactScopeFingerUptoRow.holds Tryz.pinned (OpenSpec.upto fnExactScopeFingerSpec)

/-- 'laws.FnExactFingerAt', WHERE WHAT IT READS IS OF BULK AT MOST 1048576: true; the input reads as it did. -/
def fnExactFingerAtUptoRow : OpenClaim := { program := "ytmacgaechjiecaagreat", sum := "66e105e41e0d7690705ea5fddbd798cf8fcbb49ae9cb90128433568f8cc6819d", func := "loop.example/g00837/laws.FnExactFingerAt", spec := "fnExactFingerAt", unfollowed := true, recurses := true, plainKeys := false, apart := false, narrowed := true }
def FnExactFingerAtUptoSaid : Prop := fnExactFingerAtUptoRow.holds Tryz.pinned (OpenSpec.upto fnExactFingerAtSpec)

/-- 'laws.FnExactIsWider', WHERE WHAT IT READS IS OF BULK AT MOST 1048576: true; the input reads as it did. -/
def fnExactIsWiderUptoRow : OpenClaim := { program := "ytmacgaechjiecaagreat", sum := "66e105e41e0d7690705ea5fddbd798cf8fcbb49ae9cb90128433568f8cc6819d", func := "loop.example/g00837/laws.FnExactIsWider", spec := "fnExactIsWider", unfollowed := true, recurses := true, plainKeys := false, apart := false, narrowed := true }
def FnExactIsWiderUptoSaid : Prop := fnExactIsWiderUptoRow.holds Tryz.pinned (OpenSpec.upto fnExactIsWiderSpec)

/-- 'laws.FnDiffs', WHERE WHAT IT READS IS OF BULK AT MOST 1048576: true; the input reads as it did. -/
def fnDiffsUptoRow : OpenClaim := { program := "ytmacgaechjiecaagreat", sum := "66e105e41e0d7690705ea5fddbd798cf8fcbb49ae9cb90128433568f8cc6819d", func := "loop.example/g00837/laws.FnDiffs", spec := "fnDiffs", unfollowed := true, recurses := true, plainKeys := false, apart := false, narrowed := true }
def FnDiffsUptoSaid : Prop := fnDiffsUptoRow.holds Tryz.pinned (OpenSpec.upto fnDiffsSpec)

/-- 'laws.FnHidden', WHERE WHAT IT READS IS OF BULK AT MOST 1048576: true; the input reads as it did. -/
def fnHiddenUptoRow : OpenClaim := { program := "ytmacgaechjiecaagreat", sum := "66e105e41e0d7690705ea5fddbd798cf8fcbb49ae9cb90128433568f8cc6819d", func := "loop.example/g00837/laws.FnHidden", spec := "fnHidden", unfollowed := true, recurses := true, plainKeys := false, apart := false, narrowed := true }
def FnHiddenUptoSaid : Prop := fnHiddenUptoRow.holds Tryz.pinned (OpenSpec.upto fnHiddenSpec)

end Rows
end Go.Proofs.YtmacgaechjiecaaGreat
