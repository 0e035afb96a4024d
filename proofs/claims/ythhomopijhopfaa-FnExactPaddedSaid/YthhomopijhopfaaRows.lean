/-
  No cell of these rows narrows 'for every input' (looked for: loops, veiled, ifaces, maps, wideKeys, modest, calm, conditions, laid).
  DERIVED. THE GIVEN ROWS OF THIS SEAT. 9 by the template 'for every input the law returns true; each argument reads behind the call as it read before'; 0 by the template 'total and deterministic' (their statements: YthhomopijhopfaaTotals.lean).
  GIVEN WITH THE SEED: the statements are not yours to turn. If you find one false, say at which input.
  Laid BY PROGRAM, IN A SANDBOX (cutbox-rows.mjs): the forced cells as the released guide's own fill.sh prints them over the translation ce33f98267ad6882… (all of the seat's roots in one cut). By AI agents, Wed Nov 11 2026. No macro, syntax, notation, axiom, sorry.
-/
import Derived.Test.YthhomopijhopfaaChecked
import GoSem.Claim
import GoSem.ClaimJoined
import GoSem.ClaimMapViews
import Derived.JoinedTies
import Derived.KernelRfl
namespace Go.Proofs.Ythhomopijhopfaa
/- THE CELL 'sum', in the pinned program and in every row, IS THE sha256 OF THE DUMP (.gsa) THAT YthhomopijhopfaaProg.lean LOADS. Nothing in Lean hashes anything: it is a label: what it is worth is what the hold of that sum in a sandbox is worth. -/
noncomputable def Try.pinned : Pinned := { name := "ythhomopijhopfaa", sum := "ce33f98267ad688277a0011047993416afb51c79b0c4fd9a87f777769cc6fab3", checked := Try.checked }
namespace Rows
def none {H : Type} : Left H := { results := [], args := [] }

/-- 'laws.FnTimes': WHATEVER THE INPUT: true; the input reads as it did. -/
def fnTimesSpec : ChangeSpec := { name := "fnTimes", fn := fun _ => fun
  | [d] => { results := [.lit (.bool true)], args := [d] }
  | _ => none }
def fnTimesRow : OpenClaim := { program := "ythhomopijhopfaa", sum := "ce33f98267ad688277a0011047993416afb51c79b0c4fd9a87f777769cc6fab3", func := "loop.example/g00148/laws.FnTimes", spec := "fnTimes", apart := false }
def FnTimesSaid : Prop := fnTimesRow.holds Try.pinned (OpenSpec.ofChange fnTimesSpec)

/-- ITS FALSE NEIGHBOUR: 'it returns false'. Refute it at one input. -/
def fnTimesWrong : ChangeSpec := { name := "fnTimes", fn := fun _ => fun
  | [d] => { results := [.lit (.bool false)], args := [d] }
  | _ => none }
def FnTimesWrongFalsely : Prop := fnTimesRow.holds Try.pinned (OpenSpec.ofChange fnTimesWrong)

/-- 'laws.FnNames10': WHATEVER THE INPUT: true; the input reads as it did. -/
def fnNames10Spec : ChangeSpec := { name := "fnNames10", fn := fun _ => fun
  | [d] => { results := [.lit (.bool true)], args := [d] }
  | _ => none }
def fnNames10Row : OpenClaim := { program := "ythhomopijhopfaa", sum := "ce33f98267ad688277a0011047993416afb51c79b0c4fd9a87f777769cc6fab3", func := "loop.example/g00148/laws.FnNames10", spec := "fnNames10", inPlace := ["internal/abi.NoEscape", "internal/bytealg.MakeNoZero"], unfollowed := true, recurses := true, apart := false }
def FnNames10Said : Prop := fnNames10Row.holds Try.pinned (OpenSpec.ofChange fnNames10Spec)

/-- ITS FALSE NEIGHBOUR: 'it returns false'. Refute it at one input. -/
def fnNames10Wrong : ChangeSpec := { name := "fnNames10", fn := fun _ => fun
  | [d] => { results := [.lit (.bool false)], args := [d] }
  | _ => none }
def FnNames10WrongFalsely : Prop := fnNames10Row.holds Try.pinned (OpenSpec.ofChange fnNames10Wrong)

/-- 'laws.FnPuny': WHATEVER THE INPUT: true; the input reads as it did. -/
def fnPunySpec : ChangeSpec := { name := "fnPuny", fn := fun _ => fun
  | [d] => { results := [.lit (.bool true)], args := [d] }
  | _ => none }
def fnPunyRow : OpenClaim := { program := "ythhomopijhopfaa", sum := "ce33f98267ad688277a0011047993416afb51c79b0c4fd9a87f777769cc6fab3", func := "loop.example/g00148/laws.FnPuny", spec := "fnPuny", inPlace := ["slices.overlaps[int]"], apart := false }
def FnPunySaid : Prop := fnPunyRow.holds Try.pinned (OpenSpec.ofChange fnPunySpec)

/-- ITS FALSE NEIGHBOUR: 'it returns false'. Refute it at one input. -/
def fnPunyWrong : ChangeSpec := { name := "fnPuny", fn := fun _ => fun
  | [d] => { results := [.lit (.bool false)], args := [d] }
  | _ => none }
def FnPunyWrongFalsely : Prop := fnPunyRow.holds Try.pinned (OpenSpec.ofChange fnPunyWrong)

/-- 'laws.FnExactPuny': WHATEVER THE INPUT: true; the input reads as it did. -/
def fnExactPunySpec : ChangeSpec := { name := "fnExactPuny", fn := fun _ => fun
  | [d] => { results := [.lit (.bool true)], args := [d] }
  | _ => none }
def fnExactPunyRow : OpenClaim := { program := "ythhomopijhopfaa", sum := "ce33f98267ad688277a0011047993416afb51c79b0c4fd9a87f777769cc6fab3", func := "loop.example/g00148/laws.FnExactPuny", spec := "fnExactPuny", apart := false }
def FnExactPunySaid : Prop := fnExactPunyRow.holds Try.pinned (OpenSpec.ofChange fnExactPunySpec)

/-- ITS FALSE NEIGHBOUR: 'it returns false'. Refute it at one input. -/
def fnExactPunyWrong : ChangeSpec := { name := "fnExactPuny", fn := fun _ => fun
  | [d] => { results := [.lit (.bool false)], args := [d] }
  | _ => none }
def FnExactPunyWrongFalsely : Prop := fnExactPunyRow.holds Try.pinned (OpenSpec.ofChange fnExactPunyWrong)

/-- 'laws.FnExactReadPuny': WHATEVER THE INPUT: true; the input reads as it did. -/
def fnExactReadPunySpec : ChangeSpec := { name := "fnExactReadPuny", fn := fun _ => fun
  | [d] => { results := [.lit (.bool true)], args := [d] }
  | _ => none }
def fnExactReadPunyRow : OpenClaim := { program := "ythhomopijhopfaa", sum := "ce33f98267ad688277a0011047993416afb51c79b0c4fd9a87f777769cc6fab3", func := "loop.example/g00148/laws.FnExactReadPuny", spec := "fnExactReadPuny", inPlace := ["slices.overlaps[int]"], apart := false }
def FnExactReadPunySaid : Prop := fnExactReadPunyRow.holds Try.pinned (OpenSpec.ofChange fnExactReadPunySpec)

/-- ITS FALSE NEIGHBOUR: 'it returns false'. Refute it at one input. -/
def fnExactReadPunyWrong : ChangeSpec := { name := "fnExactReadPuny", fn := fun _ => fun
  | [d] => { results := [.lit (.bool false)], args := [d] }
  | _ => none }
def FnExactReadPunyWrongFalsely : Prop := fnExactReadPunyRow.holds Try.pinned (OpenSpec.ofChange fnExactReadPunyWrong)

/-- 'laws.FnExactOidBytes': WHATEVER THE INPUT: true; the input reads as it did. -/
def fnExactOidBytesSpec : ChangeSpec := { name := "fnExactOidBytes", fn := fun _ => fun
  | [d] => { results := [.lit (.bool true)], args := [d] }
  | _ => none }
def fnExactOidBytesRow : OpenClaim := { program := "ythhomopijhopfaa", sum := "ce33f98267ad688277a0011047993416afb51c79b0c4fd9a87f777769cc6fab3", func := "loop.example/g00148/laws.FnExactOidBytes", spec := "fnExactOidBytes", apart := false }
def FnExactOidBytesSaid : Prop := fnExactOidBytesRow.holds Try.pinned (OpenSpec.ofChange fnExactOidBytesSpec)

/-- ITS FALSE NEIGHBOUR: 'it returns false'. Refute it at one input. -/
def fnExactOidBytesWrong : ChangeSpec := { name := "fnExactOidBytes", fn := fun _ => fun
  | [d] => { results := [.lit (.bool false)], args := [d] }
  | _ => none }
def FnExactOidBytesWrongFalsely : Prop := fnExactOidBytesRow.holds Try.pinned (OpenSpec.ofChange fnExactOidBytesWrong)

/-- 'laws.FnExactReadOid': WHATEVER THE INPUT: true; the input reads as it did. -/
def fnExactReadOidSpec : ChangeSpec := { name := "fnExactReadOid", fn := fun _ => fun
  | [d] => { results := [.lit (.bool true)], args := [d] }
  | _ => none }
def fnExactReadOidRow : OpenClaim := { program := "ythhomopijhopfaa", sum := "ce33f98267ad688277a0011047993416afb51c79b0c4fd9a87f777769cc6fab3", func := "loop.example/g00148/laws.FnExactReadOid", spec := "fnExactReadOid", inPlace := ["slices.overlaps[int]"], apart := false }
def FnExactReadOidSaid : Prop := fnExactReadOidRow.holds Try.pinned (OpenSpec.ofChange fnExactReadOidSpec)

/-- ITS FALSE NEIGHBOUR: 'it returns false'. Refute it at one input. -/
def fnExactReadOidWrong : ChangeSpec := { name := "fnExactReadOid", fn := fun _ => fun
  | [d] => { results := [.lit (.bool false)], args := [d] }
  | _ => none }
def FnExactReadOidWrongFalsely : Prop := fnExactReadOidRow.holds Try.pinned (OpenSpec.ofChange fnExactReadOidWrong)

/-- 'laws.FnNumbers7': WHATEVER THE INPUT: true; the input reads as it did. -/
def fnNumbers7Spec : ChangeSpec := { name := "fnNumbers7", fn := fun _ => fun
  | [d] => { results := [.lit (.bool true)], args := [d] }
  | _ => none }
def fnNumbers7Row : OpenClaim := { program := "ythhomopijhopfaa", sum := "ce33f98267ad688277a0011047993416afb51c79b0c4fd9a87f777769cc6fab3", func := "loop.example/g00148/laws.FnNumbers7", spec := "fnNumbers7", inPlace := ["slices.overlaps[int]"], apart := false }
def FnNumbers7Said : Prop := fnNumbers7Row.holds Try.pinned (OpenSpec.ofChange fnNumbers7Spec)

/-- ITS FALSE NEIGHBOUR: 'it returns false'. Refute it at one input. -/
def fnNumbers7Wrong : ChangeSpec := { name := "fnNumbers7", fn := fun _ => fun
  | [d] => { results := [.lit (.bool false)], args := [d] }
  | _ => none }
def FnNumbers7WrongFalsely : Prop := fnNumbers7Row.holds Try.pinned (OpenSpec.ofChange fnNumbers7Wrong)

/-- 'laws.FnExactPadded': WHATEVER THE INPUT: true; the input reads as it did. -/
def fnExactPaddedSpec : ChangeSpec := { name := "fnExactPadded", fn := fun _ => fun
  | [d1, d2] => { results := [.lit (.bool true)], args := [d1, d2] }
  | _ => none }
def fnExactPaddedRow : OpenClaim := { program := "ythhomopijhopfaa", sum := "ce33f98267ad688277a0011047993416afb51c79b0c4fd9a87f777769cc6fab3", func := "loop.example/g00148/laws.FnExactPadded", spec := "fnExactPadded", inPlace := ["internal/bytealg.MakeNoZero"], apart := false }
def FnExactPaddedSaid : Prop := fnExactPaddedRow.holds Try.pinned (OpenSpec.ofChange fnExactPaddedSpec)

/-- ITS FALSE NEIGHBOUR: 'it returns false'. Refute it at one input. -/
def fnExactPaddedWrong : ChangeSpec := { name := "fnExactPadded", fn := fun _ => fun
  | [d1, d2] => { results := [.lit (.bool false)], args := [d1, d2] }
  | _ => none }
def FnExactPaddedWrongFalsely : Prop := fnExactPaddedRow.holds Try.pinned (OpenSpec.ofChange fnExactPaddedWrong)

/- THE SECOND FORM. 'bulk': how many values and letters a reading holds, each counted each time it is reached (what is shared counts as often as it is met; a slice's spare places count too). A statement '..UptoSaid' is the law's where the arguments, and the package variables that the reading takes, are together of bulk at most 1048576: NARROWER than '..Said'. Prove '..Said' where nothing that the law and all that it calls make is longer than what came in: it says more and counts as full. Else prove '..UptoSaid'. A law counts once. -/
mutual
def uptoBulk {H : Type} : DataW H → Nat
  | .lit (.string bytes) => bytes.length + 1
  | .lit _ => 1
  | .nil => 1
  | .ptr d => uptoBulk d + 1
  | .slice elems spare => uptoBulkAll elems + uptoBulkAll spare + 1
  | .agg parts => uptoBulkAll parts + 1
  | .iface _ d => uptoBulk d + 1
  | .map entries => uptoBulkEntries entries + 1
  | .held _ => 1
def uptoBulkAll {H : Type} : List (DataW H) → Nat
  | [] => 0
  | d :: r => uptoBulk d + uptoBulkAll r
def uptoBulkEntries {H : Type} : List (Lit × DataW H) → Nat
  | [] => 0
  | x :: r => uptoBulkEntry x + uptoBulkEntries r
def uptoBulkEntry {H : Type} : Lit × DataW H → Nat
  | (.string bytes, d) => bytes.length + uptoBulk d + 1
  | (_, d) => uptoBulk d + 1
 end
def uptoSmall : (H : Type) → List (DataW H) → Bool := fun _ ds => decide (uptoBulkAll ds ≤ 1048576)
def OpenSpec.upto (s : _root_.Go.ChangeSpec) : _root_.Go.OpenSpec := { _root_.Go.OpenSpec.ofChange s with cond := some uptoSmall }

/-- 'laws.FnTimes', WHERE WHAT IT READS IS OF BULK AT MOST 1048576: true; the input reads as it did. -/
def fnTimesUptoRow : OpenClaim := { program := "ythhomopijhopfaa", sum := "ce33f98267ad688277a0011047993416afb51c79b0c4fd9a87f777769cc6fab3", func := "loop.example/g00148/laws.FnTimes", spec := "fnTimes", apart := false, narrowed := true }
def FnTimesUptoSaid : Prop := fnTimesUptoRow.holds Try.pinned (OpenSpec.upto fnTimesSpec)

/-- 'laws.FnNames10', WHERE WHAT IT READS IS OF BULK AT MOST 1048576: true; the input reads as it did. -/
def fnNames10UptoRow : OpenClaim := { program := "ythhomopijhopfaa", sum := "ce33f98267ad688277a0011047993416afb51c79b0c4fd9a87f777769cc6fab3", func := "loop.example/g00148/laws.FnNames10", spec := "fnNames10", inPlace := ["internal/abi.NoEscape", "internal/bytealg.MakeNoZero"], unfollowed := true, recurses := true, apart := false, narrowed := true }
def FnNames10UptoSaid : Prop := fnNames10UptoRow.holds Try.pinned (OpenSpec.upto fnNames10Spec)

/-- 'laws.FnPuny', WHERE WHAT IT READS IS OF BULK AT MOST 1048576: true; the input reads as it did. -/
def fnPunyUptoRow : OpenClaim := { program := "ythhomopijhopfaa", sum := "ce33f98267ad688277a0011047993416afb51c79b0c4fd9a87f777769cc6fab3", func := "loop.example/g00148/laws.FnPuny", spec := "fnPuny", inPlace := ["slices.overlaps[int]"], apart := false, narrowed := true }
def FnPunyUptoSaid : Prop := fnPunyUptoRow.holds Try.pinned (OpenSpec.upto fnPunySpec)

/-- 'laws.FnExactPuny', WHERE WHAT IT READS IS OF BULK AT MOST 1048576: true; the input reads as it did. -/
def fnExactPunyUptoRow : OpenClaim := { program := "ythhomopijhopfaa", sum := "ce33f98267ad688277a0011047993416afb51c79b0c4fd9a87f777769cc6fab3", func := "loop.example/g00148/laws.FnExactPuny", spec := "fnExactPuny", apart := false, narrowed := true }
def FnExactPunyUptoSaid : Prop := fnExactPunyUptoRow.holds Try.pinned (OpenSpec.upto fnExactPunySpec)

/-- 'laws.FnExactReadPuny', WHERE WHAT IT READS IS OF BULK AT MOST 1048576: true; the input reads as it did. -/
def fnExactReadPunyUptoRow : OpenClaim := { program := "ythhomopijhopfaa", sum := "ce33f98267ad688277a0011047993416afb51c79b0c4fd9a87f777769cc6fab3", func := "loop.example/g00148/laws.FnExactReadPuny", spec := "fnExactReadPuny", inPlace := ["slices.overlaps[int]"], apart := false, narrowed := true }
def FnExactReadPunyUptoSaid : Prop := fnExactReadPunyUptoRow.holds Try.pinned (OpenSpec.upto fnExactReadPunySpec)

/-- 'laws.FnExactOidBytes', WHERE WHAT IT READS IS OF BULK AT MOST 1048576: true; the input reads as it did. -/
def fnExactOidBytesUptoRow : OpenClaim := { program := "ythhomopijhopfaa", sum := "ce33f98267ad688277a0011047993416afb51c79b0c4fd9a87f777769cc6fab3", func := "loop.example/g00148/laws.FnExactOidBytes", spec := "fnExactOidBytes", apart := false, narrowed := true }
def FnExactOidBytesUptoSaid : Prop := fnExactOidBytesUptoRow.holds Try.pinned (OpenSpec.upto fnExactOidBytesSpec)

/-- 'laws.FnExactReadOid', WHERE WHAT IT READS IS OF BULK AT MOST 1048576: true; the input reads as it did. -/
def fnExactReadOidUptoRow : OpenClaim := { program := "ythhomopijhopfaa", sum := "ce33f98267ad688277a0011047993416afb51c79b0c4fd9a87f777769cc6fab3", func := "loop.example/g00148/laws.FnExactReadOid", spec := "fnExactReadOid", inPlace := ["slices.overlaps[int]"], apart := false, narrowed := true }
def FnExactReadOidUptoSaid : Prop := fnExactReadOidUptoRow.holds Try.pinned (OpenSpec.upto fnExactReadOidSpec)

/-- 'laws.FnNumbers7', WHERE WHAT IT READS IS OF BULK AT MOST 1048576: true; the input reads as it did. -/
def fnNumbers7UptoRow : OpenClaim := { program := "ythhomopijhopfaa", sum := "ce33f98267ad688277a0011047993416afb51c79b0c4fd9a87f777769cc6fab3", func := "loop.example/g00148/laws.FnNumbers7", spec := "fnNumbers7", inPlace := ["slices.overlaps[int]"], apart := false, narrowed := true }
def FnNumbers7UptoSaid : Prop := fnNumbers7UptoRow.holds Try.pinned (OpenSpec.upto fnNumbers7Spec)

/-- 'laws.FnExactPadded', WHERE WHAT IT READS IS OF BULK AT MOST 1048576: true; the input reads as it did. -/
def fnExactPaddedUptoRow : OpenClaim := { program := "ythhomopijhopfaa", sum := "ce33f98267ad688277a0011047993416afb51c79b0c4fd9a87f777769cc6fab3", func := "loop.example/g00148/laws.FnExactPadded", spec := "fnExactPadded", inPlace := ["internal/bytealg.MakeNoZero"], apart := false, narrowed := true }
def FnExactPaddedUptoSaid : Prop := fnExactPaddedUptoRow.holds Try.pinned (OpenSpec.upto fnExactPaddedSpec)

end Rows
end Go.Proofs.Ythhomopijhopfaa
