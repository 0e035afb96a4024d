/-
  No cell of these rows narrows 'for every input' (looked for: loops, veiled, ifaces, maps, wideKeys, modest, calm, conditions, laid).
  DERIVED. THE GIVEN ROWS OF THIS SEAT. 7 by the template 'for every input the law returns true; each argument reads behind the call as it read before'; 0 by the template 'total and deterministic' (their statements: YtmeobalddjembaaTotals.lean).
  GIVEN WITH THE SEED: the statements are not yours to turn. If you find one false, say at which input.
  Laid BY PROGRAM, IN A SANDBOX (cutbox-rows.mjs): the forced cells as the released guide's own fill.sh prints them over the translation a2cee872d3756bf0… (all of the seat's roots in one cut). By AI agents, Wed Nov 11 2026. No macro, syntax, notation, axiom, sorry.
-/
import Derived.Test.YtmeobalddjembaaChecked
import GoSem.Claim
import GoSem.ClaimJoined
import GoSem.ClaimMapViews
import Derived.JoinedTies
import Derived.KernelRfl
namespace Go.Proofs.Ytmeobalddjembaa
/- THE CELL 'sum', in the pinned program and in every row, IS THE sha256 OF THE DUMP (.gsa) THAT YtmeobalddjembaaProg.lean LOADS. Nothing in Lean hashes anything: it is a label: what it is worth is what the hold of that sum in a sandbox is worth. -/
noncomputable def Try.pinned : Pinned := { name := "ytmeobalddjembaa", sum := "a2cee872d3756bf0abf1a1b8da0b91622a182b837b8da5fcea7e2c204ce023f9", checked := Try.checked }
namespace Rows
def none {H : Type} : Left H := { results := [], args := [] }

/-- 'laws.FnExactTreeOk': WHATEVER THE INPUT: true; the input reads as it did. -/
def fnExactTreeOkSpec : ChangeSpec := { name := "fnExactTreeOk", fn := fun _ => fun
  | [d] => { results := [.lit (.bool true)], args := [d] }
  | _ => none }
def fnExactTreeOkRow : OpenClaim := { program := "ytmeobalddjembaa", sum := "a2cee872d3756bf0abf1a1b8da0b91622a182b837b8da5fcea7e2c204ce023f9", func := "loop.example/g00148/laws.FnExactTreeOk", spec := "fnExactTreeOk", unfollowed := true, recurses := true, apart := false }
def FnExactTreeOkSaid : Prop := fnExactTreeOkRow.holds Try.pinned (OpenSpec.ofChange fnExactTreeOkSpec)

/-- ITS FALSE NEIGHBOUR: 'it returns false'. Refute it at one input. -/
def fnExactTreeOkWrong : ChangeSpec := { name := "fnExactTreeOk", fn := fun _ => fun
  | [d] => { results := [.lit (.bool false)], args := [d] }
  | _ => none }
def FnExactTreeOkWrongFalsely : Prop := fnExactTreeOkRow.holds Try.pinned (OpenSpec.ofChange fnExactTreeOkWrong)

/-- 'laws.FnExactChildren': WHATEVER THE INPUT: true; the input reads as it did. -/
def fnExactChildrenSpec : ChangeSpec := { name := "fnExactChildren", fn := fun _ => fun
  | [d1, d2] => { results := [.lit (.bool true)], args := [d1, d2] }
  | _ => none }
def fnExactChildrenRow : OpenClaim := { program := "ytmeobalddjembaa", sum := "a2cee872d3756bf0abf1a1b8da0b91622a182b837b8da5fcea7e2c204ce023f9", func := "loop.example/g00148/laws.FnExactChildren", spec := "fnExactChildren", unfollowed := true, recurses := true, apart := false }
def FnExactChildrenSaid : Prop := fnExactChildrenRow.holds Try.pinned (OpenSpec.ofChange fnExactChildrenSpec)

/-- ITS FALSE NEIGHBOUR: 'it returns false'. Refute it at one input. -/
def fnExactChildrenWrong : ChangeSpec := { name := "fnExactChildren", fn := fun _ => fun
  | [d1, d2] => { results := [.lit (.bool false)], args := [d1, d2] }
  | _ => none }
def FnExactChildrenWrongFalsely : Prop := fnExactChildrenRow.holds Try.pinned (OpenSpec.ofChange fnExactChildrenWrong)

/-- 'laws.FnExactPart': WHATEVER THE INPUT: true; the input reads as it did. -/
def fnExactPartSpec : ChangeSpec := { name := "fnExactPart", fn := fun _ => fun
  | [d1, d2] => { results := [.lit (.bool true)], args := [d1, d2] }
  | _ => none }
def fnExactPartRow : OpenClaim := { program := "ytmeobalddjembaa", sum := "a2cee872d3756bf0abf1a1b8da0b91622a182b837b8da5fcea7e2c204ce023f9", func := "loop.example/g00148/laws.FnExactPart", spec := "fnExactPart", unfollowed := true, recurses := true, apart := false }
def FnExactPartSaid : Prop := fnExactPartRow.holds Try.pinned (OpenSpec.ofChange fnExactPartSpec)

/-- ITS FALSE NEIGHBOUR: 'it returns false'. Refute it at one input. -/
def fnExactPartWrong : ChangeSpec := { name := "fnExactPart", fn := fun _ => fun
  | [d1, d2] => { results := [.lit (.bool false)], args := [d1, d2] }
  | _ => none }
def FnExactPartWrongFalsely : Prop := fnExactPartRow.holds Try.pinned (OpenSpec.ofChange fnExactPartWrong)

/-- 'laws.FnExactReadDer': WHATEVER THE INPUT: true; the input reads as it did. -/
def fnExactReadDerSpec : ChangeSpec := { name := "fnExactReadDer", fn := fun _ => fun
  | [d] => { results := [.lit (.bool true)], args := [d] }
  | _ => none }
def fnExactReadDerRow : OpenClaim := { program := "ytmeobalddjembaa", sum := "a2cee872d3756bf0abf1a1b8da0b91622a182b837b8da5fcea7e2c204ce023f9", func := "loop.example/g00148/laws.FnExactReadDer", spec := "fnExactReadDer", recurses := true, apart := false }
def FnExactReadDerSaid : Prop := fnExactReadDerRow.holds Try.pinned (OpenSpec.ofChange fnExactReadDerSpec)

/-- ITS FALSE NEIGHBOUR: 'it returns false'. Refute it at one input. -/
def fnExactReadDerWrong : ChangeSpec := { name := "fnExactReadDer", fn := fun _ => fun
  | [d] => { results := [.lit (.bool false)], args := [d] }
  | _ => none }
def FnExactReadDerWrongFalsely : Prop := fnExactReadDerRow.holds Try.pinned (OpenSpec.ofChange fnExactReadDerWrong)

/-- 'laws.FnTrees': WHATEVER THE INPUT: true; the input reads as it did. -/
def fnTreesSpec : ChangeSpec := { name := "fnTrees", fn := fun _ => fun
  | [d] => { results := [.lit (.bool true)], args := [d] }
  | _ => none }
def fnTreesRow : OpenClaim := { program := "ytmeobalddjembaa", sum := "a2cee872d3756bf0abf1a1b8da0b91622a182b837b8da5fcea7e2c204ce023f9", func := "loop.example/g00148/laws.FnTrees", spec := "fnTrees", unfollowed := true, recurses := true, apart := false }
def FnTreesSaid : Prop := fnTreesRow.holds Try.pinned (OpenSpec.ofChange fnTreesSpec)

/-- ITS FALSE NEIGHBOUR: 'it returns false'. Refute it at one input. -/
def fnTreesWrong : ChangeSpec := { name := "fnTrees", fn := fun _ => fun
  | [d] => { results := [.lit (.bool false)], args := [d] }
  | _ => none }
def FnTreesWrongFalsely : Prop := fnTreesRow.holds Try.pinned (OpenSpec.ofChange fnTreesWrong)

/-- 'laws.FnExactWriteDer': WHATEVER THE INPUT: true; the input reads as it did. -/
def fnExactWriteDerSpec : ChangeSpec := { name := "fnExactWriteDer", fn := fun _ => fun
  | [d] => { results := [.lit (.bool true)], args := [d] }
  | _ => none }
def fnExactWriteDerRow : OpenClaim := { program := "ytmeobalddjembaa", sum := "a2cee872d3756bf0abf1a1b8da0b91622a182b837b8da5fcea7e2c204ce023f9", func := "loop.example/g00148/laws.FnExactWriteDer", spec := "fnExactWriteDer", unfollowed := true, recurses := true, apart := false }
def FnExactWriteDerSaid : Prop := fnExactWriteDerRow.holds Try.pinned (OpenSpec.ofChange fnExactWriteDerSpec)

/-- ITS FALSE NEIGHBOUR: 'it returns false'. Refute it at one input. -/
def fnExactWriteDerWrong : ChangeSpec := { name := "fnExactWriteDer", fn := fun _ => fun
  | [d] => { results := [.lit (.bool false)], args := [d] }
  | _ => none }
def FnExactWriteDerWrongFalsely : Prop := fnExactWriteDerRow.holds Try.pinned (OpenSpec.ofChange fnExactWriteDerWrong)

/-- 'laws.FnStrict': WHATEVER THE INPUT: true; the input reads as it did. -/
def fnStrictSpec : ChangeSpec := { name := "fnStrict", fn := fun _ => fun
  | [d] => { results := [.lit (.bool true)], args := [d] }
  | _ => none }
def fnStrictRow : OpenClaim := { program := "ytmeobalddjembaa", sum := "a2cee872d3756bf0abf1a1b8da0b91622a182b837b8da5fcea7e2c204ce023f9", func := "loop.example/g00148/laws.FnStrict", spec := "fnStrict", unfollowed := true, recurses := true, apart := false }
def FnStrictSaid : Prop := fnStrictRow.holds Try.pinned (OpenSpec.ofChange fnStrictSpec)

/-- ITS FALSE NEIGHBOUR: 'it returns false'. Refute it at one input. -/
def fnStrictWrong : ChangeSpec := { name := "fnStrict", fn := fun _ => fun
  | [d] => { results := [.lit (.bool false)], args := [d] }
  | _ => none }
def FnStrictWrongFalsely : Prop := fnStrictRow.holds Try.pinned (OpenSpec.ofChange fnStrictWrong)

/- THE SECOND FORM. 'bulk': how many values and letters a reading holds, each counted each time it is reached (what is shared counts as often as it is met; a slice's spare places count too). A statement '..UptoSaid' is the law's where the arguments, and the package variables that the reading takes, are together of bulk at most 1048576: NARROWER than '..Said'. Prove '..Said' where nothing that the law and all that it calls make is longer than what came in: it says more and counts as full. Else prove '..UptoSaid'. A law counts once. -/
mutual
def uptoBulk {H : Type} : DataW H → Nat
  | .lit (.string bytes) => bytes.length + 1
  | .lit _ => 1
  | .nil => 1
  | .ptr d => uptoBulk d + 1
  | .slice elems spare => uptoBulkAll elems + uptoBulkAll spare + 1
  | .agg parts => uptoBulkAll parts + 1
  | .iface _ d => uptoBulk d + 1
  | .map entries => uptoBulkEntries entries + 1
  | .held _ => 1
def uptoBulkAll {H : Type} : List (DataW H) → Nat
  | [] => 0
  | d :: r => uptoBulk d + uptoBulkAll r
def uptoBulkEntries {H : Type} : List (Lit × DataW H) → Nat
  | [] => 0
  | x :: r => uptoBulkEntry x + uptoBulkEntries r
def uptoBulkEntry {H : Type} : Lit × DataW H → Nat
  | (.string bytes, d) => bytes.length + uptoBulk d + 1
  | (_, d) => uptoBulk d + 1
 end
def uptoSmall : (H : Type) → List (DataW H) → Bool := fun _ ds => decide (uptoBulkAll ds ≤ 1048576)
def OpenSpec.upto (s : _root_.Go.ChangeSpec) : _root_.Go.OpenSpec := { _root_.Go.OpenSpec.ofChange s with cond := some uptoSmall }

/-- 'laws.FnExactTreeOk', WHERE WHAT IT READS IS OF BULK AT MOST 1048576: true; the input reads as it did. -/
def fnExactTreeOkUptoRow : OpenClaim := { program := "ytmeobalddjembaa", sum := "a2cee872d3756bf0abf1a1b8da0b91622a182b837b8da5fcea7e2c204ce023f9", func := "loop.example/g00148/laws.FnExactTreeOk", spec := "fnExactTreeOk", unfollowed := true, recurses := true, apart := false, narrowed := true }
def FnExactTreeOkUptoSaid : Prop := fnExactTreeOkUptoRow.holds Try.pinned (OpenSpec.upto fnExactTreeOkSpec)

/-- 'laws.FnExactChildren', WHERE WHAT IT READS IS OF BULK AT MOST 1048576: true; the input reads as it did. -/
def fnExactChildrenUptoRow : OpenClaim := { program := "ytmeobalddjembaa", sum := "a2cee872d3756bf0abf1a1b8da0b91622a182b837b8da5fcea7e2c204ce023f9", func := "loop.example/g00148/laws.FnExactChildren", spec := "fnExactChildren", unfollowed := true, recurses := true, apart := false, narrowed := true }
def FnExactChildrenUptoSaid : Prop := fnExactChildrenUptoRow.holds Try.pinned (OpenSpec.upto fnExactChildrenSpec)

/-- 'laws.FnExactPart', WHERE WHAT IT READS IS OF BULK AT MOST 1048576: true; the input reads as it did. -/
def fnExactPartUptoRow : OpenClaim := { program := "ytmeobalddjembaa", sum := "a2cee872d3756bf0abf1a1b8da0b91622a182b837b8da5fcea7e2c204ce023f9", func := "loop.example/g00148/laws.FnExactPart", spec := "fnExactPart", unfollowed := true, recurses := true, apart := false, narrowed := true }
def FnExactPartUptoSaid : Prop := fnExactPartUptoRow.holds Try.pinned (OpenSpec.upto fnExactPartSpec)

/-- 'laws.FnExactReadDer', WHERE WHAT IT READS IS OF BULK AT MOST 1048576: true; the input reads as it did. -/
def fnExactReadDerUptoRow : OpenClaim := { program := "ytmeobalddjembaa", sum := "a2cee872d3756bf0abf1a1b8da0b91622a182b837b8da5fcea7e2c204ce023f9", func := "loop.example/g00148/laws.FnExactReadDer", spec := "fnExactReadDer", recurses := true, apart := false, narrowed := true }
def FnExactReadDerUptoSaid : Prop := fnExactReadDerUptoRow.holds Try.pinned (OpenSpec.upto fnExactReadDerSpec)

/-- 'laws.FnTrees', WHERE WHAT IT READS IS OF BULK AT MOST 1048576: true; the input reads as it did. -/
def fnTreesUptoRow : OpenClaim := { program := "ytmeobalddjembaa", sum := "a2cee872d3756bf0abf1a1b8da0b91622a182b837b8da5fcea7e2c204ce023f9", func := "loop.example/g00148/laws.FnTrees", spec := "fnTrees", unfollowed := true, recurses := true, apart := false, narrowed := true }
def FnTreesUptoSaid : Prop := fnTreesUptoRow.holds Try.pinned (OpenSpec.upto fnTreesSpec)

/-- 'laws.FnExactWriteDer', WHERE WHAT IT READS IS OF BULK AT MOST 1048576: true; the input reads as it did. -/
def fnExactWriteDerUptoRow : OpenClaim := { program := "ytmeobalddjembaa", sum := "a2cee872d3756bf0abf1a1b8da0b91622a182b837b8da5fcea7e2c204ce023f9", func := "loop.example/g00148/laws.FnExactWriteDer", spec := "fnExactWriteDer", unfollowed := true, recurses := true, apart := false, narrowed := true }
def FnExactWriteDerUptoSaid : Prop := fnExactWriteDerUptoRow.holds Try.pinned (OpenSpec.upto fnExactWriteDerSpec)

/-- 'laws.FnStrict', WHERE WHAT IT READS IS OF BULK AT MOST 1048576: true; the input reads as it did. -/
def fnStrictUptoRow : OpenClaim := { program := "ytmeobalddjembaa", sum := "a2cee872d3756bf0abf1a1b8da0b91622a182b837b8da5fcea7e2c204ce023f9", func := "loop.example/g00148/laws.FnStrict", spec := "fnStrict", unfollowed := true, recurses := true, apart := false, narrowed := true }
def FnStrictUptoSaid : Prop := fnStrictUptoRow.holds Try.pinned (OpenSpec.upto fnStrictSpec)

end Rows
end Go.Proofs.Ytmeobalddjembaa
