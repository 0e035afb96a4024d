/-
  No cell of these rows narrows 'for every input' (looked for: loops, veiled, ifaces, maps, wideKeys, modest, calm, conditions, laid).
  DERIVED. THE GIVEN ROWS OF THIS SEAT. 5 by the template 'for every input the law returns true; each argument reads behind the call as it read before'; 0 by the template 'total and deterministic' (their statements: YtgfhbkhbnmgogaaTotals.lean).
  GIVEN WITH THE SEED: the statements are not yours to turn. If you find one false, say at which input.
  Laid BY PROGRAM, IN A SANDBOX (cutbox-rows.mjs): the forced cells as the released guide's own fill.sh prints them over the translation 9a11937945bca827… (all of the seat's roots in one cut). By AI agents, Wed Nov 11 2026. No macro, syntax, notation, axiom, sorry.
-/
import Derived.Test.YtgfhbkhbnmgogaaChecked
import GoSem.Claim
import GoSem.ClaimJoined
import GoSem.ClaimMapViews
import Derived.JoinedTies
import Derived.KernelRfl
namespace Go.Proofs.Ytgfhbkhbnmgogaa
/- THE CELL 'sum', in the pinned program and in every row, IS THE sha256 OF THE DUMP (.gsa) THAT YtgfhbkhbnmgogaaProg.lean LOADS. Nothing in Lean hashes anything: it is a label: what it is worth is what the hold of that sum in a sandbox is worth. -/
noncomputable def Try.pinned : Pinned := { name := "ytgfhbkhbnmgogaa", sum := "9a11937945bca827a3a6b4c0f9a1d59016de42add9afad6acb7fe41bcb102566", checked := Try.checked }
namespace Rows
def none {H : Type} : Left H := { results := [], args := [] }

/-- 'laws.FnExactHmac': WHATEVER THE INPUT: true; the input reads as it did. -/
def fnExactHmacSpec : ChangeSpec := { name := "fnExactHmac", fn := fun _ => fun
  | [d1, d2] => { results := [.lit (.bool true)], args := [d1, d2] }
  | _ => none }
def fnExactHmacRow : OpenClaim := { program := "ytgfhbkhbnmgogaa", sum := "9a11937945bca827a3a6b4c0f9a1d59016de42add9afad6acb7fe41bcb102566", func := "loop.example/g00148/laws.FnExactHmac", spec := "fnExactHmac", unfollowed := true, recurses := true, apart := false }
def FnExactHmacSaid : Prop := fnExactHmacRow.holds Try.pinned (OpenSpec.ofChange fnExactHmacSpec)

/-- ITS FALSE NEIGHBOUR: 'it returns false'. Refute it at one input. -/
def fnExactHmacWrong : ChangeSpec := { name := "fnExactHmac", fn := fun _ => fun
  | [d1, d2] => { results := [.lit (.bool false)], args := [d1, d2] }
  | _ => none }
def FnExactHmacWrongFalsely : Prop := fnExactHmacRow.holds Try.pinned (OpenSpec.ofChange fnExactHmacWrong)

/-- 'laws.FnExactFeed': WHATEVER THE INPUT: true; the input reads as it did. -/
def fnExactFeedSpec : ChangeSpec := { name := "fnExactFeed", fn := fun _ => fun
  | [d1, d2] => { results := [.lit (.bool true)], args := [d1, d2] }
  | _ => none }
def fnExactFeedRow : OpenClaim := { program := "ytgfhbkhbnmgogaa", sum := "9a11937945bca827a3a6b4c0f9a1d59016de42add9afad6acb7fe41bcb102566", func := "loop.example/g00148/laws.FnExactFeed", spec := "fnExactFeed", unfollowed := true, recurses := true, apart := false }
def FnExactFeedSaid : Prop := fnExactFeedRow.holds Try.pinned (OpenSpec.ofChange fnExactFeedSpec)

/-- ITS FALSE NEIGHBOUR: 'it returns false'. Refute it at one input. -/
def fnExactFeedWrong : ChangeSpec := { name := "fnExactFeed", fn := fun _ => fun
  | [d1, d2] => { results := [.lit (.bool false)], args := [d1, d2] }
  | _ => none }
def FnExactFeedWrongFalsely : Prop := fnExactFeedRow.holds Try.pinned (OpenSpec.ofChange fnExactFeedWrong)

/-- 'laws.FnExactDigest': WHATEVER THE INPUT: true; the input reads as it did. -/
def fnExactDigestSpec : ChangeSpec := { name := "fnExactDigest", fn := fun _ => fun
  | [d] => { results := [.lit (.bool true)], args := [d] }
  | _ => none }
def fnExactDigestRow : OpenClaim := { program := "ytgfhbkhbnmgogaa", sum := "9a11937945bca827a3a6b4c0f9a1d59016de42add9afad6acb7fe41bcb102566", func := "loop.example/g00148/laws.FnExactDigest", spec := "fnExactDigest", unfollowed := true, recurses := true, apart := false }
def FnExactDigestSaid : Prop := fnExactDigestRow.holds Try.pinned (OpenSpec.ofChange fnExactDigestSpec)

/-- ITS FALSE NEIGHBOUR: 'it returns false'. Refute it at one input. -/
def fnExactDigestWrong : ChangeSpec := { name := "fnExactDigest", fn := fun _ => fun
  | [d] => { results := [.lit (.bool false)], args := [d] }
  | _ => none }
def FnExactDigestWrongFalsely : Prop := fnExactDigestRow.holds Try.pinned (OpenSpec.ofChange fnExactDigestWrong)

/-- 'laws.FnHmac': WHATEVER THE INPUT: true; the input reads as it did. -/
def fnHmacSpec : ChangeSpec := { name := "fnHmac", fn := fun _ => fun
  | [d] => { results := [.lit (.bool true)], args := [d] }
  | _ => none }
def fnHmacRow : OpenClaim := { program := "ytgfhbkhbnmgogaa", sum := "9a11937945bca827a3a6b4c0f9a1d59016de42add9afad6acb7fe41bcb102566", func := "loop.example/g00148/laws.FnHmac", spec := "fnHmac", unfollowed := true, recurses := true, apart := false }
def FnHmacSaid : Prop := fnHmacRow.holds Try.pinned (OpenSpec.ofChange fnHmacSpec)

/-- ITS FALSE NEIGHBOUR: 'it returns false'. Refute it at one input. -/
def fnHmacWrong : ChangeSpec := { name := "fnHmac", fn := fun _ => fun
  | [d] => { results := [.lit (.bool false)], args := [d] }
  | _ => none }
def FnHmacWrongFalsely : Prop := fnHmacRow.holds Try.pinned (OpenSpec.ofChange fnHmacWrong)

/-- 'laws.FnExactPssOk': WHATEVER THE INPUT: true; the input reads as it did. -/
def fnExactPssOkSpec : ChangeSpec := { name := "fnExactPssOk", fn := fun _ => fun
  | [d1, d2, d3] => { results := [.lit (.bool true)], args := [d1, d2, d3] }
  | _ => none }
def fnExactPssOkRow : OpenClaim := { program := "ytgfhbkhbnmgogaa", sum := "9a11937945bca827a3a6b4c0f9a1d59016de42add9afad6acb7fe41bcb102566", func := "loop.example/g00148/laws.FnExactPssOk", spec := "fnExactPssOk", unfollowed := true, recurses := true, apart := false }
def FnExactPssOkSaid : Prop := fnExactPssOkRow.holds Try.pinned (OpenSpec.ofChange fnExactPssOkSpec)

/-- ITS FALSE NEIGHBOUR: 'it returns false'. Refute it at one input. -/
def fnExactPssOkWrong : ChangeSpec := { name := "fnExactPssOk", fn := fun _ => fun
  | [d1, d2, d3] => { results := [.lit (.bool false)], args := [d1, d2, d3] }
  | _ => none }
def FnExactPssOkWrongFalsely : Prop := fnExactPssOkRow.holds Try.pinned (OpenSpec.ofChange fnExactPssOkWrong)

/- THE SECOND FORM. 'bulk': how many values and letters a reading holds, each counted each time it is reached (what is shared counts as often as it is met; a slice's spare places count too). A statement '..UptoSaid' is the law's where the arguments, and the package variables that the reading takes, are together of bulk at most 1048576: NARROWER than '..Said'. Prove '..Said' where nothing that the law and all that it calls make is longer than what came in: it says more and counts as full. Else prove '..UptoSaid'. A law counts once. -/
mutual
def uptoBulk {H : Type} : DataW H → Nat
  | .lit (.string bytes) => bytes.length + 1
  | .lit _ => 1
  | .nil => 1
  | .ptr d => uptoBulk d + 1
  | .slice elems spare => uptoBulkAll elems + uptoBulkAll spare + 1
  | .agg parts => uptoBulkAll parts + 1
  | .iface _ d => uptoBulk d + 1
  | .map entries => uptoBulkEntries entries + 1
  | .held _ => 1
def uptoBulkAll {H : Type} : List (DataW H) → Nat
  | [] => 0
  | d :: r => uptoBulk d + uptoBulkAll r
def uptoBulkEntries {H : Type} : List (Lit × DataW H) → Nat
  | [] => 0
  | x :: r => uptoBulkEntry x + uptoBulkEntries r
def uptoBulkEntry {H : Type} : Lit × DataW H → Nat
  | (.string bytes, d) => bytes.length + uptoBulk d + 1
  | (_, d) => uptoBulk d + 1
 end
def uptoSmall : (H : Type) → List (DataW H) → Bool := fun _ ds => decide (uptoBulkAll ds ≤ 1048576)
def OpenSpec.upto (s : _root_.Go.ChangeSpec) : _root_.Go.OpenSpec := { _root_.Go.OpenSpec.ofChange s with cond := some uptoSmall }

/-- 'laws.FnExactHmac', WHERE WHAT IT READS IS OF BULK AT MOST 1048576: true; the input reads as it did. -/
def fnExactHmacUptoRow : OpenClaim := { program := "ytgfhbkhbnmgogaa", sum := "9a11937945bca827a3a6b4c0f9a1d59016de42add9afad6acb7fe41bcb102566", func := "loop.example/g00148/laws.FnExactHmac", spec := "fnExactHmac", unfollowed := true, recurses := true, apart := false, narrowed := true }
def FnExactHmacUptoSaid : Prop := fnExactHmacUptoRow.holds Try.pinned (OpenSpec.upto fnExactHmacSpec)

/-- 'laws.FnExactFeed', WHERE WHAT IT READS IS OF BULK AT MOST 1048576: true; the input reads as it did. -/
def fnExactFeedUptoRow : OpenClaim := { program := "ytgfhbkhbnmgogaa", sum := "9a11937945bca827a3a6b4c0f9a1d59016de42add9afad6acb7fe41bcb102566", func := "loop.example/g00148/laws.FnExactFeed", spec := "fnExactFeed", unfollowed := true, recurses := true, apart := false, narrowed := true }
def FnExactFeedUptoSaid : Prop := fnExactFeedUptoRow.holds Try.pinned (OpenSpec.upto fnExactFeedSpec)

/-- 'laws.FnExactDigest', WHERE WHAT IT READS IS OF BULK AT MOST 1048576: true; the input reads as it did. -/
def fnExactDigestUptoRow : OpenClaim := { program := "ytgfhbkhbnmgogaa", sum := "9a11937945bca827a3a6b4c0f9a1d59016de42add9afad6acb7fe41bcb102566", func := "loop.example/g00148/laws.FnExactDigest", spec := "fnExactDigest", unfollowed := true, recurses := true, apart := false, narrowed := true }
def FnExactDigestUptoSaid : Prop := fnExactDigestUptoRow.holds Try.pinned (OpenSpec.upto fnExactDigestSpec)

/-- 'laws.FnHmac', WHERE WHAT IT READS IS OF BULK AT MOST 1048576: true; the input reads as it did. -/
def fnHmacUptoRow : OpenClaim := { program := "ytgfhbkhbnmgogaa", sum := "9a11937945bca827a3a6b4c0f9a1d59016de42add9afad6acb7fe41bcb102566", func := "loop.example/g00148/laws.FnHmac", spec := "fnHmac", unfollowed := true, recurses := true, apart := false, narrowed := true }
def FnHmacUptoSaid : Prop := fnHmacUptoRow.holds Try.pinned (OpenSpec.upto fnHmacSpec)

/-- 'laws.FnExactPssOk', WHERE WHAT IT READS IS OF BULK AT MOST 1048576: true; the input reads as it did. -/
def fnExactPssOkUptoRow : OpenClaim := { program := "ytgfhbkhbnmgogaa", sum := "9a11937945bca827a3a6b4c0f9a1d59016de42add9afad6acb7fe41bcb102566", func := "loop.example/g00148/laws.FnExactPssOk", spec := "fnExactPssOk", unfollowed := true, recurses := true, apart := false, narrowed := true }
def FnExactPssOkUptoSaid : Prop := fnExactPssOkUptoRow.holds Try.pinned (OpenSpec.upto fnExactPssOkSpec)

end Rows
end Go.Proofs.Ytgfhbkhbnmgogaa
