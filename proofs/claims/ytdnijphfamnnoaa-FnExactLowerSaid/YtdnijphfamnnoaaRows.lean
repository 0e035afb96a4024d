/-
  No cell of these rows narrows 'for every input' (looked for: loops, veiled, ifaces, maps, wideKeys, modest, calm, conditions, laid).
  DERIVED. THE GIVEN ROWS OF THIS SEAT. 12 by the template 'for every input the law returns true; each argument reads behind the call as it read before'; 0 by the template 'total and deterministic' (their statements: YtdnijphfamnnoaaTotals.lean).
  GIVEN WITH THE SEED: the statements are not yours to turn. If you find one false, say at which input.
  Laid BY PROGRAM, IN A SANDBOX (cutbox-rows.mjs): the forced cells as the released guide's own fill.sh prints them over the translation a8eb3f798e0ac668… (all of the seat's roots in one cut). By AI agents, Wed Nov 11 2026. No macro, syntax, notation, axiom, sorry.
-/
import Derived.Test.YtdnijphfamnnoaaChecked
import GoSem.Claim
import GoSem.ClaimJoined
import GoSem.ClaimMapViews
import Derived.JoinedTies
import Derived.KernelRfl
namespace Go.Proofs.Ytdnijphfamnnoaa
/- THE CELL 'sum', in the pinned program and in every row, IS THE sha256 OF THE DUMP (.gsa) THAT YtdnijphfamnnoaaProg.lean LOADS. Nothing in Lean hashes anything: it is a label: what it is worth is what the hold of that sum in a sandbox is worth. -/
noncomputable def Try.pinned : Pinned := { name := "ytdnijphfamnnoaa", sum := "a8eb3f798e0ac668da55fbef9827d9678d90d04df9d9f35fab21d2721fad2c7b", checked := Try.checked }
namespace Rows
def none {H : Type} : Left H := { results := [], args := [] }

/-- 'laws.FnExactWithin': WHATEVER THE INPUT: true; the input reads as it did. -/
def fnExactWithinSpec : ChangeSpec := { name := "fnExactWithin", fn := fun _ => fun
  | [d1, d2, d3] => { results := [.lit (.bool true)], args := [d1, d2, d3] }
  | _ => none }
def fnExactWithinRow : OpenClaim := { program := "ytdnijphfamnnoaa", sum := "a8eb3f798e0ac668da55fbef9827d9678d90d04df9d9f35fab21d2721fad2c7b", func := "loop.example/g00148/laws.FnExactWithin", spec := "fnExactWithin", apart := false }
def FnExactWithinSaid : Prop := fnExactWithinRow.holds Try.pinned (OpenSpec.ofChange fnExactWithinSpec)

/-- ITS FALSE NEIGHBOUR: 'it returns false'. Refute it at one input. -/
def fnExactWithinWrong : ChangeSpec := { name := "fnExactWithin", fn := fun _ => fun
  | [d1, d2, d3] => { results := [.lit (.bool false)], args := [d1, d2, d3] }
  | _ => none }
def FnExactWithinWrongFalsely : Prop := fnExactWithinRow.holds Try.pinned (OpenSpec.ofChange fnExactWithinWrong)

/-- 'laws.FnExactSpan': WHATEVER THE INPUT: true; the input reads as it did. -/
def fnExactSpanSpec : ChangeSpec := { name := "fnExactSpan", fn := fun _ => fun
  | [d1, d2] => { results := [.lit (.bool true)], args := [d1, d2] }
  | _ => none }
def fnExactSpanRow : OpenClaim := { program := "ytdnijphfamnnoaa", sum := "a8eb3f798e0ac668da55fbef9827d9678d90d04df9d9f35fab21d2721fad2c7b", func := "loop.example/g00148/laws.FnExactSpan", spec := "fnExactSpan", apart := false }
def FnExactSpanSaid : Prop := fnExactSpanRow.holds Try.pinned (OpenSpec.ofChange fnExactSpanSpec)

/-- ITS FALSE NEIGHBOUR: 'it returns false'. Refute it at one input. -/
def fnExactSpanWrong : ChangeSpec := { name := "fnExactSpan", fn := fun _ => fun
  | [d1, d2] => { results := [.lit (.bool false)], args := [d1, d2] }
  | _ => none }
def FnExactSpanWrongFalsely : Prop := fnExactSpanRow.holds Try.pinned (OpenSpec.ofChange fnExactSpanWrong)

/-- 'laws.FnExactLower': WHATEVER THE INPUT: true; the input reads as it did. -/
def fnExactLowerSpec : ChangeSpec := { name := "fnExactLower", fn := fun _ => fun
  | [d] => { results := [.lit (.bool true)], args := [d] }
  | _ => none }
def fnExactLowerRow : OpenClaim := { program := "ytdnijphfamnnoaa", sum := "a8eb3f798e0ac668da55fbef9827d9678d90d04df9d9f35fab21d2721fad2c7b", func := "loop.example/g00148/laws.FnExactLower", spec := "fnExactLower", apart := false }
def FnExactLowerSaid : Prop := fnExactLowerRow.holds Try.pinned (OpenSpec.ofChange fnExactLowerSpec)

/-- ITS FALSE NEIGHBOUR: 'it returns false'. Refute it at one input. -/
def fnExactLowerWrong : ChangeSpec := { name := "fnExactLower", fn := fun _ => fun
  | [d] => { results := [.lit (.bool false)], args := [d] }
  | _ => none }
def FnExactLowerWrongFalsely : Prop := fnExactLowerRow.holds Try.pinned (OpenSpec.ofChange fnExactLowerWrong)

/-- 'laws.FnExactReduce': WHATEVER THE INPUT: true; the input reads as it did. -/
def fnExactReduceSpec : ChangeSpec := { name := "fnExactReduce", fn := fun _ => fun
  | [d1, d2] => { results := [.lit (.bool true)], args := [d1, d2] }
  | _ => none }
def fnExactReduceRow : OpenClaim := { program := "ytdnijphfamnnoaa", sum := "a8eb3f798e0ac668da55fbef9827d9678d90d04df9d9f35fab21d2721fad2c7b", func := "loop.example/g00148/laws.FnExactReduce", spec := "fnExactReduce", apart := false }
def FnExactReduceSaid : Prop := fnExactReduceRow.holds Try.pinned (OpenSpec.ofChange fnExactReduceSpec)

/-- ITS FALSE NEIGHBOUR: 'it returns false'. Refute it at one input. -/
def fnExactReduceWrong : ChangeSpec := { name := "fnExactReduce", fn := fun _ => fun
  | [d1, d2] => { results := [.lit (.bool false)], args := [d1, d2] }
  | _ => none }
def FnExactReduceWrongFalsely : Prop := fnExactReduceRow.holds Try.pinned (OpenSpec.ofChange fnExactReduceWrong)

/-- 'laws.FnExactIntBytes': WHATEVER THE INPUT: true; the input reads as it did. -/
def fnExactIntBytesSpec : ChangeSpec := { name := "fnExactIntBytes", fn := fun _ => fun
  | [d] => { results := [.lit (.bool true)], args := [d] }
  | _ => none }
def fnExactIntBytesRow : OpenClaim := { program := "ytdnijphfamnnoaa", sum := "a8eb3f798e0ac668da55fbef9827d9678d90d04df9d9f35fab21d2721fad2c7b", func := "loop.example/g00148/laws.FnExactIntBytes", spec := "fnExactIntBytes", apart := false }
def FnExactIntBytesSaid : Prop := fnExactIntBytesRow.holds Try.pinned (OpenSpec.ofChange fnExactIntBytesSpec)

/-- ITS FALSE NEIGHBOUR: 'it returns false'. Refute it at one input. -/
def fnExactIntBytesWrong : ChangeSpec := { name := "fnExactIntBytes", fn := fun _ => fun
  | [d] => { results := [.lit (.bool false)], args := [d] }
  | _ => none }
def FnExactIntBytesWrongFalsely : Prop := fnExactIntBytesRow.holds Try.pinned (OpenSpec.ofChange fnExactIntBytesWrong)

/-- 'laws.FnExactInNet': WHATEVER THE INPUT: true; the input reads as it did. -/
def fnExactInNetSpec : ChangeSpec := { name := "fnExactInNet", fn := fun _ => fun
  | [d1, d2, d3] => { results := [.lit (.bool true)], args := [d1, d2, d3] }
  | _ => none }
def fnExactInNetRow : OpenClaim := { program := "ytdnijphfamnnoaa", sum := "a8eb3f798e0ac668da55fbef9827d9678d90d04df9d9f35fab21d2721fad2c7b", func := "loop.example/g00148/laws.FnExactInNet", spec := "fnExactInNet", apart := false }
def FnExactInNetSaid : Prop := fnExactInNetRow.holds Try.pinned (OpenSpec.ofChange fnExactInNetSpec)

/-- ITS FALSE NEIGHBOUR: 'it returns false'. Refute it at one input. -/
def fnExactInNetWrong : ChangeSpec := { name := "fnExactInNet", fn := fun _ => fun
  | [d1, d2, d3] => { results := [.lit (.bool false)], args := [d1, d2, d3] }
  | _ => none }
def FnExactInNetWrongFalsely : Prop := fnExactInNetRow.holds Try.pinned (OpenSpec.ofChange fnExactInNetWrong)

/-- 'laws.FnExactTimeOf': WHATEVER THE INPUT: true; the input reads as it did. -/
def fnExactTimeOfSpec : ChangeSpec := { name := "fnExactTimeOf", fn := fun _ => fun
  | [d1, d2, d3, d4] => { results := [.lit (.bool true)], args := [d1, d2, d3, d4] }
  | _ => none }
def fnExactTimeOfRow : OpenClaim := { program := "ytdnijphfamnnoaa", sum := "a8eb3f798e0ac668da55fbef9827d9678d90d04df9d9f35fab21d2721fad2c7b", func := "loop.example/g00148/laws.FnExactTimeOf", spec := "fnExactTimeOf", apart := false }
def FnExactTimeOfSaid : Prop := fnExactTimeOfRow.holds Try.pinned (OpenSpec.ofChange fnExactTimeOfSpec)

/-- ITS FALSE NEIGHBOUR: 'it returns false'. Refute it at one input. -/
def fnExactTimeOfWrong : ChangeSpec := { name := "fnExactTimeOf", fn := fun _ => fun
  | [d1, d2, d3, d4] => { results := [.lit (.bool false)], args := [d1, d2, d3, d4] }
  | _ => none }
def FnExactTimeOfWrongFalsely : Prop := fnExactTimeOfRow.holds Try.pinned (OpenSpec.ofChange fnExactTimeOfWrong)

/-- 'laws.FnExactDayOf': WHATEVER THE INPUT: true; the input reads as it did. -/
def fnExactDayOfSpec : ChangeSpec := { name := "fnExactDayOf", fn := fun _ => fun
  | [d] => { results := [.lit (.bool true)], args := [d] }
  | _ => none }
def fnExactDayOfRow : OpenClaim := { program := "ytdnijphfamnnoaa", sum := "a8eb3f798e0ac668da55fbef9827d9678d90d04df9d9f35fab21d2721fad2c7b", func := "loop.example/g00148/laws.FnExactDayOf", spec := "fnExactDayOf", apart := false }
def FnExactDayOfSaid : Prop := fnExactDayOfRow.holds Try.pinned (OpenSpec.ofChange fnExactDayOfSpec)

/-- ITS FALSE NEIGHBOUR: 'it returns false'. Refute it at one input. -/
def fnExactDayOfWrong : ChangeSpec := { name := "fnExactDayOf", fn := fun _ => fun
  | [d] => { results := [.lit (.bool false)], args := [d] }
  | _ => none }
def FnExactDayOfWrongFalsely : Prop := fnExactDayOfRow.holds Try.pinned (OpenSpec.ofChange fnExactDayOfWrong)

/-- 'laws.FnExactReadIntBytes': WHATEVER THE INPUT: true; the input reads as it did. -/
def fnExactReadIntBytesSpec : ChangeSpec := { name := "fnExactReadIntBytes", fn := fun _ => fun
  | [d] => { results := [.lit (.bool true)], args := [d] }
  | _ => none }
def fnExactReadIntBytesRow : OpenClaim := { program := "ytdnijphfamnnoaa", sum := "a8eb3f798e0ac668da55fbef9827d9678d90d04df9d9f35fab21d2721fad2c7b", func := "loop.example/g00148/laws.FnExactReadIntBytes", spec := "fnExactReadIntBytes", apart := false }
def FnExactReadIntBytesSaid : Prop := fnExactReadIntBytesRow.holds Try.pinned (OpenSpec.ofChange fnExactReadIntBytesSpec)

/-- ITS FALSE NEIGHBOUR: 'it returns false'. Refute it at one input. -/
def fnExactReadIntBytesWrong : ChangeSpec := { name := "fnExactReadIntBytes", fn := fun _ => fun
  | [d] => { results := [.lit (.bool false)], args := [d] }
  | _ => none }
def FnExactReadIntBytesWrongFalsely : Prop := fnExactReadIntBytesRow.holds Try.pinned (OpenSpec.ofChange fnExactReadIntBytesWrong)

/-- 'laws.FnExactLongTime': WHATEVER THE INPUT: true; the input reads as it did. -/
def fnExactLongTimeSpec : ChangeSpec := { name := "fnExactLongTime", fn := fun _ => fun
  | [d] => { results := [.lit (.bool true)], args := [d] }
  | _ => none }
def fnExactLongTimeRow : OpenClaim := { program := "ytdnijphfamnnoaa", sum := "a8eb3f798e0ac668da55fbef9827d9678d90d04df9d9f35fab21d2721fad2c7b", func := "loop.example/g00148/laws.FnExactLongTime", spec := "fnExactLongTime", apart := false }
def FnExactLongTimeSaid : Prop := fnExactLongTimeRow.holds Try.pinned (OpenSpec.ofChange fnExactLongTimeSpec)

/-- ITS FALSE NEIGHBOUR: 'it returns false'. Refute it at one input. -/
def fnExactLongTimeWrong : ChangeSpec := { name := "fnExactLongTime", fn := fun _ => fun
  | [d] => { results := [.lit (.bool false)], args := [d] }
  | _ => none }
def FnExactLongTimeWrongFalsely : Prop := fnExactLongTimeRow.holds Try.pinned (OpenSpec.ofChange fnExactLongTimeWrong)

/-- 'laws.FnExactShortTime': WHATEVER THE INPUT: true; the input reads as it did. -/
def fnExactShortTimeSpec : ChangeSpec := { name := "fnExactShortTime", fn := fun _ => fun
  | [d] => { results := [.lit (.bool true)], args := [d] }
  | _ => none }
def fnExactShortTimeRow : OpenClaim := { program := "ytdnijphfamnnoaa", sum := "a8eb3f798e0ac668da55fbef9827d9678d90d04df9d9f35fab21d2721fad2c7b", func := "loop.example/g00148/laws.FnExactShortTime", spec := "fnExactShortTime", apart := false }
def FnExactShortTimeSaid : Prop := fnExactShortTimeRow.holds Try.pinned (OpenSpec.ofChange fnExactShortTimeSpec)

/-- ITS FALSE NEIGHBOUR: 'it returns false'. Refute it at one input. -/
def fnExactShortTimeWrong : ChangeSpec := { name := "fnExactShortTime", fn := fun _ => fun
  | [d] => { results := [.lit (.bool false)], args := [d] }
  | _ => none }
def FnExactShortTimeWrongFalsely : Prop := fnExactShortTimeRow.holds Try.pinned (OpenSpec.ofChange fnExactShortTimeWrong)

/-- 'laws.FnExactReadTime': WHATEVER THE INPUT: true; the input reads as it did. -/
def fnExactReadTimeSpec : ChangeSpec := { name := "fnExactReadTime", fn := fun _ => fun
  | [d] => { results := [.lit (.bool true)], args := [d] }
  | _ => none }
def fnExactReadTimeRow : OpenClaim := { program := "ytdnijphfamnnoaa", sum := "a8eb3f798e0ac668da55fbef9827d9678d90d04df9d9f35fab21d2721fad2c7b", func := "loop.example/g00148/laws.FnExactReadTime", spec := "fnExactReadTime", apart := false }
def FnExactReadTimeSaid : Prop := fnExactReadTimeRow.holds Try.pinned (OpenSpec.ofChange fnExactReadTimeSpec)

/-- ITS FALSE NEIGHBOUR: 'it returns false'. Refute it at one input. -/
def fnExactReadTimeWrong : ChangeSpec := { name := "fnExactReadTime", fn := fun _ => fun
  | [d] => { results := [.lit (.bool false)], args := [d] }
  | _ => none }
def FnExactReadTimeWrongFalsely : Prop := fnExactReadTimeRow.holds Try.pinned (OpenSpec.ofChange fnExactReadTimeWrong)

/- THE SECOND FORM. 'bulk': how many values and letters a reading holds, each counted each time it is reached (what is shared counts as often as it is met; a slice's spare places count too). A statement '..UptoSaid' is the law's where the arguments, and the package variables that the reading takes, are together of bulk at most 1048576: NARROWER than '..Said'. Prove '..Said' where nothing that the law and all that it calls make is longer than what came in: it says more and counts as full. Else prove '..UptoSaid'. A law counts once. -/
mutual
def uptoBulk {H : Type} : DataW H → Nat
  | .lit (.string bytes) => bytes.length + 1
  | .lit _ => 1
  | .nil => 1
  | .ptr d => uptoBulk d + 1
  | .slice elems spare => uptoBulkAll elems + uptoBulkAll spare + 1
  | .agg parts => uptoBulkAll parts + 1
  | .iface _ d => uptoBulk d + 1
  | .map entries => uptoBulkEntries entries + 1
  | .held _ => 1
def uptoBulkAll {H : Type} : List (DataW H) → Nat
  | [] => 0
  | d :: r => uptoBulk d + uptoBulkAll r
def uptoBulkEntries {H : Type} : List (Lit × DataW H) → Nat
  | [] => 0
  | x :: r => uptoBulkEntry x + uptoBulkEntries r
def uptoBulkEntry {H : Type} : Lit × DataW H → Nat
  | (.string bytes, d) => bytes.length + uptoBulk d + 1
  | (_, d) => uptoBulk d + 1
 end
def uptoSmall : (H : Type) → List (DataW H) → Bool := fun _ ds => decide (uptoBulkAll ds ≤ 1048576)
def OpenSpec.upto (s : _root_.Go.ChangeSpec) : _root_.Go.OpenSpec := { _root_.Go.OpenSpec.ofChange s with cond := some uptoSmall }

/-- 'laws.FnExactWithin', WHERE WHAT IT READS IS OF BULK AT MOST 1048576: true; the input reads as it did. -/
def fnExactWithinUptoRow : OpenClaim := { program := "ytdnijphfamnnoaa", sum := "a8eb3f798e0ac668da55fbef9827d9678d90d04df9d9f35fab21d2721fad2c7b", func := "loop.example/g00148/laws.FnExactWithin", spec := "fnExactWithin", apart := false, narrowed := true }
def FnExactWithinUptoSaid : Prop := fnExactWithinUptoRow.holds Try.pinned (OpenSpec.upto fnExactWithinSpec)

/-- 'laws.FnExactSpan', WHERE WHAT IT READS IS OF BULK AT MOST 1048576: true; the input reads as it did. -/
def fnExactSpanUptoRow : OpenClaim := { program := "ytdnijphfamnnoaa", sum := "a8eb3f798e0ac668da55fbef9827d9678d90d04df9d9f35fab21d2721fad2c7b", func := "loop.example/g00148/laws.FnExactSpan", spec := "fnExactSpan", apart := false, narrowed := true }
def FnExactSpanUptoSaid : Prop := fnExactSpanUptoRow.holds Try.pinned (OpenSpec.upto fnExactSpanSpec)

/-- 'laws.FnExactLower', WHERE WHAT IT READS IS OF BULK AT MOST 1048576: true; the input reads as it did. -/
def fnExactLowerUptoRow : OpenClaim := { program := "ytdnijphfamnnoaa", sum := "a8eb3f798e0ac668da55fbef9827d9678d90d04df9d9f35fab21d2721fad2c7b", func := "loop.example/g00148/laws.FnExactLower", spec := "fnExactLower", apart := false, narrowed := true }
def FnExactLowerUptoSaid : Prop := fnExactLowerUptoRow.holds Try.pinned (OpenSpec.upto fnExactLowerSpec)

/-- 'laws.FnExactReduce', WHERE WHAT IT READS IS OF BULK AT MOST 1048576: true; the input reads as it did. -/
def fnExactReduceUptoRow : OpenClaim := { program := "ytdnijphfamnnoaa", sum := "a8eb3f798e0ac668da55fbef9827d9678d90d04df9d9f35fab21d2721fad2c7b", func := "loop.example/g00148/laws.FnExactReduce", spec := "fnExactReduce", apart := false, narrowed := true }
def FnExactReduceUptoSaid : Prop := fnExactReduceUptoRow.holds Try.pinned (OpenSpec.upto fnExactReduceSpec)

/-- 'laws.FnExactIntBytes', WHERE WHAT IT READS IS OF BULK AT MOST 1048576: true; the input reads as it did. -/
def fnExactIntBytesUptoRow : OpenClaim := { program := "ytdnijphfamnnoaa", sum := "a8eb3f798e0ac668da55fbef9827d9678d90d04df9d9f35fab21d2721fad2c7b", func := "loop.example/g00148/laws.FnExactIntBytes", spec := "fnExactIntBytes", apart := false, narrowed := true }
def FnExactIntBytesUptoSaid : Prop := fnExactIntBytesUptoRow.holds Try.pinned (OpenSpec.upto fnExactIntBytesSpec)

/-- 'laws.FnExactInNet', WHERE WHAT IT READS IS OF BULK AT MOST 1048576: true; the input reads as it did. -/
def fnExactInNetUptoRow : OpenClaim := { program := "ytdnijphfamnnoaa", sum := "a8eb3f798e0ac668da55fbef9827d9678d90d04df9d9f35fab21d2721fad2c7b", func := "loop.example/g00148/laws.FnExactInNet", spec := "fnExactInNet", apart := false, narrowed := true }
def FnExactInNetUptoSaid : Prop := fnExactInNetUptoRow.holds Try.pinned (OpenSpec.upto fnExactInNetSpec)

/-- 'laws.FnExactTimeOf', WHERE WHAT IT READS IS OF BULK AT MOST 1048576: true; the input reads as it did. -/
def fnExactTimeOfUptoRow : OpenClaim := { program := "ytdnijphfamnnoaa", sum := "a8eb3f798e0ac668da55fbef9827d9678d90d04df9d9f35fab21d2721fad2c7b", func := "loop.example/g00148/laws.FnExactTimeOf", spec := "fnExactTimeOf", apart := false, narrowed := true }
def FnExactTimeOfUptoSaid : Prop := fnExactTimeOfUptoRow.holds Try.pinned (OpenSpec.upto fnExactTimeOfSpec)

/-- 'laws.FnExactDayOf', WHERE WHAT IT READS IS OF BULK AT MOST 1048576: true; the input reads as it did. -/
def fnExactDayOfUptoRow : OpenClaim := { program := "ytdnijphfamnnoaa", sum := "a8eb3f798e0ac668da55fbef9827d9678d90d04df9d9f35fab21d2721fad2c7b", func := "loop.example/g00148/laws.FnExactDayOf", spec := "fnExactDayOf", apart := false, narrowed := true }
def FnExactDayOfUptoSaid : Prop := fnExactDayOfUptoRow.holds Try.pinned (OpenSpec.upto fnExactDayOfSpec)

/-- 'laws.FnExactReadIntBytes', WHERE WHAT IT READS IS OF BULK AT MOST 1048576: true; the input reads as it did. -/
def fnExactReadIntBytesUptoRow : OpenClaim := { program := "ytdnijphfamnnoaa", sum := "a8eb3f798e0ac668da55fbef9827d9678d90d04df9d9f35fab21d2721fad2c7b", func := "loop.example/g00148/laws.FnExactReadIntBytes", spec := "fnExactReadIntBytes", apart := false, narrowed := true }
def FnExactReadIntBytesUptoSaid : Prop := fnExactReadIntBytesUptoRow.holds Try.pinned (OpenSpec.upto fnExactReadIntBytesSpec)

/-- 'laws.FnExactLongTime', WHERE WHAT IT READS IS OF BULK AT MOST 1048576: true; the input reads as it did. -/
def fnExactLongTimeUptoRow : OpenClaim := { program := "ytdnijphfamnnoaa", sum := "a8eb3f798e0ac668da55fbef9827d9678d90d04df9d9f35fab21d2721fad2c7b", func := "loop.example/g00148/laws.FnExactLongTime", spec := "fnExactLongTime", apart := false, narrowed := true }
def FnExactLongTimeUptoSaid : Prop := fnExactLongTimeUptoRow.holds Try.pinned (OpenSpec.upto fnExactLongTimeSpec)

/-- 'laws.FnExactShortTime', WHERE WHAT IT READS IS OF BULK AT MOST 1048576: true; the input reads as it did. -/
def fnExactShortTimeUptoRow : OpenClaim := { program := "ytdnijphfamnnoaa", sum := "a8eb3f798e0ac668da55fbef9827d9678d90d04df9d9f35fab21d2721fad2c7b", func := "loop.example/g00148/laws.FnExactShortTime", spec := "fnExactShortTime", apart := false, narrowed := true }
def FnExactShortTimeUptoSaid : Prop := fnExactShortTimeUptoRow.holds Try.pinned (OpenSpec.upto fnExactShortTimeSpec)

/-- 'laws.FnExactReadTime', WHERE WHAT IT READS IS OF BULK AT MOST 1048576: true; the input reads as it did. -/
def fnExactReadTimeUptoRow : OpenClaim := { program := "ytdnijphfamnnoaa", sum := "a8eb3f798e0ac668da55fbef9827d9678d90d04df9d9f35fab21d2721fad2c7b", func := "loop.example/g00148/laws.FnExactReadTime", spec := "fnExactReadTime", apart := false, narrowed := true }
def FnExactReadTimeUptoSaid : Prop := fnExactReadTimeUptoRow.holds Try.pinned (OpenSpec.upto fnExactReadTimeSpec)

end Rows
end Go.Proofs.Ytdnijphfamnnoaa
