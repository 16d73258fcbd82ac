/-
  No cell of these rows narrows 'for every input' (looked for: loops, veiled, ifaces, maps, wideKeys, modest, calm, conditions, laid).
  DERIVED. THE GIVEN ROWS OF THIS SEAT. 8 by the template 'for every input the law returns true; each argument reads behind the call as it read before'; 0 by the template 'total and deterministic' (their statements: YthkdofflfaikgaaTotals.lean).
  GIVEN WITH THE SEED: the statements are not yours to turn. If you find one false, say at which input.
  Laid BY PROGRAM, IN A SANDBOX (cutbox-rows.mjs): the forced cells as the released guide's own fill.sh prints them over the translation 7104e0f615558a20… (all of the seat's roots in one cut). By AI agents, Wed Nov 11 2026. No macro, syntax, notation, axiom, sorry.
-/
import Derived.Test.YthkdofflfaikgaaChecked
import GoSem.Claim
import GoSem.ClaimJoined
import GoSem.ClaimMapViews
import Derived.JoinedTies
import Derived.KernelRfl
namespace Go.Proofs.Ythkdofflfaikgaa
/- THE CELL 'sum', in the pinned program and in every row, IS THE sha256 OF THE DUMP (.gsa) THAT YthkdofflfaikgaaProg.lean LOADS. Nothing in Lean hashes anything: it is a label: what it is worth is what the hold of that sum in a sandbox is worth. -/
noncomputable def Try.pinned : Pinned := { name := "ythkdofflfaikgaa", sum := "7104e0f615558a20d721f6d06745fc7e31ef1691085245b8ffbd88aba6b77d9e", checked := Try.checked }
namespace Rows
def none {H : Type} : Left H := { results := [], args := [] }

/-- 'laws.FnExactTimelineValid': WHATEVER THE INPUT: true; the input reads as it did. -/
def fnExactTimelineValidSpec : ChangeSpec := { name := "fnExactTimelineValid", fn := fun _ => fun
  | [d] => { results := [.lit (.bool true)], args := [d] }
  | _ => none }
def fnExactTimelineValidRow : OpenClaim := { program := "ythkdofflfaikgaa", sum := "7104e0f615558a20d721f6d06745fc7e31ef1691085245b8ffbd88aba6b77d9e", func := "loop.example/feedbridge/laws.FnExactTimelineValid", spec := "fnExactTimelineValid", apart := false }
def FnExactTimelineValidSaid : Prop := fnExactTimelineValidRow.holds Try.pinned (OpenSpec.ofChange fnExactTimelineValidSpec)

/-- ITS FALSE NEIGHBOUR: 'it returns false'. Refute it at one input. -/
def fnExactTimelineValidWrong : ChangeSpec := { name := "fnExactTimelineValid", fn := fun _ => fun
  | [d] => { results := [.lit (.bool false)], args := [d] }
  | _ => none }
def FnExactTimelineValidWrongFalsely : Prop := fnExactTimelineValidRow.holds Try.pinned (OpenSpec.ofChange fnExactTimelineValidWrong)

/-- 'laws.FnTimelineValid': WHATEVER THE INPUT: true; the input reads as it did. -/
def fnTimelineValidSpec : ChangeSpec := { name := "fnTimelineValid", fn := fun _ => fun
  | [d] => { results := [.lit (.bool true)], args := [d] }
  | _ => none }
def fnTimelineValidRow : OpenClaim := { program := "ythkdofflfaikgaa", sum := "7104e0f615558a20d721f6d06745fc7e31ef1691085245b8ffbd88aba6b77d9e", func := "loop.example/feedbridge/laws.FnTimelineValid", spec := "fnTimelineValid", apart := false }
def FnTimelineValidSaid : Prop := fnTimelineValidRow.holds Try.pinned (OpenSpec.ofChange fnTimelineValidSpec)

/-- ITS FALSE NEIGHBOUR: 'it returns false'. Refute it at one input. -/
def fnTimelineValidWrong : ChangeSpec := { name := "fnTimelineValid", fn := fun _ => fun
  | [d] => { results := [.lit (.bool false)], args := [d] }
  | _ => none }
def FnTimelineValidWrongFalsely : Prop := fnTimelineValidRow.holds Try.pinned (OpenSpec.ofChange fnTimelineValidWrong)

/-- 'laws.FnExactPostsBefore': WHATEVER THE INPUT: true; the input reads as it did. -/
def fnExactPostsBeforeSpec : ChangeSpec := { name := "fnExactPostsBefore", fn := fun _ => fun
  | [d1, d2, d3] => { results := [.lit (.bool true)], args := [d1, d2, d3] }
  | _ => none }
def fnExactPostsBeforeRow : OpenClaim := { program := "ythkdofflfaikgaa", sum := "7104e0f615558a20d721f6d06745fc7e31ef1691085245b8ffbd88aba6b77d9e", func := "loop.example/feedbridge/laws.FnExactPostsBefore", spec := "fnExactPostsBefore", apart := false }
def FnExactPostsBeforeSaid : Prop := fnExactPostsBeforeRow.holds Try.pinned (OpenSpec.ofChange fnExactPostsBeforeSpec)

/-- ITS FALSE NEIGHBOUR: 'it returns false'. Refute it at one input. -/
def fnExactPostsBeforeWrong : ChangeSpec := { name := "fnExactPostsBefore", fn := fun _ => fun
  | [d1, d2, d3] => { results := [.lit (.bool false)], args := [d1, d2, d3] }
  | _ => none }
def FnExactPostsBeforeWrongFalsely : Prop := fnExactPostsBeforeRow.holds Try.pinned (OpenSpec.ofChange fnExactPostsBeforeWrong)

/-- 'laws.FnExactPutPost': WHATEVER THE INPUT: true; the input reads as it did. -/
def fnExactPutPostSpec : ChangeSpec := { name := "fnExactPutPost", fn := fun _ => fun
  | [d1, d2] => { results := [.lit (.bool true)], args := [d1, d2] }
  | _ => none }
def fnExactPutPostRow : OpenClaim := { program := "ythkdofflfaikgaa", sum := "7104e0f615558a20d721f6d06745fc7e31ef1691085245b8ffbd88aba6b77d9e", func := "loop.example/feedbridge/laws.FnExactPutPost", spec := "fnExactPutPost", apart := false }
def FnExactPutPostSaid : Prop := fnExactPutPostRow.holds Try.pinned (OpenSpec.ofChange fnExactPutPostSpec)

/-- ITS FALSE NEIGHBOUR: 'it returns false'. Refute it at one input. -/
def fnExactPutPostWrong : ChangeSpec := { name := "fnExactPutPost", fn := fun _ => fun
  | [d1, d2] => { results := [.lit (.bool false)], args := [d1, d2] }
  | _ => none }
def FnExactPutPostWrongFalsely : Prop := fnExactPutPostRow.holds Try.pinned (OpenSpec.ofChange fnExactPutPostWrong)

/-- 'laws.FnExactMergeTimelines': WHATEVER THE INPUT: true; the input reads as it did. -/
def fnExactMergeTimelinesSpec : ChangeSpec := { name := "fnExactMergeTimelines", fn := fun _ => fun
  | [d1, d2] => { results := [.lit (.bool true)], args := [d1, d2] }
  | _ => none }
def fnExactMergeTimelinesRow : OpenClaim := { program := "ythkdofflfaikgaa", sum := "7104e0f615558a20d721f6d06745fc7e31ef1691085245b8ffbd88aba6b77d9e", func := "loop.example/feedbridge/laws.FnExactMergeTimelines", spec := "fnExactMergeTimelines", apart := false }
def FnExactMergeTimelinesSaid : Prop := fnExactMergeTimelinesRow.holds Try.pinned (OpenSpec.ofChange fnExactMergeTimelinesSpec)

/-- ITS FALSE NEIGHBOUR: 'it returns false'. Refute it at one input. -/
def fnExactMergeTimelinesWrong : ChangeSpec := { name := "fnExactMergeTimelines", fn := fun _ => fun
  | [d1, d2] => { results := [.lit (.bool false)], args := [d1, d2] }
  | _ => none }
def FnExactMergeTimelinesWrongFalsely : Prop := fnExactMergeTimelinesRow.holds Try.pinned (OpenSpec.ofChange fnExactMergeTimelinesWrong)

/-- 'laws.FnPostsBefore': WHATEVER THE INPUT: true; the input reads as it did. -/
def fnPostsBeforeSpec : ChangeSpec := { name := "fnPostsBefore", fn := fun _ => fun
  | [d] => { results := [.lit (.bool true)], args := [d] }
  | _ => none }
def fnPostsBeforeRow : OpenClaim := { program := "ythkdofflfaikgaa", sum := "7104e0f615558a20d721f6d06745fc7e31ef1691085245b8ffbd88aba6b77d9e", func := "loop.example/feedbridge/laws.FnPostsBefore", spec := "fnPostsBefore", apart := false }
def FnPostsBeforeSaid : Prop := fnPostsBeforeRow.holds Try.pinned (OpenSpec.ofChange fnPostsBeforeSpec)

/-- ITS FALSE NEIGHBOUR: 'it returns false'. Refute it at one input. -/
def fnPostsBeforeWrong : ChangeSpec := { name := "fnPostsBefore", fn := fun _ => fun
  | [d] => { results := [.lit (.bool false)], args := [d] }
  | _ => none }
def FnPostsBeforeWrongFalsely : Prop := fnPostsBeforeRow.holds Try.pinned (OpenSpec.ofChange fnPostsBeforeWrong)

/-- 'laws.FnPutPost': WHATEVER THE INPUT: true; the input reads as it did. -/
def fnPutPostSpec : ChangeSpec := { name := "fnPutPost", fn := fun _ => fun
  | [d] => { results := [.lit (.bool true)], args := [d] }
  | _ => none }
def fnPutPostRow : OpenClaim := { program := "ythkdofflfaikgaa", sum := "7104e0f615558a20d721f6d06745fc7e31ef1691085245b8ffbd88aba6b77d9e", func := "loop.example/feedbridge/laws.FnPutPost", spec := "fnPutPost", apart := false }
def FnPutPostSaid : Prop := fnPutPostRow.holds Try.pinned (OpenSpec.ofChange fnPutPostSpec)

/-- ITS FALSE NEIGHBOUR: 'it returns false'. Refute it at one input. -/
def fnPutPostWrong : ChangeSpec := { name := "fnPutPost", fn := fun _ => fun
  | [d] => { results := [.lit (.bool false)], args := [d] }
  | _ => none }
def FnPutPostWrongFalsely : Prop := fnPutPostRow.holds Try.pinned (OpenSpec.ofChange fnPutPostWrong)

/-- 'laws.FnMergeTimelines': WHATEVER THE INPUT: true; the input reads as it did. -/
def fnMergeTimelinesSpec : ChangeSpec := { name := "fnMergeTimelines", fn := fun _ => fun
  | [d] => { results := [.lit (.bool true)], args := [d] }
  | _ => none }
def fnMergeTimelinesRow : OpenClaim := { program := "ythkdofflfaikgaa", sum := "7104e0f615558a20d721f6d06745fc7e31ef1691085245b8ffbd88aba6b77d9e", func := "loop.example/feedbridge/laws.FnMergeTimelines", spec := "fnMergeTimelines", apart := false }
def FnMergeTimelinesSaid : Prop := fnMergeTimelinesRow.holds Try.pinned (OpenSpec.ofChange fnMergeTimelinesSpec)

/-- ITS FALSE NEIGHBOUR: 'it returns false'. Refute it at one input. -/
def fnMergeTimelinesWrong : ChangeSpec := { name := "fnMergeTimelines", fn := fun _ => fun
  | [d] => { results := [.lit (.bool false)], args := [d] }
  | _ => none }
def FnMergeTimelinesWrongFalsely : Prop := fnMergeTimelinesRow.holds Try.pinned (OpenSpec.ofChange fnMergeTimelinesWrong)

/- THE SECOND FORM. 'bulk': how many values and letters a reading holds, each counted each time it is reached (what is shared counts as often as it is met; a slice's spare places count too). A statement '..UptoSaid' is the law's where the arguments, and the package variables that the reading takes, are together of bulk at most 1048576: NARROWER than '..Said'. Prove '..Said' where nothing that the law and all that it calls make is longer than what came in: it says more and counts as full. Else prove '..UptoSaid'. A law counts once. -/
mutual
def uptoBulk {H : Type} : DataW H → Nat
  | .lit (.string bytes) => bytes.length + 1
  | .lit _ => 1
  | .nil => 1
  | .ptr d => uptoBulk d + 1
  | .slice elems spare => uptoBulkAll elems + uptoBulkAll spare + 1
  | .agg parts => uptoBulkAll parts + 1
  | .iface _ d => uptoBulk d + 1
  | .map entries => uptoBulkEntries entries + 1
  | .held _ => 1
def uptoBulkAll {H : Type} : List (DataW H) → Nat
  | [] => 0
  | d :: r => uptoBulk d + uptoBulkAll r
def uptoBulkEntries {H : Type} : List (Lit × DataW H) → Nat
  | [] => 0
  | x :: r => uptoBulkEntry x + uptoBulkEntries r
def uptoBulkEntry {H : Type} : Lit × DataW H → Nat
  | (.string bytes, d) => bytes.length + uptoBulk d + 1
  | (_, d) => uptoBulk d + 1
 end
def uptoSmall : (H : Type) → List (DataW H) → Bool := fun _ ds => decide (uptoBulkAll ds ≤ 1048576)
def OpenSpec.upto (s : _root_.Go.ChangeSpec) : _root_.Go.OpenSpec := { _root_.Go.OpenSpec.ofChange s with cond := some uptoSmall }

/-- 'laws.FnExactTimelineValid', WHERE WHAT IT READS IS OF BULK AT MOST 1048576: true; the input reads as it did. -/
def fnExactTimelineValidUptoRow : OpenClaim := { program := "ythkdofflfaikgaa", sum := "7104e0f615558a20d721f6d06745fc7e31ef1691085245b8ffbd88aba6b77d9e", func := "loop.example/feedbridge/laws.FnExactTimelineValid", spec := "fnExactTimelineValid", apart := false, narrowed := true }
def FnExactTimelineValidUptoSaid : Prop := fnExactTimelineValidUptoRow.holds Try.pinned (OpenSpec.upto fnExactTimelineValidSpec)

/-- 'laws.FnTimelineValid', WHERE WHAT IT READS IS OF BULK AT MOST 1048576: true; the input reads as it did. -/
def fnTimelineValidUptoRow : OpenClaim := { program := "ythkdofflfaikgaa", sum := "7104e0f615558a20d721f6d06745fc7e31ef1691085245b8ffbd88aba6b77d9e", func := "loop.example/feedbridge/laws.FnTimelineValid", spec := "fnTimelineValid", apart := false, narrowed := true }
def FnTimelineValidUptoSaid : Prop := fnTimelineValidUptoRow.holds Try.pinned (OpenSpec.upto fnTimelineValidSpec)

/-- 'laws.FnExactPostsBefore', WHERE WHAT IT READS IS OF BULK AT MOST 1048576: true; the input reads as it did. -/
def fnExactPostsBeforeUptoRow : OpenClaim := { program := "ythkdofflfaikgaa", sum := "7104e0f615558a20d721f6d06745fc7e31ef1691085245b8ffbd88aba6b77d9e", func := "loop.example/feedbridge/laws.FnExactPostsBefore", spec := "fnExactPostsBefore", apart := false, narrowed := true }
def FnExactPostsBeforeUptoSaid : Prop := fnExactPostsBeforeUptoRow.holds Try.pinned (OpenSpec.upto fnExactPostsBeforeSpec)

/-- 'laws.FnExactPutPost', WHERE WHAT IT READS IS OF BULK AT MOST 1048576: true; the input reads as it did. -/
def fnExactPutPostUptoRow : OpenClaim := { program := "ythkdofflfaikgaa", sum := "7104e0f615558a20d721f6d06745fc7e31ef1691085245b8ffbd88aba6b77d9e", func := "loop.example/feedbridge/laws.FnExactPutPost", spec := "fnExactPutPost", apart := false, narrowed := true }
def FnExactPutPostUptoSaid : Prop := fnExactPutPostUptoRow.holds Try.pinned (OpenSpec.upto fnExactPutPostSpec)

/-- 'laws.FnExactMergeTimelines', WHERE WHAT IT READS IS OF BULK AT MOST 1048576: true; the input reads as it did. -/
def fnExactMergeTimelinesUptoRow : OpenClaim := { program := "ythkdofflfaikgaa", sum := "7104e0f615558a20d721f6d06745fc7e31ef1691085245b8ffbd88aba6b77d9e", func := "loop.example/feedbridge/laws.FnExactMergeTimelines", spec := "fnExactMergeTimelines", apart := false, narrowed := true }
def FnExactMergeTimelinesUptoSaid : Prop := fnExactMergeTimelinesUptoRow.holds Try.pinned (OpenSpec.upto fnExactMergeTimelinesSpec)

/-- 'laws.FnPostsBefore', WHERE WHAT IT READS IS OF BULK AT MOST 1048576: true; the input reads as it did. -/
def fnPostsBeforeUptoRow : OpenClaim := { program := "ythkdofflfaikgaa", sum := "7104e0f615558a20d721f6d06745fc7e31ef1691085245b8ffbd88aba6b77d9e", func := "loop.example/feedbridge/laws.FnPostsBefore", spec := "fnPostsBefore", apart := false, narrowed := true }
def FnPostsBeforeUptoSaid : Prop := fnPostsBeforeUptoRow.holds Try.pinned (OpenSpec.upto fnPostsBeforeSpec)

/-- 'laws.FnPutPost', WHERE WHAT IT READS IS OF BULK AT MOST 1048576: true; the input reads as it did. -/
def fnPutPostUptoRow : OpenClaim := { program := "ythkdofflfaikgaa", sum := "7104e0f615558a20d721f6d06745fc7e31ef1691085245b8ffbd88aba6b77d9e", func := "loop.example/feedbridge/laws.FnPutPost", spec := "fnPutPost", apart := false, narrowed := true }
def FnPutPostUptoSaid : Prop := fnPutPostUptoRow.holds Try.pinned (OpenSpec.upto fnPutPostSpec)

/-- 'laws.FnMergeTimelines', WHERE WHAT IT READS IS OF BULK AT MOST 1048576: true; the input reads as it did. -/
def fnMergeTimelinesUptoRow : OpenClaim := { program := "ythkdofflfaikgaa", sum := "7104e0f615558a20d721f6d06745fc7e31ef1691085245b8ffbd88aba6b77d9e", func := "loop.example/feedbridge/laws.FnMergeTimelines", spec := "fnMergeTimelines", apart := false, narrowed := true }
def FnMergeTimelinesUptoSaid : Prop := fnMergeTimelinesUptoRow.holds Try.pinned (OpenSpec.upto fnMergeTimelinesSpec)

end Rows
end Go.Proofs.Ythkdofflfaikgaa
