/-
  No cell of these rows narrows 'for every input' (looked for: loops, veiled, ifaces, maps, wideKeys, modest, calm, conditions, laid).
  DERIVED. THE GIVEN ROWS OF THIS SEAT. 10 by the template 'for every input the law returns true; each argument reads behind the call as it read before'; 0 by the template 'total and deterministic' (their statements: YtnaiopbealnpmaaTotals.lean).
  GIVEN WITH THE SEED: the statements are not yours to turn. If you find one false, say at which input.
  Laid BY PROGRAM, IN A SANDBOX (cutbox-rows.mjs): the forced cells as the released guide's own fill.sh prints them over the translation 0574157a24692d6b… (all of the seat's roots in one cut). By AI agents, Wed Nov 11 2026. No macro, syntax, notation, axiom, sorry.
-/
import Derived.Test.YtnaiopbealnpmaaChecked
import GoSem.Claim
import GoSem.ClaimJoined
import GoSem.ClaimMapViews
import Derived.JoinedTies
import Derived.KernelRfl
namespace Go.Proofs.Ytnaiopbealnpmaa
/- THE CELL 'sum', in the pinned program and in every row, IS THE sha256 OF THE DUMP (.gsa) THAT YtnaiopbealnpmaaProg.lean LOADS. Nothing in Lean hashes anything: it is a label: what it is worth is what the hold of that sum in a sandbox is worth. -/
noncomputable def Try.pinned : Pinned := { name := "ytnaiopbealnpmaa", sum := "0574157a24692d6bda23b24a58600516a93adc7c0d1f294e2370da643c2d37c7", checked := Try.checked }
namespace Rows
def none {H : Type} : Left H := { results := [], args := [] }

/-- 'laws.FnExactPostsValid': WHATEVER THE INPUT: true; the input reads as it did. -/
def fnExactPostsValidSpec : ChangeSpec := { name := "fnExactPostsValid", fn := fun _ => fun
  | [d] => { results := [.lit (.bool true)], args := [d] }
  | _ => none }
def fnExactPostsValidRow : OpenClaim := { program := "ytnaiopbealnpmaa", sum := "0574157a24692d6bda23b24a58600516a93adc7c0d1f294e2370da643c2d37c7", func := "loop.example/feedbridge/laws.FnExactPostsValid", spec := "fnExactPostsValid", apart := false }
def FnExactPostsValidSaid : Prop := fnExactPostsValidRow.holds Try.pinned (OpenSpec.ofChange fnExactPostsValidSpec)

/-- ITS FALSE NEIGHBOUR: 'it returns false'. Refute it at one input. -/
def fnExactPostsValidWrong : ChangeSpec := { name := "fnExactPostsValid", fn := fun _ => fun
  | [d] => { results := [.lit (.bool false)], args := [d] }
  | _ => none }
def FnExactPostsValidWrongFalsely : Prop := fnExactPostsValidRow.holds Try.pinned (OpenSpec.ofChange fnExactPostsValidWrong)

/-- 'laws.FnExactRootOf': WHATEVER THE INPUT: true; the input reads as it did. -/
def fnExactRootOfSpec : ChangeSpec := { name := "fnExactRootOf", fn := fun _ => fun
  | [d1, d2] => { results := [.lit (.bool true)], args := [d1, d2] }
  | _ => none }
def fnExactRootOfRow : OpenClaim := { program := "ytnaiopbealnpmaa", sum := "0574157a24692d6bda23b24a58600516a93adc7c0d1f294e2370da643c2d37c7", func := "loop.example/feedbridge/laws.FnExactRootOf", spec := "fnExactRootOf", apart := false }
def FnExactRootOfSaid : Prop := fnExactRootOfRow.holds Try.pinned (OpenSpec.ofChange fnExactRootOfSpec)

/-- ITS FALSE NEIGHBOUR: 'it returns false'. Refute it at one input. -/
def fnExactRootOfWrong : ChangeSpec := { name := "fnExactRootOf", fn := fun _ => fun
  | [d1, d2] => { results := [.lit (.bool false)], args := [d1, d2] }
  | _ => none }
def FnExactRootOfWrongFalsely : Prop := fnExactRootOfRow.holds Try.pinned (OpenSpec.ofChange fnExactRootOfWrong)

/-- 'laws.FnExactDepthOf': WHATEVER THE INPUT: true; the input reads as it did. -/
def fnExactDepthOfSpec : ChangeSpec := { name := "fnExactDepthOf", fn := fun _ => fun
  | [d1, d2] => { results := [.lit (.bool true)], args := [d1, d2] }
  | _ => none }
def fnExactDepthOfRow : OpenClaim := { program := "ytnaiopbealnpmaa", sum := "0574157a24692d6bda23b24a58600516a93adc7c0d1f294e2370da643c2d37c7", func := "loop.example/feedbridge/laws.FnExactDepthOf", spec := "fnExactDepthOf", apart := false }
def FnExactDepthOfSaid : Prop := fnExactDepthOfRow.holds Try.pinned (OpenSpec.ofChange fnExactDepthOfSpec)

/-- ITS FALSE NEIGHBOUR: 'it returns false'. Refute it at one input. -/
def fnExactDepthOfWrong : ChangeSpec := { name := "fnExactDepthOf", fn := fun _ => fun
  | [d1, d2] => { results := [.lit (.bool false)], args := [d1, d2] }
  | _ => none }
def FnExactDepthOfWrongFalsely : Prop := fnExactDepthOfRow.holds Try.pinned (OpenSpec.ofChange fnExactDepthOfWrong)

/-- 'laws.FnExactThreadOf': WHATEVER THE INPUT: true; the input reads as it did. -/
def fnExactThreadOfSpec : ChangeSpec := { name := "fnExactThreadOf", fn := fun _ => fun
  | [d1, d2] => { results := [.lit (.bool true)], args := [d1, d2] }
  | _ => none }
def fnExactThreadOfRow : OpenClaim := { program := "ytnaiopbealnpmaa", sum := "0574157a24692d6bda23b24a58600516a93adc7c0d1f294e2370da643c2d37c7", func := "loop.example/feedbridge/laws.FnExactThreadOf", spec := "fnExactThreadOf", recurses := true, apart := false }
def FnExactThreadOfSaid : Prop := fnExactThreadOfRow.holds Try.pinned (OpenSpec.ofChange fnExactThreadOfSpec)

/-- ITS FALSE NEIGHBOUR: 'it returns false'. Refute it at one input. -/
def fnExactThreadOfWrong : ChangeSpec := { name := "fnExactThreadOf", fn := fun _ => fun
  | [d1, d2] => { results := [.lit (.bool false)], args := [d1, d2] }
  | _ => none }
def FnExactThreadOfWrongFalsely : Prop := fnExactThreadOfRow.holds Try.pinned (OpenSpec.ofChange fnExactThreadOfWrong)

/-- 'laws.FnPostsValid': WHATEVER THE INPUT: true; the input reads as it did. -/
def fnPostsValidSpec : ChangeSpec := { name := "fnPostsValid", fn := fun _ => fun
  | [d] => { results := [.lit (.bool true)], args := [d] }
  | _ => none }
def fnPostsValidRow : OpenClaim := { program := "ytnaiopbealnpmaa", sum := "0574157a24692d6bda23b24a58600516a93adc7c0d1f294e2370da643c2d37c7", func := "loop.example/feedbridge/laws.FnPostsValid", spec := "fnPostsValid", apart := false }
def FnPostsValidSaid : Prop := fnPostsValidRow.holds Try.pinned (OpenSpec.ofChange fnPostsValidSpec)

/-- ITS FALSE NEIGHBOUR: 'it returns false'. Refute it at one input. -/
def fnPostsValidWrong : ChangeSpec := { name := "fnPostsValid", fn := fun _ => fun
  | [d] => { results := [.lit (.bool false)], args := [d] }
  | _ => none }
def FnPostsValidWrongFalsely : Prop := fnPostsValidRow.holds Try.pinned (OpenSpec.ofChange fnPostsValidWrong)

/-- 'laws.FnExactDropPost': WHATEVER THE INPUT: true; the input reads as it did. -/
def fnExactDropPostSpec : ChangeSpec := { name := "fnExactDropPost", fn := fun _ => fun
  | [d1, d2] => { results := [.lit (.bool true)], args := [d1, d2] }
  | _ => none }
def fnExactDropPostRow : OpenClaim := { program := "ytnaiopbealnpmaa", sum := "0574157a24692d6bda23b24a58600516a93adc7c0d1f294e2370da643c2d37c7", func := "loop.example/feedbridge/laws.FnExactDropPost", spec := "fnExactDropPost", apart := false }
def FnExactDropPostSaid : Prop := fnExactDropPostRow.holds Try.pinned (OpenSpec.ofChange fnExactDropPostSpec)

/-- ITS FALSE NEIGHBOUR: 'it returns false'. Refute it at one input. -/
def fnExactDropPostWrong : ChangeSpec := { name := "fnExactDropPost", fn := fun _ => fun
  | [d1, d2] => { results := [.lit (.bool false)], args := [d1, d2] }
  | _ => none }
def FnExactDropPostWrongFalsely : Prop := fnExactDropPostRow.holds Try.pinned (OpenSpec.ofChange fnExactDropPostWrong)

/-- 'laws.FnRootOf': WHATEVER THE INPUT: true; the input reads as it did. -/
def fnRootOfSpec : ChangeSpec := { name := "fnRootOf", fn := fun _ => fun
  | [d] => { results := [.lit (.bool true)], args := [d] }
  | _ => none }
def fnRootOfRow : OpenClaim := { program := "ytnaiopbealnpmaa", sum := "0574157a24692d6bda23b24a58600516a93adc7c0d1f294e2370da643c2d37c7", func := "loop.example/feedbridge/laws.FnRootOf", spec := "fnRootOf", apart := false }
def FnRootOfSaid : Prop := fnRootOfRow.holds Try.pinned (OpenSpec.ofChange fnRootOfSpec)

/-- ITS FALSE NEIGHBOUR: 'it returns false'. Refute it at one input. -/
def fnRootOfWrong : ChangeSpec := { name := "fnRootOf", fn := fun _ => fun
  | [d] => { results := [.lit (.bool false)], args := [d] }
  | _ => none }
def FnRootOfWrongFalsely : Prop := fnRootOfRow.holds Try.pinned (OpenSpec.ofChange fnRootOfWrong)

/-- 'laws.FnDepthOf': WHATEVER THE INPUT: true; the input reads as it did. -/
def fnDepthOfSpec : ChangeSpec := { name := "fnDepthOf", fn := fun _ => fun
  | [d] => { results := [.lit (.bool true)], args := [d] }
  | _ => none }
def fnDepthOfRow : OpenClaim := { program := "ytnaiopbealnpmaa", sum := "0574157a24692d6bda23b24a58600516a93adc7c0d1f294e2370da643c2d37c7", func := "loop.example/feedbridge/laws.FnDepthOf", spec := "fnDepthOf", apart := false }
def FnDepthOfSaid : Prop := fnDepthOfRow.holds Try.pinned (OpenSpec.ofChange fnDepthOfSpec)

/-- ITS FALSE NEIGHBOUR: 'it returns false'. Refute it at one input. -/
def fnDepthOfWrong : ChangeSpec := { name := "fnDepthOf", fn := fun _ => fun
  | [d] => { results := [.lit (.bool false)], args := [d] }
  | _ => none }
def FnDepthOfWrongFalsely : Prop := fnDepthOfRow.holds Try.pinned (OpenSpec.ofChange fnDepthOfWrong)

/-- 'laws.FnThreadOf': WHATEVER THE INPUT: true; the input reads as it did. -/
def fnThreadOfSpec : ChangeSpec := { name := "fnThreadOf", fn := fun _ => fun
  | [d] => { results := [.lit (.bool true)], args := [d] }
  | _ => none }
def fnThreadOfRow : OpenClaim := { program := "ytnaiopbealnpmaa", sum := "0574157a24692d6bda23b24a58600516a93adc7c0d1f294e2370da643c2d37c7", func := "loop.example/feedbridge/laws.FnThreadOf", spec := "fnThreadOf", recurses := true, apart := false }
def FnThreadOfSaid : Prop := fnThreadOfRow.holds Try.pinned (OpenSpec.ofChange fnThreadOfSpec)

/-- ITS FALSE NEIGHBOUR: 'it returns false'. Refute it at one input. -/
def fnThreadOfWrong : ChangeSpec := { name := "fnThreadOf", fn := fun _ => fun
  | [d] => { results := [.lit (.bool false)], args := [d] }
  | _ => none }
def FnThreadOfWrongFalsely : Prop := fnThreadOfRow.holds Try.pinned (OpenSpec.ofChange fnThreadOfWrong)

/-- 'laws.FnDropPost': WHATEVER THE INPUT: true; the input reads as it did. -/
def fnDropPostSpec : ChangeSpec := { name := "fnDropPost", fn := fun _ => fun
  | [d] => { results := [.lit (.bool true)], args := [d] }
  | _ => none }
def fnDropPostRow : OpenClaim := { program := "ytnaiopbealnpmaa", sum := "0574157a24692d6bda23b24a58600516a93adc7c0d1f294e2370da643c2d37c7", func := "loop.example/feedbridge/laws.FnDropPost", spec := "fnDropPost", apart := false }
def FnDropPostSaid : Prop := fnDropPostRow.holds Try.pinned (OpenSpec.ofChange fnDropPostSpec)

/-- ITS FALSE NEIGHBOUR: 'it returns false'. Refute it at one input. -/
def fnDropPostWrong : ChangeSpec := { name := "fnDropPost", fn := fun _ => fun
  | [d] => { results := [.lit (.bool false)], args := [d] }
  | _ => none }
def FnDropPostWrongFalsely : Prop := fnDropPostRow.holds Try.pinned (OpenSpec.ofChange fnDropPostWrong)

/- THE SECOND FORM. 'bulk': how many values and letters a reading holds, each counted each time it is reached (what is shared counts as often as it is met; a slice's spare places count too). A statement '..UptoSaid' is the law's where the arguments, and the package variables that the reading takes, are together of bulk at most 1048576: NARROWER than '..Said'. Prove '..Said' where nothing that the law and all that it calls make is longer than what came in: it says more and counts as full. Else prove '..UptoSaid'. A law counts once. -/
mutual
def uptoBulk {H : Type} : DataW H → Nat
  | .lit (.string bytes) => bytes.length + 1
  | .lit _ => 1
  | .nil => 1
  | .ptr d => uptoBulk d + 1
  | .slice elems spare => uptoBulkAll elems + uptoBulkAll spare + 1
  | .agg parts => uptoBulkAll parts + 1
  | .iface _ d => uptoBulk d + 1
  | .map entries => uptoBulkEntries entries + 1
  | .held _ => 1
def uptoBulkAll {H : Type} : List (DataW H) → Nat
  | [] => 0
  | d :: r => uptoBulk d + uptoBulkAll r
def uptoBulkEntries {H : Type} : List (Lit × DataW H) → Nat
  | [] => 0
  | x :: r => uptoBulkEntry x + uptoBulkEntries r
def uptoBulkEntry {H : Type} : Lit × DataW H → Nat
  | (.string bytes, d) => bytes.length + uptoBulk d + 1
  | (_, d) => uptoBulk d + 1
 end
def uptoSmall : (H : Type) → List (DataW H) → Bool := fun _ ds => decide (uptoBulkAll ds ≤ 1048576)
def OpenSpec.upto (s : _root_.Go.ChangeSpec) : _root_.Go.OpenSpec := { _root_.Go.OpenSpec.ofChange s with cond := some uptoSmall }

/-- 'laws.FnExactPostsValid', WHERE WHAT IT READS IS OF BULK AT MOST 1048576: true; the input reads as it did. -/
def fnExactPostsValidUptoRow : OpenClaim := { program := "ytnaiopbealnpmaa", sum := "0574157a24692d6bda23b24a58600516a93adc7c0d1f294e2370da643c2d37c7", func := "loop.example/feedbridge/laws.FnExactPostsValid", spec := "fnExactPostsValid", apart := false, narrowed := true }
def FnExactPostsValidUptoSaid : Prop := fnExactPostsValidUptoRow.holds Try.pinned (OpenSpec.upto fnExactPostsValidSpec)

/-- 'laws.FnExactRootOf', WHERE WHAT IT READS IS OF BULK AT MOST 1048576: true; the input reads as it did. -/
def fnExactRootOfUptoRow : OpenClaim := { program := "ytnaiopbealnpmaa", sum := "0574157a24692d6bda23b24a58600516a93adc7c0d1f294e2370da643c2d37c7", func := "loop.example/feedbridge/laws.FnExactRootOf", spec := "fnExactRootOf", apart := false, narrowed := true }
def FnExactRootOfUptoSaid : Prop := fnExactRootOfUptoRow.holds Try.pinned (OpenSpec.upto fnExactRootOfSpec)

/-- 'laws.FnExactDepthOf', WHERE WHAT IT READS IS OF BULK AT MOST 1048576: true; the input reads as it did. -/
def fnExactDepthOfUptoRow : OpenClaim := { program := "ytnaiopbealnpmaa", sum := "0574157a24692d6bda23b24a58600516a93adc7c0d1f294e2370da643c2d37c7", func := "loop.example/feedbridge/laws.FnExactDepthOf", spec := "fnExactDepthOf", apart := false, narrowed := true }
def FnExactDepthOfUptoSaid : Prop := fnExactDepthOfUptoRow.holds Try.pinned (OpenSpec.upto fnExactDepthOfSpec)

/-- 'laws.FnExactThreadOf', WHERE WHAT IT READS IS OF BULK AT MOST 1048576: true; the input reads as it did. -/
def fnExactThreadOfUptoRow : OpenClaim := { program := "ytnaiopbealnpmaa", sum := "0574157a24692d6bda23b24a58600516a93adc7c0d1f294e2370da643c2d37c7", func := "loop.example/feedbridge/laws.FnExactThreadOf", spec := "fnExactThreadOf", recurses := true, apart := false, narrowed := true }
def FnExactThreadOfUptoSaid : Prop := fnExactThreadOfUptoRow.holds Try.pinned (OpenSpec.upto fnExactThreadOfSpec)

/-- 'laws.FnPostsValid', WHERE WHAT IT READS IS OF BULK AT MOST 1048576: true; the input reads as it did. -/
def fnPostsValidUptoRow : OpenClaim := { program := "ytnaiopbealnpmaa", sum := "0574157a24692d6bda23b24a58600516a93adc7c0d1f294e2370da643c2d37c7", func := "loop.example/feedbridge/laws.FnPostsValid", spec := "fnPostsValid", apart := false, narrowed := true }
def FnPostsValidUptoSaid : Prop := fnPostsValidUptoRow.holds Try.pinned (OpenSpec.upto fnPostsValidSpec)

/-- 'laws.FnExactDropPost', WHERE WHAT IT READS IS OF BULK AT MOST 1048576: true; the input reads as it did. -/
def fnExactDropPostUptoRow : OpenClaim := { program := "ytnaiopbealnpmaa", sum := "0574157a24692d6bda23b24a58600516a93adc7c0d1f294e2370da643c2d37c7", func := "loop.example/feedbridge/laws.FnExactDropPost", spec := "fnExactDropPost", apart := false, narrowed := true }
def FnExactDropPostUptoSaid : Prop := fnExactDropPostUptoRow.holds Try.pinned (OpenSpec.upto fnExactDropPostSpec)

/-- 'laws.FnRootOf', WHERE WHAT IT READS IS OF BULK AT MOST 1048576: true; the input reads as it did. -/
def fnRootOfUptoRow : OpenClaim := { program := "ytnaiopbealnpmaa", sum := "0574157a24692d6bda23b24a58600516a93adc7c0d1f294e2370da643c2d37c7", func := "loop.example/feedbridge/laws.FnRootOf", spec := "fnRootOf", apart := false, narrowed := true }
def FnRootOfUptoSaid : Prop := fnRootOfUptoRow.holds Try.pinned (OpenSpec.upto fnRootOfSpec)

/-- 'laws.FnDepthOf', WHERE WHAT IT READS IS OF BULK AT MOST 1048576: true; the input reads as it did. -/
def fnDepthOfUptoRow : OpenClaim := { program := "ytnaiopbealnpmaa", sum := "0574157a24692d6bda23b24a58600516a93adc7c0d1f294e2370da643c2d37c7", func := "loop.example/feedbridge/laws.FnDepthOf", spec := "fnDepthOf", apart := false, narrowed := true }
def FnDepthOfUptoSaid : Prop := fnDepthOfUptoRow.holds Try.pinned (OpenSpec.upto fnDepthOfSpec)

/-- 'laws.FnThreadOf', WHERE WHAT IT READS IS OF BULK AT MOST 1048576: true; the input reads as it did. -/
def fnThreadOfUptoRow : OpenClaim := { program := "ytnaiopbealnpmaa", sum := "0574157a24692d6bda23b24a58600516a93adc7c0d1f294e2370da643c2d37c7", func := "loop.example/feedbridge/laws.FnThreadOf", spec := "fnThreadOf", recurses := true, apart := false, narrowed := true }
def FnThreadOfUptoSaid : Prop := fnThreadOfUptoRow.holds Try.pinned (OpenSpec.upto fnThreadOfSpec)

/-- 'laws.FnDropPost', WHERE WHAT IT READS IS OF BULK AT MOST 1048576: true; the input reads as it did. -/
def fnDropPostUptoRow : OpenClaim := { program := "ytnaiopbealnpmaa", sum := "0574157a24692d6bda23b24a58600516a93adc7c0d1f294e2370da643c2d37c7", func := "loop.example/feedbridge/laws.FnDropPost", spec := "fnDropPost", apart := false, narrowed := true }
def FnDropPostUptoSaid : Prop := fnDropPostUptoRow.holds Try.pinned (OpenSpec.upto fnDropPostSpec)

end Rows
end Go.Proofs.Ytnaiopbealnpmaa
