/-
  No cell of these rows narrows 'for every input' (looked for: loops, veiled, ifaces, maps, wideKeys, modest, calm, conditions, laid).
  DERIVED. THE GIVEN ROWS OF THIS SEAT. 4 by the template 'for every input the law returns true; each argument reads behind the call as it read before'; 0 by the template 'total and deterministic' (their statements: YtnmgfpphihieiaaTotals.lean).
  GIVEN WITH THE SEED: the statements are not yours to turn. If you find one false, say at which input.
  Laid BY PROGRAM, IN A SANDBOX (cutbox-rows.mjs): the forced cells as the released guide's own fill.sh prints them over the translation 3a7be0ade67d96a8… (all of the seat's roots in one cut). By AI agents, Wed Nov 11 2026. No macro, syntax, notation, axiom, sorry.
-/
import Derived.Test.YtnmgfpphihieiaaChecked
import GoSem.Claim
import GoSem.ClaimJoined
import GoSem.ClaimMapViews
import Derived.JoinedTies
import Derived.KernelRfl
namespace Go.Proofs.Ytnmgfpphihieiaa
/- THE CELL 'sum', in the pinned program and in every row, IS THE sha256 OF THE DUMP (.gsa) THAT YtnmgfpphihieiaaProg.lean LOADS. Nothing in Lean hashes anything: it is a label: what it is worth is what the hold of that sum in a sandbox is worth. -/
noncomputable def Try.pinned : Pinned := { name := "ytnmgfpphihieiaa", sum := "3a7be0ade67d96a8407cad2c1f17341803a01a01224f1eb3180efd555caa2e1b", checked := Try.checked }
namespace Rows
def none {H : Type} : Left H := { results := [], args := [] }

/-- 'laws.FnFirstSentence': WHATEVER THE INPUT: true; the input reads as it did. -/
def fnFirstSentenceSpec : ChangeSpec := { name := "fnFirstSentence", fn := fun _ => fun
  | [d] => { results := [.lit (.bool true)], args := [d] }
  | _ => none }
def fnFirstSentenceRow : OpenClaim := { program := "ytnmgfpphihieiaa", sum := "3a7be0ade67d96a8407cad2c1f17341803a01a01224f1eb3180efd555caa2e1b", func := "loop.example/feedbridge/laws.FnFirstSentence", spec := "fnFirstSentence", apart := false }
def FnFirstSentenceSaid : Prop := fnFirstSentenceRow.holds Try.pinned (OpenSpec.ofChange fnFirstSentenceSpec)

/-- ITS FALSE NEIGHBOUR: 'it returns false'. Refute it at one input. -/
def fnFirstSentenceWrong : ChangeSpec := { name := "fnFirstSentence", fn := fun _ => fun
  | [d] => { results := [.lit (.bool false)], args := [d] }
  | _ => none }
def FnFirstSentenceWrongFalsely : Prop := fnFirstSentenceRow.holds Try.pinned (OpenSpec.ofChange fnFirstSentenceWrong)

/-- 'laws.FnCutText': WHATEVER THE INPUT: true; the input reads as it did. -/
def fnCutTextSpec : ChangeSpec := { name := "fnCutText", fn := fun _ => fun
  | [d] => { results := [.lit (.bool true)], args := [d] }
  | _ => none }
def fnCutTextRow : OpenClaim := { program := "ytnmgfpphihieiaa", sum := "3a7be0ade67d96a8407cad2c1f17341803a01a01224f1eb3180efd555caa2e1b", func := "loop.example/feedbridge/laws.FnCutText", spec := "fnCutText", apart := false }
def FnCutTextSaid : Prop := fnCutTextRow.holds Try.pinned (OpenSpec.ofChange fnCutTextSpec)

/-- ITS FALSE NEIGHBOUR: 'it returns false'. Refute it at one input. -/
def fnCutTextWrong : ChangeSpec := { name := "fnCutText", fn := fun _ => fun
  | [d] => { results := [.lit (.bool false)], args := [d] }
  | _ => none }
def FnCutTextWrongFalsely : Prop := fnCutTextRow.holds Try.pinned (OpenSpec.ofChange fnCutTextWrong)

/-- 'laws.FnExactPostText': WHATEVER THE INPUT: true; the input reads as it did. -/
def fnExactPostTextSpec : ChangeSpec := { name := "fnExactPostText", fn := fun _ => fun
  | [d1, d2] => { results := [.lit (.bool true)], args := [d1, d2] }
  | _ => none }
def fnExactPostTextRow : OpenClaim := { program := "ytnmgfpphihieiaa", sum := "3a7be0ade67d96a8407cad2c1f17341803a01a01224f1eb3180efd555caa2e1b", func := "loop.example/feedbridge/laws.FnExactPostText", spec := "fnExactPostText", inPlace := ["internal/bytealg.IndexByteString"], apart := false }
def FnExactPostTextSaid : Prop := fnExactPostTextRow.holds Try.pinned (OpenSpec.ofChange fnExactPostTextSpec)

/-- ITS FALSE NEIGHBOUR: 'it returns false'. Refute it at one input. -/
def fnExactPostTextWrong : ChangeSpec := { name := "fnExactPostText", fn := fun _ => fun
  | [d1, d2] => { results := [.lit (.bool false)], args := [d1, d2] }
  | _ => none }
def FnExactPostTextWrongFalsely : Prop := fnExactPostTextRow.holds Try.pinned (OpenSpec.ofChange fnExactPostTextWrong)

/-- 'laws.FnPostText': WHATEVER THE INPUT: true; the input reads as it did. -/
def fnPostTextSpec : ChangeSpec := { name := "fnPostText", fn := fun _ => fun
  | [d] => { results := [.lit (.bool true)], args := [d] }
  | _ => none }
def fnPostTextRow : OpenClaim := { program := "ytnmgfpphihieiaa", sum := "3a7be0ade67d96a8407cad2c1f17341803a01a01224f1eb3180efd555caa2e1b", func := "loop.example/feedbridge/laws.FnPostText", spec := "fnPostText", inPlace := ["internal/bytealg.IndexByteString"], apart := false }
def FnPostTextSaid : Prop := fnPostTextRow.holds Try.pinned (OpenSpec.ofChange fnPostTextSpec)

/-- ITS FALSE NEIGHBOUR: 'it returns false'. Refute it at one input. -/
def fnPostTextWrong : ChangeSpec := { name := "fnPostText", fn := fun _ => fun
  | [d] => { results := [.lit (.bool false)], args := [d] }
  | _ => none }
def FnPostTextWrongFalsely : Prop := fnPostTextRow.holds Try.pinned (OpenSpec.ofChange fnPostTextWrong)

/- THE SECOND FORM. 'bulk': how many values and letters a reading holds, each counted each time it is reached (what is shared counts as often as it is met; a slice's spare places count too). A statement '..UptoSaid' is the law's where the arguments, and the package variables that the reading takes, are together of bulk at most 1048576: NARROWER than '..Said'. Prove '..Said' where nothing that the law and all that it calls make is longer than what came in: it says more and counts as full. Else prove '..UptoSaid'. A law counts once. -/
mutual
def uptoBulk {H : Type} : DataW H → Nat
  | .lit (.string bytes) => bytes.length + 1
  | .lit _ => 1
  | .nil => 1
  | .ptr d => uptoBulk d + 1
  | .slice elems spare => uptoBulkAll elems + uptoBulkAll spare + 1
  | .agg parts => uptoBulkAll parts + 1
  | .iface _ d => uptoBulk d + 1
  | .map entries => uptoBulkEntries entries + 1
  | .held _ => 1
def uptoBulkAll {H : Type} : List (DataW H) → Nat
  | [] => 0
  | d :: r => uptoBulk d + uptoBulkAll r
def uptoBulkEntries {H : Type} : List (Lit × DataW H) → Nat
  | [] => 0
  | x :: r => uptoBulkEntry x + uptoBulkEntries r
def uptoBulkEntry {H : Type} : Lit × DataW H → Nat
  | (.string bytes, d) => bytes.length + uptoBulk d + 1
  | (_, d) => uptoBulk d + 1
 end
def uptoSmall : (H : Type) → List (DataW H) → Bool := fun _ ds => decide (uptoBulkAll ds ≤ 1048576)
def OpenSpec.upto (s : _root_.Go.ChangeSpec) : _root_.Go.OpenSpec := { _root_.Go.OpenSpec.ofChange s with cond := some uptoSmall }

/-- 'laws.FnFirstSentence', WHERE WHAT IT READS IS OF BULK AT MOST 1048576: true; the input reads as it did. -/
def fnFirstSentenceUptoRow : OpenClaim := { program := "ytnmgfpphihieiaa", sum := "3a7be0ade67d96a8407cad2c1f17341803a01a01224f1eb3180efd555caa2e1b", func := "loop.example/feedbridge/laws.FnFirstSentence", spec := "fnFirstSentence", apart := false, narrowed := true }
def FnFirstSentenceUptoSaid : Prop := fnFirstSentenceUptoRow.holds Try.pinned (OpenSpec.upto fnFirstSentenceSpec)

/-- 'laws.FnCutText', WHERE WHAT IT READS IS OF BULK AT MOST 1048576: true; the input reads as it did. -/
def fnCutTextUptoRow : OpenClaim := { program := "ytnmgfpphihieiaa", sum := "3a7be0ade67d96a8407cad2c1f17341803a01a01224f1eb3180efd555caa2e1b", func := "loop.example/feedbridge/laws.FnCutText", spec := "fnCutText", apart := false, narrowed := true }
def FnCutTextUptoSaid : Prop := fnCutTextUptoRow.holds Try.pinned (OpenSpec.upto fnCutTextSpec)

/-- 'laws.FnExactPostText', WHERE WHAT IT READS IS OF BULK AT MOST 1048576: true; the input reads as it did. -/
def fnExactPostTextUptoRow : OpenClaim := { program := "ytnmgfpphihieiaa", sum := "3a7be0ade67d96a8407cad2c1f17341803a01a01224f1eb3180efd555caa2e1b", func := "loop.example/feedbridge/laws.FnExactPostText", spec := "fnExactPostText", inPlace := ["internal/bytealg.IndexByteString"], apart := false, narrowed := true }
def FnExactPostTextUptoSaid : Prop := fnExactPostTextUptoRow.holds Try.pinned (OpenSpec.upto fnExactPostTextSpec)

/-- 'laws.FnPostText', WHERE WHAT IT READS IS OF BULK AT MOST 1048576: true; the input reads as it did. -/
def fnPostTextUptoRow : OpenClaim := { program := "ytnmgfpphihieiaa", sum := "3a7be0ade67d96a8407cad2c1f17341803a01a01224f1eb3180efd555caa2e1b", func := "loop.example/feedbridge/laws.FnPostText", spec := "fnPostText", inPlace := ["internal/bytealg.IndexByteString"], apart := false, narrowed := true }
def FnPostTextUptoSaid : Prop := fnPostTextUptoRow.holds Try.pinned (OpenSpec.upto fnPostTextSpec)

end Rows
end Go.Proofs.Ytnmgfpphihieiaa
