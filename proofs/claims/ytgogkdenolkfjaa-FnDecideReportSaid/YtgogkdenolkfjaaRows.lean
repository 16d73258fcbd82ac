/-
  No cell of these rows narrows 'for every input' (looked for: loops, veiled, ifaces, maps, wideKeys, modest, calm, conditions, laid).
  DERIVED. THE GIVEN ROWS OF THIS SEAT. 8 by the template 'for every input the law returns true; each argument reads behind the call as it read before'; 0 by the template 'total and deterministic' (their statements: YtgogkdenolkfjaaTotals.lean).
  GIVEN WITH THE SEED: the statements are not yours to turn. If you find one false, say at which input.
  Laid BY PROGRAM, IN A SANDBOX (cutbox-rows.mjs): the forced cells as the released guide's own fill.sh prints them over the translation d81072ed0e96c0f7… (all of the seat's roots in one cut). By AI agents, Wed Nov 11 2026. No macro, syntax, notation, axiom, sorry.
-/
import Derived.Test.YtgogkdenolkfjaaChecked
import GoSem.Claim
import GoSem.ClaimJoined
import GoSem.ClaimMapViews
import Derived.JoinedTies
import Derived.KernelRfl
namespace Go.Proofs.Ytgogkdenolkfjaa
/- THE CELL 'sum', in the pinned program and in every row, IS THE sha256 OF THE DUMP (.gsa) THAT YtgogkdenolkfjaaProg.lean LOADS. Nothing in Lean hashes anything: it is a label: what it is worth is what the hold of that sum in a sandbox is worth. -/
noncomputable def Try.pinned : Pinned := { name := "ytgogkdenolkfjaa", sum := "d81072ed0e96c0f714a892c07cb15c8da2b85389b713909864b71c3ae05e9c67", checked := Try.checked }
namespace Rows
def none {H : Type} : Left H := { results := [], args := [] }

/-- 'laws.FnExactReportsValid': WHATEVER THE INPUT: true; the input reads as it did. -/
def fnExactReportsValidSpec : ChangeSpec := { name := "fnExactReportsValid", fn := fun _ => fun
  | [d] => { results := [.lit (.bool true)], args := [d] }
  | _ => none }
def fnExactReportsValidRow : OpenClaim := { program := "ytgogkdenolkfjaa", sum := "d81072ed0e96c0f714a892c07cb15c8da2b85389b713909864b71c3ae05e9c67", func := "loop.example/feedbridge/laws.FnExactReportsValid", spec := "fnExactReportsValid", apart := false }
def FnExactReportsValidSaid : Prop := fnExactReportsValidRow.holds Try.pinned (OpenSpec.ofChange fnExactReportsValidSpec)

/-- ITS FALSE NEIGHBOUR: 'it returns false'. Refute it at one input. -/
def fnExactReportsValidWrong : ChangeSpec := { name := "fnExactReportsValid", fn := fun _ => fun
  | [d] => { results := [.lit (.bool false)], args := [d] }
  | _ => none }
def FnExactReportsValidWrongFalsely : Prop := fnExactReportsValidRow.holds Try.pinned (OpenSpec.ofChange fnExactReportsValidWrong)

/-- 'laws.FnExactNextReport': WHATEVER THE INPUT: true; the input reads as it did. -/
def fnExactNextReportSpec : ChangeSpec := { name := "fnExactNextReport", fn := fun _ => fun
  | [d] => { results := [.lit (.bool true)], args := [d] }
  | _ => none }
def fnExactNextReportRow : OpenClaim := { program := "ytgogkdenolkfjaa", sum := "d81072ed0e96c0f714a892c07cb15c8da2b85389b713909864b71c3ae05e9c67", func := "loop.example/feedbridge/laws.FnExactNextReport", spec := "fnExactNextReport", apart := false }
def FnExactNextReportSaid : Prop := fnExactNextReportRow.holds Try.pinned (OpenSpec.ofChange fnExactNextReportSpec)

/-- ITS FALSE NEIGHBOUR: 'it returns false'. Refute it at one input. -/
def fnExactNextReportWrong : ChangeSpec := { name := "fnExactNextReport", fn := fun _ => fun
  | [d] => { results := [.lit (.bool false)], args := [d] }
  | _ => none }
def FnExactNextReportWrongFalsely : Prop := fnExactNextReportRow.holds Try.pinned (OpenSpec.ofChange fnExactNextReportWrong)

/-- 'laws.FnReportsValid': WHATEVER THE INPUT: true; the input reads as it did. -/
def fnReportsValidSpec : ChangeSpec := { name := "fnReportsValid", fn := fun _ => fun
  | [d] => { results := [.lit (.bool true)], args := [d] }
  | _ => none }
def fnReportsValidRow : OpenClaim := { program := "ytgogkdenolkfjaa", sum := "d81072ed0e96c0f714a892c07cb15c8da2b85389b713909864b71c3ae05e9c67", func := "loop.example/feedbridge/laws.FnReportsValid", spec := "fnReportsValid", apart := false }
def FnReportsValidSaid : Prop := fnReportsValidRow.holds Try.pinned (OpenSpec.ofChange fnReportsValidSpec)

/-- ITS FALSE NEIGHBOUR: 'it returns false'. Refute it at one input. -/
def fnReportsValidWrong : ChangeSpec := { name := "fnReportsValid", fn := fun _ => fun
  | [d] => { results := [.lit (.bool false)], args := [d] }
  | _ => none }
def FnReportsValidWrongFalsely : Prop := fnReportsValidRow.holds Try.pinned (OpenSpec.ofChange fnReportsValidWrong)

/-- 'laws.FnNextReport': WHATEVER THE INPUT: true; the input reads as it did. -/
def fnNextReportSpec : ChangeSpec := { name := "fnNextReport", fn := fun _ => fun
  | [d] => { results := [.lit (.bool true)], args := [d] }
  | _ => none }
def fnNextReportRow : OpenClaim := { program := "ytgogkdenolkfjaa", sum := "d81072ed0e96c0f714a892c07cb15c8da2b85389b713909864b71c3ae05e9c67", func := "loop.example/feedbridge/laws.FnNextReport", spec := "fnNextReport", apart := false }
def FnNextReportSaid : Prop := fnNextReportRow.holds Try.pinned (OpenSpec.ofChange fnNextReportSpec)

/-- ITS FALSE NEIGHBOUR: 'it returns false'. Refute it at one input. -/
def fnNextReportWrong : ChangeSpec := { name := "fnNextReport", fn := fun _ => fun
  | [d] => { results := [.lit (.bool false)], args := [d] }
  | _ => none }
def FnNextReportWrongFalsely : Prop := fnNextReportRow.holds Try.pinned (OpenSpec.ofChange fnNextReportWrong)

/-- 'laws.FnAddReport': WHATEVER THE INPUT: true; the input reads as it did. -/
def fnAddReportSpec : ChangeSpec := { name := "fnAddReport", fn := fun _ => fun
  | [d] => { results := [.lit (.bool true)], args := [d] }
  | _ => none }
def fnAddReportRow : OpenClaim := { program := "ytgogkdenolkfjaa", sum := "d81072ed0e96c0f714a892c07cb15c8da2b85389b713909864b71c3ae05e9c67", func := "loop.example/feedbridge/laws.FnAddReport", spec := "fnAddReport", apart := false }
def FnAddReportSaid : Prop := fnAddReportRow.holds Try.pinned (OpenSpec.ofChange fnAddReportSpec)

/-- ITS FALSE NEIGHBOUR: 'it returns false'. Refute it at one input. -/
def fnAddReportWrong : ChangeSpec := { name := "fnAddReport", fn := fun _ => fun
  | [d] => { results := [.lit (.bool false)], args := [d] }
  | _ => none }
def FnAddReportWrongFalsely : Prop := fnAddReportRow.holds Try.pinned (OpenSpec.ofChange fnAddReportWrong)

/-- 'laws.FnExactDecideReport': WHATEVER THE INPUT: true; the input reads as it did. -/
def fnExactDecideReportSpec : ChangeSpec := { name := "fnExactDecideReport", fn := fun _ => fun
  | [d1, d2] => { results := [.lit (.bool true)], args := [d1, d2] }
  | _ => none }
def fnExactDecideReportRow : OpenClaim := { program := "ytgogkdenolkfjaa", sum := "d81072ed0e96c0f714a892c07cb15c8da2b85389b713909864b71c3ae05e9c67", func := "loop.example/feedbridge/laws.FnExactDecideReport", spec := "fnExactDecideReport", apart := false }
def FnExactDecideReportSaid : Prop := fnExactDecideReportRow.holds Try.pinned (OpenSpec.ofChange fnExactDecideReportSpec)

/-- ITS FALSE NEIGHBOUR: 'it returns false'. Refute it at one input. -/
def fnExactDecideReportWrong : ChangeSpec := { name := "fnExactDecideReport", fn := fun _ => fun
  | [d1, d2] => { results := [.lit (.bool false)], args := [d1, d2] }
  | _ => none }
def FnExactDecideReportWrongFalsely : Prop := fnExactDecideReportRow.holds Try.pinned (OpenSpec.ofChange fnExactDecideReportWrong)

/-- 'laws.FnDecideReport': WHATEVER THE INPUT: true; the input reads as it did. -/
def fnDecideReportSpec : ChangeSpec := { name := "fnDecideReport", fn := fun _ => fun
  | [d] => { results := [.lit (.bool true)], args := [d] }
  | _ => none }
def fnDecideReportRow : OpenClaim := { program := "ytgogkdenolkfjaa", sum := "d81072ed0e96c0f714a892c07cb15c8da2b85389b713909864b71c3ae05e9c67", func := "loop.example/feedbridge/laws.FnDecideReport", spec := "fnDecideReport", apart := false }
def FnDecideReportSaid : Prop := fnDecideReportRow.holds Try.pinned (OpenSpec.ofChange fnDecideReportSpec)

/-- ITS FALSE NEIGHBOUR: 'it returns false'. Refute it at one input. -/
def fnDecideReportWrong : ChangeSpec := { name := "fnDecideReport", fn := fun _ => fun
  | [d] => { results := [.lit (.bool false)], args := [d] }
  | _ => none }
def FnDecideReportWrongFalsely : Prop := fnDecideReportRow.holds Try.pinned (OpenSpec.ofChange fnDecideReportWrong)

/-- 'laws.FnExactAddReport': WHATEVER THE INPUT: true; the input reads as it did. -/
def fnExactAddReportSpec : ChangeSpec := { name := "fnExactAddReport", fn := fun _ => fun
  | [d1, d2] => { results := [.lit (.bool true)], args := [d1, d2] }
  | _ => none }
def fnExactAddReportRow : OpenClaim := { program := "ytgogkdenolkfjaa", sum := "d81072ed0e96c0f714a892c07cb15c8da2b85389b713909864b71c3ae05e9c67", func := "loop.example/feedbridge/laws.FnExactAddReport", spec := "fnExactAddReport", apart := false }
def FnExactAddReportSaid : Prop := fnExactAddReportRow.holds Try.pinned (OpenSpec.ofChange fnExactAddReportSpec)

/-- ITS FALSE NEIGHBOUR: 'it returns false'. Refute it at one input. -/
def fnExactAddReportWrong : ChangeSpec := { name := "fnExactAddReport", fn := fun _ => fun
  | [d1, d2] => { results := [.lit (.bool false)], args := [d1, d2] }
  | _ => none }
def FnExactAddReportWrongFalsely : Prop := fnExactAddReportRow.holds Try.pinned (OpenSpec.ofChange fnExactAddReportWrong)

/- THE SECOND FORM. 'bulk': how many values and letters a reading holds, each counted each time it is reached (what is shared counts as often as it is met; a slice's spare places count too). A statement '..UptoSaid' is the law's where the arguments, and the package variables that the reading takes, are together of bulk at most 1048576: NARROWER than '..Said'. Prove '..Said' where nothing that the law and all that it calls make is longer than what came in: it says more and counts as full. Else prove '..UptoSaid'. A law counts once. -/
mutual
def uptoBulk {H : Type} : DataW H → Nat
  | .lit (.string bytes) => bytes.length + 1
  | .lit _ => 1
  | .nil => 1
  | .ptr d => uptoBulk d + 1
  | .slice elems spare => uptoBulkAll elems + uptoBulkAll spare + 1
  | .agg parts => uptoBulkAll parts + 1
  | .iface _ d => uptoBulk d + 1
  | .map entries => uptoBulkEntries entries + 1
  | .held _ => 1
def uptoBulkAll {H : Type} : List (DataW H) → Nat
  | [] => 0
  | d :: r => uptoBulk d + uptoBulkAll r
def uptoBulkEntries {H : Type} : List (Lit × DataW H) → Nat
  | [] => 0
  | x :: r => uptoBulkEntry x + uptoBulkEntries r
def uptoBulkEntry {H : Type} : Lit × DataW H → Nat
  | (.string bytes, d) => bytes.length + uptoBulk d + 1
  | (_, d) => uptoBulk d + 1
 end
def uptoSmall : (H : Type) → List (DataW H) → Bool := fun _ ds => decide (uptoBulkAll ds ≤ 1048576)
def OpenSpec.upto (s : _root_.Go.ChangeSpec) : _root_.Go.OpenSpec := { _root_.Go.OpenSpec.ofChange s with cond := some uptoSmall }

/-- 'laws.FnExactReportsValid', WHERE WHAT IT READS IS OF BULK AT MOST 1048576: true; the input reads as it did. -/
def fnExactReportsValidUptoRow : OpenClaim := { program := "ytgogkdenolkfjaa", sum := "d81072ed0e96c0f714a892c07cb15c8da2b85389b713909864b71c3ae05e9c67", func := "loop.example/feedbridge/laws.FnExactReportsValid", spec := "fnExactReportsValid", apart := false, narrowed := true }
def FnExactReportsValidUptoSaid : Prop := fnExactReportsValidUptoRow.holds Try.pinned (OpenSpec.upto fnExactReportsValidSpec)

/-- 'laws.FnExactNextReport', WHERE WHAT IT READS IS OF BULK AT MOST 1048576: true; the input reads as it did. -/
def fnExactNextReportUptoRow : OpenClaim := { program := "ytgogkdenolkfjaa", sum := "d81072ed0e96c0f714a892c07cb15c8da2b85389b713909864b71c3ae05e9c67", func := "loop.example/feedbridge/laws.FnExactNextReport", spec := "fnExactNextReport", apart := false, narrowed := true }
def FnExactNextReportUptoSaid : Prop := fnExactNextReportUptoRow.holds Try.pinned (OpenSpec.upto fnExactNextReportSpec)

/-- 'laws.FnReportsValid', WHERE WHAT IT READS IS OF BULK AT MOST 1048576: true; the input reads as it did. -/
def fnReportsValidUptoRow : OpenClaim := { program := "ytgogkdenolkfjaa", sum := "d81072ed0e96c0f714a892c07cb15c8da2b85389b713909864b71c3ae05e9c67", func := "loop.example/feedbridge/laws.FnReportsValid", spec := "fnReportsValid", apart := false, narrowed := true }
def FnReportsValidUptoSaid : Prop := fnReportsValidUptoRow.holds Try.pinned (OpenSpec.upto fnReportsValidSpec)

/-- 'laws.FnNextReport', WHERE WHAT IT READS IS OF BULK AT MOST 1048576: true; the input reads as it did. -/
def fnNextReportUptoRow : OpenClaim := { program := "ytgogkdenolkfjaa", sum := "d81072ed0e96c0f714a892c07cb15c8da2b85389b713909864b71c3ae05e9c67", func := "loop.example/feedbridge/laws.FnNextReport", spec := "fnNextReport", apart := false, narrowed := true }
def FnNextReportUptoSaid : Prop := fnNextReportUptoRow.holds Try.pinned (OpenSpec.upto fnNextReportSpec)

/-- 'laws.FnAddReport', WHERE WHAT IT READS IS OF BULK AT MOST 1048576: true; the input reads as it did. -/
def fnAddReportUptoRow : OpenClaim := { program := "ytgogkdenolkfjaa", sum := "d81072ed0e96c0f714a892c07cb15c8da2b85389b713909864b71c3ae05e9c67", func := "loop.example/feedbridge/laws.FnAddReport", spec := "fnAddReport", apart := false, narrowed := true }
def FnAddReportUptoSaid : Prop := fnAddReportUptoRow.holds Try.pinned (OpenSpec.upto fnAddReportSpec)

/-- 'laws.FnExactDecideReport', WHERE WHAT IT READS IS OF BULK AT MOST 1048576: true; the input reads as it did. -/
def fnExactDecideReportUptoRow : OpenClaim := { program := "ytgogkdenolkfjaa", sum := "d81072ed0e96c0f714a892c07cb15c8da2b85389b713909864b71c3ae05e9c67", func := "loop.example/feedbridge/laws.FnExactDecideReport", spec := "fnExactDecideReport", apart := false, narrowed := true }
def FnExactDecideReportUptoSaid : Prop := fnExactDecideReportUptoRow.holds Try.pinned (OpenSpec.upto fnExactDecideReportSpec)

/-- 'laws.FnDecideReport', WHERE WHAT IT READS IS OF BULK AT MOST 1048576: true; the input reads as it did. -/
def fnDecideReportUptoRow : OpenClaim := { program := "ytgogkdenolkfjaa", sum := "d81072ed0e96c0f714a892c07cb15c8da2b85389b713909864b71c3ae05e9c67", func := "loop.example/feedbridge/laws.FnDecideReport", spec := "fnDecideReport", apart := false, narrowed := true }
def FnDecideReportUptoSaid : Prop := fnDecideReportUptoRow.holds Try.pinned (OpenSpec.upto fnDecideReportSpec)

/-- 'laws.FnExactAddReport', WHERE WHAT IT READS IS OF BULK AT MOST 1048576: true; the input reads as it did. -/
def fnExactAddReportUptoRow : OpenClaim := { program := "ytgogkdenolkfjaa", sum := "d81072ed0e96c0f714a892c07cb15c8da2b85389b713909864b71c3ae05e9c67", func := "loop.example/feedbridge/laws.FnExactAddReport", spec := "fnExactAddReport", apart := false, narrowed := true }
def FnExactAddReportUptoSaid : Prop := fnExactAddReportUptoRow.holds Try.pinned (OpenSpec.upto fnExactAddReportSpec)

end Rows
end Go.Proofs.Ytgogkdenolkfjaa
