/-
  NARROWER THAN 'FOR EVERY INPUT', by the rows' own cells (each row's printed sentence says how): FnExactBridgeLine: laid · FnBridgeLine: laid · FnExactBridgeLines: laid · FnBridgeLines: laid.
  DERIVED. THE GIVEN ROWS OF THIS SEAT. 4 by the template 'for every input the law returns true; each argument reads behind the call as it read before'; 0 by the template 'total and deterministic' (their statements: YtfnmlffpnmmcdaaGreatDoorTotals.lean).
  GIVEN WITH THE SEED: the statements are not yours to turn. If you find one false, say at which input.
  Laid BY PROGRAM, IN A SANDBOX (cutbox-rows.mjs): the forced cells as the released guide's own fill.sh prints them over the translation e855634186813f85… (all of the seat's roots in one cut). By AI agents, Wed Nov 11 2026. No macro, syntax, notation, axiom, sorry.
-/
import Derived.Test.YtfnmlffpnmmcdaaGreatDoorChecked
import GoSem.PinnedTables
import GoSem.Claim
import GoSem.ClaimJoined
import GoSem.ClaimMapViews
import Derived.JoinedTies
import Derived.KernelRfl
namespace Go.Proofs.YtfnmlffpnmmcdaaGreatDoor
/- THE CELL 'sum', in the pinned program and in every row, IS THE sha256 OF THE DUMP (.gsa) THAT YtfnmlffpnmmcdaaGreatDoorProg.lean LOADS. Nothing in Lean hashes anything: it is a label: what it is worth is what the hold of that sum in a sandbox is worth. -/
noncomputable def Tryz.pinned : Pinned := { name := "ytfnmlffpnmmcdaagreatdoor", sum := "e855634186813f85e9df02afd40bb7d08aa8c9e23df75fbca1d8ee109b6e18ad", checked := Tryz.checked }
namespace Rows
def none {H : Type} : Left H := { results := [], args := [] }

/- WHAT THE LISTED PACKAGE-LEVEL VARIABLES READ AS WHEN THE CALL BEGINS. Each datum BY PROGRAM (the guide's laid-datum.mjs) off the statement by which the dump's own 'gosem.cut.vars' lays the variable. In a bare row this is a premise. The card (YtfnmlffpnmmcdaaGreatDoorCards.lean) ties it to the program's text. -/
def laid_loop_example_feedbridge_impl_kindWords {H : Type} : DataW H := .agg [.lit (.string [99, 114, 101, 97, 116, 101]), .lit (.string [117, 112, 100, 97, 116, 101]), .lit (.string [100, 101, 108, 101, 116, 101]), .lit (.string [102, 111, 108, 108, 111, 119]), .lit (.string [97, 99, 99, 101, 112, 116]), .lit (.string [117, 110, 100, 111])]
def laid_loop_example_feedbridge_impl_escapes {H : Type} : DataW H := .agg [.agg [.lit (.int .u8 38), .lit (.string [38, 97, 109, 112, 59])], .agg [.lit (.int .u8 60), .lit (.string [38, 108, 116, 59])], .agg [.lit (.int .u8 62), .lit (.string [38, 103, 116, 59])], .agg [.lit (.int .u8 34), .lit (.string [38, 113, 117, 111, 116, 59])]]
def laid_unicode_utf8_acceptRanges {H : Type} : DataW H := .agg [.agg [.lit (.int .u8 128), .lit (.int .u8 191)], .agg [.lit (.int .u8 160), .lit (.int .u8 191)], .agg [.lit (.int .u8 128), .lit (.int .u8 159)], .agg [.lit (.int .u8 144), .lit (.int .u8 191)], .agg [.lit (.int .u8 128), .lit (.int .u8 143)], .agg [.lit (.int .u8 0), .lit (.int .u8 0)], .agg [.lit (.int .u8 0), .lit (.int .u8 0)], .agg [.lit (.int .u8 0), .lit (.int .u8 0)], .agg [.lit (.int .u8 0), .lit (.int .u8 0)], .agg [.lit (.int .u8 0), .lit (.int .u8 0)], .agg [.lit (.int .u8 0), .lit (.int .u8 0)], .agg [.lit (.int .u8 0), .lit (.int .u8 0)], .agg [.lit (.int .u8 0), .lit (.int .u8 0)], .agg [.lit (.int .u8 0), .lit (.int .u8 0)], .agg [.lit (.int .u8 0), .lit (.int .u8 0)], .agg [.lit (.int .u8 0), .lit (.int .u8 0)]]
/-- One of Go's own tables, pinned by name: the form's constant. -/
def laid_unicode_utf8_first : DataW Unit := Go.Pinned.utf8First

/-- 'laws.FnExactBridgeLine': WHATEVER THE INPUT: true; the input reads as it did. -/
def fnExactBridgeLineSpec : ChangeSpec := { name := "fnExactBridgeLine", vars := ["loop.example/feedbridge/impl.escapes", "loop.example/feedbridge/impl.kindWords"], fn := fun _ => fun
  | [d1, d2, g1, g2] => { results := [.lit (.bool true)], args := [d1, d2], vars := [g1, g2] }
  | _ => none }
def fnExactBridgeLineRow : OpenClaim := { program := "ytfnmlffpnmmcdaagreatdoor", sum := "e855634186813f85e9df02afd40bb7d08aa8c9e23df75fbca1d8ee109b6e18ad", func := "loop.example/feedbridge/laws.FnExactBridgeLine", spec := "fnExactBridgeLine", inPlace := ["internal/abi.NoEscape", "internal/bytealg.MakeNoZero", "internal/bytealg.IndexByteString", "internal/bytealg.IndexString"], unfollowed := true, recurses := true, named := ["internal/bytealg.MaxLen", "loop.example/feedbridge/impl.escapes", "loop.example/feedbridge/impl.kindWords"], apart := false, laid := [("loop.example/feedbridge/impl.kindWords", laid_loop_example_feedbridge_impl_kindWords), ("loop.example/feedbridge/impl.escapes", laid_loop_example_feedbridge_impl_escapes)] }
def FnExactBridgeLineSaid : Prop := fnExactBridgeLineRow.holds Tryz.pinned (OpenSpec.ofChange fnExactBridgeLineSpec)

/-- ITS FALSE NEIGHBOUR: 'it returns false'. Refute it at one input. -/
def fnExactBridgeLineWrong : ChangeSpec := { name := "fnExactBridgeLine", vars := ["loop.example/feedbridge/impl.escapes", "loop.example/feedbridge/impl.kindWords"], fn := fun _ => fun
  | [d1, d2, g1, g2] => { results := [.lit (.bool false)], args := [d1, d2], vars := [g1, g2] }
  | _ => none }
def FnExactBridgeLineWrongFalsely : Prop := fnExactBridgeLineRow.holds Tryz.pinned (OpenSpec.ofChange fnExactBridgeLineWrong)

/-- 'laws.FnBridgeLine': WHATEVER THE INPUT: true; the input reads as it did. -/
def fnBridgeLineSpec : ChangeSpec := { name := "fnBridgeLine", vars := ["loop.example/feedbridge/impl.escapes", "loop.example/feedbridge/impl.kindWords"], fn := fun _ => fun
  | [d, g1, g2] => { results := [.lit (.bool true)], args := [d], vars := [g1, g2] }
  | _ => none }
def fnBridgeLineRow : OpenClaim := { program := "ytfnmlffpnmmcdaagreatdoor", sum := "e855634186813f85e9df02afd40bb7d08aa8c9e23df75fbca1d8ee109b6e18ad", func := "loop.example/feedbridge/laws.FnBridgeLine", spec := "fnBridgeLine", inPlace := ["internal/abi.NoEscape", "internal/bytealg.MakeNoZero", "internal/bytealg.IndexByteString", "internal/bytealg.IndexString", "internal/bytealg.CountString"], unfollowed := true, recurses := true, named := ["internal/bytealg.MaxLen", "loop.example/feedbridge/impl.escapes", "loop.example/feedbridge/impl.kindWords", "unicode/utf8.first", "unicode/utf8.acceptRanges"], apart := false, laid := [("unicode/utf8.acceptRanges", laid_unicode_utf8_acceptRanges), ("loop.example/feedbridge/impl.kindWords", laid_loop_example_feedbridge_impl_kindWords), ("loop.example/feedbridge/impl.escapes", laid_loop_example_feedbridge_impl_escapes), ("unicode/utf8.first", laid_unicode_utf8_first)] }
def FnBridgeLineSaid : Prop := fnBridgeLineRow.holds Tryz.pinned (OpenSpec.ofChange fnBridgeLineSpec)

/-- ITS FALSE NEIGHBOUR: 'it returns false'. Refute it at one input. -/
def fnBridgeLineWrong : ChangeSpec := { name := "fnBridgeLine", vars := ["loop.example/feedbridge/impl.escapes", "loop.example/feedbridge/impl.kindWords"], fn := fun _ => fun
  | [d, g1, g2] => { results := [.lit (.bool false)], args := [d], vars := [g1, g2] }
  | _ => none }
def FnBridgeLineWrongFalsely : Prop := fnBridgeLineRow.holds Tryz.pinned (OpenSpec.ofChange fnBridgeLineWrong)

/-- 'laws.FnExactBridgeLines': WHATEVER THE INPUT: true; the input reads as it did. -/
def fnExactBridgeLinesSpec : ChangeSpec := { name := "fnExactBridgeLines", vars := ["loop.example/feedbridge/impl.escapes", "loop.example/feedbridge/impl.kindWords"], fn := fun _ => fun
  | [d1, d2, g1, g2] => { results := [.lit (.bool true)], args := [d1, d2], vars := [g1, g2] }
  | _ => none }
def fnExactBridgeLinesRow : OpenClaim := { program := "ytfnmlffpnmmcdaagreatdoor", sum := "e855634186813f85e9df02afd40bb7d08aa8c9e23df75fbca1d8ee109b6e18ad", func := "loop.example/feedbridge/laws.FnExactBridgeLines", spec := "fnExactBridgeLines", inPlace := ["internal/abi.NoEscape", "internal/bytealg.MakeNoZero", "internal/bytealg.IndexByteString", "internal/bytealg.IndexString"], unfollowed := true, recurses := true, named := ["internal/bytealg.MaxLen", "loop.example/feedbridge/impl.escapes", "loop.example/feedbridge/impl.kindWords"], apart := false, laid := [("loop.example/feedbridge/impl.kindWords", laid_loop_example_feedbridge_impl_kindWords), ("loop.example/feedbridge/impl.escapes", laid_loop_example_feedbridge_impl_escapes)] }
def FnExactBridgeLinesSaid : Prop := fnExactBridgeLinesRow.holds Tryz.pinned (OpenSpec.ofChange fnExactBridgeLinesSpec)

/-- ITS FALSE NEIGHBOUR: 'it returns false'. Refute it at one input. -/
def fnExactBridgeLinesWrong : ChangeSpec := { name := "fnExactBridgeLines", vars := ["loop.example/feedbridge/impl.escapes", "loop.example/feedbridge/impl.kindWords"], fn := fun _ => fun
  | [d1, d2, g1, g2] => { results := [.lit (.bool false)], args := [d1, d2], vars := [g1, g2] }
  | _ => none }
def FnExactBridgeLinesWrongFalsely : Prop := fnExactBridgeLinesRow.holds Tryz.pinned (OpenSpec.ofChange fnExactBridgeLinesWrong)

/-- 'laws.FnBridgeLines': WHATEVER THE INPUT: true; the input reads as it did. -/
def fnBridgeLinesSpec : ChangeSpec := { name := "fnBridgeLines", vars := ["loop.example/feedbridge/impl.escapes", "loop.example/feedbridge/impl.kindWords"], fn := fun _ => fun
  | [d, g1, g2] => { results := [.lit (.bool true)], args := [d], vars := [g1, g2] }
  | _ => none }
def fnBridgeLinesRow : OpenClaim := { program := "ytfnmlffpnmmcdaagreatdoor", sum := "e855634186813f85e9df02afd40bb7d08aa8c9e23df75fbca1d8ee109b6e18ad", func := "loop.example/feedbridge/laws.FnBridgeLines", spec := "fnBridgeLines", inPlace := ["internal/abi.NoEscape", "internal/bytealg.MakeNoZero", "internal/bytealg.IndexByteString", "internal/bytealg.IndexString"], unfollowed := true, recurses := true, named := ["internal/bytealg.MaxLen", "loop.example/feedbridge/impl.escapes", "loop.example/feedbridge/impl.kindWords"], apart := false, laid := [("loop.example/feedbridge/impl.kindWords", laid_loop_example_feedbridge_impl_kindWords), ("loop.example/feedbridge/impl.escapes", laid_loop_example_feedbridge_impl_escapes)] }
def FnBridgeLinesSaid : Prop := fnBridgeLinesRow.holds Tryz.pinned (OpenSpec.ofChange fnBridgeLinesSpec)

/-- ITS FALSE NEIGHBOUR: 'it returns false'. Refute it at one input. -/
def fnBridgeLinesWrong : ChangeSpec := { name := "fnBridgeLines", vars := ["loop.example/feedbridge/impl.escapes", "loop.example/feedbridge/impl.kindWords"], fn := fun _ => fun
  | [d, g1, g2] => { results := [.lit (.bool false)], args := [d], vars := [g1, g2] }
  | _ => none }
def FnBridgeLinesWrongFalsely : Prop := fnBridgeLinesRow.holds Tryz.pinned (OpenSpec.ofChange fnBridgeLinesWrong)

/- THE SECOND FORM. 'bulk': how many values and letters a reading holds, each counted each time it is reached (what is shared counts as often as it is met; a slice's spare places count too). A statement '..UptoSaid' is the law's where the arguments, and the package variables that the reading takes, are together of bulk at most 1048576: NARROWER than '..Said'. Prove '..Said' where nothing that the law and all that it calls make is longer than what came in: it says more and counts as full. Else prove '..UptoSaid'. A law counts once. -/
mutual
def uptoBulk {H : Type} : DataW H → Nat
  | .lit (.string bytes) => bytes.length + 1
  | .lit _ => 1
  | .nil => 1
  | .ptr d => uptoBulk d + 1
  | .slice elems spare => uptoBulkAll elems + uptoBulkAll spare + 1
  | .agg parts => uptoBulkAll parts + 1
  | .iface _ d => uptoBulk d + 1
  | .map entries => uptoBulkEntries entries + 1
  | .held _ => 1
def uptoBulkAll {H : Type} : List (DataW H) → Nat
  | [] => 0
  | d :: r => uptoBulk d + uptoBulkAll r
def uptoBulkEntries {H : Type} : List (Lit × DataW H) → Nat
  | [] => 0
  | x :: r => uptoBulkEntry x + uptoBulkEntries r
def uptoBulkEntry {H : Type} : Lit × DataW H → Nat
  | (.string bytes, d) => bytes.length + uptoBulk d + 1
  | (_, d) => uptoBulk d + 1
 end
def uptoSmall : (H : Type) → List (DataW H) → Bool := fun _ ds => decide (uptoBulkAll ds ≤ 1048576)
def OpenSpec.upto (s : _root_.Go.ChangeSpec) : _root_.Go.OpenSpec := { _root_.Go.OpenSpec.ofChange s with cond := some uptoSmall }

/-- 'laws.FnExactBridgeLine', WHERE WHAT IT READS IS OF BULK AT MOST 1048576: true; the input reads as it did. -/
def fnExactBridgeLineUptoRow : OpenClaim := { program := "ytfnmlffpnmmcdaagreatdoor", sum := "e855634186813f85e9df02afd40bb7d08aa8c9e23df75fbca1d8ee109b6e18ad", func := "loop.example/feedbridge/laws.FnExactBridgeLine", spec := "fnExactBridgeLine", inPlace := ["internal/abi.NoEscape", "internal/bytealg.MakeNoZero", "internal/bytealg.IndexByteString", "internal/bytealg.IndexString"], unfollowed := true, recurses := true, named := ["internal/bytealg.MaxLen", "loop.example/feedbridge/impl.escapes", "loop.example/feedbridge/impl.kindWords"], apart := false, laid := [("loop.example/feedbridge/impl.kindWords", laid_loop_example_feedbridge_impl_kindWords), ("loop.example/feedbridge/impl.escapes", laid_loop_example_feedbridge_impl_escapes)], narrowed := true }
def FnExactBridgeLineUptoSaid : Prop := fnExactBridgeLineUptoRow.holds Tryz.pinned (OpenSpec.upto fnExactBridgeLineSpec)

/-- 'laws.FnBridgeLine', WHERE WHAT IT READS IS OF BULK AT MOST 1048576: true; the input reads as it did. -/
def fnBridgeLineUptoRow : OpenClaim := { program := "ytfnmlffpnmmcdaagreatdoor", sum := "e855634186813f85e9df02afd40bb7d08aa8c9e23df75fbca1d8ee109b6e18ad", func := "loop.example/feedbridge/laws.FnBridgeLine", spec := "fnBridgeLine", inPlace := ["internal/abi.NoEscape", "internal/bytealg.MakeNoZero", "internal/bytealg.IndexByteString", "internal/bytealg.IndexString", "internal/bytealg.CountString"], unfollowed := true, recurses := true, named := ["internal/bytealg.MaxLen", "loop.example/feedbridge/impl.escapes", "loop.example/feedbridge/impl.kindWords", "unicode/utf8.first", "unicode/utf8.acceptRanges"], apart := false, laid := [("unicode/utf8.acceptRanges", laid_unicode_utf8_acceptRanges), ("loop.example/feedbridge/impl.kindWords", laid_loop_example_feedbridge_impl_kindWords), ("loop.example/feedbridge/impl.escapes", laid_loop_example_feedbridge_impl_escapes), ("unicode/utf8.first", laid_unicode_utf8_first)], narrowed := true }
def FnBridgeLineUptoSaid : Prop := fnBridgeLineUptoRow.holds Tryz.pinned (OpenSpec.upto fnBridgeLineSpec)

/-- 'laws.FnExactBridgeLines', WHERE WHAT IT READS IS OF BULK AT MOST 1048576: true; the input reads as it did. -/
def fnExactBridgeLinesUptoRow : OpenClaim := { program := "ytfnmlffpnmmcdaagreatdoor", sum := "e855634186813f85e9df02afd40bb7d08aa8c9e23df75fbca1d8ee109b6e18ad", func := "loop.example/feedbridge/laws.FnExactBridgeLines", spec := "fnExactBridgeLines", inPlace := ["internal/abi.NoEscape", "internal/bytealg.MakeNoZero", "internal/bytealg.IndexByteString", "internal/bytealg.IndexString"], unfollowed := true, recurses := true, named := ["internal/bytealg.MaxLen", "loop.example/feedbridge/impl.escapes", "loop.example/feedbridge/impl.kindWords"], apart := false, laid := [("loop.example/feedbridge/impl.kindWords", laid_loop_example_feedbridge_impl_kindWords), ("loop.example/feedbridge/impl.escapes", laid_loop_example_feedbridge_impl_escapes)], narrowed := true }
def FnExactBridgeLinesUptoSaid : Prop := fnExactBridgeLinesUptoRow.holds Tryz.pinned (OpenSpec.upto fnExactBridgeLinesSpec)

/-- 'laws.FnBridgeLines', WHERE WHAT IT READS IS OF BULK AT MOST 1048576: true; the input reads as it did. -/
def fnBridgeLinesUptoRow : OpenClaim := { program := "ytfnmlffpnmmcdaagreatdoor", sum := "e855634186813f85e9df02afd40bb7d08aa8c9e23df75fbca1d8ee109b6e18ad", func := "loop.example/feedbridge/laws.FnBridgeLines", spec := "fnBridgeLines", inPlace := ["internal/abi.NoEscape", "internal/bytealg.MakeNoZero", "internal/bytealg.IndexByteString", "internal/bytealg.IndexString"], unfollowed := true, recurses := true, named := ["internal/bytealg.MaxLen", "loop.example/feedbridge/impl.escapes", "loop.example/feedbridge/impl.kindWords"], apart := false, laid := [("loop.example/feedbridge/impl.kindWords", laid_loop_example_feedbridge_impl_kindWords), ("loop.example/feedbridge/impl.escapes", laid_loop_example_feedbridge_impl_escapes)], narrowed := true }
def FnBridgeLinesUptoSaid : Prop := fnBridgeLinesUptoRow.holds Tryz.pinned (OpenSpec.upto fnBridgeLinesSpec)

end Rows
end Go.Proofs.YtfnmlffpnmmcdaaGreatDoor
