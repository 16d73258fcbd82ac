/-
  No cell of these rows narrows 'for every input' (looked for: loops, veiled, ifaces, maps, wideKeys, modest, calm, conditions, laid).
  DERIVED. THE GIVEN ROWS OF THIS SEAT. 8 by the template 'for every input the law returns true; each argument reads behind the call as it read before'; 0 by the template 'total and deterministic' (their statements: YtdcppbaahoimfaaTotals.lean).
  GIVEN WITH THE SEED: the statements are not yours to turn. If you find one false, say at which input.
  Laid BY PROGRAM, IN A SANDBOX (cutbox-rows.mjs): the forced cells as the released guide's own fill.sh prints them over the translation ad00f668e406f0b7… (all of the seat's roots in one cut). By AI agents, Wed Nov 11 2026. No macro, syntax, notation, axiom, sorry.
-/
import Derived.Test.YtdcppbaahoimfaaChecked
import GoSem.Claim
import GoSem.ClaimJoined
import GoSem.ClaimMapViews
import Derived.JoinedTies
import Derived.KernelRfl
namespace Go.Proofs.Ytdcppbaahoimfaa
/- THE CELL 'sum', in the pinned program and in every row, IS THE sha256 OF THE DUMP (.gsa) THAT YtdcppbaahoimfaaProg.lean LOADS. Nothing in Lean hashes anything: it is a label: what it is worth is what the hold of that sum in a sandbox is worth. -/
noncomputable def Try.pinned : Pinned := { name := "ytdcppbaahoimfaa", sum := "ad00f668e406f0b7389fed83d9d3d0836d5c6f29c96c3186cdfffa0f7a3adb8b", checked := Try.checked }
namespace Rows
def none {H : Type} : Left H := { results := [], args := [] }

/-- 'laws.FnMovesValid': WHATEVER THE INPUT: true; the input reads as it did. -/
def fnMovesValidSpec : ChangeSpec := { name := "fnMovesValid", fn := fun _ => fun
  | [d] => { results := [.lit (.bool true)], args := [d] }
  | _ => none }
def fnMovesValidRow : OpenClaim := { program := "ytdcppbaahoimfaa", sum := "ad00f668e406f0b7389fed83d9d3d0836d5c6f29c96c3186cdfffa0f7a3adb8b", func := "loop.example/feedbridge/laws.FnMovesValid", spec := "fnMovesValid", apart := false }
def FnMovesValidSaid : Prop := fnMovesValidRow.holds Try.pinned (OpenSpec.ofChange fnMovesValidSpec)

/-- ITS FALSE NEIGHBOUR: 'it returns false'. Refute it at one input. -/
def fnMovesValidWrong : ChangeSpec := { name := "fnMovesValid", fn := fun _ => fun
  | [d] => { results := [.lit (.bool false)], args := [d] }
  | _ => none }
def FnMovesValidWrongFalsely : Prop := fnMovesValidRow.holds Try.pinned (OpenSpec.ofChange fnMovesValidWrong)

/-- 'laws.FnExactMovesValid': WHATEVER THE INPUT: true; the input reads as it did. -/
def fnExactMovesValidSpec : ChangeSpec := { name := "fnExactMovesValid", fn := fun _ => fun
  | [d] => { results := [.lit (.bool true)], args := [d] }
  | _ => none }
def fnExactMovesValidRow : OpenClaim := { program := "ytdcppbaahoimfaa", sum := "ad00f668e406f0b7389fed83d9d3d0836d5c6f29c96c3186cdfffa0f7a3adb8b", func := "loop.example/feedbridge/laws.FnExactMovesValid", spec := "fnExactMovesValid", apart := false }
def FnExactMovesValidSaid : Prop := fnExactMovesValidRow.holds Try.pinned (OpenSpec.ofChange fnExactMovesValidSpec)

/-- ITS FALSE NEIGHBOUR: 'it returns false'. Refute it at one input. -/
def fnExactMovesValidWrong : ChangeSpec := { name := "fnExactMovesValid", fn := fun _ => fun
  | [d] => { results := [.lit (.bool false)], args := [d] }
  | _ => none }
def FnExactMovesValidWrongFalsely : Prop := fnExactMovesValidRow.holds Try.pinned (OpenSpec.ofChange fnExactMovesValidWrong)

/-- 'laws.FnWhereIs': WHATEVER THE INPUT: true; the input reads as it did. -/
def fnWhereIsSpec : ChangeSpec := { name := "fnWhereIs", fn := fun _ => fun
  | [d] => { results := [.lit (.bool true)], args := [d] }
  | _ => none }
def fnWhereIsRow : OpenClaim := { program := "ytdcppbaahoimfaa", sum := "ad00f668e406f0b7389fed83d9d3d0836d5c6f29c96c3186cdfffa0f7a3adb8b", func := "loop.example/feedbridge/laws.FnWhereIs", spec := "fnWhereIs", apart := false }
def FnWhereIsSaid : Prop := fnWhereIsRow.holds Try.pinned (OpenSpec.ofChange fnWhereIsSpec)

/-- ITS FALSE NEIGHBOUR: 'it returns false'. Refute it at one input. -/
def fnWhereIsWrong : ChangeSpec := { name := "fnWhereIs", fn := fun _ => fun
  | [d] => { results := [.lit (.bool false)], args := [d] }
  | _ => none }
def FnWhereIsWrongFalsely : Prop := fnWhereIsRow.holds Try.pinned (OpenSpec.ofChange fnWhereIsWrong)

/-- 'laws.FnExactWhereIs': WHATEVER THE INPUT: true; the input reads as it did. -/
def fnExactWhereIsSpec : ChangeSpec := { name := "fnExactWhereIs", fn := fun _ => fun
  | [d1, d2] => { results := [.lit (.bool true)], args := [d1, d2] }
  | _ => none }
def fnExactWhereIsRow : OpenClaim := { program := "ytdcppbaahoimfaa", sum := "ad00f668e406f0b7389fed83d9d3d0836d5c6f29c96c3186cdfffa0f7a3adb8b", func := "loop.example/feedbridge/laws.FnExactWhereIs", spec := "fnExactWhereIs", apart := false }
def FnExactWhereIsSaid : Prop := fnExactWhereIsRow.holds Try.pinned (OpenSpec.ofChange fnExactWhereIsSpec)

/-- ITS FALSE NEIGHBOUR: 'it returns false'. Refute it at one input. -/
def fnExactWhereIsWrong : ChangeSpec := { name := "fnExactWhereIs", fn := fun _ => fun
  | [d1, d2] => { results := [.lit (.bool false)], args := [d1, d2] }
  | _ => none }
def FnExactWhereIsWrongFalsely : Prop := fnExactWhereIsRow.holds Try.pinned (OpenSpec.ofChange fnExactWhereIsWrong)

/-- 'laws.FnAddMove': WHATEVER THE INPUT: true; the input reads as it did. -/
def fnAddMoveSpec : ChangeSpec := { name := "fnAddMove", fn := fun _ => fun
  | [d] => { results := [.lit (.bool true)], args := [d] }
  | _ => none }
def fnAddMoveRow : OpenClaim := { program := "ytdcppbaahoimfaa", sum := "ad00f668e406f0b7389fed83d9d3d0836d5c6f29c96c3186cdfffa0f7a3adb8b", func := "loop.example/feedbridge/laws.FnAddMove", spec := "fnAddMove", apart := false }
def FnAddMoveSaid : Prop := fnAddMoveRow.holds Try.pinned (OpenSpec.ofChange fnAddMoveSpec)

/-- ITS FALSE NEIGHBOUR: 'it returns false'. Refute it at one input. -/
def fnAddMoveWrong : ChangeSpec := { name := "fnAddMove", fn := fun _ => fun
  | [d] => { results := [.lit (.bool false)], args := [d] }
  | _ => none }
def FnAddMoveWrongFalsely : Prop := fnAddMoveRow.holds Try.pinned (OpenSpec.ofChange fnAddMoveWrong)

/-- 'laws.FnExactAddMove': WHATEVER THE INPUT: true; the input reads as it did. -/
def fnExactAddMoveSpec : ChangeSpec := { name := "fnExactAddMove", fn := fun _ => fun
  | [d1, d2] => { results := [.lit (.bool true)], args := [d1, d2] }
  | _ => none }
def fnExactAddMoveRow : OpenClaim := { program := "ytdcppbaahoimfaa", sum := "ad00f668e406f0b7389fed83d9d3d0836d5c6f29c96c3186cdfffa0f7a3adb8b", func := "loop.example/feedbridge/laws.FnExactAddMove", spec := "fnExactAddMove", apart := false }
def FnExactAddMoveSaid : Prop := fnExactAddMoveRow.holds Try.pinned (OpenSpec.ofChange fnExactAddMoveSpec)

/-- ITS FALSE NEIGHBOUR: 'it returns false'. Refute it at one input. -/
def fnExactAddMoveWrong : ChangeSpec := { name := "fnExactAddMove", fn := fun _ => fun
  | [d1, d2] => { results := [.lit (.bool false)], args := [d1, d2] }
  | _ => none }
def FnExactAddMoveWrongFalsely : Prop := fnExactAddMoveRow.holds Try.pinned (OpenSpec.ofChange fnExactAddMoveWrong)

/-- 'laws.FnMoveFans': WHATEVER THE INPUT: true; the input reads as it did. -/
def fnMoveFansSpec : ChangeSpec := { name := "fnMoveFans", fn := fun _ => fun
  | [d] => { results := [.lit (.bool true)], args := [d] }
  | _ => none }
def fnMoveFansRow : OpenClaim := { program := "ytdcppbaahoimfaa", sum := "ad00f668e406f0b7389fed83d9d3d0836d5c6f29c96c3186cdfffa0f7a3adb8b", func := "loop.example/feedbridge/laws.FnMoveFans", spec := "fnMoveFans", apart := false }
def FnMoveFansSaid : Prop := fnMoveFansRow.holds Try.pinned (OpenSpec.ofChange fnMoveFansSpec)

/-- ITS FALSE NEIGHBOUR: 'it returns false'. Refute it at one input. -/
def fnMoveFansWrong : ChangeSpec := { name := "fnMoveFans", fn := fun _ => fun
  | [d] => { results := [.lit (.bool false)], args := [d] }
  | _ => none }
def FnMoveFansWrongFalsely : Prop := fnMoveFansRow.holds Try.pinned (OpenSpec.ofChange fnMoveFansWrong)

/-- 'laws.FnExactMoveFans': WHATEVER THE INPUT: true; the input reads as it did. -/
def fnExactMoveFansSpec : ChangeSpec := { name := "fnExactMoveFans", fn := fun _ => fun
  | [d1, d2] => { results := [.lit (.bool true)], args := [d1, d2] }
  | _ => none }
def fnExactMoveFansRow : OpenClaim := { program := "ytdcppbaahoimfaa", sum := "ad00f668e406f0b7389fed83d9d3d0836d5c6f29c96c3186cdfffa0f7a3adb8b", func := "loop.example/feedbridge/laws.FnExactMoveFans", spec := "fnExactMoveFans", apart := false }
def FnExactMoveFansSaid : Prop := fnExactMoveFansRow.holds Try.pinned (OpenSpec.ofChange fnExactMoveFansSpec)

/-- ITS FALSE NEIGHBOUR: 'it returns false'. Refute it at one input. -/
def fnExactMoveFansWrong : ChangeSpec := { name := "fnExactMoveFans", fn := fun _ => fun
  | [d1, d2] => { results := [.lit (.bool false)], args := [d1, d2] }
  | _ => none }
def FnExactMoveFansWrongFalsely : Prop := fnExactMoveFansRow.holds Try.pinned (OpenSpec.ofChange fnExactMoveFansWrong)

/- THE SECOND FORM. 'bulk': how many values and letters a reading holds, each counted each time it is reached (what is shared counts as often as it is met; a slice's spare places count too). A statement '..UptoSaid' is the law's where the arguments, and the package variables that the reading takes, are together of bulk at most 1048576: NARROWER than '..Said'. Prove '..Said' where nothing that the law and all that it calls make is longer than what came in: it says more and counts as full. Else prove '..UptoSaid'. A law counts once. -/
mutual
def uptoBulk {H : Type} : DataW H → Nat
  | .lit (.string bytes) => bytes.length + 1
  | .lit _ => 1
  | .nil => 1
  | .ptr d => uptoBulk d + 1
  | .slice elems spare => uptoBulkAll elems + uptoBulkAll spare + 1
  | .agg parts => uptoBulkAll parts + 1
  | .iface _ d => uptoBulk d + 1
  | .map entries => uptoBulkEntries entries + 1
  | .held _ => 1
def uptoBulkAll {H : Type} : List (DataW H) → Nat
  | [] => 0
  | d :: r => uptoBulk d + uptoBulkAll r
def uptoBulkEntries {H : Type} : List (Lit × DataW H) → Nat
  | [] => 0
  | x :: r => uptoBulkEntry x + uptoBulkEntries r
def uptoBulkEntry {H : Type} : Lit × DataW H → Nat
  | (.string bytes, d) => bytes.length + uptoBulk d + 1
  | (_, d) => uptoBulk d + 1
 end
def uptoSmall : (H : Type) → List (DataW H) → Bool := fun _ ds => decide (uptoBulkAll ds ≤ 1048576)
def OpenSpec.upto (s : _root_.Go.ChangeSpec) : _root_.Go.OpenSpec := { _root_.Go.OpenSpec.ofChange s with cond := some uptoSmall }

/-- 'laws.FnMovesValid', WHERE WHAT IT READS IS OF BULK AT MOST 1048576: true; the input reads as it did. -/
def fnMovesValidUptoRow : OpenClaim := { program := "ytdcppbaahoimfaa", sum := "ad00f668e406f0b7389fed83d9d3d0836d5c6f29c96c3186cdfffa0f7a3adb8b", func := "loop.example/feedbridge/laws.FnMovesValid", spec := "fnMovesValid", apart := false, narrowed := true }
def FnMovesValidUptoSaid : Prop := fnMovesValidUptoRow.holds Try.pinned (OpenSpec.upto fnMovesValidSpec)

/-- 'laws.FnExactMovesValid', WHERE WHAT IT READS IS OF BULK AT MOST 1048576: true; the input reads as it did. -/
def fnExactMovesValidUptoRow : OpenClaim := { program := "ytdcppbaahoimfaa", sum := "ad00f668e406f0b7389fed83d9d3d0836d5c6f29c96c3186cdfffa0f7a3adb8b", func := "loop.example/feedbridge/laws.FnExactMovesValid", spec := "fnExactMovesValid", apart := false, narrowed := true }
def FnExactMovesValidUptoSaid : Prop := fnExactMovesValidUptoRow.holds Try.pinned (OpenSpec.upto fnExactMovesValidSpec)

/-- 'laws.FnWhereIs', WHERE WHAT IT READS IS OF BULK AT MOST 1048576: true; the input reads as it did. -/
def fnWhereIsUptoRow : OpenClaim := { program := "ytdcppbaahoimfaa", sum := "ad00f668e406f0b7389fed83d9d3d0836d5c6f29c96c3186cdfffa0f7a3adb8b", func := "loop.example/feedbridge/laws.FnWhereIs", spec := "fnWhereIs", apart := false, narrowed := true }
def FnWhereIsUptoSaid : Prop := fnWhereIsUptoRow.holds Try.pinned (OpenSpec.upto fnWhereIsSpec)

/-- 'laws.FnExactWhereIs', WHERE WHAT IT READS IS OF BULK AT MOST 1048576: true; the input reads as it did. -/
def fnExactWhereIsUptoRow : OpenClaim := { program := "ytdcppbaahoimfaa", sum := "ad00f668e406f0b7389fed83d9d3d0836d5c6f29c96c3186cdfffa0f7a3adb8b", func := "loop.example/feedbridge/laws.FnExactWhereIs", spec := "fnExactWhereIs", apart := false, narrowed := true }
def FnExactWhereIsUptoSaid : Prop := fnExactWhereIsUptoRow.holds Try.pinned (OpenSpec.upto fnExactWhereIsSpec)

/-- 'laws.FnAddMove', WHERE WHAT IT READS IS OF BULK AT MOST 1048576: true; the input reads as it did. -/
def fnAddMoveUptoRow : OpenClaim := { program := "ytdcppbaahoimfaa", sum := "ad00f668e406f0b7389fed83d9d3d0836d5c6f29c96c3186cdfffa0f7a3adb8b", func := "loop.example/feedbridge/laws.FnAddMove", spec := "fnAddMove", apart := false, narrowed := true }
def FnAddMoveUptoSaid : Prop := fnAddMoveUptoRow.holds Try.pinned (OpenSpec.upto fnAddMoveSpec)

/-- 'laws.FnExactAddMove', WHERE WHAT IT READS IS OF BULK AT MOST 1048576: true; the input reads as it did. -/
def fnExactAddMoveUptoRow : OpenClaim := { program := "ytdcppbaahoimfaa", sum := "ad00f668e406f0b7389fed83d9d3d0836d5c6f29c96c3186cdfffa0f7a3adb8b", func := "loop.example/feedbridge/laws.FnExactAddMove", spec := "fnExactAddMove", apart := false, narrowed := true }
def FnExactAddMoveUptoSaid : Prop := fnExactAddMoveUptoRow.holds Try.pinned (OpenSpec.upto fnExactAddMoveSpec)

/-- 'laws.FnMoveFans', WHERE WHAT IT READS IS OF BULK AT MOST 1048576: true; the input reads as it did. -/
def fnMoveFansUptoRow : OpenClaim := { program := "ytdcppbaahoimfaa", sum := "ad00f668e406f0b7389fed83d9d3d0836d5c6f29c96c3186cdfffa0f7a3adb8b", func := "loop.example/feedbridge/laws.FnMoveFans", spec := "fnMoveFans", apart := false, narrowed := true }
def FnMoveFansUptoSaid : Prop := fnMoveFansUptoRow.holds Try.pinned (OpenSpec.upto fnMoveFansSpec)

/-- 'laws.FnExactMoveFans', WHERE WHAT IT READS IS OF BULK AT MOST 1048576: true; the input reads as it did. -/
def fnExactMoveFansUptoRow : OpenClaim := { program := "ytdcppbaahoimfaa", sum := "ad00f668e406f0b7389fed83d9d3d0836d5c6f29c96c3186cdfffa0f7a3adb8b", func := "loop.example/feedbridge/laws.FnExactMoveFans", spec := "fnExactMoveFans", apart := false, narrowed := true }
def FnExactMoveFansUptoSaid : Prop := fnExactMoveFansUptoRow.holds Try.pinned (OpenSpec.upto fnExactMoveFansSpec)

end Rows
end Go.Proofs.Ytdcppbaahoimfaa
