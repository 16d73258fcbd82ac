/-
  No cell of these rows narrows 'for every input' (looked for: loops, veiled, ifaces, maps, wideKeys, modest, calm, conditions, laid).
  DERIVED. THE GIVEN ROWS OF THIS SEAT. 8 by the template 'for every input the law returns true; each argument reads behind the call as it read before'; 0 by the template 'total and deterministic' (their statements: YtggdfmkenmlbjaaTotals.lean).
  GIVEN WITH THE SEED: the statements are not yours to turn. If you find one false, say at which input.
  Laid BY PROGRAM, IN A SANDBOX (cutbox-rows.mjs): the forced cells as the released guide's own fill.sh prints them over the translation a8db476d5fb07de4… (all of the seat's roots in one cut). By AI agents, Wed Nov 11 2026. No macro, syntax, notation, axiom, sorry.
-/
import Derived.Test.YtggdfmkenmlbjaaChecked
import GoSem.Claim
import GoSem.ClaimJoined
import GoSem.ClaimMapViews
import Derived.JoinedTies
import Derived.KernelRfl
namespace Go.Proofs.Ytggdfmkenmlbjaa
/- THE CELL 'sum', in the pinned program and in every row, IS THE sha256 OF THE DUMP (.gsa) THAT YtggdfmkenmlbjaaProg.lean LOADS. Nothing in Lean hashes anything: it is a label: what it is worth is what the hold of that sum in a sandbox is worth. -/
noncomputable def Try.pinned : Pinned := { name := "ytggdfmkenmlbjaa", sum := "a8db476d5fb07de45b7e6eaea54b1886c503237cb34bc1cce103de6d1bc0ef90", checked := Try.checked }
namespace Rows
def none {H : Type} : Left H := { results := [], args := [] }

/-- 'laws.FnExactTombsValid': WHATEVER THE INPUT: true; the input reads as it did. -/
def fnExactTombsValidSpec : ChangeSpec := { name := "fnExactTombsValid", fn := fun _ => fun
  | [d] => { results := [.lit (.bool true)], args := [d] }
  | _ => none }
def fnExactTombsValidRow : OpenClaim := { program := "ytggdfmkenmlbjaa", sum := "a8db476d5fb07de45b7e6eaea54b1886c503237cb34bc1cce103de6d1bc0ef90", func := "loop.example/feedbridge/laws.FnExactTombsValid", spec := "fnExactTombsValid", apart := false }
def FnExactTombsValidSaid : Prop := fnExactTombsValidRow.holds Try.pinned (OpenSpec.ofChange fnExactTombsValidSpec)

/-- ITS FALSE NEIGHBOUR: 'it returns false'. Refute it at one input. -/
def fnExactTombsValidWrong : ChangeSpec := { name := "fnExactTombsValid", fn := fun _ => fun
  | [d] => { results := [.lit (.bool false)], args := [d] }
  | _ => none }
def FnExactTombsValidWrongFalsely : Prop := fnExactTombsValidRow.holds Try.pinned (OpenSpec.ofChange fnExactTombsValidWrong)

/-- 'laws.FnExactIsBuried': WHATEVER THE INPUT: true; the input reads as it did. -/
def fnExactIsBuriedSpec : ChangeSpec := { name := "fnExactIsBuried", fn := fun _ => fun
  | [d1, d2, d3] => { results := [.lit (.bool true)], args := [d1, d2, d3] }
  | _ => none }
def fnExactIsBuriedRow : OpenClaim := { program := "ytggdfmkenmlbjaa", sum := "a8db476d5fb07de45b7e6eaea54b1886c503237cb34bc1cce103de6d1bc0ef90", func := "loop.example/feedbridge/laws.FnExactIsBuried", spec := "fnExactIsBuried", apart := false }
def FnExactIsBuriedSaid : Prop := fnExactIsBuriedRow.holds Try.pinned (OpenSpec.ofChange fnExactIsBuriedSpec)

/-- ITS FALSE NEIGHBOUR: 'it returns false'. Refute it at one input. -/
def fnExactIsBuriedWrong : ChangeSpec := { name := "fnExactIsBuried", fn := fun _ => fun
  | [d1, d2, d3] => { results := [.lit (.bool false)], args := [d1, d2, d3] }
  | _ => none }
def FnExactIsBuriedWrongFalsely : Prop := fnExactIsBuriedRow.holds Try.pinned (OpenSpec.ofChange fnExactIsBuriedWrong)

/-- 'laws.FnTombsValid': WHATEVER THE INPUT: true; the input reads as it did. -/
def fnTombsValidSpec : ChangeSpec := { name := "fnTombsValid", fn := fun _ => fun
  | [d] => { results := [.lit (.bool true)], args := [d] }
  | _ => none }
def fnTombsValidRow : OpenClaim := { program := "ytggdfmkenmlbjaa", sum := "a8db476d5fb07de45b7e6eaea54b1886c503237cb34bc1cce103de6d1bc0ef90", func := "loop.example/feedbridge/laws.FnTombsValid", spec := "fnTombsValid", apart := false }
def FnTombsValidSaid : Prop := fnTombsValidRow.holds Try.pinned (OpenSpec.ofChange fnTombsValidSpec)

/-- ITS FALSE NEIGHBOUR: 'it returns false'. Refute it at one input. -/
def fnTombsValidWrong : ChangeSpec := { name := "fnTombsValid", fn := fun _ => fun
  | [d] => { results := [.lit (.bool false)], args := [d] }
  | _ => none }
def FnTombsValidWrongFalsely : Prop := fnTombsValidRow.holds Try.pinned (OpenSpec.ofChange fnTombsValidWrong)

/-- 'laws.FnIsBuried': WHATEVER THE INPUT: true; the input reads as it did. -/
def fnIsBuriedSpec : ChangeSpec := { name := "fnIsBuried", fn := fun _ => fun
  | [d] => { results := [.lit (.bool true)], args := [d] }
  | _ => none }
def fnIsBuriedRow : OpenClaim := { program := "ytggdfmkenmlbjaa", sum := "a8db476d5fb07de45b7e6eaea54b1886c503237cb34bc1cce103de6d1bc0ef90", func := "loop.example/feedbridge/laws.FnIsBuried", spec := "fnIsBuried", apart := false }
def FnIsBuriedSaid : Prop := fnIsBuriedRow.holds Try.pinned (OpenSpec.ofChange fnIsBuriedSpec)

/-- ITS FALSE NEIGHBOUR: 'it returns false'. Refute it at one input. -/
def fnIsBuriedWrong : ChangeSpec := { name := "fnIsBuried", fn := fun _ => fun
  | [d] => { results := [.lit (.bool false)], args := [d] }
  | _ => none }
def FnIsBuriedWrongFalsely : Prop := fnIsBuriedRow.holds Try.pinned (OpenSpec.ofChange fnIsBuriedWrong)

/-- 'laws.FnBuryKey': WHATEVER THE INPUT: true; the input reads as it did. -/
def fnBuryKeySpec : ChangeSpec := { name := "fnBuryKey", fn := fun _ => fun
  | [d] => { results := [.lit (.bool true)], args := [d] }
  | _ => none }
def fnBuryKeyRow : OpenClaim := { program := "ytggdfmkenmlbjaa", sum := "a8db476d5fb07de45b7e6eaea54b1886c503237cb34bc1cce103de6d1bc0ef90", func := "loop.example/feedbridge/laws.FnBuryKey", spec := "fnBuryKey", apart := false }
def FnBuryKeySaid : Prop := fnBuryKeyRow.holds Try.pinned (OpenSpec.ofChange fnBuryKeySpec)

/-- ITS FALSE NEIGHBOUR: 'it returns false'. Refute it at one input. -/
def fnBuryKeyWrong : ChangeSpec := { name := "fnBuryKey", fn := fun _ => fun
  | [d] => { results := [.lit (.bool false)], args := [d] }
  | _ => none }
def FnBuryKeyWrongFalsely : Prop := fnBuryKeyRow.holds Try.pinned (OpenSpec.ofChange fnBuryKeyWrong)

/-- 'laws.FnExactBuryKey': WHATEVER THE INPUT: true; the input reads as it did. -/
def fnExactBuryKeySpec : ChangeSpec := { name := "fnExactBuryKey", fn := fun _ => fun
  | [d1, d2, d3] => { results := [.lit (.bool true)], args := [d1, d2, d3] }
  | _ => none }
def fnExactBuryKeyRow : OpenClaim := { program := "ytggdfmkenmlbjaa", sum := "a8db476d5fb07de45b7e6eaea54b1886c503237cb34bc1cce103de6d1bc0ef90", func := "loop.example/feedbridge/laws.FnExactBuryKey", spec := "fnExactBuryKey", apart := false }
def FnExactBuryKeySaid : Prop := fnExactBuryKeyRow.holds Try.pinned (OpenSpec.ofChange fnExactBuryKeySpec)

/-- ITS FALSE NEIGHBOUR: 'it returns false'. Refute it at one input. -/
def fnExactBuryKeyWrong : ChangeSpec := { name := "fnExactBuryKey", fn := fun _ => fun
  | [d1, d2, d3] => { results := [.lit (.bool false)], args := [d1, d2, d3] }
  | _ => none }
def FnExactBuryKeyWrongFalsely : Prop := fnExactBuryKeyRow.holds Try.pinned (OpenSpec.ofChange fnExactBuryKeyWrong)

/-- 'laws.FnLiveItems': WHATEVER THE INPUT: true; the input reads as it did. -/
def fnLiveItemsSpec : ChangeSpec := { name := "fnLiveItems", fn := fun _ => fun
  | [d] => { results := [.lit (.bool true)], args := [d] }
  | _ => none }
def fnLiveItemsRow : OpenClaim := { program := "ytggdfmkenmlbjaa", sum := "a8db476d5fb07de45b7e6eaea54b1886c503237cb34bc1cce103de6d1bc0ef90", func := "loop.example/feedbridge/laws.FnLiveItems", spec := "fnLiveItems", apart := false }
def FnLiveItemsSaid : Prop := fnLiveItemsRow.holds Try.pinned (OpenSpec.ofChange fnLiveItemsSpec)

/-- ITS FALSE NEIGHBOUR: 'it returns false'. Refute it at one input. -/
def fnLiveItemsWrong : ChangeSpec := { name := "fnLiveItems", fn := fun _ => fun
  | [d] => { results := [.lit (.bool false)], args := [d] }
  | _ => none }
def FnLiveItemsWrongFalsely : Prop := fnLiveItemsRow.holds Try.pinned (OpenSpec.ofChange fnLiveItemsWrong)

/-- 'laws.FnExactLiveItems': WHATEVER THE INPUT: true; the input reads as it did. -/
def fnExactLiveItemsSpec : ChangeSpec := { name := "fnExactLiveItems", fn := fun _ => fun
  | [d1, d2, d3] => { results := [.lit (.bool true)], args := [d1, d2, d3] }
  | _ => none }
def fnExactLiveItemsRow : OpenClaim := { program := "ytggdfmkenmlbjaa", sum := "a8db476d5fb07de45b7e6eaea54b1886c503237cb34bc1cce103de6d1bc0ef90", func := "loop.example/feedbridge/laws.FnExactLiveItems", spec := "fnExactLiveItems", apart := false }
def FnExactLiveItemsSaid : Prop := fnExactLiveItemsRow.holds Try.pinned (OpenSpec.ofChange fnExactLiveItemsSpec)

/-- ITS FALSE NEIGHBOUR: 'it returns false'. Refute it at one input. -/
def fnExactLiveItemsWrong : ChangeSpec := { name := "fnExactLiveItems", fn := fun _ => fun
  | [d1, d2, d3] => { results := [.lit (.bool false)], args := [d1, d2, d3] }
  | _ => none }
def FnExactLiveItemsWrongFalsely : Prop := fnExactLiveItemsRow.holds Try.pinned (OpenSpec.ofChange fnExactLiveItemsWrong)

/- THE SECOND FORM. 'bulk': how many values and letters a reading holds, each counted each time it is reached (what is shared counts as often as it is met; a slice's spare places count too). A statement '..UptoSaid' is the law's where the arguments, and the package variables that the reading takes, are together of bulk at most 1048576: NARROWER than '..Said'. Prove '..Said' where nothing that the law and all that it calls make is longer than what came in: it says more and counts as full. Else prove '..UptoSaid'. A law counts once. -/
mutual
def uptoBulk {H : Type} : DataW H → Nat
  | .lit (.string bytes) => bytes.length + 1
  | .lit _ => 1
  | .nil => 1
  | .ptr d => uptoBulk d + 1
  | .slice elems spare => uptoBulkAll elems + uptoBulkAll spare + 1
  | .agg parts => uptoBulkAll parts + 1
  | .iface _ d => uptoBulk d + 1
  | .map entries => uptoBulkEntries entries + 1
  | .held _ => 1
def uptoBulkAll {H : Type} : List (DataW H) → Nat
  | [] => 0
  | d :: r => uptoBulk d + uptoBulkAll r
def uptoBulkEntries {H : Type} : List (Lit × DataW H) → Nat
  | [] => 0
  | x :: r => uptoBulkEntry x + uptoBulkEntries r
def uptoBulkEntry {H : Type} : Lit × DataW H → Nat
  | (.string bytes, d) => bytes.length + uptoBulk d + 1
  | (_, d) => uptoBulk d + 1
 end
def uptoSmall : (H : Type) → List (DataW H) → Bool := fun _ ds => decide (uptoBulkAll ds ≤ 1048576)
def OpenSpec.upto (s : _root_.Go.ChangeSpec) : _root_.Go.OpenSpec := { _root_.Go.OpenSpec.ofChange s with cond := some uptoSmall }

/-- 'laws.FnExactTombsValid', WHERE WHAT IT READS IS OF BULK AT MOST 1048576: true; the input reads as it did. -/
def fnExactTombsValidUptoRow : OpenClaim := { program := "ytggdfmkenmlbjaa", sum := "a8db476d5fb07de45b7e6eaea54b1886c503237cb34bc1cce103de6d1bc0ef90", func := "loop.example/feedbridge/laws.FnExactTombsValid", spec := "fnExactTombsValid", apart := false, narrowed := true }
def FnExactTombsValidUptoSaid : Prop := fnExactTombsValidUptoRow.holds Try.pinned (OpenSpec.upto fnExactTombsValidSpec)

/-- 'laws.FnExactIsBuried', WHERE WHAT IT READS IS OF BULK AT MOST 1048576: true; the input reads as it did. -/
def fnExactIsBuriedUptoRow : OpenClaim := { program := "ytggdfmkenmlbjaa", sum := "a8db476d5fb07de45b7e6eaea54b1886c503237cb34bc1cce103de6d1bc0ef90", func := "loop.example/feedbridge/laws.FnExactIsBuried", spec := "fnExactIsBuried", apart := false, narrowed := true }
def FnExactIsBuriedUptoSaid : Prop := fnExactIsBuriedUptoRow.holds Try.pinned (OpenSpec.upto fnExactIsBuriedSpec)

/-- 'laws.FnTombsValid', WHERE WHAT IT READS IS OF BULK AT MOST 1048576: true; the input reads as it did. -/
def fnTombsValidUptoRow : OpenClaim := { program := "ytggdfmkenmlbjaa", sum := "a8db476d5fb07de45b7e6eaea54b1886c503237cb34bc1cce103de6d1bc0ef90", func := "loop.example/feedbridge/laws.FnTombsValid", spec := "fnTombsValid", apart := false, narrowed := true }
def FnTombsValidUptoSaid : Prop := fnTombsValidUptoRow.holds Try.pinned (OpenSpec.upto fnTombsValidSpec)

/-- 'laws.FnIsBuried', WHERE WHAT IT READS IS OF BULK AT MOST 1048576: true; the input reads as it did. -/
def fnIsBuriedUptoRow : OpenClaim := { program := "ytggdfmkenmlbjaa", sum := "a8db476d5fb07de45b7e6eaea54b1886c503237cb34bc1cce103de6d1bc0ef90", func := "loop.example/feedbridge/laws.FnIsBuried", spec := "fnIsBuried", apart := false, narrowed := true }
def FnIsBuriedUptoSaid : Prop := fnIsBuriedUptoRow.holds Try.pinned (OpenSpec.upto fnIsBuriedSpec)

/-- 'laws.FnBuryKey', WHERE WHAT IT READS IS OF BULK AT MOST 1048576: true; the input reads as it did. -/
def fnBuryKeyUptoRow : OpenClaim := { program := "ytggdfmkenmlbjaa", sum := "a8db476d5fb07de45b7e6eaea54b1886c503237cb34bc1cce103de6d1bc0ef90", func := "loop.example/feedbridge/laws.FnBuryKey", spec := "fnBuryKey", apart := false, narrowed := true }
def FnBuryKeyUptoSaid : Prop := fnBuryKeyUptoRow.holds Try.pinned (OpenSpec.upto fnBuryKeySpec)

/-- 'laws.FnExactBuryKey', WHERE WHAT IT READS IS OF BULK AT MOST 1048576: true; the input reads as it did. -/
def fnExactBuryKeyUptoRow : OpenClaim := { program := "ytggdfmkenmlbjaa", sum := "a8db476d5fb07de45b7e6eaea54b1886c503237cb34bc1cce103de6d1bc0ef90", func := "loop.example/feedbridge/laws.FnExactBuryKey", spec := "fnExactBuryKey", apart := false, narrowed := true }
def FnExactBuryKeyUptoSaid : Prop := fnExactBuryKeyUptoRow.holds Try.pinned (OpenSpec.upto fnExactBuryKeySpec)

/-- 'laws.FnLiveItems', WHERE WHAT IT READS IS OF BULK AT MOST 1048576: true; the input reads as it did. -/
def fnLiveItemsUptoRow : OpenClaim := { program := "ytggdfmkenmlbjaa", sum := "a8db476d5fb07de45b7e6eaea54b1886c503237cb34bc1cce103de6d1bc0ef90", func := "loop.example/feedbridge/laws.FnLiveItems", spec := "fnLiveItems", apart := false, narrowed := true }
def FnLiveItemsUptoSaid : Prop := fnLiveItemsUptoRow.holds Try.pinned (OpenSpec.upto fnLiveItemsSpec)

/-- 'laws.FnExactLiveItems', WHERE WHAT IT READS IS OF BULK AT MOST 1048576: true; the input reads as it did. -/
def fnExactLiveItemsUptoRow : OpenClaim := { program := "ytggdfmkenmlbjaa", sum := "a8db476d5fb07de45b7e6eaea54b1886c503237cb34bc1cce103de6d1bc0ef90", func := "loop.example/feedbridge/laws.FnExactLiveItems", spec := "fnExactLiveItems", apart := false, narrowed := true }
def FnExactLiveItemsUptoSaid : Prop := fnExactLiveItemsUptoRow.holds Try.pinned (OpenSpec.upto fnExactLiveItemsSpec)

end Rows
end Go.Proofs.Ytggdfmkenmlbjaa
