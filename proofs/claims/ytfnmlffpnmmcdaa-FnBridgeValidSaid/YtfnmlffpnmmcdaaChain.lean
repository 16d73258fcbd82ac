/- Worlds that follow each other. -/
import Derived.Test.YtfnmlffpnmmcdaaBase
namespace Go.Proofs.Ytfnmlffpnmmcdaa
open Go.RowKit
/-- What was there at first stays as it was, step by step. -/
theorem tr {a b c : World} (h : Below a.heap.size a b) (k : Below b.heap.size b c) : Below a.heap.size a c := h.trans (k.mono h.size)
end Go.Proofs.Ytfnmlffpnmmcdaa
