/- Valid handles. No program in sight. -/
import Derived.Test.YtfnmlffpnmmcdaaHandle
import Derived.Test.YtfnmlffpnmmcdaaKeyed
import Derived.Test.YtfnmlffpnmmcdaaSpecWord
namespace Go.Proofs.Ytfnmlffpnmmcdaa
/-- Both are words. -/
def hvB (h : ElHandle) : Bool := wordB h.1 && wordB h.2
theorem hvB_eq (h : ElHandle) : hvB h = (wordB h.1 && wordB h.2) := rfl
end Go.Proofs.Ytfnmlffpnmmcdaa
