/- Valid handles. No program in sight. -/
import Derived.Test.YtdcppbaahoimfaaHandle
import Derived.Test.YtdcppbaahoimfaaKeyed
import Derived.Test.YtdcppbaahoimfaaSpecWord
namespace Go.Proofs.Ytdcppbaahoimfaa
/-- Both are words. -/
def hvB (h : ElHandle) : Bool := wordB h.1 && wordB h.2
theorem hvB_eq (h : ElHandle) : hvB h = (wordB h.1 && wordB h.2) := rfl
end Go.Proofs.Ytdcppbaahoimfaa
