import Derived.Test.YtfnmlffpnmmcdaaFollowA
import Derived.Test.YtfnmlffpnmmcdaaListsHandle
import Derived.StillTailTactics
namespace Go.Proofs.Ytfnmlffpnmmcdaa
open Go.RowKit
end Go.Proofs.Ytfnmlffpnmmcdaa
