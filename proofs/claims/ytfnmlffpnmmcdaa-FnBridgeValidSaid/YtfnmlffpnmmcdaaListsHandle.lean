import Derived.Test.YtfnmlffpnmmcdaaHandle
namespace Go.Proofs.Ytfnmlffpnmmcdaa
open Go.RowKit
end Go.Proofs.Ytfnmlffpnmmcdaa
