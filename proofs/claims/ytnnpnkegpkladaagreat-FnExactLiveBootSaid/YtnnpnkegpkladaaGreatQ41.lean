/- f -/
import Derived.Test.YtnnpnkegpkladaaGreatQ4
namespace Go.Proofs.YtnnpnkegpkladaaGreat.Dm
open Go Go.ChangeShapes Go.WideShapes Go.ChangeAt Go.RowKit
end Go.Proofs.YtnnpnkegpkladaaGreat.Dm
