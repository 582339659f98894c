/- f -/
import Derived.Test.YtnnpnkegpkladaaGreatQ42
namespace Go.Proofs.YtnnpnkegpkladaaGreat.Dm
open Go Go.ChangeShapes Go.WideShapes Go.ChangeAt Go.RowKit
end Go.Proofs.YtnnpnkegpkladaaGreat.Dm
