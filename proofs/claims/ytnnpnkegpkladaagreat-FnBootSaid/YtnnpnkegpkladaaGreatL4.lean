/- Functions of the program, and what they compute. -/
import Derived.Test.YtnnpnkegpkladaaGreatL3
namespace Go.Proofs.YtnnpnkegpkladaaGreat.Dm
open Go Go.ChangeShapes Go.WideShapes Go.ChangeAt Go.RowKit
end Go.Proofs.YtnnpnkegpkladaaGreat.Dm
