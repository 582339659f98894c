/- Functions of the program, and what they compute. -/
import Derived.Test.YtnnpnkegpkladaaGreatA6
namespace Go.Proofs.YtnnpnkegpkladaaGreat.Dm
open Go Go.ChangeShapes Go.WideShapes Go.ChangeAt Go.RowKit
abbrev FileD := Int × (List Int × Unit)
end Go.Proofs.YtnnpnkegpkladaaGreat.Dm
