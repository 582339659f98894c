/- Functions of the program, and what they compute. -/
import Derived.Test.YtcinpcncclhejaaGreatA6
namespace Go.Proofs.YtcinpcncclhejaaGreat.Dm
open Go Go.ChangeShapes Go.WideShapes Go.ChangeAt Go.RowKit

abbrev FileD := Int × (List Int × Unit)
end Go.Proofs.YtcinpcncclhejaaGreat.Dm
