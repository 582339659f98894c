/- Functions of the program, and what they compute. -/
import Derived.Test.YtcinpcncclhejaaGreatA10
namespace Go.Proofs.YtcinpcncclhejaaGreat.Dm
open Go Go.ChangeShapes Go.WideShapes Go.ChangeAt Go.RowKit

/-! ## Numbers read, told -/
abbrev f125_S2 := (List UInt8 × Int × Int × Int × Int × List UInt8 × Int × Bool × Unit) × (Unit)
abbrev f125_S0 := (List UInt8 × Int × Unit) × (Unit)
abbrev f175_S0 := (List UInt8 × Int × Int × Unit) × (Unit)
/-! ## Several numbers, told -/
abbrev f61_S0 := (List UInt8 × Int × Int × Int × Unit) × (List (Int) × Unit)
end Go.Proofs.YtcinpcncclhejaaGreat.Dm
