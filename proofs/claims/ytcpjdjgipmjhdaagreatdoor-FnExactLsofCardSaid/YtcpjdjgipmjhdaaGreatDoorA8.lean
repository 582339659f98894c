/- Functions of the program, and what they compute. -/
import Derived.Test.YtcpjdjgipmjhdaaGreatDoorA6
namespace Go.Proofs.YtcpjdjgipmjhdaaGreatDoor.Dm
open Go Go.ChangeShapes Go.WideShapes Go.ChangeAt Go.RowKit
abbrev FileD := Int × (List Int × Unit)
end Go.Proofs.YtcpjdjgipmjhdaaGreatDoor.Dm
