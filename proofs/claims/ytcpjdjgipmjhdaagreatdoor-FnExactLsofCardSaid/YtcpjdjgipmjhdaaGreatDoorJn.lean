/- The library's strings.Join, as what is told of a function. -/
import Derived.Test.YtcpjdjgipmjhdaaGreatDoorSo
import Derived.Shelf.Strings.OnBuilder
namespace Go.Proofs.YtcpjdjgipmjhdaaGreatDoor.Dm
open Go Go.RowKit
end Go.Proofs.YtcpjdjgipmjhdaaGreatDoor.Dm
