/- What the rows ask of the program's table, once for all laws of the seat. -/
import Derived.Test.YtcpjdjgipmjhdaaGreatDoorProg
import Derived.Test.YtcpjdjgipmjhdaaGreatDoorM4
namespace Go.Proofs.YtcpjdjgipmjhdaaGreatDoor.Dm
open Go
theorem order_ok : Tryz.prog.initOrder = "harness 3beab2df882e5d0dc92ef637e2006a91d4b0f15a2177210b464fa71bcc243d4c cut at loop.example/g00781/laws.FnExactLsof loop.example/g00781/laws.FnExactPs" := by kernel_rfl
set_option maxRecDepth 100000 in
theorem order_chars : "harness 3beab2df882e5d0dc92ef637e2006a91d4b0f15a2177210b464fa71bcc243d4c cut at loop.example/g00781/laws.FnExactLsof loop.example/g00781/laws.FnExactPs" = String.ofList (ch [104, 97, 114, 110, 101, 115, 115] ++ sp :: (ch [51, 98, 101, 97, 98, 50, 100, 102, 56, 56, 50, 101, 53, 100, 48, 100, 99, 57, 50, 101, 102, 54, 51, 55, 101, 50, 48, 48, 54, 97, 57, 49, 100, 52, 98, 48, 102, 49, 53, 97, 50, 49, 55, 55, 50, 49, 48, 98, 52, 54, 52, 102, 97, 55, 49, 98, 99, 99, 50, 52, 51, 100, 52, 99] ++ sp :: (ch [99, 117, 116] ++ sp :: ch [97, 116, 32, 108, 111, 111, 112, 46, 101, 120, 97, 109, 112, 108, 101, 47, 103, 48, 48, 55, 56, 49, 47, 108, 97, 119, 115, 46, 70, 110, 69, 120, 97, 99, 116, 76, 115, 111, 102, 32, 108, 111, 111, 112, 46, 101, 120, 97, 109, 112, 108, 101, 47, 103, 48, 48, 55, 56, 49, 47, 108, 97, 119, 115, 46, 70, 110, 69, 120, 97, 99, 116, 80, 115]))) := by kernel_rfl
set_option maxRecDepth 100000 in
theorem words_ok : ∃ r, behindMainWord (wordsSigns Tryz.prog.initOrder.toList) = ch [99, 117, 116] :: wordsSigns r := by
  have h1 : noSp (ch [104, 97, 114, 110, 101, 115, 115]) = true := by kernel_rfl
  have h2 : noSp (ch [51, 98, 101, 97, 98, 50, 100, 102, 56, 56, 50, 101, 53, 100, 48, 100, 99, 57, 50, 101, 102, 54, 51, 55, 101, 50, 48, 48, 54, 97, 57, 49, 100, 52, 98, 48, 102, 49, 53, 97, 50, 49, 55, 55, 50, 49, 48, 98, 52, 54, 52, 102, 97, 55, 49, 98, 99, 99, 50, 52, 51, 100, 52, 99]) = true := by kernel_rfl
  have h3 : noSp (ch [99, 117, 116]) = true := by kernel_rfl
  have h4 : (ch [104, 97, 114, 110, 101, 115, 115] == "harness".toList) = true := by kernel_rfl
  have h5 : isSumSigns (ch [51, 98, 101, 97, 98, 50, 100, 102, 56, 56, 50, 101, 53, 100, 48, 100, 99, 57, 50, 101, 102, 54, 51, 55, 101, 50, 48, 48, 54, 97, 57, 49, 100, 52, 98, 48, 102, 49, 53, 97, 50, 49, 55, 55, 50, 49, 48, 98, 52, 54, 52, 102, 97, 55, 49, 98, 99, 99, 50, 52, 51, 100, 52, 99]) = true := by kernel_rfl
  exact ⟨ch [97, 116, 32, 108, 111, 111, 112, 46, 101, 120, 97, 109, 112, 108, 101, 47, 103, 48, 48, 55, 56, 49, 47, 108, 97, 119, 115, 46, 70, 110, 69, 120, 97, 99, 116, 76, 115, 111, 102, 32, 108, 111, 111, 112, 46, 101, 120, 97, 109, 112, 108, 101, 47, 103, 48, 48, 55, 56, 49, 47, 108, 97, 119, 115, 46, 70, 110, 69, 120, 97, 99, 116, 80, 115], words_behind (order_ok.trans order_chars) h1 h2 h3 h4 h5⟩
theorem mayEnter_ok : Tryz.prog.mayEnter = true := by
  obtain ⟨r, hr⟩ := words_ok
  have h1 : Tryz.prog.laysLater = false := by kernel_rfl
  have h2 : Tryz.prog.bearsReflect = false := by kernel_rfl
  have h3 : Tryz.prog.doorFits [] = true := by kernel_rfl
  exact mayEnter_cut hr h1 h2 h3
theorem lifts_ok : Tryz.prog.liftsFinal = false := by
  obtain ⟨r, hr⟩ := words_ok
  exact lifts_cut hr
theorem make_ok : Tryz.prog.make = some .cut := by
  obtain ⟨r, hr⟩ := words_ok
  exact make_cut hr
end Go.Proofs.YtcpjdjgipmjhdaaGreatDoor.Dm
