/- What the rows ask of the program's table, once for all laws of the seat. -/
import Derived.Test.YtnglkhjpdpgahaaGreatDoorProg
import Derived.Test.YtnglkhjpdpgahaaGreatDoorM4
namespace Go.Proofs.YtnglkhjpdpgahaaGreatDoor.Dm
open Go
theorem order_ok : Tryz.prog.initOrder = "harness 278cc919f67ffed593999397e0dbcefdce56b510379a9261a9f6d8dda6c65185 cut at loop.example/g00781/laws.FnPrograms" := by kernel_rfl
set_option maxRecDepth 100000 in
theorem order_chars : "harness 278cc919f67ffed593999397e0dbcefdce56b510379a9261a9f6d8dda6c65185 cut at loop.example/g00781/laws.FnPrograms" = String.ofList (ch [104, 97, 114, 110, 101, 115, 115] ++ sp :: (ch [50, 55, 56, 99, 99, 57, 49, 57, 102, 54, 55, 102, 102, 101, 100, 53, 57, 51, 57, 57, 57, 51, 57, 55, 101, 48, 100, 98, 99, 101, 102, 100, 99, 101, 53, 54, 98, 53, 49, 48, 51, 55, 57, 97, 57, 50, 54, 49, 97, 57, 102, 54, 100, 56, 100, 100, 97, 54, 99, 54, 53, 49, 56, 53] ++ sp :: (ch [99, 117, 116] ++ sp :: ch [97, 116, 32, 108, 111, 111, 112, 46, 101, 120, 97, 109, 112, 108, 101, 47, 103, 48, 48, 55, 56, 49, 47, 108, 97, 119, 115, 46, 70, 110, 80, 114, 111, 103, 114, 97, 109, 115]))) := by kernel_rfl
set_option maxRecDepth 100000 in
theorem words_ok : ∃ r, behindMainWord (wordsSigns Tryz.prog.initOrder.toList) = ch [99, 117, 116] :: wordsSigns r := by
  have h1 : noSp (ch [104, 97, 114, 110, 101, 115, 115]) = true := by kernel_rfl
  have h2 : noSp (ch [50, 55, 56, 99, 99, 57, 49, 57, 102, 54, 55, 102, 102, 101, 100, 53, 57, 51, 57, 57, 57, 51, 57, 55, 101, 48, 100, 98, 99, 101, 102, 100, 99, 101, 53, 54, 98, 53, 49, 48, 51, 55, 57, 97, 57, 50, 54, 49, 97, 57, 102, 54, 100, 56, 100, 100, 97, 54, 99, 54, 53, 49, 56, 53]) = true := by kernel_rfl
  have h3 : noSp (ch [99, 117, 116]) = true := by kernel_rfl
  have h4 : (ch [104, 97, 114, 110, 101, 115, 115] == "harness".toList) = true := by kernel_rfl
  have h5 : isSumSigns (ch [50, 55, 56, 99, 99, 57, 49, 57, 102, 54, 55, 102, 102, 101, 100, 53, 57, 51, 57, 57, 57, 51, 57, 55, 101, 48, 100, 98, 99, 101, 102, 100, 99, 101, 53, 54, 98, 53, 49, 48, 51, 55, 57, 97, 57, 50, 54, 49, 97, 57, 102, 54, 100, 56, 100, 100, 97, 54, 99, 54, 53, 49, 56, 53]) = true := by kernel_rfl
  exact ⟨ch [97, 116, 32, 108, 111, 111, 112, 46, 101, 120, 97, 109, 112, 108, 101, 47, 103, 48, 48, 55, 56, 49, 47, 108, 97, 119, 115, 46, 70, 110, 80, 114, 111, 103, 114, 97, 109, 115], words_behind (order_ok.trans order_chars) h1 h2 h3 h4 h5⟩
theorem mayEnter_ok : Tryz.prog.mayEnter = true := by
  obtain ⟨r, hr⟩ := words_ok
  have h1 : Tryz.prog.laysLater = false := by kernel_rfl
  have h2 : Tryz.prog.bearsReflect = false := by kernel_rfl
  have h3 : Tryz.prog.doorFits [] = true := by kernel_rfl
  exact mayEnter_cut hr h1 h2 h3
theorem lifts_ok : Tryz.prog.liftsFinal = false := by
  obtain ⟨r, hr⟩ := words_ok
  exact lifts_cut hr
theorem make_ok : Tryz.prog.make = some .cut := by
  obtain ⟨r, hr⟩ := words_ok
  exact make_cut hr
end Go.Proofs.YtnglkhjpdpgahaaGreatDoor.Dm
