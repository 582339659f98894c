/- What the rows ask of the program's table, once for all laws of the seat. -/
import Derived.Test.YtcpjdjgipmjhdaaGreatProg
import Derived.Test.YtcpjdjgipmjhdaaGreatM4
namespace Go.Proofs.YtcpjdjgipmjhdaaGreat.Dm
open Go
theorem order_ok : Tryz.prog.initOrder = "harness 78833fc3c2d9212cdad494d570cc9038eb3724747038d44727f15947c715583e cut at loop.example/g00781/laws.FnExactReadUnix loop.example/g00781/laws.FnExactReadImage" := by kernel_rfl
set_option maxRecDepth 100000 in
theorem order_chars : "harness 78833fc3c2d9212cdad494d570cc9038eb3724747038d44727f15947c715583e cut at loop.example/g00781/laws.FnExactReadUnix loop.example/g00781/laws.FnExactReadImage" = String.ofList (ch [104, 97, 114, 110, 101, 115, 115] ++ sp :: (ch [55, 56, 56, 51, 51, 102, 99, 51, 99, 50, 100, 57, 50, 49, 50, 99, 100, 97, 100, 52, 57, 52, 100, 53, 55, 48, 99, 99, 57, 48, 51, 56, 101, 98, 51, 55, 50, 52, 55, 52, 55, 48, 51, 56, 100, 52, 52, 55, 50, 55, 102, 49, 53, 57, 52, 55, 99, 55, 49, 53, 53, 56, 51, 101] ++ sp :: (ch [99, 117, 116] ++ sp :: ch [97, 116, 32, 108, 111, 111, 112, 46, 101, 120, 97, 109, 112, 108, 101, 47, 103, 48, 48, 55, 56, 49, 47, 108, 97, 119, 115, 46, 70, 110, 69, 120, 97, 99, 116, 82, 101, 97, 100, 85, 110, 105, 120, 32, 108, 111, 111, 112, 46, 101, 120, 97, 109, 112, 108, 101, 47, 103, 48, 48, 55, 56, 49, 47, 108, 97, 119, 115, 46, 70, 110, 69, 120, 97, 99, 116, 82, 101, 97, 100, 73, 109, 97, 103, 101]))) := by kernel_rfl
set_option maxRecDepth 100000 in
theorem words_ok : ∃ r, behindMainWord (wordsSigns Tryz.prog.initOrder.toList) = ch [99, 117, 116] :: wordsSigns r := by
  have h1 : noSp (ch [104, 97, 114, 110, 101, 115, 115]) = true := by kernel_rfl
  have h2 : noSp (ch [55, 56, 56, 51, 51, 102, 99, 51, 99, 50, 100, 57, 50, 49, 50, 99, 100, 97, 100, 52, 57, 52, 100, 53, 55, 48, 99, 99, 57, 48, 51, 56, 101, 98, 51, 55, 50, 52, 55, 52, 55, 48, 51, 56, 100, 52, 52, 55, 50, 55, 102, 49, 53, 57, 52, 55, 99, 55, 49, 53, 53, 56, 51, 101]) = true := by kernel_rfl
  have h3 : noSp (ch [99, 117, 116]) = true := by kernel_rfl
  have h4 : (ch [104, 97, 114, 110, 101, 115, 115] == "harness".toList) = true := by kernel_rfl
  have h5 : isSumSigns (ch [55, 56, 56, 51, 51, 102, 99, 51, 99, 50, 100, 57, 50, 49, 50, 99, 100, 97, 100, 52, 57, 52, 100, 53, 55, 48, 99, 99, 57, 48, 51, 56, 101, 98, 51, 55, 50, 52, 55, 52, 55, 48, 51, 56, 100, 52, 52, 55, 50, 55, 102, 49, 53, 57, 52, 55, 99, 55, 49, 53, 53, 56, 51, 101]) = true := by kernel_rfl
  exact ⟨ch [97, 116, 32, 108, 111, 111, 112, 46, 101, 120, 97, 109, 112, 108, 101, 47, 103, 48, 48, 55, 56, 49, 47, 108, 97, 119, 115, 46, 70, 110, 69, 120, 97, 99, 116, 82, 101, 97, 100, 85, 110, 105, 120, 32, 108, 111, 111, 112, 46, 101, 120, 97, 109, 112, 108, 101, 47, 103, 48, 48, 55, 56, 49, 47, 108, 97, 119, 115, 46, 70, 110, 69, 120, 97, 99, 116, 82, 101, 97, 100, 73, 109, 97, 103, 101], words_behind (order_ok.trans order_chars) h1 h2 h3 h4 h5⟩
theorem mayEnter_ok : Tryz.prog.mayEnter = true := by
  obtain ⟨r, hr⟩ := words_ok
  have h1 : Tryz.prog.laysLater = false := by kernel_rfl
  have h2 : Tryz.prog.bearsReflect = false := by kernel_rfl
  have h3 : Tryz.prog.doorFits [] = true := by kernel_rfl
  exact mayEnter_cut hr h1 h2 h3
theorem lifts_ok : Tryz.prog.liftsFinal = false := by
  obtain ⟨r, hr⟩ := words_ok
  exact lifts_cut hr
theorem make_ok : Tryz.prog.make = some .cut := by
  obtain ⟨r, hr⟩ := words_ok
  exact make_cut hr
end Go.Proofs.YtcpjdjgipmjhdaaGreat.Dm
