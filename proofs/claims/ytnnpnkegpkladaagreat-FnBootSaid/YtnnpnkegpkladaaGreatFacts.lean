/- What the rows ask of the program's table, once for all laws of the seat. -/
import Derived.Test.YtnnpnkegpkladaaGreatProg
import Derived.Test.YtnnpnkegpkladaaGreatM4
namespace Go.Proofs.YtnnpnkegpkladaaGreat.Dm
open Go
theorem order_ok : Tryz.prog.initOrder = "harness 87ec4142a4b70874126909584dc22efeac28c36d85b18541a282a999199e7431 cut at loop.example/g00781/laws.FnBoot loop.example/g00781/laws.FnExactLiveBoot" := by kernel_rfl
set_option maxRecDepth 100000 in
theorem order_chars : "harness 87ec4142a4b70874126909584dc22efeac28c36d85b18541a282a999199e7431 cut at loop.example/g00781/laws.FnBoot loop.example/g00781/laws.FnExactLiveBoot" = String.ofList (ch [104, 97, 114, 110, 101, 115, 115] ++ sp :: (ch [56, 55, 101, 99, 52, 49, 52, 50, 97, 52, 98, 55, 48, 56, 55, 52, 49, 50, 54, 57, 48, 57, 53, 56, 52, 100, 99, 50, 50, 101, 102, 101, 97, 99, 50, 56, 99, 51, 54, 100, 56, 53, 98, 49, 56, 53, 52, 49, 97, 50, 56, 50, 97, 57, 57, 57, 49, 57, 57, 101, 55, 52, 51, 49] ++ sp :: (ch [99, 117, 116] ++ sp :: ch [97, 116, 32, 108, 111, 111, 112, 46, 101, 120, 97, 109, 112, 108, 101, 47, 103, 48, 48, 55, 56, 49, 47, 108, 97, 119, 115, 46, 70, 110, 66, 111, 111, 116, 32, 108, 111, 111, 112, 46, 101, 120, 97, 109, 112, 108, 101, 47, 103, 48, 48, 55, 56, 49, 47, 108, 97, 119, 115, 46, 70, 110, 69, 120, 97, 99, 116, 76, 105, 118, 101, 66, 111, 111, 116]))) := by kernel_rfl
set_option maxRecDepth 100000 in
theorem words_ok : ∃ r, behindMainWord (wordsSigns Tryz.prog.initOrder.toList) = ch [99, 117, 116] :: wordsSigns r := by
  have h1 : noSp (ch [104, 97, 114, 110, 101, 115, 115]) = true := by kernel_rfl
  have h2 : noSp (ch [56, 55, 101, 99, 52, 49, 52, 50, 97, 52, 98, 55, 48, 56, 55, 52, 49, 50, 54, 57, 48, 57, 53, 56, 52, 100, 99, 50, 50, 101, 102, 101, 97, 99, 50, 56, 99, 51, 54, 100, 56, 53, 98, 49, 56, 53, 52, 49, 97, 50, 56, 50, 97, 57, 57, 57, 49, 57, 57, 101, 55, 52, 51, 49]) = true := by kernel_rfl
  have h3 : noSp (ch [99, 117, 116]) = true := by kernel_rfl
  have h4 : (ch [104, 97, 114, 110, 101, 115, 115] == "harness".toList) = true := by kernel_rfl
  have h5 : isSumSigns (ch [56, 55, 101, 99, 52, 49, 52, 50, 97, 52, 98, 55, 48, 56, 55, 52, 49, 50, 54, 57, 48, 57, 53, 56, 52, 100, 99, 50, 50, 101, 102, 101, 97, 99, 50, 56, 99, 51, 54, 100, 56, 53, 98, 49, 56, 53, 52, 49, 97, 50, 56, 50, 97, 57, 57, 57, 49, 57, 57, 101, 55, 52, 51, 49]) = true := by kernel_rfl
  exact ⟨ch [97, 116, 32, 108, 111, 111, 112, 46, 101, 120, 97, 109, 112, 108, 101, 47, 103, 48, 48, 55, 56, 49, 47, 108, 97, 119, 115, 46, 70, 110, 66, 111, 111, 116, 32, 108, 111, 111, 112, 46, 101, 120, 97, 109, 112, 108, 101, 47, 103, 48, 48, 55, 56, 49, 47, 108, 97, 119, 115, 46, 70, 110, 69, 120, 97, 99, 116, 76, 105, 118, 101, 66, 111, 111, 116], words_behind (order_ok.trans order_chars) h1 h2 h3 h4 h5⟩
theorem mayEnter_ok : Tryz.prog.mayEnter = true := by
  obtain ⟨r, hr⟩ := words_ok
  have h1 : Tryz.prog.laysLater = false := by kernel_rfl
  have h2 : Tryz.prog.bearsReflect = false := by kernel_rfl
  have h3 : Tryz.prog.doorFits [] = true := by kernel_rfl
  exact mayEnter_cut hr h1 h2 h3
theorem lifts_ok : Tryz.prog.liftsFinal = false := by
  obtain ⟨r, hr⟩ := words_ok
  exact lifts_cut hr
theorem make_ok : Tryz.prog.make = some .cut := by
  obtain ⟨r, hr⟩ := words_ok
  exact make_cut hr
end Go.Proofs.YtnnpnkegpkladaaGreat.Dm
