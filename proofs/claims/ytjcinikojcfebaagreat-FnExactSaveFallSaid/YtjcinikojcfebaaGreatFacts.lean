/- What the rows ask of the program's table, once for all laws of the seat. -/
import Derived.Test.YtjcinikojcfebaaGreatProg
import Derived.Test.YtjcinikojcfebaaGreatM4
namespace Go.Proofs.YtjcinikojcfebaaGreat.Dm
open Go
theorem order_ok : Tryz.prog.initOrder = "harness caedf41a90c7efb5ed0a2c44101fcdebbe26c09c19f6ac9525ca6bc7e703843b cut at loop.example/g00781/laws.FnExactSaveFall" := by kernel_rfl
set_option maxRecDepth 100000 in
theorem order_chars : "harness caedf41a90c7efb5ed0a2c44101fcdebbe26c09c19f6ac9525ca6bc7e703843b cut at loop.example/g00781/laws.FnExactSaveFall" = String.ofList (ch [104, 97, 114, 110, 101, 115, 115] ++ sp :: (ch [99, 97, 101, 100, 102, 52, 49, 97, 57, 48, 99, 55, 101, 102, 98, 53, 101, 100, 48, 97, 50, 99, 52, 52, 49, 48, 49, 102, 99, 100, 101, 98, 98, 101, 50, 54, 99, 48, 57, 99, 49, 57, 102, 54, 97, 99, 57, 53, 50, 53, 99, 97, 54, 98, 99, 55, 101, 55, 48, 51, 56, 52, 51, 98] ++ sp :: (ch [99, 117, 116] ++ sp :: ch [97, 116, 32, 108, 111, 111, 112, 46, 101, 120, 97, 109, 112, 108, 101, 47, 103, 48, 48, 55, 56, 49, 47, 108, 97, 119, 115, 46, 70, 110, 69, 120, 97, 99, 116, 83, 97, 118, 101, 70, 97, 108, 108]))) := by kernel_rfl
set_option maxRecDepth 100000 in
theorem words_ok : ∃ r, behindMainWord (wordsSigns Tryz.prog.initOrder.toList) = ch [99, 117, 116] :: wordsSigns r := by
  have h1 : noSp (ch [104, 97, 114, 110, 101, 115, 115]) = true := by kernel_rfl
  have h2 : noSp (ch [99, 97, 101, 100, 102, 52, 49, 97, 57, 48, 99, 55, 101, 102, 98, 53, 101, 100, 48, 97, 50, 99, 52, 52, 49, 48, 49, 102, 99, 100, 101, 98, 98, 101, 50, 54, 99, 48, 57, 99, 49, 57, 102, 54, 97, 99, 57, 53, 50, 53, 99, 97, 54, 98, 99, 55, 101, 55, 48, 51, 56, 52, 51, 98]) = true := by kernel_rfl
  have h3 : noSp (ch [99, 117, 116]) = true := by kernel_rfl
  have h4 : (ch [104, 97, 114, 110, 101, 115, 115] == "harness".toList) = true := by kernel_rfl
  have h5 : isSumSigns (ch [99, 97, 101, 100, 102, 52, 49, 97, 57, 48, 99, 55, 101, 102, 98, 53, 101, 100, 48, 97, 50, 99, 52, 52, 49, 48, 49, 102, 99, 100, 101, 98, 98, 101, 50, 54, 99, 48, 57, 99, 49, 57, 102, 54, 97, 99, 57, 53, 50, 53, 99, 97, 54, 98, 99, 55, 101, 55, 48, 51, 56, 52, 51, 98]) = true := by kernel_rfl
  exact ⟨ch [97, 116, 32, 108, 111, 111, 112, 46, 101, 120, 97, 109, 112, 108, 101, 47, 103, 48, 48, 55, 56, 49, 47, 108, 97, 119, 115, 46, 70, 110, 69, 120, 97, 99, 116, 83, 97, 118, 101, 70, 97, 108, 108], words_behind (order_ok.trans order_chars) h1 h2 h3 h4 h5⟩
theorem mayEnter_ok : Tryz.prog.mayEnter = true := by
  obtain ⟨r, hr⟩ := words_ok
  have h1 : Tryz.prog.laysLater = false := by kernel_rfl
  have h2 : Tryz.prog.bearsReflect = false := by kernel_rfl
  have h3 : Tryz.prog.doorFits [] = true := by kernel_rfl
  exact mayEnter_cut hr h1 h2 h3
theorem lifts_ok : Tryz.prog.liftsFinal = false := by
  obtain ⟨r, hr⟩ := words_ok
  exact lifts_cut hr
theorem make_ok : Tryz.prog.make = some .cut := by
  obtain ⟨r, hr⟩ := words_ok
  exact make_cut hr
end Go.Proofs.YtjcinikojcfebaaGreat.Dm
