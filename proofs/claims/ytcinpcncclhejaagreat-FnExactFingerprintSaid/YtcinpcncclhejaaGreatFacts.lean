/- What the rows ask of the program's table, once for all laws of the seat. -/
import Derived.Test.YtcinpcncclhejaaGreatProg
import Derived.Test.YtcinpcncclhejaaGreatM4
namespace Go.Proofs.YtcinpcncclhejaaGreat.Dm
open Go
theorem order_ok : Tryz.prog.initOrder = "harness 7dbdbd2296eb5eb1b27e8125ac91186de55fe9db1e3707e180ec5ad8bff1eea4 cut at loop.example/g00781/laws.FnExactViewOf loop.example/g00781/laws.FnExactFingerprint loop.example/g00781/laws.FnExactReadUnix loop.example/g00781/laws.FnExactReadImage" := by kernel_rfl
set_option maxRecDepth 100000 in
theorem order_chars : "harness 7dbdbd2296eb5eb1b27e8125ac91186de55fe9db1e3707e180ec5ad8bff1eea4 cut at loop.example/g00781/laws.FnExactViewOf loop.example/g00781/laws.FnExactFingerprint loop.example/g00781/laws.FnExactReadUnix loop.example/g00781/laws.FnExactReadImage" = String.ofList (ch [104, 97, 114, 110, 101, 115, 115] ++ sp :: (ch [55, 100, 98, 100, 98, 100, 50, 50, 57, 54, 101, 98, 53, 101, 98, 49, 98, 50, 55, 101, 56, 49, 50, 53, 97, 99, 57, 49, 49, 56, 54, 100, 101, 53, 53, 102, 101, 57, 100, 98, 49, 101, 51, 55, 48, 55, 101, 49, 56, 48, 101, 99, 53, 97, 100, 56, 98, 102, 102, 49, 101, 101, 97, 52] ++ sp :: (ch [99, 117, 116] ++ sp :: ch [97, 116, 32, 108, 111, 111, 112, 46, 101, 120, 97, 109, 112, 108, 101, 47, 103, 48, 48, 55, 56, 49, 47, 108, 97, 119, 115, 46, 70, 110, 69, 120, 97, 99, 116, 86, 105, 101, 119, 79, 102, 32, 108, 111, 111, 112, 46, 101, 120, 97, 109, 112, 108, 101, 47, 103, 48, 48, 55, 56, 49, 47, 108, 97, 119, 115, 46, 70, 110, 69, 120, 97, 99, 116, 70, 105, 110, 103, 101, 114, 112, 114, 105, 110, 116, 32, 108, 111, 111, 112, 46, 101, 120, 97, 109, 112, 108, 101, 47, 103, 48, 48, 55, 56, 49, 47, 108, 97, 119, 115, 46, 70, 110, 69, 120, 97, 99, 116, 82, 101, 97, 100, 85, 110, 105, 120, 32, 108, 111, 111, 112, 46, 101, 120, 97, 109, 112, 108, 101, 47, 103, 48, 48, 55, 56, 49, 47, 108, 97, 119, 115, 46, 70, 110, 69, 120, 97, 99, 116, 82, 101, 97, 100, 73, 109, 97, 103, 101]))) := by kernel_rfl
set_option maxRecDepth 100000 in
theorem words_ok : ∃ r, behindMainWord (wordsSigns Tryz.prog.initOrder.toList) = ch [99, 117, 116] :: wordsSigns r := by
  have h1 : noSp (ch [104, 97, 114, 110, 101, 115, 115]) = true := by kernel_rfl
  have h2 : noSp (ch [55, 100, 98, 100, 98, 100, 50, 50, 57, 54, 101, 98, 53, 101, 98, 49, 98, 50, 55, 101, 56, 49, 50, 53, 97, 99, 57, 49, 49, 56, 54, 100, 101, 53, 53, 102, 101, 57, 100, 98, 49, 101, 51, 55, 48, 55, 101, 49, 56, 48, 101, 99, 53, 97, 100, 56, 98, 102, 102, 49, 101, 101, 97, 52]) = true := by kernel_rfl
  have h3 : noSp (ch [99, 117, 116]) = true := by kernel_rfl
  have h4 : (ch [104, 97, 114, 110, 101, 115, 115] == "harness".toList) = true := by kernel_rfl
  have h5 : isSumSigns (ch [55, 100, 98, 100, 98, 100, 50, 50, 57, 54, 101, 98, 53, 101, 98, 49, 98, 50, 55, 101, 56, 49, 50, 53, 97, 99, 57, 49, 49, 56, 54, 100, 101, 53, 53, 102, 101, 57, 100, 98, 49, 101, 51, 55, 48, 55, 101, 49, 56, 48, 101, 99, 53, 97, 100, 56, 98, 102, 102, 49, 101, 101, 97, 52]) = true := by kernel_rfl
  exact ⟨ch [97, 116, 32, 108, 111, 111, 112, 46, 101, 120, 97, 109, 112, 108, 101, 47, 103, 48, 48, 55, 56, 49, 47, 108, 97, 119, 115, 46, 70, 110, 69, 120, 97, 99, 116, 86, 105, 101, 119, 79, 102, 32, 108, 111, 111, 112, 46, 101, 120, 97, 109, 112, 108, 101, 47, 103, 48, 48, 55, 56, 49, 47, 108, 97, 119, 115, 46, 70, 110, 69, 120, 97, 99, 116, 70, 105, 110, 103, 101, 114, 112, 114, 105, 110, 116, 32, 108, 111, 111, 112, 46, 101, 120, 97, 109, 112, 108, 101, 47, 103, 48, 48, 55, 56, 49, 47, 108, 97, 119, 115, 46, 70, 110, 69, 120, 97, 99, 116, 82, 101, 97, 100, 85, 110, 105, 120, 32, 108, 111, 111, 112, 46, 101, 120, 97, 109, 112, 108, 101, 47, 103, 48, 48, 55, 56, 49, 47, 108, 97, 119, 115, 46, 70, 110, 69, 120, 97, 99, 116, 82, 101, 97, 100, 73, 109, 97, 103, 101], words_behind (order_ok.trans order_chars) h1 h2 h3 h4 h5⟩
theorem mayEnter_ok : Tryz.prog.mayEnter = true := by
  obtain ⟨r, hr⟩ := words_ok
  have h1 : Tryz.prog.laysLater = false := by kernel_rfl
  have h2 : Tryz.prog.bearsReflect = false := by kernel_rfl
  have h3 : Tryz.prog.doorFits [] = true := by kernel_rfl
  exact mayEnter_cut hr h1 h2 h3
theorem lifts_ok : Tryz.prog.liftsFinal = false := by
  obtain ⟨r, hr⟩ := words_ok
  exact lifts_cut hr
theorem make_ok : Tryz.prog.make = some .cut := by
  obtain ⟨r, hr⟩ := words_ok
  exact make_cut hr
end Go.Proofs.YtcinpcncclhejaaGreat.Dm
