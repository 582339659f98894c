/- What the rows ask of the program's table, once for all laws of the seat. -/
import Derived.Test.YtohagdoklnkljaaGreatProg
import Derived.Test.YtohagdoklnkljaaGreatM4
namespace Go.Proofs.YtohagdoklnkljaaGreat.Dm
open Go
theorem Pe:Tryz.prog.initOrder= "harness 48b2321d9d310cf2b0d47b24e7868c7d5e650bc5d5b2d99cdc8af5f6669ed0af cut at loop.example/g00781/laws.FnEffects loop.example/g00781/laws.FnForever loop.example/g00781/laws.FnStuck loop.example/g00781/laws.FnExactRun" :=by kernel_rfl
set_option maxRecDepth 100000 in
theorem GB: "harness 48b2321d9d310cf2b0d47b24e7868c7d5e650bc5d5b2d99cdc8af5f6669ed0af cut at loop.example/g00781/laws.FnEffects loop.example/g00781/laws.FnForever loop.example/g00781/laws.FnStuck loop.example/g00781/laws.FnExactRun" =String.ofList (ch [104,97,114,110,101,115,115]++sp::(ch [52,56,98,50,51,50,49,100,57,100,51,49,48,99,102,50,98,48,100,52,55,98,50,52,101,55,56,54,56,99,55,100,53,101,54,53,48,98,99,53,100,53,98,50,100,57,57,99,100,99,56,97,102,53,102,54,54,54,57,101,100,48,97,102]++sp::(ch [99,117,116]++sp::ch [97,116,32,108,111,111,112,46,101,120,97,109,112,108,101,47,103,48,48,55,56,49,47,108,97,119,115,46,70,110,69,102,102,101,99,116,115,32,108,111,111,112,46,101,120,97,109,112,108,101,47,103,48,48,55,56,49,47,108,97,119,115,46,70,110,70,111,114,101,118,101,114,32,108,111,111,112,46,101,120,97,109,112,108,101,47,103,48,48,55,56,49,47,108,97,119,115,46,70,110,83,116,117,99,107,32,108,111,111,112,46,101,120,97,109,112,108,101,47,103,48,48,55,56,49,47,108,97,119,115,46,70,110,69,120,97,99,116,82,117,110]))):=by kernel_rfl
set_option maxRecDepth 100000 in
theorem zG:∃ r,behindMainWord (wordsSigns Tryz.prog.initOrder.toList)=ch [99,117,116]::wordsSigns r:=by
 have h1:I8 (ch [104,97,114,110,101,115,115])=true:=by kernel_rfl
 have h2:I8 (ch [52,56,98,50,51,50,49,100,57,100,51,49,48,99,102,50,98,48,100,52,55,98,50,52,101,55,56,54,56,99,55,100,53,101,54,53,48,98,99,53,100,53,98,50,100,57,57,99,100,99,56,97,102,53,102,54,54,54,57,101,100,48,97,102])=true:=by kernel_rfl
 have h3:I8 (ch [99,117,116])=true:=by kernel_rfl
 have h4:(ch [104,97,114,110,101,115,115]== "harness".toList)=true:=by kernel_rfl
 have h5:isSumSigns (ch [52,56,98,50,51,50,49,100,57,100,51,49,48,99,102,50,98,48,100,52,55,98,50,52,101,55,56,54,56,99,55,100,53,101,54,53,48,98,99,53,100,53,98,50,100,57,57,99,100,99,56,97,102,53,102,54,54,54,57,101,100,48,97,102])=true:=by kernel_rfl
 exact ⟨ch [97,116,32,108,111,111,112,46,101,120,97,109,112,108,101,47,103,48,48,55,56,49,47,108,97,119,115,46,70,110,69,102,102,101,99,116,115,32,108,111,111,112,46,101,120,97,109,112,108,101,47,103,48,48,55,56,49,47,108,97,119,115,46,70,110,70,111,114,101,118,101,114,32,108,111,111,112,46,101,120,97,109,112,108,101,47,103,48,48,55,56,49,47,108,97,119,115,46,70,110,83,116,117,99,107,32,108,111,111,112,46,101,120,97,109,112,108,101,47,103,48,48,55,56,49,47,108,97,119,115,46,70,110,69,120,97,99,116,82,117,110],DV (Pe.trans GB) h1 h2 h3 h4 h5⟩
theorem GC:Tryz.prog.mayEnter=true:=by
 obtain ⟨r,hr⟩:=zG;have h1:Tryz.prog.laysLater=false:=by kernel_rfl
 have h2:Tryz.prog.bearsReflect=false:=by kernel_rfl
 have h3:Tryz.prog.doorFits []=true:=by kernel_rfl
 exact DW hr h1 h2 h3
theorem Pf:Tryz.prog.liftsFinal=false:=by
 obtain ⟨r,hr⟩:=zG;exact NH hr
theorem UD:Tryz.prog.make=some .cut:=by
 obtain ⟨r,hr⟩:=zG;exact Pg hr
end Go.Proofs.YtohagdoklnkljaaGreat.Dm
