/- What the rows ask of the program's table, once for all laws of the seat. -/
import Derived.Test.YtnlleofnjkeimaaGreatDoorProg
import Derived.Test.YtnlleofnjkeimaaGreatDoorM4
namespace Go.Proofs.YtnlleofnjkeimaaGreatDoor.Dm
open Go
theorem L1:Tryz.prog.initOrder= "harness 8085526362f24b2bf67fb7735f845da1c68b39da9dde2869e49510c67edbc75a cut at loop.example/g00781/laws.FnPs" :=by kernel_rfl
set_option maxRecDepth 100000 in
theorem EA: "harness 8085526362f24b2bf67fb7735f845da1c68b39da9dde2869e49510c67edbc75a cut at loop.example/g00781/laws.FnPs" =String.ofList (ch [104,97,114,110,101,115,115]++sp::(ch [56,48,56,53,53,50,54,51,54,50,102,50,52,98,50,98,102,54,55,102,98,55,55,51,53,102,56,52,53,100,97,49,99,54,56,98,51,57,100,97,57,100,100,101,50,56,54,57,101,52,57,53,49,48,99,54,55,101,100,98,99,55,53,97]++sp::(ch [99,117,116]++sp::ch [97,116,32,108,111,111,112,46,101,120,97,109,112,108,101,47,103,48,48,55,56,49,47,108,97,119,115,46,70,110,80,115]))):=by kernel_rfl
set_option maxRecDepth 100000 in
theorem xT:∃ r,behindMainWord (wordsSigns Tryz.prog.initOrder.toList)=ch [99,117,116]::wordsSigns r:=by
 have h1:GS (ch [104,97,114,110,101,115,115])=true:=by kernel_rfl
 have h2:GS (ch [56,48,56,53,53,50,54,51,54,50,102,50,52,98,50,98,102,54,55,102,98,55,55,51,53,102,56,52,53,100,97,49,99,54,56,98,51,57,100,97,57,100,100,101,50,56,54,57,101,52,57,53,49,48,99,54,55,101,100,98,99,55,53,97])=true:=by kernel_rfl
 have h3:GS (ch [99,117,116])=true:=by kernel_rfl
 have h4:(ch [104,97,114,110,101,115,115]== "harness".toList)=true:=by kernel_rfl
 have h5:isSumSigns (ch [56,48,56,53,53,50,54,51,54,50,102,50,52,98,50,98,102,54,55,102,98,55,55,51,53,102,56,52,53,100,97,49,99,54,56,98,51,57,100,97,57,100,100,101,50,56,54,57,101,52,57,53,49,48,99,54,55,101,100,98,99,55,53,97])=true:=by kernel_rfl
 exact ⟨ch [97,116,32,108,111,111,112,46,101,120,97,109,112,108,101,47,103,48,48,55,56,49,47,108,97,119,115,46,70,110,80,115],Cn (L1.trans EA) h1 h2 h3 h4 h5⟩
theorem EB:Tryz.prog.mayEnter=true:=by
 obtain ⟨r,hr⟩:=xT;have h1:Tryz.prog.laysLater=false:=by kernel_rfl
 have h2:Tryz.prog.bearsReflect=false:=by kernel_rfl
 have h3:Tryz.prog.doorFits []=true:=by kernel_rfl
 exact Co hr h1 h2 h3
theorem L2:Tryz.prog.liftsFinal=false:=by
 obtain ⟨r,hr⟩:=xT;exact Kn hr
theorem QR:Tryz.prog.make=some .cut:=by
 obtain ⟨r,hr⟩:=xT;exact L3 hr
end Go.Proofs.YtnlleofnjkeimaaGreatDoor.Dm
