/- What the rows ask of the program's table, once for all laws of the seat. -/
import Derived.Test.YtkmhgofibfmjfaaGreatProg
import Derived.Test.YtkmhgofibfmjfaaGreatM4
namespace Go.Proofs.YtkmhgofibfmjfaaGreat.Dm
open Go
theorem Su:Tryz.prog.initOrder= "harness 9d8593958a1804cdb6f16e83db0d82c3f3b128b4645bd8c98f7d9233203ac40f cut at loop.example/g00781/laws.FnUnixText" :=by kernel_rfl
set_option maxRecDepth 100000 in
theorem JO: "harness 9d8593958a1804cdb6f16e83db0d82c3f3b128b4645bd8c98f7d9233203ac40f cut at loop.example/g00781/laws.FnUnixText" =String.ofList (ch [104,97,114,110,101,115,115]++sp::(ch [57,100,56,53,57,51,57,53,56,97,49,56,48,52,99,100,98,54,102,49,54,101,56,51,100,98,48,100,56,50,99,51,102,51,98,49,50,56,98,52,54,52,53,98,100,56,99,57,56,102,55,100,57,50,51,51,50,48,51,97,99,52,48,102]++sp::(ch [99,117,116]++sp::ch [97,116,32,108,111,111,112,46,101,120,97,109,112,108,101,47,103,48,48,55,56,49,47,108,97,119,115,46,70,110,85,110,105,120,84,101,120,116]))):=by kernel_rfl
set_option maxRecDepth 100000 in
theorem BT:∃ r,behindMainWord (wordsSigns Tryz.prog.initOrder.toList)=ch [99,117,116]::wordsSigns r:=by
 have h1:ML (ch [104,97,114,110,101,115,115])=true:=by kernel_rfl
 have h2:ML (ch [57,100,56,53,57,51,57,53,56,97,49,56,48,52,99,100,98,54,102,49,54,101,56,51,100,98,48,100,56,50,99,51,102,51,98,49,50,56,98,52,54,52,53,98,100,56,99,57,56,102,55,100,57,50,51,51,50,48,51,97,99,52,48,102])=true:=by kernel_rfl
 have h3:ML (ch [99,117,116])=true:=by kernel_rfl
 have h4:(ch [104,97,114,110,101,115,115]== "harness".toList)=true:=by kernel_rfl
 have h5:isSumSigns (ch [57,100,56,53,57,51,57,53,56,97,49,56,48,52,99,100,98,54,102,49,54,101,56,51,100,98,48,100,56,50,99,51,102,51,98,49,50,56,98,52,54,52,53,98,100,56,99,57,56,102,55,100,57,50,51,51,50,48,51,97,99,52,48,102])=true:=by kernel_rfl
 exact ⟨ch [97,116,32,108,111,111,112,46,101,120,97,109,112,108,101,47,103,48,48,55,56,49,47,108,97,119,115,46,70,110,85,110,105,120,84,101,120,116],Hw (Su.trans JO) h1 h2 h3 h4 h5⟩
theorem JP:Tryz.prog.mayEnter=true:=by
 obtain ⟨r,hr⟩:=BT;have h1:Tryz.prog.laysLater=false:=by kernel_rfl
 have h2:Tryz.prog.bearsReflect=false:=by kernel_rfl
 have h3:Tryz.prog.doorFits []=true:=by kernel_rfl
 exact Hx hr h1 h2 h3
theorem Sv:Tryz.prog.liftsFinal=false:=by
 obtain ⟨r,hr⟩:=BT;exact QM hr
theorem Zd:Tryz.prog.make=some .cut:=by
 obtain ⟨r,hr⟩:=BT;exact Sw hr
end Go.Proofs.YtkmhgofibfmjfaaGreat.Dm
