/-
 DERIVED:THE SHELF's CONTRACTS AT THIS DUMP,IN PLAIN WORDS (tools/lay-plain.mjs out of 'TryzShelf.lean',which tools/lay-shelf.mjs wrote):THE SAME DECLARATIONS UNDER THE SAME NAMES: 'import', 'namespace', 'open', 'def', 'theorem' AND NOTHING ELSE:no command of the shelf's:FOR A HAND-IN. Each laying:the table of numbers ('.._ren') and one theorem,a field a fact of the dump's own or the kernel's comparison;each contract:ONE APPLICATION.
-/
import Derived.Shelf.Sort.Plain
import Derived.Shelf.Slices.In.SortNone
import Derived.Test.YtohagdoklnkljaaGreatProg
namespace Go.Proofs
open Go.Shelf
def Tryz.IY:Go.Shelf.Ren:=⟨fun|189=>221|125=>264|257=>263|128=>298|129=>299|294=>289|295=>290|296=>291|297=>292|298=>293|299=>294|216=>295|300=>296|301=>297|328=>310|329=>311|330=>312|331=>313|332=>314|215=>315|343=>316|n=>n,fun|28=>29|3=>3|46=>201|0=>0|51=>244|53=>247|4=>4|183=>252|182=>251|131=>256|5=>5|9=>9|218=>266|222=>270|228=>272|229=>273|n=>n,fun|n=>n⟩
theorem Tryz.ND:Go.Proofs.Lays.n189 Tryz.prog Tryz.IY:={
 mixed:=by kernel_rfl
 f125:=Tryz.func264.trans (congrArg some (by kernel_rfl))
 f128:=Tryz.func298.trans (congrArg some (by kernel_rfl))
 f129:=Tryz.func299.trans (congrArg some (by kernel_rfl))
 f189:=Tryz.func221.trans (congrArg some (by kernel_rfl))
 f215:=Tryz.func315.trans (congrArg some (by kernel_rfl))
 f216:=Tryz.func295.trans (congrArg some (by kernel_rfl))
 f257:=Tryz.func263.trans (congrArg some (by kernel_rfl))
 f294:=Tryz.func289.trans (congrArg some (by kernel_rfl))
 f295:=Tryz.func290.trans (congrArg some (by kernel_rfl))
 f296:=Tryz.func291.trans (congrArg some (by kernel_rfl))
 f297:=Tryz.func292.trans (congrArg some (by kernel_rfl))
 f298:=Tryz.func293.trans (congrArg some (by kernel_rfl))
 f299:=Tryz.func294.trans (congrArg some (by kernel_rfl))
 f300:=Tryz.func296.trans (congrArg some (by kernel_rfl))
 f301:=Tryz.func297.trans (congrArg some (by kernel_rfl))
 f328:=Tryz.func310.trans (congrArg some (by kernel_rfl))
 f329:=Tryz.func311.trans (congrArg some (by kernel_rfl))
 f330:=Tryz.func312.trans (congrArg some (by kernel_rfl))
 f331:=Tryz.func313.trans (congrArg some (by kernel_rfl))
 f332:=Tryz.func314.trans (congrArg some (by kernel_rfl))
 f343:=Tryz.func316.trans (congrArg some (by kernel_rfl))
 t0:=Tryz.underlying0
 a0:=Tryz.isAgg0
 z0:=Tryz.sizeOf0
 v0:=Tryz.zeroValue0
 t3:=Tryz.underlying3
 a3:=Tryz.isAgg3
 z3:=Tryz.sizeOf3
 v3:=Tryz.zeroValue3
 t4:=Tryz.underlying4
 a4:=Tryz.isAgg4
 z4:=Tryz.sizeOf4
 v4:=Tryz.zeroValue4
 t5:=Tryz.underlying5
 a5:=Tryz.isAgg5
 z5:=Tryz.sizeOf5
 v5:=Tryz.zeroValue5
 t9:=Tryz.underlying9
 a9:=Tryz.isAgg9
 z9:=Tryz.sizeOf9
 v9:=Tryz.zeroValue9
 t28:=Tryz.underlying29
 a28:=Tryz.isAgg29
 z28:=Tryz.sizeOf29
 v28:=Tryz.zeroValue29
 t46:=Tryz.underlying201
 a46:=Tryz.isAgg201
 z46:=Tryz.sizeOf201
 v46:=Tryz.zeroValue201
 t51:=Tryz.underlying244
 a51:=Tryz.isAgg244
 z51:=Tryz.sizeOf244
 v51:=Tryz.zeroValue244
 t53:=Tryz.underlying247
 a53:=Tryz.isAgg247
 z53:=Tryz.sizeOf247
 v53:=Tryz.zeroValue247
 t131:=Tryz.underlying256
 a131:=Tryz.isAgg256
 z131:=Tryz.sizeOf256
 v131:=Tryz.zeroValue256
 t182:=Tryz.underlying251
 a182:=Tryz.isAgg251
 z182:=Tryz.sizeOf251
 v182:=Tryz.zeroValue251
 t183:=Tryz.underlying252
 a183:=Tryz.isAgg252
 z183:=Tryz.sizeOf252
 v183:=Tryz.zeroValue252
 t218:=Tryz.underlying266
 a218:=Tryz.isAgg266
 z218:=Tryz.sizeOf266
 v218:=Tryz.zeroValue266
 t222:=Tryz.underlying270
 a222:=Tryz.isAgg270
 z222:=Tryz.sizeOf270
 v222:=Tryz.zeroValue270
 t228:=Tryz.underlying272
 a228:=Tryz.isAgg272
 z228:=Tryz.sizeOf272
 v228:=Tryz.zeroValue272
 t229:=Tryz.underlying273
 a229:=Tryz.isAgg273
 z229:=Tryz.sizeOf273
 v229:=Tryz.zeroValue273 }
open Go.Sort Go.RowKit in
theorem Tryz.slices_Sort_int (Uz off cap:Nat) (zs:List Int) (w:World) (hH:Holds (Value.int .i64) w Uz off zs.toArray) (aeV:Uz<w.heap.size) (sW:zs.length<4611686018427387904):
 Calls Tryz.prog 221 #[.slice (some ⟨Uz,off,none⟩) zs.length cap] w fun e w'=>
  e= .returned (.tuple #[])∧∃ n os,w'=grow (putRow (Value.int .i64) (Sort.ahead w n) Uz off (zs.mergeSort fun x y=>decide (x≤y)).toArray) os:=Any.slices_Sort_int Tryz.ND Uz off cap zs w hH aeV sW
open Go.RowKit Go.Sort in
theorem Tryz.slices_Sort_int_none (p:Option Addr) (cap:Nat) (w:World):
 Calls Tryz.prog 221 #[.slice p 0 cap] w fun e w'=>e= .returned (.tuple #[])∧w'=w:=Any.slices_Sort_int_none Tryz.ND p cap w
end Go.Proofs
