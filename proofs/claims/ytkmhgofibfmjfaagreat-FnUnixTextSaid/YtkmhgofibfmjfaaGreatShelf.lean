/-
 DERIVED:THE SHELF's CONTRACTS AT THIS DUMP,IN PLAIN WORDS (tools/lay-plain.mjs out of 'TryzShelf.lean',which tools/lay-shelf.mjs wrote):THE SAME DECLARATIONS UNDER THE SAME NAMES: 'import', 'namespace', 'open', 'def', 'theorem' AND NOTHING ELSE:no command of the shelf's:FOR A HAND-IN. Each laying:the table of numbers ('.._ren') and one theorem,a field a fact of the dump's own or the kernel's comparison;each contract:ONE APPLICATION.
-/
import Derived.Shelf.Strings.OnBuilder
import Derived.Shelf.Sort.Plain
import Derived.Shelf.Slices.In.SortNone
import Derived.Test.YtkmhgofibfmjfaaGreatProg
namespace Go.Proofs
open Go.Shelf
def Tryz.AV:Go.Shelf.Ren:=⟨fun|156=>23|165=>68|166=>69|169=>70|240=>114|241=>115|276=>143|277=>144|n=>n,fun|31=>50|9=>9|3=>3|4=>4|0=>0|20=>20|72=>107|76=>111|70=>105|37=>22|75=>110|127=>134|164=>154|5=>5|80=>113|n=>n,fun|n=>n⟩
theorem Tryz.QJ:Go.Proofs.Lays.n156 Tryz.prog Tryz.AV:={
 mixed:=by kernel_rfl
 f156:=Tryz.func23.trans (congrArg some (by kernel_rfl))
 f165:=Tryz.func68.trans (congrArg some (by kernel_rfl))
 f166:=Tryz.func69.trans (congrArg some (by kernel_rfl))
 f169:=Tryz.func70.trans (congrArg some (by kernel_rfl))
 f240:=Tryz.func114.trans (congrArg some (by kernel_rfl))
 f241:=Tryz.func115.trans (congrArg some (by kernel_rfl))
 f276:=Tryz.func143.trans (congrArg some (by kernel_rfl))
 f277:=Tryz.func144.trans (congrArg some (by kernel_rfl))
 t0:=Tryz.underlying0
 a0:=Tryz.isAgg0
 z0:=Tryz.sizeOf0
 v0:=Tryz.zeroValue0
 t3:=Tryz.underlying3
 a3:=Tryz.isAgg3
 z3:=Tryz.sizeOf3
 v3:=Tryz.zeroValue3
 t4:=Tryz.underlying4
 a4:=Tryz.isAgg4
 z4:=Tryz.sizeOf4
 v4:=Tryz.zeroValue4
 t9:=Tryz.underlying9
 a9:=Tryz.isAgg9
 z9:=Tryz.sizeOf9
 v9:=Tryz.zeroValue9
 t20:=Tryz.underlying20
 a20:=Tryz.isAgg20
 z20:=Tryz.sizeOf20
 v20:=Tryz.zeroValue20
 t31:=Tryz.underlying50
 a31:=Tryz.isAgg50
 z31:=Tryz.sizeOf50
 v31:=Tryz.zeroValue50
 t37:=Tryz.underlying22
 a37:=Tryz.isAgg22
 z37:=Tryz.sizeOf22
 v37:=Tryz.zeroValue22
 t70:=Tryz.underlying105
 a70:=Tryz.isAgg105
 z70:=Tryz.sizeOf105
 v70:=Tryz.zeroValue105
 t72:=Tryz.underlying107
 a72:=Tryz.isAgg107
 z72:=Tryz.sizeOf107
 v72:=Tryz.zeroValue107
 t75:=Tryz.underlying110
 a75:=Tryz.isAgg110
 z75:=Tryz.sizeOf110
 v75:=Tryz.zeroValue110
 t76:=Tryz.underlying111
 a76:=Tryz.isAgg111
 z76:=Tryz.sizeOf111
 v76:=Tryz.zeroValue111
 t127:=Tryz.underlying134
 a127:=Tryz.isAgg134
 z127:=Tryz.sizeOf134
 v127:=Tryz.zeroValue134
 t164:=Tryz.underlying154
 a164:=Tryz.isAgg154
 z164:=Tryz.sizeOf154
 v164:=Tryz.zeroValue154 }
theorem Tryz.oD:Builder.Extra Tryz.prog Tryz.AV:={
 sizeBuilder:=by kernel_rfl
 liesBuilder:=by kernel_rfl
 t5:=Tryz.underlying5
 a5:=Tryz.isAgg5
 z5:=Tryz.sizeOf5
 v5:=Tryz.zeroValue5
 infoByte:=by kernel_rfl
 cellsByte:=by kernel_rfl
 sizeByte:=by kernel_rfl
 neB5:=by decide }
open Go.RowKit in
theorem Tryz.strings_Join_none (a:Option Addr) (c:Nat) (sep:ByteArray) (w:World):
 Calls Tryz.prog 23 #[.slice a 0 c, .string sep] w λe w'=>e= .returned (.string ⟨#[]⟩)∧w'=w:=Any.strings_Join_none Tryz.QJ Tryz.oD a c sep w
open Go.RowKit in
theorem Tryz.strings_Join (bk o c:Nat) (xs:List ByteArray) (sep:ByteArray) (w:World) (Ye:∀ (j:Nat) x,xs[j]? =some x→w.cell? ⟨bk,o+j,none⟩=some (.string x)) (hbk:bk<w.heap.size) (hN:xs.length≤140737488355328) (uq:xs.length≤c) (hlen:(Lib.join (xs.map (·.data.toList)) sep.data.toList).length≤140737488355328):
 Calls Tryz.prog 23 #[.slice (some ⟨bk,o,none⟩) xs.length c, .string sep] w λe w'=>e= .returned (.string ⟨(Lib.join (xs.map (·.data.toList)) sep.data.toList).toArray⟩)∧Below w.heap.size w w':=Any.strings_Join Tryz.QJ Tryz.oD bk o c xs sep w Ye hbk hN uq hlen
def Tryz.My:Go.Shelf.Ren:=⟨fun|189=>112|125=>142|257=>141|128=>166|129=>167|294=>157|295=>158|296=>159|297=>160|298=>161|299=>162|216=>163|300=>164|301=>165|328=>186|329=>187|330=>188|331=>189|332=>190|215=>191|343=>206|n=>n,fun|28=>29|3=>3|46=>104|0=>0|51=>181|53=>183|4=>4|183=>173|182=>172|131=>178|5=>5|9=>9|218=>191|222=>195|228=>201|229=>80|n=>n,fun|n=>n⟩
theorem Tryz.QK:Go.Proofs.Lays.n189 Tryz.prog Tryz.My:={
 mixed:=by kernel_rfl
 f125:=Tryz.func142.trans (congrArg some (by kernel_rfl))
 f128:=Tryz.func166.trans (congrArg some (by kernel_rfl))
 f129:=Tryz.func167.trans (congrArg some (by kernel_rfl))
 f189:=Tryz.func112.trans (congrArg some (by kernel_rfl))
 f215:=Tryz.func191.trans (congrArg some (by kernel_rfl))
 f216:=Tryz.func163.trans (congrArg some (by kernel_rfl))
 f257:=Tryz.func141.trans (congrArg some (by kernel_rfl))
 f294:=Tryz.func157.trans (congrArg some (by kernel_rfl))
 f295:=Tryz.func158.trans (congrArg some (by kernel_rfl))
 f296:=Tryz.func159.trans (congrArg some (by kernel_rfl))
 f297:=Tryz.func160.trans (congrArg some (by kernel_rfl))
 f298:=Tryz.func161.trans (congrArg some (by kernel_rfl))
 f299:=Tryz.func162.trans (congrArg some (by kernel_rfl))
 f300:=Tryz.func164.trans (congrArg some (by kernel_rfl))
 f301:=Tryz.func165.trans (congrArg some (by kernel_rfl))
 f328:=Tryz.func186.trans (congrArg some (by kernel_rfl))
 f329:=Tryz.func187.trans (congrArg some (by kernel_rfl))
 f330:=Tryz.func188.trans (congrArg some (by kernel_rfl))
 f331:=Tryz.func189.trans (congrArg some (by kernel_rfl))
 f332:=Tryz.func190.trans (congrArg some (by kernel_rfl))
 f343:=Tryz.func206.trans (congrArg some (by kernel_rfl))
 t0:=Tryz.underlying0
 a0:=Tryz.isAgg0
 z0:=Tryz.sizeOf0
 v0:=Tryz.zeroValue0
 t3:=Tryz.underlying3
 a3:=Tryz.isAgg3
 z3:=Tryz.sizeOf3
 v3:=Tryz.zeroValue3
 t4:=Tryz.underlying4
 a4:=Tryz.isAgg4
 z4:=Tryz.sizeOf4
 v4:=Tryz.zeroValue4
 t5:=Tryz.underlying5
 a5:=Tryz.isAgg5
 z5:=Tryz.sizeOf5
 v5:=Tryz.zeroValue5
 t9:=Tryz.underlying9
 a9:=Tryz.isAgg9
 z9:=Tryz.sizeOf9
 v9:=Tryz.zeroValue9
 t28:=Tryz.underlying29
 a28:=Tryz.isAgg29
 z28:=Tryz.sizeOf29
 v28:=Tryz.zeroValue29
 t46:=Tryz.underlying104
 a46:=Tryz.isAgg104
 z46:=Tryz.sizeOf104
 v46:=Tryz.zeroValue104
 t51:=Tryz.underlying181
 a51:=Tryz.isAgg181
 z51:=Tryz.sizeOf181
 v51:=Tryz.zeroValue181
 t53:=Tryz.underlying183
 a53:=Tryz.isAgg183
 z53:=Tryz.sizeOf183
 v53:=Tryz.zeroValue183
 t131:=Tryz.underlying178
 a131:=Tryz.isAgg178
 z131:=Tryz.sizeOf178
 v131:=Tryz.zeroValue178
 t182:=Tryz.underlying172
 a182:=Tryz.isAgg172
 z182:=Tryz.sizeOf172
 v182:=Tryz.zeroValue172
 t183:=Tryz.underlying173
 a183:=Tryz.isAgg173
 z183:=Tryz.sizeOf173
 v183:=Tryz.zeroValue173
 t218:=Tryz.underlying191
 a218:=Tryz.isAgg191
 z218:=Tryz.sizeOf191
 v218:=Tryz.zeroValue191
 t222:=Tryz.underlying195
 a222:=Tryz.isAgg195
 z222:=Tryz.sizeOf195
 v222:=Tryz.zeroValue195
 t228:=Tryz.underlying201
 a228:=Tryz.isAgg201
 z228:=Tryz.sizeOf201
 v228:=Tryz.zeroValue201
 t229:=Tryz.underlying80
 a229:=Tryz.isAgg80
 z229:=Tryz.sizeOf80
 v229:=Tryz.zeroValue80 }
open Go.Sort Go.RowKit in
theorem Tryz.slices_Sort_int (Y8 off cap:Nat) (zs:List Int) (w:World) (hH:Holds (Value.int .i64) w Y8 off zs.toArray) (at2:Y8<w.heap.size) (GW:zs.length<4611686018427387904):
 Calls Tryz.prog 112 #[.slice (some ⟨Y8,off,none⟩) zs.length cap] w λe w'=>
  e= .returned (.tuple #[])∧∃ n os,w'=grow (putRow (Value.int .i64) (Sort.ahead w n) Y8 off (zs.mergeSort λx y=>decide (x≤y)).toArray) os:=Any.slices_Sort_int Tryz.QK Y8 off cap zs w hH at2 GW
open Go.RowKit Go.Sort in
theorem Tryz.slices_Sort_int_none (p:Option Addr) (cap:Nat) (w:World):
 Calls Tryz.prog 112 #[.slice p 0 cap] w λe w'=>e= .returned (.tuple #[])∧w'=w:=Any.slices_Sort_int_none Tryz.QK p cap w
abbrev am:=Int×Int×Int×Int×List Int×Unit
abbrev go:=Int×Int×Int×Int×(Int×Unit×Unit)×Unit×Unit×Int×Int×Unit
abbrev ip:=((Bool×Unit)×Unit)×(Unit×(Int×Unit)×Unit)
abbrev mp:=((Int×Unit)×Unit)×(Unit×(Int×Unit)×Unit)
abbrev pu:=Int×Int×Int×Int×Int×Int×Int×Unit
abbrev qr:=List Int×List Int×List Int×List Int×List Int×List Int
abbrev rc:=(Int×Int×Unit)×Unit×Unit
abbrev rg:=(Int×Unit)×((Int×Unit)×Unit)
abbrev up:=(Unit)×((Int×Unit)×Unit)
end Go.Proofs
