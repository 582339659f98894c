/- The types of the program, as the data machine knows them. -/
import Derived.Test.YtkmhgofibfmjfaaGreatProg
import Derived.Test.YtkmhgofibfmjfaaGreatM4
namespace Go.Proofs.YtkmhgofibfmjfaaGreat.Dm
open Go
noncomputable abbrev acl:=Tryz.prog
abbrev act:Nat:=64000000
abbrev adc:Nat:=64000001
abbrev aig:Nat:=64000002
abbrev alH:Nat:=64000003
abbrev alI:Nat:=64000004
abbrev alK:Nat:=64000005
abbrev alQ:Nat:=64000006
abbrev alV:Nat:=64000007
abbrev ama:Nat:=64000008
abbrev amb:Nat:=64000009
abbrev amc:Nat:=64000010
abbrev amd:Nat:=64000011
abbrev ame:Nat:=64000012
abbrev amf:Nat:=64000013
abbrev amg:Nat:=64000014
abbrev amh:Nat:=64000015
abbrev amj:Nat:=64000016
abbrev amk:Nat:=64000017
abbrev aml:Nat:=64000018
abbrev wl:Item:=⟨false,false,[.i .i64]⟩
abbrev wn:Item:=⟨false,false,[.b]⟩
abbrev wr:Item:=⟨false,false,[.s]⟩
abbrev ww:Item:=⟨false,false,[.ro (.int .i64)]⟩
abbrev AC:Item:=⟨true,false,[.i .i64]⟩
abbrev Do:Item:=⟨true,false,[.ro (.int .u8), .i .i64, .i .i64]⟩
abbrev EQ:Item:=⟨true,false,[.s, .b]⟩
abbrev Fd:Item:=⟨false,false,[.own (.int .i64)]⟩
abbrev Fn:Item:=⟨false,true,[.i .i64, .i .i64, .i .i64, .i .i64, .i .i64, .ro (.int .i64), .ro (.int .i64), .ro (.int .i64), .i .i64, .i .i64]⟩
abbrev Fr:Item:=⟨false,true,[.i .i64, .i .i64, .i .i64, .i .i64, .i .i64]⟩
abbrev GE:Item:=⟨false,false,[.ro (.int .u8)]⟩
abbrev Id:Item:=⟨false,true,[.i .i64, .i .i64, .i .i64, .i .i64]⟩
abbrev If:Item:=⟨false,true,[.i .i64, .ro (.int .i64)]⟩
abbrev Nm:Item:=⟨true,false,[.i .i64, .ro (.int .i64)]⟩
abbrev NE:Item:=⟨false,false,[.ro .str]⟩
abbrev Or:Item:=⟨false,true,[.i .i64, .i .i64, .i .i64, .i .i64, .i .i64, .own (.int .i64), .own (.int .i64), .own (.int .i64), .i .i64, .i .i64]⟩
abbrev tyY:Ty:=(.st (.cons (.int .i64) (.cons (.int .i64) (.cons (.int .i64) (.cons (.int .i64) (.cons (.st (.cons (.int .i64) (.cons .hole .nil))) (.cons .hole (.cons .hole (.cons (.int .i64) (.cons (.int .i64) .nil))))))))))
abbrev AX:Ty:=(.st (.cons (.int .i64) (.cons (.int .i64) (.cons (.int .i64) (.cons (.int .i64) (.cons (.fz (.int .i64)) .nil))))))
abbrev dQ:Ty:=(.st (.cons (.int .i64) (.cons (.fz (.int .i64)) .nil)))
abbrev mX:Ty:=(.st (.cons (.int .i64) (.cons (.int .i64) (.cons (.int .i64) (.cons (.int .i64) (.cons (.st (.cons (.int .i64) (.cons (.fz (.int .i64)) .nil))) (.cons (.sl (.int .i64)) (.cons (.sl (.int .i64)) (.cons (.int .i64) (.cons (.int .i64) .nil))))))))))
abbrev dp:Ty:=(.st (.cons (.int .i64) (.cons (.sl (.int .i64)) .nil)))
abbrev FS:Item:=⟨false,false,[.ro dp]⟩
abbrev cT:Ty:=(.st (.cons (.int .i64) (.cons (.int .i64) (.cons (.int .i64) (.cons (.int .i64) .nil)))))
abbrev At:Item:=⟨false,false,[.ro cT]⟩
abbrev IO:Item:=⟨false,false,[.own cT]⟩
abbrev IR:Item:=⟨false,false,[.ro (.sl cT)]⟩
abbrev eF:Ty:=(.st (.cons (.int .i64) (.cons (.int .i64) (.cons (.int .i64) (.cons (.int .i64) (.cons (.int .i64) .nil))))))
abbrev LE:Item:=⟨false,false,[.ro eF]⟩
abbrev jc:Ty:=(.st (.cons (.int .i64) (.cons (.int .i64) (.cons (.int .i64) (.cons (.int .i64) (.cons (.st (.cons (.int .i64) (.cons (.sl (.int .i64)) .nil))) (.cons (.sl (.int .i64)) (.cons (.sl (.int .i64)) (.cons (.int .i64) (.cons (.int .i64) .nil))))))))))
abbrev ws:Item:=⟨false,true,[.i .i64, .i .i64, .ro (.sl cT), .ro jc, .ro eF, .ro dp, .ro dp, .ro (.int .i64), .ro (.int .i64)]⟩
abbrev GT:Item:=⟨false,true,[.i .i64, .i .i64, .own (.sl cT), .own jc, .own eF, .own dp, .own dp, .own (.int .i64), .own (.int .i64)]⟩
abbrev LT:Item:=⟨true,false,[.i .i64, .i .i64, .ro (.sl cT), .ro jc, .ro eF, .ro dp, .ro dp, .ro (.int .i64), .ro (.int .i64)]⟩
abbrev eG:Ty:= .int .i64
abbrev XE:Type:=List Int×Int×Int×Unit
abbrev XI:Type:=Unit×Unit×Unit
abbrev XM:Type:=Int×Int×Int×Int×Int×List Int×List Int×XE
abbrev XS:Type:=List (Int×Int×Int×Int×(Int×List Int×Unit)×List Int×List Int×Int×Int×Unit)×Int×Int×Unit
abbrev dd (n:Nat):List Slot:=List.replicate n .dead
def Se:List (Nat×Ty):=[(2,(.int .i64)),(3,(.int .i64)),(4, .bool),(5,(.int .u8)),(6,(.int .u8)),(7,(.st (.cons (.int .i64) (.cons (.int .i64) (.cons .bool (.cons (.int .u8) .nil)))))),(8,(.st (.cons (.int .i64) (.cons (.int .i64) (.cons .bool (.cons (.int .u8) .nil)))))),(9, .str),(10, .str),(11, .str),(12,(.int .u64)),(13,(.st (.cons .str (.cons (.int .u64) .nil)))),(14,(.st (.cons .str (.cons (.int .u64) .nil)))),(21,(.int .i32)),(22,(.sl (.int .u8))),(24,(.sl (.sl cT))),(25,(.sl jc)),(26,(.sl eF)),(27,(.sl dp)),(28,(.sl dp)),(29,(.sl (.int .i64))),(30,(.st (.cons (.int .i64) (.cons (.int .i64) (.cons (.sl (.sl cT)) (.cons (.sl jc) (.cons (.sl eF) (.cons (.sl dp) (.cons (.sl dp) (.cons (.sl (.int .i64)) (.cons (.sl (.int .i64)) .nil))))))))))),(31,(.st (.cons (.int .i64) (.cons (.int .i64) (.cons (.sl (.sl cT)) (.cons (.sl jc) (.cons (.sl eF) (.cons (.sl dp) (.cons (.sl dp) (.cons (.sl (.int .i64)) (.cons (.sl (.int .i64)) .nil))))))))))),(46,(.st (.cons .str (.cons .bool .nil)))),(47,(.st (.cons .str (.cons .bool .nil)))),(50,(.sl .str)),(51,(.sl cT)),(54,dp),(55,dp),(56,jc),(57,jc),(60,eF),(61,eF),(62,dp),(63,dp),(64,dp),(65,dp),(89,(.st (.cons (.sl (.int .u8)) (.cons (.int .i64) (.cons (.int .i64) .nil))))),(90,(.st (.cons (.sl (.int .u8)) (.cons (.int .i64) (.cons (.int .i64) .nil))))),(102,cT),(103,cT),(104,(.int .u64)),(137,(.sl (.st (.cons (.int .i64) (.cons (.int .i64) (.cons (.int .i64) (.cons (.int .i64) (.cons (.sl (.int .i64)) .nil)))))))),(138,(.st (.cons (.st (.cons (.int .i64) (.cons (.int .i64) (.cons (.sl (.sl cT)) (.cons (.sl jc) (.cons (.sl eF) (.cons (.sl dp) (.cons (.sl dp) (.cons (.sl (.int .i64)) (.cons (.sl (.int .i64)) .nil)))))))))) (.cons (.sl (.st (.cons (.int .i64) (.cons (.int .i64) (.cons (.int .i64) (.cons (.int .i64) (.cons (.sl (.int .i64)) .nil))))))) .nil)))),(139,(.st (.cons (.st (.cons (.int .i64) (.cons (.int .i64) (.cons (.sl (.sl cT)) (.cons (.sl jc) (.cons (.sl eF) (.cons (.sl dp) (.cons (.sl dp) (.cons (.sl (.int .i64)) (.cons (.sl (.int .i64)) .nil)))))))))) (.cons (.sl (.st (.cons (.int .i64) (.cons (.int .i64) (.cons (.int .i64) (.cons (.int .i64) (.cons (.sl (.int .i64)) .nil))))))) .nil)))),(159,(.st (.cons (.int .i64) (.cons (.int .i64) (.cons (.int .i64) (.cons (.int .i64) (.cons (.sl (.int .i64)) .nil))))))),(160,(.st (.cons (.int .i64) (.cons (.int .i64) (.cons (.int .i64) (.cons (.int .i64) (.cons (.sl (.int .i64)) .nil))))))),(163,cT),(164,cT),(172,(.int .i64)),(181,(.int .u32)),(183,(.int .u64)),(191,(.int .u64)),(208,(.int .u8)),(209,(.int .u8)),(211,(.int .i32)),(212,(.int .i32))]
def eqT:List Nat:=[103,61]
theorem jd:JN Tryz.prog Se=true:=by kernel_rfl
theorem Ht:eqT.all (Y9 Tryz.prog)=true:=by kernel_rfl
theorem BR:Tryz.prog.follows .mixedOrders=true:=by kernel_rfl
abbrev Za (l:List bK):Cx:=Ss Se eqT l
def kOf:List (Nat×Nat)→Nat→Nat
 |[],_=>0
 |(k,x)::r,n=>bif k==n then x else kOf r n
abbrev cxZ (tb:List (Nat×Ty)) (z:List Nat) (o:List (Nat×Nat)) (l:List bK):Cx:={ Ss tb eqT l with frz:=λn=>z.contains n,opk:=kOf o }
theorem afU {tb:List (Nat×Ty)} {z:List Nat} {o:List (Nat×Nat)} {l:List bK} (h:JN Tryz.prog tb=true):kM (cxZ tb z o l) Tryz.prog:=⟨(vQ h Ht l).ty,(vQ h Ht l).eqv⟩
theorem afV {K:bK} {fn:Func} {code:Code} {rtm:List ResultVar} {A:Nat→Option au} (l:List bK) (hl:∀ K∈l,K.Ok acl) (h:St Tryz.prog (Za l) K fn code rtm A):K.Ok acl:=
 Ai (vQ jd Ht l) (BS l hl rfl) BR h
def OkL:List bK→Prop
 |[]=>True
 |K::r=>K.Ok acl∧OkL r
theorem Hu:∀ {l:List bK},OkL l→∀ K∈l,K.Ok acl
 |[],_,_,h=>by cases h
 |K::r,hl,K',h=>by
  rcases adM.1 h with rfl|h
  . exact hl.1
  . exact Hu hl.2 K' h
abbrev bo (l:List bK) (A:Nat→Option au) (fn:Func) (K:bK) (rtm:List ResultVar) (x:aw K.aF):Out (aw K.rs×iC K.aF):=Hv (Za l) A (pU fn) K.aF K.lay fn.ntmps K.rs rtm x
theorem aD {K:bK} {fn:Func} {rtm:List ResultVar} {A:Nat→Option au} {T:aw K.aF→Out (aw K.rs×iC K.aF)} (l:List bK) (hl:OkL l) (he:∀ x,bo l A fn K rtm x=T x) (hr:∀ x,aB K.aF x→∀ y,(K.F x).eval=some y→(T x).eval=some y) (h1:Tryz.prog.funcs[K.f]? =some fn:=by kernel_rfl) (h2:fn.body=some (pU fn):=by exact sQ (by kernel_rfl))
  (h3:(fn.name== "runtime.NumGoroutine")=false:=by kernel_rfl) (h4:fn.results=rtm.toArray:=by kernel_rfl) (h5:(decide (rtm.length≤6)&&decide (oX K.aF 0≤64)&&K.rs.all λit=>decide (0<it.cs.length))=true:=by kernel_rfl):K.Ok acl:=by
 rw [aa6,aa6] at h5;exact afV l (Hu hl) ⟨h1,h2,h3,h4,adR h5.1.1,adR h5.1.2,h5.2,λx y hw hy=>(congrArg Out.eval (he x)).trans (hr x hw y hy)⟩
abbrev boZ (tb:List (Nat×Ty)) (z:List Nat) (o:List (Nat×Nat)) (l:List bK) (A:Nat→Option au) (fn:Func) (K:bK) (rtm:List ResultVar) (x:aw K.aF):Out (aw K.rs×iC K.aF):=Hv (cxZ tb z o l) A (pU fn) K.aF K.lay fn.ntmps K.rs rtm x
theorem Zb {K:bK} {fn:Func} {rtm:List ResultVar} {A:Nat→Option au} {T:aw K.aF→Out (aw K.rs×iC K.aF)} {tb:List (Nat×Ty)} {z:List Nat} {o:List (Nat×Nat)} (ht:JN Tryz.prog tb=true) (l:List bK) (hl:OkL l) (he:∀ x,boZ tb z o l A fn K rtm x=T x) (hr:∀ x,aB K.aF x→∀ y,(K.F x).eval=some y→(T x).eval=some y) (h1:Tryz.prog.funcs[K.f]? =some fn:=by kernel_rfl) (h2:fn.body=some (pU fn):=by exact sQ (by kernel_rfl))
  (h3:(fn.name== "runtime.NumGoroutine")=false:=by kernel_rfl) (h4:fn.results=rtm.toArray:=by kernel_rfl) (h5:(decide (rtm.length≤6)&&decide (oX K.aF 0≤64)&&K.rs.all λit=>decide (0<it.cs.length))=true:=by kernel_rfl):K.Ok acl:=by
 rw [aa6,aa6] at h5;exact Ai (afU ht) (BS l (Hu hl) rfl) BR ⟨h1,h2,h3,h4,adR h5.1.1,adR h5.1.2,h5.2,λx y hw hy=>(congrArg Out.eval (he x)).trans (hr x hw y hy)⟩
theorem Zc {ρ:Type} (o:Option ρ):(Out.get o λy=> .ret y).eval=o:=by cases o<;>rfl
def dX (f:Nat) (lend:Bool) (aF:List Item) (lay:QL) (rs:List Item) (t:aw aF→Out (aw rs×iC aF)):bK:={ f:=f,lend:=lend,aF:=aF,lay:=lay,rs:=rs,F:=λx=> .get (t x).eval λy=> .ret y }
theorem ck {f:Nat} {lend:Bool} {aF:List Item} {lay:QL} {rs:List Item} {t:aw aF→Out (aw rs×iC aF)} {tb:List (Nat×Ty)} (ht:JN Tryz.prog tb=true) (z:List Nat) (o:List (Nat×Nat)) (l:List bK) (hl:OkL l) (A:Nat→Option au) (fn:Func) (rtm:List ResultVar)
  (he:∀ x,boZ tb z o l A fn (dX f lend aF lay rs t) rtm x=t x) (h1:Tryz.prog.funcs[f]? =some fn:=by kernel_rfl) (h2:fn.body=some (pU fn):=by exact sQ (by kernel_rfl))
  (h3:(fn.name== "runtime.NumGoroutine")=false:=by kernel_rfl) (h4:fn.results=rtm.toArray:=by kernel_rfl) (h5:(decide (rtm.length≤6)&&decide (oX aF 0≤64)&&rs.all λit=>decide (0<it.cs.length))=true:=by kernel_rfl):(dX f lend aF lay rs t).Ok acl:=
 Zb ht l hl he (λ_ _ _ hy=>(Zc _).symm.trans hy) h1 h2 h3 h4 h5
abbrev kw:=Int×Int×Int×Int×(Int×List Int×Unit)×List Int×XE
abbrev md:=List (Int×Int×Int×Int×Unit)
abbrev ms:=Int×Int×Int×Int×Int×Unit
abbrev ac:=Int×Int×List md×List kw×List ms×List (Int×List Int×Unit)×List (Int×List Int×Unit)×List Int×List Int×Unit
abbrev ci:=((Bool×Unit)×Unit)×(Unit×Unit)
abbrev gc:=((List UInt8×Unit)×Unit)×(Unit×Unit)
abbrev gt:=((Int×Unit)×Unit)×(Unit×Unit)
abbrev mt:=(List UInt8×Unit)×(Unit)
abbrev ne:=List UInt8×Int×Int×Int×Unit
abbrev pl:=List (Int×Int×Int×Int×Unit)×Unit
abbrev to:=(Int×Unit)×(List (Int)×Unit)
abbrev ul:=(Int×Unit)×(Int×Unit)×Unit
abbrev un:=(List UInt8×Bool×Unit)×Unit
abbrev wd:=List (Int)×Int×Int×Unit
end Go.Proofs.YtkmhgofibfmjfaaGreat.Dm
