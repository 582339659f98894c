/- The types of the program, as the data machine knows them. -/
import Derived.Test.YtnlleofnjkeimaaGreatDoorProg
import Derived.Test.YtnlleofnjkeimaaGreatDoorM4
namespace Go.Proofs.YtnlleofnjkeimaaGreatDoor.Dm
open Go
abbrev tyY:Ty:=(.st (.cons (.int .i64) (.cons (.int .i64) (.cons (.int .i64) (.cons (.int .i64) (.cons (.st (.cons (.int .i64) (.cons .hole .nil))) (.cons .hole (.cons .hole (.cons (.int .i64) (.cons (.int .i64) .nil))))))))))
abbrev wV:Ty:=(.st (.cons (.int .i64) (.cons (.int .i64) (.cons (.int .i64) (.cons (.int .i64) (.cons (.fz (.int .i64)) .nil))))))
abbrev dj:Ty:=(.st (.cons (.int .i64) (.cons (.fz (.int .i64)) .nil)))
abbrev kR:Ty:=(.st (.cons (.int .i64) (.cons (.int .i64) (.cons (.int .i64) (.cons (.int .i64) (.cons (.st (.cons (.int .i64) (.cons (.fz (.int .i64)) .nil))) (.cons (.sl (.int .i64)) (.cons (.sl (.int .i64)) (.cons (.int .i64) (.cons (.int .i64) .nil))))))))))
abbrev dU:Ty:=(.st (.cons (.int .i64) (.cons (.sl (.int .i64)) .nil)))
abbrev dk:Ty:=(.st (.cons (.int .i64) (.cons (.int .i64) (.cons (.int .i64) (.cons (.int .i64) .nil)))))
abbrev dZ:Ty:=(.st (.cons (.int .i64) (.cons (.int .i64) (.cons (.int .i64) (.cons (.int .i64) (.cons (.int .i64) .nil))))))
abbrev jM:Ty:=(.st (.cons (.int .i64) (.cons (.int .i64) (.cons (.int .i64) (.cons (.int .i64) (.cons (.st (.cons (.int .i64) (.cons (.sl (.int .i64)) .nil))) (.cons (.sl (.int .i64)) (.cons (.sl (.int .i64)) (.cons (.int .i64) (.cons (.int .i64) .nil))))))))))
abbrev dI:Ty:= .int .i64
abbrev XE:Type:=List Int×Int×Int×Unit
abbrev XI:Type:=Unit×Unit×Unit
abbrev XM:Type:=Int×Int×Int×Int×Int×List Int×List Int×XE
abbrev XS:Type:=List (Int×Int×Int×Int×(Int×List Int×Unit)×List Int×List Int×Int×Int×Unit)×Int×Int×Unit
abbrev dd (n:Nat):List Slot:=List.replicate n .dead
def LJ:List (Nat×Ty):=[(2,(.int .i64)),(3,(.int .i64)),(4, .bool),(5,(.int .u8)),(6,(.int .u8)),(7,(.st (.cons (.int .i64) (.cons (.int .i64) (.cons .bool (.cons (.int .u8) .nil)))))),(8,(.st (.cons (.int .i64) (.cons (.int .i64) (.cons .bool (.cons (.int .u8) .nil)))))),(9, .str),(10, .str),(11, .str),(12,(.int .u64)),(13,(.st (.cons .str (.cons (.int .u64) .nil)))),(14,(.st (.cons .str (.cons (.int .u64) .nil)))),(21,(.int .i32)),(22,(.sl (.int .u8))),(24,(.sl (.sl dk))),(25,(.sl jM)),(26,(.sl dZ)),(27,(.sl dU)),(28,(.sl dU)),(29,(.sl (.int .i64))),(30,(.st (.cons (.int .i64) (.cons (.int .i64) (.cons (.sl (.sl dk)) (.cons (.sl jM) (.cons (.sl dZ) (.cons (.sl dU) (.cons (.sl dU) (.cons (.sl (.int .i64)) (.cons (.sl (.int .i64)) .nil))))))))))),(31,(.st (.cons (.int .i64) (.cons (.int .i64) (.cons (.sl (.sl dk)) (.cons (.sl jM) (.cons (.sl dZ) (.cons (.sl dU) (.cons (.sl dU) (.cons (.sl (.int .i64)) (.cons (.sl (.int .i64)) .nil))))))))))),(36,dU),(37,dU),(38,jM),(39,jM),(44,(.sl .str)),(46,dZ),(47,dZ),(53,(.st (.cons (.sl (.int .u8)) (.cons (.int .i64) (.cons (.int .i64) .nil))))),(54,(.st (.cons (.sl (.int .u8)) (.cons (.int .i64) (.cons (.int .i64) .nil))))),(58,dU),(59,dU),(60,dU),(61,dU),(64,(.sl dk)),(81,dk),(82,dk),(91,(.sl (.st (.cons (.int .i64) (.cons (.int .i64) (.cons (.int .i64) (.cons (.int .i64) (.cons (.sl (.int .i64)) .nil)))))))),(92,(.st (.cons (.st (.cons (.int .i64) (.cons (.int .i64) (.cons (.sl (.sl dk)) (.cons (.sl jM) (.cons (.sl dZ) (.cons (.sl dU) (.cons (.sl dU) (.cons (.sl (.int .i64)) (.cons (.sl (.int .i64)) .nil)))))))))) (.cons (.sl (.st (.cons (.int .i64) (.cons (.int .i64) (.cons (.int .i64) (.cons (.int .i64) (.cons (.sl (.int .i64)) .nil))))))) .nil)))),(93,(.st (.cons (.st (.cons (.int .i64) (.cons (.int .i64) (.cons (.sl (.sl dk)) (.cons (.sl jM) (.cons (.sl dZ) (.cons (.sl dU) (.cons (.sl dU) (.cons (.sl (.int .i64)) (.cons (.sl (.int .i64)) .nil)))))))))) (.cons (.sl (.st (.cons (.int .i64) (.cons (.int .i64) (.cons (.int .i64) (.cons (.int .i64) (.cons (.sl (.int .i64)) .nil))))))) .nil)))),(97,(.int .u64)),(112,(.st (.cons (.int .i64) (.cons (.int .i64) (.cons (.int .i64) (.cons (.int .i64) (.cons (.sl (.int .i64)) .nil))))))),(113,(.st (.cons (.int .i64) (.cons (.int .i64) (.cons (.int .i64) (.cons (.int .i64) (.cons (.sl (.int .i64)) .nil))))))),(116,dk),(117,dk),(125,(.int .i64)),(134,(.int .u32)),(136,(.int .u64)),(148,(.int .u64)),(174,(.int .u8)),(175,(.int .u8)),(178,(.int .i32)),(179,(.int .i32))]
def T4:List Nat:=[82,47]
theorem ja:Ez Tryz.prog LJ=true:=by kernel_rfl
theorem Cj:T4.all (QN Tryz.prog)=true:=by kernel_rfl
theorem xR:Tryz.prog.follows .mixedOrders=true:=by kernel_rfl
abbrev QO (l:List bZ):Cx:=LZ LJ T4 l
def kOf:List (Nat×Nat)→Nat→Nat
 |[],_=>0
 |(k,x)::r,n=>bif k==n then x else kOf r n
abbrev cxZ (tb:List (Nat×Ty)) (z:List Nat) (o:List (Nat×Nat)) (l:List bZ):Cx:={ LZ tb T4 l with frz:=λn=>z.contains n,T5:=kOf o }
theorem VT {tb:List (Nat×Ty)} {z:List Nat} {o:List (Nat×Nat)} {l:List bZ} (h:Ez Tryz.prog tb=true):iF (cxZ tb z o l) Tryz.prog:=⟨(sq h Cj l).ty,(sq h Cj l).eqv⟩
theorem VU {K:bZ} {fn:Func} {code:Code} {rtm:List ResultVar} {A:Nat→Option aq} (l:List bZ) (hl:∀ K∈l,K.Ok Tryz.prog) (h:L0 Tryz.prog (QO l) K fn code rtm A) (Kl:K.vw=none:=by rfl):K.Ok Tryz.prog:=
 wi (sq ja Cj l) (xS l hl rfl) xR h Kl
def OkL:List bZ→Prop
 |[]=>True
 |K::r=>K.Ok Tryz.prog∧OkL r
theorem Ck:∀ {l:List bZ},OkL l→∀ K∈l,K.Ok Tryz.prog
 |[],_,_,h=>by cases h
 |K::r,hl,K',h=>by
  rcases abF.1 h with rfl|h
  . exact hl.1
  . exact Ck hl.2 K' h
abbrev bo (l:List bZ) (A:Nat→Option aq) (fn:Func) (K:bZ) (rtm:List ResultVar) (x:au K.aJ):Out (au K.rs×gA K.aJ):=Cl (QO l) A (codeOf fn) K.aJ K.lay fn.ntmps K.rs rtm x
theorem aO {K:bZ} {fn:Func} {rtm:List ResultVar} {A:Nat→Option aq} {T:au K.aJ→Out (au K.rs×gA K.aJ)} (l:List bZ) (hl:OkL l) (he:∀ x,bo l A fn K rtm x=T x) (hr:∀ x,aD K.aJ x→∀ y,(K.F x).eval=some y→(T x).eval=some y) (h1:Tryz.prog.funcs[K.f]? =some fn:=by kernel_rfl) (h2:fn.body=some (codeOf fn):=by exact pR (by kernel_rfl))
  (h3:(fn.name== "runtime.NumGoroutine")=false:=by kernel_rfl) (h4:fn.results=rtm.toArray:=by kernel_rfl) (h5:(decide (rtm.length≤6)&&decide (mH K.aJ 0≤64)&&K.rs.all λit=>decide (0<it.cs.length))=true:=by kernel_rfl) (Kl:K.vw=none:=by rfl):K.Ok Tryz.prog:=by
 rw [aa4,aa4] at h5;exact VU l (Ck hl) ⟨h1,h2,h3,h4,abJ h5.1.1,abJ h5.1.2,h5.2,λx y hw hy=>(congrArg Out.eval (he x)).trans (hr x hw y hy)⟩ Kl
abbrev boZ (tb:List (Nat×Ty)) (z:List Nat) (o:List (Nat×Nat)) (l:List bZ) (A:Nat→Option aq) (fn:Func) (K:bZ) (rtm:List ResultVar) (x:au K.aJ):Out (au K.rs×gA K.aJ):=Cl (cxZ tb z o l) A (codeOf fn) K.aJ K.lay fn.ntmps K.rs rtm x
theorem QP {K:bZ} {fn:Func} {rtm:List ResultVar} {A:Nat→Option aq} {T:au K.aJ→Out (au K.rs×gA K.aJ)} {tb:List (Nat×Ty)} {z:List Nat} {o:List (Nat×Nat)} (ht:Ez Tryz.prog tb=true) (l:List bZ) (hl:OkL l) (he:∀ x,boZ tb z o l A fn K rtm x=T x) (hr:∀ x,aD K.aJ x→∀ y,(K.F x).eval=some y→(T x).eval=some y) (h1:Tryz.prog.funcs[K.f]? =some fn:=by kernel_rfl) (h2:fn.body=some (codeOf fn):=by exact pR (by kernel_rfl))
  (h3:(fn.name== "runtime.NumGoroutine")=false:=by kernel_rfl) (h4:fn.results=rtm.toArray:=by kernel_rfl) (h5:(decide (rtm.length≤6)&&decide (mH K.aJ 0≤64)&&K.rs.all λit=>decide (0<it.cs.length))=true:=by kernel_rfl) (Kl:K.vw=none:=by rfl):K.Ok Tryz.prog:=by
 rw [aa4,aa4] at h5;exact wi (VT ht) (xS l (Ck hl) rfl) xR ⟨h1,h2,h3,h4,abJ h5.1.1,abJ h5.1.2,h5.2,λx y hw hy=>(congrArg Out.eval (he x)).trans (hr x hw y hy)⟩ Kl
theorem QQ {ρ:Type} (o:Option ρ):(Out.get o λy=> .ret y).eval=o:=by cases o<;>rfl
def dD (f:Nat) (lend:Bool) (aJ:List Item) (lay:Km) (rs:List Item) (t:au aJ→Out (au rs×gA aJ)):bZ:={ f:=f,lend:=lend,aJ:=aJ,lay:=lay,rs:=rs,F:=λx=> .get (t x).eval λy=> .ret y }
theorem cb {f:Nat} {lend:Bool} {aJ:List Item} {lay:Km} {rs:List Item} {t:au aJ→Out (au rs×gA aJ)} {tb:List (Nat×Ty)} (ht:Ez Tryz.prog tb=true) (z:List Nat) (o:List (Nat×Nat)) (l:List bZ) (hl:OkL l) (A:Nat→Option aq) (fn:Func) (rtm:List ResultVar)
  (he:∀ x,boZ tb z o l A fn (dD f lend aJ lay rs t) rtm x=t x) (h1:Tryz.prog.funcs[f]? =some fn:=by kernel_rfl) (h2:fn.body=some (codeOf fn):=by exact pR (by kernel_rfl))
  (h3:(fn.name== "runtime.NumGoroutine")=false:=by kernel_rfl) (h4:fn.results=rtm.toArray:=by kernel_rfl) (h5:(decide (rtm.length≤6)&&decide (mH aJ 0≤64)&&rs.all λit=>decide (0<it.cs.length))=true:=by kernel_rfl):(dD f lend aJ lay rs t).Ok Tryz.prog:=
 QP ht l hl he (λ_ _ _ hy=>(QQ _).symm.trans hy) h1 h2 h3 h4 h5 rfl
end Go.Proofs.YtnlleofnjkeimaaGreatDoor.Dm
