/- The types of the program, as the data machine knows them. -/
import Derived.Test.YtohagdoklnkljaaGreatProg
import Derived.Test.YtohagdoklnkljaaGreatM4
namespace Go.Proofs.YtohagdoklnkljaaGreat.Dm
open Go
abbrev I0:Ty:=(.st (.cons (.int .i64) (.cons (.int .i64) (.cons (.int .i64) (.cons (.int .i64) (.cons (.st (.cons (.int .i64) (.cons .hole .nil))) (.cons .hole (.cons .hole (.cons (.int .i64) (.cons (.int .i64) .nil))))))))))
abbrev ld:Ty:=(.st (.cons (.int .i64) (.cons (.int .i64) (.cons (.int .i64) (.cons (.int .i64) (.cons (.fz (.int .i64)) .nil))))))
abbrev bW:Ty:=(.st (.cons (.int .i64) (.cons (.fz (.int .i64)) .nil)))
abbrev eM:Ty:=(.st (.cons (.int .i64) (.cons (.int .i64) (.cons (.int .i64) (.cons (.int .i64) (.cons (.st (.cons (.int .i64) (.cons (.fz (.int .i64)) .nil))) (.cons (.sl (.int .i64)) (.cons (.sl (.int .i64)) (.cons (.int .i64) (.cons (.int .i64) .nil))))))))))
abbrev ck:Ty:=(.st (.cons (.int .i64) (.cons (.sl (.int .i64)) .nil)))
abbrev b8:Ty:=(.st (.cons (.int .i64) (.cons (.int .i64) (.cons (.int .i64) (.cons (.int .i64) .nil)))))
abbrev cH:Ty:=(.st (.cons (.int .i64) (.cons (.int .i64) (.cons (.int .i64) (.cons (.int .i64) (.cons (.int .i64) .nil))))))
abbrev jr:Ty:=(.st (.cons (.int .i64) (.cons (.int .i64) (.cons (.int .i64) (.cons (.int .i64) (.cons (.st (.cons (.int .i64) (.cons (.sl (.int .i64)) .nil))) (.cons (.sl (.int .i64)) (.cons (.sl (.int .i64)) (.cons (.int .i64) (.cons (.int .i64) .nil))))))))))
abbrev br:Ty:= .int .i64
abbrev XE:Type:=List Int×Int×Int×Unit
abbrev XI:Type:=Unit×Unit×Unit
abbrev XM:Type:=Int×Int×Int×Int×Int×List Int×List Int×XE
abbrev XS:Type:=List (Int×Int×Int×Int×(Int×List Int×Unit)×List Int×List Int×Int×Int×Unit)×Int×Int×Unit
abbrev dd (n:Nat):List Slot:=List.replicate n .dead
def KV:List (Nat×Ty):=[(2,(.int .i64)),(3,(.int .i64)),(4, .bool),(5,(.int .u8)),(6,(.int .u8)),(7,(.st (.cons (.int .i64) (.cons (.int .i64) (.cons .bool (.cons (.int .u8) .nil)))))),(8,(.st (.cons (.int .i64) (.cons (.int .i64) (.cons .bool (.cons (.int .u8) .nil)))))),(9, .str),(10, .str),(11, .str),(12,(.int .u64)),(13,(.st (.cons .str (.cons (.int .u64) .nil)))),(14,(.st (.cons .str (.cons (.int .u64) .nil)))),(21,(.int .i32)),(22,(.sl (.int .u8))),(24,(.sl (.sl b8))),(25,(.sl jr)),(26,(.sl cH)),(27,(.sl ck)),(28,(.sl ck)),(29,(.sl (.int .i64))),(30,(.st (.cons (.int .i64) (.cons (.int .i64) (.cons (.sl (.sl b8)) (.cons (.sl jr) (.cons (.sl cH) (.cons (.sl ck) (.cons (.sl ck) (.cons (.sl (.int .i64)) (.cons (.sl (.int .i64)) .nil))))))))))),(31,(.st (.cons (.int .i64) (.cons (.int .i64) (.cons (.sl (.sl b8)) (.cons (.sl jr) (.cons (.sl cH) (.cons (.sl ck) (.cons (.sl ck) (.cons (.sl (.int .i64)) (.cons (.sl (.int .i64)) .nil))))))))))),(32,(.st (.cons (.int .i64) (.cons (.int .i64) (.cons (.int .i64) (.cons (.int .i64) (.cons (.sl (.int .i64)) .nil))))))),(33,(.st (.cons (.int .i64) (.cons (.int .i64) (.cons (.int .i64) (.cons (.int .i64) (.cons (.sl (.int .i64)) .nil))))))),(39,(.sl (.st (.cons (.int .i64) (.cons (.int .i64) (.cons (.int .i64) (.cons (.int .i64) (.cons (.sl (.int .i64)) .nil)))))))),(47,ck),(48,ck),(49,jr),(50,jr),(56,(.sl (.sl b8))),(57,(.sl jr)),(58,(.sl cH)),(59,(.sl ck)),(60,(.sl ck)),(61,(.st (.cons (.int .i64) (.cons (.int .i64) (.cons (.sl (.sl b8)) (.cons (.sl jr) (.cons (.sl cH) (.cons (.sl ck) (.cons (.sl ck) (.cons (.sl (.int .i64)) (.cons (.sl (.int .i64)) .nil))))))))))),(62,(.st (.cons (.int .i64) (.cons (.int .i64) (.cons (.sl (.sl b8)) (.cons (.sl jr) (.cons (.sl cH) (.cons (.sl ck) (.cons (.sl ck) (.cons (.sl (.int .i64)) (.cons (.sl (.int .i64)) .nil))))))))))),(75,(.sl b8)),(77,cH),(78,cH),(79,ck),(80,ck),(90,(.st (.cons (.st (.cons (.int .i64) (.cons (.int .i64) (.cons (.sl (.sl b8)) (.cons (.sl jr) (.cons (.sl cH) (.cons (.sl ck) (.cons (.sl ck) (.cons (.sl (.int .i64)) (.cons (.sl (.int .i64)) .nil)))))))))) (.cons (.sl (.st (.cons (.int .i64) (.cons (.int .i64) (.cons (.int .i64) (.cons (.int .i64) (.cons (.sl (.int .i64)) .nil))))))) .nil)))),(91,(.st (.cons (.st (.cons (.int .i64) (.cons (.int .i64) (.cons (.sl (.sl b8)) (.cons (.sl jr) (.cons (.sl cH) (.cons (.sl ck) (.cons (.sl ck) (.cons (.sl (.int .i64)) (.cons (.sl (.int .i64)) .nil)))))))))) (.cons (.sl (.st (.cons (.int .i64) (.cons (.int .i64) (.cons (.int .i64) (.cons (.int .i64) (.cons (.sl (.int .i64)) .nil))))))) .nil)))),(93,b8),(94,b8),(101,(.st (.cons (.int .i64) (.cons ck (.cons (.int .i64) (.cons (.int .i64) .nil)))))),(102,(.st (.cons (.int .i64) (.cons ck (.cons (.int .i64) (.cons (.int .i64) .nil)))))),(124,(.st (.cons (.sl (.int .u8)) (.cons (.int .i64) (.cons (.int .i64) .nil))))),(125,(.st (.cons (.sl (.int .u8)) (.cons (.int .i64) (.cons (.int .i64) .nil))))),(127,ck),(128,ck),(137,b8),(138,b8),(153,(.st (.cons (.st (.cons (.int .i64) (.cons (.int .i64) (.cons (.sl (.sl b8)) (.cons (.sl jr) (.cons (.sl cH) (.cons (.sl ck) (.cons (.sl ck) (.cons (.sl (.int .i64)) (.cons (.sl (.int .i64)) .nil)))))))))) (.cons (.sl (.st (.cons (.int .i64) (.cons (.int .i64) (.cons (.int .i64) (.cons (.int .i64) (.cons (.sl (.int .i64)) .nil))))))) .nil)))),(154,(.st (.cons (.st (.cons (.int .i64) (.cons (.int .i64) (.cons (.sl (.sl b8)) (.cons (.sl jr) (.cons (.sl cH) (.cons (.sl ck) (.cons (.sl ck) (.cons (.sl (.int .i64)) (.cons (.sl (.int .i64)) .nil)))))))))) (.cons (.sl (.st (.cons (.int .i64) (.cons (.int .i64) (.cons (.int .i64) (.cons (.int .i64) (.cons (.sl (.int .i64)) .nil))))))) .nil)))),(163,(.sl b8)),(165,ck),(166,jr),(167,jr),(169,ck),(171,ck),(175,cH),(201,(.int .u64)),(226,b8),(244,(.int .u32)),(247,(.int .u64)),(251,(.int .i64)),(266,(.int .u64)),(281,(.int .u8)),(282,(.int .u8)),(285,(.int .i32)),(286,(.int .i32))]
def Ui:List Nat:=[138,78]
theorem eo:BU Tryz.prog KV=true:=by kernel_rfl
theorem pK:Ui.all (UA Tryz.prog)=true:=by kernel_rfl
theorem nn:Tryz.prog.follows .mixedOrders=true:=by kernel_rfl
abbrev Gz (l:List bM):Cx:=GA KV Ui l
def kOf:List (Nat×Nat)→Nat→Nat
 |[],_=>0
 |(k,x)::r,n=>bif k==n then x else kOf r n
abbrev cxZ (tb:List (Nat×Ty)) (z:List Nat) (o:List (Nat×Nat)) (l:List bM):Cx:={ GA tb Ui l with frz:=fun n=>z.contains n,ZQ:=kOf o }
theorem aaZ {tb:List (Nat×Ty)} {z:List Nat} {o:List (Nat×Nat)} {l:List bM} (h:BU Tryz.prog tb=true):iT (cxZ tb z o l) Tryz.prog:=⟨(kG h pK l).ty,(kG h pK l).eqv⟩
theorem aa0 {K:bM} {fn:Func} {code:Code} {rtm:List ResultVar} {A:Nat→Option aq} (l:List bM) (hl:∀ K∈l,K.Ok Tryz.prog) (h:Pd Tryz.prog (Gz l) K fn code rtm A) (NF:K.vw=none:=by rfl):K.Ok Tryz.prog:=
 xL (kG eo pK l) (nq l hl rfl) nn h NF
def OkL:List bM→Prop
 |[]=>True
 |K::r=>K.Ok Tryz.prog∧OkL r
theorem DT:∀ {l:List bM},OkL l→∀ K∈l,K.Ok Tryz.prog
 |[],_,_,h=>by cases h
 |K::r,hl,K',h=>by
  rcases abE.1 h with rfl|h
  . exact hl.1
  . exact DT hl.2 K' h
abbrev bo (l:List bM) (A:Nat→Option aq) (fn:Func) (K:bM) (rtm:List ResultVar) (x:az K.aK):Out (az K.rs×gN K.aK):=DU (Gz l) A (js fn) K.aK K.lay fn.ntmps K.rs rtm x
theorem aU {K:bM} {fn:Func} {rtm:List ResultVar} {A:Nat→Option aq} {T:az K.aK→Out (az K.rs×gN K.aK)} (l:List bM) (hl:OkL l) (he:∀ x,bo l A fn K rtm x=T x) (hr:∀ x,aD K.aK x→∀ y,(K.F x).eval=some y→(T x).eval=some y) (h1:Tryz.prog.funcs[K.f]? =some fn:=by kernel_rfl) (h2:fn.body=some (js fn):=by exact ka (by kernel_rfl))
  (h3:(fn.name== "runtime.NumGoroutine")=false:=by kernel_rfl) (h4:fn.results=rtm.toArray:=by kernel_rfl) (h5:(decide (rtm.length≤6)&&decide (nr K.aK 0≤64)&&K.rs.all fun it=>decide (0<it.cs.length))=true:=by kernel_rfl) (NF:K.vw=none:=by rfl):K.Ok Tryz.prog:=by
 rw [aaE,aaE] at h5;exact aa0 l (DT hl) ⟨h1,h2,h3,h4,abH h5.1.1,abH h5.1.2,h5.2,fun x y hw hy=>(congrArg Out.eval (he x)).trans (hr x hw y hy)⟩ NF
abbrev boZ (tb:List (Nat×Ty)) (z:List Nat) (o:List (Nat×Nat)) (l:List bM) (A:Nat→Option aq) (fn:Func) (K:bM) (rtm:List ResultVar) (x:az K.aK):Out (az K.rs×gN K.aK):=DU (cxZ tb z o l) A (js fn) K.aK K.lay fn.ntmps K.rs rtm x
theorem UB {K:bM} {fn:Func} {rtm:List ResultVar} {A:Nat→Option aq} {T:az K.aK→Out (az K.rs×gN K.aK)} {tb:List (Nat×Ty)} {z:List Nat} {o:List (Nat×Nat)} (ht:BU Tryz.prog tb=true) (l:List bM) (hl:OkL l) (he:∀ x,boZ tb z o l A fn K rtm x=T x) (hr:∀ x,aD K.aK x→∀ y,(K.F x).eval=some y→(T x).eval=some y) (h1:Tryz.prog.funcs[K.f]? =some fn:=by kernel_rfl) (h2:fn.body=some (js fn):=by exact ka (by kernel_rfl))
  (h3:(fn.name== "runtime.NumGoroutine")=false:=by kernel_rfl) (h4:fn.results=rtm.toArray:=by kernel_rfl) (h5:(decide (rtm.length≤6)&&decide (nr K.aK 0≤64)&&K.rs.all fun it=>decide (0<it.cs.length))=true:=by kernel_rfl) (NF:K.vw=none:=by rfl):K.Ok Tryz.prog:=by
 rw [aaE,aaE] at h5;exact xL (aaZ ht) (nq l (DT hl) rfl) nn ⟨h1,h2,h3,h4,abH h5.1.1,abH h5.1.2,h5.2,fun x y hw hy=>(congrArg Out.eval (he x)).trans (hr x hw y hy)⟩ NF
theorem UC {ρ:Type} (o:Option ρ):(Out.get o fun y=> .ret y).eval=o:=by cases o<;>rfl
def cw (f:Nat) (lend:Bool) (aK:List Item) (lay:NG) (rs:List Item) (t:az aK→Out (az rs×gN aK)):bM:={ f:=f,lend:=lend,aK:=aK,lay:=lay,rs:=rs,F:=fun x=> .get (t x).eval fun y=> .ret y }
theorem bA {f:Nat} {lend:Bool} {aK:List Item} {lay:NG} {rs:List Item} {t:az aK→Out (az rs×gN aK)} {tb:List (Nat×Ty)} (ht:BU Tryz.prog tb=true) (z:List Nat) (o:List (Nat×Nat)) (l:List bM) (hl:OkL l) (A:Nat→Option aq) (fn:Func) (rtm:List ResultVar)
  (he:∀ x,boZ tb z o l A fn (cw f lend aK lay rs t) rtm x=t x) (h1:Tryz.prog.funcs[f]? =some fn:=by kernel_rfl) (h2:fn.body=some (js fn):=by exact ka (by kernel_rfl))
  (h3:(fn.name== "runtime.NumGoroutine")=false:=by kernel_rfl) (h4:fn.results=rtm.toArray:=by kernel_rfl) (h5:(decide (rtm.length≤6)&&decide (nr aK 0≤64)&&rs.all fun it=>decide (0<it.cs.length))=true:=by kernel_rfl):(cw f lend aK lay rs t).Ok Tryz.prog:=
 UB ht l hl he (fun _ _ _ hy=>(UC _).symm.trans hy) h1 h2 h3 h4 h5 rfl
end Go.Proofs.YtohagdoklnkljaaGreat.Dm
