/- f -/
import Derived.Test.YtohagdoklnkljaaGreatJ8
namespace Go.Proofs.YtohagdoklnkljaaGreat.Dm
open Go Go.ChangeShapes Go.WideShapes Go.ChangeAt Go.RowKit
def am1:List (Nat×Ty):=[(24,(.sl (.fz b8))),(25,(.sl eM)),(27,(.sl bW)),(28,(.sl bW)),(30,(.st (.cons br (.cons br (.cons (.sl (.fz b8)) (.cons (.sl eM) (.cons (.sl cH) (.cons (.sl bW) (.cons (.sl bW) (.cons (.sl br) (.cons (.sl br) .nil))))))))))),(31,(.st (.cons br (.cons br (.cons (.sl (.fz b8)) (.cons (.sl eM) (.cons (.sl cH) (.cons (.sl bW) (.cons (.sl bW) (.cons (.sl br) (.cons (.sl br) .nil))))))))))),(32,ld),(33,ld),(39,(.sl ld)),(47,bW),(48,bW),(49,eM),(50,eM),(56,(.sl (.fz b8))),(57,(.sl eM)),(59,(.sl bW)),(60,(.sl bW)),(61,(.st (.cons br (.cons br (.cons (.sl (.fz b8)) (.cons (.sl eM) (.cons (.sl cH) (.cons (.sl bW) (.cons (.sl bW) (.cons (.sl br) (.cons (.sl br) .nil))))))))))),(62,(.st (.cons br (.cons br (.cons (.sl (.fz b8)) (.cons (.sl eM) (.cons (.sl cH) (.cons (.sl bW) (.cons (.sl bW) (.cons (.sl br) (.cons (.sl br) .nil))))))))))),(79,bW),(80,bW),(90,(.st (.cons (.st (.cons br (.cons br (.cons (.sl (.fz b8)) (.cons (.sl eM) (.cons (.sl cH) (.cons (.sl bW) (.cons (.sl bW) (.cons (.sl br) (.cons (.sl br) .nil)))))))))) (.cons (.sl ld) .nil)))),(91,(.st (.cons (.st (.cons br (.cons br (.cons (.sl (.fz b8)) (.cons (.sl eM) (.cons (.sl cH) (.cons (.sl bW) (.cons (.sl bW) (.cons (.sl br) (.cons (.sl br) .nil)))))))))) (.cons (.sl ld) .nil)))),(101,(.st (.cons br (.cons bW (.cons br (.cons br .nil)))))),(102,(.st (.cons br (.cons bW (.cons br (.cons br .nil)))))),(127,bW),(128,bW),(153,(.st (.cons (.st (.cons br (.cons br (.cons (.sl (.fz b8)) (.cons (.sl eM) (.cons (.sl cH) (.cons (.sl bW) (.cons (.sl bW) (.cons (.sl br) (.cons (.sl br) .nil)))))))))) (.cons (.sl ld) .nil)))),(154,(.st (.cons (.st (.cons br (.cons br (.cons (.sl (.fz b8)) (.cons (.sl eM) (.cons (.sl cH) (.cons (.sl bW) (.cons (.sl bW) (.cons (.sl br) (.cons (.sl br) .nil)))))))))) (.cons (.sl ld) .nil)))),(165,bW),(166,eM),(167,eM),(169,bW),(171,bW)]++KV
theorem bF:BU Tryz.prog am1=true:=by kernel_rfl
def aa9:List (Nat×Ty):=[(24,(.sl (.fz b8))),(25,(.sl I0)),(27,(.sl bW)),(28,(.sl bW)),(30,(.st (.cons br (.cons br (.cons (.sl (.fz b8)) (.cons (.sl eM) (.cons (.sl cH) (.cons (.sl bW) (.cons (.sl bW) (.cons (.sl br) (.cons (.sl br) .nil))))))))))),(31,(.st (.cons br (.cons br (.cons (.sl (.fz b8)) (.cons (.sl eM) (.cons (.sl cH) (.cons (.sl bW) (.cons (.sl bW) (.cons (.sl br) (.cons (.sl br) .nil))))))))))),(32,ld),(33,ld),(39,(.sl ld)),(47,bW),(48,bW),(49,I0),(50,I0),(56,(.sl (.fz b8))),(57,(.sl I0)),(59,(.sl bW)),(60,(.sl bW)),(61,(.st (.cons br (.cons br (.cons (.sl (.fz b8)) (.cons (.sl eM) (.cons (.sl cH) (.cons (.sl bW) (.cons (.sl bW) (.cons (.sl br) (.cons (.sl br) .nil))))))))))),(62,(.st (.cons br (.cons br (.cons (.sl (.fz b8)) (.cons (.sl eM) (.cons (.sl cH) (.cons (.sl bW) (.cons (.sl bW) (.cons (.sl br) (.cons (.sl br) .nil))))))))))),(79,bW),(80,bW),(90,(.st (.cons (.st (.cons br (.cons br (.cons (.sl (.fz b8)) (.cons (.sl eM) (.cons (.sl cH) (.cons (.sl bW) (.cons (.sl bW) (.cons (.sl br) (.cons (.sl br) .nil)))))))))) (.cons (.sl ld) .nil)))),(91,(.st (.cons (.st (.cons br (.cons br (.cons (.sl (.fz b8)) (.cons (.sl eM) (.cons (.sl cH) (.cons (.sl bW) (.cons (.sl bW) (.cons (.sl br) (.cons (.sl br) .nil)))))))))) (.cons (.sl ld) .nil)))),(101,(.st (.cons br (.cons bW (.cons br (.cons br .nil)))))),(102,(.st (.cons br (.cons bW (.cons br (.cons br .nil)))))),(127,bW),(128,bW),(153,(.st (.cons (.st (.cons br (.cons br (.cons (.sl (.fz b8)) (.cons (.sl eM) (.cons (.sl cH) (.cons (.sl bW) (.cons (.sl bW) (.cons (.sl br) (.cons (.sl br) .nil)))))))))) (.cons (.sl ld) .nil)))),(154,(.st (.cons (.st (.cons br (.cons br (.cons (.sl (.fz b8)) (.cons (.sl eM) (.cons (.sl cH) (.cons (.sl bW) (.cons (.sl bW) (.cons (.sl br) (.cons (.sl br) .nil)))))))))) (.cons (.sl ld) .nil)))),(165,bW),(166,I0),(167,I0),(169,bW),(171,bW)]++KV
theorem KZ:BU Tryz.prog aa9=true:=by kernel_rfl
abbrev i0:Item:=⟨false,false,[.own br]⟩
abbrev i1:Item:=⟨false,false,[.i .i64]⟩
abbrev i2:Item:=⟨false,false,[.own (.fz b8)]⟩
abbrev i3:Item:=⟨false,false,[.ro (.fz b8)]⟩
abbrev i4:Item:=⟨false,true,[.i .i64, .i .i64, .own (.fz b8), .own eM, .own cH, .own bW, .own bW, .own br, .own br]⟩
abbrev i5:Item:=⟨false,true,[.i .i64, .i .i64, .ro (.fz b8), .ro eM, .ro cH, .ro bW, .ro bW, .ro br, .ro br]⟩
abbrev i6:Item:=⟨false,true,[.i .i64, .i .i64, .i .i64, .i .i64]⟩
abbrev i7:Item:=⟨false,true,[.i .i64, .own br]⟩
abbrev i8:Item:=⟨false,false,[.ro b8]⟩
abbrev i9:Item:=⟨false,false,[.ro br]⟩
abbrev i10:Item:=⟨false,false,[.b]⟩
abbrev i11:Item:=⟨false,true,[.i .i64, .i .i64, .ro (.sl b8), .ro jr, .ro cH, .ro ck, .ro ck, .ro br, .ro br]⟩
abbrev i12:Item:=⟨false,true,[.i .i64, .i .i64, .i .i64, .i .i64, .ro br]⟩
abbrev i13:Item:=⟨false,true,[.i .i64, .i .i64, .own (.fz b8), .own eM, .own cH, .own bW, .own bW, .own br, .own br, .own ld]⟩
abbrev i14:Item:=⟨false,true,[.i .i64, .ro br]⟩
abbrev i15:Item:=⟨false,true,[.i .i64, .i .i64, .i .i64, .i .i64, .i .i64, .ro br, .ro br, .ro br, .i .i64, .i .i64]⟩
abbrev i16:Item:=⟨false,true,[.i .i64, .i .i64, .i .i64, .i .i64, .i .i64]⟩
abbrev i17:Item:=⟨true,false,[.ro (.int .u8), .i .i64, .i .i64]⟩
abbrev i18:Item:=⟨false,false,[.own b8]⟩
abbrev i19:Item:=⟨false,false,[.ro (.int .u8)]⟩
abbrev i20:Item:=⟨false,false,[.own ck]⟩
abbrev i21:Item:=⟨false,false,[.ro ck]⟩
abbrev i22:Item:=⟨false,false,[.own (.sl b8)]⟩
abbrev i23:Item:=⟨false,false,[.ro (.sl b8)]⟩
abbrev i24:Item:=⟨true,false,[.i .i64, .i .i64, .own (.sl b8), .own eM, .own cH, .own ck, .own ck, .own br, .own br]⟩
abbrev i26:Item:=⟨false,true,[.i .i64, .i .i64, .own (.sl b8), .own eM, .own cH, .own ck, .own ck, .own br, .own br]⟩
abbrev i27:Item:=⟨false,true,[.i .i64, .i .i64, .ro (.sl b8), .ro eM, .ro cH, .ro ck, .ro ck, .ro br, .ro br]⟩
abbrev i28:Item:=⟨false,false,[.ro ld]⟩
abbrev i29:Item:=⟨true,false,[.i .i64, .i .i64, .own (.sl b8), .own eM, .own cH, .own ck, .own ck, .own br, .own br, .own ld]⟩
abbrev i30:Item:=⟨false,false,[.ro (.st (.cons br (.cons br (.cons br (.cons br (.cons (.sl br) .nil))))))]⟩
abbrev i31:Item:=⟨false,false,[.ro jr]⟩
abbrev t0:Type:=List Int×Unit
abbrev t1:Type:=Int×Unit
abbrev t2:Type:=List (List (Int×Int×Int×Int×Unit))×Unit
abbrev t3:Type:=List (List (Int×Int×Int×Int×Unit))×Unit
abbrev t4:Type:=Int×Int×List (List (Int×Int×Int×Int×Unit))×List (Int×Int×Int×Int×(Int×List Int×Unit)×List Int×XE)×List (Int×Int×Int×Int×Int×Unit)×List (Int×List Int×Unit)×List (Int×List Int×Unit)×List Int×List Int×Unit
abbrev t5:Type:=Int×Int×List (List (Int×Int×Int×Int×Unit))×List (Int×Int×Int×Int×(Int×List Int×Unit)×List Int×XE)×List (Int×Int×Int×Int×Int×Unit)×List (Int×List Int×Unit)×List (Int×List Int×Unit)×List Int×List Int×Unit
abbrev t6:Type:=Int×Int×Int×Int×Unit
abbrev t7:Type:=Int×List Int×Unit
abbrev t8:Type:=List (Int×Int×Int×Int×Unit)×Unit
abbrev t9:Type:=List Int×Unit
abbrev t10:Type:=Bool×Unit
abbrev t11:Type:=Int×Int×List (List (Int×Int×Int×Int×Unit))×List (Int×Int×Int×Int×(Int×List Int×Unit)×List Int×XE)×List (Int×Int×Int×Int×Int×Unit)×List (Int×List Int×Unit)×List (Int×List Int×Unit)×List Int×List Int×Unit
abbrev t12:Type:=Int×Int×Int×Int×List Int×Unit
abbrev t13:Type:=Int×Int×List (List (Int×Int×Int×Int×Unit))×List (Int×Int×Int×Int×(Int×List Int×Unit)×List Int×XE)×List (Int×Int×Int×Int×Int×Unit)×List (Int×List Int×Unit)×List (Int×List Int×Unit)×List Int×List Int×List (Int×Int×Int×Int×List Int×Unit)×Unit
abbrev t14:Type:=Int×List Int×Unit
abbrev t15:Type:=Int×Int×Int×Int×Int×List Int×List Int×XE
abbrev t16:Type:=Int×Int×Int×Int×Int×Unit
abbrev b17:Type:=Int×Int×Unit
abbrev t17:Type:=List Int×Int×Int×Unit
abbrev t18:Type:=List (Int×Int×Int×Int×Unit)×Unit
abbrev t19:Type:=List Int×Unit
abbrev t20:Type:=List (Int×List Int×Unit)×Unit
abbrev t21:Type:=List (Int×List Int×Unit)×Unit
abbrev t22:Type:=List (List (Int×Int×Int×Int×Unit))×Unit
abbrev t23:Type:=List (List (Int×Int×Int×Int×Unit))×Unit
abbrev b24:Type:=Int×Int×List (List (Int×Int×Int×Int×Unit))×List (Int×Int×Int×Int×(Int×List Int×Unit)×List Int×XE)×List (Int×Int×Int×Int×Int×Unit)×List (Int×List Int×Unit)×List (Int×List Int×Unit)×List Int×List Int×Unit
abbrev t24:Type:=Int×Int×List (List (Int×Int×Int×Int×Unit))×List (Int×Int×Int×Int×(Int×List Int×Unit)×List Int×XE)×List (Int×Int×Int×Int×Int×Unit)×List (Int×List Int×Unit)×List (Int×List Int×Unit)×List Int×List Int×Unit
abbrev t26:Type:=Int×Int×List (List (Int×Int×Int×Int×Unit))×List (Int×Int×Int×Int×(Int×List Int×Unit)×List Int×XE)×List (Int×Int×Int×Int×Int×Unit)×List (Int×List Int×Unit)×List (Int×List Int×Unit)×List Int×List Int×Unit
abbrev t27:Type:=Int×Int×List (List (Int×Int×Int×Int×Unit))×List (Int×Int×Int×Int×(Int×List Int×Unit)×List Int×XE)×List (Int×Int×Int×Int×Int×Unit)×List (Int×List Int×Unit)×List (Int×List Int×Unit)×List Int×List Int×Unit
abbrev t28:Type:=List (Int×Int×Int×Int×List Int×Unit)×Unit
abbrev b29:Type:=Int×Int×List (List (Int×Int×Int×Int×Unit))×List (Int×Int×Int×Int×(Int×List Int×Unit)×List Int×XE)×List (Int×Int×Int×Int×Int×Unit)×List (Int×List Int×Unit)×List (Int×List Int×Unit)×List Int×List Int×List (Int×Int×Int×Int×List Int×Unit)×Unit
abbrev t29:Type:=Int×Int×List (List (Int×Int×Int×Int×Unit))×List (Int×Int×Int×Int×(Int×List Int×Unit)×List Int×XE)×List (Int×Int×Int×Int×Int×Unit)×List (Int×List Int×Unit)×List (Int×List Int×Unit)×List Int×List Int×List (Int×Int×Int×Int×List Int×Unit)×Unit
abbrev t30:Type:=List (Int×Int×Int×Int×List Int×Unit)×Unit
abbrev t31:Type:=List (Int×Int×Int×Int×(Int×List Int×Unit)×List Int×XE)×Unit
abbrev ajm:=(t0×Unit)×(Unit×Unit)
def aaX:t1×Unit→Out ajm
|(a0,_)=>
 .ite (decide (0≤a0.1∧a0.1≤a0.1∧a0.1≤(bV:Int)))
 (.ret ((((List.replicate (Int.toNat a0.1) (0:Int)),()),()),((),())))
 .fail
def pW (x:t1×Unit):=(aaX x).eval
def k95:bM:=cw 95 true [i1] [none] [i0] aaX
theorem EU:k95.Ok Tryz.prog:=bA eo [] [] [] trivial (fun _=>none) Tryz.f95 [.tmp 2] fun x=>by kernel_rfl
abbrev ZE:=(t2×Unit)×(Unit×Unit)
abbrev IW:=(Int×Unit)×(List (List aw)×List (List aw)×Unit)
def nG:IW→Out (Round IW ((Unit)×(List (List aw)×Unit)) Empty)
|((p0,_),p1,p2,_)=>
 .ite (decide (p0<((List.length p1:Nat):Int)))
 (.ite (decide (0≤p0∧p0<((List.length p1:Nat):Int)))
 (.get (nth p1 (Int.toNat p0)) fun y1=>
 .ite (decide (List.length ([]:List aw)+List.length y1≤bV))
 (.ite (decide (List.length p2+List.length ([(([]:List aw)++y1)]:List (List aw))≤bV))
 (.ret (.again (((IntKind.i64.wrap (p0+1)),()),(p1,(p2++([(([]:List aw)++y1)]:List (List aw))),()))))
 .fail)
 .fail)
 .fail)
 (.ret (.out ((),(p2,()))))
def zn:t2×Unit→Out ZE
|(a0,_)=>
 .get (b5 nG bn ((0,()),(a0.1,([]:List (List aw)),()))) fun y1=>
 .ret (((y1.2.1,()),()),((),()))
def Fx (x:t2×Unit):=(zn x).eval
abbrev BL:List (Nat×dT):=[(64000000, .arr (.fz b8))]
def ZF:Nat→Option aq:=fun n=>bU [(0,⟨⟨[.aP 64000000, .dead, .dead, .aP 64000001, .i .i64]++dd 17,[(64000000, .arr (.fz b8)),(64000001, .arr (.fz b8))]⟩,⟨[.dead, .dead, .dead, .aP 64000000]++dd 18,BL⟩,none,false⟩)] n
def aaY:bM:=cw 116 false [i2] [none] [i2] zn
theorem T4:aaY.Ok Tryz.prog:=bA bF [1287] [(1287,1)] [] trivial ZF Tryz.f116 [.tmp 2] fun x=>by kernel_rfl
abbrev afd:=(t2×Unit)×(Unit×Unit)
abbrev Np:=(List (List aw)×Int×Unit)×(List (List aw)×Unit)
def rB:Np→Out (Round Np ((Unit)×(List (List aw)×Unit)) Empty)
|((p0,p1,_),p2,_)=>
 .ite (decide (p1<((List.length p0:Nat):Int)))
 (.ite (decide (0≤p1))
 (.get (nth p0 (Int.toNat p1)) fun y1=>
 .ite (decide (List.length ([]:List aw)+List.length y1≤bV))
 (.ite (decide (List.length p2+List.length ([(([]:List aw)++y1)]:List (List aw))≤bV))
 (.ret (.again ((p0,(IntKind.i64.wrap (p1+1)),()),((p2++([(([]:List aw)++y1)]:List (List aw))),()))))
 .fail)
 .fail)
 .fail)
 (.ret (.out ((),(p2,()))))
def Fw:t3×Unit→Out afd
|(a0,_)=>
 .get (b5 rB bn ((a0.1,0,()),(([]:List (List aw)),()))) fun y1=>
 .ret (((y1.2.1,()),()),((),()))
def JW (x:t3×Unit):=(Fw x).eval
def afe:Nat→Option aq:=fun n=>bU [(0,⟨⟨[.ro (.fz b8) (some 0), .dead, .dead, .aP 64000000, .i .i64]++dd 17,BL⟩,⟨[.dead, .dead, .dead, .aP 64000000]++dd 18,BL⟩,none,false⟩)] n
def ajn:bM:=cw 116 false [i3] [none] [i2] Fw
theorem ZG:ajn.Ok Tryz.prog:=bA bF [1287] [(1287,1)] [] trivial afe Tryz.f116 [.tmp 2] fun x=>by kernel_rfl
abbrev aff:=(t4×Unit)×(Unit×Unit)
abbrev Nq:=(Int×Unit)×((Int×Int×Unit)×(Int×Int×Unit)×(Int×Int×Unit)×List af×List ah×List ag×List ag×List Int×List Int×List (List aw)×List af×List ah×List ag×List ag×List Int×List Int×List (List aw)×List af×Unit)
def rC:Nq→Out (Round Nq ((Unit)×((Int×Int×Unit)×(Int×Int×Unit)×(Int×Int×Unit)×List af×List ah×List ag×List ag×List Int×List Int×List (List aw)×List af×List ah×List ag×List ag×List Int×List Int×List (List aw)×List af×Unit)) Empty)
|((p0,_),(p1,p2,_),(p3,p4,_),(p5,p6,_),p7,p8,p9,cz,cE,dp,dh,du,cP,dG,dX,ep,eZ,fR,fZ,_)=>
 .ite (decide (p0<((List.length p7:Nat):Int)))
 (.ite (decide (0≤p0∧p0<((List.length p7:Nat):Int)))
 (.get (nth p7 (Int.toNat p0)) fun y1=>
 .get (et y1.1 y1.2.1 y1.2.2.1 y1.2.2.2.1 y1.2.2.2.2.1.1 y1.2.2.2.2.1.2.1 y1.2.2.2.2.2.1 y1.2.2.2.2.2.2.1 y1.2.2.2.2.2.2.2.1 y1.2.2.2.2.2.2.2.2.1) fun y2=>
 .ite (decide (List.length fZ+List.length ([(y2.1,y2.2.1,y2.2.2.1,y2.2.2.2.1,(y2.2.2.2.2.1,y2.2.2.2.2.2.1,()),y2.2.2.2.2.2.2.1,y2.2.2.2.2.2.2.2.1,y2.2.2.2.2.2.2.2.2.1,y2.2.2.2.2.2.2.2.2.2,())]:List af)≤bV))
 (.ret (.again (((IntKind.i64.wrap (p0+1)),()),((p1,p2,()),(p3,p4,()),(p5,p6,()),(List.set p7 (Int.toNat p0) y1),p8,p9,cz,cE,dp,dh,du,cP,dG,dX,ep,eZ,fR,(fZ++([(y2.1,y2.2.1,y2.2.2.1,y2.2.2.2.1,(y2.2.2.2.2.1,y2.2.2.2.2.2.1,()),y2.2.2.2.2.2.2.1,y2.2.2.2.2.2.2.2.1,y2.2.2.2.2.2.2.2.2.1,y2.2.2.2.2.2.2.2.2.2,())]:List af)),()))))
 .fail)
 .fail)
 (.ret (.out ((),((p1,p2,()),(p3,p4,()),(p5,p6,()),p7,p8,p9,cz,cE,dp,dh,du,cP,dG,dX,ep,eZ,fR,fZ,()))))
abbrev Nr:=(Int×Unit)×((Int×Int×Unit)×(Int×Int×Unit)×(Int×Int×Unit)×List af×List ah×List ag×List ag×List Int×List Int×List (List aw)×List af×List ah×List ag×List ag×List Int×List Int×List (List aw)×List af×List ah×List ag×Unit)
def rD:Nr→Out (Round Nr ((Unit)×((Int×Int×Unit)×(Int×Int×Unit)×(Int×Int×Unit)×List af×List ah×List ag×List ag×List Int×List Int×List (List aw)×List af×List ah×List ag×List ag×List Int×List Int×List (List aw)×List af×List ah×List ag×Unit)) Empty)
|((p0,_),(p1,p2,_),(p3,p4,_),(p5,p6,_),p7,p8,p9,cz,cE,dp,dh,du,cP,dG,dX,ep,eZ,fR,fZ,jm,lh,_)=>
 .ite (decide (p0<((List.length p9:Nat):Int)))
 (.ite (decide (0≤p0∧p0<((List.length p9:Nat):Int)))
 (.get (nth p9 (Int.toNat p0)) fun y1=>
 .ite (decide (0≤p0∧p0<((List.length p9:Nat):Int)))
 (.get (nth p9 (Int.toNat p0)) fun y2=>
 .ite (decide (List.length ([]:List Int)+List.length y2.2.1≤bV))
 (.ite (decide (List.length lh+List.length ([(y1.1,(([]:List Int)++y2.2.1),())]:List ag)≤bV))
 (.ret (.again (((IntKind.i64.wrap (p0+1)),()),((p1,p2,()),(p3,p4,()),(p5,p6,()),p7,p8,p9,cz,cE,dp,dh,du,cP,dG,dX,ep,eZ,fR,fZ,jm,(lh++([(y1.1,(([]:List Int)++y2.2.1),())]:List ag)),()))))
 .fail)
 .fail)
 .fail)
 .fail)
 (.ret (.out ((),((p1,p2,()),(p3,p4,()),(p5,p6,()),p7,p8,p9,cz,cE,dp,dh,du,cP,dG,dX,ep,eZ,fR,fZ,jm,lh,()))))
abbrev Ns:=(Int×Unit)×((Int×Int×Unit)×(Int×Int×Unit)×(Int×Int×Unit)×List af×List ah×List ag×List ag×List Int×List Int×List (List aw)×List af×List ah×List ag×List ag×List Int×List Int×List (List aw)×List af×List ah×List ag×List ag×Unit)
def rE:Ns→Out (Round Ns ((Unit)×((Int×Int×Unit)×(Int×Int×Unit)×(Int×Int×Unit)×List af×List ah×List ag×List ag×List Int×List Int×List (List aw)×List af×List ah×List ag×List ag×List Int×List Int×List (List aw)×List af×List ah×List ag×List ag×Unit)) Empty)
|((p0,_),(p1,p2,_),(p3,p4,_),(p5,p6,_),p7,p8,p9,cz,cE,dp,dh,du,cP,dG,dX,ep,eZ,fR,fZ,jm,lh,od,_)=>
 .ite (decide (p0<((List.length cz:Nat):Int)))
 (.ite (decide (0≤p0∧p0<((List.length cz:Nat):Int)))
 (.get (nth cz (Int.toNat p0)) fun y1=>
 .ite (decide (0≤p0∧p0<((List.length cz:Nat):Int)))
 (.get (nth cz (Int.toNat p0)) fun y2=>
 .ite (decide (List.length ([]:List Int)+List.length y2.2.1≤bV))
 (.ite (decide (List.length od+List.length ([(y1.1,(([]:List Int)++y2.2.1),())]:List ag)≤bV))
 (.ret (.again (((IntKind.i64.wrap (p0+1)),()),((p1,p2,()),(p3,p4,()),(p5,p6,()),p7,p8,p9,cz,cE,dp,dh,du,cP,dG,dX,ep,eZ,fR,fZ,jm,lh,(od++([(y1.1,(([]:List Int)++y2.2.1),())]:List ag)),()))))
 .fail)
 .fail)
 .fail)
 .fail)
 (.ret (.out ((),((p1,p2,()),(p3,p4,()),(p5,p6,()),p7,p8,p9,cz,cE,dp,dh,du,cP,dG,dX,ep,eZ,fR,fZ,jm,lh,od,()))))
def Fy:t4×Unit→Out aff
|(a0,_)=>
 .get (Fx ((a0.2.2.1,()),())) fun ((eu,_),_)=>
 .get (b5 rC bn ((0,()),((a0.1,a0.2.1,()),(0,0,()),(a0.1,a0.2.1,()),a0.2.2.2.1,a0.2.2.2.2.1,a0.2.2.2.2.2.1,a0.2.2.2.2.2.2.1,a0.2.2.2.2.2.2.2.1,a0.2.2.2.2.2.2.2.2.1,([]:List (List aw)),([]:List af),([]:List ah),([]:List ag),([]:List ag),([]:List Int),([]:List Int),eu.1,([]:List af),()))) fun (_,(Jh,Ji,_),(Jj,Jk,_),(Eb,Jl,_),Jm,Ec,Jn,Jo,afg,afh,afi,afj,afk,afl,afm,afn,afo,afp,afq,_)=>
 .ite (decide (List.length ([]:List ah)+List.length Ec≤bV))
 (.get (b5 rD bn ((0,()),((Jh,Ji,()),(Jj,Jk,()),(Eb,Jl,()),Jm,Ec,Jn,Jo,afg,afh,afi,afj,afk,afl,afm,afn,afo,afp,afq,(([]:List ah)++Ec),([]:List ag),()))) fun (_,(NR,PU,_),(PV,PW,_),(PX,PY,_),PZ,P0,P1,P2,P3,P4,P5,P6,P7,P8,P9,Qa,Qb,Qc,Qd,Qe,afr,_)=>
 .get (b5 rE bn ((0,()),((NR,PU,()),(PV,PW,()),(PX,PY,()),PZ,P0,P1,P2,P3,P4,P5,P6,P7,P8,P9,Qa,Qb,Qc,Qd,Qe,afr,([]:List ag),()))) fun (_,_,_,(N4,N5,_),_,_,_,_,N6,N7,_,_,_,_,_,_,_,Rs,Rt,Ru,Rv,Rw,_)=>
 .ite (decide (List.length ([]:List Int)+List.length N6≤bV))
 (.ite (decide (List.length ([]:List Int)+List.length N7≤bV))
 (.ret (((N4,N5,Rs,Rt,Ru,Rv,Rw,(([]:List Int)++N6),(([]:List Int)++N7),()),()),((),())))
 .fail)
 .fail)
 .fail
def Fu (x:t4×Unit):=(Fy x).eval
abbrev Nt:List (Nat×dT):=[(64000000, .var [.i .i64, .i .i64, .jD, .aP 64000003, .aP 64000004, .aP 64000005, .aP 64000006, .aP 64000007, .aP 64000008]),(64000001, .var [.i .i64, .i .i64, .aP 64000009, .aP 64000010, .aP 64000011, .aP 64000012, .aP 64000013, .aP 64000014, .aP 64000015]),(64000002, .var [.i .i64, .i .i64, .aP 64000016, .aP 64000017, .aP 64000004, .aP 64000005, .aP 64000006, .aP 64000007, .aP 64000008]),(64000003, .arr eM),(64000004, .arr cH),(64000005, .arr bW),(64000006, .arr bW),(64000007, .arr br),(64000008, .arr br),(64000009, .arr (.fz b8)),(64000010, .arr eM),(64000011, .arr cH),(64000012, .arr bW),(64000013, .arr bW),(64000014, .arr br),(64000015, .arr br),(64000016, .arr (.fz b8)),(64000017, .arr eM)]
abbrev Nu:List (Nat×dT):=[(64000000, .var [.i .i64, .i .i64, .jD, .aP 64000003, .aP 64000004, .aP 64000005, .aP 64000006, .aP 64000007, .aP 64000008]),(64000001, .var [.i .i64, .i .i64, .aP 64000009, .aP 64000010, .aP 64000011, .aP 64000012, .aP 64000013, .aP 64000014, .aP 64000015]),(64000002, .var [.i .i64, .i .i64, .aP 64000016, .aP 64000017, .aP 64000018, .aP 64000019, .aP 64000006, .aP 64000007, .aP 64000008]),(64000003, .arr eM),(64000004, .arr cH),(64000005, .arr bW),(64000006, .arr bW),(64000007, .arr br),(64000008, .arr br),(64000009, .arr (.fz b8)),(64000010, .arr eM),(64000011, .arr cH),(64000012, .arr bW),(64000013, .arr bW),(64000014, .arr br),(64000015, .arr br),(64000016, .arr (.fz b8)),(64000017, .arr eM),(64000018, .arr cH),(64000019, .arr bW)]
abbrev Nv:List (Nat×dT):=[(64000000, .var [.i .i64, .i .i64, .jD, .aP 64000003, .aP 64000004, .aP 64000005, .aP 64000006, .aP 64000007, .aP 64000008]),(64000001, .var [.i .i64, .i .i64, .aP 64000009, .aP 64000010, .aP 64000011, .aP 64000012, .aP 64000013, .aP 64000014, .aP 64000015]),(64000002, .var [.i .i64, .i .i64, .aP 64000016, .aP 64000017, .aP 64000018, .aP 64000019, .aP 64000020, .aP 64000007, .aP 64000008]),(64000003, .arr eM),(64000004, .arr cH),(64000005, .arr bW),(64000006, .arr bW),(64000007, .arr br),(64000008, .arr br),(64000009, .arr (.fz b8)),(64000010, .arr eM),(64000011, .arr cH),(64000012, .arr bW),(64000013, .arr bW),(64000014, .arr br),(64000015, .arr br),(64000016, .arr (.fz b8)),(64000017, .arr eM),(64000018, .arr cH),(64000019, .arr bW),(64000020, .arr bW)]
def afs:Nat→Option aq:=fun n=>bU [(0,⟨⟨[.dead, .vptr 64000000 0, .vptr 64000001 0, .vptr 64000002 0, .i .i64]++dd 101,Nt⟩,⟨[.dead, .vptr 64000000 0, .vptr 64000001 0, .vptr 64000002 0]++dd 102,Nt⟩,none,false⟩),(2,⟨⟨[.dead, .vptr 64000000 0, .vptr 64000001 0, .vptr 64000002 0, .dead, .i .i64]++dd 100,Nu⟩,⟨[.dead, .vptr 64000000 0, .vptr 64000001 0, .vptr 64000002 0]++dd 102,Nu⟩,none,false⟩),(4,⟨⟨[.dead, .vptr 64000000 0, .vptr 64000001 0, .vptr 64000002 0, .dead, .dead, .i .i64]++dd 99,Nv⟩,⟨[.dead, .vptr 64000000 0, .vptr 64000001 0, .vptr 64000002 0]++dd 102,Nv⟩,none,false⟩)] n
def ads:bM:=cw 39 false [i4] [none] [i4] Fy
theorem LQ:ads.Ok Tryz.prog:=bA bF [1800,3344,4624] [(1799,1),(1800,32),(3344,1),(4624,1)] [aaY,B1] ⟨T4,zc,trivial⟩ afs Tryz.f39 [.cell 2 31] fun x=>by kernel_rfl
abbrev ajo:=(t4×Unit)×(Unit×Unit)
abbrev T5:=(Int×Unit)×(bw×(Int×Int×Unit)×(Int×Int×List ah×List ag×List ag×List Int×List Int×Unit)×List (List aw)×List af×List ah×List ag×List ag×List Int×List Int×List (List aw)×List af×Unit)
def xc:T5→Out (Round T5 ((Unit)×(bw×(Int×Int×Unit)×(Int×Int×List ah×List ag×List ag×List Int×List Int×Unit)×List (List aw)×List af×List ah×List ag×List ag×List Int×List Int×List (List aw)×List af×Unit)) Empty)
|((p0,_),(p1,p2,p3,p4,p5,p6,p7,p8,p9,_),(cz,cE,_),(dp,dh,du,cP,dG,dX,ep,_),eZ,fR,fZ,jm,lh,od,pN,D7,BM,_)=>
 .ite (decide (p0<((List.length p4:Nat):Int)))
 (.ite (decide (0≤p0))
 (.get (nth p4 (Int.toNat p0)) fun y1=>
 .get (et y1.1 y1.2.1 y1.2.2.1 y1.2.2.2.1 y1.2.2.2.2.1.1 y1.2.2.2.2.1.2.1 y1.2.2.2.2.2.1 y1.2.2.2.2.2.2.1 y1.2.2.2.2.2.2.2.1 y1.2.2.2.2.2.2.2.2.1) fun y2=>
 .ite (decide (List.length BM+List.length ([(y2.1,y2.2.1,y2.2.2.1,y2.2.2.2.1,(y2.2.2.2.2.1,y2.2.2.2.2.2.1,()),y2.2.2.2.2.2.2.1,y2.2.2.2.2.2.2.2.1,y2.2.2.2.2.2.2.2.2.1,y2.2.2.2.2.2.2.2.2.2,())]:List af)≤bV))
 (.ret (.again (((IntKind.i64.wrap (p0+1)),()),((p1,p2,p3,p4,p5,p6,p7,p8,p9,()),(cz,cE,()),(dp,dh,du,cP,dG,dX,ep,()),eZ,fR,fZ,jm,lh,od,pN,D7,(BM++([(y2.1,y2.2.1,y2.2.2.1,y2.2.2.2.1,(y2.2.2.2.2.1,y2.2.2.2.2.2.1,()),y2.2.2.2.2.2.2.1,y2.2.2.2.2.2.2.2.1,y2.2.2.2.2.2.2.2.2.1,y2.2.2.2.2.2.2.2.2.2,())]:List af)),()))))
 .fail)
 .fail)
 (.ret (.out ((),((p1,p2,p3,p4,p5,p6,p7,p8,p9,()),(cz,cE,()),(dp,dh,du,cP,dG,dX,ep,()),eZ,fR,fZ,jm,lh,od,pN,D7,BM,()))))
abbrev T6:=(Int×Unit)×(bw×(Int×Int×Unit)×(Int×Int×List ag×List Int×List Int×Unit)×List (List aw)×List af×List ah×List ag×List ag×List Int×List Int×List (List aw)×List af×List ah×List ag×Unit)
def xd:T6→Out (Round T6 ((Unit)×(bw×(Int×Int×Unit)×(Int×Int×List ag×List Int×List Int×Unit)×List (List aw)×List af×List ah×List ag×List ag×List Int×List Int×List (List aw)×List af×List ah×List ag×Unit)) Empty)
|((p0,_),(p1,p2,p3,p4,p5,p6,p7,p8,p9,_),(cz,cE,_),(dp,dh,du,cP,dG,_),dX,ep,eZ,fR,fZ,jm,lh,od,pN,D7,BM,_)=>
 .ite (decide (p0<((List.length p6:Nat):Int)))
 (.ite (decide (0≤p0))
 (.get (nth p6 (Int.toNat p0)) fun y1=>
 .ite (decide (0≤p0))
 (.get (nth p6 (Int.toNat p0)) fun y2=>
 .ite (decide (List.length ([]:List Int)+List.length y2.2.1≤bV))
 (.ite (decide (List.length BM+List.length ([(y1.1,(([]:List Int)++y2.2.1),())]:List ag)≤bV))
 (.ret (.again (((IntKind.i64.wrap (p0+1)),()),((p1,p2,p3,p4,p5,p6,p7,p8,p9,()),(cz,cE,()),(dp,dh,du,cP,dG,()),dX,ep,eZ,fR,fZ,jm,lh,od,pN,D7,(BM++([(y1.1,(([]:List Int)++y2.2.1),())]:List ag)),()))))
 .fail)
 .fail)
 .fail)
 .fail)
 (.ret (.out ((),((p1,p2,p3,p4,p5,p6,p7,p8,p9,()),(cz,cE,()),(dp,dh,du,cP,dG,()),dX,ep,eZ,fR,fZ,jm,lh,od,pN,D7,BM,()))))
abbrev T7:=(Int×Unit)×(bw×(Int×Int×Unit)×(Int×Int×List Int×List Int×Unit)×List (List aw)×List af×List ah×List ag×List ag×List Int×List Int×List (List aw)×List af×List ah×List ag×List ag×Unit)
def xe:T7→Out (Round T7 ((Unit)×(bw×(Int×Int×Unit)×(Int×Int×List Int×List Int×Unit)×List (List aw)×List af×List ah×List ag×List ag×List Int×List Int×List (List aw)×List af×List ah×List ag×List ag×Unit)) Empty)
|((p0,_),(p1,p2,p3,p4,p5,p6,p7,p8,p9,_),(cz,cE,_),(dp,dh,du,cP,_),dG,dX,ep,eZ,fR,fZ,jm,lh,od,pN,D7,BM,_)=>
 .ite (decide (p0<((List.length p7:Nat):Int)))
 (.ite (decide (0≤p0))
 (.get (nth p7 (Int.toNat p0)) fun y1=>
 .ite (decide (0≤p0))
 (.get (nth p7 (Int.toNat p0)) fun y2=>
 .ite (decide (List.length ([]:List Int)+List.length y2.2.1≤bV))
 (.ite (decide (List.length BM+List.length ([(y1.1,(([]:List Int)++y2.2.1),())]:List ag)≤bV))
 (.ret (.again (((IntKind.i64.wrap (p0+1)),()),((p1,p2,p3,p4,p5,p6,p7,p8,p9,()),(cz,cE,()),(dp,dh,du,cP,()),dG,dX,ep,eZ,fR,fZ,jm,lh,od,pN,D7,(BM++([(y1.1,(([]:List Int)++y2.2.1),())]:List ag)),()))))
 .fail)
 .fail)
 .fail)
 .fail)
 (.ret (.out ((),((p1,p2,p3,p4,p5,p6,p7,p8,p9,()),(cz,cE,()),(dp,dh,du,cP,()),dG,dX,ep,eZ,fR,fZ,jm,lh,od,pN,D7,BM,()))))
def LU:t5×Unit→Out ajo
|(a0,_)=>
 .get (JW ((a0.2.2.1,()),())) fun ((eu,_),_)=>
 .get (b5 xc bn ((0,()),((a0.1,a0.2.1,a0.2.2.1,a0.2.2.2.1,a0.2.2.2.2.1,a0.2.2.2.2.2.1,a0.2.2.2.2.2.2.1,a0.2.2.2.2.2.2.2.1,a0.2.2.2.2.2.2.2.2.1,()),(0,0,()),(a0.1,a0.2.1,a0.2.2.2.2.1,a0.2.2.2.2.2.1,a0.2.2.2.2.2.2.1,a0.2.2.2.2.2.2.2.1,a0.2.2.2.2.2.2.2.2.1,()),([]:List (List aw)),([]:List af),([]:List ah),([]:List ag),([]:List ag),([]:List Int),([]:List Int),eu.1,([]:List af),()))) fun (_,(Jh,Ji,Jj,Jk,Eb,Jl,Jm,Ec,Jn,_),(Jo,afg,_),(afh,afi,_,_,afj,afk,afl,_),afm,afn,afo,afp,afq,am2,am3,am4,am5,_)=>
 .ite (decide (List.length ([]:List ah)+List.length Eb≤bV))
 (.get (b5 xd bn ((0,()),((Jh,Ji,Jj,Jk,Eb,Jl,Jm,Ec,Jn,()),(Jo,afg,()),(afh,afi,afj,afk,afl,()),afm,afn,afo,afp,afq,am2,am3,am4,am5,(([]:List ah)++Eb),([]:List ag),()))) fun (_,(NR,PU,PV,PW,PX,PY,PZ,P0,P1,_),(P2,P3,_),(P4,P5,_,P6,P7,_),P8,P9,Qa,Qb,Qc,Qd,Qe,afr,am6,am7,am8,_)=>
 .get (b5 xe bn ((0,()),((NR,PU,PV,PW,PX,PY,PZ,P0,P1,()),(P2,P3,()),(P4,P5,P6,P7,()),P8,P9,Qa,Qb,Qc,Qd,Qe,afr,am6,am7,am8,([]:List ag),()))) fun (_,(_,_,_,_,_,_,_,N4,N5,_),_,(N6,N7,_),_,_,_,_,_,_,_,Rs,Rt,Ru,Rv,Rw,_)=>
 .ite (decide (List.length ([]:List Int)+List.length N4≤bV))
 (.ite (decide (List.length ([]:List Int)+List.length N5≤bV))
 (.ret (((N6,N7,Rs,Rt,Ru,Rv,Rw,(([]:List Int)++N4),(([]:List Int)++N5),()),()),((),())))
 .fail)
 .fail)
 .fail
def Re (x:t5×Unit):=(LU x).eval
abbrev T8:List (Nat×dT):=[(64000000, .var [.i .i64, .i .i64, .ro (.fz b8) (some 0), .ro eM (some 1), .ro cH (some 2), .ro bW (some 3), .ro bW (some 4), .ro br (some 5), .ro br (some 6)]),(64000001, .var [.i .i64, .i .i64, .aP 64000003, .aP 64000004, .aP 64000005, .aP 64000006, .aP 64000007, .aP 64000008, .aP 64000009]),(64000002, .var [.i .i64, .i .i64, .aP 64000010, .aP 64000011, .ro cH (some 2), .ro bW (some 3), .ro bW (some 4), .ro br (some 5), .ro br (some 6)]),(64000003, .arr (.fz b8)),(64000004, .arr eM),(64000005, .arr cH),(64000006, .arr bW),(64000007, .arr bW),(64000008, .arr br),(64000009, .arr br),(64000010, .arr (.fz b8)),(64000011, .arr eM)]
abbrev T9:List (Nat×dT):=[(64000000, .var [.i .i64, .i .i64, .ro (.fz b8) (some 0), .ro eM (some 1), .ro cH (some 2), .ro bW (some 3), .ro bW (some 4), .ro br (some 5), .ro br (some 6)]),(64000001, .var [.i .i64, .i .i64, .aP 64000003, .aP 64000004, .aP 64000005, .aP 64000006, .aP 64000007, .aP 64000008, .aP 64000009]),(64000002, .var [.i .i64, .i .i64, .aP 64000010, .aP 64000011, .aP 64000012, .aP 64000013, .ro bW (some 4), .ro br (some 5), .ro br (some 6)]),(64000003, .arr (.fz b8)),(64000004, .arr eM),(64000005, .arr cH),(64000006, .arr bW),(64000007, .arr bW),(64000008, .arr br),(64000009, .arr br),(64000010, .arr (.fz b8)),(64000011, .arr eM),(64000012, .arr cH),(64000013, .arr bW)]
abbrev Ua:List (Nat×dT):=[(64000000, .var [.i .i64, .i .i64, .ro (.fz b8) (some 0), .ro eM (some 1), .ro cH (some 2), .ro bW (some 3), .ro bW (some 4), .ro br (some 5), .ro br (some 6)]),(64000001, .var [.i .i64, .i .i64, .aP 64000003, .aP 64000004, .aP 64000005, .aP 64000006, .aP 64000007, .aP 64000008, .aP 64000009]),(64000002, .var [.i .i64, .i .i64, .aP 64000010, .aP 64000011, .aP 64000012, .aP 64000013, .aP 64000014, .ro br (some 5), .ro br (some 6)]),(64000003, .arr (.fz b8)),(64000004, .arr eM),(64000005, .arr cH),(64000006, .arr bW),(64000007, .arr bW),(64000008, .arr br),(64000009, .arr br),(64000010, .arr (.fz b8)),(64000011, .arr eM),(64000012, .arr cH),(64000013, .arr bW),(64000014, .arr bW)]
def ajp:Nat→Option aq:=fun n=>bU [(0,⟨⟨[.dead, .vptr 64000000 0, .vptr 64000001 0, .vptr 64000002 0, .i .i64]++dd 101,T8⟩,⟨[.dead, .vptr 64000000 0, .vptr 64000001 0, .vptr 64000002 0]++dd 102,T8⟩,none,false⟩),(2,⟨⟨[.dead, .vptr 64000000 0, .vptr 64000001 0, .vptr 64000002 0, .dead, .i .i64]++dd 100,T9⟩,⟨[.dead, .vptr 64000000 0, .vptr 64000001 0, .vptr 64000002 0]++dd 102,T9⟩,none,false⟩),(4,⟨⟨[.dead, .vptr 64000000 0, .vptr 64000001 0, .vptr 64000002 0, .dead, .dead, .i .i64]++dd 99,Ua⟩,⟨[.dead, .vptr 64000000 0, .vptr 64000001 0, .vptr 64000002 0]++dd 102,Ua⟩,none,false⟩)] n
def k39:bM:=cw 39 false [i5] [none] [i4] LU
theorem adt:k39.Ok Tryz.prog:=bA bF [1800,3344,4624] [(1800,32),(3344,1),(4624,1)] [ajn,B1] ⟨ZG,zc,trivial⟩ ajp Tryz.f39 [.cell 2 31] fun x=>by kernel_rfl
abbrev aft:=(t6×Unit)×(Unit)
def Ub:Unit→Out aft
|_=>
 .ret (((0, -1,0,0,()),()),())
def Q6 (x:Unit):=(Ub x).eval
def ajq:bM:=cw 267 true [] [] [i6] Ub
theorem ZH:ajq.Ok Tryz.prog:=bA eo [] [] [] trivial (fun _=>none) Tryz.f267 [.cell 0 94] fun x=>by kernel_rfl
abbrev afu:=(t7×t6×Unit)×(Unit×Unit)
def Uc:t7×Unit→Out afu
|(a0,_)=>
 .ret ((a0,(2, -1,0,0,()),()),((),()))
def uu (x:t7×Unit):=(Uc x).eval
def ajr:bM:=cw 266 true [i7] [none] [i7,i6] Uc
theorem ZI:ajr.Ok Tryz.prog:=bA eo [] [] [] trivial (fun _=>none) Tryz.f266 [.cell 2 48, .cell 3 94] fun x=>by kernel_rfl
abbrev KT:=(t7×t6×Unit)×(Unit×XI)
def zl (v0:Int) (v1:Int) (v2:Int) (v3:Int) (v4:Int) (v5:Int) (v6:Int) (v7:Int) (v8:List Int):Out (KT):=
 .ite (!(b6 v1))
 (.get (uu ((v2,v8,()),())) fun ((uE,y9b,_),_)=>
 .ret ((uE,y9b,()),((),(),(),())))
 (.ite (decide (0≤v3∧v3<((List.length v8:Nat):Int)))
 (.get (nth v8 (Int.toNat v3)) fun _=>
 .ret (((v0,(List.set v8 (Int.toNat v3) v1),()),(v4,v5,v6,v7,()),()),((),(),(),())))
 .fail)
def zm (v0:Int) (v1:Int) (v2:Int) (v3:Int) (v4:Int) (v5:Int) (v6:Int) (v7:Int) (v8:List Int):Out (KT):=
 .ite (!(b6 v1))
 (.get (uu ((v2,v8,()),())) fun ((lQ,am9,_),_)=>
 .ret ((lQ,am9,()),((),(),(),())))
 (.ite (decide (0≤v3∧v3<((List.length v8:Nat):Int)))
 (.get (nth v8 (Int.toNat v3)) fun _=>
 .ret (((v0,(List.set v8 (Int.toNat v3) v1),()),(v4,v5,v6,v7,()),()),((),(),(),())))
 .fail)
def Fq:t8×t7×t9×Unit→Out KT
|(a0,a1,a2,_)=>
 .ite (decide (a1.1≥((List.length a0.1:Nat):Int)))
 (.get (uu (a1,())) fun ((eu,y1b,_),_)=>
 .ret ((eu,y1b,()),((),(),(),())))
 (.ite (decide (0≤a1.1))
 (.get (nth a0.1 (Int.toNat a1.1)) fun y2=>
 .get (Q6 ()) fun ((dF,_),_)=>
 .ite ((y2.1==1))
 (.ite (decide (0≤y2.2.1∧y2.2.1<((List.length a1.2.1:Nat):Int)))
 (.get (nth a1.2.1 (Int.toNat y2.2.1)) fun _=>
 .ret ((((IntKind.i64.wrap (a1.1+1)),(List.set a1.2.1 (Int.toNat y2.2.1) y2.2.2.1),()),dF,()),((),(),(),())))
 .fail)
 (.ite ((y2.1==2))
 (.ite (decide (0≤y2.2.2.1∧y2.2.2.1<((List.length a1.2.1:Nat):Int)))
 (.get (nth a1.2.1 (Int.toNat y2.2.2.1)) fun y5=>
 .ite (decide (0≤y2.2.2.2.1∧y2.2.2.2.1<((List.length a1.2.1:Nat):Int)))
 (.get (nth a1.2.1 (Int.toNat y2.2.2.2.1)) fun y6=>
 .ite ((y2.1==3))
 (.ite (decide (0≤y2.2.2.1∧y2.2.2.1<((List.length a1.2.1:Nat):Int)))
 (.get (nth a1.2.1 (Int.toNat y2.2.2.1)) fun y7=>
 .ite (decide (0≤y2.2.2.2.1∧y2.2.2.2.1<((List.length a1.2.1:Nat):Int)))
 (.get (nth a1.2.1 (Int.toNat y2.2.2.2.1)) fun y8=>
 zl (IntKind.i64.wrap (a1.1+1)) (IntKind.i64.wrap (y7 - y8)) a1.1 y2.2.1 dF.1 dF.2.1 dF.2.2.1 dF.2.2.2.1 a1.2.1)
 .fail)
 .fail)
 (zl (IntKind.i64.wrap (a1.1+1)) (IntKind.i64.wrap (y5+y6)) a1.1 y2.2.1 dF.1 dF.2.1 dF.2.2.1 dF.2.2.2.1 a1.2.1))
 .fail)
 .fail)
 (.ite ((y2.1==3))
 (.ite (decide (0≤y2.2.2.1∧y2.2.2.1<((List.length a1.2.1:Nat):Int)))
 (.get (nth a1.2.1 (Int.toNat y2.2.2.1)) fun wC=>
 .ite (decide (0≤y2.2.2.2.1∧y2.2.2.2.1<((List.length a1.2.1:Nat):Int)))
 (.get (nth a1.2.1 (Int.toNat y2.2.2.2.1)) fun pL=>
 .ite ((y2.1==3))
 (.ite (decide (0≤y2.2.2.1∧y2.2.2.1<((List.length a1.2.1:Nat):Int)))
 (.get (nth a1.2.1 (Int.toNat y2.2.2.1)) fun Je=>
 .ite (decide (0≤y2.2.2.2.1∧y2.2.2.2.1<((List.length a1.2.1:Nat):Int)))
 (.get (nth a1.2.1 (Int.toNat y2.2.2.2.1)) fun O6=>
 zm (IntKind.i64.wrap (a1.1+1)) (IntKind.i64.wrap (Je - O6)) a1.1 y2.2.1 dF.1 dF.2.1 dF.2.2.1 dF.2.2.2.1 a1.2.1)
 .fail)
 .fail)
 (zm (IntKind.i64.wrap (a1.1+1)) (IntKind.i64.wrap (wC+pL)) a1.1 y2.2.1 dF.1 dF.2.1 dF.2.2.1 dF.2.2.2.1 a1.2.1))
 .fail)
 .fail)
 (.ite ((y2.1==4))
 (.ite (decide (0≤y2.2.2.1∧y2.2.2.1<((List.length a1.2.1:Nat):Int)))
 (.get (nth a1.2.1 (Int.toNat y2.2.2.1)) fun Um=>
 .ite ((decide (Um<0))==false)
 (.ite (decide (Um≥((List.length a2.1:Nat):Int)))
 (.get (uu (a1,())) fun ((uJ,anb,_),_)=>
 .ret ((uJ,anb,()),((),(),(),())))
 (.ite ((y2.1==4))
 (.ite (decide (0≤Um))
 (.get (nth a2.1 (Int.toNat Um)) fun y19=>
 .ite (decide (0≤y2.2.1∧y2.2.1<((List.length a1.2.1:Nat):Int)))
 (.get (nth a1.2.1 (Int.toNat y2.2.1)) fun _=>
 .ret ((((IntKind.i64.wrap (a1.1+1)),(List.set a1.2.1 (Int.toNat y2.2.1) y19),()),dF,()),((),(),(),())))
 .fail)
 .fail)
 (.ite (decide (0≤y2.2.1∧y2.2.1<((List.length a1.2.1:Nat):Int)))
 (.get (nth a1.2.1 (Int.toNat y2.2.1)) fun y21=>
 .ret ((((IntKind.i64.wrap (a1.1+1)),a1.2),(dF.1,Um,y21,dF.2.2.2),()),((),(),(),())))
 .fail)))
 (.get (uu (a1,())) fun ((Qo,anc,_),_)=>
 .ret ((Qo,anc,()),((),(),(),()))))
 .fail)
 (.ite ((y2.1==5))
 (.ite (decide (0≤y2.2.2.1∧y2.2.2.1<((List.length a1.2.1:Nat):Int)))
 (.get (nth a1.2.1 (Int.toNat y2.2.2.1)) fun y23=>
 .ite ((decide (y23<0))==false)
 (.ite (decide (y23≥((List.length a2.1:Nat):Int)))
 (.get (uu (a1,())) fun ((Jy,ane,_),_)=>
 .ret ((Jy,ane,()),((),(),(),())))
 (.ite ((y2.1==4))
 (.ite (decide (0≤y23))
 (.get (nth a2.1 (Int.toNat y23)) fun y25=>
 .ite (decide (0≤y2.2.1∧y2.2.1<((List.length a1.2.1:Nat):Int)))
 (.get (nth a1.2.1 (Int.toNat y2.2.1)) fun _=>
 .ret ((((IntKind.i64.wrap (a1.1+1)),(List.set a1.2.1 (Int.toNat y2.2.1) y25),()),dF,()),((),(),(),())))
 .fail)
 .fail)
 (.ite (decide (0≤y2.2.1∧y2.2.1<((List.length a1.2.1:Nat):Int)))
 (.get (nth a1.2.1 (Int.toNat y2.2.1)) fun y27=>
 .ret ((((IntKind.i64.wrap (a1.1+1)),a1.2),(dF.1,y23,y27,dF.2.2.2),()),((),(),(),())))
 .fail)))
 (.get (uu (a1,())) fun ((acx,anf,_),_)=>
 .ret ((acx,anf,()),((),(),(),()))))
 .fail)
 (.ite ((y2.1==6))
 (.ret (((y2.2.1,a1.2),dF,()),((),(),(),())))
 (.ite ((y2.1==7))
 (.ite (decide (0≤y2.2.1∧y2.2.1<((List.length a1.2.1:Nat):Int)))
 (.get (nth a1.2.1 (Int.toNat y2.2.1)) fun y29=>
 .ite ((y29==0))
 (.ret (((y2.2.2.1,a1.2),dF,()),((),(),(),())))
 (.ret ((((IntKind.i64.wrap (a1.1+1)),a1.2),dF,()),((),(),(),()))))
 .fail)
 (.ret ((((IntKind.i64.wrap (a1.1+1)),a1.2),(1,dF.2.1,dF.2.2.1,y2.2.1,()),()),((),(),(),()))))))))))
 .fail)
def QB (x:t8×t7×t9×Unit):=(Fq x).eval
def ag1:bM:=cw 240 true [i8,i7,i9] [none,none,none] [i7,i6] Fq
theorem Vs:ag1.Ok Tryz.prog:=bA eo [] [] [ajr,ajq,yF] ⟨ZI,ZH,zq,trivial⟩ (fun _=>none) Tryz.f240 [.cell 6 48, .cell 7 94] fun x=>by kernel_rfl
abbrev afv:=(t10×Unit)×XI
def E4:t11×t1×Unit→Out afv
|(a0,a1,_)=>
 .ret ((((decide ((IntKind.i64.wrap ((mZ a0.2.2.2.1)+a1.1))≤(16:Int))),()),()),((),(),()))
def oA (x:t11×t1×Unit):=(E4 x).eval
def Qh:bM:=cw 199 true [i11,i1] [none,none] [i10] E4
theorem yY:Qh.Ok Tryz.prog:=bA eo [] [] [FJ] ⟨MA,trivial⟩ (fun _=>none) Tryz.f199 [.tmp 4] fun x=>by kernel_rfl
abbrev Ud:=(t4×t10×Unit)×XI
def Nw (v0:Int) (v1:Int) (v2:Int) (v3:Int) (v4:List (List aw)) (v5:List af) (v6:Nat) (v7:Int) (v8:Int) (v9:Int) (v10:Int) (v11:Int) (v12:List Int) (I2:Int) (NQ:Int) (Us:List ah) (Z6:List ag) (v17:List ag) (v18:List Int) (v19:List Int) (v20:List Int) (v21:List Int):Out (Ud):=
 .ite (decide (0≤v0∧v0<((List.length v5:Nat):Int)))
 (.get (nth (List.set v5 v6 (v7,v8,v9,v10,(v11,v12,()),v20,v21,I2,NQ,())) (Int.toNat v0)) fun y6=>
 .get (pW ((4,()),())) fun ((kR,_),_)=>
 .ite (decide (0≤v0∧v0<((List.length (List.set (List.set v5 v6 (v7,v8,v9,v10,(v11,v12,()),v20,v21,I2,NQ,())) (Int.toNat v0) (y6.1,(y6.2.1,(y6.2.2.1,(v3,y6.2.2.2.2))))):Nat):Int)))
 (.get (nth (List.set (List.set v5 v6 (v7,v8,v9,v10,(v11,v12,()),v20,v21,I2,NQ,())) (Int.toNat v0) (y6.1,(y6.2.1,(y6.2.2.1,(v3,y6.2.2.2.2))))) (Int.toNat v0)) fun y8=>
 .ret (((v1,v2,v4,(List.set (List.set (List.set v5 v6 (v7,v8,v9,v10,(v11,v12,()),v20,v21,I2,NQ,())) (Int.toNat v0) (y6.1,(y6.2.1,(y6.2.2.1,(v3,y6.2.2.2.2))))) (Int.toNat v0) (y8.1,(y8.2.1,(y8.2.2.1,(y8.2.2.2.1,(y8.2.2.2.2.1,(kR.1,y8.2.2.2.2.2.2))))))),Us,Z6,v17,v18,v19,()),(true,()),()),((),(),())))
 .fail)
 .fail
def fA:t4×t12×Unit→Out Ud
|(a0,a1,_)=>
 .ite (decide ((ak a0.2.2.2.1 a1.2.1)<0))
 (.ret ((a0,(false,()),()),((),(),())))
 (.ite (decide (0≤(ak a0.2.2.2.1 a1.2.1)∧(ak a0.2.2.2.1 a1.2.1)<((List.length a0.2.2.2.1:Nat):Int)))
 (.get (nth a0.2.2.2.1 (Int.toNat (ak a0.2.2.2.1 a1.2.1))) fun y1=>
 .ite ((a1.1==1))
 (.ite (decide (List.length ([]:List Int)+List.length a1.2.2.2.2.1≤bV))
 (.ite (!(aR a1.2.2.1 (([]:List Int)++a1.2.2.2.2.1)))
 (.ret (((a0.1,a0.2.1,a0.2.2.1,(List.set a0.2.2.2.1 (Int.toNat (ak a0.2.2.2.1 a1.2.1)) y1),a0.2.2.2.2),(false,()),()),((),(),())))
 (.ite (decide (0≤(ak a0.2.2.2.1 a1.2.1)∧(ak a0.2.2.2.1 a1.2.1)<((List.length a0.2.2.2.1:Nat):Int)))
 (.ite ((Int.toNat (ak a0.2.2.2.1 a1.2.1))==(Int.toNat (ak a0.2.2.2.1 a1.2.1)))
 (.ret (((a0.1,a0.2.1,a0.2.2.1,(List.set a0.2.2.2.1 (Int.toNat (ak a0.2.2.2.1 a1.2.1)) (y1.1,y1.2.1,y1.2.2.1,y1.2.2.2.1,(a1.2.2.1,(([]:List Int)++a1.2.2.2.2.1),()),y1.2.2.2.2.2)),a0.2.2.2.2),(true,()),()),((),(),())))
 .fail)
 .fail))
 .fail)
 (.ite ((a1.1==2))
 (.ite ((decide (a1.2.2.1<0))==false)
 (.ite ((decide (a1.2.2.1≥((List.length y1.2.2.2.2.2.1:Nat):Int)))==false)
 (.ite (!(b6 a1.2.2.2.1))
 (.ret (((a0.1,a0.2.1,a0.2.2.1,(List.set a0.2.2.2.1 (Int.toNat (ak a0.2.2.2.1 a1.2.1)) y1),a0.2.2.2.2),(false,()),()),((),(),())))
 (.ite (decide (0≤(ak a0.2.2.2.1 a1.2.1)∧(ak a0.2.2.2.1 a1.2.1)<((List.length a0.2.2.2.1:Nat):Int)))
 (.ite ((Int.toNat (ak a0.2.2.2.1 a1.2.1))==(Int.toNat (ak a0.2.2.2.1 a1.2.1)))
 (.ite (decide (0≤a1.2.2.1∧a1.2.2.1<((List.length y1.2.2.2.2.2.1:Nat):Int)))
 (.get (nth y1.2.2.2.2.2.1 (Int.toNat a1.2.2.1)) fun _=>
 .ret (((a0.1,a0.2.1,a0.2.2.1,(List.set a0.2.2.2.1 (Int.toNat (ak a0.2.2.2.1 a1.2.1)) (y1.1,y1.2.1,y1.2.2.1,y1.2.2.2.1,y1.2.2.2.2.1,(List.set y1.2.2.2.2.2.1 (Int.toNat a1.2.2.1) a1.2.2.2.1),y1.2.2.2.2.2.2)),a0.2.2.2.2),(true,()),()),((),(),())))
 .fail)
 .fail)
 .fail))
 (.ret (((a0.1,a0.2.1,a0.2.2.1,(List.set a0.2.2.2.1 (Int.toNat (ak a0.2.2.2.1 a1.2.1)) y1),a0.2.2.2.2),(false,()),()),((),(),()))))
 (.ret (((a0.1,a0.2.1,a0.2.2.1,(List.set a0.2.2.2.1 (Int.toNat (ak a0.2.2.2.1 a1.2.1)) y1),a0.2.2.2.2),(false,()),()),((),(),()))))
 (.ite ((a1.1==3))
 (.ite (decide (0≤(ak a0.2.2.2.1 a1.2.1)∧(ak a0.2.2.2.1 a1.2.1)<((List.length a0.2.2.2.1:Nat):Int)))
 (.ite ((Int.toNat (ak a0.2.2.2.1 a1.2.1))==(Int.toNat (ak a0.2.2.2.1 a1.2.1)))
 (.ite (decide (0≤(ak a0.2.2.2.1 a1.2.1)∧(ak a0.2.2.2.1 a1.2.1)<((List.length a0.2.2.2.1:Nat):Int)))
 (.ite ((Int.toNat (ak a0.2.2.2.1 a1.2.1))==(Int.toNat (ak a0.2.2.2.1 a1.2.1)))
 (.ret (((a0.1,a0.2.1,a0.2.2.1,(List.set a0.2.2.2.1 (Int.toNat (ak a0.2.2.2.1 a1.2.1)) (y1.1,y1.2.1,a1.2.2.1,y1.2.2.2.1,y1.2.2.2.2.1,y1.2.2.2.2.2.1,y1.2.2.2.2.2.2.1,a1.2.2.2.1,y1.2.2.2.2.2.2.2.2)),a0.2.2.2.2),(true,()),()),((),(),())))
 .fail)
 .fail)
 .fail)
 .fail)
 (.ite ((a1.1==5))
 (.ite (decide (0≤(ak a0.2.2.2.1 a1.2.1)∧(ak a0.2.2.2.1 a1.2.1)<((List.length a0.2.2.2.1:Nat):Int)))
 (.ite ((Int.toNat (ak a0.2.2.2.1 a1.2.1))==(Int.toNat (ak a0.2.2.2.1 a1.2.1)))
 (.ret (((a0.1,a0.2.1,a0.2.2.1,(List.set a0.2.2.2.1 (Int.toNat (ak a0.2.2.2.1 a1.2.1)) (y1.1,y1.2.1,y1.2.2.1,y1.2.2.2.1,y1.2.2.2.2.1,([]:List Int),y1.2.2.2.2.2.2)),a0.2.2.2.2),(true,()),()),((),(),())))
 .fail)
 .fail)
 (.ite ((a1.1==6))
 (.ite (decide (0≤(0:Int)∧(0:Int)≤(ak a0.2.2.2.1 a1.2.1)∧(ak a0.2.2.2.1 a1.2.1)≤((List.length a0.2.2.2.1:Nat):Int)))
 (.ite (decide (0≤(0+Int.toNat (0:Int))∧List.length ([]:List af)+(Int.toNat (ak a0.2.2.2.1 a1.2.1) - Int.toNat (0:Int))≤bV))
 (.ite (decide (0≤(IntKind.i64.wrap ((ak a0.2.2.2.1 a1.2.1)+1))∧(IntKind.i64.wrap ((ak a0.2.2.2.1 a1.2.1)+1))≤((((0+Int.toNat (0:Int))+(Int.toNat (ak a0.2.2.2.1 a1.2.1) - Int.toNat (0:Int)))+List.length (List.drop ((0+Int.toNat (0:Int)) - 0+(Int.toNat (ak a0.2.2.2.1 a1.2.1) - Int.toNat (0:Int))) (List.set a0.2.2.2.1 (Int.toNat (ak a0.2.2.2.1 a1.2.1)) y1)):Nat):Int)∧((((0+Int.toNat (0:Int))+(Int.toNat (ak a0.2.2.2.1 a1.2.1) - Int.toNat (0:Int)))+List.length (List.drop ((0+Int.toNat (0:Int)) - 0+(Int.toNat (ak a0.2.2.2.1 a1.2.1) - Int.toNat (0:Int))) (List.set a0.2.2.2.1 (Int.toNat (ak a0.2.2.2.1 a1.2.1)) y1)):Nat):Int)≤((((0+Int.toNat (0:Int))+(Int.toNat (ak a0.2.2.2.1 a1.2.1) - Int.toNat (0:Int)))+List.length (List.drop ((0+Int.toNat (0:Int)) - 0+(Int.toNat (ak a0.2.2.2.1 a1.2.1) - Int.toNat (0:Int))) (List.set a0.2.2.2.1 (Int.toNat (ak a0.2.2.2.1 a1.2.1)) y1)):Nat):Int)))
 (.ite (decide (((0+Int.toNat (0:Int))+(Int.toNat (ak a0.2.2.2.1 a1.2.1) - Int.toNat (0:Int)))≤(0+Int.toNat (IntKind.i64.wrap ((ak a0.2.2.2.1 a1.2.1)+1)))∧List.length (([]:List af)++List.take (Int.toNat (ak a0.2.2.2.1 a1.2.1) - Int.toNat (0:Int)) (List.drop ((0+Int.toNat (0:Int)) - 0) (List.set a0.2.2.2.1 (Int.toNat (ak a0.2.2.2.1 a1.2.1)) y1)))+(Int.toNat ((((0+Int.toNat (0:Int))+(Int.toNat (ak a0.2.2.2.1 a1.2.1) - Int.toNat (0:Int)))+List.length (List.drop ((0+Int.toNat (0:Int)) - 0+(Int.toNat (ak a0.2.2.2.1 a1.2.1) - Int.toNat (0:Int))) (List.set a0.2.2.2.1 (Int.toNat (ak a0.2.2.2.1 a1.2.1)) y1)):Nat):Int) - Int.toNat (IntKind.i64.wrap ((ak a0.2.2.2.1 a1.2.1)+1)))≤bV))
 (.ret (((a0.1,a0.2.1,a0.2.2.1,((([]:List af)++List.take (Int.toNat (ak a0.2.2.2.1 a1.2.1) - Int.toNat (0:Int)) (List.drop ((0+Int.toNat (0:Int)) - 0) (List.set a0.2.2.2.1 (Int.toNat (ak a0.2.2.2.1 a1.2.1)) y1)))++List.take (Int.toNat ((((0+Int.toNat (0:Int))+(Int.toNat (ak a0.2.2.2.1 a1.2.1) - Int.toNat (0:Int)))+List.length (List.drop ((0+Int.toNat (0:Int)) - 0+(Int.toNat (ak a0.2.2.2.1 a1.2.1) - Int.toNat (0:Int))) (List.set a0.2.2.2.1 (Int.toNat (ak a0.2.2.2.1 a1.2.1)) y1)):Nat):Int) - Int.toNat (IntKind.i64.wrap ((ak a0.2.2.2.1 a1.2.1)+1))) (List.drop ((0+Int.toNat (IntKind.i64.wrap ((ak a0.2.2.2.1 a1.2.1)+1))) - ((0+Int.toNat (0:Int))+(Int.toNat (ak a0.2.2.2.1 a1.2.1) - Int.toNat (0:Int)))) (List.drop ((0+Int.toNat (0:Int)) - 0+(Int.toNat (ak a0.2.2.2.1 a1.2.1) - Int.toNat (0:Int))) (List.set a0.2.2.2.1 (Int.toNat (ak a0.2.2.2.1 a1.2.1)) y1)))),a0.2.2.2.2),(true,()),()),((),(),())))
 .fail)
 .fail)
 .fail)
 .fail)
 (.ite ((a1.1==7))
 (.ite ((4:Int)==0)
 .fail
 (.ite ((decide ((IntKind.i64.wrap (Int.tdiv ((List.length y1.2.2.2.2.2.1:Nat):Int) (4:Int)))≥(3:Int)))==false)
 (.get (oA ((a0.1,a0.2.1,a0.2.2.1,(List.set a0.2.2.2.1 (Int.toNat (ak a0.2.2.2.1 a1.2.1)) y1),a0.2.2.2.2),(1,()),())) fun ((dF,_),_)=>
 .ite (!dF.1)
 (.ret (((a0.1,a0.2.1,a0.2.2.1,(List.set a0.2.2.2.1 (Int.toNat (ak a0.2.2.2.1 a1.2.1)) y1),a0.2.2.2.2),(false,()),()),((),(),())))
 (.ite (decide (List.length ([]:List Int)+List.length y1.2.2.2.2.2.1≤bV))
 (.get (pW ((4,()),())) fun ((gA,_),_)=>
 .ite (decide (List.length (([]:List Int)++y1.2.2.2.2.2.1)+List.length gA.1≤bV))
 (.ite (decide (0≤(ak a0.2.2.2.1 a1.2.1)∧(ak a0.2.2.2.1 a1.2.1)<((List.length a0.2.2.2.1:Nat):Int)))
 (.ite ((Int.toNat (ak a0.2.2.2.1 a1.2.1))==(Int.toNat (ak a0.2.2.2.1 a1.2.1)))
 (.ret (((a0.1,a0.2.1,a0.2.2.1,(List.set a0.2.2.2.1 (Int.toNat (ak a0.2.2.2.1 a1.2.1)) (y1.1,y1.2.1,y1.2.2.1,y1.2.2.2.1,y1.2.2.2.2.1,((([]:List Int)++y1.2.2.2.2.2.1)++gA.1),y1.2.2.2.2.2.2)),a0.2.2.2.2),(true,()),()),((),(),())))
 .fail)
 .fail)
 .fail)
 .fail))
 (.ret (((a0.1,a0.2.1,a0.2.2.1,(List.set a0.2.2.2.1 (Int.toNat (ak a0.2.2.2.1 a1.2.1)) y1),a0.2.2.2.2),(false,()),()),((),(),())))))
 (.ite ((a1.1==8))
 (.ite ((decide (a1.2.2.1<0))==false)
 (.ite ((decide (a1.2.2.1≥((List.length a0.2.2.1:Nat):Int)))==false)
 (.ite (((((List.length y1.2.2.2.2.2.1:Nat):Int)==0))==true)
 (.get (oA ((a0.1,a0.2.1,a0.2.2.1,(List.set a0.2.2.2.1 (Int.toNat (ak a0.2.2.2.1 a1.2.1)) y1),a0.2.2.2.2),(1,()),())) fun ((ja,_),_)=>
 .ite (!ja.1)
 (.ret (((a0.1,a0.2.1,a0.2.2.1,(List.set a0.2.2.2.1 (Int.toNat (ak a0.2.2.2.1 a1.2.1)) y1),a0.2.2.2.2),(false,()),()),((),(),())))
 (Nw (ak a0.2.2.2.1 a1.2.1) a0.1 a0.2.1 a1.2.2.1 a0.2.2.1 a0.2.2.2.1 (Int.toNat (ak a0.2.2.2.1 a1.2.1)) y1.1 y1.2.1 y1.2.2.1 y1.2.2.2.1 y1.2.2.2.2.1.1 y1.2.2.2.2.1.2.1 y1.2.2.2.2.2.2.2.1 y1.2.2.2.2.2.2.2.2.1 a0.2.2.2.2.1 a0.2.2.2.2.2.1 a0.2.2.2.2.2.2.1 a0.2.2.2.2.2.2.2.1 a0.2.2.2.2.2.2.2.2.1 y1.2.2.2.2.2.1 y1.2.2.2.2.2.2.1))
 (Nw (ak a0.2.2.2.1 a1.2.1) a0.1 a0.2.1 a1.2.2.1 a0.2.2.1 a0.2.2.2.1 (Int.toNat (ak a0.2.2.2.1 a1.2.1)) y1.1 y1.2.1 y1.2.2.1 y1.2.2.2.1 y1.2.2.2.2.1.1 y1.2.2.2.2.1.2.1 y1.2.2.2.2.2.2.2.1 y1.2.2.2.2.2.2.2.2.1 a0.2.2.2.2.1 a0.2.2.2.2.2.1 a0.2.2.2.2.2.2.1 a0.2.2.2.2.2.2.2.1 a0.2.2.2.2.2.2.2.2.1 y1.2.2.2.2.2.1 y1.2.2.2.2.2.2.1))
 (.ret (((a0.1,a0.2.1,a0.2.2.1,(List.set a0.2.2.2.1 (Int.toNat (ak a0.2.2.2.1 a1.2.1)) y1),a0.2.2.2.2),(false,()),()),((),(),()))))
 (.ret (((a0.1,a0.2.1,a0.2.2.1,(List.set a0.2.2.2.1 (Int.toNat (ak a0.2.2.2.1 a1.2.1)) y1),a0.2.2.2.2),(false,()),()),((),(),()))))
 (.ite ((a1.1==9))
 (.ite ((decide (a1.2.2.1<0))==false)
 (.ite (decide (a1.2.2.1≥((List.length y1.2.2.2.2.2.2.1:Nat):Int)))
 (.ret (((a0.1,a0.2.1,a0.2.2.1,(List.set a0.2.2.2.1 (Int.toNat (ak a0.2.2.2.1 a1.2.1)) y1),a0.2.2.2.2),(false,()),()),((),(),())))
 (.ite (decide (0≤(ak a0.2.2.2.1 a1.2.1)∧(ak a0.2.2.2.1 a1.2.1)<((List.length a0.2.2.2.1:Nat):Int)))
 (.ite ((Int.toNat (ak a0.2.2.2.1 a1.2.1))==(Int.toNat (ak a0.2.2.2.1 a1.2.1)))
 (.ite (decide (0≤a1.2.2.1∧a1.2.2.1<((List.length y1.2.2.2.2.2.2.1:Nat):Int)))
 (.get (nth y1.2.2.2.2.2.2.1 (Int.toNat a1.2.2.1)) fun _=>
 .ret (((a0.1,a0.2.1,a0.2.2.1,(List.set a0.2.2.2.1 (Int.toNat (ak a0.2.2.2.1 a1.2.1)) (y1.1,y1.2.1,y1.2.2.1,y1.2.2.2.1,y1.2.2.2.2.1,y1.2.2.2.2.2.1,(List.set y1.2.2.2.2.2.2.1 (Int.toNat a1.2.2.1) a1.2.2.2.1),y1.2.2.2.2.2.2.2)),a0.2.2.2.2),(true,()),()),((),(),())))
 .fail)
 .fail)
 .fail))
 (.ret (((a0.1,a0.2.1,a0.2.2.1,(List.set a0.2.2.2.1 (Int.toNat (ak a0.2.2.2.1 a1.2.1)) y1),a0.2.2.2.2),(false,()),()),((),(),()))))
 (.ite ((a1.1==25))
 (.ite (decide (0≤(ak a0.2.2.2.1 a1.2.1)∧(ak a0.2.2.2.1 a1.2.1)<((List.length a0.2.2.2.1:Nat):Int)))
 (.ite ((Int.toNat (ak a0.2.2.2.1 a1.2.1))==(Int.toNat (ak a0.2.2.2.1 a1.2.1)))
 (.ret (((a0.1,a0.2.1,a0.2.2.1,(List.set a0.2.2.2.1 (Int.toNat (ak a0.2.2.2.1 a1.2.1)) (y1.1,a1.2.2.1,y1.2.2)),a0.2.2.2.2),(true,()),()),((),(),())))
 .fail)
 .fail)
 (.ite (decide (0≤(ak a0.2.2.2.1 a1.2.1)∧(ak a0.2.2.2.1 a1.2.1)<((List.length a0.2.2.2.1:Nat):Int)))
 (.ite ((Int.toNat (ak a0.2.2.2.1 a1.2.1))==(Int.toNat (ak a0.2.2.2.1 a1.2.1)))
 (.ret (((a0.1,a0.2.1,a0.2.2.1,(List.set a0.2.2.2.1 (Int.toNat (ak a0.2.2.2.1 a1.2.1)) (y1.1,y1.2.1,y1.2.2.1,y1.2.2.2.1,y1.2.2.2.2.1,y1.2.2.2.2.2.1,y1.2.2.2.2.2.2.1,y1.2.2.2.2.2.2.2.1,a1.2.2.1,())),a0.2.2.2.2),(true,()),()),((),(),())))
 .fail)
 .fail))))))))))
 .fail)
def kT (x:t4×t12×Unit):=(fA x).eval
def ajs:bM:=cw 111 false [i4,i12] [none,none] [i4,i10] fA
theorem ZJ:ajs.Ok Tryz.prog:=bA bF [2054] [(1029,1),(2054,1),(7944,2)] [uF,FK,yF,Qh,k95] ⟨oz,MB,zq,yY,EU,trivial⟩ (fun _=>none) Tryz.f111 [.cell 4 31, .tmp 5] fun x=>by kernel_rfl
abbrev afw:=(t4×t10×Unit)×XI
def E0:t4×t12×Unit→Out afw
|(a0,a1,_)=>
 .ite ((decide ((ak a0.2.2.2.1 a1.2.2.1)<0))==false)
 (.ite (((a1.2.1 != a0.1))==false)
 (.ite ((decide (a1.2.1≥(100000:Int)))==false)
 (.ite ((decide (((List.length a0.2.2.2.1:Nat):Int)≥(6:Int)))==false)
 (.ite (decide (0≤(ak a0.2.2.2.1 a1.2.2.1)∧(ak a0.2.2.2.1 a1.2.2.1)<((List.length a0.2.2.2.1:Nat):Int)))
 (.get (nth a0.2.2.2.1 (Int.toNat (ak a0.2.2.2.1 a1.2.2.1))) fun y1=>
 .ite ((4:Int)==0)
 .fail
 (.get (oA ((a0.1,a0.2.1,a0.2.2.1,(List.set a0.2.2.2.1 (Int.toNat (ak a0.2.2.2.1 a1.2.2.1)) (y1.1,(y1.2.1,(y1.2.2.1,(y1.2.2.2.1,(y1.2.2.2.2.1,(y1.2.2.2.2.2.1,y1.2.2.2.2.2.2))))))),a0.2.2.2.2),((IntKind.i64.wrap (Int.tdiv ((List.length y1.2.2.2.2.2.1:Nat):Int) (4:Int))),()),())) fun ((b9,_),_)=>
 .ite (!b9.1)
 (.ret (((a0.1,a0.2.1,a0.2.2.1,(List.set a0.2.2.2.1 (Int.toNat (ak a0.2.2.2.1 a1.2.2.1)) (y1.1,(y1.2.1,(y1.2.2.1,(y1.2.2.2.1,(y1.2.2.2.2.1,(y1.2.2.2.2.2.1,y1.2.2.2.2.2.2))))))),a0.2.2.2.2),(false,()),()),((),(),())))
 (.ite (decide (0≤(ak a0.2.2.2.1 a1.2.2.1)∧(ak a0.2.2.2.1 a1.2.2.1)<((List.length a0.2.2.2.1:Nat):Int)))
 (.get (nth (List.set a0.2.2.2.1 (Int.toNat (ak a0.2.2.2.1 a1.2.2.1)) (y1.1,(y1.2.1,(y1.2.2.1,(y1.2.2.2.1,(y1.2.2.2.2.1,(y1.2.2.2.2.2.1,y1.2.2.2.2.2.2))))))) (Int.toNat (ak a0.2.2.2.1 a1.2.2.1))) fun y3=>
 .get (et y3.1 y3.2.1 y3.2.2.1 y3.2.2.2.1 y3.2.2.2.2.1.1 y3.2.2.2.2.1.2.1 y3.2.2.2.2.2.1 y3.2.2.2.2.2.2.1 y3.2.2.2.2.2.2.2.1 y3.2.2.2.2.2.2.2.2.1) fun y4=>
 .ite (decide (List.length (List.set (List.set a0.2.2.2.1 (Int.toNat (ak a0.2.2.2.1 a1.2.2.1)) (y1.1,(y1.2.1,(y1.2.2.1,(y1.2.2.2.1,(y1.2.2.2.2.1,(y1.2.2.2.2.2.1,y1.2.2.2.2.2.2))))))) (Int.toNat (ak a0.2.2.2.1 a1.2.2.1)) y3)+List.length ([(a1.2.1,a1.2.2.1,1,y4.2.2.2.1,(y4.2.2.2.2.1,y4.2.2.2.2.2.1,()),y4.2.2.2.2.2.2.1,y4.2.2.2.2.2.2.2.1,0,0,())]:List af)≤bV))
 (.ret ((((IntKind.i64.wrap (a1.2.1+1)),a0.2.1,a0.2.2.1,((List.set (List.set a0.2.2.2.1 (Int.toNat (ak a0.2.2.2.1 a1.2.2.1)) (y1.1,(y1.2.1,(y1.2.2.1,(y1.2.2.2.1,(y1.2.2.2.2.1,(y1.2.2.2.2.2.1,y1.2.2.2.2.2.2))))))) (Int.toNat (ak a0.2.2.2.1 a1.2.2.1)) y3)++([(a1.2.1,a1.2.2.1,1,y4.2.2.2.1,(y4.2.2.2.2.1,y4.2.2.2.2.2.1,()),y4.2.2.2.2.2.2.1,y4.2.2.2.2.2.2.2.1,0,0,())]:List af)),a0.2.2.2.2),(true,()),()),((),(),())))
 .fail)
 .fail)))
 .fail)
 (.ret ((a0,(false,()),()),((),(),()))))
 (.ret ((a0,(false,()),()),((),(),()))))
 (.ret ((a0,(false,()),()),((),(),()))))
 (.ret ((a0,(false,()),()),((),(),())))
def QG (x:t4×t12×Unit):=(E0 x).eval
def ajt:bM:=cw 110 false [i4,i12] [none,none] [i4,i10] E0
theorem ZK:ajt.Ok Tryz.prog:=bA bF [1030] [(1029,1),(1030,32)] [uF,Qh,B1] ⟨oz,yY,zc,trivial⟩ (fun _=>none) Tryz.f110 [.cell 4 31, .tmp 5] fun x=>by kernel_rfl
abbrev afx:=(t4×t10×Unit)×XI
abbrev Nx:=(Bool×Int×Unit)×((Int×Int×Unit)×(Int×Int×Int×Int×List Int×Unit)×(Int×Int×Unit)×List ah×List (List aw)×List af×List ah×List ag×List ag×List Int×List Int×Cz)
def rk:Nx→Out (Round Nx ((Bool×Unit)×((Int×Int×Unit)×(Int×Int×Int×Int×List Int×Unit)×(Int×Int×Unit)×List ah×List (List aw)×List af×List ah×List ag×List ag×List Int×List Int×Cz)) Empty)
|((p0,p1,_),(p2,p3,_),(p4,p5,p6,p7,p8,_),(p9,cz,_),cE,dp,dh,du,cP,dG,dX,ep,eZ,fR,fZ,jm,lh,od,pN,_)=>
 .ite (decide (p1<((List.length du:Nat):Int)))
 (.ite ((!p0)==true)
 (.ite (decide (0≤p1∧p1<((List.length du:Nat):Int)))
 (.get (nth du (Int.toNat p1)) fun y1=>
 .ite (decide (y1.1>p5))
 (.ite (decide (List.length cE+List.length ([(p5,p6,p7,0,0,())]:List ah)≤bV))
 (.ite (decide (0≤p1∧p1<((List.length du:Nat):Int)))
 (.get (nth du (Int.toNat p1)) fun y2=>
 .ite (decide (List.length (cE++([(p5,p6,p7,0,0,())]:List ah))+List.length ([y2]:List ah)≤bV))
 (.ret (.again ((true,(IntKind.i64.wrap (p1+1)),()),((p2,p3,()),(p4,p5,p6,p7,p8,()),(p9,cz,()),((cE++([(p5,p6,p7,0,0,())]:List ah))++([y2]:List ah)),dp,dh,du,cP,dG,dX,ep,eZ,fR,fZ,jm,lh,od,pN,()))))
 .fail)
 .fail)
 .fail)
 (.ite (decide (0≤p1∧p1<((List.length du:Nat):Int)))
 (.get (nth du (Int.toNat p1)) fun y3=>
 .ite (decide (List.length cE+List.length ([y3]:List ah)≤bV))
 (.ret (.again ((p0,(IntKind.i64.wrap (p1+1)),()),((p2,p3,()),(p4,p5,p6,p7,p8,()),(p9,cz,()),(cE++([y3]:List ah)),dp,dh,du,cP,dG,dX,ep,eZ,fR,fZ,jm,lh,od,pN,()))))
 .fail)
 .fail))
 .fail)
 (.ite (decide (0≤p1∧p1<((List.length du:Nat):Int)))
 (.get (nth du (Int.toNat p1)) fun y4=>
 .ite (decide (List.length cE+List.length ([y4]:List ah)≤bV))
 (.ret (.again ((p0,(IntKind.i64.wrap (p1+1)),()),((p2,p3,()),(p4,p5,p6,p7,p8,()),(p9,cz,()),(cE++([y4]:List ah)),dp,dh,du,cP,dG,dX,ep,eZ,fR,fZ,jm,lh,od,pN,()))))
 .fail)
 .fail))
 (.ret (.out ((p0,()),((p2,p3,()),(p4,p5,p6,p7,p8,()),(p9,cz,()),cE,dp,dh,du,cP,dG,dX,ep,eZ,fR,fZ,jm,lh,od,pN,()))))
def m5:t4×t12×Unit→Out afx
|(a0,a1,_)=>
 .ite ((a1.1==10))
 (.ite ((decide ((aF a0.2.2.2.2.1 a1.2.1)≥(0:Int)))==false)
 (.ite (!(dC a1.2.1 (0:Int) (7:Int)))
 (.ret ((a0,(false,()),()),((),(),())))
 (.get (b5 rk bn ((false,0,()),((a0.1,a0.2.1,()),(a1.1,a1.2.1,a1.2.2.1,a1.2.2.2.1,a1.2.2.2.2.1,()),(0,0,()),([]:List ah),a0.2.2.1,a0.2.2.2.1,a0.2.2.2.2.1,a0.2.2.2.2.2.1,a0.2.2.2.2.2.2.1,a0.2.2.2.2.2.2.2.1,a0.2.2.2.2.2.2.2.2.1,([]:List (List aw)),([]:List af),([]:List ah),([]:List ag),([]:List ag),([]:List Int),([]:List Int),()))) fun ((Es,_),(yr,yu,_),(_,yv,uC,yw,_),_,wK,yx,BX,_,BY,BZ,U8,U9,_)=>
 .ite (!Es)
 (.ite (decide (List.length wK+List.length ([(yv,uC,yw,0,0,())]:List ah)≤bV))
 (.ret (((yr,yu,yx,BX,(wK++([(yv,uC,yw,0,0,())]:List ah)),BY,BZ,U8,U9,()),(true,()),()),((),(),())))
 .fail)
 (.ret (((yr,yu,yx,BX,wK,BY,BZ,U8,U9,()),(true,()),()),((),(),())))))
 (.ret ((a0,(false,()),()),((),(),()))))
 (.ite (decide ((aF a0.2.2.2.2.1 a1.2.1)<0))
 (.ret ((a0,(false,()),()),((),(),())))
 (.ite ((a1.1==11))
 (.ite (decide (0≤(aF a0.2.2.2.2.1 a1.2.1)∧(aF a0.2.2.2.2.1 a1.2.1)<((List.length a0.2.2.2.2.1:Nat):Int)))
 (.get (nth a0.2.2.2.2.1 (Int.toNat (aF a0.2.2.2.2.1 a1.2.1))) fun y2=>
 .ite (decide (0≤(aF a0.2.2.2.2.1 a1.2.1)∧(aF a0.2.2.2.2.1 a1.2.1)<((List.length a0.2.2.2.2.1:Nat):Int)))
 (.get (nth a0.2.2.2.2.1 (Int.toNat (aF a0.2.2.2.2.1 a1.2.1))) fun y3=>
 .ret (((a0.1,a0.2.1,a0.2.2.1,a0.2.2.2.1,(List.set a0.2.2.2.2.1 (Int.toNat (aF a0.2.2.2.2.1 a1.2.1)) (y3.1,(y3.2.1,(y3.2.2.1,(y3.2.2.2.1,((IntKind.i64.wrap (y2.2.2.2.2.1+a1.2.2.1)),y3.2.2.2.2.2)))))),a0.2.2.2.2.2),(true,()),()),((),(),())))
 .fail)
 .fail)
 (.ite ((a1.1==13))
 (.ite (decide (0≤(aF a0.2.2.2.2.1 a1.2.1)∧(aF a0.2.2.2.2.1 a1.2.1)<((List.length a0.2.2.2.2.1:Nat):Int)))
 (.get (nth a0.2.2.2.2.1 (Int.toNat (aF a0.2.2.2.2.1 a1.2.1))) fun y4=>
 .ret (((a0.1,a0.2.1,a0.2.2.1,a0.2.2.2.1,(List.set a0.2.2.2.2.1 (Int.toNat (aF a0.2.2.2.2.1 a1.2.1)) (y4.1,(y4.2.1,(y4.2.2.1,(a1.2.2.1,y4.2.2.2.2))))),a0.2.2.2.2.2),(true,()),()),((),(),())))
 .fail)
 (.ite (decide (0≤(0:Int)∧(0:Int)≤(aF a0.2.2.2.2.1 a1.2.1)∧(aF a0.2.2.2.2.1 a1.2.1)≤((List.length a0.2.2.2.2.1:Nat):Int)))
 (.ite (decide (List.length ([]:List ah)+List.length (List.take (Int.toNat (aF a0.2.2.2.2.1 a1.2.1) - Int.toNat (0:Int)) (List.drop (0+Int.toNat (0:Int)) a0.2.2.2.2.1))≤bV))
 (.ite (decide (0≤(IntKind.i64.wrap ((aF a0.2.2.2.2.1 a1.2.1)+1))∧(IntKind.i64.wrap ((aF a0.2.2.2.2.1 a1.2.1)+1))≤((List.length a0.2.2.2.2.1:Nat):Int)∧((List.length a0.2.2.2.2.1:Nat):Int)≤((List.length a0.2.2.2.2.1:Nat):Int)))
 (.ite (decide (List.length (([]:List ah)++(List.take (Int.toNat (aF a0.2.2.2.2.1 a1.2.1) - Int.toNat (0:Int)) (List.drop (0+Int.toNat (0:Int)) a0.2.2.2.2.1)))+List.length (List.take (Int.toNat ((List.length a0.2.2.2.2.1:Nat):Int) - Int.toNat (IntKind.i64.wrap ((aF a0.2.2.2.2.1 a1.2.1)+1))) (List.drop (0+Int.toNat (IntKind.i64.wrap ((aF a0.2.2.2.2.1 a1.2.1)+1))) a0.2.2.2.2.1))≤bV))
 (.ret (((a0.1,a0.2.1,a0.2.2.1,a0.2.2.2.1,((([]:List ah)++(List.take (Int.toNat (aF a0.2.2.2.2.1 a1.2.1) - Int.toNat (0:Int)) (List.drop (0+Int.toNat (0:Int)) a0.2.2.2.2.1)))++(List.take (Int.toNat ((List.length a0.2.2.2.2.1:Nat):Int) - Int.toNat (IntKind.i64.wrap ((aF a0.2.2.2.2.1 a1.2.1)+1))) (List.drop (0+Int.toNat (IntKind.i64.wrap ((aF a0.2.2.2.2.1 a1.2.1)+1))) a0.2.2.2.2.1))),a0.2.2.2.2.2),(true,()),()),((),(),())))
 .fail)
 .fail)
 .fail)
 .fail))))
def zX (x:t4×t12×Unit):=(m5 x).eval
abbrev Ny:List (Nat×dT):=[(64000000, .var [.i .i64, .i .i64, .aP 64000004, .aP 64000005, .aP 64000006, .aP 64000007, .aP 64000008, .aP 64000009, .aP 64000010]),(64000001, .var [.i .i64, .i .i64, .i .i64, .i .i64, .ro br (some 7)]),(64000002, .var [.i .i64, .i .i64, .aP 64000011, .aP 64000012, .aP 64000013, .aP 64000014, .aP 64000015, .aP 64000016, .aP 64000017]),(64000003, .arr cH),(64000004, .arr (.fz b8)),(64000005, .arr eM),(64000006, .arr cH),(64000007, .arr bW),(64000008, .arr bW),(64000009, .arr br),(64000010, .arr br),(64000011, .arr (.fz b8)),(64000012, .arr eM),(64000013, .arr cH),(64000014, .arr bW),(64000015, .arr bW),(64000016, .arr br),(64000017, .arr br)]
def afy:Nat→Option aq:=fun n=>bU [(0,⟨⟨[.dead, .dead, .vptr 64000000 0, .vptr 64000001 0, .vptr 64000002 0, .dead, .dead, .aP 64000003, .b, .i .i64]++dd 116,Ny⟩,⟨[.dead, .dead, .vptr 64000000 0, .vptr 64000001 0, .vptr 64000002 0, .dead, .dead, .aP 64000003, .b]++dd 117,Ny⟩,none,false⟩)] n
def aju:bM:=cw 112 false [i4,i12] [none,none] [i4,i10] m5
theorem ZL:aju.Ok Tryz.prog:=bA bF [] [] [wL,wO] ⟨ra,kc,trivial⟩ afy Tryz.f112 [.cell 4 31, .tmp 5] fun x=>by kernel_rfl
abbrev afz:=(t4×t10×Unit)×XI
abbrev Nz:=(Bool×Int×Unit)×((Int×Int×Unit)×(Int×Int×Int×Int×List Int×Unit)×(Int×Int×Unit)×List ag×List (List aw)×List af×List ah×List ag×List ag×List Int×List Int×Cz)
def rn:Nz→Out (Round Nz ((Bool×Unit)×((Int×Int×Unit)×(Int×Int×Int×Int×List Int×Unit)×(Int×Int×Unit)×List ag×List (List aw)×List af×List ah×List ag×List ag×List Int×List Int×Cz)) Empty)
|((p0,p1,_),(p2,p3,_),(p4,p5,p6,p7,p8,_),(p9,cz,_),cE,dp,dh,du,cP,dG,dX,ep,eZ,fR,fZ,jm,lh,od,pN,_)=>
 .ite (decide (p1<((List.length cP:Nat):Int)))
 (.ite ((!p0)==true)
 (.ite (decide (0≤p1∧p1<((List.length cP:Nat):Int)))
 (.get (nth cP (Int.toNat p1)) fun y1=>
 .ite (decide (y1.1>p5))
 (.ite (decide (List.length cE+List.length ([(p5,([]:List Int),())]:List ag)≤bV))
 (.ite (decide (0≤p1∧p1<((List.length cP:Nat):Int)))
 (.get (nth cP (Int.toNat p1)) fun y2=>
 .ite (decide (List.length (cE++([(p5,([]:List Int),())]:List ag))+List.length ([y2]:List ag)≤bV))
 (.ret (.again ((true,(IntKind.i64.wrap (p1+1)),()),((p2,p3,()),(p4,p5,p6,p7,p8,()),(p9,cz,()),((cE++([(p5,([]:List Int),())]:List ag))++([y2]:List ag)),dp,dh,du,cP,dG,dX,ep,eZ,fR,fZ,jm,lh,od,pN,()))))
 .fail)
 .fail)
 .fail)
 (.ite (decide (0≤p1∧p1<((List.length cP:Nat):Int)))
 (.get (nth cP (Int.toNat p1)) fun y3=>
 .ite (decide (List.length cE+List.length ([y3]:List ag)≤bV))
 (.ret (.again ((p0,(IntKind.i64.wrap (p1+1)),()),((p2,p3,()),(p4,p5,p6,p7,p8,()),(p9,cz,()),(cE++([y3]:List ag)),dp,dh,du,cP,dG,dX,ep,eZ,fR,fZ,jm,lh,od,pN,()))))
 .fail)
 .fail))
 .fail)
 (.ite (decide (0≤p1∧p1<((List.length cP:Nat):Int)))
 (.get (nth cP (Int.toNat p1)) fun y4=>
 .ite (decide (List.length cE+List.length ([y4]:List ag)≤bV))
 (.ret (.again ((p0,(IntKind.i64.wrap (p1+1)),()),((p2,p3,()),(p4,p5,p6,p7,p8,()),(p9,cz,()),(cE++([y4]:List ag)),dp,dh,du,cP,dG,dX,ep,eZ,fR,fZ,jm,lh,od,pN,()))))
 .fail)
 .fail))
 (.ret (.out ((p0,()),((p2,p3,()),(p4,p5,p6,p7,p8,()),(p9,cz,()),cE,dp,dh,du,cP,dG,dX,ep,eZ,fR,fZ,jm,lh,od,pN,()))))
def m6:t4×t12×Unit→Out afz
|(a0,a1,_)=>
 .ite ((a1.1==14))
 (.ite ((decide ((bp a0.2.2.2.2.2.1 a1.2.1)≥(0:Int)))==false)
 (.ite (!(dC a1.2.1 (0:Int) (2:Int)))
 (.ret ((a0,(false,()),()),((),(),())))
 (.get (b5 rn bn ((false,0,()),((a0.1,a0.2.1,()),(a1.1,a1.2.1,a1.2.2.1,a1.2.2.2.1,a1.2.2.2.2.1,()),(0,0,()),([]:List ag),a0.2.2.1,a0.2.2.2.1,a0.2.2.2.2.1,a0.2.2.2.2.2.1,a0.2.2.2.2.2.2.1,a0.2.2.2.2.2.2.2.1,a0.2.2.2.2.2.2.2.2.1,([]:List (List aw)),([]:List af),([]:List ah),([]:List ag),([]:List ag),([]:List Int),([]:List Int),()))) fun ((Es,_),(yr,yu,_),(_,yv,_),_,uC,yw,wK,yx,_,BX,BY,BZ,_)=>
 .ite (!Es)
 (.ite (decide (List.length uC+List.length ([(yv,([]:List Int),())]:List ag)≤bV))
 (.ret (((yr,yu,yw,wK,yx,(uC++([(yv,([]:List Int),())]:List ag)),BX,BY,BZ,()),(true,()),()),((),(),())))
 .fail)
 (.ret (((yr,yu,yw,wK,yx,uC,BX,BY,BZ,()),(true,()),()),((),(),())))))
 (.ret ((a0,(false,()),()),((),(),()))))
 (.ite (decide ((bp a0.2.2.2.2.2.1 a1.2.1)<0))
 (.ret ((a0,(false,()),()),((),(),())))
 (.ite (decide (0≤(bp a0.2.2.2.2.2.1 a1.2.1)∧(bp a0.2.2.2.2.2.1 a1.2.1)<((List.length a0.2.2.2.2.2.1:Nat):Int)))
 (.get (nth a0.2.2.2.2.2.1 (Int.toNat (bp a0.2.2.2.2.2.1 a1.2.1))) fun y2=>
 .ite ((a1.1==15))
 (.ite (decide (((List.length y2.2.1:Nat):Int)≥(4:Int)))
 (.ret ((a0,(false,()),()),((),(),())))
 (.ite (decide (List.length ([]:List Int)+List.length y2.2.1≤bV))
 (.ite (decide (List.length (([]:List Int)++y2.2.1)+List.length ([a1.2.2.1]:List Int)≤bV))
 (.ite (decide (0≤(bp a0.2.2.2.2.2.1 a1.2.1)∧(bp a0.2.2.2.2.2.1 a1.2.1)<((List.length a0.2.2.2.2.2.1:Nat):Int)))
 (.get (nth a0.2.2.2.2.2.1 (Int.toNat (bp a0.2.2.2.2.2.1 a1.2.1))) fun y3=>
 .ret (((a0.1,a0.2.1,a0.2.2.1,a0.2.2.2.1,a0.2.2.2.2.1,(List.set a0.2.2.2.2.2.1 (Int.toNat (bp a0.2.2.2.2.2.1 a1.2.1)) (y3.1,(((([]:List Int)++y2.2.1)++([a1.2.2.1]:List Int)),y3.2.2))),a0.2.2.2.2.2.2),(true,()),()),((),(),())))
 .fail)
 .fail)
 .fail))
 (.ite ((a1.1==16))
 (.ite ((((List.length y2.2.1:Nat):Int)==0))
 (.ret ((a0,(false,()),()),((),(),())))
 (.ite (decide (0≤(1:Int)∧(1:Int)≤((List.length y2.2.1:Nat):Int)))
 (.ite (decide (List.length ([]:List Int)+List.length (List.drop (Int.toNat (1:Int)) y2.2.1)≤bV))
 (.ite (decide (0≤(bp a0.2.2.2.2.2.1 a1.2.1)∧(bp a0.2.2.2.2.2.1 a1.2.1)<((List.length a0.2.2.2.2.2.1:Nat):Int)))
 (.get (nth a0.2.2.2.2.2.1 (Int.toNat (bp a0.2.2.2.2.2.1 a1.2.1))) fun y4=>
 .ret (((a0.1,a0.2.1,a0.2.2.1,a0.2.2.2.1,a0.2.2.2.2.1,(List.set a0.2.2.2.2.2.1 (Int.toNat (bp a0.2.2.2.2.2.1 a1.2.1)) (y4.1,((([]:List Int)++(List.drop (Int.toNat (1:Int)) y2.2.1)),y4.2.2))),a0.2.2.2.2.2.2),(true,()),()),((),(),())))
 .fail)
 .fail)
 .fail))
 (.ite (decide (0≤(0:Int)∧(0:Int)≤(bp a0.2.2.2.2.2.1 a1.2.1)∧(bp a0.2.2.2.2.2.1 a1.2.1)≤((List.length a0.2.2.2.2.2.1:Nat):Int)))
 (.ite (decide (List.length ([]:List ag)+List.length (List.take (Int.toNat (bp a0.2.2.2.2.2.1 a1.2.1) - Int.toNat (0:Int)) (List.drop (0+Int.toNat (0:Int)) a0.2.2.2.2.2.1))≤bV))
 (.ite (decide (0≤(IntKind.i64.wrap ((bp a0.2.2.2.2.2.1 a1.2.1)+1))∧(IntKind.i64.wrap ((bp a0.2.2.2.2.2.1 a1.2.1)+1))≤((List.length a0.2.2.2.2.2.1:Nat):Int)∧((List.length a0.2.2.2.2.2.1:Nat):Int)≤((List.length a0.2.2.2.2.2.1:Nat):Int)))
 (.ite (decide (List.length (([]:List ag)++(List.take (Int.toNat (bp a0.2.2.2.2.2.1 a1.2.1) - Int.toNat (0:Int)) (List.drop (0+Int.toNat (0:Int)) a0.2.2.2.2.2.1)))+List.length (List.take (Int.toNat ((List.length a0.2.2.2.2.2.1:Nat):Int) - Int.toNat (IntKind.i64.wrap ((bp a0.2.2.2.2.2.1 a1.2.1)+1))) (List.drop (0+Int.toNat (IntKind.i64.wrap ((bp a0.2.2.2.2.2.1 a1.2.1)+1))) a0.2.2.2.2.2.1))≤bV))
 (.ret (((a0.1,a0.2.1,a0.2.2.1,a0.2.2.2.1,a0.2.2.2.2.1,((([]:List ag)++(List.take (Int.toNat (bp a0.2.2.2.2.2.1 a1.2.1) - Int.toNat (0:Int)) (List.drop (0+Int.toNat (0:Int)) a0.2.2.2.2.2.1)))++(List.take (Int.toNat ((List.length a0.2.2.2.2.2.1:Nat):Int) - Int.toNat (IntKind.i64.wrap ((bp a0.2.2.2.2.2.1 a1.2.1)+1))) (List.drop (0+Int.toNat (IntKind.i64.wrap ((bp a0.2.2.2.2.2.1 a1.2.1)+1))) a0.2.2.2.2.2.1))),a0.2.2.2.2.2.2),(true,()),()),((),(),())))
 .fail)
 .fail)
 .fail)
 .fail)))
 .fail))
def zY (x:t4×t12×Unit):=(m6 x).eval
abbrev zE:List (Nat×dT):=[(64000000, .var [.i .i64, .i .i64, .aP 64000004, .aP 64000005, .aP 64000006, .aP 64000007, .aP 64000008, .aP 64000009, .aP 64000010]),(64000001, .var [.i .i64, .i .i64, .i .i64, .i .i64, .ro br (some 7)]),(64000002, .var [.i .i64, .i .i64, .aP 64000011, .aP 64000012, .aP 64000013, .aP 64000014, .aP 64000015, .aP 64000016, .aP 64000017]),(64000003, .arr bW),(64000004, .arr (.fz b8)),(64000005, .arr eM),(64000006, .arr cH),(64000007, .arr bW),(64000008, .arr bW),(64000009, .arr br),(64000010, .arr br),(64000011, .arr (.fz b8)),(64000012, .arr eM),(64000013, .arr cH),(64000014, .arr bW),(64000015, .arr bW),(64000016, .arr br),(64000017, .arr br)]
def afA:Nat→Option aq:=fun n=>bU [(0,⟨⟨[.dead, .dead, .vptr 64000000 0, .vptr 64000001 0, .vptr 64000002 0, .dead, .dead, .aP 64000003, .b, .i .i64]++dd 123,zE⟩,⟨[.dead, .dead, .vptr 64000000 0, .vptr 64000001 0, .vptr 64000002 0, .dead, .dead, .aP 64000003, .b]++dd 124,zE⟩,none,false⟩)] n
def ajv:bM:=cw 113 false [i4,i12] [none,none] [i4,i10] m6
theorem ZM:ajv.Ok Tryz.prog:=bA bF [] [(6925,6),(7946,6)] [yA,wO] ⟨uI,kc,trivial⟩ afA Tryz.f113 [.cell 4 31, .tmp 5] fun x=>by kernel_rfl
abbrev Ue:=(t4×t10×Unit)×XI
abbrev NA:=(Bool×Int×Unit)×((Int×Int×Unit)×(Int×Int×Int×Int×List Int×Unit)×(Int×Int×Unit)×List ag×List (List aw)×List af×List ah×List ag×List ag×List Int×List Int×Cz)
def rp:NA→Out (Round NA ((Bool×Unit)×((Int×Int×Unit)×(Int×Int×Int×Int×List Int×Unit)×(Int×Int×Unit)×List ag×List (List aw)×List af×List ah×List ag×List ag×List Int×List Int×Cz)) Empty)
|((p0,p1,_),(p2,p3,_),(p4,p5,p6,p7,p8,_),(p9,cz,_),cE,dp,dh,du,cP,dG,dX,ep,eZ,fR,fZ,jm,lh,od,pN,_)=>
 .ite (decide (p1<((List.length dG:Nat):Int)))
 (.ite ((!p0)==true)
 (.ite (decide (0≤p1∧p1<((List.length dG:Nat):Int)))
 (.get (nth dG (Int.toNat p1)) fun y1=>
 .ite (decide (y1.1>p5))
 (.ite (decide (List.length cE+List.length ([(p5,([]:List Int),())]:List ag)≤bV))
 (.ite (decide (0≤p1∧p1<((List.length dG:Nat):Int)))
 (.get (nth dG (Int.toNat p1)) fun y2=>
 .ite (decide (List.length (cE++([(p5,([]:List Int),())]:List ag))+List.length ([y2]:List ag)≤bV))
 (.ret (.again ((true,(IntKind.i64.wrap (p1+1)),()),((p2,p3,()),(p4,p5,p6,p7,p8,()),(p9,cz,()),((cE++([(p5,([]:List Int),())]:List ag))++([y2]:List ag)),dp,dh,du,cP,dG,dX,ep,eZ,fR,fZ,jm,lh,od,pN,()))))
 .fail)
 .fail)
 .fail)
 (.ite (decide (0≤p1∧p1<((List.length dG:Nat):Int)))
 (.get (nth dG (Int.toNat p1)) fun y3=>
 .ite (decide (List.length cE+List.length ([y3]:List ag)≤bV))
 (.ret (.again ((p0,(IntKind.i64.wrap (p1+1)),()),((p2,p3,()),(p4,p5,p6,p7,p8,()),(p9,cz,()),(cE++([y3]:List ag)),dp,dh,du,cP,dG,dX,ep,eZ,fR,fZ,jm,lh,od,pN,()))))
 .fail)
 .fail))
 .fail)
 (.ite (decide (0≤p1∧p1<((List.length dG:Nat):Int)))
 (.get (nth dG (Int.toNat p1)) fun y4=>
 .ite (decide (List.length cE+List.length ([y4]:List ag)≤bV))
 (.ret (.again ((p0,(IntKind.i64.wrap (p1+1)),()),((p2,p3,()),(p4,p5,p6,p7,p8,()),(p9,cz,()),(cE++([y4]:List ag)),dp,dh,du,cP,dG,dX,ep,eZ,fR,fZ,jm,lh,od,pN,()))))
 .fail)
 .fail))
 (.ret (.out ((p0,()),((p2,p3,()),(p4,p5,p6,p7,p8,()),(p9,cz,()),cE,dp,dh,du,cP,dG,dX,ep,eZ,fR,fZ,jm,lh,od,pN,()))))
def NB (v0:Int) (v1:Int) (v2:Int) (v3:List Int) (v4:List (List aw)) (v5:List af) (v6:List ah) (v7:List ag) (v8:List ag) (v9:List Int) (v10:List Int):Out (Ue):=
 .ite (decide (0≤v0∧v0<((List.length v8:Nat):Int)))
 (.get (nth v8 (Int.toNat v0)) fun y3=>
 .ret (((v1,v2,v4,v5,v6,v7,(List.set v8 (Int.toNat v0) (y3.1,(v3,y3.2.2))),v9,v10,()),(true,()),()),((),(),())))
 .fail
def pY:t4×t12×Unit→Out Ue
|(a0,a1,_)=>
 .ite ((a1.1==18))
 (.ite ((decide ((bt a0.2.2.2.2.2.2.1 a1.2.1)≥(0:Int)))==false)
 (.ite (!(dC a1.2.1 (0:Int) (5:Int)))
 (.ret ((a0,(false,()),()),((),(),())))
 (.get (b5 rp bn ((false,0,()),((a0.1,a0.2.1,()),(a1.1,a1.2.1,a1.2.2.1,a1.2.2.2.1,a1.2.2.2.2.1,()),(0,0,()),([]:List ag),a0.2.2.1,a0.2.2.2.1,a0.2.2.2.2.1,a0.2.2.2.2.2.1,a0.2.2.2.2.2.2.1,a0.2.2.2.2.2.2.2.1,a0.2.2.2.2.2.2.2.2.1,([]:List (List aw)),([]:List af),([]:List ah),([]:List ag),([]:List ag),([]:List Int),([]:List Int),()))) fun ((Es,_),(yr,yu,_),(_,yv,_),_,uC,yw,wK,yx,BX,_,BY,BZ,_)=>
 .ite (!Es)
 (.ite (decide (List.length uC+List.length ([(yv,([]:List Int),())]:List ag)≤bV))
 (.ret (((yr,yu,yw,wK,yx,BX,(uC++([(yv,([]:List Int),())]:List ag)),BY,BZ,()),(true,()),()),((),(),())))
 .fail)
 (.ret (((yr,yu,yw,wK,yx,BX,uC,BY,BZ,()),(true,()),()),((),(),())))))
 (.ret ((a0,(false,()),()),((),(),()))))
 (.ite (decide ((bt a0.2.2.2.2.2.2.1 a1.2.1)<0))
 (.ret ((a0,(false,()),()),((),(),())))
 (.ite ((a1.1==20))
 (.ite (decide (0≤(0:Int)∧(0:Int)≤(bt a0.2.2.2.2.2.2.1 a1.2.1)∧(bt a0.2.2.2.2.2.2.1 a1.2.1)≤((List.length a0.2.2.2.2.2.2.1:Nat):Int)))
 (.ite (decide (List.length ([]:List ag)+List.length (List.take (Int.toNat (bt a0.2.2.2.2.2.2.1 a1.2.1) - Int.toNat (0:Int)) (List.drop (0+Int.toNat (0:Int)) a0.2.2.2.2.2.2.1))≤bV))
 (.ite (decide (0≤(IntKind.i64.wrap ((bt a0.2.2.2.2.2.2.1 a1.2.1)+1))∧(IntKind.i64.wrap ((bt a0.2.2.2.2.2.2.1 a1.2.1)+1))≤((List.length a0.2.2.2.2.2.2.1:Nat):Int)∧((List.length a0.2.2.2.2.2.2.1:Nat):Int)≤((List.length a0.2.2.2.2.2.2.1:Nat):Int)))
 (.ite (decide (List.length (([]:List ag)++(List.take (Int.toNat (bt a0.2.2.2.2.2.2.1 a1.2.1) - Int.toNat (0:Int)) (List.drop (0+Int.toNat (0:Int)) a0.2.2.2.2.2.2.1)))+List.length (List.take (Int.toNat ((List.length a0.2.2.2.2.2.2.1:Nat):Int) - Int.toNat (IntKind.i64.wrap ((bt a0.2.2.2.2.2.2.1 a1.2.1)+1))) (List.drop (0+Int.toNat (IntKind.i64.wrap ((bt a0.2.2.2.2.2.2.1 a1.2.1)+1))) a0.2.2.2.2.2.2.1))≤bV))
 (.ret (((a0.1,a0.2.1,a0.2.2.1,a0.2.2.2.1,a0.2.2.2.2.1,a0.2.2.2.2.2.1,((([]:List ag)++(List.take (Int.toNat (bt a0.2.2.2.2.2.2.1 a1.2.1) - Int.toNat (0:Int)) (List.drop (0+Int.toNat (0:Int)) a0.2.2.2.2.2.2.1)))++(List.take (Int.toNat ((List.length a0.2.2.2.2.2.2.1:Nat):Int) - Int.toNat (IntKind.i64.wrap ((bt a0.2.2.2.2.2.2.1 a1.2.1)+1))) (List.drop (0+Int.toNat (IntKind.i64.wrap ((bt a0.2.2.2.2.2.2.1 a1.2.1)+1))) a0.2.2.2.2.2.2.1))),a0.2.2.2.2.2.2.2),(true,()),()),((),(),())))
 .fail)
 .fail)
 .fail)
 .fail)
 (.ite (decide (0≤(bt a0.2.2.2.2.2.2.1 a1.2.1)∧(bt a0.2.2.2.2.2.2.1 a1.2.1)<((List.length a0.2.2.2.2.2.2.1:Nat):Int)))
 (.get (nth a0.2.2.2.2.2.2.1 (Int.toNat (bt a0.2.2.2.2.2.2.1 a1.2.1))) fun y2=>
 .ite (decide (List.length ([]:List Int)+List.length y2.2.1≤bV))
 (.ite ((decide (a1.2.2.1<0))==false)
 (.ite ((decide (a1.2.2.1>((List.length (([]:List Int)++y2.2.1):Nat):Int)))==false)
 (.ite (decide (a1.2.2.1≥(8:Int)))
 (.ret ((a0,(false,()),()),((),(),())))
 (.ite ((a1.2.2.1==((List.length (([]:List Int)++y2.2.1):Nat):Int)))
 (.ite (decide (List.length (([]:List Int)++y2.2.1)+List.length ([a1.2.2.2.1]:List Int)≤bV))
 (NB (bt a0.2.2.2.2.2.2.1 a1.2.1) a0.1 a0.2.1 ((([]:List Int)++y2.2.1)++([a1.2.2.2.1]:List Int)) a0.2.2.1 a0.2.2.2.1 a0.2.2.2.2.1 a0.2.2.2.2.2.1 a0.2.2.2.2.2.2.1 a0.2.2.2.2.2.2.2.1 a0.2.2.2.2.2.2.2.2.1)
 .fail)
 (.ite (decide (0≤a1.2.2.1∧a1.2.2.1<((List.length (([]:List Int)++y2.2.1):Nat):Int)))
 (.get (nth (([]:List Int)++y2.2.1) (Int.toNat a1.2.2.1)) fun _=>
 NB (bt a0.2.2.2.2.2.2.1 a1.2.1) a0.1 a0.2.1 (List.set (([]:List Int)++y2.2.1) (Int.toNat a1.2.2.1) a1.2.2.2.1) a0.2.2.1 a0.2.2.2.1 a0.2.2.2.2.1 a0.2.2.2.2.2.1 a0.2.2.2.2.2.2.1 a0.2.2.2.2.2.2.2.1 a0.2.2.2.2.2.2.2.2.1)
 .fail)))
 (.ret ((a0,(false,()),()),((),(),()))))
 (.ret ((a0,(false,()),()),((),(),()))))
 .fail)
 .fail)))
def E3 (x:t4×t12×Unit):=(pY x).eval
def afB:Nat→Option aq:=fun n=>bU [(0,⟨⟨[.dead, .dead, .vptr 64000000 0, .vptr 64000001 0, .vptr 64000002 0, .dead, .dead, .aP 64000003, .b, .i .i64]++dd 132,zE⟩,⟨[.dead, .dead, .vptr 64000000 0, .vptr 64000001 0, .vptr 64000002 0, .dead, .dead, .aP 64000003, .b]++dd 133,zE⟩,none,false⟩)] n
def ajw:bM:=cw 114 false [i4,i12] [none,none] [i4,i10] pY
theorem ZN:ajw.Ok Tryz.prog:=bA bF [] [(7687,6)] [yB,wO] ⟨uK,kc,trivial⟩ afB Tryz.f114 [.cell 4 31, .tmp 5] fun x=>by kernel_rfl
abbrev afC:=(t4×t10×Unit)×XI
abbrev NC:=(Int×Unit)×((Int×Int×Unit)×(Int×Int×Int×Int×List Int×Unit)×(Int×Int×Unit)×List (List aw)×List af×List ah×List ag×List ag×List Int×List Int×Cz)
def mE:NC→Out (Round NC ((Unit)×((Int×Int×Unit)×(Int×Int×Unit)×List (List aw)×List af×List ah×List ag×List ag×List Int×List Int×Cz)) ((Bool×Unit)×((Int×Int×Unit)×Cz)))
|((p0,_),(p1,p2,_),(p3,p4,p5,p6,p7,_),(p8,p9,_),cz,cE,dp,dh,du,cP,dG,dX,ep,eZ,fR,fZ,jm,lh,_)=>
 .ite (decide (p0<((List.length cP:Nat):Int)))
 (.ite (decide (0≤p0∧p0<((List.length cP:Nat):Int)))
 (.get (nth cP (Int.toNat p0)) fun y1=>
 .ite ((y1==p4))
 (.ite (decide (0≤(0:Int)∧(0:Int)≤p0∧p0≤((List.length cP:Nat):Int)))
 (.ite (decide (List.length ([]:List Int)+List.length (List.take (Int.toNat p0 - Int.toNat (0:Int)) (List.drop (0+Int.toNat (0:Int)) cP))≤bV))
 (.ite (decide (0≤(IntKind.i64.wrap (p0+1))∧(IntKind.i64.wrap (p0+1))≤((List.length cP:Nat):Int)∧((List.length cP:Nat):Int)≤((List.length cP:Nat):Int)))
 (.ite (decide (List.length (([]:List Int)++(List.take (Int.toNat p0 - Int.toNat (0:Int)) (List.drop (0+Int.toNat (0:Int)) cP)))+List.length (List.take (Int.toNat ((List.length cP:Nat):Int) - Int.toNat (IntKind.i64.wrap (p0+1))) (List.drop (0+Int.toNat (IntKind.i64.wrap (p0+1))) cP))≤bV))
 (.ret (.ret ((true,()),((p1,p2,()),cz,cE,dp,dh,du,((([]:List Int)++(List.take (Int.toNat p0 - Int.toNat (0:Int)) (List.drop (0+Int.toNat (0:Int)) cP)))++(List.take (Int.toNat ((List.length cP:Nat):Int) - Int.toNat (IntKind.i64.wrap (p0+1))) (List.drop (0+Int.toNat (IntKind.i64.wrap (p0+1))) cP))),dG,()))))
 .fail)
 .fail)
 .fail)
 .fail)
 (.ret (.again (((IntKind.i64.wrap (p0+1)),()),((p1,p2,()),(p3,p4,p5,p6,p7,()),(p8,p9,()),cz,cE,dp,dh,du,cP,dG,dX,ep,eZ,fR,fZ,jm,lh,())))))
 .fail)
 (.ret (.out ((),((p1,p2,()),(p8,p9,()),cz,cE,dp,dh,du,cP,dG,dX,ep,eZ,fR,fZ,jm,lh,()))))
def m7:t4×t12×Unit→Out afC
|(a0,a1,_)=>
 .ite ((a1.1==21))
 (.ite (decide (((List.length a0.2.2.2.2.2.2.2.1:Nat):Int)≥(6:Int)))
 (.ret ((a0,(false,()),()),((),(),())))
 (.ite (decide (List.length a0.2.2.2.2.2.2.2.1+List.length ([a1.2.1]:List Int)≤bV))
 (.ret (((a0.1,a0.2.1,a0.2.2.1,a0.2.2.2.1,a0.2.2.2.2.1,a0.2.2.2.2.2.1,a0.2.2.2.2.2.2.1,(a0.2.2.2.2.2.2.2.1++([a1.2.1]:List Int)),a0.2.2.2.2.2.2.2.2),(true,()),()),((),(),())))
 .fail))
 (.ite ((a1.1==22))
 (.get (iter mE bn ((0,()),((a0.1,a0.2.1,()),(a1.1,a1.2.1,a1.2.2.1,a1.2.2.2.1,a1.2.2.2.2.1,()),(0,0,()),a0.2.2.1,a0.2.2.2.1,a0.2.2.2.2.1,a0.2.2.2.2.2.1,a0.2.2.2.2.2.2.1,a0.2.2.2.2.2.2.2.1,a0.2.2.2.2.2.2.2.2.1,([]:List (List aw)),([]:List af),([]:List ah),([]:List ag),([]:List ag),([]:List Int),([]:List Int),()))) fun y1=> .alt y1 (fun y2=>
 .ret (((y2.2.1.1,y2.2.1.2.1,y2.2.2.2.1,y2.2.2.2.2.1,y2.2.2.2.2.2.1,y2.2.2.2.2.2.2.1,y2.2.2.2.2.2.2.2.1,y2.2.2.2.2.2.2.2.2.1,y2.2.2.2.2.2.2.2.2.2.1,()),(false,()),()),((),(),()))) (fun y3=>
 .ret (((y3.2.1.1,y3.2.1.2.1,y3.2.2.1,y3.2.2.2.1,y3.2.2.2.2.1,y3.2.2.2.2.2.1,y3.2.2.2.2.2.2.1,y3.2.2.2.2.2.2.2.1,y3.2.2.2.2.2.2.2.2.1,()),(y3.1.1,()),()),((),(),()))))
 (.ite ((a1.1==23))
 (.ite (decide (((List.length a0.2.2.2.2.2.2.2.2.1:Nat):Int)≥(60:Int)))
 (.ret ((a0,(false,()),()),((),(),())))
 (.ite (decide (List.length a0.2.2.2.2.2.2.2.2.1+List.length ([a1.2.1]:List Int)≤bV))
 (.ret (((a0.1,a0.2.1,a0.2.2.1,a0.2.2.2.1,a0.2.2.2.2.1,a0.2.2.2.2.2.1,a0.2.2.2.2.2.2.1,a0.2.2.2.2.2.2.2.1,(a0.2.2.2.2.2.2.2.2.1++([a1.2.1]:List Int)),()),(true,()),()),((),(),())))
 .fail))
 (.ite ((a1.1==24))
 (.ite (decide (a0.2.1≥(1000000:Int)))
 (.ret ((a0,(false,()),()),((),(),())))
 (.ret (((a0.1,(IntKind.i64.wrap (a0.2.1+1)),a0.2.2),(true,()),()),((),(),()))))
 (.ret ((a0,(false,()),()),((),(),()))))))
def zZ (x:t4×t12×Unit):=(m7 x).eval
def afD:Nat→Option aq:=fun n=>bU [(1,⟨⟨[.dead, .dead, .vptr 64000000 0, .vptr 64000001 0, .vptr 64000002 0, .dead, .i .i64]++dd 76,[(64000000, .var [.i .i64, .i .i64, .aP 64000003, .aP 64000004, .aP 64000005, .aP 64000006, .aP 64000007, .aP 64000008, .aP 64000009]),(64000001, .var [.i .i64, .i .i64, .i .i64, .i .i64, .ro br (some 7)]),(64000002, .var [.i .i64, .i .i64, .aP 64000010, .aP 64000011, .aP 64000012, .aP 64000013, .aP 64000014, .aP 64000015, .aP 64000016]),(64000003, .arr (.fz b8)),(64000004, .arr eM),(64000005, .arr cH),(64000006, .arr bW),(64000007, .arr bW),(64000008, .arr br),(64000009, .arr br),(64000010, .arr (.fz b8)),(64000011, .arr eM),(64000012, .arr cH),(64000013, .arr bW),(64000014, .arr bW),(64000015, .arr br),(64000016, .arr br)]⟩,⟨[.dead, .dead, .vptr 64000000 0, .dead, .vptr 64000001 0]++dd 78,[(64000000, .var [.i .i64, .i .i64, .aP 64000002, .aP 64000003, .aP 64000004, .aP 64000005, .aP 64000006, .aP 64000007, .aP 64000008]),(64000001, .var [.i .i64, .i .i64, .aP 64000009, .aP 64000010, .aP 64000011, .aP 64000012, .aP 64000013, .aP 64000014, .aP 64000015]),(64000002, .arr (.fz b8)),(64000003, .arr eM),(64000004, .arr cH),(64000005, .arr bW),(64000006, .arr bW),(64000007, .arr br),(64000008, .arr br),(64000009, .arr (.fz b8)),(64000010, .arr eM),(64000011, .arr cH),(64000012, .arr bW),(64000013, .arr bW),(64000014, .arr br),(64000015, .arr br)]⟩,some ⟨dd 4++[.vptr 64000000 0, .b]++dd 77,[(64000000, .var [.i .i64, .i .i64, .aP 64000001, .aP 64000002, .aP 64000003, .aP 64000004, .aP 64000005, .aP 64000006, .aP 64000007]),(64000001, .arr (.fz b8)),(64000002, .arr eM),(64000003, .arr cH),(64000004, .arr bW),(64000005, .arr bW),(64000006, .arr br),(64000007, .arr br)]⟩,false⟩)] n
def ajx:bM:=cw 115 false [i4,i12] [none,none] [i4,i10] m7
theorem ZO:ajx.Ok Tryz.prog:=bA bF [] [] [] trivial afD Tryz.f115 [.cell 4 31, .tmp 5] fun x=>by kernel_rfl
abbrev ajy:=(t4×t10×Unit)×XI
def cA:t4×t12×Unit→Out ajy
|(a0,a1,_)=>
 .ite ((a1.1==4))
 (.get (QG (a0,a1,())) fun ((eu,y1b,_),_)=>
 .ret ((eu,y1b,()),((),(),())))
 (.ite ((dC a1.1 (1:Int) (9:Int))==false)
 (.ite (dC a1.1 (25:Int) (26:Int))
 (.get (kT (a0,a1,())) fun ((b9,y2b,_),_)=>
 .ret ((b9,y2b,()),((),(),())))
 (.ite (dC a1.1 (10:Int) (13:Int))
 (.get (zX (a0,a1,())) fun ((dF,y3b,_),_)=>
 .ret ((dF,y3b,()),((),(),())))
 (.ite (dC a1.1 (14:Int) (17:Int))
 (.get (zY (a0,a1,())) fun ((gA,y4b,_),_)=>
 .ret ((gA,y4b,()),((),(),())))
 (.ite (dC a1.1 (18:Int) (20:Int))
 (.get (E3 (a0,a1,())) fun ((ja,Z7,_),_)=>
 .ret ((ja,Z7,()),((),(),())))
 (.get (zZ (a0,a1,())) fun ((lp,y6b,_),_)=>
 .ret ((lp,y6b,()),((),(),())))))))
 (.get (kT (a0,a1,())) fun ((kR,y7b,_),_)=>
 .ret ((kR,y7b,()),((),(),()))))
def fI (x:t4×t12×Unit):=(cA x).eval
def k38:bM:=cw 38 false [i4,i12] [none,none] [i4,i10] cA
theorem abN:k38.Ok Tryz.prog:=bA bF [] [] [ajt,wO,ajs,aju,ajv,ajw,ajx] ⟨ZK,kc,ZJ,ZL,ZM,ZN,ZO,trivial⟩ (fun _=>none) Tryz.f38 [.cell 4 31, .tmp 5] fun x=>by kernel_rfl
end Go.Proofs.YtohagdoklnkljaaGreat.Dm
