/- f -/
import Derived.Test.YtkmhgofibfmjfaaGreatJ8
namespace Go.Proofs.YtkmhgofibfmjfaaGreat.Dm
open Go Go.ChangeShapes Go.WideShapes Go.ChangeAt Go.RowKit
def arO:List (Nat×Ty):=[(24,(.sl (.fz cT))),(25,(.sl mX)),(27,(.sl dQ)),(28,(.sl dQ)),(30,(.st (.cons eG (.cons eG (.cons (.sl (.fz cT)) (.cons (.sl mX) (.cons (.sl eF) (.cons (.sl dQ) (.cons (.sl dQ) (.cons (.sl eG) (.cons (.sl eG) .nil))))))))))),(31,(.st (.cons eG (.cons eG (.cons (.sl (.fz cT)) (.cons (.sl mX) (.cons (.sl eF) (.cons (.sl dQ) (.cons (.sl dQ) (.cons (.sl eG) (.cons (.sl eG) .nil))))))))))),(54,dQ),(55,dQ),(56,mX),(57,mX),(62,dQ),(63,dQ),(64,dQ),(65,dQ),(137,(.sl AX)),(138,(.st (.cons (.st (.cons eG (.cons eG (.cons (.sl (.fz cT)) (.cons (.sl mX) (.cons (.sl eF) (.cons (.sl dQ) (.cons (.sl dQ) (.cons (.sl eG) (.cons (.sl eG) .nil)))))))))) (.cons (.sl AX) .nil)))),(139,(.st (.cons (.st (.cons eG (.cons eG (.cons (.sl (.fz cT)) (.cons (.sl mX) (.cons (.sl eF) (.cons (.sl dQ) (.cons (.sl dQ) (.cons (.sl eG) (.cons (.sl eG) .nil)))))))))) (.cons (.sl AX) .nil)))),(159,AX),(160,AX)]++Se
theorem bR:JN Tryz.prog arO=true:=by kernel_rfl
def arP:List (Nat×Ty):=[(24,(.sl (.fz cT))),(25,(.sl tyY)),(27,(.sl dQ)),(28,(.sl dQ)),(30,(.st (.cons eG (.cons eG (.cons (.sl (.fz cT)) (.cons (.sl mX) (.cons (.sl eF) (.cons (.sl dQ) (.cons (.sl dQ) (.cons (.sl eG) (.cons (.sl eG) .nil))))))))))),(31,(.st (.cons eG (.cons eG (.cons (.sl (.fz cT)) (.cons (.sl mX) (.cons (.sl eF) (.cons (.sl dQ) (.cons (.sl dQ) (.cons (.sl eG) (.cons (.sl eG) .nil))))))))))),(54,dQ),(55,dQ),(56,tyY),(57,tyY),(62,dQ),(63,dQ),(64,dQ),(65,dQ),(137,(.sl AX)),(138,(.st (.cons (.st (.cons eG (.cons eG (.cons (.sl (.fz cT)) (.cons (.sl mX) (.cons (.sl eF) (.cons (.sl dQ) (.cons (.sl dQ) (.cons (.sl eG) (.cons (.sl eG) .nil)))))))))) (.cons (.sl AX) .nil)))),(139,(.st (.cons (.st (.cons eG (.cons eG (.cons (.sl (.fz cT)) (.cons (.sl mX) (.cons (.sl eF) (.cons (.sl dQ) (.cons (.sl dQ) (.cons (.sl eG) (.cons (.sl eG) .nil)))))))))) (.cons (.sl AX) .nil)))),(159,AX),(160,AX)]++Se
theorem acj:JN Tryz.prog arP=true:=by kernel_rfl
abbrev i0:Item:=⟨false,false,[.own eG]⟩
abbrev i1:Item:=wl
abbrev i2:Item:=⟨false,false,[.own (.fz cT)]⟩
abbrev i3:Item:=⟨false,false,[.ro (.fz cT)]⟩
abbrev i4:Item:=⟨false,true,[.i .i64, .i .i64, .own (.fz cT), .own mX, .own eF, .own dQ, .own dQ, .own eG, .own eG]⟩
abbrev i5:Item:=⟨false,true,[.i .i64, .i .i64, .ro (.fz cT), .ro mX, .ro eF, .ro dQ, .ro dQ, .ro eG, .ro eG]⟩
abbrev i6:Item:=Id
abbrev i7:Item:=⟨false,true,[.i .i64, .own eG]⟩
abbrev i8:Item:=At
abbrev i9:Item:=⟨false,false,[.ro eG]⟩
abbrev i10:Item:=wn
abbrev i11:Item:=⟨false,true,[.i .i64, .i .i64, .ro (.sl cT), .ro jc, .ro eF, .ro dp, .ro dp, .ro eG, .ro eG]⟩
abbrev i12:Item:=⟨false,true,[.i .i64, .i .i64, .i .i64, .i .i64, .ro eG]⟩
abbrev i13:Item:=⟨false,true,[.i .i64, .i .i64, .own (.fz cT), .own mX, .own eF, .own dQ, .own dQ, .own eG, .own eG, .own AX]⟩
abbrev i14:Item:=⟨false,true,[.i .i64, .ro eG]⟩
abbrev i15:Item:=⟨false,true,[.i .i64, .i .i64, .i .i64, .i .i64, .i .i64, .ro eG, .ro eG, .ro eG, .i .i64, .i .i64]⟩
abbrev i16:Item:=Fr
abbrev i17:Item:=Do
abbrev i18:Item:=IO
abbrev i19:Item:=GE
abbrev i20:Item:=wr
abbrev t0:Type:=List Int×Unit
abbrev t1:Type:=Int×Unit
abbrev t2:Type:=List md×Unit
abbrev t3:Type:=List md×Unit
abbrev t4:Type:=Int×Int×List md×List kw×List ms×List (Int×List Int×Unit)×List (Int×List Int×Unit)×List Int×List Int×Unit
abbrev t5:Type:=Int×Int×List md×List kw×List ms×List (Int×List Int×Unit)×List (Int×List Int×Unit)×List Int×List Int×Unit
abbrev t6:Type:=Int×Int×Int×Int×Unit
abbrev t7:Type:=Int×List Int×Unit
abbrev t8:Type:=List (Int×Int×Int×Int×Unit)×Unit
abbrev t9:Type:=List Int×Unit
abbrev t10:Type:=Bool×Unit
abbrev t11:Type:=Int×Int×List md×List kw×List ms×List (Int×List Int×Unit)×List (Int×List Int×Unit)×List Int×List Int×Unit
abbrev t12:Type:=Int×Int×Int×Int×List Int×Unit
abbrev t13:Type:=Int×Int×List md×List kw×List ms×List (Int×List Int×Unit)×List (Int×List Int×Unit)×List Int×List Int×List am×Unit
abbrev t14:Type:=Int×List Int×Unit
abbrev t15:Type:=Int×Int×Int×Int×Int×List Int×List Int×XE
abbrev t16:Type:=Int×Int×Int×Int×Int×Unit
abbrev b17:Type:=Int×Int×Unit
abbrev t17:Type:=List Int×Int×Int×Unit
abbrev t18:Type:=List (Int×Int×Int×Int×Unit)×Unit
abbrev t19:Type:=List Int×Unit
abbrev t20:Type:=List UInt8×Unit
abbrev aoF:=(t0×Unit)×(Unit×Unit)
def afn:t1×Unit→Out aoF
|(a0,_)=> .ite (decide (0≤a0.1∧a0.1≤a0.1∧a0.1≤(bn:Int))) (.ret ((((List.replicate (Int.toNat a0.1) (0:Int)),()),()),((),()))) .fail
def uu (x:t1×Unit):=(afn x).eval
def k48:bK:=dX 48 true [i1] [none] [i0] afn
theorem Im:k48.Ok acl:=ck jd [] [] [] trivial (λ_=>none) Tryz.f48 [.tmp 2] λx=>by kernel_rfl
abbrev ack:=(t2×Unit)×(Unit×Unit)
abbrev LF:=(Int×Unit)×(List (List ar)×List (List ar)×Unit)
def rY:LF→Out (Round LF ((Unit)×(List (List ar)×Unit)) Empty)
|((p0,_),p1,p2,_)=> .ite (decide (p0<((List.length p1:Nat):Int))) (.ite (decide (0≤p0∧p0<((List.length p1:Nat):Int))) (.get (nth p1 (Int.toNat p0)) λy1=> .ite (decide (List.length ([]:List ar)+List.length y1≤bn)) (.ite (decide (List.length p2+List.length ([(([]:List ar)++y1)]:List (List ar))≤bn)) (.ret (.again (((abs (p0+1)),()),(p1,(p2++([(([]:List ar)++y1)]:List (List ar))),())))) .fail) .fail) .fail) (.ret (.out ((),(p2,()))))
def Bu:t2×Unit→Out ack
|(a0,_)=> .get (aP rY aI ((0,()),(a0.1,([]:List (List ar)),()))) λy1=> .ret (((y1.2.1,()),()),((),()))
def Io (x:t2×Unit):=(Bu x).eval
abbrev WL:List (Nat×dT):=[(act, .arr (.fz cT))]
def acm:Nat→Option au:=λn=>bw [(0,⟨⟨[.aR act, .dead, .dead, .aR adc, .i .i64]++dd 17,[(act, .arr (.fz cT)),(adc, .arr (.fz cT))]⟩,⟨[.dead, .dead, .dead, .aR act]++dd 18,WL⟩,none,false⟩)] n
def afo:bK:=dX 126 false [i2] [none] [i2] Bu
theorem WM:afo.Ok acl:=ck bR [1287] [(1287,1)] [] trivial acm Tryz.f126 [.tmp 2] λx=>by kernel_rfl
abbrev aj5:=(t2×Unit)×(Unit×Unit)
abbrev PJ:=(List (List ar)×Int×Unit)×(List (List ar)×Unit)
def wR:PJ→Out (Round PJ ((Unit)×(List (List ar)×Unit)) Empty)
|((p0,p1,_),p2,_)=> .ite (decide (p1<((List.length p0:Nat):Int))) (.ite (decide (0≤p1)) (.get (nth p0 (Int.toNat p1)) λy1=> .ite (decide (List.length ([]:List ar)+List.length y1≤bn)) (.ite (decide (List.length p2+List.length ([(([]:List ar)++y1)]:List (List ar))≤bn)) (.ret (.again ((p0,(abs (p1+1)),()),((p2++([(([]:List ar)++y1)]:List (List ar))),())))) .fail) .fail) .fail) (.ret (.out ((),(p2,()))))
def Nl:t3×Unit→Out aj5
|(a0,_)=> .get (aP wR aI ((a0.1,0,()),(([]:List (List ar)),()))) λy1=> .ret (((y1.2.1,()),()),((),()))
def Nk (x:t3×Unit):=(Nl x).eval
abbrev aj6:=(t4×Unit)×(Unit×Unit)
abbrev PK:=(Int×Unit)×lc
def ti:PK→Out (Round PK ((Unit)×lc) Empty)
|((p0,_),(p1,p2,_),(p3,p4,_),(p5,p6,_),p7,p8,p9,bL,b8,cr,dc,cO,cn,cX,dz,dC,dP,eH,eC,_)=> .ite (decide (p0<((List.length p7:Nat):Int))) (.ite (decide (0≤p0∧p0<((List.length p7:Nat):Int))) (.get (nth p7 (Int.toNat p0)) λy1=> .get (gS y1.1 y1.2.1 y1.2.2.1 y1.2.2.2.1 y1.2.2.2.2.1.1 y1.2.2.2.2.1.2.1 y1.2.2.2.2.2.1 y1.2.2.2.2.2.2.1 y1.2.2.2.2.2.2.2.1 y1.2.2.2.2.2.2.2.2.1) λy2=> .ite (decide (List.length eC+List.length ([(y2.1,y2.2.1,y2.2.2.1,y2.2.2.2.1,(y2.2.2.2.2.1,y2.2.2.2.2.2.1,()),y2.2.2.2.2.2.2.1,y2.2.2.2.2.2.2.2.1,y2.2.2.2.2.2.2.2.2.1,y2.2.2.2.2.2.2.2.2.2,())]:List af)≤bn)) (.ret (.again (((abs (p0+1)),()),((p1,p2,()),(p3,p4,()),(p5,p6,()),(List.set p7 (Int.toNat p0) y1),p8,p9,bL,b8,cr,dc,cO,cn,cX,dz,dC,dP,eH,(eC++([(y2.1,y2.2.1,y2.2.2.1,y2.2.2.2.1,(y2.2.2.2.2.1,y2.2.2.2.2.2.1,()),y2.2.2.2.2.2.2.1,y2.2.2.2.2.2.2.2.1,y2.2.2.2.2.2.2.2.2.1,y2.2.2.2.2.2.2.2.2.2,())]:List af)),())))) .fail) .fail) (.ret (.out ((),((p1,p2,()),(p3,p4,()),(p5,p6,()),p7,p8,p9,bL,b8,cr,dc,cO,cn,cX,dz,dC,dP,eH,eC,()))))
abbrev PL:=(Int×Unit)×jp
def tj:PL→Out (Round PL ((Unit)×jp) Empty)
|((p0,_),(p1,p2,_),(p3,p4,_),(p5,p6,_),p7,p8,p9,bL,b8,cr,dc,cO,cn,cX,dz,dC,dP,eH,eC,jZ,nw,_)=> .ite (decide (p0<((List.length p9:Nat):Int))) (.ite (decide (0≤p0∧p0<((List.length p9:Nat):Int))) (.get (nth p9 (Int.toNat p0)) λy1=> .ite (decide (0≤p0∧p0<((List.length p9:Nat):Int))) (.get (nth p9 (Int.toNat p0)) λy2=> .ite (decide (List.length ([]:List Int)+List.length y2.2.1≤bn)) (.ite (decide (List.length nw+List.length ([(y1.1,(([]:List Int)++y2.2.1),())]:List ah)≤bn)) (.ret (.again (((abs (p0+1)),()),((p1,p2,()),(p3,p4,()),(p5,p6,()),p7,p8,p9,bL,b8,cr,dc,cO,cn,cX,dz,dC,dP,eH,eC,jZ,(nw++([(y1.1,(([]:List Int)++y2.2.1),())]:List ah)),())))) .fail) .fail) .fail) .fail) (.ret (.out ((),((p1,p2,()),(p3,p4,()),(p5,p6,()),p7,p8,p9,bL,b8,cr,dc,cO,cn,cX,dz,dC,dP,eH,eC,jZ,nw,()))))
abbrev PM:=(Int×Unit)×io
def tn:PM→Out (Round PM ((Unit)×io) Empty)
|((p0,_),(p1,p2,_),(p3,p4,_),(p5,p6,_),p7,p8,p9,bL,b8,cr,dc,cO,cn,cX,dz,dC,dP,eH,eC,jZ,nw,rB,_)=> .ite (decide (p0<((List.length bL:Nat):Int))) (.ite (decide (0≤p0∧p0<((List.length bL:Nat):Int))) (.get (nth bL (Int.toNat p0)) λy1=> .ite (decide (0≤p0∧p0<((List.length bL:Nat):Int))) (.get (nth bL (Int.toNat p0)) λy2=> .ite (decide (List.length ([]:List Int)+List.length y2.2.1≤bn)) (.ite (decide (List.length rB+List.length ([(y1.1,(([]:List Int)++y2.2.1),())]:List ah)≤bn)) (.ret (.again (((abs (p0+1)),()),((p1,p2,()),(p3,p4,()),(p5,p6,()),p7,p8,p9,bL,b8,cr,dc,cO,cn,cX,dz,dC,dP,eH,eC,jZ,nw,(rB++([(y1.1,(([]:List Int)++y2.2.1),())]:List ah)),())))) .fail) .fail) .fail) .fail) (.ret (.out ((),((p1,p2,()),(p3,p4,()),(p5,p6,()),p7,p8,p9,bL,b8,cr,dc,cO,cn,cX,dz,dC,dP,eH,eC,jZ,nw,rB,()))))
def Ip:t4×Unit→Out aj6
|(a0,_)=> .get (Io ((a0.2.2.1,()),())) λ((fC,_),_)=> .get (aP ti aI ((0,()),((a0.1,a0.2.1,()),(0,0,()),(a0.1,a0.2.1,()),a0.2.2.2.1,a0.2.2.2.2.1,a0.2.2.2.2.2.1,a0.2.2.2.2.2.2.1,a0.2.2.2.2.2.2.2.1,a0.2.2.2.2.2.2.2.2.1,([]:List (List ar)),([]:List af),([]:List ai),([]:List ah),([]:List ah),([]:List Int),([]:List Int),fC.1,([]:List af),()))) λ(_,(WN,WO,_),(WQ,WR,_),(NJ,WS,_),WU,NK,WV,WW,aj7,aj8,aj9,aka,akb,akc,akd,ake,akf,akg,akh,_)=> .ite (decide (List.length ([]:List ai)+List.length NK≤bn)) (.get (aP tj aI ((0,()),((WN,WO,()),(WQ,WR,()),(NJ,WS,()),WU,NK,WV,WW,aj7,aj8,aj9,aka,akb,akc,akd,ake,akf,akg,akh,(([]:List ai)++NK),([]:List ah),()))) λ(_,(Ry,WX,_),(WY,WZ,_),(W0,W1,_),W2,W3,W4,W5,W6,W7,W8,W9,Xa,Xb,Xc,Xd,Xe,Xf,Xg,Xh,aki,_)=> .get (aP tn aI ((0,()),((Ry,WX,()),(WY,WZ,()),(W0,W1,()),W2,W3,W4,W5,W6,W7,W8,W9,Xa,Xb,Xc,Xd,Xe,Xf,Xg,Xh,aki,([]:List ah),()))) λ(_,_,_,(Rf,Rg,_),_,_,_,_,Rh,Ri,_,_,_,_,_,_,_,UR,US,UU,UW,UX,_)=> .ite (decide (List.length ([]:List Int)+List.length Rh≤bn)) (.ite (decide (List.length ([]:List Int)+List.length Ri≤bn)) (.ret (((Rf,Rg,UR,US,UU,UW,UX,(([]:List Int)++Rh),(([]:List Int)++Ri),()),()),((),()))) .fail) .fail) .fail
def UD (x:t4×Unit):=(Ip x).eval
abbrev PN:List (Nat×dT):=[(act, .var [.i .i64, .i .i64, .kC, .aR alH, .aR alI, .aR alK, .aR alQ, .aR alV, .aR ama]),(adc, .var [.i .i64, .i .i64, .aR amb, .aR amc, .aR amd, .aR ame, .aR amf, .aR amg, .aR amh]),(aig, .var [.i .i64, .i .i64, .aR amj, .aR amk, .aR alI, .aR alK, .aR alQ, .aR alV, .aR ama]),(alH, .arr mX),(alI, .arr eF),(alK, .arr dQ),(alQ, .arr dQ),(alV, .arr eG),(ama, .arr eG),(amb, .arr (.fz cT)),(amc, .arr mX),(amd, .arr eF),(ame, .arr dQ),(amf, .arr dQ),(amg, .arr eG),(amh, .arr eG),(amj, .arr (.fz cT)),(amk, .arr mX)]
abbrev PO:List (Nat×dT):=[(act, .var [.i .i64, .i .i64, .kC, .aR alH, .aR alI, .aR alK, .aR alQ, .aR alV, .aR ama]),(adc, .var [.i .i64, .i .i64, .aR amb, .aR amc, .aR amd, .aR ame, .aR amf, .aR amg, .aR amh]),(aig, .var [.i .i64, .i .i64, .aR amj, .aR amk, .aR aml, .aR 64000019, .aR alQ, .aR alV, .aR ama]),(alH, .arr mX),(alI, .arr eF),(alK, .arr dQ),(alQ, .arr dQ),(alV, .arr eG),(ama, .arr eG),(amb, .arr (.fz cT)),(amc, .arr mX),(amd, .arr eF),(ame, .arr dQ),(amf, .arr dQ),(amg, .arr eG),(amh, .arr eG),(amj, .arr (.fz cT)),(amk, .arr mX),(aml, .arr eF),(64000019, .arr dQ)]
abbrev PQ:List (Nat×dT):=[(act, .var [.i .i64, .i .i64, .kC, .aR alH, .aR alI, .aR alK, .aR alQ, .aR alV, .aR ama]),(adc, .var [.i .i64, .i .i64, .aR amb, .aR amc, .aR amd, .aR ame, .aR amf, .aR amg, .aR amh]),(aig, .var [.i .i64, .i .i64, .aR amj, .aR amk, .aR aml, .aR 64000019, .aR 64000020, .aR alV, .aR ama]),(alH, .arr mX),(alI, .arr eF),(alK, .arr dQ),(alQ, .arr dQ),(alV, .arr eG),(ama, .arr eG),(amb, .arr (.fz cT)),(amc, .arr mX),(amd, .arr eF),(ame, .arr dQ),(amf, .arr dQ),(amg, .arr eG),(amh, .arr eG),(amj, .arr (.fz cT)),(amk, .arr mX),(aml, .arr eF),(64000019, .arr dQ),(64000020, .arr dQ)]
def akj:Nat→Option au:=λn=>bw [(0,⟨⟨[.dead, .vptr act 0, .vptr adc 0, .vptr aig 0, .i .i64]++dd 101,PN⟩,⟨[.dead, .vptr act 0, .vptr adc 0, .vptr aig 0]++dd 102,PN⟩,none,false⟩),(2,⟨⟨[.dead, .vptr act 0, .vptr adc 0, .vptr aig 0, .dead, .i .i64]++dd 100,PO⟩,⟨[.dead, .vptr act 0, .vptr adc 0, .vptr aig 0]++dd 102,PO⟩,none,false⟩),(4,⟨⟨[.dead, .vptr act 0, .vptr adc 0, .vptr aig 0, .dead, .dead, .i .i64]++dd 99,PQ⟩,⟨[.dead, .vptr act 0, .vptr adc 0, .vptr aig 0]++dd 102,PQ⟩,none,false⟩)] n
def anS:bK:=dX 84 false [i4] [none] [i4] Ip
theorem aab:anS.Ok acl:=ck bR [1800,3344,4624] [(1799,1),(1800,32),(3344,1),(4624,1)] [afo,IP] ⟨WM,IQ,trivial⟩ akj Tryz.f84 [.cell 2 31] λx=>by kernel_rfl
abbrev aoG:=(t4×Unit)×(Unit×Unit)
abbrev Xi:=(Int×Unit)×li
def zb:Xi→Out (Round Xi ((Unit)×li) Empty)
|((p0,_),(p1,p2,p3,p4,p5,p6,p7,p8,p9,_),(bL,b8,_),(cr,dc,cO,cn,cX,dz,dC,_),dP,eH,eC,jZ,nw,rB,uG,MG,IS,_)=> .ite (decide (p0<((List.length p4:Nat):Int))) (.ite (decide (0≤p0)) (.get (nth p4 (Int.toNat p0)) λy1=> .get (gS y1.1 y1.2.1 y1.2.2.1 y1.2.2.2.1 y1.2.2.2.2.1.1 y1.2.2.2.2.1.2.1 y1.2.2.2.2.2.1 y1.2.2.2.2.2.2.1 y1.2.2.2.2.2.2.2.1 y1.2.2.2.2.2.2.2.2.1) λy2=> .ite (decide (List.length IS+List.length ([(y2.1,y2.2.1,y2.2.2.1,y2.2.2.2.1,(y2.2.2.2.2.1,y2.2.2.2.2.2.1,()),y2.2.2.2.2.2.2.1,y2.2.2.2.2.2.2.2.1,y2.2.2.2.2.2.2.2.2.1,y2.2.2.2.2.2.2.2.2.2,())]:List af)≤bn)) (.ret (.again (((abs (p0+1)),()),((p1,p2,p3,p4,p5,p6,p7,p8,p9,()),(bL,b8,()),(cr,dc,cO,cn,cX,dz,dC,()),dP,eH,eC,jZ,nw,rB,uG,MG,(IS++([(y2.1,y2.2.1,y2.2.2.1,y2.2.2.2.1,(y2.2.2.2.2.1,y2.2.2.2.2.2.1,()),y2.2.2.2.2.2.2.1,y2.2.2.2.2.2.2.2.1,y2.2.2.2.2.2.2.2.2.1,y2.2.2.2.2.2.2.2.2.2,())]:List af)),())))) .fail) .fail) (.ret (.out ((),((p1,p2,p3,p4,p5,p6,p7,p8,p9,()),(bL,b8,()),(cr,dc,cO,cn,cX,dz,dC,()),dP,eH,eC,jZ,nw,rB,uG,MG,IS,()))))
abbrev Xj:=(Int×Unit)×lm
def zc:Xj→Out (Round Xj ((Unit)×lm) Empty)
|((p0,_),(p1,p2,p3,p4,p5,p6,p7,p8,p9,_),(bL,b8,_),(cr,dc,cO,cn,cX,_),dz,dC,dP,eH,eC,jZ,nw,rB,uG,MG,IS,_)=> .ite (decide (p0<((List.length p6:Nat):Int))) (.ite (decide (0≤p0)) (.get (nth p6 (Int.toNat p0)) λy1=> .ite (decide (0≤p0)) (.get (nth p6 (Int.toNat p0)) λy2=> .ite (decide (List.length ([]:List Int)+List.length y2.2.1≤bn)) (.ite (decide (List.length IS+List.length ([(y1.1,(([]:List Int)++y2.2.1),())]:List ah)≤bn)) (.ret (.again (((abs (p0+1)),()),((p1,p2,p3,p4,p5,p6,p7,p8,p9,()),(bL,b8,()),(cr,dc,cO,cn,cX,()),dz,dC,dP,eH,eC,jZ,nw,rB,uG,MG,(IS++([(y1.1,(([]:List Int)++y2.2.1),())]:List ah)),())))) .fail) .fail) .fail) .fail) (.ret (.out ((),((p1,p2,p3,p4,p5,p6,p7,p8,p9,()),(bL,b8,()),(cr,dc,cO,cn,cX,()),dz,dC,dP,eH,eC,jZ,nw,rB,uG,MG,IS,()))))
abbrev Xk:=(Int×Unit)×ls
def zd:Xk→Out (Round Xk ((Unit)×ls) Empty)
|((p0,_),(p1,p2,p3,p4,p5,p6,p7,p8,p9,_),(bL,b8,_),(cr,dc,cO,cn,_),cX,dz,dC,dP,eH,eC,jZ,nw,rB,uG,MG,IS,_)=> .ite (decide (p0<((List.length p7:Nat):Int))) (.ite (decide (0≤p0)) (.get (nth p7 (Int.toNat p0)) λy1=> .ite (decide (0≤p0)) (.get (nth p7 (Int.toNat p0)) λy2=> .ite (decide (List.length ([]:List Int)+List.length y2.2.1≤bn)) (.ite (decide (List.length IS+List.length ([(y1.1,(([]:List Int)++y2.2.1),())]:List ah)≤bn)) (.ret (.again (((abs (p0+1)),()),((p1,p2,p3,p4,p5,p6,p7,p8,p9,()),(bL,b8,()),(cr,dc,cO,cn,()),cX,dz,dC,dP,eH,eC,jZ,nw,rB,uG,MG,(IS++([(y1.1,(([]:List Int)++y2.2.1),())]:List ah)),())))) .fail) .fail) .fail) .fail) (.ret (.out ((),((p1,p2,p3,p4,p5,p6,p7,p8,p9,()),(bL,b8,()),(cr,dc,cO,cn,()),cX,dz,dC,dP,eH,eC,jZ,nw,rB,uG,MG,IS,()))))
def UC:t5×Unit→Out aoG
|(a0,_)=> .get (Nk ((a0.2.2.1,()),())) λ((fC,_),_)=> .get (aP zb aI ((0,()),((a0.1,a0.2.1,a0.2.2.1,a0.2.2.2.1,a0.2.2.2.2.1,a0.2.2.2.2.2.1,a0.2.2.2.2.2.2.1,a0.2.2.2.2.2.2.2.1,a0.2.2.2.2.2.2.2.2.1,()),(0,0,()),(a0.1,a0.2.1,a0.2.2.2.2.1,a0.2.2.2.2.2.1,a0.2.2.2.2.2.2.1,a0.2.2.2.2.2.2.2.1,a0.2.2.2.2.2.2.2.2.1,()),([]:List (List ar)),([]:List af),([]:List ai),([]:List ah),([]:List ah),([]:List Int),([]:List Int),fC.1,([]:List af),()))) λ(_,(WN,WO,WQ,WR,NJ,WS,WU,NK,WV,_),(WW,aj7,_),(aj8,aj9,_,_,aka,akb,akc,_),akd,ake,akf,akg,akh,arQ,arR,arS,arT,_)=> .ite (decide (List.length ([]:List ai)+List.length NJ≤bn)) (.get (aP zc aI ((0,()),((WN,WO,WQ,WR,NJ,WS,WU,NK,WV,()),(WW,aj7,()),(aj8,aj9,aka,akb,akc,()),akd,ake,akf,akg,akh,arQ,arR,arS,arT,(([]:List ai)++NJ),([]:List ah),()))) λ(_,(Ry,WX,WY,WZ,W0,W1,W2,W3,W4,_),(W5,W6,_),(W7,W8,_,W9,Xa,_),Xb,Xc,Xd,Xe,Xf,Xg,Xh,aki,arU,arV,arW,_)=> .get (aP zd aI ((0,()),((Ry,WX,WY,WZ,W0,W1,W2,W3,W4,()),(W5,W6,()),(W7,W8,W9,Xa,()),Xb,Xc,Xd,Xe,Xf,Xg,Xh,aki,arU,arV,arW,([]:List ah),()))) λ(_,(_,_,_,_,_,_,_,Rf,Rg,_),_,(Rh,Ri,_),_,_,_,_,_,_,_,UR,US,UU,UW,UX,_)=> .ite (decide (List.length ([]:List Int)+List.length Rf≤bn)) (.ite (decide (List.length ([]:List Int)+List.length Rg≤bn)) (.ret (((Rh,Ri,UR,US,UU,UW,UX,(([]:List Int)++Rf),(([]:List Int)++Rg),()),()),((),()))) .fail) .fail) .fail
def anA (x:t5×Unit):=(UC x).eval
abbrev akk:=(t6×Unit)×(Unit)
def Xl:Unit→Out akk
|_=> .ret (((0, -1,0,0,()),()),())
def S9 (x:Unit):=(Xl x).eval
def aoH:bK:=dX 170 true [] [] [i6] Xl
theorem acn:aoH.Ok acl:=ck jd [] [] [] trivial (λ_=>none) Tryz.f170 [.cell 0 164] λx=>by kernel_rfl
abbrev akl:=(t7×t6×Unit)×(Unit×Unit)
def Xm:t7×Unit→Out akl
|(a0,_)=> .ret ((a0,(2, -1,0,0,()),()),((),()))
def vv (x:t7×Unit):=(Xm x).eval
def aoI:bK:=dX 169 true [i7] [none] [i7,i6] Xm
theorem aco:aoI.Ok acl:=ck jd [] [] [] trivial (λ_=>none) Tryz.f169 [.cell 2 55, .cell 3 164] λx=>by kernel_rfl
abbrev NL:=(t7×t6×Unit)×(Unit×XI)
def Bn (v0 v1 v2 v3 v4 v5 v6 v7:Int) (v8:List Int):Out (NL):= .ite (!(b9 v1)) (.get (vv ((v2,v8,()),())) λ((zN,y9b,_),_)=> .ret ((zN,y9b,()),((),(),(),()))) (.ite (decide (0≤v3∧v3<((List.length v8:Nat):Int))) (.get (nth v8 (Int.toNat v3)) λ_=> .ret (((v0,(List.set v8 (Int.toNat v3) v1),()),(v4,v5,v6,v7,()),()),((),(),(),()))) .fail)
def Bo (v0 v1 v2 v3 v4 v5 v6 v7:Int) (v8:List Int):Out (NL):= .ite (!(b9 v1)) (.get (vv ((v2,v8,()),())) λ((ny,arX,_),_)=> .ret ((ny,arX,()),((),(),(),()))) (.ite (decide (0≤v3∧v3<((List.length v8:Nat):Int))) (.get (nth v8 (Int.toNat v3)) λ_=> .ret (((v0,(List.set v8 (Int.toNat v3) v1),()),(v4,v5,v6,v7,()),()),((),(),(),()))) .fail)
def H4:t8×t7×t9×Unit→Out NL
|(a0,a1,a2,_)=> .ite (decide (a1.1≥((List.length a0.1:Nat):Int))) (.get (vv (a1,())) λ((fC,y1b,_),_)=> .ret ((fC,y1b,()),((),(),(),()))) (.ite (decide (0≤a1.1)) (.get (nth a0.1 (Int.toNat a1.1)) λy2=> .get (S9 ()) λ((dW,_),_)=> .ite ((y2.1==1)) (.ite (decide (0≤y2.2.1∧y2.2.1<((List.length a1.2.1:Nat):Int))) (.get (nth a1.2.1 (Int.toNat y2.2.1)) λ_=> .ret ((((abs (a1.1+1)),(List.set a1.2.1 (Int.toNat y2.2.1) y2.2.2.1),()),dW,()),((),(),(),()))) .fail) (.ite ((y2.1==2)) (.ite (decide (0≤y2.2.2.1∧y2.2.2.1<((List.length a1.2.1:Nat):Int))) (.get (nth a1.2.1 (Int.toNat y2.2.2.1)) λy5=> .ite (decide (0≤y2.2.2.2.1∧y2.2.2.2.1<((List.length a1.2.1:Nat):Int))) (.get (nth a1.2.1 (Int.toNat y2.2.2.2.1)) λy6=> .ite ((y2.1==3)) (.ite (decide (0≤y2.2.2.1∧y2.2.2.1<((List.length a1.2.1:Nat):Int))) (.get (nth a1.2.1 (Int.toNat y2.2.2.1)) λy7=> .ite (decide (0≤y2.2.2.2.1∧y2.2.2.2.1<((List.length a1.2.1:Nat):Int))) (.get (nth a1.2.1 (Int.toNat y2.2.2.2.1)) λy8=>
 Bn (abs (a1.1+1)) (abs (y7 - y8)) a1.1 y2.2.1 dW.1 dW.2.1 dW.2.2.1 dW.2.2.2.1 a1.2.1) .fail) .fail) (Bn (abs (a1.1+1)) (abs (y5+y6)) a1.1 y2.2.1 dW.1 dW.2.1 dW.2.2.1 dW.2.2.2.1 a1.2.1)) .fail) .fail) (.ite ((y2.1==3)) (.ite (decide (0≤y2.2.2.1∧y2.2.2.1<((List.length a1.2.1:Nat):Int))) (.get (nth a1.2.1 (Int.toNat y2.2.2.1)) λsX=> .ite (decide (0≤y2.2.2.2.1∧y2.2.2.2.1<((List.length a1.2.1:Nat):Int))) (.get (nth a1.2.1 (Int.toNat y2.2.2.2.1)) λyY=> .ite ((y2.1==3)) (.ite (decide (0≤y2.2.2.1∧y2.2.2.1<((List.length a1.2.1:Nat):Int))) (.get (nth a1.2.1 (Int.toNat y2.2.2.1)) λy13=> .ite (decide (0≤y2.2.2.2.1∧y2.2.2.2.1<((List.length a1.2.1:Nat):Int))) (.get (nth a1.2.1 (Int.toNat y2.2.2.2.1)) λy14=>
 Bo (abs (a1.1+1)) (abs (y13 - y14)) a1.1 y2.2.1 dW.1 dW.2.1 dW.2.2.1 dW.2.2.2.1 a1.2.1) .fail) .fail) (Bo (abs (a1.1+1)) (abs (sX+yY)) a1.1 y2.2.1 dW.1 dW.2.1 dW.2.2.1 dW.2.2.2.1 a1.2.1)) .fail) .fail) (.ite ((y2.1==4)) (.ite (decide (0≤y2.2.2.1∧y2.2.2.1<((List.length a1.2.1:Nat):Int))) (.get (nth a1.2.1 (Int.toNat y2.2.2.1)) λy17=> .ite ((decide (y17<0))==false) (.ite (decide (y17≥((List.length a2.1:Nat):Int))) (.get (vv (a1,())) λ((wS,arZ,_),_)=> .ret ((wS,arZ,()),((),(),(),()))) (.ite ((y2.1==4)) (.ite (decide (0≤y17)) (.get (nth a2.1 (Int.toNat y17)) λy19=> .ite (decide (0≤y2.2.1∧y2.2.1<((List.length a1.2.1:Nat):Int))) (.get (nth a1.2.1 (Int.toNat y2.2.1)) λ_=> .ret ((((abs (a1.1+1)),(List.set a1.2.1 (Int.toNat y2.2.1) y19),()),dW,()),((),(),(),()))) .fail) .fail) (.ite (decide (0≤y2.2.1∧y2.2.1<((List.length a1.2.1:Nat):Int))) (.get (nth a1.2.1 (Int.toNat y2.2.1)) λy21=> .ret ((((abs (a1.1+1)),a1.2),(dW.1,y17,y21,dW.2.2.2),()),((),(),(),()))) .fail))) (.get (vv (a1,())) λ((Xn,ar0,_),_)=> .ret ((Xn,ar0,()),((),(),(),())))) .fail) (.ite ((y2.1==5)) (.ite (decide (0≤y2.2.2.1∧y2.2.2.1<((List.length a1.2.1:Nat):Int))) (.get (nth a1.2.1 (Int.toNat y2.2.2.1)) λy23=> .ite ((decide (y23<0))==false) (.ite (decide (y23≥((List.length a2.1:Nat):Int))) (.get (vv (a1,())) λ((M1,ar1,_),_)=> .ret ((M1,ar1,()),((),(),(),()))) (.ite ((y2.1==4)) (.ite (decide (0≤y23)) (.get (nth a2.1 (Int.toNat y23)) λy25=> .ite (decide (0≤y2.2.1∧y2.2.1<((List.length a1.2.1:Nat):Int))) (.get (nth a1.2.1 (Int.toNat y2.2.1)) λ_=> .ret ((((abs (a1.1+1)),(List.set a1.2.1 (Int.toNat y2.2.1) y25),()),dW,()),((),(),(),()))) .fail) .fail) (.ite (decide (0≤y2.2.1∧y2.2.1<((List.length a1.2.1:Nat):Int))) (.get (nth a1.2.1 (Int.toNat y2.2.1)) λy27=> .ret ((((abs (a1.1+1)),a1.2),(dW.1,y23,y27,dW.2.2.2),()),((),(),(),()))) .fail))) (.get (vv (a1,())) λ((akm,ar2,_),_)=> .ret ((akm,ar2,()),((),(),(),())))) .fail) (.ite ((y2.1==6)) (.ret (((y2.2.1,a1.2),dW,()),((),(),(),()))) (.ite ((y2.1==7)) (.ite (decide (0≤y2.2.1∧y2.2.1<((List.length a1.2.1:Nat):Int))) (.get (nth a1.2.1 (Int.toNat y2.2.1)) λy29=> .ite ((y29==0)) (.ret (((y2.2.2.1,a1.2),dW,()),((),(),(),()))) (.ret ((((abs (a1.1+1)),a1.2),dW,()),((),(),(),())))) .fail) (.ret ((((abs (a1.1+1)),a1.2),(1,dW.2.1,dW.2.2.1,y2.2.1,()),()),((),(),(),())))))))))) .fail)
def Ta (x:t8×t7×t9×Unit):=(H4 x).eval
def aoJ:bK:=dX 152 true [i8,i7,i9] [none,none,none] [i7,i6] H4
theorem acp:aoJ.Ok acl:=ck jd [] [] [aoI,aoH,Sm] ⟨aco,acn,IB,trivial⟩ (λ_=>none) Tryz.f152 [.cell 6 55, .cell 7 164] λx=>by kernel_rfl
abbrev akn:=(t10×Unit)×XI
def IT:t11×t1×Unit→Out akn
|(a0,a1,_)=> .ret ((((decide ((abs ((oL a0.2.2.2.1)+a1.1))≤(16:Int))),()),()),((),(),()))
def pV (x:t11×t1×Unit):=(IT x).eval
def Xo:bK:=dX 200 true [i11,i1] [none,none] [i10] IT
theorem BC:Xo.Ok acl:=ck jd [] [] [k27] ⟨VF,trivial⟩ (λ_=>none) Tryz.f200 [.tmp 4] λx=>by kernel_rfl
abbrev Xp:=(t4×t10×Unit)×XI
def PR (v0 v1 v2 v3:Int) (v4:List (List ar)) (v5:List af) (v6:Nat) (v7 v8 v9 v10 v11:Int) (v12:List Int) (Rz RA:Int) (Y4:List ai) (v16 v17:List ah) (v18 v19 v20 v21:List Int):Out (Xp):= .ite (decide (0≤v0∧v0<((List.length v5:Nat):Int))) (.get (nth (List.set v5 v6 (v7,v8,v9,v10,(v11,v12,()),v20,v21,Rz,RA,())) (Int.toNat v0)) λy6=> .get (uu ((4,()),())) λ((nz,_),_)=> .ite (decide (0≤v0∧v0<((List.length (List.set (List.set v5 v6 (v7,v8,v9,v10,(v11,v12,()),v20,v21,Rz,RA,())) (Int.toNat v0) (y6.1,(y6.2.1,(y6.2.2.1,(v3,y6.2.2.2.2))))):Nat):Int))) (.get (nth (List.set (List.set v5 v6 (v7,v8,v9,v10,(v11,v12,()),v20,v21,Rz,RA,())) (Int.toNat v0) (y6.1,(y6.2.1,(y6.2.2.1,(v3,y6.2.2.2.2))))) (Int.toNat v0)) λy8=> .ret (((v1,v2,v4,(List.set (List.set (List.set v5 v6 (v7,v8,v9,v10,(v11,v12,()),v20,v21,Rz,RA,())) (Int.toNat v0) (y6.1,(y6.2.1,(y6.2.2.1,(v3,y6.2.2.2.2))))) (Int.toNat v0) (y8.1,(y8.2.1,(y8.2.2.1,(y8.2.2.2.1,(y8.2.2.2.2.1,(nz.1,y8.2.2.2.2.2.2))))))),Y4,v16,v17,v18,v19,()),(true,()),()),((),(),()))) .fail) .fail
def gi:t4×t12×Unit→Out Xp
|(a0,a1,_)=> .ite (decide ((al a0.2.2.2.1 a1.2.1)<0)) (.ret ((a0,(false,()),()),((),(),()))) (.ite (decide (0≤(al a0.2.2.2.1 a1.2.1)∧(al a0.2.2.2.1 a1.2.1)<((List.length a0.2.2.2.1:Nat):Int))) (.get (nth a0.2.2.2.1 (Int.toNat (al a0.2.2.2.1 a1.2.1))) λy1=> .ite ((a1.1==1)) (.ite (decide (List.length ([]:List Int)+List.length a1.2.2.2.2.1≤bn)) (.ite (!(aU a1.2.2.1 (([]:List Int)++a1.2.2.2.2.1))) (.ret (((a0.1,a0.2.1,a0.2.2.1,(List.set a0.2.2.2.1 (Int.toNat (al a0.2.2.2.1 a1.2.1)) y1),a0.2.2.2.2),(false,()),()),((),(),()))) (.ite (decide (0≤(al a0.2.2.2.1 a1.2.1)∧(al a0.2.2.2.1 a1.2.1)<((List.length a0.2.2.2.1:Nat):Int))) (.ite ((Int.toNat (al a0.2.2.2.1 a1.2.1))==(Int.toNat (al a0.2.2.2.1 a1.2.1))) (.ret (((a0.1,a0.2.1,a0.2.2.1,(List.set a0.2.2.2.1 (Int.toNat (al a0.2.2.2.1 a1.2.1)) (y1.1,y1.2.1,y1.2.2.1,y1.2.2.2.1,(a1.2.2.1,(([]:List Int)++a1.2.2.2.2.1),()),y1.2.2.2.2.2)),a0.2.2.2.2),(true,()),()),((),(),()))) .fail) .fail)) .fail) (.ite ((a1.1==2)) (.ite ((decide (a1.2.2.1<0))==false) (.ite ((decide (a1.2.2.1≥((List.length y1.2.2.2.2.2.1:Nat):Int)))==false) (.ite (!(b9 a1.2.2.2.1)) (.ret (((a0.1,a0.2.1,a0.2.2.1,(List.set a0.2.2.2.1 (Int.toNat (al a0.2.2.2.1 a1.2.1)) y1),a0.2.2.2.2),(false,()),()),((),(),()))) (.ite (decide (0≤(al a0.2.2.2.1 a1.2.1)∧(al a0.2.2.2.1 a1.2.1)<((List.length a0.2.2.2.1:Nat):Int))) (.ite ((Int.toNat (al a0.2.2.2.1 a1.2.1))==(Int.toNat (al a0.2.2.2.1 a1.2.1))) (.ite (decide (0≤a1.2.2.1∧a1.2.2.1<((List.length y1.2.2.2.2.2.1:Nat):Int))) (.get (nth y1.2.2.2.2.2.1 (Int.toNat a1.2.2.1)) λ_=> .ret (((a0.1,a0.2.1,a0.2.2.1,(List.set a0.2.2.2.1 (Int.toNat (al a0.2.2.2.1 a1.2.1)) (y1.1,y1.2.1,y1.2.2.1,y1.2.2.2.1,y1.2.2.2.2.1,(List.set y1.2.2.2.2.2.1 (Int.toNat a1.2.2.1) a1.2.2.2.1),y1.2.2.2.2.2.2)),a0.2.2.2.2),(true,()),()),((),(),()))) .fail) .fail) .fail)) (.ret (((a0.1,a0.2.1,a0.2.2.1,(List.set a0.2.2.2.1 (Int.toNat (al a0.2.2.2.1 a1.2.1)) y1),a0.2.2.2.2),(false,()),()),((),(),())))) (.ret (((a0.1,a0.2.1,a0.2.2.1,(List.set a0.2.2.2.1 (Int.toNat (al a0.2.2.2.1 a1.2.1)) y1),a0.2.2.2.2),(false,()),()),((),(),())))) (.ite ((a1.1==3)) (.ite (decide (0≤(al a0.2.2.2.1 a1.2.1)∧(al a0.2.2.2.1 a1.2.1)<((List.length a0.2.2.2.1:Nat):Int))) (.ite ((Int.toNat (al a0.2.2.2.1 a1.2.1))==(Int.toNat (al a0.2.2.2.1 a1.2.1))) (.ite (decide (0≤(al a0.2.2.2.1 a1.2.1)∧(al a0.2.2.2.1 a1.2.1)<((List.length a0.2.2.2.1:Nat):Int))) (.ite ((Int.toNat (al a0.2.2.2.1 a1.2.1))==(Int.toNat (al a0.2.2.2.1 a1.2.1))) (.ret (((a0.1,a0.2.1,a0.2.2.1,(List.set a0.2.2.2.1 (Int.toNat (al a0.2.2.2.1 a1.2.1)) (y1.1,y1.2.1,a1.2.2.1,y1.2.2.2.1,y1.2.2.2.2.1,y1.2.2.2.2.2.1,y1.2.2.2.2.2.2.1,a1.2.2.2.1,y1.2.2.2.2.2.2.2.2)),a0.2.2.2.2),(true,()),()),((),(),()))) .fail) .fail) .fail) .fail) (.ite ((a1.1==5)) (.ite (decide (0≤(al a0.2.2.2.1 a1.2.1)∧(al a0.2.2.2.1 a1.2.1)<((List.length a0.2.2.2.1:Nat):Int))) (.ite ((Int.toNat (al a0.2.2.2.1 a1.2.1))==(Int.toNat (al a0.2.2.2.1 a1.2.1))) (.ret (((a0.1,a0.2.1,a0.2.2.1,(List.set a0.2.2.2.1 (Int.toNat (al a0.2.2.2.1 a1.2.1)) (y1.1,y1.2.1,y1.2.2.1,y1.2.2.2.1,y1.2.2.2.2.1,([]:List Int),y1.2.2.2.2.2.2)),a0.2.2.2.2),(true,()),()),((),(),()))) .fail) .fail) (.ite ((a1.1==6)) (.ite (decide (0≤(0:Int)∧(0:Int)≤(al a0.2.2.2.1 a1.2.1)∧(al a0.2.2.2.1 a1.2.1)≤((List.length a0.2.2.2.1:Nat):Int))) (.ite (decide (0≤(0+Int.toNat (0:Int))∧List.length ([]:List af)+(Int.toNat (al a0.2.2.2.1 a1.2.1) - Int.toNat (0:Int))≤bn)) (.ite (decide (0≤(abs ((al a0.2.2.2.1 a1.2.1)+1))∧(abs ((al a0.2.2.2.1 a1.2.1)+1))≤((((0+Int.toNat (0:Int))+(Int.toNat (al a0.2.2.2.1 a1.2.1) - Int.toNat (0:Int)))+List.length (List.drop ((0+Int.toNat (0:Int)) - 0+(Int.toNat (al a0.2.2.2.1 a1.2.1) - Int.toNat (0:Int))) (List.set a0.2.2.2.1 (Int.toNat (al a0.2.2.2.1 a1.2.1)) y1)):Nat):Int)∧((((0+Int.toNat (0:Int))+(Int.toNat (al a0.2.2.2.1 a1.2.1) - Int.toNat (0:Int)))+List.length (List.drop ((0+Int.toNat (0:Int)) - 0+(Int.toNat (al a0.2.2.2.1 a1.2.1) - Int.toNat (0:Int))) (List.set a0.2.2.2.1 (Int.toNat (al a0.2.2.2.1 a1.2.1)) y1)):Nat):Int)≤((((0+Int.toNat (0:Int))+(Int.toNat (al a0.2.2.2.1 a1.2.1) - Int.toNat (0:Int)))+List.length (List.drop ((0+Int.toNat (0:Int)) - 0+(Int.toNat (al a0.2.2.2.1 a1.2.1) - Int.toNat (0:Int))) (List.set a0.2.2.2.1 (Int.toNat (al a0.2.2.2.1 a1.2.1)) y1)):Nat):Int))) (.ite (decide (((0+Int.toNat (0:Int))+(Int.toNat (al a0.2.2.2.1 a1.2.1) - Int.toNat (0:Int)))≤(0+Int.toNat (abs ((al a0.2.2.2.1 a1.2.1)+1)))∧List.length (([]:List af)++List.take (Int.toNat (al a0.2.2.2.1 a1.2.1) - Int.toNat (0:Int)) (List.drop ((0+Int.toNat (0:Int)) - 0) (List.set a0.2.2.2.1 (Int.toNat (al a0.2.2.2.1 a1.2.1)) y1)))+(Int.toNat ((((0+Int.toNat (0:Int))+(Int.toNat (al a0.2.2.2.1 a1.2.1) - Int.toNat (0:Int)))+List.length (List.drop ((0+Int.toNat (0:Int)) - 0+(Int.toNat (al a0.2.2.2.1 a1.2.1) - Int.toNat (0:Int))) (List.set a0.2.2.2.1 (Int.toNat (al a0.2.2.2.1 a1.2.1)) y1)):Nat):Int) - Int.toNat (abs ((al a0.2.2.2.1 a1.2.1)+1)))≤bn)) (.ret (((a0.1,a0.2.1,a0.2.2.1,((([]:List af)++List.take (Int.toNat (al a0.2.2.2.1 a1.2.1) - Int.toNat (0:Int)) (List.drop ((0+Int.toNat (0:Int)) - 0) (List.set a0.2.2.2.1 (Int.toNat (al a0.2.2.2.1 a1.2.1)) y1)))++List.take (Int.toNat ((((0+Int.toNat (0:Int))+(Int.toNat (al a0.2.2.2.1 a1.2.1) - Int.toNat (0:Int)))+List.length (List.drop ((0+Int.toNat (0:Int)) - 0+(Int.toNat (al a0.2.2.2.1 a1.2.1) - Int.toNat (0:Int))) (List.set a0.2.2.2.1 (Int.toNat (al a0.2.2.2.1 a1.2.1)) y1)):Nat):Int) - Int.toNat (abs ((al a0.2.2.2.1 a1.2.1)+1))) (List.drop ((0+Int.toNat (abs ((al a0.2.2.2.1 a1.2.1)+1))) - ((0+Int.toNat (0:Int))+(Int.toNat (al a0.2.2.2.1 a1.2.1) - Int.toNat (0:Int)))) (List.drop ((0+Int.toNat (0:Int)) - 0+(Int.toNat (al a0.2.2.2.1 a1.2.1) - Int.toNat (0:Int))) (List.set a0.2.2.2.1 (Int.toNat (al a0.2.2.2.1 a1.2.1)) y1)))),a0.2.2.2.2),(true,()),()),((),(),()))) .fail) .fail) .fail) .fail) (.ite ((a1.1==7)) (.ite ((4:Int)==0) .fail (.ite ((decide ((abs (Int.tdiv ((List.length y1.2.2.2.2.2.1:Nat):Int) (4:Int)))≥(3:Int)))==false) (.get (pV ((a0.1,a0.2.1,a0.2.2.1,(List.set a0.2.2.2.1 (Int.toNat (al a0.2.2.2.1 a1.2.1)) y1),a0.2.2.2.2),(1,()),())) λ((dW,_),_)=> .ite (!dW.1) (.ret (((a0.1,a0.2.1,a0.2.2.1,(List.set a0.2.2.2.1 (Int.toNat (al a0.2.2.2.1 a1.2.1)) y1),a0.2.2.2.2),(false,()),()),((),(),()))) (.ite (decide (List.length ([]:List Int)+List.length y1.2.2.2.2.2.1≤bn)) (.get (uu ((4,()),())) λ((gD,_),_)=> .ite (decide (List.length (([]:List Int)++y1.2.2.2.2.2.1)+List.length gD.1≤bn)) (.ite (decide (0≤(al a0.2.2.2.1 a1.2.1)∧(al a0.2.2.2.1 a1.2.1)<((List.length a0.2.2.2.1:Nat):Int))) (.ite ((Int.toNat (al a0.2.2.2.1 a1.2.1))==(Int.toNat (al a0.2.2.2.1 a1.2.1))) (.ret (((a0.1,a0.2.1,a0.2.2.1,(List.set a0.2.2.2.1 (Int.toNat (al a0.2.2.2.1 a1.2.1)) (y1.1,y1.2.1,y1.2.2.1,y1.2.2.2.1,y1.2.2.2.2.1,((([]:List Int)++y1.2.2.2.2.2.1)++gD.1),y1.2.2.2.2.2.2)),a0.2.2.2.2),(true,()),()),((),(),()))) .fail) .fail) .fail) .fail)) (.ret (((a0.1,a0.2.1,a0.2.2.1,(List.set a0.2.2.2.1 (Int.toNat (al a0.2.2.2.1 a1.2.1)) y1),a0.2.2.2.2),(false,()),()),((),(),()))))) (.ite ((a1.1==8)) (.ite ((decide (a1.2.2.1<0))==false) (.ite ((decide (a1.2.2.1≥((List.length a0.2.2.1:Nat):Int)))==false) (.ite (((((List.length y1.2.2.2.2.2.1:Nat):Int)==0))==true) (.get (pV ((a0.1,a0.2.1,a0.2.2.1,(List.set a0.2.2.2.1 (Int.toNat (al a0.2.2.2.1 a1.2.1)) y1),a0.2.2.2.2),(1,()),())) λ((kJ,_),_)=> .ite (!kJ.1) (.ret (((a0.1,a0.2.1,a0.2.2.1,(List.set a0.2.2.2.1 (Int.toNat (al a0.2.2.2.1 a1.2.1)) y1),a0.2.2.2.2),(false,()),()),((),(),()))) (PR (al a0.2.2.2.1 a1.2.1) a0.1 a0.2.1 a1.2.2.1 a0.2.2.1 a0.2.2.2.1 (Int.toNat (al a0.2.2.2.1 a1.2.1)) y1.1 y1.2.1 y1.2.2.1 y1.2.2.2.1 y1.2.2.2.2.1.1 y1.2.2.2.2.1.2.1 y1.2.2.2.2.2.2.2.1 y1.2.2.2.2.2.2.2.2.1 a0.2.2.2.2.1 a0.2.2.2.2.2.1 a0.2.2.2.2.2.2.1 a0.2.2.2.2.2.2.2.1 a0.2.2.2.2.2.2.2.2.1 y1.2.2.2.2.2.1 y1.2.2.2.2.2.2.1)) (PR (al a0.2.2.2.1 a1.2.1) a0.1 a0.2.1 a1.2.2.1 a0.2.2.1 a0.2.2.2.1 (Int.toNat (al a0.2.2.2.1 a1.2.1)) y1.1 y1.2.1 y1.2.2.1 y1.2.2.2.1 y1.2.2.2.2.1.1 y1.2.2.2.2.1.2.1 y1.2.2.2.2.2.2.2.1 y1.2.2.2.2.2.2.2.2.1 a0.2.2.2.2.1 a0.2.2.2.2.2.1 a0.2.2.2.2.2.2.1 a0.2.2.2.2.2.2.2.1 a0.2.2.2.2.2.2.2.2.1 y1.2.2.2.2.2.1 y1.2.2.2.2.2.2.1)) (.ret (((a0.1,a0.2.1,a0.2.2.1,(List.set a0.2.2.2.1 (Int.toNat (al a0.2.2.2.1 a1.2.1)) y1),a0.2.2.2.2),(false,()),()),((),(),())))) (.ret (((a0.1,a0.2.1,a0.2.2.1,(List.set a0.2.2.2.1 (Int.toNat (al a0.2.2.2.1 a1.2.1)) y1),a0.2.2.2.2),(false,()),()),((),(),())))) (.ite ((a1.1==9)) (.ite ((decide (a1.2.2.1<0))==false) (.ite (decide (a1.2.2.1≥((List.length y1.2.2.2.2.2.2.1:Nat):Int))) (.ret (((a0.1,a0.2.1,a0.2.2.1,(List.set a0.2.2.2.1 (Int.toNat (al a0.2.2.2.1 a1.2.1)) y1),a0.2.2.2.2),(false,()),()),((),(),()))) (.ite (decide (0≤(al a0.2.2.2.1 a1.2.1)∧(al a0.2.2.2.1 a1.2.1)<((List.length a0.2.2.2.1:Nat):Int))) (.ite ((Int.toNat (al a0.2.2.2.1 a1.2.1))==(Int.toNat (al a0.2.2.2.1 a1.2.1))) (.ite (decide (0≤a1.2.2.1∧a1.2.2.1<((List.length y1.2.2.2.2.2.2.1:Nat):Int))) (.get (nth y1.2.2.2.2.2.2.1 (Int.toNat a1.2.2.1)) λ_=> .ret (((a0.1,a0.2.1,a0.2.2.1,(List.set a0.2.2.2.1 (Int.toNat (al a0.2.2.2.1 a1.2.1)) (y1.1,y1.2.1,y1.2.2.1,y1.2.2.2.1,y1.2.2.2.2.1,y1.2.2.2.2.2.1,(List.set y1.2.2.2.2.2.2.1 (Int.toNat a1.2.2.1) a1.2.2.2.1),y1.2.2.2.2.2.2.2)),a0.2.2.2.2),(true,()),()),((),(),()))) .fail) .fail) .fail)) (.ret (((a0.1,a0.2.1,a0.2.2.1,(List.set a0.2.2.2.1 (Int.toNat (al a0.2.2.2.1 a1.2.1)) y1),a0.2.2.2.2),(false,()),()),((),(),())))) (.ite ((a1.1==25)) (.ite (decide (0≤(al a0.2.2.2.1 a1.2.1)∧(al a0.2.2.2.1 a1.2.1)<((List.length a0.2.2.2.1:Nat):Int))) (.ite ((Int.toNat (al a0.2.2.2.1 a1.2.1))==(Int.toNat (al a0.2.2.2.1 a1.2.1))) (.ret (((a0.1,a0.2.1,a0.2.2.1,(List.set a0.2.2.2.1 (Int.toNat (al a0.2.2.2.1 a1.2.1)) (y1.1,a1.2.2.1,y1.2.2)),a0.2.2.2.2),(true,()),()),((),(),()))) .fail) .fail) (.ite (decide (0≤(al a0.2.2.2.1 a1.2.1)∧(al a0.2.2.2.1 a1.2.1)<((List.length a0.2.2.2.1:Nat):Int))) (.ite ((Int.toNat (al a0.2.2.2.1 a1.2.1))==(Int.toNat (al a0.2.2.2.1 a1.2.1))) (.ret (((a0.1,a0.2.1,a0.2.2.1,(List.set a0.2.2.2.1 (Int.toNat (al a0.2.2.2.1 a1.2.1)) (y1.1,y1.2.1,y1.2.2.1,y1.2.2.2.1,y1.2.2.2.2.1,y1.2.2.2.2.2.1,y1.2.2.2.2.2.2.1,y1.2.2.2.2.2.2.2.1,a1.2.2.1,())),a0.2.2.2.2),(true,()),()),((),(),()))) .fail) .fail)))))))))) .fail)
def mw (x:t4×t12×Unit):=(gi x).eval
def aoN:bK:=dX 193 false [i4,i12] [none,none] [i4,i10] gi
theorem acq:aoN.Ok acl:=ck bR [2054] [(1029,1),(2054,1),(7944,2)] [Pz,k73,Sm,Xo,k48] ⟨vq,VG,IB,BC,Im,trivial⟩ (λ_=>none) Tryz.f193 [.cell 4 31, .tmp 5] λx=>by kernel_rfl
abbrev ako:=(t4×t10×Unit)×XI
def IU:t4×t12×Unit→Out ako
|(a0,a1,_)=> .ite ((decide ((al a0.2.2.2.1 a1.2.2.1)<0))==false) (.ite (((a1.2.1 != a0.1))==false) (.ite ((decide (a1.2.1≥(100000:Int)))==false) (.ite ((decide (((List.length a0.2.2.2.1:Nat):Int)≥(6:Int)))==false) (.ite (decide (0≤(al a0.2.2.2.1 a1.2.2.1)∧(al a0.2.2.2.1 a1.2.2.1)<((List.length a0.2.2.2.1:Nat):Int))) (.get (nth a0.2.2.2.1 (Int.toNat (al a0.2.2.2.1 a1.2.2.1))) λy1=> .ite ((4:Int)==0) .fail (.get (pV ((a0.1,a0.2.1,a0.2.2.1,(List.set a0.2.2.2.1 (Int.toNat (al a0.2.2.2.1 a1.2.2.1)) (y1.1,(y1.2.1,(y1.2.2.1,(y1.2.2.2.1,(y1.2.2.2.2.1,(y1.2.2.2.2.2.1,y1.2.2.2.2.2.2))))))),a0.2.2.2.2),((abs (Int.tdiv ((List.length y1.2.2.2.2.2.1:Nat):Int) (4:Int))),()),())) λ((cC,_),_)=> .ite (!cC.1) (.ret (((a0.1,a0.2.1,a0.2.2.1,(List.set a0.2.2.2.1 (Int.toNat (al a0.2.2.2.1 a1.2.2.1)) (y1.1,(y1.2.1,(y1.2.2.1,(y1.2.2.2.1,(y1.2.2.2.2.1,(y1.2.2.2.2.2.1,y1.2.2.2.2.2.2))))))),a0.2.2.2.2),(false,()),()),((),(),()))) (.ite (decide (0≤(al a0.2.2.2.1 a1.2.2.1)∧(al a0.2.2.2.1 a1.2.2.1)<((List.length a0.2.2.2.1:Nat):Int))) (.get (nth (List.set a0.2.2.2.1 (Int.toNat (al a0.2.2.2.1 a1.2.2.1)) (y1.1,(y1.2.1,(y1.2.2.1,(y1.2.2.2.1,(y1.2.2.2.2.1,(y1.2.2.2.2.2.1,y1.2.2.2.2.2.2))))))) (Int.toNat (al a0.2.2.2.1 a1.2.2.1))) λy3=> .get (gS y3.1 y3.2.1 y3.2.2.1 y3.2.2.2.1 y3.2.2.2.2.1.1 y3.2.2.2.2.1.2.1 y3.2.2.2.2.2.1 y3.2.2.2.2.2.2.1 y3.2.2.2.2.2.2.2.1 y3.2.2.2.2.2.2.2.2.1) λy4=> .ite (decide (List.length (List.set (List.set a0.2.2.2.1 (Int.toNat (al a0.2.2.2.1 a1.2.2.1)) (y1.1,(y1.2.1,(y1.2.2.1,(y1.2.2.2.1,(y1.2.2.2.2.1,(y1.2.2.2.2.2.1,y1.2.2.2.2.2.2))))))) (Int.toNat (al a0.2.2.2.1 a1.2.2.1)) y3)+List.length ([(a1.2.1,a1.2.2.1,1,y4.2.2.2.1,(y4.2.2.2.2.1,y4.2.2.2.2.2.1,()),y4.2.2.2.2.2.2.1,y4.2.2.2.2.2.2.2.1,0,0,())]:List af)≤bn)) (.ret ((((abs (a1.2.1+1)),a0.2.1,a0.2.2.1,((List.set (List.set a0.2.2.2.1 (Int.toNat (al a0.2.2.2.1 a1.2.2.1)) (y1.1,(y1.2.1,(y1.2.2.1,(y1.2.2.2.1,(y1.2.2.2.2.1,(y1.2.2.2.2.2.1,y1.2.2.2.2.2.2))))))) (Int.toNat (al a0.2.2.2.1 a1.2.2.1)) y3)++([(a1.2.1,a1.2.2.1,1,y4.2.2.2.1,(y4.2.2.2.2.1,y4.2.2.2.2.2.1,()),y4.2.2.2.2.2.2.1,y4.2.2.2.2.2.2.2.1,0,0,())]:List af)),a0.2.2.2.2),(true,()),()),((),(),()))) .fail) .fail))) .fail) (.ret ((a0,(false,()),()),((),(),())))) (.ret ((a0,(false,()),()),((),(),())))) (.ret ((a0,(false,()),()),((),(),())))) (.ret ((a0,(false,()),()),((),(),())))
def Xq (x:t4×t12×Unit):=(IU x).eval
def aoO:bK:=dX 192 false [i4,i12] [none,none] [i4,i10] IU
theorem acr:aoO.Ok acl:=ck bR [1030] [(1029,1),(1030,32)] [Pz,Xo,IP] ⟨vq,BC,IQ,trivial⟩ (λ_=>none) Tryz.f192 [.cell 4 31, .tmp 5] λx=>by kernel_rfl
abbrev akp:=(t4×t10×Unit)×XI
abbrev PS:=(Bool×Int×Unit)×pm
def tR:PS→Out (Round PS ((Bool×Unit)×pm) Empty)
|((p0,p1,_),(p2,p3,_),(p4,p5,p6,p7,p8,_),(p9,bL,_),b8,cr,dc,cO,cn,cX,dz,dC,dP,eH,eC,jZ,nw,rB,uG,_)=> .ite (decide (p1<((List.length cO:Nat):Int))) (.ite ((!p0)==true) (.ite (decide (0≤p1∧p1<((List.length cO:Nat):Int))) (.get (nth cO (Int.toNat p1)) λy1=> .ite (decide (y1.1>p5)) (.ite (decide (List.length b8+List.length ([(p5,p6,p7,0,0,())]:List ai)≤bn)) (.ite (decide (0≤p1∧p1<((List.length cO:Nat):Int))) (.get (nth cO (Int.toNat p1)) λy2=> .ite (decide (List.length (b8++([(p5,p6,p7,0,0,())]:List ai))+List.length ([y2]:List ai)≤bn)) (.ret (.again ((true,(abs (p1+1)),()),((p2,p3,()),(p4,p5,p6,p7,p8,()),(p9,bL,()),((b8++([(p5,p6,p7,0,0,())]:List ai))++([y2]:List ai)),cr,dc,cO,cn,cX,dz,dC,dP,eH,eC,jZ,nw,rB,uG,())))) .fail) .fail) .fail) (.ite (decide (0≤p1∧p1<((List.length cO:Nat):Int))) (.get (nth cO (Int.toNat p1)) λy3=> .ite (decide (List.length b8+List.length ([y3]:List ai)≤bn)) (.ret (.again ((p0,(abs (p1+1)),()),((p2,p3,()),(p4,p5,p6,p7,p8,()),(p9,bL,()),(b8++([y3]:List ai)),cr,dc,cO,cn,cX,dz,dC,dP,eH,eC,jZ,nw,rB,uG,())))) .fail) .fail)) .fail) (.ite (decide (0≤p1∧p1<((List.length cO:Nat):Int))) (.get (nth cO (Int.toNat p1)) λy4=> .ite (decide (List.length b8+List.length ([y4]:List ai)≤bn)) (.ret (.again ((p0,(abs (p1+1)),()),((p2,p3,()),(p4,p5,p6,p7,p8,()),(p9,bL,()),(b8++([y4]:List ai)),cr,dc,cO,cn,cX,dz,dC,dP,eH,eC,jZ,nw,rB,uG,())))) .fail) .fail)) (.ret (.out ((p0,()),((p2,p3,()),(p4,p5,p6,p7,p8,()),(p9,bL,()),b8,cr,dc,cO,cn,cX,dz,dC,dP,eH,eC,jZ,nw,rB,uG,()))))
def oN:t4×t12×Unit→Out akp
|(a0,a1,_)=> .ite ((a1.1==10)) (.ite ((decide ((aM a0.2.2.2.2.1 a1.2.1)≥(0:Int)))==false) (.ite (!(dL a1.2.1 (0:Int) (7:Int))) (.ret ((a0,(false,()),()),((),(),()))) (.get (aP tR aI ((false,0,()),((a0.1,a0.2.1,()),(a1.1,a1.2.1,a1.2.2.1,a1.2.2.2.1,a1.2.2.2.2.1,()),(0,0,()),([]:List ai),a0.2.2.1,a0.2.2.2.1,a0.2.2.2.2.1,a0.2.2.2.2.2.1,a0.2.2.2.2.2.2.1,a0.2.2.2.2.2.2.2.1,a0.2.2.2.2.2.2.2.2.1,([]:List (List ar)),([]:List af),([]:List ai),([]:List ah),([]:List ah),([]:List Int),([]:List Int),()))) λ((Il,_),(A2,A3,_),(_,A4,wQ,A5,_),_,za,A6,Ft,_,Fu,Fv,acs,acu,_)=> .ite (!Il) (.ite (decide (List.length za+List.length ([(A4,wQ,A5,0,0,())]:List ai)≤bn)) (.ret (((A2,A3,A6,Ft,(za++([(A4,wQ,A5,0,0,())]:List ai)),Fu,Fv,acs,acu,()),(true,()),()),((),(),()))) .fail) (.ret (((A2,A3,A6,Ft,za,Fu,Fv,acs,acu,()),(true,()),()),((),(),()))))) (.ret ((a0,(false,()),()),((),(),())))) (.ite (decide ((aM a0.2.2.2.2.1 a1.2.1)<0)) (.ret ((a0,(false,()),()),((),(),()))) (.ite ((a1.1==11)) (.ite (decide (0≤(aM a0.2.2.2.2.1 a1.2.1)∧(aM a0.2.2.2.2.1 a1.2.1)<((List.length a0.2.2.2.2.1:Nat):Int))) (.get (nth a0.2.2.2.2.1 (Int.toNat (aM a0.2.2.2.2.1 a1.2.1))) λy2=> .ite (decide (0≤(aM a0.2.2.2.2.1 a1.2.1)∧(aM a0.2.2.2.2.1 a1.2.1)<((List.length a0.2.2.2.2.1:Nat):Int))) (.get (nth a0.2.2.2.2.1 (Int.toNat (aM a0.2.2.2.2.1 a1.2.1))) λy3=> .ret (((a0.1,a0.2.1,a0.2.2.1,a0.2.2.2.1,(List.set a0.2.2.2.2.1 (Int.toNat (aM a0.2.2.2.2.1 a1.2.1)) (y3.1,(y3.2.1,(y3.2.2.1,(y3.2.2.2.1,((abs (y2.2.2.2.2.1+a1.2.2.1)),y3.2.2.2.2.2)))))),a0.2.2.2.2.2),(true,()),()),((),(),()))) .fail) .fail) (.ite ((a1.1==13)) (.ite (decide (0≤(aM a0.2.2.2.2.1 a1.2.1)∧(aM a0.2.2.2.2.1 a1.2.1)<((List.length a0.2.2.2.2.1:Nat):Int))) (.get (nth a0.2.2.2.2.1 (Int.toNat (aM a0.2.2.2.2.1 a1.2.1))) λy4=> .ret (((a0.1,a0.2.1,a0.2.2.1,a0.2.2.2.1,(List.set a0.2.2.2.2.1 (Int.toNat (aM a0.2.2.2.2.1 a1.2.1)) (y4.1,(y4.2.1,(y4.2.2.1,(a1.2.2.1,y4.2.2.2.2))))),a0.2.2.2.2.2),(true,()),()),((),(),()))) .fail) (.ite (decide (0≤(0:Int)∧(0:Int)≤(aM a0.2.2.2.2.1 a1.2.1)∧(aM a0.2.2.2.2.1 a1.2.1)≤((List.length a0.2.2.2.2.1:Nat):Int))) (.ite (decide (List.length ([]:List ai)+List.length (List.take (Int.toNat (aM a0.2.2.2.2.1 a1.2.1) - Int.toNat (0:Int)) (List.drop (0+Int.toNat (0:Int)) a0.2.2.2.2.1))≤bn)) (.ite (decide (0≤(abs ((aM a0.2.2.2.2.1 a1.2.1)+1))∧(abs ((aM a0.2.2.2.2.1 a1.2.1)+1))≤((List.length a0.2.2.2.2.1:Nat):Int)∧((List.length a0.2.2.2.2.1:Nat):Int)≤((List.length a0.2.2.2.2.1:Nat):Int))) (.ite (decide (List.length (([]:List ai)++(List.take (Int.toNat (aM a0.2.2.2.2.1 a1.2.1) - Int.toNat (0:Int)) (List.drop (0+Int.toNat (0:Int)) a0.2.2.2.2.1)))+List.length (List.take (Int.toNat ((List.length a0.2.2.2.2.1:Nat):Int) - Int.toNat (abs ((aM a0.2.2.2.2.1 a1.2.1)+1))) (List.drop (0+Int.toNat (abs ((aM a0.2.2.2.2.1 a1.2.1)+1))) a0.2.2.2.2.1))≤bn)) (.ret (((a0.1,a0.2.1,a0.2.2.1,a0.2.2.2.1,((([]:List ai)++(List.take (Int.toNat (aM a0.2.2.2.2.1 a1.2.1) - Int.toNat (0:Int)) (List.drop (0+Int.toNat (0:Int)) a0.2.2.2.2.1)))++(List.take (Int.toNat ((List.length a0.2.2.2.2.1:Nat):Int) - Int.toNat (abs ((aM a0.2.2.2.2.1 a1.2.1)+1))) (List.drop (0+Int.toNat (abs ((aM a0.2.2.2.2.1 a1.2.1)+1))) a0.2.2.2.2.1))),a0.2.2.2.2.2),(true,()),()),((),(),()))) .fail) .fail) .fail) .fail))))
def DW (x:t4×t12×Unit):=(oN x).eval
abbrev PT:List (Nat×dT):=[(act, .var [.i .i64, .i .i64, .aR alI, .aR alK, .aR alQ, .aR alV, .aR ama, .aR amb, .aR amc]),(adc, .var [.i .i64, .i .i64, .i .i64, .i .i64, .ro eG (some 7)]),(aig, .var [.i .i64, .i .i64, .aR amd, .aR ame, .aR amf, .aR amg, .aR amh, .aR amj, .aR amk]),(alH, .arr eF),(alI, .arr (.fz cT)),(alK, .arr mX),(alQ, .arr eF),(alV, .arr dQ),(ama, .arr dQ),(amb, .arr eG),(amc, .arr eG),(amd, .arr (.fz cT)),(ame, .arr mX),(amf, .arr eF),(amg, .arr dQ),(amh, .arr dQ),(amj, .arr eG),(amk, .arr eG)]
def akq:Nat→Option au:=λn=>bw [(0,⟨⟨[.dead, .dead, .vptr act 0, .vptr adc 0, .vptr aig 0, .dead, .dead, .aR alH, .b, .i .i64]++dd 116,PT⟩,⟨[.dead, .dead, .vptr act 0, .vptr adc 0, .vptr aig 0, .dead, .dead, .aR alH, .b]++dd 117,PT⟩,none,false⟩)] n
def aoP:bK:=dX 194 false [i4,i12] [none,none] [i4,i10] oN
theorem acv:aoP.Ok acl:=ck bR [] [] [Ru,wZ] ⟨zo,kW,trivial⟩ akq Tryz.f194 [.cell 4 31, .tmp 5] λx=>by kernel_rfl
abbrev akr:=(t4×t10×Unit)×XI
abbrev PU:=(Bool×Int×Unit)×ge
def tS:PU→Out (Round PU ((Bool×Unit)×ge) Empty)
|((p0,p1,_),(p2,p3,_),(p4,p5,p6,p7,p8,_),(p9,bL,_),b8,cr,dc,cO,cn,cX,dz,dC,dP,eH,eC,jZ,nw,rB,uG,_)=> .ite (decide (p1<((List.length cn:Nat):Int))) (.ite ((!p0)==true) (.ite (decide (0≤p1∧p1<((List.length cn:Nat):Int))) (.get (nth cn (Int.toNat p1)) λy1=> .ite (decide (y1.1>p5)) (.ite (decide (List.length b8+List.length ([(p5,([]:List Int),())]:List ah)≤bn)) (.ite (decide (0≤p1∧p1<((List.length cn:Nat):Int))) (.get (nth cn (Int.toNat p1)) λy2=> .ite (decide (List.length (b8++([(p5,([]:List Int),())]:List ah))+List.length ([y2]:List ah)≤bn)) (.ret (.again ((true,(abs (p1+1)),()),((p2,p3,()),(p4,p5,p6,p7,p8,()),(p9,bL,()),((b8++([(p5,([]:List Int),())]:List ah))++([y2]:List ah)),cr,dc,cO,cn,cX,dz,dC,dP,eH,eC,jZ,nw,rB,uG,())))) .fail) .fail) .fail) (.ite (decide (0≤p1∧p1<((List.length cn:Nat):Int))) (.get (nth cn (Int.toNat p1)) λy3=> .ite (decide (List.length b8+List.length ([y3]:List ah)≤bn)) (.ret (.again ((p0,(abs (p1+1)),()),((p2,p3,()),(p4,p5,p6,p7,p8,()),(p9,bL,()),(b8++([y3]:List ah)),cr,dc,cO,cn,cX,dz,dC,dP,eH,eC,jZ,nw,rB,uG,())))) .fail) .fail)) .fail) (.ite (decide (0≤p1∧p1<((List.length cn:Nat):Int))) (.get (nth cn (Int.toNat p1)) λy4=> .ite (decide (List.length b8+List.length ([y4]:List ah)≤bn)) (.ret (.again ((p0,(abs (p1+1)),()),((p2,p3,()),(p4,p5,p6,p7,p8,()),(p9,bL,()),(b8++([y4]:List ah)),cr,dc,cO,cn,cX,dz,dC,dP,eH,eC,jZ,nw,rB,uG,())))) .fail) .fail)) (.ret (.out ((p0,()),((p2,p3,()),(p4,p5,p6,p7,p8,()),(p9,bL,()),b8,cr,dc,cO,cn,cX,dz,dC,dP,eH,eC,jZ,nw,rB,uG,()))))
def oO:t4×t12×Unit→Out akr
|(a0,a1,_)=> .ite ((a1.1==14)) (.ite ((decide ((bq a0.2.2.2.2.2.1 a1.2.1)≥(0:Int)))==false) (.ite (!(dL a1.2.1 (0:Int) (2:Int))) (.ret ((a0,(false,()),()),((),(),()))) (.get (aP tS aI ((false,0,()),((a0.1,a0.2.1,()),(a1.1,a1.2.1,a1.2.2.1,a1.2.2.2.1,a1.2.2.2.2.1,()),(0,0,()),([]:List ah),a0.2.2.1,a0.2.2.2.1,a0.2.2.2.2.1,a0.2.2.2.2.2.1,a0.2.2.2.2.2.2.1,a0.2.2.2.2.2.2.2.1,a0.2.2.2.2.2.2.2.2.1,([]:List (List ar)),([]:List af),([]:List ai),([]:List ah),([]:List ah),([]:List Int),([]:List Int),()))) λ((Il,_),(A2,A3,_),(_,A4,_),_,wQ,A5,za,A6,_,Ft,Fu,Fv,_)=> .ite (!Il) (.ite (decide (List.length wQ+List.length ([(A4,([]:List Int),())]:List ah)≤bn)) (.ret (((A2,A3,A5,za,A6,(wQ++([(A4,([]:List Int),())]:List ah)),Ft,Fu,Fv,()),(true,()),()),((),(),()))) .fail) (.ret (((A2,A3,A5,za,A6,wQ,Ft,Fu,Fv,()),(true,()),()),((),(),()))))) (.ret ((a0,(false,()),()),((),(),())))) (.ite (decide ((bq a0.2.2.2.2.2.1 a1.2.1)<0)) (.ret ((a0,(false,()),()),((),(),()))) (.ite (decide (0≤(bq a0.2.2.2.2.2.1 a1.2.1)∧(bq a0.2.2.2.2.2.1 a1.2.1)<((List.length a0.2.2.2.2.2.1:Nat):Int))) (.get (nth a0.2.2.2.2.2.1 (Int.toNat (bq a0.2.2.2.2.2.1 a1.2.1))) λy2=> .ite ((a1.1==15)) (.ite (decide (((List.length y2.2.1:Nat):Int)≥(4:Int))) (.ret ((a0,(false,()),()),((),(),()))) (.ite (decide (List.length ([]:List Int)+List.length y2.2.1≤bn)) (.ite (decide (List.length (([]:List Int)++y2.2.1)+List.length ([a1.2.2.1]:List Int)≤bn)) (.ite (decide (0≤(bq a0.2.2.2.2.2.1 a1.2.1)∧(bq a0.2.2.2.2.2.1 a1.2.1)<((List.length a0.2.2.2.2.2.1:Nat):Int))) (.get (nth a0.2.2.2.2.2.1 (Int.toNat (bq a0.2.2.2.2.2.1 a1.2.1))) λy3=> .ret (((a0.1,a0.2.1,a0.2.2.1,a0.2.2.2.1,a0.2.2.2.2.1,(List.set a0.2.2.2.2.2.1 (Int.toNat (bq a0.2.2.2.2.2.1 a1.2.1)) (y3.1,(((([]:List Int)++y2.2.1)++([a1.2.2.1]:List Int)),y3.2.2))),a0.2.2.2.2.2.2),(true,()),()),((),(),()))) .fail) .fail) .fail)) (.ite ((a1.1==16)) (.ite ((((List.length y2.2.1:Nat):Int)==0)) (.ret ((a0,(false,()),()),((),(),()))) (.ite (decide (0≤(1:Int)∧(1:Int)≤((List.length y2.2.1:Nat):Int))) (.ite (decide (List.length ([]:List Int)+List.length (List.drop (Int.toNat (1:Int)) y2.2.1)≤bn)) (.ite (decide (0≤(bq a0.2.2.2.2.2.1 a1.2.1)∧(bq a0.2.2.2.2.2.1 a1.2.1)<((List.length a0.2.2.2.2.2.1:Nat):Int))) (.get (nth a0.2.2.2.2.2.1 (Int.toNat (bq a0.2.2.2.2.2.1 a1.2.1))) λy4=> .ret (((a0.1,a0.2.1,a0.2.2.1,a0.2.2.2.1,a0.2.2.2.2.1,(List.set a0.2.2.2.2.2.1 (Int.toNat (bq a0.2.2.2.2.2.1 a1.2.1)) (y4.1,((([]:List Int)++(List.drop (Int.toNat (1:Int)) y2.2.1)),y4.2.2))),a0.2.2.2.2.2.2),(true,()),()),((),(),()))) .fail) .fail) .fail)) (.ite (decide (0≤(0:Int)∧(0:Int)≤(bq a0.2.2.2.2.2.1 a1.2.1)∧(bq a0.2.2.2.2.2.1 a1.2.1)≤((List.length a0.2.2.2.2.2.1:Nat):Int))) (.ite (decide (List.length ([]:List ah)+List.length (List.take (Int.toNat (bq a0.2.2.2.2.2.1 a1.2.1) - Int.toNat (0:Int)) (List.drop (0+Int.toNat (0:Int)) a0.2.2.2.2.2.1))≤bn)) (.ite (decide (0≤(abs ((bq a0.2.2.2.2.2.1 a1.2.1)+1))∧(abs ((bq a0.2.2.2.2.2.1 a1.2.1)+1))≤((List.length a0.2.2.2.2.2.1:Nat):Int)∧((List.length a0.2.2.2.2.2.1:Nat):Int)≤((List.length a0.2.2.2.2.2.1:Nat):Int))) (.ite (decide (List.length (([]:List ah)++(List.take (Int.toNat (bq a0.2.2.2.2.2.1 a1.2.1) - Int.toNat (0:Int)) (List.drop (0+Int.toNat (0:Int)) a0.2.2.2.2.2.1)))+List.length (List.take (Int.toNat ((List.length a0.2.2.2.2.2.1:Nat):Int) - Int.toNat (abs ((bq a0.2.2.2.2.2.1 a1.2.1)+1))) (List.drop (0+Int.toNat (abs ((bq a0.2.2.2.2.2.1 a1.2.1)+1))) a0.2.2.2.2.2.1))≤bn)) (.ret (((a0.1,a0.2.1,a0.2.2.1,a0.2.2.2.1,a0.2.2.2.2.1,((([]:List ah)++(List.take (Int.toNat (bq a0.2.2.2.2.2.1 a1.2.1) - Int.toNat (0:Int)) (List.drop (0+Int.toNat (0:Int)) a0.2.2.2.2.2.1)))++(List.take (Int.toNat ((List.length a0.2.2.2.2.2.1:Nat):Int) - Int.toNat (abs ((bq a0.2.2.2.2.2.1 a1.2.1)+1))) (List.drop (0+Int.toNat (abs ((bq a0.2.2.2.2.2.1 a1.2.1)+1))) a0.2.2.2.2.2.1))),a0.2.2.2.2.2.2),(true,()),()),((),(),()))) .fail) .fail) .fail) .fail))) .fail))
def DX (x:t4×t12×Unit):=(oO x).eval
abbrev BD:List (Nat×dT):=[(act, .var [.i .i64, .i .i64, .aR alI, .aR alK, .aR alQ, .aR alV, .aR ama, .aR amb, .aR amc]),(adc, .var [.i .i64, .i .i64, .i .i64, .i .i64, .ro eG (some 7)]),(aig, .var [.i .i64, .i .i64, .aR amd, .aR ame, .aR amf, .aR amg, .aR amh, .aR amj, .aR amk]),(alH, .arr dQ),(alI, .arr (.fz cT)),(alK, .arr mX),(alQ, .arr eF),(alV, .arr dQ),(ama, .arr dQ),(amb, .arr eG),(amc, .arr eG),(amd, .arr (.fz cT)),(ame, .arr mX),(amf, .arr eF),(amg, .arr dQ),(amh, .arr dQ),(amj, .arr eG),(amk, .arr eG)]
def aks:Nat→Option au:=λn=>bw [(0,⟨⟨[.dead, .dead, .vptr act 0, .vptr adc 0, .vptr aig 0, .dead, .dead, .aR alH, .b, .i .i64]++dd 123,BD⟩,⟨[.dead, .dead, .vptr act 0, .vptr adc 0, .vptr aig 0, .dead, .dead, .aR alH, .b]++dd 124,BD⟩,none,false⟩)] n
def aoQ:bK:=dX 195 false [i4,i12] [none,none] [i4,i10] oO
theorem acw:aoQ.Ok acl:=ck bR [] [(6925,6),(7946,6)] [A7,wZ] ⟨xz,kW,trivial⟩ aks Tryz.f195 [.cell 4 31, .tmp 5] λx=>by kernel_rfl
abbrev Xr:=(t4×t10×Unit)×XI
abbrev PV:=(Bool×Int×Unit)×ge
def tT:PV→Out (Round PV ((Bool×Unit)×ge) Empty)
|((p0,p1,_),(p2,p3,_),(p4,p5,p6,p7,p8,_),(p9,bL,_),b8,cr,dc,cO,cn,cX,dz,dC,dP,eH,eC,jZ,nw,rB,uG,_)=> .ite (decide (p1<((List.length cX:Nat):Int))) (.ite ((!p0)==true) (.ite (decide (0≤p1∧p1<((List.length cX:Nat):Int))) (.get (nth cX (Int.toNat p1)) λy1=> .ite (decide (y1.1>p5)) (.ite (decide (List.length b8+List.length ([(p5,([]:List Int),())]:List ah)≤bn)) (.ite (decide (0≤p1∧p1<((List.length cX:Nat):Int))) (.get (nth cX (Int.toNat p1)) λy2=> .ite (decide (List.length (b8++([(p5,([]:List Int),())]:List ah))+List.length ([y2]:List ah)≤bn)) (.ret (.again ((true,(abs (p1+1)),()),((p2,p3,()),(p4,p5,p6,p7,p8,()),(p9,bL,()),((b8++([(p5,([]:List Int),())]:List ah))++([y2]:List ah)),cr,dc,cO,cn,cX,dz,dC,dP,eH,eC,jZ,nw,rB,uG,())))) .fail) .fail) .fail) (.ite (decide (0≤p1∧p1<((List.length cX:Nat):Int))) (.get (nth cX (Int.toNat p1)) λy3=> .ite (decide (List.length b8+List.length ([y3]:List ah)≤bn)) (.ret (.again ((p0,(abs (p1+1)),()),((p2,p3,()),(p4,p5,p6,p7,p8,()),(p9,bL,()),(b8++([y3]:List ah)),cr,dc,cO,cn,cX,dz,dC,dP,eH,eC,jZ,nw,rB,uG,())))) .fail) .fail)) .fail) (.ite (decide (0≤p1∧p1<((List.length cX:Nat):Int))) (.get (nth cX (Int.toNat p1)) λy4=> .ite (decide (List.length b8+List.length ([y4]:List ah)≤bn)) (.ret (.again ((p0,(abs (p1+1)),()),((p2,p3,()),(p4,p5,p6,p7,p8,()),(p9,bL,()),(b8++([y4]:List ah)),cr,dc,cO,cn,cX,dz,dC,dP,eH,eC,jZ,nw,rB,uG,())))) .fail) .fail)) (.ret (.out ((p0,()),((p2,p3,()),(p4,p5,p6,p7,p8,()),(p9,bL,()),b8,cr,dc,cO,cn,cX,dz,dC,dP,eH,eC,jZ,nw,rB,uG,()))))
def PW (v0 v1 v2:Int) (v3:List Int) (v4:List (List ar)) (v5:List af) (v6:List ai) (v7 v8:List ah) (v9 v10:List Int):Out (Xr):= .ite (decide (0≤v0∧v0<((List.length v8:Nat):Int))) (.get (nth v8 (Int.toNat v0)) λy3=> .ret (((v1,v2,v4,v5,v6,v7,(List.set v8 (Int.toNat v0) (y3.1,(v3,y3.2.2))),v9,v10,()),(true,()),()),((),(),()))) .fail
def sj:t4×t12×Unit→Out Xr
|(a0,a1,_)=> .ite ((a1.1==18)) (.ite ((decide ((br a0.2.2.2.2.2.2.1 a1.2.1)≥(0:Int)))==false) (.ite (!(dL a1.2.1 (0:Int) (5:Int))) (.ret ((a0,(false,()),()),((),(),()))) (.get (aP tT aI ((false,0,()),((a0.1,a0.2.1,()),(a1.1,a1.2.1,a1.2.2.1,a1.2.2.2.1,a1.2.2.2.2.1,()),(0,0,()),([]:List ah),a0.2.2.1,a0.2.2.2.1,a0.2.2.2.2.1,a0.2.2.2.2.2.1,a0.2.2.2.2.2.2.1,a0.2.2.2.2.2.2.2.1,a0.2.2.2.2.2.2.2.2.1,([]:List (List ar)),([]:List af),([]:List ai),([]:List ah),([]:List ah),([]:List Int),([]:List Int),()))) λ((Il,_),(A2,A3,_),(_,A4,_),_,wQ,A5,za,A6,Ft,_,Fu,Fv,_)=> .ite (!Il) (.ite (decide (List.length wQ+List.length ([(A4,([]:List Int),())]:List ah)≤bn)) (.ret (((A2,A3,A5,za,A6,Ft,(wQ++([(A4,([]:List Int),())]:List ah)),Fu,Fv,()),(true,()),()),((),(),()))) .fail) (.ret (((A2,A3,A5,za,A6,Ft,wQ,Fu,Fv,()),(true,()),()),((),(),()))))) (.ret ((a0,(false,()),()),((),(),())))) (.ite (decide ((br a0.2.2.2.2.2.2.1 a1.2.1)<0)) (.ret ((a0,(false,()),()),((),(),()))) (.ite ((a1.1==20)) (.ite (decide (0≤(0:Int)∧(0:Int)≤(br a0.2.2.2.2.2.2.1 a1.2.1)∧(br a0.2.2.2.2.2.2.1 a1.2.1)≤((List.length a0.2.2.2.2.2.2.1:Nat):Int))) (.ite (decide (List.length ([]:List ah)+List.length (List.take (Int.toNat (br a0.2.2.2.2.2.2.1 a1.2.1) - Int.toNat (0:Int)) (List.drop (0+Int.toNat (0:Int)) a0.2.2.2.2.2.2.1))≤bn)) (.ite (decide (0≤(abs ((br a0.2.2.2.2.2.2.1 a1.2.1)+1))∧(abs ((br a0.2.2.2.2.2.2.1 a1.2.1)+1))≤((List.length a0.2.2.2.2.2.2.1:Nat):Int)∧((List.length a0.2.2.2.2.2.2.1:Nat):Int)≤((List.length a0.2.2.2.2.2.2.1:Nat):Int))) (.ite (decide (List.length (([]:List ah)++(List.take (Int.toNat (br a0.2.2.2.2.2.2.1 a1.2.1) - Int.toNat (0:Int)) (List.drop (0+Int.toNat (0:Int)) a0.2.2.2.2.2.2.1)))+List.length (List.take (Int.toNat ((List.length a0.2.2.2.2.2.2.1:Nat):Int) - Int.toNat (abs ((br a0.2.2.2.2.2.2.1 a1.2.1)+1))) (List.drop (0+Int.toNat (abs ((br a0.2.2.2.2.2.2.1 a1.2.1)+1))) a0.2.2.2.2.2.2.1))≤bn)) (.ret (((a0.1,a0.2.1,a0.2.2.1,a0.2.2.2.1,a0.2.2.2.2.1,a0.2.2.2.2.2.1,((([]:List ah)++(List.take (Int.toNat (br a0.2.2.2.2.2.2.1 a1.2.1) - Int.toNat (0:Int)) (List.drop (0+Int.toNat (0:Int)) a0.2.2.2.2.2.2.1)))++(List.take (Int.toNat ((List.length a0.2.2.2.2.2.2.1:Nat):Int) - Int.toNat (abs ((br a0.2.2.2.2.2.2.1 a1.2.1)+1))) (List.drop (0+Int.toNat (abs ((br a0.2.2.2.2.2.2.1 a1.2.1)+1))) a0.2.2.2.2.2.2.1))),a0.2.2.2.2.2.2.2),(true,()),()),((),(),()))) .fail) .fail) .fail) .fail) (.ite (decide (0≤(br a0.2.2.2.2.2.2.1 a1.2.1)∧(br a0.2.2.2.2.2.2.1 a1.2.1)<((List.length a0.2.2.2.2.2.2.1:Nat):Int))) (.get (nth a0.2.2.2.2.2.2.1 (Int.toNat (br a0.2.2.2.2.2.2.1 a1.2.1))) λy2=> .ite (decide (List.length ([]:List Int)+List.length y2.2.1≤bn)) (.ite ((decide (a1.2.2.1<0))==false) (.ite ((decide (a1.2.2.1>((List.length (([]:List Int)++y2.2.1):Nat):Int)))==false) (.ite (decide (a1.2.2.1≥(8:Int))) (.ret ((a0,(false,()),()),((),(),()))) (.ite ((a1.2.2.1==((List.length (([]:List Int)++y2.2.1):Nat):Int))) (.ite (decide (List.length (([]:List Int)++y2.2.1)+List.length ([a1.2.2.2.1]:List Int)≤bn)) (PW (br a0.2.2.2.2.2.2.1 a1.2.1) a0.1 a0.2.1 ((([]:List Int)++y2.2.1)++([a1.2.2.2.1]:List Int)) a0.2.2.1 a0.2.2.2.1 a0.2.2.2.2.1 a0.2.2.2.2.2.1 a0.2.2.2.2.2.2.1 a0.2.2.2.2.2.2.2.1 a0.2.2.2.2.2.2.2.2.1) .fail) (.ite (decide (0≤a1.2.2.1∧a1.2.2.1<((List.length (([]:List Int)++y2.2.1):Nat):Int))) (.get (nth (([]:List Int)++y2.2.1) (Int.toNat a1.2.2.1)) λ_=>
 PW (br a0.2.2.2.2.2.2.1 a1.2.1) a0.1 a0.2.1 (List.set (([]:List Int)++y2.2.1) (Int.toNat a1.2.2.1) a1.2.2.2.1) a0.2.2.1 a0.2.2.2.1 a0.2.2.2.2.1 a0.2.2.2.2.2.1 a0.2.2.2.2.2.2.1 a0.2.2.2.2.2.2.2.1 a0.2.2.2.2.2.2.2.2.1) .fail))) (.ret ((a0,(false,()),()),((),(),())))) (.ret ((a0,(false,()),()),((),(),())))) .fail) .fail)))
def IV (x:t4×t12×Unit):=(sj x).eval
def akt:Nat→Option au:=λn=>bw [(0,⟨⟨[.dead, .dead, .vptr act 0, .vptr adc 0, .vptr aig 0, .dead, .dead, .aR alH, .b, .i .i64]++dd 132,BD⟩,⟨[.dead, .dead, .vptr act 0, .vptr adc 0, .vptr aig 0, .dead, .dead, .aR alH, .b]++dd 133,BD⟩,none,false⟩)] n
def aoR:bK:=dX 196 false [i4,i12] [none,none] [i4,i10] sj
theorem acx:aoR.Ok acl:=ck bR [] [(7687,6)] [A8,wZ] ⟨xA,kW,trivial⟩ akt Tryz.f196 [.cell 4 31, .tmp 5] λx=>by kernel_rfl
abbrev aku:=(t4×t10×Unit)×XI
abbrev PX:=(Int×Unit)×((Int×Int×Unit)×am×(Int×Int×Unit)×List (List ar)×List af×List ai×List ah×List ah×List Int×List Int×rV)
def oj:PX→Out (Round PX ((Unit)×bi) ((Bool×Unit)×((Int×Int×Unit)×rV)))
|((p0,_),(p1,p2,_),(p3,p4,p5,p6,p7,_),(p8,p9,_),bL,b8,cr,dc,cO,cn,cX,dz,dC,dP,eH,eC,jZ,nw,_)=> .ite (decide (p0<((List.length cn:Nat):Int))) (.ite (decide (0≤p0∧p0<((List.length cn:Nat):Int))) (.get (nth cn (Int.toNat p0)) λy1=> .ite ((y1==p4)) (.ite (decide (0≤(0:Int)∧(0:Int)≤p0∧p0≤((List.length cn:Nat):Int))) (.ite (decide (List.length ([]:List Int)+List.length (List.take (Int.toNat p0 - Int.toNat (0:Int)) (List.drop (0+Int.toNat (0:Int)) cn))≤bn)) (.ite (decide (0≤(abs (p0+1))∧(abs (p0+1))≤((List.length cn:Nat):Int)∧((List.length cn:Nat):Int)≤((List.length cn:Nat):Int))) (.ite (decide (List.length (([]:List Int)++(List.take (Int.toNat p0 - Int.toNat (0:Int)) (List.drop (0+Int.toNat (0:Int)) cn)))+List.length (List.take (Int.toNat ((List.length cn:Nat):Int) - Int.toNat (abs (p0+1))) (List.drop (0+Int.toNat (abs (p0+1))) cn))≤bn)) (.ret (.ret ((true,()),((p1,p2,()),bL,b8,cr,dc,cO,((([]:List Int)++(List.take (Int.toNat p0 - Int.toNat (0:Int)) (List.drop (0+Int.toNat (0:Int)) cn)))++(List.take (Int.toNat ((List.length cn:Nat):Int) - Int.toNat (abs (p0+1))) (List.drop (0+Int.toNat (abs (p0+1))) cn))),cX,())))) .fail) .fail) .fail) .fail) (.ret (.again (((abs (p0+1)),()),((p1,p2,()),(p3,p4,p5,p6,p7,()),(p8,p9,()),bL,b8,cr,dc,cO,cn,cX,dz,dC,dP,eH,eC,jZ,nw,()))))) .fail) (.ret (.out ((),((p1,p2,()),(p8,p9,()),bL,b8,cr,dc,cO,cn,cX,dz,dC,dP,eH,eC,jZ,nw,()))))
def oP:t4×t12×Unit→Out aku
|(a0,a1,_)=> .ite ((a1.1==21)) (.ite (decide (((List.length a0.2.2.2.2.2.2.2.1:Nat):Int)≥(6:Int))) (.ret ((a0,(false,()),()),((),(),()))) (.ite (decide (List.length a0.2.2.2.2.2.2.2.1+List.length ([a1.2.1]:List Int)≤bn)) (.ret (((a0.1,a0.2.1,a0.2.2.1,a0.2.2.2.1,a0.2.2.2.2.1,a0.2.2.2.2.2.1,a0.2.2.2.2.2.2.1,(a0.2.2.2.2.2.2.2.1++([a1.2.1]:List Int)),a0.2.2.2.2.2.2.2.2),(true,()),()),((),(),()))) .fail)) (.ite ((a1.1==22)) (.get (iter oj aI ((0,()),((a0.1,a0.2.1,()),(a1.1,a1.2.1,a1.2.2.1,a1.2.2.2.1,a1.2.2.2.2.1,()),(0,0,()),a0.2.2.1,a0.2.2.2.1,a0.2.2.2.2.1,a0.2.2.2.2.2.1,a0.2.2.2.2.2.2.1,a0.2.2.2.2.2.2.2.1,a0.2.2.2.2.2.2.2.2.1,([]:List (List ar)),([]:List af),([]:List ai),([]:List ah),([]:List ah),([]:List Int),([]:List Int),()))) λy1=> .alt y1 (λy2=> .ret (((y2.2.1.1,y2.2.1.2.1,y2.2.2.2.1,y2.2.2.2.2.1,y2.2.2.2.2.2.1,y2.2.2.2.2.2.2.1,y2.2.2.2.2.2.2.2.1,y2.2.2.2.2.2.2.2.2.1,y2.2.2.2.2.2.2.2.2.2.1,()),(false,()),()),((),(),()))) (λy3=> .ret (((y3.2.1.1,y3.2.1.2.1,y3.2.2.1,y3.2.2.2.1,y3.2.2.2.2.1,y3.2.2.2.2.2.1,y3.2.2.2.2.2.2.1,y3.2.2.2.2.2.2.2.1,y3.2.2.2.2.2.2.2.2.1,()),(y3.1.1,()),()),((),(),())))) (.ite ((a1.1==23)) (.ite (decide (((List.length a0.2.2.2.2.2.2.2.2.1:Nat):Int)≥(60:Int))) (.ret ((a0,(false,()),()),((),(),()))) (.ite (decide (List.length a0.2.2.2.2.2.2.2.2.1+List.length ([a1.2.1]:List Int)≤bn)) (.ret (((a0.1,a0.2.1,a0.2.2.1,a0.2.2.2.1,a0.2.2.2.2.1,a0.2.2.2.2.2.1,a0.2.2.2.2.2.2.1,a0.2.2.2.2.2.2.2.1,(a0.2.2.2.2.2.2.2.2.1++([a1.2.1]:List Int)),()),(true,()),()),((),(),()))) .fail)) (.ite ((a1.1==24)) (.ite (decide (a0.2.1≥(1000000:Int))) (.ret ((a0,(false,()),()),((),(),()))) (.ret (((a0.1,(abs (a0.2.1+1)),a0.2.2),(true,()),()),((),(),())))) (.ret ((a0,(false,()),()),((),(),()))))))
def DY (x:t4×t12×Unit):=(oP x).eval
def akv:Nat→Option au:=λn=>bw [(1,⟨⟨[.dead, .dead, .vptr act 0, .vptr adc 0, .vptr aig 0, .dead, .i .i64]++dd 76,[(act, .var [.i .i64, .i .i64, .aR alH, .aR alI, .aR alK, .aR alQ, .aR alV, .aR ama, .aR amb]),(adc, .var [.i .i64, .i .i64, .i .i64, .i .i64, .ro eG (some 7)]),(aig, .var [.i .i64, .i .i64, .aR amc, .aR amd, .aR ame, .aR amf, .aR amg, .aR amh, .aR amj]),(alH, .arr (.fz cT)),(alI, .arr mX),(alK, .arr eF),(alQ, .arr dQ),(alV, .arr dQ),(ama, .arr eG),(amb, .arr eG),(amc, .arr (.fz cT)),(amd, .arr mX),(ame, .arr eF),(amf, .arr dQ),(amg, .arr dQ),(amh, .arr eG),(amj, .arr eG)]⟩,⟨[.dead, .dead, .vptr act 0, .dead, .vptr adc 0]++dd 78,[(act, .var [.i .i64, .i .i64, .aR aig, .aR alH, .aR alI, .aR alK, .aR alQ, .aR alV, .aR ama]),(adc, .var [.i .i64, .i .i64, .aR amb, .aR amc, .aR amd, .aR ame, .aR amf, .aR amg, .aR amh]),(aig, .arr (.fz cT)),(alH, .arr mX),(alI, .arr eF),(alK, .arr dQ),(alQ, .arr dQ),(alV, .arr eG),(ama, .arr eG),(amb, .arr (.fz cT)),(amc, .arr mX),(amd, .arr eF),(ame, .arr dQ),(amf, .arr dQ),(amg, .arr eG),(amh, .arr eG)]⟩,some ⟨dd 4++[.vptr act 0, .b]++dd 77,[(act, .var [.i .i64, .i .i64, .aR adc, .aR aig, .aR alH, .aR alI, .aR alK, .aR alQ, .aR alV]),(adc, .arr (.fz cT)),(aig, .arr mX),(alH, .arr eF),(alI, .arr dQ),(alK, .arr dQ),(alQ, .arr eG),(alV, .arr eG)]⟩,false⟩)] n
def aoS:bK:=dX 197 false [i4,i12] [none,none] [i4,i10] oP
theorem acy:aoS.Ok acl:=ck bR [] [] [] trivial akv Tryz.f197 [.cell 4 31, .tmp 5] λx=>by kernel_rfl
abbrev akw:=(t4×t10×Unit)×XI
def bM:t4×t12×Unit→Out akw
|(a0,a1,_)=> .ite ((a1.1==4)) (.get (Xq (a0,a1,())) λ((fC,y1b,_),_)=> .ret ((fC,y1b,()),((),(),()))) (.ite ((dL a1.1 (1:Int) (9:Int))==false) (.ite (dL a1.1 (25:Int) (26:Int)) (.get (mw (a0,a1,())) λ((cC,y2b,_),_)=> .ret ((cC,y2b,()),((),(),()))) (.ite (dL a1.1 (10:Int) (13:Int)) (.get (DW (a0,a1,())) λ((dW,y3b,_),_)=> .ret ((dW,y3b,()),((),(),()))) (.ite (dL a1.1 (14:Int) (17:Int)) (.get (DX (a0,a1,())) λ((gD,y4b,_),_)=> .ret ((gD,y4b,()),((),(),()))) (.ite (dL a1.1 (18:Int) (20:Int)) (.get (IV (a0,a1,())) λ((kJ,y5b,_),_)=> .ret ((kJ,y5b,()),((),(),()))) (.get (DY (a0,a1,())) λ((mH,y6b,_),_)=> .ret ((mH,y6b,()),((),(),()))))))) (.get (mw (a0,a1,())) λ((nz,y7b,_),_)=> .ret ((nz,y7b,()),((),(),()))))
def eo (x:t4×t12×Unit):=(bM x).eval
def aoT:bK:=dX 168 false [i4,i12] [none,none] [i4,i10] bM
theorem acz:aoT.Ok acl:=ck bR [] [] [aoO,wZ,aoN,aoP,aoQ,aoR,aoS] ⟨acr,kW,acq,acv,acw,acx,acy,trivial⟩ (λ_=>none) Tryz.f168 [.cell 4 31, .tmp 5] λx=>by kernel_rfl
abbrev aky:=(t13×Unit)×XI
def IW:t13×t12×Unit→Out aky
|(a0,a1,_)=> .get (eo ((a0.1,a0.2.1,a0.2.2.1,a0.2.2.2.1,a0.2.2.2.2.1,a0.2.2.2.2.2.1,a0.2.2.2.2.2.2.1,a0.2.2.2.2.2.2.2.1,a0.2.2.2.2.2.2.2.2.1,()),a1,())) λ((fC,_),_)=> .ite (decide (List.length a0.2.2.2.2.2.2.2.2.2.1+List.length ([a1]:List am)≤bn)) (.ret (((fC.1,fC.2.1,fC.2.2.1,fC.2.2.2.1,fC.2.2.2.2.1,fC.2.2.2.2.2.1,fC.2.2.2.2.2.2.1,fC.2.2.2.2.2.2.2.1,fC.2.2.2.2.2.2.2.2.1,(a0.2.2.2.2.2.2.2.2.2.1++([a1]:List am)),()),()),((),(),()))) .fail
def bz (x:t13×t12×Unit):=(IW x).eval
def pA:bK:=dX 149 false [i13,i12] [none,none] [i13] IW
theorem fO:pA.Ok acl:=ck bR [] [] [aoT] ⟨acz,trivial⟩ (λ_=>none) Tryz.f149 [.cell 4 139] λx=>by kernel_rfl
abbrev akz:=(t12×Unit)×(Unit×Unit×XI)
def Xs:t1×t1×t1×t1×Unit→Out akz
|(a0,a1,a2,a3,_)=> .ret (((a0.1,a1.1,a2.1,a3.1,([]:List Int),()),()),((),(),(),(),()))
def b6 (x:t1×t1×t1×t1×Unit):=(Xs x).eval
def ru:bK:=dX 150 false [i1,i1,i1,i1] [none,none,none,none] [i12] Xs
theorem gv:ru.Ok acl:=ck bR [] [] [] trivial (λ_=>none) Tryz.f150 [.cell 8 160] λx=>by kernel_rfl
abbrev acA:=(t13×Unit)×(Unit×XI)
def BE:t13×t1×t7×Unit→Out acA
|(a0,a1,a2,_)=> .ite (decide (List.length ([]:List Int)+List.length a2.2.1≤bn)) (.get (bz (a0,(1,a1.1,a2.1,0,(([]:List Int)++a2.2.1),()),())) λ((fC,_),_)=> .ret ((fC,()),((),(),(),()))) .fail
def BF (x:t13×t1×t7×Unit):=(BE x).eval
def PY:bK:=dX 155 false [i13,i1,i7] [none,none,none] [i13] BE
theorem DZ:PY.Ok acl:=ck bR [264] [(264,1)] [pA] ⟨fO,trivial⟩ (λ_=>none) Tryz.f155 [.cell 6 139] λx=>by kernel_rfl
abbrev akA:=(t13×Unit)×(Unit×XI)
def Xt:t13×t1×t14×Unit→Out akA
|(a0,a1,a2,_)=> .ite (decide (List.length ([]:List Int)+List.length a2.2.1≤bn)) (.get (bz (a0,(1,a1.1,a2.1,0,(([]:List Int)++a2.2.1),()),())) λ((fC,_),_)=> .ret ((fC,()),((),(),(),()))) .fail
def Xu (x:t13×t1×t14×Unit):=(Xt x).eval
def aoU:bK:=dX 155 false [i13,i1,i14] [none,none,none] [i13] Xt
theorem acB:aoU.Ok acl:=ck bR [264] [(264,1)] [pA] ⟨fO,trivial⟩ (λ_=>none) Tryz.f155 [.cell 6 139] λx=>by kernel_rfl
abbrev acC:=(t13×Unit)×(Unit×Unit×XI)
def BG:t13×t1×t7×t1×Unit→Out acC
|(a0,a1,a2,a3,_)=> .ite (decide (List.length ([]:List Int)+List.length a2.2.1≤bn)) (.ite (decide (0≤(0:Int)∧(0:Int)<((List.length (([]:List Int)++a2.2.1):Nat):Int))) (.get (nth (([]:List Int)++a2.2.1) (Int.toNat (0:Int))) λ_=> .get (BF (a0,a1,(a2.1,(List.set (([]:List Int)++a2.2.1) (Int.toNat (0:Int)) a3.1),()),())) λ((cC,_),_)=> .ret ((cC,()),((),(),(),(),()))) .fail) .fail
def PZ (x:t13×t1×t7×t1×Unit):=(BG x).eval
def afr:bK:=dX 174 false [i13,i1,i7,i1] [none,none,none,none] [i13] BG
theorem Xv:afr.Ok acl:=ck bR [] [] [PY] ⟨DZ,trivial⟩ (λ_=>none) Tryz.f174 [.cell 8 139] λx=>by kernel_rfl
abbrev akB:=(t13×Unit)×(Unit×Unit×XI)
def Xw:t13×t1×t14×t1×Unit→Out akB
|(a0,a1,a2,a3,_)=> .ite (decide (List.length ([]:List Int)+List.length a2.2.1≤bn)) (.ite (decide (0≤(0:Int)∧(0:Int)<((List.length (([]:List Int)++a2.2.1):Nat):Int))) (.get (nth (([]:List Int)++a2.2.1) (Int.toNat (0:Int))) λ_=> .get (BF (a0,a1,(a2.1,(List.set (([]:List Int)++a2.2.1) (Int.toNat (0:Int)) a3.1),()),())) λ((cC,_),_)=> .ret ((cC,()),((),(),(),(),()))) .fail) .fail
def bF (x:t13×t1×t14×t1×Unit):=(Xw x).eval
def xI:bK:=dX 174 false [i13,i1,i14,i1] [none,none,none,none] [i13] Xw
theorem jF:xI.Ok acl:=ck bR [] [] [PY] ⟨DZ,trivial⟩ (λ_=>none) Tryz.f174 [.cell 8 139] λx=>by kernel_rfl
abbrev akC:=(t13×Unit)×(Unit×Unit×Unit×XI)
def IX:t13×t1×t14×t1×t1×Unit→Out akC
|(a0,a1,a2,a3,a4,_)=> .ite (decide (List.length ([]:List Int)+List.length a2.2.1≤bn)) (.ite (decide (0≤(1:Int)∧(1:Int)<((List.length (([]:List Int)++a2.2.1):Nat):Int))) (.get (nth (([]:List Int)++a2.2.1) (Int.toNat (1:Int))) λ_=> .get (PZ (a0,a1,(a2.1,(List.set (([]:List Int)++a2.2.1) (Int.toNat (1:Int)) a4.1),()),a3,())) λ((cC,_),_)=> .ret ((cC,()),((),(),(),(),(),()))) .fail) .fail
def yw (x:t13×t1×t14×t1×t1×Unit):=(IX x).eval
def acD:bK:=dX 201 false [i13,i1,i14,i1,i1] [none,none,none,none,none] [i13] IX
theorem IY:acD.Ok acl:=ck bR [] [] [afr] ⟨Xv,trivial⟩ (λ_=>none) Tryz.f201 [.cell 10 139] λx=>by kernel_rfl
abbrev akD:=(t13×Unit)×(Unit×Unit×XI)
def IZ:t13×t1×t1×t1×Unit→Out akD
|(a0,a1,a2,a3,_)=> .get (b6 ((3,()),a1,a2,a3,())) λ((fC,_),_)=> .get (bz (a0,fC,())) λ((cC,_),_)=> .get (b6 ((22,()),a1,(0,()),(0,()),())) λ((dW,_),_)=> .get (bz (cC,dW,())) λ((gD,_),_)=> .ret ((gD,()),((),(),(),(),()))
def yA (x:t13×t1×t1×t1×Unit):=(IZ x).eval
def Xx:bK:=dX 202 false [i13,i1,i1,i1] [none,none,none,none] [i13] IZ
theorem BH:Xx.Ok acl:=ck bR [] [] [ru,pA] ⟨gv,fO,trivial⟩ (λ_=>none) Tryz.f202 [.cell 8 139] λx=>by kernel_rfl
abbrev akE:=(t13×Unit)×XI
def I0:t13×t1×Unit→Out akE
|(a0,a1,_)=> .get (b6 ((3,()),a1,(1,()),(0,()),())) λ((fC,_),_)=> .get (bz (a0,fC,())) λ((cC,_),_)=> .get (b6 ((21,()),a1,(0,()),(0,()),())) λ((dW,_),_)=> .get (bz (cC,dW,())) λ((gD,_),_)=> .ret ((gD,()),((),(),()))
def sk (x:t13×t1×Unit):=(I0 x).eval
def acE:bK:=dX 151 false [i13,i1] [none,none] [i13] I0
theorem I1:acE.Ok acl:=ck bR [] [] [ru,pA] ⟨gv,fO,trivial⟩ (λ_=>none) Tryz.f151 [.cell 4 139] λx=>by kernel_rfl
abbrev akF:=(t10×Unit)×(Unit×Unit)
def I2:t1×Unit→Out akF
|(a0,_)=> .ite (((a0.1==3))==false) (.ret (((((a0.1==4)),()),()),((),()))) (.ret (((true,()),()),((),())))
def I3 (x:t1×Unit):=(I2 x).eval
def akG:bK:=dX 198 true [i1] [none] [i10] I2
theorem P0:akG.Ok acl:=ck jd [] [] [] trivial (λ_=>none) Tryz.f198 [.tmp 2] λx=>by kernel_rfl
abbrev akH:=(t13×Unit)×XI
abbrev P1:=(Int×Int×Unit)×ce
def om:P1→Out (Round P1 ((Unit)×ce) Empty)
|((p0,p1,_),(p2,p3,_),(p4,p5,_),p6,p7,p8,p9,bL,b8,cr,dc,cO,cn,cX,dz,dC,dP,eH,eC,jZ,_)=> .ite (decide (p1<((List.length p8:Nat):Int))) (.ite (decide (0≤p1∧p1<((List.length p8:Nat):Int))) (.get (nth p8 (Int.toNat p1)) λy1=> .ite (((y1.2.2.1==4))==false) (.ite (((y1.2.2.1==5))==true) (.ite ((decide ((aM p9 y1.2.2.2.2.2.2.2.1)≥(0:Int)))==true) (.ite (decide (0≤(aM p9 y1.2.2.2.2.2.2.2.1)∧(aM p9 y1.2.2.2.2.2.2.2.1)<((List.length p9:Nat):Int))) (.get (nth p9 (Int.toNat (aM p9 y1.2.2.2.2.2.2.2.1))) λy2=> .get (I3 ((y2.2.1,()),())) λ((dW,_),_)=> .ite (dW.1==true) (.ite (decide (0≤(aM p9 y1.2.2.2.2.2.2.2.1)∧(aM p9 y1.2.2.2.2.2.2.2.1)<((List.length p9:Nat):Int))) (.get (nth p9 (Int.toNat (aM p9 y1.2.2.2.2.2.2.2.1))) λy4=> .ite ((y4.2.2.1==p0)) (.ite (decide (List.length p6+List.length ([y1.1]:List Int)≤bn)) (.ret (.again ((p0,(abs (p1+1)),()),((p2,p3,()),(p4,p5,()),(p6++([y1.1]:List Int)),p7,p8,p9,bL,b8,cr,dc,cO,cn,cX,dz,dC,dP,eH,eC,jZ,())))) .fail) (.ret (.again ((p0,(abs (p1+1)),()),((p2,p3,()),(p4,p5,()),p6,p7,p8,p9,bL,b8,cr,dc,cO,cn,cX,dz,dC,dP,eH,eC,jZ,()))))) .fail) (.ret (.again ((p0,(abs (p1+1)),()),((p2,p3,()),(p4,p5,()),p6,p7,p8,p9,bL,b8,cr,dc,cO,cn,cX,dz,dC,dP,eH,eC,jZ,()))))) .fail) (.ret (.again ((p0,(abs (p1+1)),()),((p2,p3,()),(p4,p5,()),p6,p7,p8,p9,bL,b8,cr,dc,cO,cn,cX,dz,dC,dP,eH,eC,jZ,()))))) (.ret (.again ((p0,(abs (p1+1)),()),((p2,p3,()),(p4,p5,()),p6,p7,p8,p9,bL,b8,cr,dc,cO,cn,cX,dz,dC,dP,eH,eC,jZ,()))))) (.ite ((decide ((aM p9 y1.2.2.2.2.2.2.2.1)≥(0:Int)))==true) (.ite (decide (0≤(aM p9 y1.2.2.2.2.2.2.2.1)∧(aM p9 y1.2.2.2.2.2.2.2.1)<((List.length p9:Nat):Int))) (.get (nth p9 (Int.toNat (aM p9 y1.2.2.2.2.2.2.2.1))) λy5=> .get (I3 ((y5.2.1,()),())) λ((mH,_),_)=> .ite (mH.1==true) (.ite (decide (0≤(aM p9 y1.2.2.2.2.2.2.2.1)∧(aM p9 y1.2.2.2.2.2.2.2.1)<((List.length p9:Nat):Int))) (.get (nth p9 (Int.toNat (aM p9 y1.2.2.2.2.2.2.2.1))) λy7=> .ite ((y7.2.2.1==p0)) (.ite (decide (List.length p6+List.length ([y1.1]:List Int)≤bn)) (.ret (.again ((p0,(abs (p1+1)),()),((p2,p3,()),(p4,p5,()),(p6++([y1.1]:List Int)),p7,p8,p9,bL,b8,cr,dc,cO,cn,cX,dz,dC,dP,eH,eC,jZ,())))) .fail) (.ret (.again ((p0,(abs (p1+1)),()),((p2,p3,()),(p4,p5,()),p6,p7,p8,p9,bL,b8,cr,dc,cO,cn,cX,dz,dC,dP,eH,eC,jZ,()))))) .fail) (.ret (.again ((p0,(abs (p1+1)),()),((p2,p3,()),(p4,p5,()),p6,p7,p8,p9,bL,b8,cr,dc,cO,cn,cX,dz,dC,dP,eH,eC,jZ,()))))) .fail) (.ret (.again ((p0,(abs (p1+1)),()),((p2,p3,()),(p4,p5,()),p6,p7,p8,p9,bL,b8,cr,dc,cO,cn,cX,dz,dC,dP,eH,eC,jZ,())))))) .fail) (.ret (.out ((),((p2,p3,()),(p4,p5,()),p6,p7,p8,p9,bL,b8,cr,dc,cO,cn,cX,dz,dC,dP,eH,eC,jZ,()))))
abbrev P2:=(Int×Unit)×ce
def BI:P2→Out (Round P2 ((Unit)×co) Empty)
|((p0,_),(p1,p2,_),(p3,p4,_),p5,p6,p7,p8,p9,bL,b8,cr,dc,cO,cn,cX,dz,dC,dP,eH,eC,_)=> .ite (decide (p0<((List.length p5:Nat):Int))) (.ite (decide (0≤p0∧p0<((List.length p5:Nat):Int))) (.get (nth p5 (Int.toNat p0)) λy1=> .get (sk ((p1,p2,p6,p7,p8,p9,bL,b8,cr,dc,()),(y1,()),())) λ((cC,_),_)=> .ret (.again (((abs (p0+1)),()),((cC.1,cC.2.1,()),(p3,p4,()),p5,cC.2.2.1,cC.2.2.2.1,cC.2.2.2.2.1,cC.2.2.2.2.2.1,cC.2.2.2.2.2.2.1,cC.2.2.2.2.2.2.2.1,cC.2.2.2.2.2.2.2.2.1,cC.2.2.2.2.2.2.2.2.2.1,cO,cn,cX,dz,dC,dP,eH,eC,())))) .fail) (.ret (.out ((),((p1,p2,()),(p3,p4,()),p6,p7,p8,p9,bL,b8,cr,dc,cO,cn,cX,dz,dC,dP,eH,eC,()))))
def I4:t13×t1×Unit→Out akH
|(a0,a1,_)=> .get (aP om aI ((a1.1,0,()),((a0.1,a0.2.1,()),(0,0,()),([]:List Int),a0.2.2.1,a0.2.2.2.1,a0.2.2.2.2.1,a0.2.2.2.2.2.1,a0.2.2.2.2.2.2.1,a0.2.2.2.2.2.2.2.1,a0.2.2.2.2.2.2.2.2.1,a0.2.2.2.2.2.2.2.2.2.1,([]:List (List ar)),([]:List af),([]:List ai),([]:List ah),([]:List ah),([]:List Int),([]:List Int),([]:List am),()))) λ(_,(Il,A2,_),(A3,A4,_),wQ,A5,za,A6,Ft,Fu,Fv,acs,acu,ar3,ar4,ar5,ar6,ar7,ar8,ar9,asa,_)=> .get (aP BI aI ((0,()),((Il,A2,()),(A3,A4,()),wQ,A5,za,A6,Ft,Fu,Fv,acs,acu,ar3,ar4,ar5,ar6,ar7,ar8,ar9,asa,()))) λ(_,(WN,WO,_),_,WQ,WR,NJ,WS,WU,NK,WV,WW,_)=> .ret (((WN,WO,WQ,WR,NJ,WS,WU,NK,WV,WW,()),()),((),(),()))
def D0 (x:t13×t1×Unit):=(I4 x).eval
abbrev tU:List (Nat×dT):=[(act, .var [.i .i64, .i .i64, .aR alH, .aR alI, .aR alK, .aR alQ, .aR alV, .aR ama, .aR amb, .aR amc]),(adc, .var [.i .i64, .i .i64, .aR amd, .aR ame, .aR amf, .aR amg, .aR amh, .aR amj, .aR amk, .aR aml]),(aig, .arr eG),(alH, .arr (.fz cT)),(alI, .arr mX),(alK, .arr eF),(alQ, .arr dQ),(alV, .arr dQ),(ama, .arr eG),(amb, .arr eG),(amc, .arr AX),(amd, .arr (.fz cT)),(ame, .arr mX),(amf, .arr eF),(amg, .arr dQ),(amh, .arr dQ),(amj, .arr eG),(amk, .arr eG),(aml, .arr AX)]
abbrev xJ:List (Nat×dT):=[(act, .var [.i .i64, .i .i64, .aR aig, .aR alH, .aR alI, .aR alK, .aR alQ, .aR alV, .aR ama, .aR amb]),(adc, .var [.i .i64, .i .i64, .aR amc, .aR amd, .aR ame, .aR amf, .aR amg, .aR amh, .aR amj, .aR amk]),(aig, .arr (.fz cT)),(alH, .arr mX),(alI, .arr eF),(alK, .arr dQ),(alQ, .arr dQ),(alV, .arr eG),(ama, .arr eG),(amb, .arr AX),(amc, .arr (.fz cT)),(amd, .arr mX),(ame, .arr eF),(amf, .arr dQ),(amg, .arr dQ),(amh, .arr eG),(amj, .arr eG),(amk, .arr AX)]
def akI:Nat→Option au:=λn=>bw [(0,⟨⟨[.dead, .i .i64, .vptr act 0, .dead, .vptr adc 0, .aR aig, .i .i64]++dd 74,tU⟩,⟨[.dead, .dead, .vptr act 0, .dead, .vptr adc 0, .aR aig]++dd 75,tU⟩,none,false⟩),(2,⟨⟨[.dead, .dead, .vptr act 0, .dead, .vptr adc 0, .aR aig, .dead, .dead, .dead, .i .i64]++dd 71,tU⟩,⟨[.dead, .dead, .vptr act 0, .dead, .vptr adc 0]++dd 76,xJ⟩,none,false⟩)] n
def acF:bK:=dX 199 false [i13,i1] [none,none] [i13] I4
theorem I5:acF.Ok acl:=ck bR [] [] [Ru,akG,acE] ⟨zo,P0,I1,trivial⟩ akI Tryz.f199 [.cell 4 139] λx=>by kernel_rfl
abbrev akJ:=(t13×Unit)×(Unit×XI)
def I6:t13×t1×t1×Unit→Out akJ
|(a0,a1,a2,_)=> .ite (decide (0≤(al a0.2.2.2.1 a1.1)∧(al a0.2.2.2.1 a1.1)<((List.length a0.2.2.2.1:Nat):Int))) (.get (nth a0.2.2.2.1 (Int.toNat (al a0.2.2.2.1 a1.1))) λy1=> .ite (decide (0≤a2.1∧a2.1<((List.length y1.2.2.2.2.2.2.1:Nat):Int))) (.get (nth y1.2.2.2.2.2.2.1 (Int.toNat a2.1)) λy2=> .get (b6 ((9,()),a1,a2,(-1,()),())) λ((dW,_),_)=> .get (bz ((a0.1,a0.2.1,a0.2.2.1,(List.set a0.2.2.2.1 (Int.toNat (al a0.2.2.2.1 a1.1)) (y1.1,(y1.2.1,(y1.2.2.1,(y1.2.2.2.1,(y1.2.2.2.2.1,(y1.2.2.2.2.2.1,(y1.2.2.2.2.2.2.1,y1.2.2.2.2.2.2.2)))))))),a0.2.2.2.2),dW,())) λ((gD,_),_)=> .get (b6 ((11,()),(y2,()),(-1,()),(0,()),())) λ((kJ,_),_)=> .get (bz (gD,kJ,())) λ((mH,_),_)=> .ite (decide (0≤(aM mH.2.2.2.2.1 y2)∧(aM mH.2.2.2.2.1 y2)<((List.length mH.2.2.2.2.1:Nat):Int))) (.get (nth mH.2.2.2.2.1 (Int.toNat (aM mH.2.2.2.2.1 y2))) λy7=> .ite ((y7.2.2.2.2.1 != 0)) (.ret ((mH,()),((),(),(),()))) (.get (b6 ((12,()),(y2,()),(0,()),(0,()),())) λ((nU,_),_)=> .get (bz (mH,nU,())) λ((zN,_),_)=> .get (I3 ((y7.2.1,()),())) λ((qg,_),_)=> .ite (!qg.1) (.ret ((zN,()),((),(),(),()))) (.ite (((abs ((jg zN.2.2.2.2.1 y7.2.2.1 (3:Int))+(jg zN.2.2.2.2.1 y7.2.2.1 (4:Int))))==0)) (.get (b6 ((17,()),(y7.2.2.1,()),(0,()),(0,()),())) λ((zO,_),_)=> .get (bz (zN,zO,())) λ((qh,_),_)=> .ret ((qh,()),((),(),(),()))) (.get (D0 (zN,(y7.2.2.1,()),())) λ((qi,_),_)=> .ret ((qi,()),((),(),(),())))))) .fail) .fail) .fail
def yG (x:t13×t1×t1×Unit):=(I6 x).eval
def akK:bK:=dX 171 false [i13,i1,i1] [none,none,none] [i13] I6
theorem P3:akK.Ok acl:=ck bR [] [] [Pz,ru,pA,Ru,akG,Sq,acF] ⟨vq,gv,fO,zo,P0,DI,I5,trivial⟩ (λ_=>none) Tryz.f171 [.cell 6 139] λx=>by kernel_rfl
abbrev Xy:=(t13×Unit)×(Unit×XI)
abbrev I7:=(Int×Int×Int×Unit)×co
def tV:I7→Out (Round I7 ((Int×Int×Unit)×co) Empty)
|((p0,p1,p2,_),(p3,p4,_),(p5,p6,_),p7,p8,p9,bL,b8,cr,dc,cO,cn,cX,dz,dC,dP,eH,eC,jZ,_)=> .ite (decide (p2<4)) (.ite (decide (0≤(al p8 p0)∧(al p8 p0)<((List.length p8:Nat):Int))) (.get (nth p8 (Int.toNat (al p8 p0))) λy1=> .ite (decide (0≤p2∧p2<((List.length y1.2.2.2.2.2.2.1:Nat):Int))) (.get (nth y1.2.2.2.2.2.2.1 (Int.toNat p2)) λy2=> .ite ((y2 != -1)) (.get (yG ((p3,p4,p7,(List.set p8 (Int.toNat (al p8 p0)) (y1.1,(y1.2.1,(y1.2.2.1,(y1.2.2.2.1,(y1.2.2.2.2.1,(y1.2.2.2.2.2.1,(y1.2.2.2.2.2.2.1,y1.2.2.2.2.2.2.2)))))))),p9,bL,b8,cr,dc,cO,()),(p0,()),(p2,()),())) λ((dW,_),_)=> .ret (.again ((p0,p1,(abs (p2+1)),()),((dW.1,dW.2.1,()),(p5,p6,()),dW.2.2.1,dW.2.2.2.1,dW.2.2.2.2.1,dW.2.2.2.2.2.1,dW.2.2.2.2.2.2.1,dW.2.2.2.2.2.2.2.1,dW.2.2.2.2.2.2.2.2.1,dW.2.2.2.2.2.2.2.2.2.1,cn,cX,dz,dC,dP,eH,eC,jZ,())))) (.ret (.again ((p0,p1,(abs (p2+1)),()),((p3,p4,()),(p5,p6,()),p7,(List.set p8 (Int.toNat (al p8 p0)) (y1.1,(y1.2.1,(y1.2.2.1,(y1.2.2.2.1,(y1.2.2.2.2.1,(y1.2.2.2.2.2.1,(y1.2.2.2.2.2.2.1,y1.2.2.2.2.2.2.2)))))))),p9,bL,b8,cr,dc,cO,cn,cX,dz,dC,dP,eH,eC,jZ,()))))) .fail) .fail) (.ret (.out ((p0,p1,()),((p3,p4,()),(p5,p6,()),p7,p8,p9,bL,b8,cr,dc,cO,cn,cX,dz,dC,dP,eH,eC,jZ,()))))
abbrev P4:=(Int×Int×Int×Unit)×((Int×Int×Unit)×(Int×Int×Unit)×List go×List (List ar)×List af×List ai×List ah×List ah×List Int×List Int×List am×List (List ar)×List af×List ai×List ah×List ah×List Int×List Int×List am×Unit)
def mI:P4→Out (Round P4 ((Int×Int×Unit)×co) Empty)
|((p0,p1,p2,_),(p3,p4,_),(p5,p6,_),p7,p8,p9,bL,b8,cr,dc,cO,cn,cX,dz,dC,dP,eH,eC,jZ,nw,_)=> .ite (decide (p2<((List.length p7:Nat):Int))) (.ite (decide (0≤p2∧p2<((List.length p7:Nat):Int))) (.get (nth p7 (Int.toNat p2)) λy1=> .ite ((y1.2.1 != p0)) (.ret (.again ((p0,p1,(abs (p2+1)),()),((p3,p4,()),(p5,p6,()),p7,p8,p9,bL,b8,cr,dc,cO,cn,cX,dz,dC,dP,eH,eC,jZ,nw,())))) (.ite (decide (0≤p2∧p2<((List.length p7:Nat):Int))) (.get (nth p7 (Int.toNat p2)) λy2=> .ite ((y2.2.2.1==6)) (.ite (decide (0≤p2∧p2<((List.length p7:Nat):Int))) (.get (nth p7 (Int.toNat p2)) λy3=> .get (b6 ((6,()),(y3.1,()),(0,()),(0,()),())) λ((gD,_),_)=> .get (bz ((p3,p4,p8,p9,bL,b8,cr,dc,cO,cn,()),gD,())) λ((kJ,_),_)=> .ret (.again ((p0,p1,(abs (p2+1)),()),((kJ.1,kJ.2.1,()),(p5,p6,()),p7,kJ.2.2.1,kJ.2.2.2.1,kJ.2.2.2.2.1,kJ.2.2.2.2.2.1,kJ.2.2.2.2.2.2.1,kJ.2.2.2.2.2.2.2.1,kJ.2.2.2.2.2.2.2.2.1,kJ.2.2.2.2.2.2.2.2.2.1,cX,dz,dC,dP,eH,eC,jZ,nw,())))) .fail) (.ite (decide (0≤p2∧p2<((List.length p7:Nat):Int))) (.get (nth p7 (Int.toNat p2)) λy6=> .get (b6 ((25,()),(y6.1,()),(0,()),(0,()),())) λ((nz,_),_)=> .get (bz ((p3,p4,p8,p9,bL,b8,cr,dc,cO,cn,()),nz,())) λ((nU,_),_)=> .ret (.again ((p0,p1,(abs (p2+1)),()),((nU.1,nU.2.1,()),(p5,p6,()),p7,nU.2.2.1,nU.2.2.2.1,nU.2.2.2.2.1,nU.2.2.2.2.2.1,nU.2.2.2.2.2.2.1,nU.2.2.2.2.2.2.2.1,nU.2.2.2.2.2.2.2.2.1,nU.2.2.2.2.2.2.2.2.2.1,cX,dz,dC,dP,eH,eC,jZ,nw,())))) .fail)) .fail)) .fail) (.ret (.out ((p0,p1,()),((p3,p4,()),(p5,p6,()),p8,p9,bL,b8,cr,dc,cO,cn,cX,dz,dC,dP,eH,eC,jZ,nw,()))))
def xK (v0 v1 v2 v3 v4 v5:Int) (v6:List (List ar)) (v7:List af) (v8:List ai) (v9 v10:List ah) (v11 v12:List Int) (Rz:List am) (RA:List (List ar)) (Y4:List af) (v16:List ai) (v17 v18:List ah) (v19 v20:List Int) (v21:List am):Out (Xy):= .get (aP tV aI ((v0,v1,0,()),((v2,v3,()),(v4,v5,()),v6,v7,v8,v9,v10,v11,v12,Rz,RA,Y4,v16,v17,v18,v19,v20,v21,()))) λ((Ry,WX,_),(WY,WZ,_),(W0,W1,_),W2,W3,W4,W5,W6,W7,W8,W9,Xa,Xb,Xc,Xd,Xe,Xf,Xg,Xh,_)=> .get (b6 ((5,()),(Ry,()),(0,()),(0,()),())) λ((gD,_),_)=> .get (bz ((WY,WZ,W2,W3,W4,W5,W6,W7,W8,W9,()),gD,())) λ((kJ,_),_)=> .ite (decide (List.length ([]:List go)+List.length (List.map (λz:af=>(z.1,z.2.1,z.2.2.1,z.2.2.2.1,(z.2.2.2.2.1.1,(),()),(),(),z.2.2.2.2.2.2.2.1,z.2.2.2.2.2.2.2.2.1,())) kJ.2.2.2.1)≤bn)) (.get (aP mI aI ((Ry,WX,0,()),((kJ.1,kJ.2.1,()),(W0,W1,()),(([]:List go)++(List.map (λz:af=>(z.1,z.2.1,z.2.2.1,z.2.2.2.1,(z.2.2.2.2.1.1,(),()),(),(),z.2.2.2.2.2.2.2.1,z.2.2.2.2.2.2.2.2.1,())) kJ.2.2.2.1)),kJ.2.2.1,kJ.2.2.2.1,kJ.2.2.2.2.1,kJ.2.2.2.2.2.1,kJ.2.2.2.2.2.2.1,kJ.2.2.2.2.2.2.2.1,kJ.2.2.2.2.2.2.2.2.1,kJ.2.2.2.2.2.2.2.2.2.1,Xa,Xb,Xc,Xd,Xe,Xf,Xg,Xh,()))) λ((NM,asb,_),(asc,asd,_),_,ase,asf,asg,ash,asi,asj,asl,asm,_)=> .get (b6 ((22,()),(NM,()),(0,()),(0,()),())) λ((nz,_),_)=> .get (bz ((asc,asd,ase,asf,asg,ash,asi,asj,asl,asm,()),nz,())) λ((nU,_),_)=> .ite (decide (0≤(al nU.2.2.2.1 NM)∧(al nU.2.2.2.1 NM)<((List.length nU.2.2.2.1:Nat):Int))) (.get (nth nU.2.2.2.1 (Int.toNat (al nU.2.2.2.1 NM))) λy9=> .ite ((y9.2.1==0)) (.get (b6 ((6,()),(NM,()),(0,()),(0,()),())) λ((qg,_),_)=> .get (bz (nU,qg,())) λ((zO,_),_)=> .ret ((zO,()),((),(),(),()))) (.get (b6 ((3,()),(NM,()),(6,()),(0,()),())) λ((qh,_),_)=> .get (bz (nU,qh,())) λ((qi,_),_)=> .get (b6 ((26,()),(NM,()),(asb,()),(0,()),())) λ((D1,_),_)=> .get (bz (qi,D1,())) λ((ny,_),_)=> .ite (decide (0≤(al ny.2.2.2.1 y9.2.1)∧(al ny.2.2.2.1 y9.2.1)<((List.length ny.2.2.2.1:Nat):Int))) (.get (nth ny.2.2.2.1 (Int.toNat (al ny.2.2.2.1 y9.2.1))) λFl=> .ite ((Fl.2.2.1==3)) (.get (sk (ny,(y9.2.1,()),())) λ((vz,_),_)=> .ret ((vz,()),((),(),(),()))) (.ret ((ny,()),((),(),(),())))) .fail)) .fail) .fail
def I8:t13×t1×t1×Unit→Out Xy
|(a0,a1,a2,_)=> .ite (decide (0≤(al a0.2.2.2.1 a1.1)∧(al a0.2.2.2.1 a1.1)<((List.length a0.2.2.2.1:Nat):Int))) (.get (nth a0.2.2.2.1 (Int.toNat (al a0.2.2.2.1 a1.1))) λy1=> .ite ((y1.2.2.1 != 1)) (.get (sk (a0,a1,())) λ((cC,_),_)=>
 xK a1.1 a2.1 cC.1 cC.2.1 (0:Int) (0:Int) cC.2.2.1 cC.2.2.2.1 cC.2.2.2.2.1 cC.2.2.2.2.2.1 cC.2.2.2.2.2.2.1 cC.2.2.2.2.2.2.2.1 cC.2.2.2.2.2.2.2.2.1 cC.2.2.2.2.2.2.2.2.2.1 ([]:List (List ar)) ([]:List af) ([]:List ai) ([]:List ah) ([]:List ah) ([]:List Int) ([]:List Int) ([]:List am)) (xK a1.1 a2.1 a0.1 a0.2.1 (0:Int) (0:Int) a0.2.2.1 a0.2.2.2.1 a0.2.2.2.2.1 a0.2.2.2.2.2.1 a0.2.2.2.2.2.2.1 a0.2.2.2.2.2.2.2.1 a0.2.2.2.2.2.2.2.2.1 a0.2.2.2.2.2.2.2.2.2.1 ([]:List (List ar)) ([]:List af) ([]:List ai) ([]:List ah) ([]:List ah) ([]:List Int) ([]:List Int) ([]:List am))) .fail
def zP (x:t13×t1×t1×Unit):=(I8 x).eval
def akL:Nat→Option au:=λn=>bw [(0,⟨⟨[.dead, .i .i64, .i .i64, .vptr act 0, .dead, .dead, .vptr adc 0, .i .i64]++dd 127,xJ⟩,⟨[.dead, .i .i64, .i .i64, .vptr act 0, .dead, .dead, .vptr adc 0]++dd 128,xJ⟩,none,false⟩),(2,⟨⟨[.dead, .i .i64, .i .i64, .vptr act 0, .dead, .dead, .vptr adc 0, .dead, .aR aig, .i .i64]++dd 125,[(act, .var [.i .i64, .i .i64, .aR alH, .aR alI, .aR alK, .aR alQ, .aR alV, .aR ama, .aR amb, .aR amc]),(adc, .var [.i .i64, .i .i64, .aR amd, .aR ame, .aR amf, .aR amg, .aR amh, .aR amj, .aR amk, .aR aml]),(aig, .arr tyY),(alH, .arr (.fz cT)),(alI, .arr mX),(alK, .arr eF),(alQ, .arr dQ),(alV, .arr dQ),(ama, .arr eG),(amb, .arr eG),(amc, .arr AX),(amd, .arr (.fz cT)),(ame, .arr mX),(amf, .arr eF),(amg, .arr dQ),(amh, .arr dQ),(amj, .arr eG),(amk, .arr eG),(aml, .arr AX)]⟩,⟨[.dead, .i .i64, .i .i64, .vptr act 0, .dead, .dead, .vptr adc 0]++dd 128,xJ⟩,none,false⟩)] n
def acG:bK:=dX 153 false [i13,i1,i1] [none,none,none] [i13] I8
theorem I9:acG.Ok acl:=ck acj [] [] [Pz,acE,akK,ru,pA] ⟨vq,I1,P3,gv,fO,trivial⟩ akL Tryz.f153 [.cell 6 139] λx=>by kernel_rfl
abbrev akM:=(t1×Unit)×XI
abbrev P5:=(Int×Unit)×(XM×Unit)
def Bg:P5→Out (Round P5 ((Unit)×(Unit)) ((Int×Unit)×(Unit)))
|((p0,_),(p1,p2,p3,p4,p5,p6,p7,p8,p9,bL,_),_)=> .ite (decide (p0<((List.length p8:Nat):Int))) (.ite (decide (0≤p0)) (.get (nth p8 (Int.toNat p0)) λy1=> .ite ((y1== -1)) (.ret (.ret ((p0,()),()))) (.ret (.again (((abs (p0+1)),()),((p1,p2,p3,p4,p5,p6,p7,p8,p9,bL,()),()))))) .fail) (.ret (.out ((),())))
def HH:t15×t1×Unit→Out akM
|(a0,a1,_)=> .get (iter Bg aI ((a1.1,()),((a0.1,a0.2.1,a0.2.2.1,a0.2.2.2.1,a0.2.2.2.2.1,a0.2.2.2.2.2.1,a0.2.2.2.2.2.2.1,a0.2.2.2.2.2.2.2.1,a0.2.2.2.2.2.2.2.2.1,a0.2.2.2.2.2.2.2.2.2.1,()),()))) λy1=> .alt y1 (λ_=> .ret (((-1,()),()),((),(),()))) (λy3=> .ret (((y3.1.1,()),()),((),(),())))
def BZ (x:t15×t1×Unit):=(HH x).eval
def akN:Nat→Option au:=λn=>bw [(0,⟨⟨[.dead, .dead, .vptr act 0, .dead, .dead, .i .i64]++dd 15,[(act, .var [.i .i64, .i .i64, .i .i64, .i .i64, .i .i64, .ro eG (some 0), .ro eG (some 1), .ro eG (some 2), .i .i64, .i .i64])]⟩,⟨dd 21,[]⟩,some ⟨dd 4++[.i .i64]++dd 16,[]⟩,false⟩)] n
def acH:bK:=dX 203 true [i15,i1] [none,none] [i1] HH
theorem Ja:acH.Ok acl:=ck jd [] [] [] trivial akN Tryz.f203 [.tmp 4] λx=>by kernel_rfl
abbrev akO:=(t1×Unit)×XI
abbrev P6:=(Int×Unit)×(bA×Unit)
def Bh:P6→Out (Round P6 ((Unit)×(Unit)) ((Int×Unit)×(Unit)))
|((p0,_),(p1,p2,p3,p4,p5,p6,p7,p8,p9,_),_)=> .ite (decide (p0<8)) (.ite (decide ((aM p5 p0)<0)) (.ret (.ret ((p0,()),()))) (.ret (.again (((abs (p0+1)),()),((p1,p2,p3,p4,p5,p6,p7,p8,p9,()),()))))) (.ret (.out ((),())))
def HJ:t11×t1×Unit→Out akO
|(a0,a1,_)=> .get (iter Bh aI ((a1.1,()),((a0.1,a0.2.1,a0.2.2.1,a0.2.2.2.1,a0.2.2.2.2.1,a0.2.2.2.2.2.1,a0.2.2.2.2.2.2.1,a0.2.2.2.2.2.2.2.1,a0.2.2.2.2.2.2.2.2.1,()),()))) λy1=> .alt y1 (λ_=> .ret (((-1,()),()),((),(),()))) (λy3=> .ret (((y3.1.1,()),()),((),(),())))
def HI (x:t11×t1×Unit):=(HJ x).eval
abbrev P7:List (Nat×dT):=[(act, .var [.i .i64, .i .i64, .ro (.sl cT) (some 0), .ro jc (some 1), .ro eF (some 2), .ro dp (some 3), .ro dp (some 4), .ro eG (some 5), .ro eG (some 6)])]
def akP:Nat→Option au:=λn=>bw [(0,⟨⟨[.dead, .dead, .vptr act 0, .dead, .dead, .i .i64]++dd 10,P7⟩,⟨dd 16,[]⟩,some ⟨dd 4++[.i .i64]++dd 11,[]⟩,false⟩)] n
def akQ:bK:=dX 204 true [i11,i1] [none,none] [i1] HJ
theorem P8:akQ.Ok acl:=ck jd [] [] [Ru] ⟨zo,trivial⟩ akP Tryz.f204 [.tmp 4] λx=>by kernel_rfl
abbrev akR:=(t1×Unit)×(Unit×Unit)
abbrev P9:=(Int×Unit)×(bA×Unit)
def Bi:P9→Out (Round P9 ((Unit)×(Unit)) ((Int×Unit)×(Unit)))
|((p0,_),(p1,p2,p3,p4,p5,p6,p7,p8,p9,_),_)=> .ite (decide (p0<3)) (.ite (decide ((bq p6 p0)<0)) (.ret (.ret ((p0,()),()))) (.ret (.again (((abs (p0+1)),()),((p1,p2,p3,p4,p5,p6,p7,p8,p9,()),()))))) (.ret (.out ((),())))
def HK:t11×Unit→Out akR
|(a0,_)=> .get (iter Bi aI ((0,()),((a0.1,a0.2.1,a0.2.2.1,a0.2.2.2.1,a0.2.2.2.2.1,a0.2.2.2.2.2.1,a0.2.2.2.2.2.2.1,a0.2.2.2.2.2.2.2.1,a0.2.2.2.2.2.2.2.2.1,()),()))) λy1=> .alt y1 (λ_=> .ret (((-1,()),()),((),()))) (λy3=> .ret (((y3.1.1,()),()),((),())))
def SD (x:t11×Unit):=(HK x).eval
def akS:Nat→Option au:=λn=>bw [(0,⟨⟨[.dead, .vptr act 0, .dead, .i .i64]++dd 9,P7⟩,⟨dd 13,[]⟩,some ⟨[.dead, .dead, .i .i64]++dd 10,[]⟩,false⟩)] n
def aoV:bK:=dX 205 true [i11] [none] [i1] HK
theorem acI:aoV.Ok acl:=ck jd [] [] [A7] ⟨xz,trivial⟩ akS Tryz.f205 [.tmp 2] λx=>by kernel_rfl
abbrev akT:=(t13×Unit)×(Unit×XI)
abbrev Qa:=(Int×Int×Unit)×dl
def sR:Qa→Out (Round Qa ((Int×Unit)×dl) Empty)
|((p0,p1,_),(p2,p3,_),(p4,p5,p6,p7,p8,p9,bL,b8,cr,dc,_),(cO,cn,_),(cX,dz,_),dC,dP,eH,eC,jZ,nw,rB,uG,MG,IS,p28,p29,p30,p31,p32,p33,_)=> .ite (decide (p1<((List.length b8:Nat):Int))) (.ite (decide (0≤p1)) (.get (nth b8 (Int.toNat p1)) λy1=> .ite ((y1 != -1)) (.ite (decide (0≤p1)) (.get (nth b8 (Int.toNat p1)) λy2=> .get (b6 ((11,()),(y2,()),(1,()),(0,()),())) λ((dW,_),_)=> .get (bz ((p2,p3,dC,dP,eH,eC,jZ,nw,rB,uG,()),dW,())) λ((gD,_),_)=> .ret (.again ((p0,(abs (p1+1)),()),((gD.1,gD.2.1,()),(p4,p5,p6,p7,p8,p9,bL,b8,cr,dc,()),(cO,cn,()),(cX,dz,()),gD.2.2.1,gD.2.2.2.1,gD.2.2.2.2.1,gD.2.2.2.2.2.1,gD.2.2.2.2.2.2.1,gD.2.2.2.2.2.2.2.1,gD.2.2.2.2.2.2.2.2.1,gD.2.2.2.2.2.2.2.2.2.1,MG,IS,p28,p29,p30,p31,p32,p33,())))) .fail) (.ret (.again ((p0,(abs (p1+1)),()),((p2,p3,()),(p4,p5,p6,p7,p8,p9,bL,b8,cr,dc,()),(cO,cn,()),(cX,dz,()),dC,dP,eH,eC,jZ,nw,rB,uG,MG,IS,p28,p29,p30,p31,p32,p33,()))))) .fail) (.ret (.out ((p0,()),((p2,p3,()),(p4,p5,p6,p7,p8,p9,bL,b8,cr,dc,()),(cO,cn,()),(cX,dz,()),dC,dP,eH,eC,jZ,nw,rB,uG,MG,IS,p28,p29,p30,p31,p32,p33,()))))
def HB:t13×t15×t14×Unit→Out akT
|(a0,a1,a2,_)=> .ite ((decide (((List.length a0.2.2.2.1:Nat):Int)≥(6:Int)))==false) (.ite ((decide (a0.1≥(100000:Int)))==false) (.ite ((4:Int)==0) .fail (.get (pV ((a0.1,a0.2.1,a0.2.2.1,a0.2.2.2.1,a0.2.2.2.2.1,a0.2.2.2.2.2.1,a0.2.2.2.2.2.2.1,a0.2.2.2.2.2.2.2.1,a0.2.2.2.2.2.2.2.2.1,()),((abs (Int.tdiv ((List.length a1.2.2.2.2.2.2.1:Nat):Int) (4:Int))),()),())) λ((fC,_),_)=> .ite (!fC.1) (.get (bF (a0,(a1.1,()),a2,(-1,()),())) λ((cC,_),_)=> .ret ((cC,()),((),(),(),()))) (.get (b6 ((4,()),(a0.1,()),(a1.1,()),(0,()),())) λ((dW,_),_)=> .get (bz (a0,dW,())) λ((gD,_),_)=> .get (aP sR aI ((a0.1,0,()),((gD.1,gD.2.1,()),(a1.1,a1.2.1,a1.2.2.1,a1.2.2.2.1,a1.2.2.2.2.1,a1.2.2.2.2.2.1,a1.2.2.2.2.2.2.1,a1.2.2.2.2.2.2.2.1,a1.2.2.2.2.2.2.2.2.1,a1.2.2.2.2.2.2.2.2.2.1,()),(a2.1,a2.2.1,()),(0,0,()),gD.2.2.1,gD.2.2.2.1,gD.2.2.2.2.1,gD.2.2.2.2.2.1,gD.2.2.2.2.2.2.1,gD.2.2.2.2.2.2.2.1,gD.2.2.2.2.2.2.2.2.1,gD.2.2.2.2.2.2.2.2.2.1,([]:List (List ar)),([]:List af),([]:List ai),([]:List ah),([]:List ah),([]:List Int),([]:List Int),([]:List am),()))) λ((ak0,_),(asn,aso,_),(asp,_),(aoW,aoX,_),_,asq,asr,ass,ast,asu,asv,asw,asx,_)=> .get (bF ((asn,aso,asq,asr,ass,ast,asu,asv,asw,asx,()),(ak0,()),(aoW,aoX,()),(0,()),())) λ((mH,_),_)=> .get (b6 ((21,()),(ak0,()),(0,()),(0,()),())) λ((nz,_),_)=> .get (bz (mH,nz,())) λ((nU,_),_)=> .get (bF (nU,(asp,()),(aoW,aoX,()),(ak0,()),())) λ((zN,_),_)=> .ret ((zN,()),((),(),(),()))))) (.get (bF (a0,(a1.1,()),a2,(-1,()),())) λ((zO,_),_)=> .ret ((zO,()),((),(),(),())))) (.get (bF (a0,(a1.1,()),a2,(-1,()),())) λ((qh,_),_)=> .ret ((qh,()),((),(),(),())))
def Sx (x:t13×t15×t14×Unit):=(HB x).eval
abbrev BJ:List (Nat×dT):=[(act, .var [.i .i64, .i .i64, .aR alI, .aR alK, .aR alQ, .aR alV, .aR ama, .aR amb, .aR amc, .aR amd]),(adc, .var [.i .i64, .i .i64, .i .i64, .i .i64, .i .i64, .ro eG (some 8), .ro eG (some 9), .ro eG (some 10), .i .i64, .i .i64]),(aig, .var [.i .i64, .ro eG (some 11)]),(alH, .var [.i .i64, .i .i64, .aR ame, .aR amf, .aR amg, .aR amh, .aR amj, .aR amk, .aR aml, .aR 64000019]),(alI, .arr (.fz cT)),(alK, .arr mX),(alQ, .arr eF),(alV, .arr dQ),(ama, .arr dQ),(amb, .arr eG),(amc, .arr eG),(amd, .arr AX),(ame, .arr (.fz cT)),(amf, .arr mX),(amg, .arr eF),(amh, .arr dQ),(amj, .arr dQ),(amk, .arr eG),(aml, .arr eG),(64000019, .arr AX)]
def ak1:Nat→Option au:=λn=>bw [(0,⟨⟨[.dead, .dead, .dead, .vptr act 0, .vptr adc 0, .vptr aig 0, .vptr alH 0, .i .i64, .i .i64]++dd 70,BJ⟩,⟨[.dead, .dead, .dead, .vptr act 0, .vptr adc 0, .vptr aig 0, .vptr alH 0, .i .i64]++dd 71,BJ⟩,none,false⟩)] n
def aoY:bK:=dX 172 false [i13,i15,i14] [none,none,none] [i13] HB
theorem acJ:aoY.Ok acl:=ck bR [] [] [Xo,xI,ru,pA] ⟨BC,jF,gv,fO,trivial⟩ ak1 Tryz.f172 [.cell 6 139] λx=>by kernel_rfl
abbrev ak2:=(t13×Unit)×(Unit×XI)
abbrev Qb:=(Bool×Int×Unit)×dl
def sS:Qb→Out (Round Qb ((Bool×Unit)×dl) ((Unit)×((Int×Int×Unit)×List (List ar)×List af×List ai×List ah×List ah×List Int×List Int×List am×Unit)))
|((p0,p1,_),(p2,p3,_),(p4,p5,p6,p7,p8,p9,bL,b8,cr,dc,_),(cO,cn,_),(cX,dz,_),dC,dP,eH,eC,jZ,nw,rB,uG,MG,IS,p28,p29,p30,p31,p32,p33,_)=> .ite (decide (p1<((List.length dP:Nat):Int))) (.ite (decide (0≤p1∧p1<((List.length dP:Nat):Int))) (.get (nth dP (Int.toNat p1)) λy1=> .ite ((y1.2.1 != p4)) (.ret (.again ((p0,(abs (p1+1)),()),((p2,p3,()),(p4,p5,p6,p7,p8,p9,bL,b8,cr,dc,()),(cO,cn,()),(cX,dz,()),dC,dP,eH,eC,jZ,nw,rB,uG,MG,IS,p28,p29,p30,p31,p32,p33,())))) (.ite ((y1.2.2.1==6)) (.get (b6 ((6,()),(y1.1,()),(0,()),(0,()),())) λ((cC,_),_)=> .get (bz ((p2,p3,dC,dP,eH,eC,jZ,nw,rB,uG,()),cC,())) λ((dW,_),_)=> .get (yw (dW,(p4,()),(cO,cn,()),(y1.1,()),y1.2.2.2.2.2.2.2.2,())) λ((gD,_),_)=> .ret (.ret ((),((gD.1,gD.2.1,()),gD.2.2.1,gD.2.2.2.1,gD.2.2.2.2.1,gD.2.2.2.2.2.1,gD.2.2.2.2.2.2.1,gD.2.2.2.2.2.2.2.1,gD.2.2.2.2.2.2.2.2.1,gD.2.2.2.2.2.2.2.2.2.1,())))) (.ret (.again ((false,(abs (p1+1)),()),((p2,p3,()),(p4,p5,p6,p7,p8,p9,bL,b8,cr,dc,()),(cO,cn,()),(cX,dz,()),dC,dP,eH,eC,jZ,nw,rB,uG,MG,IS,p28,p29,p30,p31,p32,p33,())))))) .fail) (.ret (.out ((p0,()),((p2,p3,()),(p4,p5,p6,p7,p8,p9,bL,b8,cr,dc,()),(cO,cn,()),(cX,dz,()),dC,dP,eH,eC,jZ,nw,rB,uG,MG,IS,p28,p29,p30,p31,p32,p33,()))))
def HE:t13×t15×t14×Unit→Out ak2
|(a0,a1,a2,_)=> .get (iter sS aI ((true,0,()),((a0.1,a0.2.1,()),(a1.1,a1.2.1,a1.2.2.1,a1.2.2.2.1,a1.2.2.2.2.1,a1.2.2.2.2.2.1,a1.2.2.2.2.2.2.1,a1.2.2.2.2.2.2.2.1,a1.2.2.2.2.2.2.2.2.1,a1.2.2.2.2.2.2.2.2.2.1,()),(a2.1,a2.2.1,()),(0,0,()),a0.2.2.1,a0.2.2.2.1,a0.2.2.2.2.1,a0.2.2.2.2.2.1,a0.2.2.2.2.2.2.1,a0.2.2.2.2.2.2.2.1,a0.2.2.2.2.2.2.2.2.1,a0.2.2.2.2.2.2.2.2.2.1,([]:List (List ar)),([]:List af),([]:List ai),([]:List ah),([]:List ah),([]:List Int),([]:List Int),([]:List am),()))) λy1=> .alt y1 (λy2=> .ite y2.1.1 (.get (bF ((y2.2.1.1,y2.2.1.2.1,y2.2.2.2.2.2.1,y2.2.2.2.2.2.2.1,y2.2.2.2.2.2.2.2.1,y2.2.2.2.2.2.2.2.2.1,y2.2.2.2.2.2.2.2.2.2.1,y2.2.2.2.2.2.2.2.2.2.2.1,y2.2.2.2.2.2.2.2.2.2.2.2.1,y2.2.2.2.2.2.2.2.2.2.2.2.2.1,()),(y2.2.2.1.1,()),(y2.2.2.2.1.1,y2.2.2.2.1.2.1,()),(-1,()),())) λ((gD,_),_)=> .ret ((gD,()),((),(),(),()))) (.get (yA ((y2.2.1.1,y2.2.1.2.1,y2.2.2.2.2.2.1,y2.2.2.2.2.2.2.1,y2.2.2.2.2.2.2.2.1,y2.2.2.2.2.2.2.2.2.1,y2.2.2.2.2.2.2.2.2.2.1,y2.2.2.2.2.2.2.2.2.2.2.1,y2.2.2.2.2.2.2.2.2.2.2.2.1,y2.2.2.2.2.2.2.2.2.2.2.2.2.1,()),(y2.2.2.1.1,()),(3,()),(0,()),())) λ((kJ,_),_)=> .ret ((kJ,()),((),(),(),())))) (λy3=> .ret (((y3.2.1.1,y3.2.1.2.1,y3.2.2.1,y3.2.2.2.1,y3.2.2.2.2.1,y3.2.2.2.2.2.1,y3.2.2.2.2.2.2.1,y3.2.2.2.2.2.2.2.1,y3.2.2.2.2.2.2.2.2.1,y3.2.2.2.2.2.2.2.2.2.1,()),()),((),(),(),())))
def SC (x:t13×t15×t14×Unit):=(HE x).eval
def ak3:Nat→Option au:=λn=>bw [(0,⟨⟨[.dead, .dead, .dead, .vptr act 0, .vptr adc 0, .vptr aig 0, .vptr alH 0, .b, .i .i64]++dd 47,BJ⟩,⟨[.dead, .dead, .dead, .vptr act 0, .vptr adc 0, .vptr aig 0, .vptr alH 0, .b]++dd 48,BJ⟩,some ⟨dd 6++[.vptr act 0]++dd 49,[(act, .var [.i .i64, .i .i64, .aR adc, .aR aig, .aR alH, .aR alI, .aR alK, .aR alQ, .aR alV, .aR ama]),(adc, .arr (.fz cT)),(aig, .arr mX),(alH, .arr eF),(alI, .arr dQ),(alK, .arr dQ),(alQ, .arr eG),(alV, .arr eG),(ama, .arr AX)]⟩,false⟩)] n
def aoZ:bK:=dX 173 false [i13,i15,i14] [none,none,none] [i13] HE
theorem acK:aoZ.Ok acl:=ck bR [] [] [ru,pA,acD,xI,Xx] ⟨gv,fO,IY,jF,BH,trivial⟩ ak3 Tryz.f173 [.cell 6 139] λx=>by kernel_rfl
abbrev NN:=(t13×Unit)×(Unit×XI)
def Bj (v0 v1 v2 v3 v4 v5 v6:Int) (v7:List Int) (v8:List (List ar)) (v9:List af) (v10:List ai) (v11 v12:List ah) (Rz RA:List Int) (Y4:List am):Out (NN):= .get (b6 ((10,()),(v2,()),(2,()),(v0,()),())) λ((nU,_),_)=> .get (bz ((v3,v4,v8,v9,v10,v11,v12,Rz,RA,Y4,()),nU,())) λ((zN,_),_)=> .get (b6 ((11,()),(v2,()),(1,()),(0,()),())) λ((qg,_),_)=> .get (bz (zN,qg,())) λ((zO,_),_)=> .get (b6 ((9,()),(v5,()),(v1,()),(v2,()),())) λ((qh,_),_)=> .get (bz (zO,qh,())) λ((qi,_),_)=> .get (bF (qi,(v5,()),(v6,v7,()),(v1,()),())) λ((D1,_),_)=> .ret ((D1,()),((),(),(),()))
def Bl (v0 v1 v2:Int) (v3:Bool) (v4 v5 v6 v7:Int) (v8:List Int) (v9:List (List ar)) (v10:List af) (v11:List ai) (v12 Rz:List ah) (RA Y4:List Int) (v16:List am):Out (NN):= .ite (!v3) (.get (b6 ((18,()),(v0,()),(0,()),(0,()),())) λ((mH,_),_)=> .get (bz ((v4,v5,v9,v10,v11,v12,Rz,RA,Y4,v16,()),mH,())) λ((nz,_),_)=>
 Bj v0 v1 v2 nz.1 nz.2.1 v6 v7 v8 nz.2.2.1 nz.2.2.2.1 nz.2.2.2.2.1 nz.2.2.2.2.2.1 nz.2.2.2.2.2.2.1 nz.2.2.2.2.2.2.2.1 nz.2.2.2.2.2.2.2.2.1 nz.2.2.2.2.2.2.2.2.2.1) (Bj v0 v1 v2 v4 v5 v6 v7 v8 v9 v10 v11 v12 Rz RA Y4 v16)
def HM:t13×t15×t14×Unit→Out NN
|(a0,a1,a2,_)=> .ite (decide (0≤(0:Int))) (.get (nth a2.2.1 (Int.toNat (0:Int))) λy1=> .get (BZ (a1,(0,()),())) λ((cC,_),_)=> .get (HI ((a0.1,a0.2.1,a0.2.2.1,a0.2.2.2.1,a0.2.2.2.2.1,a0.2.2.2.2.2.1,a0.2.2.2.2.2.2.1,a0.2.2.2.2.2.2.2.1,a0.2.2.2.2.2.2.2.2.1,()),(0,()),())) λ((dW,_),_)=> .ite ((!(dL y1 (0:Int) (5:Int)))==false) (.ite ((decide (cC.1<0))==false) (.ite ((decide (dW.1<0))==false) (.ite ((!(decide ((br a0.2.2.2.2.2.2.1 y1)≥(0:Int))))==true) (.ite (decide (0≤(1:Int))) (.get (nth a2.2.1 (Int.toNat (1:Int))) λy4=> .ite ((y4==0)) (.get (bF (a0,(a1.1,()),a2,(-1,()),())) λ((kJ,_),_)=> .ret ((kJ,()),((),(),(),()))) (Bl y1 cC.1 dW.1 (decide ((br a0.2.2.2.2.2.2.1 y1)≥(0:Int))) a0.1 a0.2.1 a1.1 a2.1 a2.2.1 a0.2.2.1 a0.2.2.2.1 a0.2.2.2.2.1 a0.2.2.2.2.2.1 a0.2.2.2.2.2.2.1 a0.2.2.2.2.2.2.2.1 a0.2.2.2.2.2.2.2.2.1 a0.2.2.2.2.2.2.2.2.2.1)) .fail) (Bl y1 cC.1 dW.1 (decide ((br a0.2.2.2.2.2.2.1 y1)≥(0:Int))) a0.1 a0.2.1 a1.1 a2.1 a2.2.1 a0.2.2.1 a0.2.2.2.1 a0.2.2.2.2.1 a0.2.2.2.2.2.1 a0.2.2.2.2.2.2.1 a0.2.2.2.2.2.2.2.1 a0.2.2.2.2.2.2.2.2.1 a0.2.2.2.2.2.2.2.2.2.1)) (.get (bF (a0,(a1.1,()),a2,(-1,()),())) λ((NO,_),_)=> .ret ((NO,()),((),(),(),())))) (.get (bF (a0,(a1.1,()),a2,(-1,()),())) λ((vz,_),_)=> .ret ((vz,()),((),(),(),())))) (.get (bF (a0,(a1.1,()),a2,(-1,()),())) λ((wS,_),_)=> .ret ((wS,()),((),(),(),())))) .fail
def SH (x:t13×t15×t14×Unit):=(HM x).eval
def ao0:bK:=dX 176 false [i13,i15,i14] [none,none,none] [i13] HM
theorem acL:ao0.Ok acl:=ck bR [] [] [acH,akQ,A8,wZ,xI,ru,pA] ⟨Ja,P8,xA,kW,jF,gv,fO,trivial⟩ (λ_=>none) Tryz.f176 [.cell 6 139] λx=>by kernel_rfl
abbrev ak4:=(t16×t10×Unit)×(Unit×XI)
def rH:t11×t15×t1×Unit→Out ak4
|(a0,a1,a2,_)=> .ite ((decide (a2.1<0))==false) (.ite ((decide (a2.1≥((List.length a1.2.2.2.2.2.2.2.1:Nat):Int)))==false) (.ite (decide (0≤a2.1)) (.get (nth a1.2.2.2.2.2.2.2.1 (Int.toNat a2.1)) λy1=> .ite ((y1== -1)) (.ret (((0,0,0,0,0,()),(false,()),()),((),(),(),()))) (.ite (decide (0≤a2.1)) (.get (nth a1.2.2.2.2.2.2.2.1 (Int.toNat a2.1)) λy2=> .ite (decide (0≤(aM a0.2.2.2.2.1 y2))) (.get (nth a0.2.2.2.2.1 (Int.toNat (aM a0.2.2.2.2.1 y2))) λy3=> .ret ((y3,(true,()),()),((),(),(),()))) .fail) .fail)) .fail) (.ret (((0,0,0,0,0,()),(false,()),()),((),(),(),())))) (.ret (((0,0,0,0,0,()),(false,()),()),((),(),(),())))
def uQ (x:t11×t15×t1×Unit):=(rH x).eval
def Xz:bK:=dX 177 true [i11,i15,i1] [none,none,none] [i16,i10] rH
theorem BK:Xz.Ok acl:=ck jd [] [] [Ru] ⟨zo,trivial⟩ (λ_=>none) Tryz.f177 [.cell 6 61, .tmp 7] λx=>by kernel_rfl
abbrev ak5:=(t13×Unit)×(Unit×XI)
def HU:t13×t15×t14×Unit→Out ak5
|(a0,a1,a2,_)=> .ite (decide (0≤(0:Int))) (.get (nth a2.2.1 (Int.toNat (0:Int))) λy1=> .get (uQ ((a0.1,a0.2.1,a0.2.2.1,a0.2.2.2.1,a0.2.2.2.2.1,a0.2.2.2.2.2.1,a0.2.2.2.2.2.2.1,a0.2.2.2.2.2.2.2.1,a0.2.2.2.2.2.2.2.2.1,()),a1,(y1,()),())) λ((cC,y2b,_),_)=> .ite ((!y2b.1)==false) (.ite ((cC.2.1==4)) (.get (bF (a0,(a1.1,()),a2,(-1,()),())) λ((dW,_),_)=> .ret ((dW,()),((),(),(),()))) (.ite ((cC.2.1==1)) (.get (bF (a0,(a1.1,()),a2,(0,()),())) λ((gD,_),_)=> .ret ((gD,()),((),(),(),()))) (.ite ((cC.2.1==2)) (.ite (decide (0≤(br a0.2.2.2.2.2.2.1 cC.2.2.1)∧(br a0.2.2.2.2.2.2.1 cC.2.2.1)<((List.length a0.2.2.2.2.2.2.1:Nat):Int))) (.get (nth a0.2.2.2.2.2.2.1 (Int.toNat (br a0.2.2.2.2.2.2.1 cC.2.2.1))) λy5=> .ite (decide (cC.2.2.2.1≥((List.length y5.2.1:Nat):Int))) (.get (bF (a0,(a1.1,()),a2,(0,()),())) λ((mH,_),_)=> .ret ((mH,()),((),(),(),()))) (.get (b6 ((13,()),(cC.1,()),((abs (cC.2.2.2.1+1)),()),(0,()),())) λ((nz,_),_)=> .get (bz (a0,nz,())) λ((nU,_),_)=> .ite (decide (0≤cC.2.2.2.1)) (.get (nth y5.2.1 (Int.toNat cC.2.2.2.1)) λy9=> .get (yw (nU,(a1.1,()),a2,(1,()),(y9,()),())) λ((qg,_),_)=> .ret ((qg,()),((),(),(),()))) .fail)) .fail) (.ite (decide (0≤(bq a0.2.2.2.2.2.1 cC.2.2.1)∧(bq a0.2.2.2.2.2.1 cC.2.2.1)<((List.length a0.2.2.2.2.2.1:Nat):Int))) (.get (nth a0.2.2.2.2.2.1 (Int.toNat (bq a0.2.2.2.2.2.1 cC.2.2.1))) λsX=> .ite (decide (((List.length sX.2.1:Nat):Int)>0)) (.get (b6 ((16,()),(cC.2.2.1,()),(0,()),(0,()),())) λ((qh,_),_)=> .get (bz (a0,qh,())) λ((qi,_),_)=> .get (D0 (qi,(cC.2.2.1,()),())) λ((D1,_),_)=> .ite (decide (0≤(0:Int))) (.get (nth sX.2.1 (Int.toNat (0:Int))) λy15=> .get (yw (D1,(a1.1,()),a2,(1,()),(y15,()),())) λ((NO,_),_)=> .ret ((NO,()),((),(),(),()))) .fail) (.ite (((jg a0.2.2.2.2.1 cC.2.2.1 (4:Int))==0)) (.get (bF (a0,(a1.1,()),a2,(0,()),())) λ((vz,_),_)=> .ret ((vz,()),((),(),(),()))) (.get (yA (a0,(a1.1,()),(4,()),(cC.1,()),())) λ((wS,_),_)=> .ret ((wS,()),((),(),(),()))))) .fail)))) (.get (bF (a0,(a1.1,()),a2,(-1,()),())) λ((NP,_),_)=> .ret ((NP,()),((),(),(),())))) .fail
def SY (x:t13×t15×t14×Unit):=(HU x).eval
def ao1:bK:=dX 178 false [i13,i15,i14] [none,none,none] [i13] HU
theorem acM:ao1.Ok acl:=ck bR [] [] [Xz,xI,A8,ru,pA,acD,A7,acF,Sq,Xx] ⟨BK,jF,xA,gv,fO,IY,xz,I5,DI,BH,trivial⟩ (λ_=>none) Tryz.f178 [.cell 6 139] λx=>by kernel_rfl
abbrev ak6:=(t13×Unit)×(Unit×XI)
def HV:t13×t15×t14×Unit→Out ak6
|(a0,a1,a2,_)=> .ite (decide (0≤(0:Int))) (.get (nth a2.2.1 (Int.toNat (0:Int))) λy1=> .get (uQ ((a0.1,a0.2.1,a0.2.2.1,a0.2.2.2.1,a0.2.2.2.2.1,a0.2.2.2.2.2.1,a0.2.2.2.2.2.2.1,a0.2.2.2.2.2.2.2.1,a0.2.2.2.2.2.2.2.2.1,()),a1,(y1,()),())) λ((cC,y2b,_),_)=> .ite (decide (0≤(1:Int))) (.get (nth a2.2.1 (Int.toNat (1:Int))) λy3=> .ite ((!y2b.1)==false) (.ite ((cC.2.1==3)) (.get (bF (a0,(a1.1,()),a2,(-1,()),())) λ((gD,_),_)=> .ret ((gD,()),((),(),(),()))) (.ite ((cC.2.1==1)) (.ite (decide (((List.length a0.2.2.2.2.2.2.2.2.1:Nat):Int)≥(60:Int))) (.get (bF (a0,(a1.1,()),a2,(-1,()),())) λ((kJ,_),_)=> .ret ((kJ,()),((),(),(),()))) (.get (b6 ((23,()),(y3,()),(0,()),(0,()),())) λ((mH,_),_)=> .get (bz (a0,mH,())) λ((nz,_),_)=> .get (bF (nz,(a1.1,()),a2,(1,()),())) λ((nU,_),_)=> .ret ((nU,()),((),(),(),())))) (.ite ((cC.2.1==2)) (.ite (decide (cC.2.2.2.1≥(8:Int))) (.get (bF (a0,(a1.1,()),a2,(-1,()),())) λ((zN,_),_)=> .ret ((zN,()),((),(),(),()))) (.get (b6 ((19,()),(cC.2.2.1,()),(cC.2.2.2.1,()),(y3,()),())) λ((qg,_),_)=> .get (bz (a0,qg,())) λ((zO,_),_)=> .get (b6 ((13,()),(cC.1,()),((abs (cC.2.2.2.1+1)),()),(0,()),())) λ((qh,_),_)=> .get (bz (zO,qh,())) λ((qi,_),_)=> .get (bF (qi,(a1.1,()),a2,(1,()),())) λ((D1,_),_)=> .ret ((D1,()),((),(),(),())))) (.ite (((jg a0.2.2.2.2.1 cC.2.2.1 (3:Int))==0)) (.get (bF (a0,(a1.1,()),a2,(-1,()),())) λ((ny,_),_)=> .ret ((ny,()),((),(),(),()))) (.ite (decide (0≤(bq a0.2.2.2.2.2.1 cC.2.2.1)∧(bq a0.2.2.2.2.2.1 cC.2.2.1)<((List.length a0.2.2.2.2.2.1:Nat):Int))) (.get (nth a0.2.2.2.2.2.1 (Int.toNat (bq a0.2.2.2.2.2.1 cC.2.2.1))) λFl=> .ite (decide (((List.length Fl.2.1:Nat):Int)≥(4:Int))) (.get (yA (a0,(a1.1,()),(5,()),(cC.1,()),())) λ((vz,_),_)=> .ret ((vz,()),((),(),(),()))) (.get (b6 ((15,()),(cC.2.2.1,()),(y3,()),(0,()),())) λ((wS,_),_)=> .get (bz (a0,wS,())) λ((NP,_),_)=> .get (D0 (NP,(cC.2.2.1,()),())) λ((XA,_),_)=> .get (bF (XA,(a1.1,()),a2,(1,()),())) λ((XB,_),_)=> .ret ((XB,()),((),(),(),())))) .fail))))) (.get (bF (a0,(a1.1,()),a2,(-1,()),())) λ((Xn,_),_)=> .ret ((Xn,()),((),(),(),())))) .fail) .fail
def S0 (x:t13×t15×t14×Unit):=(HV x).eval
def ao2:bK:=dX 179 false [i13,i15,i14] [none,none,none] [i13] HV
theorem acN:ao2.Ok acl:=ck bR [] [] [Xz,xI,ru,pA,Sq,A7,Xx,acF] ⟨BK,jF,gv,fO,DI,xz,BH,I5,trivial⟩ (λ_=>none) Tryz.f179 [.cell 6 139] λx=>by kernel_rfl
abbrev ak7:=(t13×Unit)×(Unit×XI)
def HS:t13×t15×t14×Unit→Out ak7
|(a0,a1,a2,_)=> .get (SD ((a0.1,a0.2.1,a0.2.2.1,a0.2.2.2.1,a0.2.2.2.2.1,a0.2.2.2.2.2.1,a0.2.2.2.2.2.2.1,a0.2.2.2.2.2.2.2.1,a0.2.2.2.2.2.2.2.2.1,()),())) λ((fC,_),_)=> .get (BZ (a1,(0,()),())) λ((cC,_),_)=> .get (BZ (a1,((abs (cC.1+1)),()),())) λ((dW,_),_)=> .get (HI ((a0.1,a0.2.1,a0.2.2.1,a0.2.2.2.1,a0.2.2.2.2.1,a0.2.2.2.2.2.1,a0.2.2.2.2.2.2.1,a0.2.2.2.2.2.2.2.1,a0.2.2.2.2.2.2.2.2.1,()),(0,()),())) λ((gD,_),_)=> .get (HI ((a0.1,a0.2.1,a0.2.2.1,a0.2.2.2.1,a0.2.2.2.2.1,a0.2.2.2.2.2.1,a0.2.2.2.2.2.2.1,a0.2.2.2.2.2.2.2.1,a0.2.2.2.2.2.2.2.2.1,()),((abs (gD.1+1)),()),())) λ((kJ,_),_)=> .ite ((decide (fC.1<0))==false) (.ite ((decide (cC.1<0))==false) (.ite ((decide (dW.1<0))==false) (.ite ((decide (gD.1<0))==false) (.ite (decide (kJ.1<0)) (.get (bF (a0,(a1.1,()),a2,(-1,()),())) λ((mH,_),_)=> .ret ((mH,()),((),(),(),()))) (.get (b6 ((14,()),fC,(0,()),(0,()),())) λ((nz,_),_)=> .get (bz (a0,nz,())) λ((nU,_),_)=> .get (b6 ((10,()),gD,(3,()),fC,())) λ((zN,_),_)=> .get (bz (nU,zN,())) λ((qg,_),_)=> .get (b6 ((10,()),kJ,(4,()),fC,())) λ((zO,_),_)=> .get (bz (qg,zO,())) λ((qh,_),_)=> .get (b6 ((11,()),gD,(1,()),(0,()),())) λ((qi,_),_)=> .get (bz (qh,qi,())) λ((D1,_),_)=> .get (b6 ((11,()),kJ,(1,()),(0,()),())) λ((ny,_),_)=> .get (bz (D1,ny,())) λ((NO,_),_)=> .get (b6 ((9,()),(a1.1,()),cC,gD,())) λ((vz,_),_)=> .get (bz (NO,vz,())) λ((wS,_),_)=> .get (b6 ((9,()),(a1.1,()),dW,kJ,())) λ((NP,_),_)=> .get (bz (wS,NP,())) λ((XA,_),_)=> .get (yw (XA,(a1.1,()),a2,cC,dW,())) λ((XB,_),_)=> .ret ((XB,()),((),(),(),())))) (.get (bF (a0,(a1.1,()),a2,(-1,()),())) λ((S3,_),_)=> .ret ((S3,()),((),(),(),())))) (.get (bF (a0,(a1.1,()),a2,(-1,()),())) λ((M1,_),_)=> .ret ((M1,()),((),(),(),())))) (.get (bF (a0,(a1.1,()),a2,(-1,()),())) λ((S4,_),_)=> .ret ((S4,()),((),(),(),())))) (.get (bF (a0,(a1.1,()),a2,(-1,()),())) λ((S5,_),_)=> .ret ((S5,()),((),(),(),())))
def SS (x:t13×t15×t14×Unit):=(HS x).eval
def ao3:bK:=dX 180 false [i13,i15,i14] [none,none,none] [i13] HS
theorem acO:ao3.Ok acl:=ck bR [] [] [aoV,acH,akQ,xI,ru,pA,acD] ⟨acI,Ja,P8,jF,gv,fO,IY,trivial⟩ (λ_=>none) Tryz.f180 [.cell 6 139] λx=>by kernel_rfl
abbrev ak8:=(t13×Unit)×(Unit×XI)
def HN:t13×t15×t14×Unit→Out ak8
|(a0,a1,a2,_)=> .ite (decide (0≤(0:Int))) (.get (nth a2.2.1 (Int.toNat (0:Int))) λy1=> .get (uQ ((a0.1,a0.2.1,a0.2.2.1,a0.2.2.2.1,a0.2.2.2.2.1,a0.2.2.2.2.2.1,a0.2.2.2.2.2.2.1,a0.2.2.2.2.2.2.2.1,a0.2.2.2.2.2.2.2.2.1,()),a1,(y1,()),())) λ((cC,y2b,_),_)=> .get (BZ (a1,(0,()),())) λ((dW,_),_)=> .ite ((!y2b.1)==false) (.ite (decide (dW.1<0)) (.get (bF (a0,(a1.1,()),a2,(-1,()),())) λ((gD,_),_)=> .ret ((gD,()),((),(),(),()))) (.get (b6 ((11,()),(cC.1,()),(1,()),(0,()),())) λ((kJ,_),_)=> .get (bz (a0,kJ,())) λ((mH,_),_)=> .get (b6 ((9,()),(a1.1,()),dW,(cC.1,()),())) λ((nz,_),_)=> .get (bz (mH,nz,())) λ((nU,_),_)=> .get (bF (nU,(a1.1,()),a2,dW,())) λ((zN,_),_)=> .ret ((zN,()),((),(),(),())))) (.get (bF (a0,(a1.1,()),a2,(-1,()),())) λ((qg,_),_)=> .ret ((qg,()),((),(),(),())))) .fail
def SI (x:t13×t15×t14×Unit):=(HN x).eval
def ao4:bK:=dX 181 false [i13,i15,i14] [none,none,none] [i13] HN
theorem acP:ao4.Ok acl:=ck bR [] [] [Xz,acH,xI,ru,pA] ⟨BK,Ja,jF,gv,fO,trivial⟩ (λ_=>none) Tryz.f181 [.cell 6 139] λx=>by kernel_rfl
abbrev ak9:=(t13×Unit)×(Unit×XI)
def HQ:t13×t15×t14×Unit→Out ak9
|(a0,a1,a2,_)=> .ite (decide (0≤(0:Int))) (.get (nth a2.2.1 (Int.toNat (0:Int))) λy1=> .ite (decide (y1≤(0:Int))) (.get (bF (a0,(a1.1,()),a2,(0,()),())) λ((cC,_),_)=> .ret ((cC,()),((),(),(),()))) (.ite (decide ((abs (a0.2.1+y1))>1000000)) (.get (bF (a0,(a1.1,()),a2,(-1,()),())) λ((dW,_),_)=> .ret ((dW,()),((),(),(),()))) (.get (bF (a0,(a1.1,()),a2,(0,()),())) λ((gD,_),_)=> .get (yA (gD,(a1.1,()),(2,()),((abs (gD.2.1+y1)),()),())) λ((kJ,_),_)=> .ret ((kJ,()),((),(),(),()))))) .fail
def SL (x:t13×t15×t14×Unit):=(HQ x).eval
def ao5:bK:=dX 182 false [i13,i15,i14] [none,none,none] [i13] HQ
theorem acQ:ao5.Ok acl:=ck bR [] [] [xI,Xx] ⟨jF,BH,trivial⟩ (λ_=>none) Tryz.f182 [.cell 6 139] λx=>by kernel_rfl
abbrev ala:=(t13×Unit)×(Unit×XI)
def HW:t13×t15×t14×Unit→Out ala
|(a0,a1,a2,_)=> .ite (decide (0≤(0:Int))) (.get (nth a2.2.1 (Int.toNat (0:Int))) λy1=> .ite ((decide ((al a0.2.2.2.1 y1)<0))==false) (.ite (decide (0≤(al a0.2.2.2.1 y1)∧(al a0.2.2.2.1 y1)<((List.length a0.2.2.2.1:Nat):Int))) (.get (nth a0.2.2.2.1 (Int.toNat (al a0.2.2.2.1 y1))) λy2=> .ite ((y2.2.2.1==6)) (.get (bF (a0,(a1.1,()),a2,(-1,()),())) λ((dW,_),_)=> .ret ((dW,()),((),(),(),()))) (.ite (decide (0≤(0:Int))) (.get (nth a2.2.1 (Int.toNat (0:Int))) λy4=> .ite ((y4==a1.1)) (.get (zP (a0,(a1.1,()),(-1,()),())) λ((kJ,_),_)=> .ret ((kJ,()),((),(),(),()))) (.ite (decide (0≤(0:Int))) (.get (nth a2.2.1 (Int.toNat (0:Int))) λy6=> .get (zP (a0,(y6,()),(-1,()),())) λ((nz,_),_)=> .get (bF (nz,(a1.1,()),a2,(0,()),())) λ((nU,_),_)=> .ret ((nU,()),((),(),(),()))) .fail)) .fail)) .fail) (.get (bF (a0,(a1.1,()),a2,(-1,()),())) λ((zN,_),_)=> .ret ((zN,()),((),(),(),())))) .fail
def S1 (x:t13×t15×t14×Unit):=(HW x).eval
def ao6:bK:=dX 183 false [i13,i15,i14] [none,none,none] [i13] HW
theorem acR:ao6.Ok acl:=ck bR [] [] [Pz,xI,acG] ⟨vq,jF,I9,trivial⟩ (λ_=>none) Tryz.f183 [.cell 6 139] λx=>by kernel_rfl
abbrev alb:=(t13×Unit)×(Unit×XI)
def HR:t13×t15×t14×Unit→Out alb
|(a0,a1,a2,_)=> .ite (decide (0≤(0:Int))) (.get (nth a2.2.1 (Int.toNat (0:Int))) λy1=> .ite ((decide ((br a0.2.2.2.2.2.2.1 y1)<0))==false) (.ite (decide ((jg a0.2.2.2.2.1 y1 (2:Int))>0)) (.get (bF (a0,(a1.1,()),a2,(-1,()),())) λ((cC,_),_)=> .ret ((cC,()),((),(),(),()))) (.get (b6 ((20,()),(y1,()),(0,()),(0,()),())) λ((dW,_),_)=> .get (bz (a0,dW,())) λ((gD,_),_)=> .get (bF (gD,(a1.1,()),a2,(0,()),())) λ((kJ,_),_)=> .ret ((kJ,()),((),(),(),())))) (.get (bF (a0,(a1.1,()),a2,(-1,()),())) λ((mH,_),_)=> .ret ((mH,()),((),(),(),())))) .fail
def SP (x:t13×t15×t14×Unit):=(HR x).eval
def ao7:bK:=dX 184 false [i13,i15,i14] [none,none,none] [i13] HR
theorem acS:ao7.Ok acl:=ck bR [] [] [A8,Sq,xI,ru,pA] ⟨xA,DI,jF,gv,fO,trivial⟩ (λ_=>none) Tryz.f184 [.cell 6 139] λx=>by kernel_rfl
abbrev alc:=(t13×Unit)×(Unit×XI)
def HP:t13×t15×t14×Unit→Out alc
|(a0,a1,a2,_)=> .ite (decide (0≤(0:Int))) (.get (nth a2.2.1 (Int.toNat (0:Int))) λy1=> .ite ((decide (y1<0))==false) (.ite (decide (y1≥((List.length a0.2.2.1:Nat):Int))) (.get (bF (a0,(a1.1,()),a2,(-1,()),())) λ((cC,_),_)=> .ret ((cC,()),((),(),(),()))) (.get (b6 ((8,()),(a1.1,()),(y1,()),(0,()),())) λ((dW,_),_)=> .get (bz (a0,dW,())) λ((gD,_),_)=> .get (uu ((4,()),())) λ((kJ,_),_)=> .get (BF (gD,(a1.1,()),(0,kJ),())) λ((mH,_),_)=> .ret ((mH,()),((),(),(),())))) (.get (bF (a0,(a1.1,()),a2,(-1,()),())) λ((nz,_),_)=> .ret ((nz,()),((),(),(),())))) .fail
def SK (x:t13×t15×t14×Unit):=(HP x).eval
def ao8:bK:=dX 185 false [i13,i15,i14] [none,none,none] [i13] HP
theorem acT:ao8.Ok acl:=ck bR [] [] [xI,ru,pA,k48,PY] ⟨jF,gv,fO,Im,DZ,trivial⟩ (λ_=>none) Tryz.f185 [.cell 6 139] λx=>by kernel_rfl
abbrev ald:=(t13×Unit)×(Unit×XI)
def HO:t13×t15×t14×Unit→Out ald
|(a0,a1,a2,_)=> .ite ((4:Int)==0) .fail (.ite ((decide ((abs (Int.tdiv ((List.length a1.2.2.2.2.2.2.1:Nat):Int) (4:Int)))≥(3:Int)))==false) (.get (pV ((a0.1,a0.2.1,a0.2.2.1,a0.2.2.2.1,a0.2.2.2.2.1,a0.2.2.2.2.2.1,a0.2.2.2.2.2.2.1,a0.2.2.2.2.2.2.2.1,a0.2.2.2.2.2.2.2.2.1,()),(1,()),())) λ((fC,_),_)=> .ite (!fC.1) (.get (bF (a0,(a1.1,()),a2,(-1,()),())) λ((cC,_),_)=> .ret ((cC,()),((),(),(),()))) (.get (b6 ((7,()),(a1.1,()),(0,()),(0,()),())) λ((dW,_),_)=> .get (bz (a0,dW,())) λ((gD,_),_)=> .get (bF (gD,(a1.1,()),a2,(((List.length a1.2.2.2.2.2.2.1:Nat):Int),()),())) λ((kJ,_),_)=> .ret ((kJ,()),((),(),(),())))) (.get (bF (a0,(a1.1,()),a2,(-1,()),())) λ((mH,_),_)=> .ret ((mH,()),((),(),(),()))))
def SJ (x:t13×t15×t14×Unit):=(HO x).eval
def ao9:bK:=dX 175 false [i13,i15,i14] [none,none,none] [i13] HO
theorem acU:ao9.Ok acl:=ck bR [] [] [Xo,xI,ru,pA] ⟨BC,jF,gv,fO,trivial⟩ (λ_=>none) Tryz.f175 [.cell 6 139] λx=>by kernel_rfl
abbrev ale:=(t13×Unit)×(Unit×Unit×XI)
def H0:t13×t15×t14×t1×Unit→Out ale
|(a0,a1,a2,a3,_)=> .ite ((a3.1==1)) (.ite (decide (0≤(0:Int))) (.get (nth a2.2.1 (Int.toNat (0:Int))) λy1=> .get (zP (a0,(a1.1,()),(y1,()),())) λ((cC,_),_)=> .ret ((cC,()),((),(),(),(),()))) .fail) (.ite ((a3.1==2)) (.get (Sx (a0,a1,a2,())) λ((dW,_),_)=> .ret ((dW,()),((),(),(),(),()))) (.ite ((a3.1==3)) (.get (SC (a0,a1,a2,())) λ((gD,_),_)=> .ret ((gD,()),((),(),(),(),()))) (.ite ((a3.1==4)) (.get (bF (a0,(a1.1,()),a2,(a1.1,()),())) λ((kJ,_),_)=> .ret ((kJ,()),((),(),(),(),()))) (.ite ((a3.1==5)) (.get (SJ (a0,a1,a2,())) λ((mH,_),_)=> .ret ((mH,()),((),(),(),(),()))) (.ite ((a3.1==6)) (.get (SH (a0,a1,a2,())) λ((nz,_),_)=> .ret ((nz,()),((),(),(),(),()))) (.ite ((a3.1==7)) (.ite (decide (0≤(0:Int))) (.get (nth a2.2.1 (Int.toNat (0:Int))) λy8=> .get (uQ ((a0.1,a0.2.1,a0.2.2.1,a0.2.2.2.1,a0.2.2.2.2.1,a0.2.2.2.2.2.1,a0.2.2.2.2.2.2.1,a0.2.2.2.2.2.2.2.1,a0.2.2.2.2.2.2.2.2.1,()),a1,(y8,()),())) λ((_,y9b,_),_)=> .ite (!y9b.1) (.get (bF (a0,(a1.1,()),a2,(-1,()),())) λ((qg,_),_)=> .ret ((qg,()),((),(),(),(),()))) (.ite (decide (0≤(0:Int))) (.get (nth a2.2.1 (Int.toNat (0:Int))) λsX=> .get (yG (a0,(a1.1,()),(sX,()),())) λ((qh,_),_)=> .get (bF (qh,(a1.1,()),a2,(0,()),())) λ((qi,_),_)=> .ret ((qi,()),((),(),(),(),()))) .fail)) .fail) (.ite ((a3.1==8)) (.get (SY (a0,a1,a2,())) λ((D1,_),_)=> .ret ((D1,()),((),(),(),(),()))) (.ite ((a3.1==9)) (.get (S0 (a0,a1,a2,())) λ((ny,_),_)=> .ret ((ny,()),((),(),(),(),()))) (.ite ((a3.1==10)) (.get (SS (a0,a1,a2,())) λ((NO,_),_)=> .ret ((NO,()),((),(),(),(),()))) (.ite ((a3.1==11)) (.get (SI (a0,a1,a2,())) λ((vz,_),_)=> .ret ((vz,()),((),(),(),(),()))) (.ite ((a3.1==12)) (.get (SL (a0,a1,a2,())) λ((wS,_),_)=> .ret ((wS,()),((),(),(),(),()))) (.ite ((a3.1==13)) (.get (S1 (a0,a1,a2,())) λ((NP,_),_)=> .ret ((NP,()),((),(),(),(),()))) (.ite ((a3.1==14)) (.get (SP (a0,a1,a2,())) λ((XA,_),_)=> .ret ((XA,()),((),(),(),(),()))) (.ite ((a3.1==15)) (.get (bF (a0,(a1.1,()),a2,(a0.2.1,()),())) λ((XB,_),_)=> .ret ((XB,()),((),(),(),(),()))) (.ite ((a3.1==16)) (.get (SK (a0,a1,a2,())) λ((Xn,_),_)=> .ret ((Xn,()),((),(),(),(),()))) (.ite ((a3.1==17)) (.get (bF (a0,(a1.1,()),a2,(0,()),())) λ((S3,_),_)=> .get (b6 ((22,()),(a1.1,()),(0,()),(0,()),())) λ((M1,_),_)=> .get (bz (S3,M1,())) λ((S4,_),_)=> .get (b6 ((21,()),(a1.1,()),(0,()),(0,()),())) λ((S5,_),_)=> .get (bz (S4,S5,())) λ((agu,_),_)=> .ret ((agu,()),((),(),(),(),()))) (.get (bF (a0,(a1.1,()),a2,(-1,()),())) λ((akm,_),_)=> .ret ((akm,()),((),(),(),(),())))))))))))))))))))
def S7 (x:t13×t15×t14×t1×Unit):=(H0 x).eval
def apa:bK:=dX 154 false [i13,i15,i14,i1] [none,none,none,none] [i13] H0
theorem acV:apa.Ok acl:=ck bR [] [] [acG,aoY,aoZ,xI,ao9,ao0,Xz,akK,ao1,ao2,ao3,ao4,ao5,ao6,ao7,ao8,ru,pA] ⟨I9,acJ,acK,jF,acU,acL,BK,P3,acM,acN,acO,acP,acQ,acR,acS,acT,gv,fO,trivial⟩ (λ_=>none) Tryz.f154 [.cell 8 139] λx=>by kernel_rfl
abbrev alf:=(t13×Unit)×(Unit×Unit)
def H5:t4×Unit→Out alf
|(a0,_)=> .ite ((((List.length a0.2.2.2.2.2.2.2.1:Nat):Int)==0)) (.ret (((a0.1,a0.2.1,a0.2.2.1,a0.2.2.2.1,a0.2.2.2.2.1,a0.2.2.2.2.2.1,a0.2.2.2.2.2.2.1,a0.2.2.2.2.2.2.2.1,a0.2.2.2.2.2.2.2.2.1,([]:List am),()),()),((),()))) (.ite (decide (0≤(0:Int)∧(0:Int)<((List.length a0.2.2.2.2.2.2.2.1:Nat):Int))) (.get (nth a0.2.2.2.2.2.2.2.1 (Int.toNat (0:Int))) λy1=> .ite (decide (0≤(al a0.2.2.2.1 y1)∧(al a0.2.2.2.1 y1)<((List.length a0.2.2.2.1:Nat):Int))) (.get (nth a0.2.2.2.1 (Int.toNat (al a0.2.2.2.1 y1))) λy2=> .get (gS y2.1 y2.2.1 y2.2.2.1 y2.2.2.2.1 y2.2.2.2.2.1.1 y2.2.2.2.2.1.2.1 y2.2.2.2.2.2.1 y2.2.2.2.2.2.2.1 y2.2.2.2.2.2.2.2.1 y2.2.2.2.2.2.2.2.2.1) λy3=> .ite (decide (0≤y3.2.2.2.1∧y3.2.2.2.1<((List.length a0.2.2.1:Nat):Int))) (.get (nth a0.2.2.1 (Int.toNat y3.2.2.2.1)) λy4=> .ite (decide (List.length ([]:List Int)+List.length y3.2.2.2.2.2.1≤bn)) (.get (Ta ((y4,()),(y3.2.2.2.2.1,(([]:List Int)++y3.2.2.2.2.2.1),()),(y3.2.2.2.2.2.2.1,()),())) λ((kJ,y5b,_),_)=> .ite ((y5b.1==2)) (.get (zP ((a0.1,a0.2.1,a0.2.2.1,(List.set a0.2.2.2.1 (Int.toNat (al a0.2.2.2.1 y1)) y2),a0.2.2.2.2.1,a0.2.2.2.2.2.1,a0.2.2.2.2.2.2.1,a0.2.2.2.2.2.2.2.1,a0.2.2.2.2.2.2.2.2.1,([]:List am),()),(y3.1,()),(-1,()),())) λ((mH,_),_)=> .ret ((mH,()),((),()))) (.ite ((y5b.1==1)) (.get (S7 ((a0.1,a0.2.1,a0.2.2.1,(List.set a0.2.2.2.1 (Int.toNat (al a0.2.2.2.1 y1)) y2),a0.2.2.2.2.1,a0.2.2.2.2.2.1,a0.2.2.2.2.2.2.1,a0.2.2.2.2.2.2.2.1,a0.2.2.2.2.2.2.2.2.1,([]:List am),()),(y3.1,y3.2.1,y3.2.2.1,y3.2.2.2.1,y3.2.2.2.2.1,y3.2.2.2.2.2.1,y3.2.2.2.2.2.2.1,y3.2.2.2.2.2.2.2.1,y3.2.2.2.2.2.2.2.2.1,y3.2.2.2.2.2.2.2.2.2,()),kJ,y5b.2.2.2,())) λ((nz,_),_)=> .ret ((nz,()),((),()))) (.get (Xu ((a0.1,a0.2.1,a0.2.2.1,(List.set a0.2.2.2.1 (Int.toNat (al a0.2.2.2.1 y1)) y2),a0.2.2.2.2.1,a0.2.2.2.2.2.1,a0.2.2.2.2.2.2.1,a0.2.2.2.2.2.2.2.1,a0.2.2.2.2.2.2.2.2.1,([]:List am),()),(y3.1,()),kJ,())) λ((nU,_),_)=> .ite (decide (y5b.2.1≥(0:Int))) (.get (b6 ((2,()),(y3.1,()),(y5b.2.1,()),(y5b.2.2.1,()),())) λ((zN,_),_)=> .get (bz (nU,zN,())) λ((qg,_),_)=> .ret ((qg,()),((),()))) (.ret ((nU,()),((),())))))) .fail) .fail) .fail) .fail)
def Te (x:t4×Unit):=(H5 x).eval
def ant:bK:=dX 125 false [i4] [none] [i13] H5
theorem Z0:ant.Ok acl:=ck bR [1035,1298] [(1034,1),(1035,224),(1298,2)] [Pz,IP,aoJ,acG,apa,aoU,ru,pA] ⟨vq,IQ,acp,I9,acV,acB,gv,fO,trivial⟩ (λ_=>none) Tryz.f125 [.cell 2 139] λx=>by kernel_rfl
abbrev XC:=(t13×Unit)×(Unit×Unit)
abbrev Qc:=(Int×Unit)×ce
def wa:Qc→Out (Round Qc ((Unit)×ce) Empty)
|((p0,_),(p1,p2,_),(p3,p4,_),p5,p6,p7,p8,p9,bL,b8,cr,dc,cO,cn,cX,dz,dC,dP,eH,eC,_)=> .ite (decide (p0<((List.length cn:Nat):Int))) (.ite (decide (0≤p0∧p0<((List.length cn:Nat):Int))) (.get (nth cn (Int.toNat p0)) λy1=> .ite (((y1.2.2.1==2))==true) (.ite (decide (0≤p0∧p0<((List.length cn:Nat):Int))) (.get (nth cn (Int.toNat p0)) λy2=> .ite (decide (y2.2.2.2.2.2.2.2.1≤p4)) (.ite (decide (0≤p0∧p0<((List.length cn:Nat):Int))) (.get (nth cn (Int.toNat p0)) λy3=> .ite (decide (List.length p5+List.length ([y3.1]:List Int)≤bn)) (.ret (.again (((abs (p0+1)),()),((p1,p2,()),(p3,p4,()),(p5++([y3.1]:List Int)),p6,p7,p8,p9,bL,b8,cr,dc,cO,cn,cX,dz,dC,dP,eH,eC,())))) .fail) .fail) (.ret (.again (((abs (p0+1)),()),((p1,p2,()),(p3,p4,()),p5,p6,p7,p8,p9,bL,b8,cr,dc,cO,cn,cX,dz,dC,dP,eH,eC,()))))) .fail) (.ret (.again (((abs (p0+1)),()),((p1,p2,()),(p3,p4,()),p5,p6,p7,p8,p9,bL,b8,cr,dc,cO,cn,cX,dz,dC,dP,eH,eC,()))))) .fail) (.ret (.out ((),((p1,p2,()),(p3,p4,()),p5,p6,p7,p8,p9,bL,b8,cr,dc,cO,cn,cX,dz,dC,dP,eH,eC,()))))
abbrev Qd:=(Int×Unit)×ce
def Bq:Qd→Out (Round Qd ((Unit)×co) Empty)
|((p0,_),(p1,p2,_),(p3,p4,_),p5,p6,p7,p8,p9,bL,b8,cr,dc,cO,cn,cX,dz,dC,dP,eH,eC,_)=> .ite (decide (p0<((List.length p5:Nat):Int))) (.ite (decide (0≤p0∧p0<((List.length p5:Nat):Int))) (.get (nth p5 (Int.toNat p0)) λy1=> .get (sk ((p3,p4,cO,cn,cX,dz,dC,dP,eH,eC,()),(y1,()),())) λ((cC,_),_)=> .ret (.again (((abs (p0+1)),()),((p1,p2,()),(cC.1,cC.2.1,()),p5,p6,p7,p8,p9,bL,b8,cr,dc,cC.2.2.1,cC.2.2.2.1,cC.2.2.2.2.1,cC.2.2.2.2.2.1,cC.2.2.2.2.2.2.1,cC.2.2.2.2.2.2.2.1,cC.2.2.2.2.2.2.2.2.1,cC.2.2.2.2.2.2.2.2.2.1,())))) .fail) (.ret (.out ((),((p1,p2,()),(p3,p4,()),p6,p7,p8,p9,bL,b8,cr,dc,cO,cn,cX,dz,dC,dP,eH,eC,()))))
def Bp (v0 v1 v2 v3:Int) (v4:List (List ar)) (v5:List af) (v6:List ai) (v7 v8:List ah) (v9 v10:List Int) (v11:List am) (v12:List (List ar)) (Rz:List af) (RA:List ai) (Y4 v16:List ah) (v17 v18:List Int) (v19:List am):Out (XC):= .get (aP wa aI ((0,()),((v0,v1,()),(v2,v3,()),([]:List Int),v4,v5,v6,v7,v8,v9,v10,v11,v12,Rz,RA,Y4,v16,v17,v18,v19,()))) λ(_,(asy,asz,_),(asA,asB,_),asC,asD,asE,asF,asG,asH,asI,asJ,asK,asL,asM,asN,asO,asP,asQ,asR,asS,_)=> .get (aP Bq aI ((0,()),((asy,asz,()),(asA,asB,()),asC,asD,asE,asF,asG,asH,asI,asJ,asK,asL,asM,asN,asO,asP,asQ,asR,asS,()))) λ(_,_,(asT,asU,_),_,_,_,_,_,_,_,_,asV,asW,asX,asY,asZ,as0,as1,as2,_)=> .ret (((asT,asU,asV,asW,asX,asY,asZ,as0,as1,as2,()),()),((),()))
def H7:t4×Unit→Out XC
|(a0,_)=> .ite (decide (a0.2.1≥(1000000:Int))) (.ret (((a0.1,a0.2.1,a0.2.2.1,a0.2.2.2.1,a0.2.2.2.2.1,a0.2.2.2.2.2.1,a0.2.2.2.2.2.2.1,a0.2.2.2.2.2.2.2.1,a0.2.2.2.2.2.2.2.2.1,([]:List am),()),()),((),()))) (.get (b6 ((24,()),(0,()),(0,()),(0,()),())) λ((fC,_),_)=> .get (bz ((a0.1,a0.2.1,a0.2.2.1,a0.2.2.2.1,a0.2.2.2.2.1,a0.2.2.2.2.2.1,a0.2.2.2.2.2.2.1,a0.2.2.2.2.2.2.2.1,a0.2.2.2.2.2.2.2.2.1,([]:List am),()),fC,())) λ((cC,_),_)=> .ite (decide (((List.length cC.2.2.2.2.2.2.2.1:Nat):Int)≥(2:Int))) (.ite (decide (0≤(0:Int)∧(0:Int)<((List.length cC.2.2.2.2.2.2.2.1:Nat):Int))) (.get (nth cC.2.2.2.2.2.2.2.1 (Int.toNat (0:Int))) λy3=> .get (b6 ((22,()),(y3,()),(0,()),(0,()),())) λ((gD,_),_)=> .get (bz (cC,gD,())) λ((kJ,_),_)=> .get (b6 ((21,()),(y3,()),(0,()),(0,()),())) λ((mH,_),_)=> .get (bz (kJ,mH,())) λ((nz,_),_)=>
 Bp (0:Int) (0:Int) nz.1 nz.2.1 ([]:List (List ar)) ([]:List af) ([]:List ai) ([]:List ah) ([]:List ah) ([]:List Int) ([]:List Int) ([]:List am) nz.2.2.1 nz.2.2.2.1 nz.2.2.2.2.1 nz.2.2.2.2.2.1 nz.2.2.2.2.2.2.1 nz.2.2.2.2.2.2.2.1 nz.2.2.2.2.2.2.2.2.1 nz.2.2.2.2.2.2.2.2.2.1) .fail) (Bp (0:Int) (0:Int) cC.1 cC.2.1 ([]:List (List ar)) ([]:List af) ([]:List ai) ([]:List ah) ([]:List ah) ([]:List Int) ([]:List Int) ([]:List am) cC.2.2.1 cC.2.2.2.1 cC.2.2.2.2.1 cC.2.2.2.2.2.1 cC.2.2.2.2.2.2.1 cC.2.2.2.2.2.2.2.1 cC.2.2.2.2.2.2.2.2.1 cC.2.2.2.2.2.2.2.2.2.1))
def Th (x:t4×Unit):=(H7 x).eval
def alg:Nat→Option au:=λn=>bw [(0,⟨⟨[.dead, .dead, .vptr act 0, .vptr adc 0, .dead, .aR aig, .i .i64]++dd 82,tU⟩,⟨[.dead, .dead, .vptr act 0, .vptr adc 0, .dead, .aR aig]++dd 83,tU⟩,none,false⟩),(2,⟨⟨[.dead, .dead, .vptr act 0, .vptr adc 0, .dead, .aR aig, .dead, .i .i64]++dd 81,tU⟩,⟨[.dead, .dead, .vptr act 0, .vptr adc 0]++dd 85,xJ⟩,none,false⟩)] n
def anv:bK:=dX 124 false [i4] [none] [i13] H7
theorem Z1:anv.Ok acl:=ck bR [] [] [ru,pA,acE] ⟨gv,fO,I1,trivial⟩ alg Tryz.f124 [.cell 2 139] λx=>by kernel_rfl
variable {P:Prop} {α:Type} {a:List α} {key:α→Int} {v:Int}
section
abbrev UT:Type:=bA
abbrev ET:Type:=Int×Int×Int×Int×List Int×Unit
abbrev WT:Type:=Int×Int×List (List ar)×List af×List ai×List ah×List ah×List Int×List Int×List ET×Unit
theorem gP [Decidable P] (h:¬P):(decide P==false)=true:=by rw [adD h];rfl
theorem jP [Decidable P] (h:P):(decide P==false)=false:=by rw [aac h];rfl
theorem alh [Decidable P] (h:P):(decide P==true)=true:=by rw [aac h];rfl
theorem ali [Decidable P] (h:¬P):(decide P==true)=false:=by rw [adD h];rfl
theorem rD {a b:Int} (h:a=b):(a != b)=false:=by simp [h]
theorem FQ {a b:Int} (h:a≠b):(a != b)=true:=by simp [h]
theorem fj {a b:Int} (h:a≠b):(a==b)=false:=by simp [h]
theorem dE {a b:Int} (h:a=b):(a==b)=true:=by simp [h]
theorem bH (h:bZ key a) {x:α} (hx:x∈a):∃ i:Nat,dM key a (key x)=(i:Int)∧i<a.length∧a[i]? =some x:=by
 obtain ⟨i,h1,h2,h3⟩:=qt h hx rfl;exact ⟨i,by unfold dM;rw [h1];rfl,h2,h3⟩
theorem xL (h:∀ x∈a,key x≠v):dM key a v= -1:=by unfold dM;rw [m3 h];rfl
theorem jT {i:Nat} {x:α} (h:a[i]? =some x):a.set i x=a:=by
 have cf:i<a.length:=(So.1 h).1;rw [aa7 cf] at h;rw [← ac2 h,List.set_getElem_self]
theorem acW {i:Nat} {x:α} (h:i<a.length):nth (a.set i x) i=some x:=by
 show (a.set i x)[i]? =some x;rw [List.getElem?_set,aaZ rfl,aaZ h]
theorem zF {ρ:Type} {c:Bool} {a b:Out ρ} {r:Option ρ} (k:b.eval=r) (h:c=false:=by first|assumption|exact adD (by omega)|exact jP (by omega)|exact ali (by omega)|rfl):(Out.ite c a b).eval=r:=(ae h).trans k
theorem zT {ρ:Type} {c:Bool} {a b:Out ρ} {r:Option ρ} (k:a.eval=r) (h:c=true:=by first|assumption|exact aac (by omega)|exact gP (by omega)|exact alh (by omega)|rfl|exact beq_self_eq_true _|exact aac (by simp only [ad0,aaY,aay,adC,afC];omega)):(Out.ite c a b).eval=r:=(ab h).trans k
theorem zG {ρ:Type} {o:Option α} {y:α} {f:α→Out ρ} {r:Option ρ} (k:(f y).eval=r) (h:o=some y:=by first|assumption|exact acW (by first|omega|(simp only [afC];omega))):(Out.get o f).eval=r:=(aa h).trans k
theorem BL (h:bZ key a) {x:α} {i:Nat} (hi:a[i]? =some x):a.take i++a.drop (i+1)=a.filter (λy=>key y != key x):=by
 have cf:i<a.length:=(So.1 hi).1;have hx:x∈a:=afF hi;obtain ⟨l1,l2,e,h1,h2,_,hf⟩:=iN h hx;have hl:i=l1.length:=by
  have h3:a[l1.length]? =some x:=by rw [e];simp
  have hn:=h.nodup;have alj:l1.length<a.length:=(So.1 h3).1;rw [aa7 cf] at hi;rw [aa7 alj] at h3;rcases Nat.lt_trichotomy i l1.length with q|q|q
  . have:=List.pairwise_iff_getElem.1 hn i l1.length (by simpa using cf) (by simpa using alj) q
    simp [ac2 hi,ac2 h3] at this
  . exact q
  . have:=List.pairwise_iff_getElem.1 hn l1.length i (by simpa using alj) (by simpa using cf) q
    simp [ac2 hi,ac2 h3] at this
 rw [hf,e,hl];simp
variable {nx tk:Int} {pg:List (List ar)} {ps:List af} {os:List ai} {pi fi:List ah} {rd ou:List Int} {p:af} {o:ai} {y:ah} {b c k:Int} {l:List Int}
abbrev lX (u:UT):Option ((UT×(Bool×Unit)×Unit)×XI):=some ((u,(true,()),()),((),(),()))
theorem alk (h:bZ aA ps) (hp:p∈ps) (hc:aU b l=true) (hl:l.length≤4):eo ((nx,tk,pg,ps,os,pi,fi,rd,ou,()),(1,p.1,b,c,l,()),())=lX (nx,tk,pg,bY ps p.1 (pX (b,l,())),os,pi,fi,rd,ou,()):=by
 obtain ⟨i,hi,cf,hn⟩:=bH h hp;have dh:al ps p.1=(i:Int):=hi;have qZ:nth ps i=some p:=hn;have hL:bn=68719476736:=rfl;have Ud:([]:List Int).length=0:=rfl;have hc':(!(aU b (([]:List Int)++l)))=false:=by rw [ad0,hc];rfl
 have key:mw ((nx,tk,pg,ps,os,pi,fi,rd,ou,()),(1,p.1,b,c,l,()),())=lX (nx,tk,pg,bY ps p.1 (pX (b,l,())),os,pi,fi,rd,ou,()):=by
  show Out.eval (gi _)=_;rw [show bY ps p.1 (pX (b,l,()))=ps.set i ((pX (b,l,())) p) from (gr h hn _ rfl).symm];dsimp only [gi];rw [dh];simp only [adu]
  repeat' (first|refine zF ?_|refine zT ?_|refine zG ?_)
  rfl
 show Out.eval (bM _)=_;dsimp only [bM]
 repeat' (first|refine zF ?_|refine zG ?_)
 rfl
theorem ZC (h:bZ aA ps) (hp:p∈ps) (hb:0≤b∧b<((ct p).length:Nat)) (hc:b9 c=true):eo ((nx,tk,pg,ps,os,pi,fi,rd,ou,()),(2,p.1,b,c,l,()),())=lX (nx,tk,pg,bY ps p.1 (ly ((ct p).set b.toNat c)),os,pi,fi,rd,ou,()):=by
 obtain ⟨i,hi,cf,hn⟩:=bH h hp;have dh:al ps p.1=(i:Int):=hi;have qZ:nth ps i=some p:=hn;have hc':(!(b9 c))=false:=by rw [hc];rfl
 have hm:nth (ct p) b.toNat=some ((ct p)[b.toNat]'(by omega)):=aa7 _;have cE:0≤b∧b<((p.2.2.2.2.2.1.length:Nat):Int):=hb;have key:mw ((nx,tk,pg,ps,os,pi,fi,rd,ou,()),(2,p.1,b,c,l,()),())=lX (nx,tk,pg,bY ps p.1 (ly ((ct p).set b.toNat c)),os,pi,fi,rd,ou,()):=by
  show Out.eval (gi _)=_;rw [show bY ps p.1 (ly ((ct p).set b.toNat c))=ps.set i ((ly ((ct p).set b.toNat c)) p) from (gr h hn _ rfl).symm];dsimp only [gi];rw [dh];simp only [adu]
  repeat' (first|refine zF ?_|refine zT ?_|refine zG ?_)
  rfl
 show Out.eval (bM _)=_;dsimp only [bM]
 repeat' (first|refine zF ?_|refine zG ?_)
 rfl
theorem D2 (h:bZ aA ps) (hp:p∈ps):eo ((nx,tk,pg,ps,os,pi,fi,rd,ou,()),(3,p.1,b,c,l,()),())=lX (nx,tk,pg,bY ps p.1 (nQ b c),os,pi,fi,rd,ou,()):=by
 obtain ⟨i,hi,cf,hn⟩:=bH h hp;have dh:al ps p.1=(i:Int):=hi;have qZ:nth ps i=some p:=hn;have key:mw ((nx,tk,pg,ps,os,pi,fi,rd,ou,()),(3,p.1,b,c,l,()),())=lX (nx,tk,pg,bY ps p.1 (nQ b c),os,pi,fi,rd,ou,()):=by
  show Out.eval (gi _)=_;rw [show bY ps p.1 (nQ b c)=ps.set i ((nQ b c) p) from (gr h hn _ rfl).symm];dsimp only [gi];rw [dh];simp only [adu]
  repeat' (first|refine zF ?_|refine zT ?_|refine zG ?_)
  rfl
 show Out.eval (bM _)=_;dsimp only [bM]
 repeat' (first|refine zF ?_|refine zG ?_)
 rfl
theorem acX (h:bZ aA ps) (hp:p∈ps):eo ((nx,tk,pg,ps,os,pi,fi,rd,ou,()),(5,p.1,b,c,l,()),())=lX (nx,tk,pg,bY ps p.1 (ly []),os,pi,fi,rd,ou,()):=by
 obtain ⟨i,hi,cf,hn⟩:=bH h hp;have dh:al ps p.1=(i:Int):=hi;have qZ:nth ps i=some p:=hn;have key:mw ((nx,tk,pg,ps,os,pi,fi,rd,ou,()),(5,p.1,b,c,l,()),())=lX (nx,tk,pg,bY ps p.1 (ly []),os,pi,fi,rd,ou,()):=by
  show Out.eval (gi _)=_;rw [show bY ps p.1 (ly [])=ps.set i ((ly []) p) from (gr h hn _ rfl).symm];dsimp only [gi];rw [dh];simp only [adu]
  repeat' (first|refine zF ?_|refine zT ?_|refine zG ?_)
  rfl
 show Out.eval (bM _)=_;dsimp only [bM]
 repeat' (first|refine zF ?_|refine zG ?_)
 rfl
theorem Zj (h:bZ aA ps) (hp:p∈ps) (hm:(ct p).length<12∧(ct p).length % 4=0) (hr:pV ((nx,tk,pg,ps,os,pi,fi,rd,ou,()),(1,()),())=some (((true,()),()),((),(),()))):eo ((nx,tk,pg,ps,os,pi,fi,rd,ou,()),(7,p.1,b,c,l,()),())=lX (nx,tk,pg,bY ps p.1 (ly (ct p++[0,0,0,0])),os,pi,fi,rd,ou,()):=by
 obtain ⟨i,hi,cf,hn⟩:=bH h hp;have dh:al ps p.1=(i:Int):=hi;have qZ:nth ps i=some p:=hn;have hL:bn=68719476736:=rfl;have Ud:([]:List Int).length=0:=rfl;have pP:p.2.2.2.2.2.1.length<12∧p.2.2.2.2.2.1.length % 4=0:=hm;have ht:abs (Int.tdiv ((p.2.2.2.2.2.1.length:Nat):Int) (4:Int))=((p.2.2.2.2.2.1.length / 4:Nat):Int):=by
  have ht0:Int.tdiv ((p.2.2.2.2.2.1.length:Nat):Int) (4:Int)=((p.2.2.2.2.2.1.length / 4:Nat):Int):=rfl;rw [ht0,kN (by omega) (by omega)]
 have hs:=jT hn;have hz:uu ((4,()),())=some ((([0,0,0,0],()),()),((),())):=rfl;have key:mw ((nx,tk,pg,ps,os,pi,fi,rd,ou,()),(7,p.1,b,c,l,()),())=lX (nx,tk,pg,bY ps p.1 (ly (ct p++[0,0,0,0])),os,pi,fi,rd,ou,()):=by
  show Out.eval (gi _)=_;rw [show bY ps p.1 (ly (ct p++[0,0,0,0]))=ps.set i ((ly (ct p++[0,0,0,0])) p) from (gr h hn _ rfl).symm];dsimp only [gi];rw [dh];simp only [adu]
  repeat' (first
   |refine (ae (by first|exact adD (by omega)|exact jP (by omega))).trans ?_
   |refine (ab (by first|exact aac (by omega)|exact gP (by omega))).trans ?_
   |refine (aa (by assumption)).trans ?_)
  rw [hs]
  repeat' (first|refine zF ?_|refine zT ?_|refine zG ?_)
  rfl
 show Out.eval (bM _)=_;dsimp only [bM]
 repeat' (first|refine zF ?_|refine zG ?_)
 rfl
theorem Zk (h:bZ aA ps) (hp:p∈ps) (hb:0≤b∧b<(pg.length:Nat)) (hm:0<(ct p).length):eo ((nx,tk,pg,ps,os,pi,fi,rd,ou,()),(8,p.1,b,c,l,()),())=lX (nx,tk,pg,bY ps p.1 (rb b),os,pi,fi,rd,ou,()):=by
 obtain ⟨i,hi,cf,hn⟩:=bH h hp;have dh:al ps p.1=(i:Int):=hi;have qZ:nth ps i=some p:=hn;have hs:ps.set i (p.1,p.2.1,p.2.2.1,p.2.2.2.1,(p.2.2.2.2.1.1,p.2.2.2.2.1.2.1,()),p.2.2.2.2.2.1,p.2.2.2.2.2.2.1,p.2.2.2.2.2.2.2.1,p.2.2.2.2.2.2.2.2.1,())=ps:=jT hn;have pP:0<p.2.2.2.2.2.1.length:=hm;have key:mw ((nx,tk,pg,ps,os,pi,fi,rd,ou,()),(8,p.1,b,c,l,()),())=lX (nx,tk,pg,bY ps p.1 (rb b),os,pi,fi,rd,ou,()):=by
  show Out.eval (gi _)=_;rw [show bY ps p.1 (rb b)=ps.set i ((rb b) p) from (gr h hn _ rfl).symm];dsimp only [gi];rw [dh];simp only [adu]
  repeat' (first|refine zF ?_|refine zT ?_|refine zG ?_)
  simp only [adu,hs]
  repeat' (first|refine zF ?_|refine zT ?_|refine zG ?_)
  simp only [List.set_set];rfl
 show Out.eval (bM _)=_;dsimp only [bM]
 repeat' (first|refine zF ?_|refine zG ?_)
 rfl
theorem JW (h:bZ aA ps) (hp:p∈ps) (hb:0≤b∧b<((aE p).length:Nat)):eo ((nx,tk,pg,ps,os,pi,fi,rd,ou,()),(9,p.1,b,c,l,()),())=lX (nx,tk,pg,bY ps p.1 (cp ((aE p).set b.toNat c)),os,pi,fi,rd,ou,()):=by
 obtain ⟨i,hi,cf,hn⟩:=bH h hp;have dh:al ps p.1=(i:Int):=hi;have qZ:nth ps i=some p:=hn;have hm:nth (aE p) b.toNat=some ((aE p)[b.toNat]'(by omega)):=aa7 _;have cE:0≤b∧b<((p.2.2.2.2.2.2.1.length:Nat):Int):=hb;have key:mw ((nx,tk,pg,ps,os,pi,fi,rd,ou,()),(9,p.1,b,c,l,()),())=lX (nx,tk,pg,bY ps p.1 (cp ((aE p).set b.toNat c)),os,pi,fi,rd,ou,()):=by
  show Out.eval (gi _)=_;rw [show bY ps p.1 (cp ((aE p).set b.toNat c))=ps.set i ((cp ((aE p).set b.toNat c)) p) from (gr h hn _ rfl).symm];dsimp only [gi];rw [dh];simp only [adu]
  repeat' (first|refine zF ?_|refine zT ?_|refine zG ?_)
  rfl
 show Out.eval (bM _)=_;dsimp only [bM]
 repeat' (first|refine zF ?_|refine zG ?_)
 rfl
theorem RB (h:bZ aA ps) (hp:p∈ps):eo ((nx,tk,pg,ps,os,pi,fi,rd,ou,()),(25,p.1,b,c,l,()),())=lX (nx,tk,pg,bY ps p.1 (NG b),os,pi,fi,rd,ou,()):=by
 obtain ⟨i,hi,cf,hn⟩:=bH h hp;have dh:al ps p.1=(i:Int):=hi;have qZ:nth ps i=some p:=hn;have key:mw ((nx,tk,pg,ps,os,pi,fi,rd,ou,()),(25,p.1,b,c,l,()),())=lX (nx,tk,pg,bY ps p.1 (NG b),os,pi,fi,rd,ou,()):=by
  show Out.eval (gi _)=_;rw [show bY ps p.1 (NG b)=ps.set i ((NG b) p) from (gr h hn _ rfl).symm];dsimp only [gi];rw [dh];simp only [adu]
  repeat' (first|refine zF ?_|refine zT ?_|refine zG ?_)
  rfl
 show Out.eval (bM _)=_;dsimp only [bM]
 repeat' (first|refine zF ?_|refine zT ?_|refine zG ?_)
 rfl
theorem acY (h:bZ aA ps) (hp:p∈ps):eo ((nx,tk,pg,ps,os,pi,fi,rd,ou,()),(26,p.1,b,c,l,()),())=lX (nx,tk,pg,bY ps p.1 (gN b),os,pi,fi,rd,ou,()):=by
 obtain ⟨i,hi,cf,hn⟩:=bH h hp;have dh:al ps p.1=(i:Int):=hi;have qZ:nth ps i=some p:=hn;have key:mw ((nx,tk,pg,ps,os,pi,fi,rd,ou,()),(26,p.1,b,c,l,()),())=lX (nx,tk,pg,bY ps p.1 (gN b),os,pi,fi,rd,ou,()):=by
  show Out.eval (gi _)=_;rw [show bY ps p.1 (gN b)=ps.set i ((gN b) p) from (gr h hn _ rfl).symm];dsimp only [gi];rw [dh];simp only [adu]
  repeat' (first|refine zF ?_|refine zT ?_|refine zG ?_)
  rfl
 show Out.eval (bM _)=_;dsimp only [bM]
 repeat' (first|refine zF ?_|refine zT ?_|refine zG ?_)
 rfl
theorem HG (h:bZ aA ps) (hp:p∈ps) (h6:ps.length≤6):eo ((nx,tk,pg,ps,os,pi,fi,rd,ou,()),(6,p.1,b,c,l,()),())=lX (nx,tk,pg,uN ps p.1,os,pi,fi,rd,ou,()):=by
 obtain ⟨i,hi,cf,hn⟩:=bH h hp;have dh:al ps p.1=(i:Int):=hi;have qZ:nth ps i=some p:=hn;have hL:bn=68719476736:=rfl;have hs:=jT hn;have hw:abs ((i:Int)+1)=((i+1:Nat):Int):=aq (by have hB:cj=9223372036854775807:=rfl;omega);have key:mw ((nx,tk,pg,ps,os,pi,fi,rd,ou,()),(6,p.1,b,c,l,()),())=lX (nx,tk,pg,uN ps p.1,os,pi,fi,rd,ou,()):=by
  show Out.eval (gi _)=_;rw [show uN ps p.1=ps.take i++ps.drop (i+1) from (BL h hn).symm];dsimp only [gi];rw [dh];simp only [adu]
  repeat' (first|refine zF ?_|refine zT ?_|refine zG ?_)
  simp only [hs,hw,adu,Int.toNat_zero,Nat.sub_zero,ad0,aeS,alA,ae0,aec,aea]
  repeat' (refine zT ?_)
  rw [show i+(i+1 - i)=i+1 by omega,afJ (l:=ps.drop (i+1)) (by rw [aec];omega)];rfl
 show Out.eval (bM _)=_;dsimp only [bM]
 repeat' (first|refine zF ?_|refine zG ?_)
 rfl
theorem SA (h:bZ aA ps) (hp:p∈ps) (h6:ps.length<6) (hx:nx<100000) (h0:1≤nx) (hm:(ct p).length≤12∧(ug p).2.1.length=4∧(aE p).length=4) (hr:pV ((nx,tk,pg,ps,os,pi,fi,rd,ou,()),((((ct p).length / 4:Nat):Int),()),())=some (((true,()),()),((),(),()))):
  eo ((nx,tk,pg,ps,os,pi,fi,rd,ou,()),(4,nx,p.1,c,l,()),())=lX (nx+1,tk,pg,ps++[mY nx p],os,pi,fi,rd,ou,()):=by
 obtain ⟨i,hi,cf,hn⟩:=bH h hp;have dh:al ps p.1=(i:Int):=hi;have qZ:nth ps i=some p:=hn;have hL:bn=68719476736:=rfl;have pP:p.2.2.2.2.2.1.length≤12∧p.2.2.2.2.1.2.1.length=4∧p.2.2.2.2.2.2.1.length=4:=hm;have hs:ps.set i (p.1,p.2.1,p.2.2.1,p.2.2.2.1,p.2.2.2.2.1,p.2.2.2.2.2.1,p.2.2.2.2.2.2)=ps:=jT hn;have RC:ps.set i p=ps:=jT hn;have ht0:Int.tdiv ((p.2.2.2.2.2.1.length:Nat):Int) (4:Int)=((p.2.2.2.2.2.1.length / 4:Nat):Int):=rfl;have ht:abs ((p.2.2.2.2.2.1.length / 4:Nat):Int)=((p.2.2.2.2.2.1.length / 4:Nat):Int):=kN (by omega) (by omega);have hw:abs (nx+1)=nx+1:=bt (by omega) (by omega);have hb:((nx != nx)==false)=true:=by rw [rD rfl];rfl
 have hcp:gS p.1 p.2.1 p.2.2.1 p.2.2.2.1 p.2.2.2.2.1.1 p.2.2.2.2.1.2.1 p.2.2.2.2.2.1 p.2.2.2.2.2.2.1 p.2.2.2.2.2.2.2.1 p.2.2.2.2.2.2.2.2.1=some (p.1,p.2.1,p.2.2.1,p.2.2.2.1,p.2.2.2.2.1.1,p.2.2.2.2.1.2.1,p.2.2.2.2.2.1,p.2.2.2.2.2.2.1,p.2.2.2.2.2.2.2.1,p.2.2.2.2.2.2.2.2.1):=by
  unfold gS;rw [aaZ]
 have key:Xq ((nx,tk,pg,ps,os,pi,fi,rd,ou,()),(4,nx,p.1,c,l,()),())=lX (nx+1,tk,pg,ps++[mY nx p],os,pi,fi,rd,ou,()):=by
  show Out.eval (IU _)=_;dsimp only [IU];rw [dh];simp only [adu]
  repeat' (first|refine zF ?_|refine zT ?_|refine zG ?_)
  simp only [hs,ht0,ht]
  repeat' (first|refine zF ?_|refine zT ?_|refine zG ?_)
  simp only [RC]
  repeat' (first|refine zF ?_|refine zT ?_|refine zG ?_)
  rw [hw];rfl
 show Out.eval (bM _)=_;dsimp only [bM]
 repeat' (first|refine zT ?_|refine zG ?_)
 rfl
def iG {α:Type} (key:α→Int) (y:α) (d:Bool×List α) (x:α):Bool×List α:=if d.1=false∧key y<key x then (true,(d.2++[y])++[x]) else (d.1,d.2++[x])
theorem XD {y:α}:∀ (a pre:List α),a.foldl (iG key y) (true,pre)=(true,pre++a)
 |[],pre=>by simp
 |x::r,pre=>by
  rw [ae5];have:iG key y (true,pre) x=(true,pre++[x]):=by unfold iG;rw [aae (by simp)]
  rw [this,XD r];simp
theorem tW {y:α}:∀ (a pre:List α),(if (a.foldl (iG key y) (false,pre)).1=true then (a.foldl (iG key y) (false,pre)).2 else (a.foldl (iG key y) (false,pre)).2++[y])=pre++bS key y a
 |[],pre=>by simp [bS]
 |x::r,pre=>by
  rw [ae5];unfold bS;by_cases h:key y<key x
  . have:iG key y (false,pre) x=(true,(pre++[y])++[x]):=by unfold iG;rw [aaZ ⟨rfl,h⟩]
    rw [this,XD,aaZ rfl,aaZ h];simp
  . have:iG key y (false,pre) x=(false,pre++[x]):=by unfold iG;rw [aae (by simp [h])]
    rw [this,tW r,aae h];simp
theorem D3 {α σ β:Type} {f:σ→Out (Round σ β Empty)} {key:α→Int} (y:α) (a:List α) (S:Bool×List α→Nat→σ) (out:Bool×List α→β)
  (hs:∀ i (hi:i<a.length) d,d.2.length≤i+1→(f (S d i)).eval=some (.again (S (iG key y d a[i]) (i+1)))) (hy:∀ d,(f (S d a.length)).eval=some (.out (out d))) (ha:a.length≤cj):
  aP f aI (S (false,[]) 0)=some (out (a.foldl (iG key y) (false,[]))):=by
 refine foldl_loop (λd i=>d.2.length≤i+1∧(d.1=false→d.2.length≤i)) (iG key y) a S out (λi hi d hd=>hs i hi d hd.1) (λd _=>hy d) (λi hi d hd=> ?_) ha (false,[]) (by simp);unfold iG;obtain ⟨d1,d2⟩:=d;have hd:d2.length≤i+1∧(d1=false→d2.length≤i):=hd;split
 . rename_i q
   have:=hd.2 q.1;simp only [aaY,aay,adC];exact ⟨by omega,λe=>by cases e⟩
 . simp only [aaY,aay,adC]
   exact ⟨by omega,λe=>by have:=hd.2 e;omega⟩
theorem HL (h:∀ x∈os,x.1≠k) (hk:0≤k∧k≤7) (hl:os.length≤1000):eo ((nx,tk,pg,ps,os,pi,fi,rd,ou,()),(10,k,b,c,l,()),())=lX (nx,tk,pg,ps,bS an (k,b,c,0,0,()) os,pi,fi,rd,ou,()):=by
 have Y5:aM os k= -1:=xL (key:=an) h;have hL:bn=68719476736:=rfl;have hB:cj=9223372036854775807:=rfl;have ln:(!(dL k (0:Int) (7:Int)))=false:=by rw [eS.2 hk];rfl
 have Qe:=D3 (f:=tR) (key:=an) (k,b,c,0,0,()) os (λd i=>((d.1,(i:Int),()),((nx,tk,()),(10,k,b,c,l,()),(0,0,()),d.2,pg,ps,os,pi,fi,rd,ou,([]:List (List ar)),([]:List af),([]:List ai),([]:List ah),([]:List ah),([]:List Int),([]:List Int),()))) (λd=>((d.1,()),((nx,tk,()),(10,k,b,c,l,()),(0,0,()),d.2,pg,ps,os,pi,fi,rd,ou,([]:List (List ar)),([]:List af),([]:List ai),([]:List ah),([]:List ah),([]:List Int),([]:List Int),()))) (λi hi d hd=> ?_) (λd=> ?_) (by omega)
 . have key:DW ((nx,tk,pg,ps,os,pi,fi,rd,ou,()),(10,k,b,c,l,()),())=lX (nx,tk,pg,ps,bS an (k,b,c,0,0,()) os,pi,fi,rd,ou,()):=by
    show Out.eval (oN _)=_;dsimp only [oN];rw [Y5]
    repeat' (first|refine zF ?_|refine zT ?_|refine zG ?_)
    dsimp only;have hf:=tW (key:=an) (y:=(k,b,c,0,0,())) os [];have hlen:(List.foldl (iG an (k,b,c,0,0,())) (false,[]) os).2.length≤1002:=by
     have h2:=congrArg List.length hf;rw [ad0,jS] at h2;split at h2
     . omega
     . rw [aaY] at h2;omega
    rw [ad0] at hf;rw [← hf];generalize List.foldl (iG an (k,b,c,0,0,())) (false,[]) os=d at hlen;obtain ⟨d1,d2⟩:=d;have hlen:d2.length≤1002:=hlen;cases d1
    . refine (ab (by rfl)).trans ?_
      refine (ab (aac (by simp only [aay,adC];omega))).trans ?_;rfl
    . refine (ae (by rfl)).trans ?_
      rfl
   show Out.eval (bM _)=_;dsimp only [bM]
   repeat' (first|refine zF ?_|refine zT ?_|refine zG ?_)
   rfl
 . have hn:nth os i=some os[i]:=aa7 hi
   have hw:abs ((i:Int)+1)=((i+1:Nat):Int):=aq (by omega);obtain ⟨d1,d2⟩:=d;have hd:d2.length≤i+1:=hd;show Out.eval (tR _)=_;dsimp only [tR];rw [hw];simp only [adu];refine (ab (aac)).trans ?_;cases d1
   . refine (ab (by rfl)).trans ?_
     by_cases q:k<an os[i]
     . have e:iG an (k,b,c,0,0,()) (false,d2) os[i]=(true,(d2++[(k,b,c,0,0,())])++[os[i]]):=by unfold iG;rw [aaZ ⟨rfl,q⟩]
       have q':os[i].1>k:=q;rw [e]
       repeat' (first|refine zT ?_|refine zG ?_)
       rfl
     . have e:iG an (k,b,c,0,0,()) (false,d2) os[i]=(false,d2++[os[i]]):=by unfold iG;rw [aae λh=>q h.2]
       have q':¬ os[i].1>k:=q;rw [e]
       repeat' (first|refine zF ?_|refine zT ?_|refine zG ?_)
       rfl
   . have e:iG an (k,b,c,0,0,()) (true,d2) os[i]=(true,d2++[os[i]]):=by unfold iG;rw [aae (by simp)]
     rw [e]
     repeat' (first|refine zF ?_|refine zT ?_|refine zG ?_)
     rfl
 . show Out.eval (tR _)=_
   dsimp only [tR];refine (ae (adD)).trans ?_;rfl
theorem Zq (h:∀ x∈pi,x.1≠k) (hk:0≤k∧k≤2) (hl:pi.length≤1000):eo ((nx,tk,pg,ps,os,pi,fi,rd,ou,()),(14,k,b,c,l,()),())=lX (nx,tk,pg,ps,os,bS aG (k,[],()) pi,fi,rd,ou,()):=by
 have Y5:bq pi k= -1:=xL (key:=aG) h;have hL:bn=68719476736:=rfl;have hB:cj=9223372036854775807:=rfl;have ln:(!(dL k (0:Int) (2:Int)))=false:=by rw [eS.2 hk];rfl
 have Qe:=D3 (f:=tS) (key:=aG) (k,[],()) pi (λd i=>((d.1,(i:Int),()),((nx,tk,()),(14,k,b,c,l,()),(0,0,()),d.2,pg,ps,os,pi,fi,rd,ou,([]:List (List ar)),([]:List af),([]:List ai),([]:List ah),([]:List ah),([]:List Int),([]:List Int),()))) (λd=>((d.1,()),((nx,tk,()),(14,k,b,c,l,()),(0,0,()),d.2,pg,ps,os,pi,fi,rd,ou,([]:List (List ar)),([]:List af),([]:List ai),([]:List ah),([]:List ah),([]:List Int),([]:List Int),()))) (λi hi d hd=> ?_) (λd=> ?_) (by omega)
 . have key:DX ((nx,tk,pg,ps,os,pi,fi,rd,ou,()),(14,k,b,c,l,()),())=lX (nx,tk,pg,ps,os,bS aG (k,[],()) pi,fi,rd,ou,()):=by
    show Out.eval (oO _)=_;dsimp only [oO];rw [Y5]
    repeat' (first|refine zF ?_|refine zT ?_|refine zG ?_)
    dsimp only;have hf:=tW (key:=aG) (y:=(k,[],())) pi [];have hlen:(List.foldl (iG aG (k,[],())) (false,[]) pi).2.length≤1002:=by
     have h2:=congrArg List.length hf;rw [ad0,jS] at h2;split at h2
     . omega
     . rw [aaY] at h2;omega
    rw [ad0] at hf;rw [← hf];generalize List.foldl (iG aG (k,[],())) (false,[]) pi=d at hlen;obtain ⟨d1,d2⟩:=d;have hlen:d2.length≤1002:=hlen;cases d1
    . refine (ab (by rfl)).trans ?_
      refine (ab (aac (by simp only [aay,adC];omega))).trans ?_;rfl
    . refine (ae (by rfl)).trans ?_
      rfl
   show Out.eval (bM _)=_;dsimp only [bM]
   repeat' (first|refine zF ?_|refine zT ?_|refine zG ?_)
   rfl
 . have hn:nth pi i=some pi[i]:=aa7 hi
   have hw:abs ((i:Int)+1)=((i+1:Nat):Int):=aq (by omega);obtain ⟨d1,d2⟩:=d;have hd:d2.length≤i+1:=hd;show Out.eval (tS _)=_;dsimp only [tS];rw [hw];simp only [adu];refine (ab (aac)).trans ?_;cases d1
   . refine (ab (by rfl)).trans ?_
     by_cases q:k<aG pi[i]
     . have e:iG aG (k,[],()) (false,d2) pi[i]=(true,(d2++[(k,[],())])++[pi[i]]):=by unfold iG;rw [aaZ ⟨rfl,q⟩]
       have q':pi[i].1>k:=q;rw [e]
       repeat' (first|refine zT ?_|refine zG ?_)
       rfl
     . have e:iG aG (k,[],()) (false,d2) pi[i]=(false,d2++[pi[i]]):=by unfold iG;rw [aae λh=>q h.2]
       have q':¬ pi[i].1>k:=q;rw [e]
       repeat' (first|refine zF ?_|refine zT ?_|refine zG ?_)
       rfl
   . have e:iG aG (k,[],()) (true,d2) pi[i]=(true,d2++[pi[i]]):=by unfold iG;rw [aae (by simp)]
     rw [e]
     repeat' (first|refine zF ?_|refine zT ?_|refine zG ?_)
     rfl
 . show Out.eval (tS _)=_
   dsimp only [tS];refine (ae (adD)).trans ?_;rfl
theorem Zh (h:∀ x∈fi,x.1≠k) (hk:0≤k∧k≤5) (hl:fi.length≤1000):eo ((nx,tk,pg,ps,os,pi,fi,rd,ou,()),(18,k,b,c,l,()),())=lX (nx,tk,pg,ps,os,pi,bS aW (k,[],()) fi,rd,ou,()):=by
 have Y5:br fi k= -1:=xL (key:=aW) h;have hL:bn=68719476736:=rfl;have hB:cj=9223372036854775807:=rfl;have ln:(!(dL k (0:Int) (5:Int)))=false:=by rw [eS.2 hk];rfl
 have Qe:=D3 (f:=tT) (key:=aW) (k,[],()) fi (λd i=>((d.1,(i:Int),()),((nx,tk,()),(18,k,b,c,l,()),(0,0,()),d.2,pg,ps,os,pi,fi,rd,ou,([]:List (List ar)),([]:List af),([]:List ai),([]:List ah),([]:List ah),([]:List Int),([]:List Int),()))) (λd=>((d.1,()),((nx,tk,()),(18,k,b,c,l,()),(0,0,()),d.2,pg,ps,os,pi,fi,rd,ou,([]:List (List ar)),([]:List af),([]:List ai),([]:List ah),([]:List ah),([]:List Int),([]:List Int),()))) (λi hi d hd=> ?_) (λd=> ?_) (by omega)
 . have key:IV ((nx,tk,pg,ps,os,pi,fi,rd,ou,()),(18,k,b,c,l,()),())=lX (nx,tk,pg,ps,os,pi,bS aW (k,[],()) fi,rd,ou,()):=by
    show Out.eval (sj _)=_;dsimp only [sj];rw [Y5]
    repeat' (first|refine zF ?_|refine zT ?_|refine zG ?_)
    dsimp only;have hf:=tW (key:=aW) (y:=(k,[],())) fi [];have hlen:(List.foldl (iG aW (k,[],())) (false,[]) fi).2.length≤1002:=by
     have h2:=congrArg List.length hf;rw [ad0,jS] at h2;split at h2
     . omega
     . rw [aaY] at h2;omega
    rw [ad0] at hf;rw [← hf];generalize List.foldl (iG aW (k,[],())) (false,[]) fi=d at hlen;obtain ⟨d1,d2⟩:=d;have hlen:d2.length≤1002:=hlen;cases d1
    . refine (ab (by rfl)).trans ?_
      refine (ab (aac (by simp only [aay,adC];omega))).trans ?_;rfl
    . refine (ae (by rfl)).trans ?_
      rfl
   show Out.eval (bM _)=_;dsimp only [bM]
   repeat' (first|refine zF ?_|refine zT ?_|refine zG ?_)
   rfl
 . have hn:nth fi i=some fi[i]:=aa7 hi
   have hw:abs ((i:Int)+1)=((i+1:Nat):Int):=aq (by omega);obtain ⟨d1,d2⟩:=d;have hd:d2.length≤i+1:=hd;show Out.eval (tT _)=_;dsimp only [tT];rw [hw];simp only [adu];refine (ab (aac)).trans ?_;cases d1
   . refine (ab (by rfl)).trans ?_
     by_cases q:k<aW fi[i]
     . have e:iG aW (k,[],()) (false,d2) fi[i]=(true,(d2++[(k,[],())])++[fi[i]]):=by unfold iG;rw [aaZ ⟨rfl,q⟩]
       have q':fi[i].1>k:=q;rw [e]
       repeat' (first|refine zT ?_|refine zG ?_)
       rfl
     . have e:iG aW (k,[],()) (false,d2) fi[i]=(false,d2++[fi[i]]):=by unfold iG;rw [aae λh=>q h.2]
       have q':¬ fi[i].1>k:=q;rw [e]
       repeat' (first|refine zF ?_|refine zT ?_|refine zG ?_)
       rfl
   . have e:iG aW (k,[],()) (true,d2) fi[i]=(true,d2++[fi[i]]):=by unfold iG;rw [aae (by simp)]
     rw [e]
     repeat' (first|refine zF ?_|refine zT ?_|refine zG ?_)
     rfl
 . show Out.eval (tT _)=_
   dsimp only [tT];refine (ae (adD)).trans ?_;rfl
theorem yx (h:bZ an os) (ho:o∈os) (_:os.length≤1000) (hr: -1000≤bP o+b∧bP o+b≤1000):eo ((nx,tk,pg,ps,os,pi,fi,rd,ou,()),(11,o.1,b,c,l,()),())=lX (nx,tk,pg,ps,ca an os o.1 (dg (bP o+b)),pi,fi,rd,ou,()):=by
 obtain ⟨i,hi,cf,hn⟩:=bH h ho;have dh:aM os o.1=(i:Int):=hi;have qZ:nth os i=some o:=hn;have LG: -1000≤o.2.2.2.2.1+b∧o.2.2.2.2.1+b≤1000:=hr;have hw:abs (o.2.2.2.2.1+b)=o.2.2.2.2.1+b:=bt (by omega) (by omega);have key:DW ((nx,tk,pg,ps,os,pi,fi,rd,ou,()),(11,o.1,b,c,l,()),())=lX (nx,tk,pg,ps,ca an os o.1 (dg (bP o+b)),pi,fi,rd,ou,()):=by
  show Out.eval (oN _)=_;dsimp only [oN];rw [dh];rw [show ca an os o.1 (dg (bP o+b))=os.set i (dg (bP o+b) o) from (gr h hn _ rfl).symm];simp only [adu]
  repeat' (first|refine zF ?_|refine zT ?_|refine zG ?_)
  rw [hw];rfl
 show Out.eval (bM _)=_;dsimp only [bM]
 repeat' (first|refine zF ?_|refine zT ?_|refine zG ?_)
 rfl
theorem SZ (h:bZ an os) (ho:o∈os) (_:os.length≤1000):eo ((nx,tk,pg,ps,os,pi,fi,rd,ou,()),(13,o.1,b,c,l,()),())=lX (nx,tk,pg,ps,ca an os o.1 (yD b),pi,fi,rd,ou,()):=by
 obtain ⟨i,hi,cf,hn⟩:=bH h ho;have dh:aM os o.1=(i:Int):=hi;have qZ:nth os i=some o:=hn;have key:DW ((nx,tk,pg,ps,os,pi,fi,rd,ou,()),(13,o.1,b,c,l,()),())=lX (nx,tk,pg,ps,ca an os o.1 (yD b),pi,fi,rd,ou,()):=by
  show Out.eval (oN _)=_;dsimp only [oN];rw [dh];rw [show ca an os o.1 (yD b)=os.set i (yD b o) from (gr h hn _ rfl).symm];simp only [adu]
  repeat' (first|refine zF ?_|refine zT ?_|refine zG ?_)
  rfl
 show Out.eval (bM _)=_;dsimp only [bM]
 repeat' (first|refine zF ?_|refine zT ?_|refine zG ?_)
 rfl
theorem Qf (h:bZ an os) (ho:o∈os) (hl:os.length≤1000):eo ((nx,tk,pg,ps,os,pi,fi,rd,ou,()),(12,o.1,b,c,l,()),())=lX (nx,tk,pg,ps,Fb os o.1,pi,fi,rd,ou,()):=by
 obtain ⟨i,hi,cf,hn⟩:=bH h ho;have dh:aM os o.1=(i:Int):=hi;have hL:bn=68719476736:=rfl;have hw:abs ((i:Int)+1)=((i+1:Nat):Int):=aq (by have hB:cj=9223372036854775807:=rfl;omega);have key:DW ((nx,tk,pg,ps,os,pi,fi,rd,ou,()),(12,o.1,b,c,l,()),())=lX (nx,tk,pg,ps,Fb os o.1,pi,fi,rd,ou,()):=by
  show Out.eval (oN _)=_;dsimp only [oN];rw [dh];rw [show Fb os o.1=os.take i++os.drop (i+1) from (BL h hn).symm];simp only [hw,adu,Int.toNat_zero,Nat.sub_zero,ad0,aeS,alA,ae0,aec]
  repeat' (first|refine zF ?_|refine zT ?_)
  rw [afJ (l:=os.drop (i+1)) (by rw [aec];omega)];rfl
 show Out.eval (bM _)=_;dsimp only [bM]
 repeat' (first|refine zF ?_|refine zT ?_|refine zG ?_)
 rfl
theorem agj (h:bZ aG pi) (hy:y∈pi) (_:pi.length≤1000) (h4:y.2.1.length<4):eo ((nx,tk,pg,ps,os,pi,fi,rd,ou,()),(15,y.1,b,c,l,()),())=lX (nx,tk,pg,ps,os,ca aG pi y.1 (gb (y.2.1++[b])),fi,rd,ou,()):=by
 obtain ⟨i,hi,cf,hn⟩:=bH h hy;have dh:bq pi y.1=(i:Int):=hi;have qZ:nth pi i=some y:=hn;have hL:bn=68719476736:=rfl;have key:DX ((nx,tk,pg,ps,os,pi,fi,rd,ou,()),(15,y.1,b,c,l,()),())=lX (nx,tk,pg,ps,os,ca aG pi y.1 (gb (y.2.1++[b])),fi,rd,ou,()):=by
  show Out.eval (oO _)=_;dsimp only [oO];rw [dh];rw [show ca aG pi y.1 (gb (y.2.1++[b]))=pi.set i (gb (y.2.1++[b]) y) from (gr h hn _ rfl).symm];simp only [adu,ad0]
  repeat' (first|refine zF ?_|refine zT ?_|refine zG ?_)
  rfl
 show Out.eval (bM _)=_;dsimp only [bM]
 repeat' (first|refine zF ?_|refine zT ?_|refine zG ?_)
 rfl
theorem Zs (h:bZ aG pi) (hy:y∈pi) (_:pi.length≤1000) (h4:0<y.2.1.length∧y.2.1.length≤4):eo ((nx,tk,pg,ps,os,pi,fi,rd,ou,()),(16,y.1,b,c,l,()),())=lX (nx,tk,pg,ps,os,ca aG pi y.1 (gb (y.2.1.drop 1)),fi,rd,ou,()):=by
 obtain ⟨i,hi,cf,hn⟩:=bH h hy;have dh:bq pi y.1=(i:Int):=hi;have qZ:nth pi i=some y:=hn;have hL:bn=68719476736:=rfl;have he:(((y.2.1.length:Nat):Int)==0)=false:=fj (by omega);have key:DX ((nx,tk,pg,ps,os,pi,fi,rd,ou,()),(16,y.1,b,c,l,()),())=lX (nx,tk,pg,ps,os,ca aG pi y.1 (gb (y.2.1.drop 1)),fi,rd,ou,()):=by
  show Out.eval (oO _)=_;dsimp only [oO];rw [dh];rw [show ca aG pi y.1 (gb (y.2.1.drop 1))=pi.set i (gb (y.2.1.drop 1) y) from (gr h hn _ rfl).symm];simp only [adu,ad0,Int.toNat_one,aec]
  repeat' (first|refine zF ?_|refine zT ?_|refine zG ?_)
  rfl
 show Out.eval (bM _)=_;dsimp only [bM]
 repeat' (first|refine zF ?_|refine zT ?_|refine zG ?_)
 rfl
theorem RD (h:bZ aG pi) (hy:y∈pi) (hl:pi.length≤1000):eo ((nx,tk,pg,ps,os,pi,fi,rd,ou,()),(17,y.1,b,c,l,()),())=lX (nx,tk,pg,ps,os,OI pi y.1,fi,rd,ou,()):=by
 obtain ⟨i,hi,cf,hn⟩:=bH h hy;have dh:bq pi y.1=(i:Int):=hi;have qZ:nth pi i=some y:=hn;have hL:bn=68719476736:=rfl;have hw:abs ((i:Int)+1)=((i+1:Nat):Int):=aq (by have hB:cj=9223372036854775807:=rfl;omega);have key:DX ((nx,tk,pg,ps,os,pi,fi,rd,ou,()),(17,y.1,b,c,l,()),())=lX (nx,tk,pg,ps,os,OI pi y.1,fi,rd,ou,()):=by
  show Out.eval (oO _)=_;dsimp only [oO];rw [dh];simp only [adu];rw [show OI pi y.1=pi.take i++pi.drop (i+1) from (BL h hn).symm];simp only [hw,adu,Int.toNat_zero,Nat.sub_zero,ad0,aeS,alA,ae0,aec]
  repeat' (first|refine zF ?_|refine zT ?_|refine zG ?_)
  rw [afJ (l:=pi.drop (i+1)) (by rw [aec];omega)];rfl
 show Out.eval (bM _)=_;dsimp only [bM]
 repeat' (first|refine zF ?_|refine zT ?_|refine zG ?_)
 rfl
theorem Zn (h:bZ aW fi) (hy:y∈fi) (hl:fi.length≤1000):eo ((nx,tk,pg,ps,os,pi,fi,rd,ou,()),(20,y.1,b,c,l,()),())=lX (nx,tk,pg,ps,os,pi,OI fi y.1,rd,ou,()):=by
 obtain ⟨i,hi,cf,hn⟩:=bH h hy;have dh:br fi y.1=(i:Int):=hi;have hL:bn=68719476736:=rfl;have hw:abs ((i:Int)+1)=((i+1:Nat):Int):=aq (by have hB:cj=9223372036854775807:=rfl;omega);have key:IV ((nx,tk,pg,ps,os,pi,fi,rd,ou,()),(20,y.1,b,c,l,()),())=lX (nx,tk,pg,ps,os,pi,OI fi y.1,rd,ou,()):=by
  show Out.eval (sj _)=_;dsimp only [sj];rw [dh];rw [show OI fi y.1=fi.take i++fi.drop (i+1) from (BL h hn).symm];simp only [hw,adu,Int.toNat_zero,Nat.sub_zero,ad0,aeS,alA,ae0,aec]
  repeat' (first|refine zF ?_|refine zT ?_)
  rw [afJ (l:=fi.drop (i+1)) (by rw [aec];omega)];rfl
 show Out.eval (bM _)=_;dsimp only [bM]
 repeat' (first|refine zF ?_|refine zT ?_|refine zG ?_)
 rfl
def jh (d:List Int) (b c:Int):List Int:=if b=((d.length:Nat):Int) then d++[c] else d.set b.toNat c
theorem Zu (h:bZ aW fi) (hy:y∈fi) (_:fi.length≤1000) (hlen:y.2.1.length≤8) (hb:0≤b∧b≤((y.2.1.length:Nat):Int)∧b<8):eo ((nx,tk,pg,ps,os,pi,fi,rd,ou,()),(19,y.1,b,c,l,()),())=lX (nx,tk,pg,ps,os,pi,ca aW fi y.1 (gb (jh y.2.1 b c)),rd,ou,()):=by
 obtain ⟨i,hi,cf,hn⟩:=bH h hy;have dh:br fi y.1=(i:Int):=hi;have qZ:nth fi i=some y:=hn;have hL:bn=68719476736:=rfl;have key:IV ((nx,tk,pg,ps,os,pi,fi,rd,ou,()),(19,y.1,b,c,l,()),())=lX (nx,tk,pg,ps,os,pi,ca aW fi y.1 (gb (jh y.2.1 b c)),rd,ou,()):=by
  show Out.eval (sj _)=_;dsimp only [sj];rw [dh];rw [show ca aW fi y.1 (gb (jh y.2.1 b c))=fi.set i (gb (jh y.2.1 b c) y) from (gr h hn _ rfl).symm];simp only [adu,ad0];by_cases q:b=((y.2.1.length:Nat):Int)
  . have he:(b==((y.2.1.length:Nat):Int))=true:=dE q
    unfold jh;rw [aaZ q]
    repeat' (first|refine zF ?_|refine zT ?_|refine zG ?_)
    rfl
  . have he:(b==((y.2.1.length:Nat):Int))=false:=fj q
    have hnb:nth y.2.1 b.toNat=some (y.2.1[b.toNat]'(by omega)):=aa7 _;unfold jh;rw [aae q]
    repeat' (first|refine zF ?_|refine zT ?_|refine zG ?_)
    rfl
 show Out.eval (bM _)=_;dsimp only [bM]
 repeat' (first|refine zF ?_|refine zT ?_|refine zG ?_)
 rfl
theorem Bc (hl:rd.length<6):eo ((nx,tk,pg,ps,os,pi,fi,rd,ou,()),(21,k,b,c,l,()),())=lX (nx,tk,pg,ps,os,pi,fi,rd++[k],ou,()):=by
 have hL:bn=68719476736:=rfl;have key:DY ((nx,tk,pg,ps,os,pi,fi,rd,ou,()),(21,k,b,c,l,()),())=lX (nx,tk,pg,ps,os,pi,fi,rd++[k],ou,()):=by
  show Out.eval (oP _)=_;dsimp only [oP]
  repeat' (first|refine zF ?_|refine zT ?_)
  rfl
 show Out.eval (bM _)=_;dsimp only [bM]
 repeat' (first|refine zF ?_|refine zT ?_|refine zG ?_)
 rfl
theorem agi (hl:ou.length<60):eo ((nx,tk,pg,ps,os,pi,fi,rd,ou,()),(23,k,b,c,l,()),())=lX (nx,tk,pg,ps,os,pi,fi,rd,ou++[k],()):=by
 have hL:bn=68719476736:=rfl;have key:DY ((nx,tk,pg,ps,os,pi,fi,rd,ou,()),(23,k,b,c,l,()),())=lX (nx,tk,pg,ps,os,pi,fi,rd,ou++[k],()):=by
  show Out.eval (oP _)=_;dsimp only [oP]
  repeat' (first|refine zF ?_|refine zT ?_)
  rfl
 show Out.eval (bM _)=_;dsimp only [bM]
 repeat' (first|refine zF ?_|refine zT ?_|refine zG ?_)
 rfl
theorem ZD (h0:0≤tk) (hl:tk<1000000):eo ((nx,tk,pg,ps,os,pi,fi,rd,ou,()),(24,k,b,c,l,()),())=lX (nx,tk+1,pg,ps,os,pi,fi,rd,ou,()):=by
 have hw:abs (tk+1)=tk+1:=bt (by omega) (by omega);have key:DY ((nx,tk,pg,ps,os,pi,fi,rd,ou,()),(24,k,b,c,l,()),())=lX (nx,tk+1,pg,ps,os,pi,fi,rd,ou,()):=by
  show Out.eval (oP _)=_;dsimp only [oP]
  repeat' (first|refine zF ?_|refine zT ?_)
  rw [hw];rfl
 show Out.eval (bM _)=_;dsimp only [bM]
 repeat' (first|refine zF ?_|refine zT ?_|refine zG ?_)
 rfl
theorem LH {x:Int}:∀ {l:List Int} {i:Nat},l.findIdx? (λy=>y==x)=some i→l.take i++l.drop (i+1)=l.erase x
 |[],i,h=>by simp at h
 |y::r,i,h=>by
  rw [List.findIdx?_cons] at h;by_cases q:(y==x)=true
  . rw [aaZ q] at h
    obtain rfl:=ac2 h;rw [List.erase_cons,aaZ q];rfl
  . rw [aae q] at h
    obtain ⟨j,hj,rfl⟩:=ST.1 h;rw [List.erase_cons,aae q, ← LH hj];rfl
theorem Bm (hm:k∈rd) (hl:rd.length≤1000):eo ((nx,tk,pg,ps,os,pi,fi,rd,ou,()),(22,k,b,c,l,()),())=lX (nx,tk,pg,ps,os,pi,fi,rd.erase k,ou,()):=by
 have hL:bn=68719476736:=rfl;have hB:cj=9223372036854775807:=rfl;have Qe:=ei (f:=oj) rd (λy=>y==k) (λi=>(((i:Int),()),((nx,tk,()),(22,k,b,c,l,()),(0,0,()),pg,ps,os,pi,fi,rd,ou,([]:List (List ar)),([]:List af),([]:List ai),([]:List ah),([]:List ah),([]:List Int),([]:List Int),())))
  (z:=λi=>((true,()),((nx,tk,()),pg,ps,os,pi,fi,rd.take i++rd.drop (i+1),ou,()))) (y:=((),((nx,tk,()),(0,0,()),pg,ps,os,pi,fi,rd,ou,([]:List (List ar)),([]:List af),([]:List ai),([]:List ah),([]:List ah),([]:List Int),([]:List Int),()))) (λi hi q=> ?_) (λi hi q=> ?_) ?_ (by omega)
 . obtain ⟨i,hi⟩:∃ i,rd.findIdx? (λy=>y==k)=some i:=by
    cases e:rd.findIdx? (λy=>y==k) with
    |some i=>exact ⟨i,rfl⟩
    |none=>rw [agq] at e;have:=e k hm;simp at this
   rw [hi] at Qe;have key:DY ((nx,tk,pg,ps,os,pi,fi,rd,ou,()),(22,k,b,c,l,()),())=lX (nx,tk,pg,ps,os,pi,fi,rd.erase k,ou,()):=by
    rw [← LH hi];show Out.eval (oP _)=_;dsimp only [oP]
    repeat' (first|refine zF ?_|refine zT ?_|refine zG ?_)
    rfl
   show Out.eval (bM _)=_;dsimp only [bM]
   repeat' (first|refine zF ?_|refine zT ?_|refine zG ?_)
   rfl
 . have hn:nth rd i=some rd[i]:=aa7 hi
   have hw:abs ((i:Int)+1)=((i+1:Nat):Int):=aq (by omega);show Out.eval (oj _)=_;dsimp only [oj];simp only [adu,hw]
   repeat' (first|refine zF ?_|refine zT ?_|refine zG ?_)
   rfl
 . have hn:nth rd i=some rd[i]:=aa7 hi
   have hw:abs ((i:Int)+1)=((i+1:Nat):Int):=aq (by omega);show Out.eval (oj _)=_;dsimp only [oj];simp only [hw,adu,Int.toNat_zero,Nat.sub_zero,ad0,aeS,alA,ae0,aec]
   repeat' (first|refine zT ?_|refine zG ?_)
   rw [afJ (l:=rd.drop (i+1)) (by rw [aec];omega)];rfl
 . show Out.eval (oj _)=_
   dsimp only [oj]
   repeat' (refine zF ?_)
   rfl
theorem Ze (h:∀ p∈ps,(ct p).length≤12∧(ct p).length % 4=0) (hl:ps.length≤6) {n:Nat} (hn:n≤1000) {q:Bool} (hq:decide (oV ps+4*n≤64)=q):pV ((nx,tk,pg,ps,os,pi,fi,rd,ou,()),((n:Int),()),())=some (((q,()),()),((),(),())):=by
 obtain ⟨m,h1,h2⟩:=zl ps h hl;have h3:oV ps≤12*6:=by
  have:∀ ps:List af,(∀ p∈ps,(ct p).length≤12)→oV ps≤12*ps.length:=by
   intro ps
   induction ps with
   |nil=>intro _;exact afI _
   |cons p r ih=>intro h;have h1:=h p (by simp);have h2:=ih λq hq=>h q (by simp [hq]);rw [pj,aay];omega
  have:=this ps λp hp=>(h p hp).1;omega
 have hw:abs ((m:Int)+(n:Int))=(m:Int)+(n:Int):=bt (by omega) (by omega);show Out.eval (IT _)=_;dsimp only [IT];rw [h1,hw, ← hq];have e:decide ((m:Int)+(n:Int)≤16)=decide (oV ps+4*n≤64):=by
  rw [aeA,ae4,ae4];omega
 rw [e];rfl
end
variable {q:af}
section
def aQ (x tl:Int) (u:UT):Prop:=Inv x tl u.1 u.2.1 u.2.2.1 u.2.2.2.1 u.2.2.2.2.1 u.2.2.2.2.2.1 u.2.2.2.2.2.2.1 u.2.2.2.2.2.2.2.1 u.2.2.2.2.2.2.2.2.1
abbrev bE (u:UT):List af:=u.2.2.2.1
abbrev eY (u:UT):List ai:=u.2.2.2.2.1
abbrev nW (u:UT):List ah:=u.2.2.2.2.2.1
abbrev nT (u:UT):List ah:=u.2.2.2.2.2.2.1
abbrev oZ (u:UT):List Int:=u.2.2.2.2.2.2.2.1
abbrev Ca (u:UT):List Int:=u.2.2.2.2.2.2.2.2.1
abbrev iB (u:UT) (l:List ET):WT:=(u.1,u.2.1,u.2.2.1,u.2.2.2.1,u.2.2.2.2.1,u.2.2.2.2.2.1,u.2.2.2.2.2.2.1,u.2.2.2.2.2.2.2.1,u.2.2.2.2.2.2.2.2.1,l,())
def gf (f:List af→List af) (u:UT):UT:=(u.1,u.2.1,u.2.2.1,f u.2.2.2.1,u.2.2.2.2)
def bu (f:List ai→List ai) (u:UT):UT:=(u.1,u.2.1,u.2.2.1,u.2.2.2.1,f u.2.2.2.2.1,u.2.2.2.2.2)
def gR (f:List ah→List ah) (u:UT):UT:=(u.1,u.2.1,u.2.2.1,u.2.2.2.1,u.2.2.2.2.1,f u.2.2.2.2.2.1,u.2.2.2.2.2.2)
def lx (f:List ah→List ah) (u:UT):UT:=(u.1,u.2.1,u.2.2.1,u.2.2.2.1,u.2.2.2.2.1,u.2.2.2.2.2.1,f u.2.2.2.2.2.2.1,u.2.2.2.2.2.2.2)
def eJ (f:List Int→List Int) (u:UT):UT:=(u.1,u.2.1,u.2.2.1,u.2.2.2.1,u.2.2.2.2.1,u.2.2.2.2.2.1,u.2.2.2.2.2.2.1,f u.2.2.2.2.2.2.2.1,u.2.2.2.2.2.2.2.2)
def dJ (v:Int) (f:af→af) (u:UT):UT:=gf (λps=>bY ps v f) u
def eO {α:Type} (key:α→Int) (a:List α) (v:Int):Option α:=a.find? λx=>key x==v
theorem ee (h:bZ key a) {x:α} (hx:x∈a):eO key a (key x)=some x:=by
 unfold eO;cases e:a.find? (λy=>key y==key x) with
 |none=>rw [List.find?_eq_none] at e;have:=e x hx;simp at this
 |some y=>
  have h1:=List.find?_some e;have h2:=List.mem_of_find?_eq_some e;rw [h.inj h2 hx (by simpa using h1)]
theorem qf {x:α} (h:eO key a v=some x):x∈a∧key x=v:=⟨List.mem_of_find?_eq_some h,by simpa using List.find?_some h⟩
variable {x tl:Int} {u u':UT} {p:af} {l l':List ET} {e:ET}
theorem fJ (h:eo (u,e,())=lX u') (hl:l.length≤100000:=by omega):bz (iB u l,e,())=some ((iB u' (l++[e]),()),((),(),())):=by
 have hL:bn=68719476736:=rfl;show Out.eval (IW _)=_;dsimp only [IW];refine zG ?_ h;refine zT ?_ (by grind);rfl
abbrev eE (k a b c:Int):ET:=(k,a,b,c,[],())
theorem bC {l:List ET} {e:ET}:(l++[e]).length=l.length+1:=by simp
def iU (v:Int) (u:UT):UT:=eJ (· ++[v]) (dJ v (nQ 1 0) u)
def rF (v s t:Int) (u:UT):UT:=eJ (·.erase v) (dJ v (nQ s t) u)
def B4 (v:Int) (c:ah) (u:UT):UT:=dJ v (pX c) u
theorem uw (h:aQ x tl u):(oZ u).length≤6:=by
 rw [h.HD.length_eq];have h1:(aN (bE u)).length≤(bE u).length:=by grind [aN,List.length_map,List.length_filter_le]
 exact adQ h1 h.np
theorem apb (h:aQ x tl u) (hp:p∈bE u) (h1:cU p≠1):(oZ u).length<6:=by
 rw [h.HD.length_eq];have h2:(aN (bE u)).length<(bE u).length:=by
  unfold aN;rw [afh];exact List.length_filter_lt_length_iff_exists.2 (by grind [mm])
 exact aeh h2 h.np
theorem Cd (h:aQ x tl u) (hp:p∈bE u) (h0:cU p≠6) (h1:cU p≠1):aQ x tl (iU p.1 u):=Inv.uW h hp h0 h1
abbrev Al (v:Int) (l:List ET):List ET:=l++[eE 3 v 1 0]++[eE 21 v 0 0]
theorem H6 (h:aQ x tl u) (hp:p∈bE u) (h1:cU p≠1) (hl:l.length≤99990:=by omega):sk (iB u l,(p.1,()),())=some ((iB (iU p.1 u) (Al p.1 l),()),((),(),())):=by
 show Out.eval (I0 _)=_;dsimp only [I0];refine zG ?_ rfl;refine (aa (fJ (D2 h.df hp))).trans ?_;refine zG ?_ rfl;refine (aa (fJ (Bc (apb h hp h1)) (by grind))).trans ?_;rfl
theorem Be (h:aQ x tl u) (hp:p∈bE u) {s t:Int} (h1:cU p=1) (hs:2≤s∧s≤5) (h2:s=2→tl<t) (h3:s=3→t=0) (h4:s=4∨s=5→t∈aE p∧∃ o∈eY u,o.1=t):aQ x tl (rF p.1 s t u):=Inv.block h hp h1 hs h2 h3 h4
theorem Bf (h:aQ x tl u) (hp:p∈bE u) {s t:Int} (h1:cU p=1) (hl:l.length≤99990:=by omega):yA (iB u l,(p.1,()),(s,()),(t,()),())=some ((iB (rF p.1 s t u) (l++[eE 3 p.1 s t]++[eE 22 p.1 0 0]),()),((),(),(),(),())):=by
 show Out.eval (IZ _)=_;dsimp only [IZ];refine zG ?_ rfl;refine (aa (fJ (D2 h.df hp))).trans ?_;refine zG ?_ rfl;refine (aa (fJ (Bm (h.ready hp h1) (adQ (uw h))) (by grind))).trans ?_;rfl
theorem dt {pc:Int} {r:List Int} (h:aU pc r=true):oG pc=true∧r.length=4∧aH r=true:=by
 simp_all [aU]
theorem vW {pc:Int} {r:List Int} {k:Nat} (h:aU pc r=true) (hv:b9 v=true):aU pc (r.set k v)=true:=by
 obtain ⟨h1,h2,h3⟩:=dt h;unfold aU;simp only [aa6,adS];refine ⟨by grind, ?_⟩;unfold aH at h3 ⊢;grind
theorem OG (h:aQ x tl u) (hp:p∈bE u) {c:ah} (hc:aU c.1 c.2.1=true):aQ x tl (B4 p.1 c u):=Inv.pW h hp hc
theorem MX (h:bZ aA (bE u)) (hp:p∈bE u) {c:ah} (hc:aU c.1 c.2.1=true) (hl:l.length≤99990):BF (iB u l,(p.1,()),c,())=some ((iB (B4 p.1 c u) (l++[(1,p.1,c.1,0,c.2.1,())]),()),((),(),(),())):=by
 have h4:=(dt hc).2.1;have hL:bn=68719476736:=rfl;show Out.eval (BE _)=_;dsimp only [BE];refine zT ?_ (by grind);refine (aa (fJ (alk h hp hc (by omega)))).trans ?_;rfl
theorem amW (h:bZ aA (bE u)) (hp:p∈bE u) {c:ah} (hc:aU c.1 c.2.1=true) (hl:l.length≤99990):Xu (iB u l,(p.1,()),c,())=some ((iB (B4 p.1 c u) (l++[(1,p.1,c.1,0,c.2.1,())]),()),((),(),(),())):=MX h hp hc hl
abbrev ud (c:ah) (k:Nat) (v:Int):ah:=(c.1,c.2.1.set k v,())
def cG (v:Int) (c:ah) (y:Int) (u:UT):UT:=B4 v (ud c 0 y) u
def iQ (v:Int) (c:ah) (y z:Int) (u:UT):UT:=B4 v (ud (ud c 1 z) 0 y) u
theorem cz (h:aQ x tl u) (hp:p∈bE u) {c:ah} (hc:aU c.1 c.2.1=true) {y:Int} (hy:b9 y=true):aQ x tl (cG p.1 c y u):=OG h hp (c:=ud c 0 y) (vW hc hy)
theorem Bd (h:aQ x tl u) (hp:p∈bE u) {c:ah} (hc:aU c.1 c.2.1=true) {y z:Int} (hy:b9 y=true) (hz:b9 z=true):aQ x tl (iQ p.1 c y z u):=OG h hp (c:=ud (ud c 1 z) 0 y) (by grind [vW])
theorem Qg (h:bZ aA (bE u)) (hp:p∈bE u) {c:ah} (hc:aU c.1 c.2.1=true) {y:Int} (hy:b9 y=true) (hl:l.length≤99990):∃ l',PZ (iB u l,(p.1,()),c,(y,()),())=some ((iB (cG p.1 c y u) l',()),((),(),(),(),()))∧l'.length=l.length+1:=by
 have h4:=(dt hc).2.1;have hL:bn=68719476736:=rfl;have hn:nth c.2.1 (Int.toNat (0:Int))=some (c.2.1[0]'(by omega)):=by grind
 refine ⟨l++[(1,p.1,c.1,0,(ud c 0 y).2.1,())], ?_,bC⟩;show Out.eval (BG _)=_;dsimp only [BG];refine zT ?_ (by grind);refine zT ?_ (by grind);refine zG ?_;refine zG ?_ (MX h hp (c:=ud c 0 y) (vW hc hy) hl);rfl
theorem Hy (h:bZ aA (bE u)) (hp:p∈bE u) {c:ah} (hc:aU c.1 c.2.1=true) {y:Int} (hy:b9 y=true) (hl:l.length≤99990:=by omega):∃ l',bF (iB u l,(p.1,()),c,(y,()),())=some ((iB (cG p.1 c y u) l',()),((),(),(),(),()))∧l'.length=l.length+1:=Qg h hp hc hy hl
theorem OD (h:bZ aA (bE u)) (hp:p∈bE u) {c:ah} (hc:aU c.1 c.2.1=true) {y z:Int} (hy:b9 y=true) (hz:b9 z=true) (hl:l.length≤99990):∃ l',yw (iB u l,(p.1,()),c,(y,()),(z,()),())=some ((iB (iQ p.1 c y z u) l',()),((),(),(),(),(),()))∧l'.length=l.length+1:=by
 have h4:=(dt hc).2.1;have hL:bn=68719476736:=rfl;have hn:nth c.2.1 (Int.toNat (1:Int))=some (c.2.1[1]'(by omega)):=aa7 _;obtain ⟨l',e,hl'⟩:=Qg h hp (c:=ud c 1 z) (vW hc hz) hy hl;refine ⟨l', ?_,hl'⟩;show Out.eval (IX _)=_;dsimp only [IX];refine zT ?_ (by grind);refine zT ?_ (by grind);refine zG ?_;refine zG ?_ e;rfl
def uH (os:List ai) (pipe:Int) (p:af):Bool:=(cU p==4||cU p==5)&&match iT an os (mc p) with
 |none=>false
 |some i=>match os[i]? with|none=>false|some o=>(bN o==3||bN o==4)&&cu o==pipe
def waiters (os:List ai) (pipe:Int) (ps:List af):List Int:=(ps.filter (uH os pipe)).map aA
def gT (vs:List Int) (u:UT):UT:=vs.foldl (λu v=>iU v u) u
def fV (pipe:Int) (u:UT):UT:=gT (waiters (eY u) pipe (bE u)) u
theorem LI {os:List ai} {pipe:Int} (h:uH os pipe p=true):cU p=4∨cU p=5:=by
 simp_all [uH]
theorem GL (h:aQ x tl u) (hp:p∈bE u) (hq:q∈bE u) (fE:q.1≠p.1):q∈bE (iU p.1 u):=(bd h.df hp).2 (.inr ⟨hq,fE⟩)
def m4 (vs:List Int) (u:UT):Prop:=vs.Nodup∧∀ v∈vs,∃ p∈bE u,p.1=v∧cU p≠1∧cU p≠6
theorem m4.tail {vs:List Int} (h:aQ x tl u) (ha:m4 (v::vs) u):aQ x tl (iU v u)∧m4 vs (iU v u):=by
 obtain ⟨hn,ha⟩:=ha;obtain ⟨p,hp,rfl,h1,h6⟩:=ha v (by simp);rw [aeP] at hn;refine ⟨Cd h hp h6 h1,hn.2,λw hw=> ?_⟩;obtain ⟨q,hq,rfl,q1,q6⟩:=ha w (by simp [hw]);exact ⟨q,GL h hp hq λe=>hn.1 (e ▸ hw),rfl,q1,q6⟩
theorem yJ:∀ {vs:List Int} {u:UT},aQ x tl u→m4 vs u→aQ x tl (gT vs u)
 |[],_,h,_=>h
 |_::vs,_,h,ha=>yJ (vs:=vs) (ha.tail h).1 (ha.tail h).2
theorem nA (h:aQ x tl u) (pipe:Int):m4 (waiters (eY u) pipe (bE u)) u:=by
 refine ⟨(show ((bE u).map aA).Nodup from h.df.nodup).sublist (List.filter_sublist.map aA),λv hv=> ?_⟩;obtain ⟨p,hp,rfl⟩:=List.mem_map.1 hv;have MU:=List.mem_filter.1 hp;have:=LI MU.2;exact ⟨p,MU.1,rfl,by omega,by omega⟩
theorem m0 (h:aQ x tl u) (pipe:Int):aQ x tl (fV pipe u):=yJ h (nA h pipe)
end
section
variable {x tl:Int} {u u':UT} {p:af} {l l':List ET} {e:ET}
theorem afs (k:Int):I3 ((k,()),())=some ((((k==3||k==4),()),()),((),())):=by
 show Out.eval (I2 _)=_;dsimp only [I2];cases h:(k==3)
 . rw [Bool.false_or];rfl
 . rfl
theorem NQ {os:List ai} (h:bZ an os) {o:ai} (ho:o∈os) (hk:o.1=mc p) (pipe:Int):uH os pipe p=((cU p==4||cU p==5)&&((bN o==3||bN o==4)&&cu o==pipe)):=by
 obtain ⟨i,h1,_,h3⟩:=qt h ho hk;grind [uH]
theorem NR {os:List ai} (h:¬ ∃ o∈os,o.1=mc p) (pipe:Int):uH os pipe p=false:=by
 unfold uH;rw [m3 (key:=an) λo ho e=>h ⟨o,ho,e⟩,Bool.and_false]
def yK (vs:List Int) (l:List ET):List ET:=vs.foldl (λl v=>Al v l) l
theorem u0:∀ (vs:List Int) (l:List ET),(yK vs l).length=l.length+2*vs.length
 |[],l=>rfl
 |v::vs,l=>by
  have:=u0 vs (Al v l);grind [yK,bC,List.length_cons]
theorem uV (h:aQ x tl u) (pipe:Int) (hl:l.length≤99900):∃ l',D0 (iB u l,(pipe,()),())=some ((iB (fV pipe u) l',()),((),(),()))∧l'.length≤l.length+12:=by
 obtain ⟨nx,tk,pg,ps,os,pi,fi,rd,ou,_⟩:=u;have hL:bn=68719476736:=rfl;have hB:cj=9223372036854775807:=rfl;have QO:ps.length≤6:=h.np;have h1:=foldl_loop (f:=om) (λ(acc:List Int) i=>acc.length≤i) (λacc (p:af)=>if uH os pipe p=true then acc++[p.1] else acc) ps
  (λacc i=>((pipe,(i:Int),()),((nx,tk,()),(0,0,()),acc,pg,ps,os,pi,fi,rd,ou,l,([]:List (List ar)),([]:List af),([]:List ai),([]:List ah),([]:List ah),([]:List Int),([]:List Int),([]:List ET),())))
  (λacc=>((),((nx,tk,()),(0,0,()),acc,pg,ps,os,pi,fi,rd,ou,l,([]:List (List ar)),([]:List af),([]:List ai),([]:List ah),([]:List ah),([]:List Int),([]:List Int),([]:List ET),())))
  (λi hi acc ha=> ?_) (λacc _=> ?_) (λi hi acc ha=> ?_) (by omega) [] (adK 0)
 . have agA:∀ (a:List af) (acc:List Int),a.foldl (λacc (p:af)=>if uH os pipe p=true then acc++[p.1] else acc) acc=acc++waiters os pipe a:=by
    intro a
    induction a with
    |nil=>grind [waiters]
    |cons p r ih=>
     intro acc;rw [ae5,ih];unfold waiters;rw [akV];by_cases q:uH os pipe p=true
     . simp_all [aA]
     grind
   rw [agA,ad0] at h1;have ha:=nA h pipe;have hlen:(waiters os pipe ps).length≤6:=by
    grind [waiters,List.length_map,Nat.le_trans,List.length_filter_le]
   refine ⟨yK (waiters os pipe ps) l, ?_,by rw [u0];omega⟩;have QR:m4 (waiters os pipe ps) (nx,tk,pg,ps,os,pi,fi,rd,ou,()):=ha;unfold fV;show _=some ((iB (gT (waiters os pipe ps) (nx,tk,pg,ps,os,pi,fi,rd,ou,())) _,()),_);generalize waiters os pipe ps=vs at h1 QR hlen;have h2:=foldl_loop (f:=BI) (λ(d:UT×List ET) i=>aQ x tl d.1∧m4 (vs.drop i) d.1∧d.2.length=l.length+2*i) (λ(d:UT×List ET) v=>(iU v d.1,Al v d.2)) vs
    (λd i=>(((i:Int),()),((d.1.1,d.1.2.1,()),(0,0,()),vs,d.1.2.2.1,d.1.2.2.2.1,d.1.2.2.2.2.1,d.1.2.2.2.2.2.1,d.1.2.2.2.2.2.2.1,d.1.2.2.2.2.2.2.2.1,d.1.2.2.2.2.2.2.2.2.1,d.2,([]:List (List ar)),([]:List af),([]:List ai),([]:List ah),([]:List ah),([]:List Int),([]:List Int),([]:List ET),())))
    (λd=>((),((d.1.1,d.1.2.1,()),(0,0,()),d.1.2.2.1,d.1.2.2.2.1,d.1.2.2.2.2.1,d.1.2.2.2.2.2.1,d.1.2.2.2.2.2.2.1,d.1.2.2.2.2.2.2.2.1,d.1.2.2.2.2.2.2.2.2.1,d.2,([]:List (List ar)),([]:List af),([]:List ai),([]:List ah),([]:List ah),([]:List Int),([]:List Int),([]:List ET),())))
    (λi hi d hd=> ?_) (λd _=> ?_) (λi hi d hd=> ?_) (by omega) ((nx,tk,pg,ps,os,pi,fi,rd,ou,()),l) ⟨h,QR,rfl⟩
   . have Tg:∀ (vs:List Int) (d:UT×List ET),vs.foldl (λ(d:UT×List ET) v=>(iU v d.1,Al v d.2)) d=(gT vs d.1,yK vs d.2):=by
      intro vs
      induction vs with
      |nil=>intro d;rfl
      |cons v r ih=>intro d;rw [ae5,ih];rfl
     rw [Tg] at h2;show Out.eval (I4 _)=_;dsimp only [I4];refine zG ?_ h1;refine zG ?_ h2;rfl
   . obtain ⟨hI,hA,FV⟩:=hd
     have hn:nth vs i=some vs[i]:=by grind
     have hw:abs ((i:Int)+1)=((i+1:Nat):Int):=aq (by omega);rw [aeC hi] at hA;obtain ⟨q,hq,YW,q1,q6⟩:=hA.2 vs[i] List.mem_cons_self;have hv:=H6 hI hq q1 (l:=d.2);simp_all [Out.eval,BI,zT]
   . simp_all [Out.eval,BI,zF]
   . obtain ⟨hI,hA,FV⟩:=hd
     rw [aeC hi] at hA;have:=hA.tail hI;grind
 . have hn:nth ps i=some ps[i]:=by grind
   have hw:abs ((i:Int)+1)=((i+1:Nat):Int):=aq (by omega);have hll:acc.length+1≤bn:=by omega
   generalize ps[i]=p at hn;have hi0:(i:Int)<(ps.length:Int):=by omega
   by_cases hex:∃ o∈os,o.1=mc p
   . obtain ⟨o,ho,hk⟩:=hex
     obtain ⟨j,hj,hjl,hjn⟩:=bH h.rp ho;have NS:aM os p.2.2.2.2.2.2.2.1=(j:Int):=by rw [show p.2.2.2.2.2.2.2.1=an o from hk.symm];exact hj
     have NT:nth os j=some o:=hjn;have aln:(j:Int)<(os.length:Int):=by grind
     have hj0:(j:Int)≥0:=by omega
     rw [NQ h.rp ho hk];show Out.eval (om _)=_;dsimp only [om,cU,bN,cu];by_cases e4:p.2.2.1=4<;>by_cases e5:p.2.2.1=5<;>by_cases k3:o.2.1=3<;>by_cases k4:o.2.1=4<;>by_cases kt:o.2.2.1=pipe<;>
      simp [Out.eval,cond_eq_ite,hi0,hn,hw,NS,NT,aln,hj0,afs,e4,e5,k3,k4,kt,hll]
   . rw [NR hex,aae (by decide)]
     have NS:aM os p.2.2.2.2.2.2.2.1= -1:=xL (key:=an) λo ho e=>hex ⟨o,ho,e⟩;show Out.eval (om _)=_;dsimp only [om];by_cases e4:p.2.2.1=4<;>by_cases e5:p.2.2.1=5<;>simp [Out.eval,cond_eq_ite,hi0,hn,hw,NS,e4,e5]
 . show Out.eval (om _)=_
   dsimp only [om];refine zF ?_;rfl
 grind
end
section
variable {x tl:Int} {u u':UT} {p:af} {o:ai} {l l':List ET} {e:ET}
def kS (v:Int) (k:Nat) (u:UT):UT:=match eO aA (bE u) v with
 |none=>u
 |some p=>match (aE p)[k]? with
  |none=>u
  |some id=>match eO an (eY u) id with
   |none=>u
   |some o=>
    if bP o≠1 then bu (λos=>ca an os id (dg (bP o+ -1))) (dJ v (cp ((aE p).set k (-1))) u)
    else if ¬ (bN o=3∨bN o=4) then bu (λos=>Fb os id) (dJ v (cp ((aE p).set k (-1))) u)
    else if (Fb (eY u) id).any (fY (cu o))=true then fV (cu o) (bu (λos=>Fb os id) (dJ v (cp ((aE p).set k (-1))) u))
    else gR (λpi=>OI pi (cu o)) (bu (λos=>Fb os id) (dJ v (cp ((aE p).set k (-1))) u))
theorem zQ (h:aQ x tl u) (hp:p∈bE u) {k:Nat} (ho:o∈eY u) (hk:(aE p)[k]? =some o.1):kS p.1 k u=
  if bP o≠1 then bu (λos=>ca an os o.1 (dg (bP o+ -1))) (dJ p.1 (cp ((aE p).set k (-1))) u)
  else if ¬ (bN o=3∨bN o=4) then bu (λos=>Fb os o.1) (dJ p.1 (cp ((aE p).set k (-1))) u)
  else if (Fb (eY u) o.1).any (fY (cu o))=true then fV (cu o) (bu (λos=>Fb os o.1) (dJ p.1 (cp ((aE p).set k (-1))) u))
  else gR (λpi=>OI pi (cu o)) (bu (λos=>Fb os o.1) (dJ p.1 (cp ((aE p).set k (-1))) u)):=by
 unfold kS;rw [show eO aA (bE u) p.1=some p from ee h.df hp];simp only [hk];rw [show eO an (eY u) o.1=some o from ee h.rp ho]
theorem GM {t:Int} {e:ai}:fY t e=true↔(bN e=3∨bN e=4)∧cu e=t:=by
 unfold fY oF;grind
theorem Jb (h:aQ x tl u) (hp:p∈bE u) (h1:cU p=1) {k:Nat} (ho:o∈eY u) (hk:(aE p)[k]? =some o.1) (h0:bP o=1) (he:¬ (bN o=3∨bN o=4)∨(Fb (eY u) o.1).any (fY (cu o))=true):aQ x tl (bu (λos=>Fb os o.1) (dJ p.1 (cp ((aE p).set k (-1))) u)):=by
 refine Inv.shut h hp h1 hk ho h0 (List.Sublist.refl _) (λe _ _ _ y hy _=>hy) λy _ hkd hy=> ?_;rcases he with he|he
 . grind
 . obtain ⟨e,hm,hq⟩:=List.any_eq_true.1 he
   have:=GM.1 hq;exact ⟨e,(qu.1 hm).1,(qu.1 hm).2,this.1,this.2.trans hy.symm⟩
theorem HZ (h:aQ x tl u) (hp:p∈bE u) (h1:cU p=1) {k:Nat} (ho:o∈eY u) (hk:(aE p)[k]? =some o.1):aQ x tl (kS p.1 k u):=by
 rw [zQ h hp ho hk];split
 . rename_i h0
   exact Inv.adH h hp h1 hk ho (by grind) rfl
 . rename_i h0
   have h0:bP o=1:=by omega
   split
   . simp_all [Jb]
   . split
     . rename_i he;exact m0 (Jb h hp h1 ho hk h0 (.inr he)) _
     . rename_i hkd he
       have hno:∀ e∈eY u,e.1≠o.1→¬ ((bN e=3∨bN e=4)∧cu e=cu o):=λe hm fE hq=>he (List.any_eq_true.2 ⟨e,qu.2 ⟨hm,fE⟩,GM.2 hq⟩);refine Inv.shut h hp h1 hk ho h0 (pi':=OI (nW u) (cu o)) List.filter_sublist (λe hm fE hkd y hy hyt=>BB.2 (by grind)) λy hy _ hyt=>absurd hyt (BB.1 hy).2
theorem AI:∀ {vs:List Int} {u:UT} {q:af},aQ x tl u→m4 vs u→q∈bE u→q.1 ∉ vs→q∈bE (gT vs u)
 |[],_,_,_,_,hq,_=>hq
 |v::vs,u,q,h,ha,hq,hn=>by
  obtain ⟨p,hp,rfl,_⟩:=ha.2 v (by simp);have:=ha.tail h;exact AI (vs:=vs) this.1 this.2 (GL h hp hq λe=>hn (by simp [e])) λe=>hn (by simp [e])
theorem kR (h:aQ x tl u) (hq:q∈bE u) (h1:¬ (cU q=4∨cU q=5)) (pipe:Int):q∈bE (fV pipe u):=by
 refine AI h (nA h pipe) hq λhm=> ?_;obtain ⟨p,hp,e⟩:=List.mem_map.1 hm;have MU:=List.mem_filter.1 hp;obtain rfl:=h.df.inj MU.1 hq e;grind [LI]
theorem yF (h:aQ x tl u) (hp:p∈bE u) (h1:cU p=1) {k:Nat} (ho:o∈eY u) (hk:(aE p)[k]? =some o.1):cp ((aE p).set k (-1)) p∈bE (kS p.1 k u):=by
 have hm:cp ((aE p).set k (-1)) p∈bY (bE u) p.1 (cp ((aE p).set k (-1))):=(bd h.df hp).2 (.inl rfl);rw [zQ h hp ho hk];split
 . exact hm
 . rename_i h0
   split
   . exact hm
   . split
     . rename_i he
       exact kR (Jb h hp h1 ho hk (by omega) (.inr he)) hm (by show ¬ (cU p=4∨cU p=5);omega) _
     . exact hm
theorem alp {f:α→α} (hf:∀ x,key (f x)=key x) (a:List α):(ca key a v f).filter (λx=>key x != v)=a.filter λx=>key x != v:=by
 unfold ca
 induction a with
 |nil=>rfl
 |cons y r ih=>
  grind
theorem Ux {ps:List af} (h:∀ p∈ps,(aE p).length=4) (id:Int):pR ps id≤4*ps.length:=by
 induction ps with
 |nil=>simp [pR]
 |cons p r ih=>
  have h1:=h p (by simp);have h2:=ih λq hq=>h q (by simp [hq]);have h3:(aE p).count id≤(aE p).length:=List.count_le_length;rw [ph,aay];omega
theorem HC (h:aQ x tl u) (ho:o∈eY u):1≤bP o∧bP o≤24:=by
 have h1:=h.op o ho;have h2:=Ux (ps:=bE u) (λp hp=>(h.loc p hp).fds) o.1;have h3:(bE u).length≤6:=h.np;have h4:=h1.refs;grind
theorem oY (h:aQ x tl u):(eY u).length≤8:=mS 7 h.rp λo ho=>(h.op o ho).id
theorem vU (h:aQ x tl u):(nW u).length≤3:=mS 2 h.Aj λy hy=>(h.uv y hy).id
theorem Ak (h:aQ x tl u):(nT u).length≤6:=mS 5 h.B6 λy hy=>by have:=h.AZ y hy;unfold fA at this;rw [aa6,eS] at this;exact this.1
theorem OK (h:aQ x tl u) (hp:p∈bE u) (h1:cU p=1) {k:Nat} (ho:o∈eY u) (hk:(aE p)[k]? =some o.1) (hl:l.length≤99800):∃ l',yG (iB u l,(p.1,()),((k:Int),()),())=some ((iB (kS p.1 k u) l',()),((),(),(),()))∧l'.length≤l.length+15:=by
 rw [zQ h hp ho hk];obtain ⟨nx,tk,pg,ps,os,pi,fi,rd,ou,_⟩:=u;have Zi:bZ an os:=h.rp;have hos:os.length≤8:=oY h;have Sz:=HC h ho;have hB:cj=9223372036854775807:=rfl;obtain ⟨i,hi,cf,hn⟩:=bH h.df hp;have dh:al ps p.1=(i:Int):=hi;have qZ:nth ps i=some p:=hn;have hs:ps.set i (p.1,(p.2.1,(p.2.2.1,(p.2.2.2.1,(p.2.2.2.2.1,(p.2.2.2.2.2.1,(p.2.2.2.2.2.2.1,p.2.2.2.2.2.2.2)))))))=ps:=jT hn;have rr:nth p.2.2.2.2.2.2.1 k=some o.1:=hk;have rv:i<ps.length:=cf;have hkl:k<p.2.2.2.2.2.2.1.length:=(by grind)
 have JV:(k:Int).toNat=k:=adu k;have JF:eo ((nx,tk,pg,ps,os,pi,fi,rd,ou,()),(9,p.1,(k:Int), -1,[],()),())=lX (dJ p.1 (cp ((aE p).set k (-1))) (nx,tk,pg,ps,os,pi,fi,rd,ou,())):=by
  have:=JW (nx:=nx) (tk:=tk) (pg:=pg) (os:=os) (pi:=pi) (fi:=fi) (rd:=rd) (ou:=ou) (b:=(k:Int)) (c:= -1) (l:=[]) h.df hp (by grind);rw [JV] at this;exact this
 have uM:bZ an (ca an os o.1 (dg (bP o+ -1))):=eA h.rp λ_ _ _=>rfl;have hm2:dg (bP o+ -1) o∈ca an os o.1 (dg (bP o+ -1)):=(iv h.rp ho).2 (.inl rfl);obtain ⟨j,hj,as3,hjn⟩:=bH uM hm2;have NS:aM (ca an os o.1 (dg (bP o+ -1))) o.1=(j:Int):=hj;have NT:nth (ca an os o.1 (dg (bP o+ -1))) j=some (dg (bP o+ -1) o):=hjn;rw [kA] at as3;have apc:yG (iB (nx,tk,pg,ps,os,pi,fi,rd,ou,()) l,(p.1,()),((k:Int),()),())=(Out.ite ((bP o+ -1) != 0) (.ret ((iB (bu (λos=>ca an os o.1 (dg (bP o+ -1))) (dJ p.1 (cp ((aE p).set k (-1))) (nx,tk,pg,ps,os,pi,fi,rd,ou,()))) (l++[eE 9 p.1 k (-1)]++[eE 11 o.1 (-1) 0]),()),((),(),(),())))
   (.get (bz (iB (bu (λos=>ca an os o.1 (dg (bP o+ -1))) (dJ p.1 (cp ((aE p).set k (-1))) (nx,tk,pg,ps,os,pi,fi,rd,ou,()))) (l++[eE 9 p.1 k (-1)]++[eE 11 o.1 (-1) 0]),eE 12 o.1 0 0,())) λ((zN,_),_)=>
    .ite (!(bN o==3||bN o==4)) (.ret ((zN,()),((),(),(),())))
     (.ite (((abs ((jg zN.2.2.2.2.1 (cu o) (3:Int))+(jg zN.2.2.2.2.1 (cu o) (4:Int))))==0))
      (.get (bz (zN,eE 17 (cu o) 0 0,())) λ((qh,_),_)=> .ret ((qh,()),((),(),(),())))
      (.get (D0 (zN,(cu o,()),())) λ((qi,_),_)=> .ret ((qi,()),((),(),(),())))))).eval:=by
  show Out.eval (I6 _)=_;dsimp only [I6];rw [dh];simp only [adu];refine zT ?_;refine zG ?_ qZ;refine zT ?_;refine zG ?_ rr;rw [hs];refine zG ?_ rfl;refine (aa (fJ JF)).trans ?_;refine zG ?_ rfl;refine (aa (fJ (yx Zi ho (by omega) (by omega)) (by rw [bC];omega))).trans ?_;dsimp only [iB,dJ,gf,bu];rw [NS];simp only [adu];refine zT ?_ (aac (by rw [kA];omega));refine zG ?_ NT;show Out.eval (Out.ite ((bP o+ -1) != 0) _ _)=_;cases hz:((bP o+ -1) != 0)
  . refine (ae rfl).trans (afk ?_ (ae rfl).symm)
    refine zG ?_ rfl;have hd:=fJ (u:=bu (λos=>ca an os o.1 (dg (bP o+ -1))) (dJ p.1 (cp ((aE p).set k (-1))) (nx,tk,pg,ps,os,pi,fi,rd,ou,()))) (l:=l++[eE 9 p.1 k (-1)]++[eE 11 o.1 (-1) 0]) (Qf (b:=0) (c:=0) (l:=[]) uM hm2 (by rw [kA];exact adQ hos)) (by rw [bC,bC];omega);refine (aa hd).trans (afk ?_ (aa hd).symm);refine zG ?_ (afs _);show Out.eval (Out.ite (!(bN o==3||bN o==4)) _ _)=_;cases (!(bN o==3||bN o==4))
    . refine (ae rfl).trans (afk ?_ (ae rfl).symm)
      show Out.eval (Out.ite _ _ _)=Out.eval (Out.ite _ _ _);rw [eval_ite,eval_ite];rfl
    . rfl
  . rfl
 rw [apc];by_cases h0:bP o≠1
 . rw [aaZ h0]
   refine ⟨_,(ab (FQ (by omega))).trans rfl,by simp_all⟩
 . rw [aae h0]
   have h0:bP o=1:=by omega
   have hd0:=fJ (u:=bu (λos=>ca an os o.1 (dg (bP o+ -1))) (dJ p.1 (cp ((aE p).set k (-1))) (nx,tk,pg,ps,os,pi,fi,rd,ou,()))) (l:=l++[eE 9 p.1 k (-1)]++[eE 11 o.1 (-1) 0]) (Qf (b:=0) (c:=0) (l:=[]) uM hm2 (by rw [kA];exact adQ hos)) (by rw [bC,bC];omega);have hrm:Fb (ca an os o.1 (dg (bP o+ -1))) o.1=Fb os o.1:=alp (key:=an) (v:=o.1) (f:=dg (bP o+ -1)) (λ_=>rfl) os;have hd:=hd0.trans (congrArg (λz=>some ((iB (nx,tk,pg,bY ps p.1 (cp ((aE p).set k (-1))),z,pi,fi,rd,ou,()) (l++[eE 9 p.1 k (-1)]++[eE 11 o.1 (-1) 0]++[eE 12 o.1 0 0]),()),((),(),()))) hrm);by_cases hkd:¬ (bN o=3∨bN o=4)
   . rw [aaZ hkd]
     refine ⟨_,((ae (rD (by omega))).trans (aa hd)).trans ((ab ?_).trans rfl),by rw [bC,bC,bC];omega⟩;have e1:(bN o==3)=false:=by simp_all
     have e2:(bN o==4)=false:=by simp_all
     rw [e1,e2];rfl
   . rw [aae hkd]
     have hkd:bN o=3∨bN o=4:=by omega
     have tX:(!(bN o==3||bN o==4))=false:=by rcases hkd with e|e<;>rw [e]<;>rfl
     have as4:(Fb os o.1).length≤cj:=adQ (List.length_filter_le _ _);have GG:=Ds as4 (cu o);by_cases he:(Fb os o.1).any (fY (cu o))=true
     . rw [aaZ he]
       rw [he] at GG;have hI:aQ x tl (bu (λos=>Fb os o.1) (dJ p.1 (cp ((aE p).set k (-1))) (nx,tk,pg,ps,os,pi,fi,rd,ou,()))):=Jb h hp h1 ho hk h0 (.inr he);obtain ⟨l',hw,hlw⟩:=uV hI (cu o) (l:=l++[eE 9 p.1 k (-1)]++[eE 11 o.1 (-1) 0]++[eE 12 o.1 0 0]) (by rw [bC,bC,bC];omega);refine ⟨l',((ae (rD (by omega))).trans (aa hd)).trans ((ae tX).trans ((ae GG).trans ((aa hw).trans rfl))),by rw [bC,bC,bC] at hlw;omega⟩
     . rw [aae he]
       rw [Bool.eq_false_iff.2 he] at GG;obtain ⟨y,hy,hyt⟩:∃ y∈pi,y.1=cu o:=by
        rcases (h.op o ho).kind with ⟨e,_⟩|⟨e,_⟩|⟨_,hq,_⟩
        . omega
        . omega
        . exact hq
       have hup:=RD (nx:=nx) (tk:=tk) (pg:=pg) (ps:=bY ps p.1 (cp ((aE p).set k (-1)))) (os:=Fb os o.1) (fi:=fi) (rd:=rd) (ou:=ou) (b:=0) (c:=0) (l:=[]) h.Aj hy (adQ (vU h));rw [hyt] at hup;have hd2:=fJ (u:=bu (λos=>Fb os o.1) (dJ p.1 (cp ((aE p).set k (-1))) (nx,tk,pg,ps,os,pi,fi,rd,ou,()))) (l:=l++[eE 9 p.1 k (-1)]++[eE 11 o.1 (-1) 0]++[eE 12 o.1 0 0]) hup (by rw [bC,bC,bC];omega);refine ⟨_,((ae (rD (by omega))).trans (aa hd)).trans ((ae tX).trans ((ab GG).trans ((aa hd2).trans rfl))),by rw [bC,bC,bC,bC];omega⟩
end
variable {par code:Int}
section
variable {x tl:Int} {u u':UT} {p:af} {o:ai} {l l':List ET} {e:ET}
theorem BW {σ β:Type} {f:σ→Out (Round σ β Empty)} (n:Nat) (R:Nat→σ→Prop) {Q:β→Prop} (hs:∀ i,i<n→∀ s,R i s→∃ s',(f s).eval=some (.again s')∧R (i+1) s') (hy:∀ s,R n s→∃ y,(f s).eval=some (.out y)∧Q y) (hn:n≤cj) {s:σ} (h0:R 0 s):∃ y,aP f aI s=some y∧Q y:=by
 have key:∀ (m i k:Nat) (s:σ),i+m=n→m<k→R i s→∃ y,aP f k s=some y∧Q y:=by
  intro m
  induction m with
  |zero=>
   intro i k s hi hk hr;obtain rfl:i=n:=by omega
   grind [gF]
  |succ m ih=>
   intro i k s hi hk hr;obtain ⟨s',h1,h2⟩:=hs i (by omega) s hr;obtain ⟨k,rfl⟩:∃ k',k=k'+1:=⟨k - 1,by omega⟩
   grind [ie]
 exact key n 0 aI s (by omega) (ij hn) h0
def apd (v:Int) (k:Nat) (u:UT):Option Int:=(eO aA (bE u) v).bind λp=>(aE p)[k]?
def ke (v:Int) (u:UT) (k:Nat):UT:=match apd v k u with|none=>u|some f=>if f= -1 then u else kS v k u
def cq (v:Int) (k:Nat) (u:UT):UT:=(List.range k).foldl (ke v) u
def qe (v:Int) (u:UT) (q:af):UT:=if gQ q=v then (if cU q=6 then gf (λps=>uN ps q.1) u else dJ q.1 (NG 0) u) else u
def gE (v:Int) (kids:List af) (u:UT):UT:=kids.foldl (qe v) u
def Cc (v code:Int) (u:UT):UT:=match eO aA (bE u) v with
 |none=>u
 |some p=>
  if gQ p=0 then gf (λps=>uN ps v) (eJ (·.erase v) u)
  else match eO aA (bE (dJ v (λp=>gN code (nQ 6 0 p)) (eJ (·.erase v) u))) (gQ p) with
   |none=>dJ v (λp=>gN code (nQ 6 0 p)) (eJ (·.erase v) u)
   |some q=>if cU q=3 then iU q.1 (dJ v (λp=>gN code (nQ 6 0 p)) (eJ (·.erase v) u)) else dJ v (λp=>gN code (nQ 6 0 p)) (eJ (·.erase v) u)
def mB (v:Int) (u:UT):UT:=dJ v (ly []) u
def iD (v code:Int) (u:UT):UT:=Cc v code (gE v (bE (mB v (cq v 4 u))) (mB v (cq v 4 u)))
def nY (v code:Int) (u:UT):UT:=match eO aA (bE u) v with
 |none=>u
 |some p=>if cU p=1 then iD v code u else iD v code (iU v u)
abbrev z2:Int×Int×Unit:=(0,0,())
abbrev em8:=(([]:List (List ar)),([]:List af),([]:List ai),([]:List ah),([]:List ah),([]:List Int),([]:List Int),([]:List ET),())
abbrev eN (u:UT) (l:List ET):=(u.2.2.1,u.2.2.2.1,u.2.2.2.2.1,u.2.2.2.2.2.1,u.2.2.2.2.2.2.1,u.2.2.2.2.2.2.2.1,u.2.2.2.2.2.2.2.2.1,l,em8)
def RE (v par:Int) (k:Nat) (u:UT):Prop:=∃ q∈bE u,q.1=v∧cU q=1∧gQ q=par∧∀ j,j<k→(aE q)[j]? =some (-1)
theorem xM (v:Int) (k:Nat) (u:UT):cq v (k+1) u=ke v (cq v k u) k:=by
 simp_all [cq,List.range_succ,List.foldl_append]
theorem D4 (h:aQ x tl u) (hp:p∈bE u) (k:Nat) (hk:k<4):∃ f,(aE p)[k]? =some f∧ke p.1 u k=if f= -1 then u else kS p.1 k u:=by
 have h4:=(h.loc p hp).fds;refine ⟨(aE p)[k]'(by omega),by grind, ?_⟩;unfold ke apd;rw [show eO aA (bE u) p.1=some p from ee h.df hp];grind
theorem RF {k:Nat} (h:aQ x tl u) (hs:RE v par k u) (hk:k<4):aQ x tl (ke v u k)∧RE v par (k+1) (ke v u k):=by
 obtain ⟨q,hq,rfl,h1,h2,h3⟩:=hs;obtain ⟨f,hf,he⟩:=D4 h hq k hk;rw [he];have h4:=(h.loc q hq).fds;by_cases e:f= -1
 . rw [aaZ e]
   refine ⟨h,q,hq,rfl,h1,h2,λj hj=> ?_⟩;grind
 . rw [aae e]
   obtain ⟨o,ho,rfl⟩:=((h.ctx q hq).fds f (by grind)).resolve_left e;refine ⟨HZ h hq h1 ho hf,_,yF h hq h1 ho hf,rfl,h1,h2,λj hj=> ?_⟩;show ((aE q).set k (-1))[j]? =_;rw [List.getElem?_set];by_cases e2:k=j
   . grind
   grind
theorem zR:∀ {k:Nat},k≤4→aQ x tl u→RE v par 0 u→aQ x tl (cq v k u)∧RE v par k (cq v k u)
 |0,_,h,hs=>⟨h,hs⟩
 |k+1,hk,h,hs=>by
  have:=zR (k:=k) (by omega) h hs;rw [xM];exact RF this.1 this.2 (by omega)
theorem NU (h:aQ x tl u) (hs:RE v par 0 u) (hl:l.length≤99000):∃ l',aP tV aI ((v,code,0,()),((u.1,u.2.1,()),z2,eN u l))=some ((v,code,()),(((cq v 4 u).1,(cq v 4 u).2.1,()),z2,eN (cq v 4 u) l'))∧l'.length≤l.length+60:=by
 have BV:=BW (f:=tV) 4 (λi s=>∃ l',s=((v,code,(i:Int),()),(((cq v i u).1,(cq v i u).2.1,()),z2,eN (cq v i u) l'))∧l'.length≤l.length+15*i)
  (Q:=λy=>∃ l',y=((v,code,()),(((cq v 4 u).1,(cq v 4 u).2.1,()),z2,eN (cq v 4 u) l'))∧l'.length≤l.length+60) (λi hi s XF=> ?_) (λs XF=> ?_) (by decide) (s:=((v,code,0,()),((u.1,u.2.1,()),z2,eN u l))) ⟨l,rfl,by omega⟩
 . obtain ⟨y,h1,l',rfl,h2⟩:=BV
   simp_all
 . obtain ⟨l1,rfl,MP⟩:=XF
   obtain ⟨hI,q,hq,rfl,q1,q2,q3⟩:=zR (k:=i) (by omega) h hs;rw [xM];generalize cq q.1 i u=w at hI hq;obtain ⟨f,hf,he⟩:=D4 hI hq i hi;rw [he];obtain ⟨nx,tk,pg,ps,os,pi,fi,rd,ou,_⟩:=w;obtain ⟨j,hj,hjl,hjn⟩:=bH hI.df hq;have NS:al ps q.1=(j:Int):=hj;have NT:nth ps j=some q:=hjn;have aln:j<ps.length:=hjl;have RC:ps.set j (q.1,(q.2.1,(q.2.2.1,(q.2.2.2.1,(q.2.2.2.2.1,(q.2.2.2.2.2.1,(q.2.2.2.2.2.2.1,q.2.2.2.2.2.2.2)))))))=ps:=jT hjn;have h4:q.2.2.2.2.2.2.1.length=4:=(hI.loc q hq).fds;have MB:nth q.2.2.2.2.2.2.1 i=some f:=hf;have hw:abs ((i:Int)+1)=((i+1:Nat):Int):=aq (by grind);have D5:∀ z:Option (Round I7 _ Empty),(if f= -1 then some (Round.again ((q.1,code,((i+1:Nat):Int),()),((nx,tk,()),z2,eN (nx,tk,pg,ps,os,pi,fi,rd,ou,()) l1))) else (Out.get (yG (iB (nx,tk,pg,ps,os,pi,fi,rd,ou,()) l1,(q.1,()),((i:Int),()),())) λ((dW,_),_)=>
     .ret (.again ((q.1,code,((i+1:Nat):Int),()),((dW.1,dW.2.1,()),z2,dW.2.2.1,dW.2.2.2.1,dW.2.2.2.2.1,dW.2.2.2.2.2.1,dW.2.2.2.2.2.2.1,dW.2.2.2.2.2.2.2.1,dW.2.2.2.2.2.2.2.2.1,dW.2.2.2.2.2.2.2.2.2.1,em8)))).eval)=z→
     (tV ((q.1,code,(i:Int),()),((nx,tk,()),z2,eN (nx,tk,pg,ps,os,pi,fi,rd,ou,()) l1))).eval=z:=λz hz=>by
    rw [← hz];dsimp only [tV,eN];rw [NS,hw];simp only [adu];refine zT ?_;refine zT ?_;refine zG ?_ NT;refine zT ?_;refine zG ?_ MB;rw [RC];by_cases e:f= -1
    . rw [aaZ e]
      exact zF rfl (rD e)
    . rw [aae e]
      exact zT rfl (FQ e)
   by_cases e:f= -1
   . rw [aaZ e]
     exact ⟨_,D5 _ (aaZ e),l1,rfl,by omega⟩
   . rw [aae e]
     obtain ⟨o,ho,rfl⟩:=((hI.ctx q hq).fds f (afF hf)).resolve_left e;obtain ⟨l2,hv,Zf⟩:=OK hI hq q1 ho hf (l:=l1) (by omega);exact ⟨_,D5 _ ((aae e).trans ((aa hv).trans rfl)),l2,rfl,by omega⟩
 . obtain ⟨l1,rfl,MP⟩:=XF
   refine ⟨_, ?_,l1,rfl,by omega⟩;dsimp only [tV,eN];exact zF rfl (by rfl)
end
section
variable {x tl:Int} {u u':UT} {p:af} {o:ai} {l l':List ET} {e:ET}
structure Kids (v:Int) (ks:List af) (p:af) (u:UT):Prop where
 here:∀ q∈ks,q∈bE u
 nd:(ks.map aA).Nodup
 me:p∈bE u∧p.1=v
 all:∀ q∈bE u,gQ q=v→q∈ks
theorem XG {ks:List af} (h:aQ v tl u) (hk:Kids v (q::ks) p u):aQ v tl (qe v u q)∧Kids v ks p (qe v u q):=by
 have hq:=hk.here q (by simp);have hn:(aA q::ks.map aA).Nodup:=hk.nd;rw [aeP] at hn;have fE:∀ r∈ks,r.1≠q.1:=by grind [aA,List.mem_map_of_mem]
 have hpv:gQ q=v→q.1≠v:=λe e2=>by
  rcases (h.ctx q hq).par with e0|⟨e0,_⟩
  . have:=(h.ctx q hq).pid.1;omega
  grind
 unfold qe;split
 . rename_i hv
   have YW:=hpv hv;split
   . rename_i h6
     refine ⟨Inv.af2 h hq h6,λr hr=>jy.2 ⟨hk.here r (by simp [hr]),fE r hr⟩,hn.2,⟨jy.2 ⟨hk.me.1,λe=>YW (e.symm.trans hk.me.2)⟩,hk.me.2⟩,λr hr hrv=> ?_⟩;obtain ⟨hr,hrq⟩:=jy.1 hr;rcases adM.1 (hk.all r hr hrv) with rfl|hm
     . grind
     . exact hm
   . rename_i h6
     refine ⟨Inv.arK h hq h6,λr hr=>(bd h.df hq).2 (.inr ⟨hk.here r (by simp [hr]),fE r hr⟩),hn.2,⟨(bd h.df hq).2 (.inr ⟨hk.me.1,λe=>YW (e.symm.trans hk.me.2)⟩),hk.me.2⟩,λr hr hrv=> ?_⟩;rcases (bd h.df hq).1 hr with rfl|⟨hr,hrq⟩
     . have:(0:Int)=v:=hrv
       have h1:=(h.ctx p hk.me.1).pid.1;have h2:=hk.me.2;omega
     . rcases adM.1 (hk.all r hr hrv) with rfl|hm
       . grind
       . exact hm
 . rename_i hv
   refine ⟨h,λr hr=>hk.here r (by simp [hr]),hn.2,hk.me,λr hr hrv=> ?_⟩;rcases adM.1 (hk.all r hr hrv) with rfl|hm
   . grind
   . exact hm
theorem XH:∀ {ks:List af} {u:UT},aQ v tl u→Kids v ks p u→aQ v tl (gE v ks u)∧Kids v [] p (gE v ks u)
 |[],_,h,hk=>⟨h,hk⟩
 |_::ks,_,h,hk=>XH (ks:=ks) (XG h hk).1 (XG h hk).2
def ri (z:af):Int×Int×Int×Int×(Int×Unit×Unit)×Unit×Unit×Int×Int×Unit:=(z.1,z.2.1,z.2.2.1,z.2.2.2.1,(z.2.2.2.2.1.1,(),()),(),(),z.2.2.2.2.2.2.2.1,z.2.2.2.2.2.2.2.2.1,())
theorem NV {ks:List af} (h:aQ v tl u) (hk:Kids v ks p u) (hl:l.length≤99000) (hks:ks.length≤6):∃ l',aP mI aI ((v,code,0,()),((u.1,u.2.1,()),z2,ks.map ri,eN u l))=some ((v,code,()),(((gE v ks u).1,(gE v ks u).2.1,()),z2,eN (gE v ks u) l'))∧l'.length≤l.length+6:=by
 have hB:cj=9223372036854775807:=rfl;have BV:=BW (f:=mI) ks.length (λi s=>∃ u1 l1,s=((v,code,(i:Int),()),((u1.1,u1.2.1,()),z2,ks.map ri,eN u1 l1))∧l1.length≤l.length+i∧aQ v tl u1∧Kids v (ks.drop i) p u1∧gE v (ks.drop i) u1=gE v ks u)
  (Q:=λy=>∃ l',y=((v,code,()),(((gE v ks u).1,(gE v ks u).2.1,()),z2,eN (gE v ks u) l'))∧l'.length≤l.length+6) (λi hi s XF=> ?_) (λs XF=> ?_) (by omega) (s:=((v,code,0,()),((u.1,u.2.1,()),z2,ks.map ri,eN u l))) ⟨u,l,rfl,by omega,h,hk,rfl⟩
 . obtain ⟨y,h1,l',rfl,h2⟩:=BV
   simp_all
 . obtain ⟨u1,l1,rfl,MP,hI,hK,Fw⟩:=XF
   have hn:nth (ks.map ri) i=some (ri ks[i]):=by
    simp_all
   have hw:abs ((i:Int)+1)=((i+1:Nat):Int):=aq (by omega);have hlen:(ks.map ri).length=ks.length:=afh ..;rw [aeC hi] at hK Fw;have XJ:=XG hI hK;have Qh:gE v (ks.drop (i+1)) (qe v u1 ks[i])=gE v ks u:=Fw;have hq:=hK.here ks[i] List.mem_cons_self;generalize ks[i]=q at hn XJ Qh hq;have D5:∀ {u2:UT} {l2:List ET},qe v u1 q=u2→l2.length≤l.length+(i+1)→(mI ((v,code,(i:Int),()),((u1.1,u1.2.1,()),z2,ks.map ri,eN u1 l1))).eval=some (.again ((v,code,((i+1:Nat):Int),()),((u2.1,u2.2.1,()),z2,ks.map ri,eN u2 l2)))→∃ s',(mI ((v,code,(i:Int),()),((u1.1,u1.2.1,()),z2,ks.map ri,eN u1 l1))).eval=some (.again s')∧∃ u1 l1,s'=((v,code,((i+1:Nat):Int),()),((u1.1,u1.2.1,()),z2,ks.map ri,eN u1 l1))∧l1.length≤l.length+(i+1)∧aQ v tl u1∧Kids v (ks.drop (i+1)) p u1∧gE v (ks.drop (i+1)) u1=gE v ks u:=λe1 e2 e3=>⟨_,e3,_,_,rfl,e2,e1 ▸ XJ.1,e1 ▸ XJ.2,e1 ▸ Qh⟩
   have hc:decide (0≤(i:Int)∧(i:Int)<(((ks.map ri).length:Nat):Int))=true:=aac;by_cases hv:gQ q=v
   . by_cases h6:cU q=6
     . have e:qe v u1 q=gf (λps=>uN ps q.1) u1:=by unfold qe;rw [aaZ hv,aaZ h6]
       refine D5 e (l2:=l1++[eE 6 q.1 0 0]) (by rw [bC];omega) ?_;dsimp only [mI,eN];simp only [adu,hw];refine zT ?_;refine zT ?_ hc;refine zG ?_;refine zF ?_ (rD hv);refine zT ?_ hc;refine zG ?_;refine zT ?_ (dE h6);refine zT ?_ hc;refine zG ?_;refine zG ?_ rfl;refine (aa (fJ (u:=u1) (HG hI.df hq hI.np))).trans ?_;rfl
     . have e:qe v u1 q=dJ q.1 (NG 0) u1:=by unfold qe;rw [aaZ hv,aae h6]
       refine D5 e (l2:=l1++[eE 25 q.1 0 0]) (by rw [bC];omega) ?_;dsimp only [mI,eN];simp only [adu,hw];refine zT ?_;refine zT ?_ hc;refine zG ?_;refine zF ?_ (rD hv);refine zT ?_ hc;refine zG ?_;refine zF ?_ (fj h6);refine zT ?_ hc;refine zG ?_;refine zG ?_ rfl;refine (aa (fJ (u:=u1) (RB hI.df hq))).trans ?_;rfl
   . have e:qe v u1 q=u1:=by unfold qe;rw [aae hv]
     refine D5 e (l2:=l1) (by omega) ?_;dsimp only [mI,eN];simp only [adu,hw];refine zT ?_;refine zT ?_ hc;refine zG ?_;exact zT rfl (FQ hv)
 . obtain ⟨u1,l1,rfl,MP,hI,hK,Fw⟩:=XF
   have Qh:u1=gE v ks u:=by rw [← Fw,List.drop_length];rfl
   refine ⟨_, ?_,l1,rfl,by omega⟩;have hlen:(ks.map ri).length=ks.length:=afh ..;rw [← Qh];dsimp only [mI,eN];exact zF rfl (by grind)
theorem yC {f g:α→α} (hf:∀ x,key (f x)=key x) (a:List α):ca key (ca key a v f) v g=ca key a v λx=>g (f x):=by
 unfold ca;rw [agR];grind [List.map_congr_left]
end
section
variable {x tl:Int} {u u':UT} {p:af} {o:ai} {l l':List ET} {e:ET}
theorem D6 (_:aQ x tl u) (hp:p∈bE u) (h1:cU p=1):RE p.1 (gQ p) 0 u:=⟨p,hp,rfl,h1,rfl,λj hj=>by omega⟩
structure XK (v par:Int) (q:af) (u:UT):Prop where
 inv:aQ v tl u
 me:q∈bE u∧q.1=v
 st:cU q=1
 pr:gQ q=par
 mem:ct q=[]
 fds:∀ f∈aE q,f= -1
 kid:∀ r∈bE u,gQ r≠v
theorem as5 (h4:(aE q).length=4) (h:∀ j,j<4→(aE q)[j]? =some (-1)):∀ f∈aE q,f= -1:=λf hf=>by
 obtain ⟨j,hj,rfl⟩:=afM hf;have:=h j (by omega);grind
theorem uX (h:aQ 0 tl u) (hp:p∈bE u) (h1:cU p=1):∃ q∈bE (cq p.1 4 u),q.1=p.1∧cU q=1∧gQ q=gQ p∧(∀ f∈aE q,f= -1)∧aQ 0 tl (cq p.1 4 u)∧aQ p.1 tl (mB p.1 (cq p.1 4 u))∧Kids p.1 (bE (mB p.1 (cq p.1 4 u))) (ly [] q) (mB p.1 (cq p.1 4 u)):=by
 obtain ⟨hI,q,hq,YW,q1,q2,q3⟩:=zR (k:=4) (adK 4) h (D6 h hp h1);refine ⟨q,hq,YW,q1,q2,as5 (hI.loc q hq).fds q3,hI, ?_⟩;rw [← YW] at hI hq ⊢;have hD:aQ q.1 tl (mB q.1 (cq q.1 4 u)):=Inv.drop hI hq q1;exact ⟨hD,λr hr=>hr,hD.df.nodup,⟨(bd hI.df hq).2 (.inl rfl),rfl⟩,λr hr _=>hr⟩
theorem Qi (h:aQ 0 tl u) (hp:p∈bE u) (h1:cU p=1):∃ q,XK (tl:=tl) p.1 (gQ p) q (gE p.1 (bE (mB p.1 (cq p.1 4 u))) (mB p.1 (cq p.1 4 u))):=by
 obtain ⟨q,_,YW,q1,q2,q3,_,hD,hK⟩:=uX h hp h1;have hk:=XH hD hK;exact ⟨ly [] q,hk.1,hk.2.me,q1,q2,rfl,q3,λr hr e=>by cases hk.2.all r hr e⟩
theorem Qj (h:XK (tl:=tl) v par q u):Cc v code u=if par=0 then gf (λps=>uN ps v) (eJ (·.erase v) u)
  else match eO aA (bE (dJ v (λp=>gN code (nQ 6 0 p)) (eJ (·.erase v) u))) par with
   |none=>dJ v (λp=>gN code (nQ 6 0 p)) (eJ (·.erase v) u)
   |some q=>if cU q=3 then iU q.1 (dJ v (λp=>gN code (nQ 6 0 p)) (eJ (·.erase v) u)) else dJ v (λp=>gN code (nQ 6 0 p)) (eJ (·.erase v) u):=by
 unfold Cc;have e:=ee h.inv.df h.me.1;rw [show aA q=v from h.me.2] at e;rw [show eO aA (bE u) v=some q from e];simp only [h.pr]
 all_goals rfl
theorem XL (h:XK (tl:=tl) v par q u) (h0:par≠0) (hc:b9 code=true):aQ 0 tl (dJ v (λp=>gN code (nQ 6 0 p)) (eJ (·.erase v) u))∧
  ∃ r∈bE (dJ v (λp=>gN code (nQ 6 0 p)) (eJ (·.erase v) u)),r.1=par∧cU r≠6:=by
 obtain ⟨hI,⟨hq,rfl⟩,h1,rfl,hm,hf,hn⟩:=h;refine ⟨Inv.ajc hI hq h1 hm hf h0 hn hc, ?_⟩;rcases (hI.ctx q hq).par with e|⟨e,r,hr,e1,e2⟩
 . grind
 . exact ⟨r,(bd hI.df hq).2 (by grind),e1,e2⟩
theorem ape (h:XK (tl:=tl) v par q u) (hc:b9 code=true):aQ 0 tl (Cc v code u):=by
 rw [Qj h];split
 . obtain ⟨hI,⟨hq,rfl⟩,h1,_,hm,hf,hn⟩:=h
   exact Inv.gone hI hq h1 hf hn
 . rename_i h0
   obtain ⟨hZ,r,hr,rfl,r6⟩:=XL h h0 hc;have e:=ee hZ.df hr;rw [show eO aA (bE (dJ v (λp=>gN code (nQ 6 0 p)) (eJ (·.erase v) u))) r.1=some r from e];simp only;split
   . grind [Cd]
   . exact hZ
theorem D7 (h:aQ 0 tl u) (hp:p∈bE u) (h1:cU p=1) (hc:b9 code=true):aQ 0 tl (iD p.1 code u):=by
 obtain ⟨q,hL⟩:=Qi h hp h1;grind [iD,ape]
theorem Cf (h:aQ 0 tl u) (hp:p∈bE u) (h6:cU p≠6) (hc:b9 code=true):aQ 0 tl (nY p.1 code u):=by
 unfold nY;rw [show eO aA (bE u) p.1=some p from ee h.df hp];simp only;split
 . grind [D7]
 . rename_i h1
   have:=D7 (p:=nQ 1 0 p) (code:=code) (Cd h hp h6 h1) ((bd h.df hp).2 (.inl rfl)) rfl hc;rw [show (nQ 1 0 p).1=p.1 from rfl] at this;exact this
theorem RG (h:aQ x tl u):(oZ u).length≤1000:=adQ (uw h)
abbrev exJ (v code:Int) (u:UT) (l:List ET):=xK v code u.1 u.2.1 0 0 u.2.2.1 u.2.2.2.1 u.2.2.2.2.1 u.2.2.2.2.2.1 u.2.2.2.2.2.2.1 u.2.2.2.2.2.2.2.1 u.2.2.2.2.2.2.2.2.1 l [] [] [] [] [] [] [] []
def exT (v code:Int) (w:WT):Out ((WT×Unit)×(Unit×XI)):= .get (bz (w,eE 22 v 0 0,())) λ((nU,_),_)=> .ite (decide (0≤(al nU.2.2.2.1 v)∧(al nU.2.2.2.1 v)<((List.length nU.2.2.2.1:Nat):Int))) (.get (nth nU.2.2.2.1 (Int.toNat (al nU.2.2.2.1 v))) λy9=> .ite ((y9.2.1==0)) (.get (bz (nU,eE 6 v 0 0,())) λ((zO,_),_)=> .ret ((zO,()),((),(),(),()))) (.get (bz (nU,eE 3 v 6 0,())) λ((qi,_),_)=> .get (bz (qi,eE 26 v code 0,())) λ((ny,_),_)=> .ite (decide (0≤(al ny.2.2.2.1 y9.2.1)∧(al ny.2.2.2.1 y9.2.1)<((List.length ny.2.2.2.1:Nat):Int))) (.get (nth ny.2.2.2.1 (Int.toNat (al ny.2.2.2.1 y9.2.1))) λFl=> .ite ((Fl.2.2.1==3)) (.get (sk (ny,(y9.2.1,()),())) λ((vz,_),_)=> .ret ((vz,()),((),(),(),()))) (.ret ((ny,()),((),(),(),())))) .fail)) .fail
theorem apf (h:XK (tl:=tl) v par q u) (hc:b9 code=true) (hl:l.length≤99000):∃ l',(exT v code (iB u l)).eval=some ((iB (Cc v code u) l',()),((),(),(),()))∧l'.length≤l.length+5:=by
 rw [Qj h];have h':=h;obtain ⟨hI,⟨hq,rfl⟩,w1,rfl,wm,wf,wk⟩:=h;obtain ⟨nx,tk,pg,ps,os,pi,fi,rd,ou,_⟩:=u;have afu:=fJ (l:=l) (Bm (nx:=nx) (tk:=tk) (pg:=pg) (ps:=ps) (os:=os) (pi:=pi) (fi:=fi) (ou:=ou) (b:=0) (c:=0) (l:=[]) (hI.ready hq w1) (RG hI));obtain ⟨i,hi,ra,ln⟩:=bH hI.df hq;have dh:al ps q.1=(i:Int):=hi;have ue:nth ps i=some q:=ln;have ZB:i<ps.length:=ra;by_cases h0:gQ q=0
 . rw [aaZ h0]
   have apg:=fJ (l:=l++[eE 22 q.1 0 0]) (HG (nx:=nx) (tk:=tk) (pg:=pg) (os:=os) (pi:=pi) (fi:=fi) (rd:=rd.erase q.1) (ou:=ou) (b:=0) (c:=0) (l:=[]) hI.df hq hI.np) (by grind);refine ⟨l++[eE 22 q.1 0 0]++[eE 6 q.1 0 0], ?_,by grind⟩;unfold exT;refine zG ?_ afu;dsimp only;rw [dh];simp only [adu];refine zT ?_;refine zG ?_ ue;refine zT ?_ (dE h0);exact zG rfl apg
 . rw [aae h0]
   obtain ⟨hZ,r,hr,hrp,r6⟩:=XL h' h0 hc;have vP:=fJ (l:=l++[eE 22 q.1 0 0]) (D2 (nx:=nx) (tk:=tk) (pg:=pg) (os:=os) (pi:=pi) (fi:=fi) (rd:=rd.erase q.1) (ou:=ou) (b:=6) (c:=0) (l:=[]) hI.df hq) (by grind);have uc:bZ aA (bY ps q.1 (nQ 6 0)):=eA hI.df λ_ _ _=>rfl;have hm2:nQ 6 0 q∈bY ps q.1 (nQ 6 0):=(bd hI.df hq).2 (.inl rfl);have as7:=fJ (l:=l++[eE 22 q.1 0 0]++[eE 3 q.1 6 0]) (acY (nx:=nx) (tk:=tk) (pg:=pg) (os:=os) (pi:=pi) (fi:=fi) (rd:=rd.erase q.1) (ou:=ou) (b:=code) (c:=0) (l:=[]) uc hm2) (by rw [bC,bC];omega);have huu:bY (bY ps q.1 (nQ 6 0)) q.1 (gN code)=bY ps q.1 (λp=>gN code (nQ 6 0 p)):=yC (key:=aA) (f:=nQ 6 0) (g:=gN code) (λ_=>rfl) _;have hco:=as7.trans (congrArg (λz=>some ((iB (nx,tk,pg,z,os,pi,fi,rd.erase q.1,ou,()) (l++[eE 22 q.1 0 0]++[eE 3 q.1 6 0]++[eE 26 q.1 code 0]),()),((),(),()))) huu);obtain ⟨j,hj,hjl,hjn⟩:=bH hZ.df hr;have NS:al (bY ps q.1 (λp=>gN code (nQ 6 0 p))) q.2.1=(j:Int):=by rw [show q.2.1=r.1 from hrp.symm];exact hj
   have NT:nth (bY ps q.1 (λp=>gN code (nQ 6 0 p))) j=some r:=hjn;have aln:j<(bY ps q.1 (λp=>gN code (nQ 6 0 p))).length:=hjl;have hlk:eO aA (bY ps q.1 (λp=>gN code (nQ 6 0 p))) (gQ q)=some r:=by rw [← hrp];exact ee hZ.df hr
   rw [show eO aA (bE (dJ q.1 (λp=>gN code (nQ 6 0 p)) (eJ (·.erase q.1) (nx,tk,pg,ps,os,pi,fi,rd,ou,())))) (gQ q)=some r from hlk];simp only;have hhd:∀ z,(Out.ite ((cU r==3)) (.get (sk (iB (nx,tk,pg,bY ps q.1 (λp=>gN code (nQ 6 0 p)),os,pi,fi,rd.erase q.1,ou,()) (l++[eE 22 q.1 0 0]++[eE 3 q.1 6 0]++[eE 26 q.1 code 0]),(q.2.1,()),())) λ((vz,_),_)=> .ret ((vz,()),((),(),(),()))) (.ret ((iB (nx,tk,pg,bY ps q.1 (λp=>gN code (nQ 6 0 p)),os,pi,fi,rd.erase q.1,ou,()) (l++[eE 22 q.1 0 0]++[eE 3 q.1 6 0]++[eE 26 q.1 code 0]),()),((),(),(),())))).eval=z→(exT q.1 code (iB (nx,tk,pg,ps,os,pi,fi,rd,ou,()) l)).eval=z:=λz hz=>by
    rw [← hz];unfold exT;refine zG ?_ afu;dsimp only;rw [dh];simp only [adu];refine zT ?_;refine zG ?_ ue;refine zF ?_ (fj h0);refine zG ?_ vP;refine zG ?_ hco;dsimp only;rw [NS];simp only [adu];refine zT ?_;exact zG rfl NT
   by_cases h3:cU r=3
   . rw [aaZ h3]
     have hw:=H6 (u:=(nx,tk,pg,bY ps q.1 (λp=>gN code (nQ 6 0 p)),os,pi,fi,rd.erase q.1,ou,())) hZ hr (by omega) (l:=l++[eE 22 q.1 0 0]++[eE 3 q.1 6 0]++[eE 26 q.1 code 0]) (by rw [bC,bC,bC];omega);rw [show r.1=q.2.1 from hrp] at hw ⊢;exact ⟨_,hhd _ ((ab (dE h3)).trans ((aa hw).trans rfl)),by rw [bC,bC,bC,bC,bC];omega⟩
   . rw [aae h3]
     exact ⟨_,hhd _ ((ae (fj h3)).trans rfl),by rw [bC,bC,bC];omega⟩
theorem alq (h:bZ aA (bE u)) (hp:p∈bE u) (hl:l.length≤99990):bz (iB u l,eE 5 p.1 0 0,())=some ((iB (mB p.1 u) (l++[eE 5 p.1 0 0]),()),((),(),())):=by
 obtain ⟨nx,tk,pg,ps,os,pi,fi,rd,ou,_⟩:=u;exact fJ (acX h hp)
theorem D8 (h:aQ 0 tl u) (hp:p∈bE u) (h1:cU p=1) (hc:b9 code=true) (hl:l.length≤98000):∃ l',(exJ p.1 code u l).eval=some ((iB (iD p.1 code u) l',()),((),(),(),()))∧l'.length≤l.length+80:=by
 have hL:bn=68719476736:=rfl;obtain ⟨l1,e1,MP⟩:=NU (code:=code) h (D6 h hp h1) (l:=l) (by omega);obtain ⟨q,hq,YW,q1,q2,q3,hI,hD,hK⟩:=uX h hp h1;have QO:(bE (mB p.1 (cq p.1 4 u))).length≤6:=hD.np;have afv:=alq hI.df hq (l:=l1) (by omega);rw [YW] at afv;obtain ⟨l2,e2,Zf⟩:=NV (code:=code) hD hK (l:=l1++[eE 5 p.1 0 0]) (by grind) QO;obtain ⟨q',api⟩:=Qi h hp h1;rw [bC] at Zf;obtain ⟨l3,e3,hl3⟩:=apf api hc (l:=l2) (by omega);unfold iD;generalize gE p.1 (bE (mB p.1 (cq p.1 4 u))) (mB p.1 (cq p.1 4 u))=w at*;generalize mB p.1 (cq p.1 4 u)=w2 at*;generalize cq p.1 4 u=w1 at*;refine ⟨l3, ?_,by omega⟩;rw [← e3];dsimp only [exJ,xK];refine zG ?_ e1;dsimp only;refine zG ?_ rfl;refine zG ?_ afv;refine (ab (aac (by
  simp only [afh,adC];exact adQ (Nat.add_le_add_left QO 0)))).trans ?_
 refine zG ?_ e2;dsimp only;refine zG ?_ rfl;rfl
theorem HX (h:aQ 0 tl u) (hp:p∈bE u) (h6:cU p≠6) (hc:b9 code=true) (hl:l.length≤97000):∃ l',zP (iB u l,(p.1,()),(code,()),())=some ((iB (nY p.1 code u) l',()),((),(),(),()))∧l'.length≤l.length+90:=by
 unfold nY;rw [show eO aA (bE u) p.1=some p from ee h.df hp];simp only;obtain ⟨i,hi,ra,ln⟩:=bH h.df hp;have dh:al (bE u) p.1=(i:Int):=hi;have ue:nth (bE u) (Int.toNat (i:Int))=some p:=by simp_all
 have ZB:i<(bE u).length:=ra;have hhd:∀ z,(Out.ite ((cU p != 1)) (.get (sk (iB u l,(p.1,()),())) λ((cC,_),_)=>xK p.1 code cC.1 cC.2.1 0 0 cC.2.2.1 cC.2.2.2.1 cC.2.2.2.2.1 cC.2.2.2.2.2.1 cC.2.2.2.2.2.2.1 cC.2.2.2.2.2.2.2.1 cC.2.2.2.2.2.2.2.2.1 cC.2.2.2.2.2.2.2.2.2.1 [] [] [] [] [] [] [] []) (exJ p.1 code u l)).eval=z→zP (iB u l,(p.1,()),(code,()),())=z:=λz hz=>by
  rw [← hz];show Out.eval (I8 _)=_;dsimp only [I8,iB];show Out.eval (Out.ite (decide (0≤al (bE u) p.1∧al (bE u) p.1<(((bE u).length:Nat):Int))) (.get (nth (bE u) (Int.toNat (al (bE u) p.1))) _) _)=_;rw [dh];refine zT ?_;exact zG rfl ue
 by_cases h1:cU p=1
 . rw [aaZ h1]
   obtain ⟨l',e,hl'⟩:=D8 h hp h1 hc (l:=l) (by omega);exact ⟨l',by simp_all [ae],by omega⟩
 . rw [aae h1]
   have hw:=H6 h hp h1 (l:=l);have hm:nQ 1 0 p∈bE (iU p.1 u):=(bd h.df hp).2 (.inl rfl);obtain ⟨l',e,hl'⟩:=D8 (code:=code) (Cd h hp h6 h1) hm rfl hc (l:=Al p.1 l) (by rw [bC,bC];omega);rw [bC,bC] at hl';rw [show (nQ 1 0 p).1=p.1 from rfl] at e;generalize iD p.1 code (iU p.1 u)=w at*;generalize iU p.1 u=w1 at*;exact ⟨l',by simp_all [ab,FQ,aa],by omega⟩
end
end Go.Proofs.YtkmhgofibfmjfaaGreat.Dm
