/- f -/
import Derived.Test.YtkmhgofibfmjfaaGreatJ11
import Derived.Test.YtkmhgofibfmjfaaGreatJ10
import Derived.Test.YtkmhgofibfmjfaaGreatJ9
import Derived.Test.YtkmhgofibfmjfaaGreatJ5
namespace Go.Proofs.YtkmhgofibfmjfaaGreat.Dm
open Go Go.ChangeShapes Go.WideShapes Go.ChangeAt Go.RowKit
def arw:List (Nat×Ty):=[(24,(.sl (.fz cT))),(25,(.sl (.st (.cons (.int .i64) (.cons (.int .i64) (.cons (.int .i64) (.cons (.int .i64) (.cons dQ (.cons (.fz (.int .i64)) (.cons (.fz (.int .i64)) (.cons (.int .i64) (.cons (.int .i64) .nil)))))))))))),(27,(.sl dQ)),(28,(.sl dQ)),(30,(.st (.cons (.int .i64) (.cons (.int .i64) (.cons (.sl (.fz cT)) (.cons (.sl (.st (.cons (.int .i64) (.cons (.int .i64) (.cons (.int .i64) (.cons (.int .i64) (.cons dQ (.cons (.fz (.int .i64)) (.cons (.fz (.int .i64)) (.cons (.int .i64) (.cons (.int .i64) .nil))))))))))) (.cons (.sl eF) (.cons (.sl dQ) (.cons (.sl dQ) (.cons (.sl (.int .i64)) (.cons (.sl (.int .i64)) .nil))))))))))),(31,(.st (.cons (.int .i64) (.cons (.int .i64) (.cons (.sl (.fz cT)) (.cons (.sl (.st (.cons (.int .i64) (.cons (.int .i64) (.cons (.int .i64) (.cons (.int .i64) (.cons dQ (.cons (.fz (.int .i64)) (.cons (.fz (.int .i64)) (.cons (.int .i64) (.cons (.int .i64) .nil))))))))))) (.cons (.sl eF) (.cons (.sl dQ) (.cons (.sl dQ) (.cons (.sl (.int .i64)) (.cons (.sl (.int .i64)) .nil))))))))))),(54,dQ),(55,dQ),(56,(.st (.cons (.int .i64) (.cons (.int .i64) (.cons (.int .i64) (.cons (.int .i64) (.cons dQ (.cons (.fz (.int .i64)) (.cons (.fz (.int .i64)) (.cons (.int .i64) (.cons (.int .i64) .nil))))))))))),(57,(.st (.cons (.int .i64) (.cons (.int .i64) (.cons (.int .i64) (.cons (.int .i64) (.cons dQ (.cons (.fz (.int .i64)) (.cons (.fz (.int .i64)) (.cons (.int .i64) (.cons (.int .i64) .nil))))))))))),(62,dQ),(63,dQ),(64,dQ),(65,dQ),(137,(.sl AX)),(138,(.st (.cons (.st (.cons (.int .i64) (.cons (.int .i64) (.cons (.sl (.fz cT)) (.cons (.sl (.st (.cons (.int .i64) (.cons (.int .i64) (.cons (.int .i64) (.cons (.int .i64) (.cons dQ (.cons (.fz (.int .i64)) (.cons (.fz (.int .i64)) (.cons (.int .i64) (.cons (.int .i64) .nil))))))))))) (.cons (.sl eF) (.cons (.sl dQ) (.cons (.sl dQ) (.cons (.sl (.int .i64)) (.cons (.sl (.int .i64)) .nil)))))))))) (.cons (.sl AX) .nil)))),(139,(.st (.cons (.st (.cons (.int .i64) (.cons (.int .i64) (.cons (.sl (.fz cT)) (.cons (.sl (.st (.cons (.int .i64) (.cons (.int .i64) (.cons (.int .i64) (.cons (.int .i64) (.cons dQ (.cons (.fz (.int .i64)) (.cons (.fz (.int .i64)) (.cons (.int .i64) (.cons (.int .i64) .nil))))))))))) (.cons (.sl eF) (.cons (.sl dQ) (.cons (.sl dQ) (.cons (.sl (.int .i64)) (.cons (.sl (.int .i64)) .nil)))))))))) (.cons (.sl AX) .nil)))),(159,AX),(160,AX)]++Se
theorem Z8:JN Tryz.prog arw=true:=by kernel_rfl
abbrev ahK:=(t6×Unit)×(b17×Unit)
def Iq:t17×Unit→Out ahK
|(a0,_)=> .get (ff a0.1 a0.2.1 a0.2.2.1 (4:Int)) λy1=> .get (ff a0.1 y1.2.1.1 y1.2.1.2.1 (4:Int)) λy2=> .get (ff a0.1 y2.2.1.1 y2.2.1.2.1 (12:Int)) λy3=> .ite ((y3.1.1.1==(0:Int))) (.get (uC a0.1 y3.2.1.1 y3.2.1.2.1 ([(0:Int),(1:Int),(2:Int),(3:Int),(4:Int),(7:Int),(-1:Int),(9:Int)]:List Int)) λy5=> .ret ((((1:Int),y1.1.1.1,y5.1.1.1,(0:Int),()),()),((y5.2.1.1,y5.2.1.2.1,()),()))) (.ite ((y3.1.1.1==(1:Int))) (.get (uC a0.1 y3.2.1.1 y3.2.1.2.1 ([(0:Int),(1:Int),(2:Int),(3:Int),(4:Int),(7:Int),(-1:Int),(9:Int)]:List Int)) λy6=> .ret ((((1:Int),y1.1.1.1,y6.1.1.1,(0:Int),()),()),((y6.2.1.1,y6.2.1.2.1,()),()))) (.ite ((y3.1.1.1==(2:Int))) (.get (uC a0.1 y3.2.1.1 y3.2.1.2.1 ([(0:Int),(1:Int),(2:Int),(3:Int),(4:Int),(7:Int),(-1:Int),(9:Int)]:List Int)) λy7=> .ret ((((1:Int),y1.1.1.1,y7.1.1.1,(0:Int),()),()),((y7.2.1.1,y7.2.1.2.1,()),()))) (.ite ((y3.1.1.1==(3:Int))) (.get (ff a0.1 y3.2.1.1 y3.2.1.2.1 (4:Int)) λy8=> .ret ((((2:Int),y1.1.1.1,y2.1.1.1,y8.1.1.1,()),()),((y8.2.1.1,y8.2.1.2.1,()),()))) (.ite ((y3.1.1.1==(4:Int))) (.get (ff a0.1 y3.2.1.1 y3.2.1.2.1 (4:Int)) λy9=> .ret ((((3:Int),y1.1.1.1,y2.1.1.1,y9.1.1.1,()),()),((y9.2.1.1,y9.2.1.2.1,()),()))) (.ite ((y3.1.1.1==(5:Int))) (.ret ((((4:Int),y1.1.1.1,y2.1.1.1,(0:Int),()),()),((y3.2.1.1,y3.2.1.2.1,()),()))) (.ite ((y3.1.1.1==(6:Int))) (.ret ((((5:Int),y1.1.1.1,y2.1.1.1,(0:Int),()),()),((y3.2.1.1,y3.2.1.2.1,()),()))) (.ite ((y3.1.1.1==(7:Int))) (.get (ff a0.1 y3.2.1.1 y3.2.1.2.1 (12:Int)) λF6=> .ret ((((6:Int),F6.1.1.1,(0:Int),(0:Int),()),()),((F6.2.1.1,F6.2.1.2.1,()),()))) (.ite ((y3.1.1.1==(8:Int))) (.get (ff a0.1 y3.2.1.1 y3.2.1.2.1 (12:Int)) λsX=> .ret ((((7:Int),y1.1.1.1,sX.1.1.1,(0:Int),()),()),((sX.2.1.1,sX.2.1.2.1,()),()))) (.get (ff a0.1 y3.2.1.1 y3.2.1.2.1 (17:Int)) λyY=> .ret ((((8:Int),(abs ((1:Int)+yY.1.1.1)),(0:Int),(0:Int),()),()),((yY.2.1.1,yY.2.1.2.1,()),())))))))))))
def UN (x:t17×Unit):=(Iq x).eval
def anM:bK:=dX 148 true [i17] [none] [i6] Iq
theorem Z9:anM.Ok acl:=ck jd [] [] [MD,k47] ⟨qo,UI,trivial⟩ (λ_=>none) Tryz.f148 [.cell 2 103] λx=>by kernel_rfl
abbrev ahL:=(t18×Unit)×(b17×Unit×Unit)
abbrev O7:=(Int×Unit)×(XE×List ar×Unit)
def O8:O7→Out (Round O7 ((Unit)×(List ar×XE×Unit)) Empty)
|((p0,_),(p1,p2,p3,_),p4,_)=> .ite (decide (p0>(0:Int))) (.get (UN ((p1,p2,p3,()),())) λ((fC,_),(y1A,_))=> .ite (decide (List.length p4+List.length ([fC]:List ar)≤bn)) (.ret (.again (((abs (p0 - (1:Int))),()),((p1,y1A.1,y1A.2.1,()),(p4++([fC]:List ar)),())))) .fail) (.ret (.out ((),(p4,(p1,p2,p3,()),()))))
def Ir:t17×t1×Unit→Out ahL
|(a0,a1,_)=> .get (ff a0.1 a0.2.1 a0.2.2.1 (abs (a1.1+(1:Int)))) λy1=> .get (aP O8 aI ((y1.1.1.1,()),((a0.1,y1.2.1.1,y1.2.1.2.1,()),([]:List ar),()))) λy2=> .ret (((y2.2.1,()),()),((y2.2.2.1.2.1,y2.2.2.1.2.2.1,()),(),()))
def UO (x:t17×t1×Unit):=(Ir x).eval
def ahM:Nat→Option au:=λn=>bw [(0,⟨⟨[.vptr 0 0]++dd 4++[.aR act, .i .i64]++dd 15,[(0, .var [.ro (.int .u8) (some 1), .i .i64, .i .i64]),(act, .arr cT)]⟩,⟨[.vptr 0 0]++dd 4++[.aR act]++dd 16,[(act, .arr cT),(0, .var [.ro (.int .u8) (some 1), .i .i64, .i .i64])]⟩,none,false⟩)] n
def anN:bK:=dX 123 true [i17,i1] [none,none] [i18] Ir
theorem aaa:anN.Ok acl:=ck jd [] [] [MD,anM] ⟨qo,Z9,trivial⟩ ahM Tryz.f123 [.tmp 4] λx=>by kernel_rfl
abbrev anO:=(t2×Unit)×(b17×Unit)
abbrev Np:=(List ar×List ar×List ar×Int×Unit)×(XE×List (List ar)×Unit)
def UP:Np→Out (Round Np ((Unit)×(List (List ar)×XE×Unit)) Empty)
|((p0,p1,p2,p3,_),(p4,p5,p6,_),p7,_)=> .ite (decide (p3>(0:Int))) (.get (ff p4 p5 p6 (5:Int)) λy1=> .ite ((y1.1.1.1==(0:Int))) (.ite (decide (List.length p7+List.length ([p0]:List (List ar))≤bn)) (.ret (.again ((p0,p1,p2,(abs (p3 - (1:Int))),()),((p4,y1.2.1.1,y1.2.1.2.1,()),(p7++([p0]:List (List ar))),())))) .fail) (.ite ((y1.1.1.1==(1:Int))) (.ite (decide (List.length p7+List.length ([p1]:List (List ar))≤bn)) (.ret (.again ((p0,p1,p2,(abs (p3 - (1:Int))),()),((p4,y1.2.1.1,y1.2.1.2.1,()),(p7++([p1]:List (List ar))),())))) .fail) (.ite ((y1.1.1.1==(2:Int))) (.ite (decide (List.length p7+List.length ([p2]:List (List ar))≤bn)) (.ret (.again ((p0,p1,p2,(abs (p3 - (1:Int))),()),((p4,y1.2.1.1,y1.2.1.2.1,()),(p7++([p2]:List (List ar))),())))) .fail) (.get (UO ((p4,y1.2.1.1,y1.2.1.2.1,()),((16:Int),()),())) λ((cC,_),(y2A,_))=> .ite (decide (List.length p7+List.length ([cC.1]:List (List ar))≤bn)) (.ret (.again ((p0,p1,p2,(abs (p3 - (1:Int))),()),((p4,y2A.1,y2A.2.1,()),(p7++([cC.1]:List (List ar))),())))) .fail)))) (.ret (.out ((),(p7,(p4,p5,p6,()),()))))
def O9:t17×Unit→Out anO
|(a0,_)=> .get (ff a0.1 a0.2.1 a0.2.2.1 (3:Int)) λy1=> .get (ff a0.1 y1.2.1.1 y1.2.1.2.1 (3:Int)) λy2=> .get (aP UP aI ((([((8:Int),(2:Int),(0:Int),(0:Int),()),((7:Int),(0:Int),(5:Int),(0:Int),()),((8:Int),(3:Int),(0:Int),(0:Int),()),((8:Int),(17:Int),(0:Int),(0:Int),()),((6:Int),(2:Int),(0:Int),(0:Int),()),((1:Int),(0:Int),(1:Int),(0:Int),()),((1:Int),(1:Int),(7:Int),(0:Int),()),((8:Int),(9:Int),(0:Int),(0:Int),()),((1:Int),(0:Int),(3:Int),(0:Int),()),((8:Int),(1:Int),(0:Int),(0:Int),())]:List ar),([((8:Int),(10:Int),(0:Int),(0:Int),()),((1:Int),(2:Int),(0:Int),(0:Int),()),((2:Int),(3:Int),(0:Int),(2:Int),()),((8:Int),(2:Int),(0:Int),(0:Int),()),((7:Int),(0:Int),(9:Int),(0:Int),()),((1:Int),(0:Int),(3:Int),(0:Int),()),((1:Int),(1:Int),(8:Int),(0:Int),()),((8:Int),(9:Int),(0:Int),(0:Int),()),((6:Int),(5:Int),(0:Int),(0:Int),()),((1:Int),(0:Int),(2:Int),(0:Int),()),((8:Int),(8:Int),(0:Int),(0:Int),()),((1:Int),(0:Int),(1:Int),(0:Int),()),((8:Int),(9:Int),(0:Int),(0:Int),()),((6:Int),(9:Int),(0:Int),(0:Int),())]:List ar),([((1:Int),(0:Int),y1.1.1.1,(0:Int),()),((1:Int),(1:Int),(1:Int),(0:Int),()),((8:Int),(6:Int),(0:Int),(0:Int),()),((2:Int),(3:Int),(0:Int),(2:Int),()),((1:Int),(1:Int),(5:Int),(0:Int),()),((8:Int),(9:Int),(0:Int),(0:Int),()),((8:Int),(11:Int),(0:Int),(0:Int),()),((8:Int),(5:Int),(0:Int),(0:Int),()),((1:Int),(0:Int),(2:Int),(0:Int),()),((8:Int),(12:Int),(0:Int),(0:Int),()),((8:Int),(15:Int),(0:Int),(0:Int),()),((1:Int),(0:Int),(1:Int),(0:Int),()),((8:Int),(16:Int),(0:Int),(0:Int),())]:List ar),(abs ((1:Int)+y2.1.1.1)),()),((a0.1,y2.2.1.1,y2.2.1.2.1,()),([]:List (List ar)),()))) λy3=> .ret (((y3.2.1,()),()),((y3.2.2.1.2.1,y3.2.2.1.2.2.1,()),()))
def aei (x:t17×Unit):=(O9 x).eval
def anP:Nat→Option au:=λn=>bw [(0,⟨⟨[.vptr 0 0, .dead, .dead, .ro cT none, .ro cT none, .ro cT none, .aR act, .i .i64]++dd 76,[(0, .var [.ro (.int .u8) (some 1), .i .i64, .i .i64]),(act, .arr (.fz cT))]⟩,⟨[.vptr 0 0]++dd 5++[.aR act]++dd 77,[(act, .arr (.fz cT)),(0, .var [.ro (.int .u8) (some 1), .i .i64, .i .i64])]⟩,none,false⟩)] n
def k81:bK:=dX 81 false [i17] [none] [i2] O9
theorem ahN:k81.Ok acl:=ck bR [267,527,784,2307] [(267,1),(527,1),(784,1),(2307,1)] [MD,anN] ⟨qo,aaa,trivial⟩ anP Tryz.f81 [.tmp 2] λx=>by kernel_rfl
abbrev anQ:=(t4×Unit)×(b17×Unit×Unit)
abbrev Nq:=(Int×Unit)×(XE×(Int×Int×Unit)×(Int×Int×Unit)×List (List ar)×List af×List ai×List ah×List ah×List Int×List Int×rV)
def UQ:Nq→Out (Round Nq ((Unit)×lw) Empty)
|((p0,_),(p1,p2,p3,_),(p4,p5,_),(p6,p7,_),p8,p9,bL,b8,cr,dc,cO,cn,cX,dz,dC,dP,eH,eC,_)=> .ite (decide (p0>(0:Int))) (.get (Gm p1 p2 p3 (8:Int)) λy1=> .ite y1.1.1.1 (.get (aef ((p6,p7,cn,cX,dz,dC,dP,eH,eC,()),())) λ((cC,_),_)=> .ret (.again (((abs (p0 - (1:Int))),()),((p1,y1.2.1.1,y1.2.1.2.1,()),(p4,p5,()),(cC.1,cC.2.1,()),p8,p9,bL,b8,cr,dc,cO,cC.2.2.1,cC.2.2.2.1,cC.2.2.2.2.1,cC.2.2.2.2.2.1,cC.2.2.2.2.2.2.1,cC.2.2.2.2.2.2.2.1,cC.2.2.2.2.2.2.2.2.1,())))) (.get (aee ((p6,p7,cn,cX,dz,dC,dP,eH,eC,()),())) λ((dW,_),_)=> .ret (.again (((abs (p0 - (1:Int))),()),((p1,y1.2.1.1,y1.2.1.2.1,()),(p4,p5,()),(dW.1,dW.2.1,()),p8,p9,bL,b8,cr,dc,cO,dW.2.2.1,dW.2.2.2.1,dW.2.2.2.2.1,dW.2.2.2.2.2.1,dW.2.2.2.2.2.2.1,dW.2.2.2.2.2.2.2.1,dW.2.2.2.2.2.2.2.2.1,()))))) (.ret (.out ((),((p4,p5,()),(p6,p7,()),p8,p9,bL,b8,cr,dc,cO,cn,cX,dz,dC,dP,eH,eC,(p1,p2,p3,()),()))))
def Pa:t17×t1×Unit→Out anQ
|(a0,a1,_)=> .get (aei (a0,())) λ((fC,_),(y1A,_))=> .get (aeg (fC,())) λ((cC,_),_)=> .get (ff a0.1 y1A.1 y1A.2.1 a1.1) λy3=> .get (aP UQ aI ((y3.1.1.1,()),((a0.1,y3.2.1.1,y3.2.1.2.1,()),((0:Int),(0:Int),()),(cC.1,cC.2.1,()),([]:List (List ar)),([]:List af),([]:List ai),([]:List ah),([]:List ah),([]:List Int),([]:List Int),cC.2.2.1,cC.2.2.2.1,cC.2.2.2.2.1,cC.2.2.2.2.2.1,cC.2.2.2.2.2.2.1,cC.2.2.2.2.2.2.2.1,cC.2.2.2.2.2.2.2.2.1,()))) λ(_,_,(Rf,Rg,_),_,_,_,_,_,_,_,Rh,Ri,UR,US,UU,UW,UX,(_,arx,ary,_),_)=> .get (UD ((Rf,Rg,Rh,Ri,UR,US,UU,UW,UX,()),())) λ((kJ,_),_)=> .ret ((kJ,()),((arx,ary,()),(),()))
def UY (x:t17×t1×Unit):=(Pa x).eval
def anR:Nat→Option au:=λn=>bw [(0,⟨⟨[.vptr 0 0, .dead, .dead, .dead, .vptr act 0, .vptr adc 0, .dead, .i .i64]++dd 21,[(0, .var [.ro (.int .u8) (some 1), .i .i64, .i .i64]),(act, .var [.i .i64, .i .i64, .aR aig, .aR alH, .aR alI, .aR alK, .aR alQ, .aR alV, .aR ama]),(adc, .var [.i .i64, .i .i64, .aR amb, .aR amc, .aR amd, .aR ame, .aR amf, .aR amg, .aR amh]),(aig, .arr (.fz cT)),(alH, .arr mX),(alI, .arr eF),(alK, .arr dQ),(alQ, .arr dQ),(alV, .arr (.int .i64)),(ama, .arr (.int .i64)),(amb, .arr (.fz cT)),(amc, .arr mX),(amd, .arr eF),(ame, .arr dQ),(amf, .arr dQ),(amg, .arr (.int .i64)),(amh, .arr (.int .i64))]⟩,⟨[.vptr 0 0, .dead, .dead, .dead, .vptr act 0, .vptr adc 0]++dd 23,[(act, .var [.i .i64, .i .i64, .aR aig, .aR alH, .aR alI, .aR alK, .aR alQ, .aR alV, .aR ama]),(adc, .var [.i .i64, .i .i64, .aR amb, .aR amc, .aR amd, .aR ame, .aR amf, .aR amg, .aR amh]),(aig, .arr (.fz cT)),(alH, .arr mX),(alI, .arr eF),(alK, .arr dQ),(alQ, .arr dQ),(alV, .arr (.int .i64)),(ama, .arr (.int .i64)),(amb, .arr (.fz cT)),(amc, .arr mX),(amd, .arr eF),(ame, .arr dQ),(amf, .arr dQ),(amg, .arr (.int .i64)),(amh, .arr (.int .i64)),(0, .var [.ro (.int .u8) (some 1), .i .i64, .i .i64])]⟩,none,false⟩)] n
def k36:bK:=dX 36 false [i17,i1] [none,none] [i4] Pa
theorem UZ:k36.Ok acl:=ck bR [258] [(258,1)] [k81,k80,MD,k37,k82,k83,anS] ⟨ahN,ahx,qo,No,ahw,ahv,aab,trivial⟩ anR Tryz.f36 [.cell 4 31] λx=>by kernel_rfl
abbrev aej:=(t5×Unit)×(b17×Unit×Unit)
def Is (v0:Int) (v1:List Int) (v2 v3 v4 v5:Int) (v6:List (List ar)) (v7:List af) (v8:List ai) (v9 v10:List ah) (v11 v12:List Int):Out (aej):= .get (ff v1 v2 v3 (12:Int)) λy4=> .ite ((y4.1.1.1==(0:Int))) (.get (uC v1 y4.2.1.1 y4.2.1.2.1 ([(0:Int),(1:Int),(100000:Int),(100001:Int)]:List Int)) λy5=> .ret (((y5.1.1.1,v5,v6,v7,v8,v9,v10,v11,v12,()),()),((y5.2.1.1,y5.2.1.2.1,()),(),()))) (.ite ((y4.1.1.1==(1:Int))) (.get (uC v1 y4.2.1.1 y4.2.1.2.1 ([(-1:Int),(9:Int),(1000000:Int),(1000001:Int)]:List Int)) λy6=> .ret (((v4,y6.1.1.1,v6,v7,v8,v9,v10,v11,v12,()),()),((y6.2.1.1,y6.2.1.2.1,()),(),()))) (.ite ((y4.1.1.1==(2:Int))) (.get (ff v1 y4.2.1.1 y4.2.1.2.1 (4:Int)) λy7=> .ite (decide (List.length v11+List.length ([y7.1.1.1]:List Int)≤bn)) (.ret (((v4,v5,v6,v7,v8,v9,v10,(v11++([y7.1.1.1]:List Int)),v12,()),()),((y7.2.1.1,y7.2.1.2.1,()),(),()))) .fail) (.ite ((y4.1.1.1==(3:Int))) (.get (uC v1 y4.2.1.1 y4.2.1.2.1 ([(1000000:Int),(1000001:Int)]:List Int)) λy8=> .ite (decide (List.length v12+List.length ([y8.1.1.1]:List Int)≤bn)) (.ret (((v4,v5,v6,v7,v8,v9,v10,v11,(v12++([y8.1.1.1]:List Int)),()),()),((y8.2.1.1,y8.2.1.2.1,()),(),()))) .fail) (.ite ((y4.1.1.1==(4:Int))) (.get (ff v1 y4.2.1.1 y4.2.1.2.1 (9:Int)) λy9=> .get (ff v1 y9.2.1.1 y9.2.1.2.1 (6:Int)) λF6=> .get (ff v1 F6.2.1.1 F6.2.1.2.1 (3:Int)) λsX=> .ite (decide (List.length v8+List.length ([(y9.1.1.1,F6.1.1.1,sX.1.1.1,(0:Int),(0:Int),())]:List ai)≤bn)) (.ret (((v4,v5,v6,v7,(v8++([(y9.1.1.1,F6.1.1.1,sX.1.1.1,(0:Int),(0:Int),())]:List ai)),v9,v10,v11,v12,()),()),((sX.2.1.1,sX.2.1.2.1,()),(),()))) .fail) (.ite ((y4.1.1.1==(5:Int))) (.get (ff v1 y4.2.1.1 y4.2.1.2.1 (4:Int)) λyY=> .ite (decide (List.length v9+List.length ([(yY.1.1.1,([]:List Int),())]:List ah)≤bn)) (.ret (((v4,v5,v6,v7,v8,(v9++([(yY.1.1.1,([]:List Int),())]:List ah)),v10,v11,v12,()),()),((yY.2.1.1,yY.2.1.2.1,()),(),()))) .fail) (.ite ((y4.1.1.1==(6:Int))) (.get (ff v1 y4.2.1.1 y4.2.1.2.1 (8:Int)) λy13=> .ite (decide (List.length v10+List.length ([(y13.1.1.1,([(1:Int)]:List Int),())]:List ah)≤bn)) (.ret (((v4,v5,v6,v7,v8,v9,(v10++([(y13.1.1.1,([(1:Int)]:List Int),())]:List ah)),v11,v12,()),()),((y13.2.1.1,y13.2.1.2.1,()),(),()))) .fail) (.ite ((y4.1.1.1==(7:Int))) (.ite (decide (((List.length v7:Nat):Int)>(0:Int))) (.get (ff v1 y4.2.1.1 y4.2.1.2.1 (8:Int)) λy14=> .ite (decide (0≤v0∧v0<((List.length v7:Nat):Int))) (.get (nth v7 (Int.toNat v0)) λy15=> .ret (((v4,v5,v6,(List.set v7 (Int.toNat v0) (y15.1,(y15.2.1,(y14.1.1.1,y15.2.2.2)))),v8,v9,v10,v11,v12,()),()),((y14.2.1.1,y14.2.1.2.1,()),(),()))) .fail) (.ret (((v4,v5,v6,v7,v8,v9,v10,v11,v12,()),()),((y4.2.1.1,y4.2.1.2.1,()),(),())))) (.ite ((y4.1.1.1==(8:Int))) (.ite (decide (((List.length v7:Nat):Int)>(0:Int))) (.ite (decide (0≤v0∧v0<((List.length v7:Nat):Int))) (.get (nth v7 (Int.toNat v0)) λFl=> .get (uC v1 y4.2.1.1 y4.2.1.2.1 ([(1:Int),(4:Int),(8:Int)]:List Int)) λy17=> .get (uu ((y17.1.1.1,()),())) λ((wS,_),_)=> .ite (decide (List.length Fl.2.2.2.2.2.1+List.length wS.1≤bn)) (.ite (decide (0≤v0∧v0<((List.length v7:Nat):Int))) (.ite ((Int.toNat v0)==(Int.toNat v0)) (.get (nth v7 (Int.toNat v0)) λy19=> .ret (((v4,v5,v6,(List.set v7 (Int.toNat v0) (y19.1,(y19.2.1,(y19.2.2.1,(y19.2.2.2.1,(y19.2.2.2.2.1,((Fl.2.2.2.2.2.1++wS.1),y19.2.2.2.2.2.2))))))),v8,v9,v10,v11,v12,()),()),((y17.2.1.1,y17.2.1.2.1,()),(),()))) .fail) .fail) .fail) .fail) (.ret (((v4,v5,v6,v7,v8,v9,v10,v11,v12,()),()),((y4.2.1.1,y4.2.1.2.1,()),(),())))) (.ite ((y4.1.1.1==(9:Int))) (.ite (decide (((List.length v7:Nat):Int)>(0:Int))) (.ite (decide (0≤v0∧v0<((List.length v7:Nat):Int))) (.get (nth v7 (Int.toNat v0)) λU0=> .get (ff v1 y4.2.1.1 y4.2.1.2.1 (4:Int)) λy21=> .get (ff v1 y21.2.1.1 y21.2.1.2.1 (5:Int)) λy22=> .ite (decide (0≤y21.1.1.1∧y21.1.1.1<((List.length U0.2.2.2.2.2.2.1:Nat):Int))) (.get (nth U0.2.2.2.2.2.2.1 (Int.toNat y21.1.1.1)) λy23=> .ret (((v4,v5,v6,(List.set v7 (Int.toNat v0) (U0.1,(U0.2.1,(U0.2.2.1,(U0.2.2.2.1,(U0.2.2.2.2.1,(U0.2.2.2.2.2.1,((List.set U0.2.2.2.2.2.2.1 (Int.toNat y21.1.1.1) (abs (y22.1.1.1 - (1:Int)))),U0.2.2.2.2.2.2.2)))))))),v8,v9,v10,v11,v12,()),()),((y22.2.1.1,y22.2.1.2.1,()),(),()))) .fail) .fail) (.ret (((v4,v5,v6,v7,v8,v9,v10,v11,v12,()),()),((y4.2.1.1,y4.2.1.2.1,()),(),())))) (.ite ((y4.1.1.1==(10:Int))) (.ite (decide (((List.length v7:Nat):Int)>(0:Int))) (.get (ff v1 y4.2.1.1 y4.2.1.2.1 (4:Int)) λy24=> .ite (decide (0≤v0∧v0<((List.length v7:Nat):Int))) (.get (nth v7 (Int.toNat v0)) λy25=> .ret (((v4,v5,v6,(List.set v7 (Int.toNat v0) (y25.1,(y24.1.1.1,y25.2.2))),v8,v9,v10,v11,v12,()),()),((y24.2.1.1,y24.2.1.2.1,()),(),()))) .fail) (.ret (((v4,v5,v6,v7,v8,v9,v10,v11,v12,()),()),((y4.2.1.1,y4.2.1.2.1,()),(),())))) (.ite (decide (((List.length v7:Nat):Int)>(0:Int))) (.ite (decide (0≤v0∧v0<((List.length v7:Nat):Int))) (.get (nth v7 (Int.toNat v0)) λy26=> .ite (decide (List.length (List.set v7 (Int.toNat v0) y26)+List.length ([y26]:List af)≤bn)) (.ret (((v4,v5,v6,((List.set v7 (Int.toNat v0) y26)++([y26]:List af)),v8,v9,v10,v11,v12,()),()),((y4.2.1.1,y4.2.1.2.1,()),(),()))) .fail) .fail) (.ret (((v4,v5,v6,v7,v8,v9,v10,v11,v12,()),()),((y4.2.1.1,y4.2.1.2.1,()),(),()))))))))))))))
def Pb:t17×t1×Unit→Out aej
|(a0,a1,_)=> .get (UY (a0,a1,())) λ((fC,_),(y1A,_))=> .get (Gm a0.1 y1A.1 y1A.2.1 (8:Int)) λy2=> .ite (!y2.1.1.1) (.ret ((fC,()),((y2.2.1.1,y2.2.1.2.1,()),(),()))) (.ite (decide (((List.length fC.2.2.2.1:Nat):Int)>(0:Int))) (.get (ff a0.1 y2.2.1.1 y2.2.1.2.1 ((List.length fC.2.2.2.1:Nat):Int)) λy3=>
 Is y3.1.1.1 a0.1 y3.2.1.1 y3.2.1.2.1 fC.1 fC.2.1 fC.2.2.1 fC.2.2.2.1 fC.2.2.2.2.1 fC.2.2.2.2.2.1 fC.2.2.2.2.2.2.1 fC.2.2.2.2.2.2.2.1 fC.2.2.2.2.2.2.2.2.1) (Is (0:Int) a0.1 y2.2.1.1 y2.2.1.2.1 fC.1 fC.2.1 fC.2.2.1 fC.2.2.2.1 fC.2.2.2.2.1 fC.2.2.2.2.2.1 fC.2.2.2.2.2.2.1 fC.2.2.2.2.2.2.2.1 fC.2.2.2.2.2.2.2.2.1))
def aem (x:t17×t1×Unit):=(Pb x).eval
def k13:bK:=dX 13 false [i17,i1] [none,none] [i5] Pb
theorem ahO:k13.Ok acl:=ck Z8 [5893] [(2310,4),(2311,1),(5893,1)] [k36,k37,MD,k47,k48] ⟨UZ,No,qo,UI,Im,trivial⟩ (λ_=>none) Tryz.f13 [.cell 4 31] λx=>by kernel_rfl
section
variable {b:List Int} {i h:Int}
theorem ik1 {r v:Int} (hr:FT r) (hv: -1000000≤v∧v≤1000000):du (1,r,v,0,())=true:=by grind [du,gg,eT,dL]
theorem ik2 {r q s:Int} (hr:FT r) (hq:FT q) (hs:FT s):du (2,r,q,s,())=true∧du (3,r,q,s,())=true:=by grind [du,gg,eT]
theorem ik4 {r q:Int} (hr:FT r) (hq:FT q):du (4,r,q,0,())=true∧du (5,r,q,0,())=true:=by grind [du,gg,eT]
theorem ik6 {v:Int} (hv:0≤v∧v≤40):du (6,v,0,0,())=true:=by grind [du,gg,dL]
theorem ik7 {r v:Int} (hr:FT r) (hv:0≤v∧v≤40):du (7,r,v,0,())=true:=by grind [du,gg,eT,dL]
theorem ik8 {v:Int} (hv:1≤v∧v≤20):du (8,v,0,0,())=true:=by grind [du,gg,dL]
theorem aad (hb:b.length≤cj) (hi:0≤i):iq (UN ((b,i,h,()),())) λy=>du y.1.1=true∧0≤y.2.1.1:=by
 show iq (Out.eval (Iq _)) _;dsimp only [Iq];refine aS (bI hb hi) λy hy=>aS (bI hb hy.2) λz hz=>aS (bI hb hz.2) λu hu=> ?_;have r1:FT y.1.1.1:=by grind
 have r2:FT z.1.1.1:=by grind
 have pk:∀ v:Int,v∈[(0:Int),1,2,3,4,7, -1,9]→ -1000000≤v∧v≤1000000:=by simp_all
 refine bx (λ_=>aS (nj hb hu.2 (by decide)) (by grind [aX,ik1])) λ_=> ?_;refine bx (λ_=>aS (nj hb hu.2 (by decide)) (by grind [aX,ik1])) λ_=> ?_;refine bx (λ_=>aS (nj hb hu.2 (by decide)) (by grind [aX,ik1])) λ_=> ?_;refine bx (λ_=>aS (bI hb hu.2) (by grind [aX,ik2])) λ_=> ?_;refine bx (λ_=>aS (bI hb hu.2) (by grind [aX,ik2])) λ_=> ?_;refine bx (by grind [aX,ik4]) λ_=>bx (by grind [aX,ik4]) λ_=> ?_;refine bx (λ_=>aS (bI hb hu.2) (by grind [aX,ik6])) λ_=> ?_;refine bx (λ_=>aS (bI hb hu.2) (by grind [aX,ik7])) λ_=> ?_;refine aS (bI hb hu.2) λv hv=>aX ⟨?_,hv.2⟩;grind [bt,ik8]
theorem ami {p:List ar} {x:ar} (hp:p.all du=true) (hx:du x=true):(p++[x]).all du=true:=by grind
theorem Rj (hb:b.length≤cj) (hi:0≤i):iq (UO ((b,i,h,()),(16,()),())) λy=>bm y.1.1.1=true∧0≤y.2.1.1:=by
 show iq (Out.eval (Ir _)) _;dsimp only [Ir];refine aS (bI hb hi) λy hy=> ?_;have h1:=hy.1.1;have h2:y.1.1.1<17:=hy.1.2.1 (by decide);refine aS (P:=λx=>(x.2.1.length≤16∧x.2.1.all du=true)∧0≤x.2.2.1.2.1) (mP (λx=>x.2.1.1=b∧0≤x.1.1∧0≤x.2.1.2.1∧(x.2.2.1.length:Int)+x.1.1≤16∧x.2.2.1.all du=true) (λx=>x.1.1.toNat) _ (λx hx=> ?_) _ _ ?_ ?_) λx hx=>aX ⟨?_,hx.2⟩
 . obtain ⟨⟨k,_⟩,⟨b',i,h,_⟩,out,_⟩:=x
   obtain ⟨e1,h1,h2,h3,h4⟩:=hx;simp only at e1 h1 h2 h3 h4;subst e1;dsimp only [O8];refine bx (λh4=> ?_) (λh4=>aX ?_)
   . have h4:k>0:=adR h4
     have w:abs (k - 1)=k - 1:=by grind [bt]
     refine aS (aad hb h2) λu hu=> ?_;obtain ⟨⟨ua,_⟩,⟨⟨ui,uh,_⟩,_⟩⟩:=u;refine dB (by grind) (aX ?_);exact ⟨by grind,by grind⟩
   . exact ⟨by grind,h2⟩
 . grind
 . grind
 . unfold bm
   grind
theorem Nr {g:List (List ar)} {x:List ar} (hg:g.all bm=true) (hx:bm x=true):(g++[x]).all bm=true:=by grind
theorem Rk (hb:b.length≤cj) (hi:0≤i):iq (aei ((b,i,h,()),())) λy=>cH y.1.1.1=true∧0≤y.2.1.1:=by
 show iq (Out.eval (O9 _)) _;dsimp only [O9];refine aS (bI hb hi) λy hy=>aS (bI hb hy.2) λz hz=> ?_;have h2:z.1.1.1<3:=hz.1.2.1 (by decide);have y2:y.1.1.1<3:=hy.1.2.1 (by decide);have w0:abs ((1:Int)+z.1.1.1)=1+z.1.1.1:=bt (by omega) (by omega);refine aS (P:=λx=>((1≤x.2.1.length∧x.2.1.length≤3)∧x.2.1.all bm=true)∧0≤x.2.2.1.2.1) (mP (λx=>(x.2.1.1=b∧0≤x.1.2.2.2.1∧0≤x.2.1.2.1∧(x.2.2.1.length:Int)+x.1.2.2.2.1≤3∧1≤(x.2.2.1.length:Int)+x.1.2.2.2.1)∧(bm x.1.1=true∧bm x.1.2.1=true∧bm x.1.2.2.1=true)∧x.2.2.1.all bm=true) (λx=>x.1.2.2.2.1.toNat) _ (λx hx=> ?_) _ _ ?_ ?_) λx hx=>aX ⟨?_,hx.2⟩
 . obtain ⟨⟨p1,p2,p3,k,_⟩,⟨b',i,h,_⟩,out,_⟩:=x
   obtain ⟨⟨e1,h1,h2,h3,h4⟩,⟨q1,q2,q3⟩,q4⟩:=hx;simp only at e1 h1 h2 h3 h4 q1 q2 q3 q4;subst e1;dsimp only [UP];refine bx (λh5=> ?_) (λh5=>aX ?_)
   . have h5:k>0:=adR h5
     have w:abs (k - 1)=k - 1:=bt (by omega) (by omega);have lim:∀ v:List ar,decide (List.length out+List.length ([v]:List (List ar))≤bn)=true:=λv=>aac (by rw [jQ];simp;omega);have fin:∀ (v:List ar) (i h:Int),bm v=true→0≤i→UE (λx:Np=>((x.2.1.1=b'∧0≤x.1.2.2.2.1∧0≤x.2.1.2.1∧(x.2.2.1.length:Int)+x.1.2.2.2.1≤3∧1≤(x.2.2.1.length:Int)+x.1.2.2.2.1)∧(bm x.1.1=true∧bm x.1.2.1=true∧bm x.1.2.2.1=true)∧x.2.2.1.all bm=true)∧x.1.2.2.2.1.toNat<k.toNat) (λx:(Unit)×(List (List ar)×XE×Unit)=>((1≤x.2.1.length∧x.2.1.length≤3)∧x.2.1.all bm=true)∧0≤x.2.2.1.2.1) (λ_:Empty=>False)
       (.again ((p1,p2,p3,abs (k - 1),()),((b',i,h,()),(out++([v]:List (List ar))),()))):=λv i h hv hi=>by
      refine ⟨⟨⟨rfl, ?_,hi, ?_, ?_⟩,⟨q1,q2,q3⟩,Nr q4 hv⟩, ?_⟩<;>simp only [w,aaY,aay,adC]<;>omega
     refine aS (bI hb h2) λu hu=>bx (λ_=>dB (lim _) (aX (fin _ _ _ q1 hu.2))) λ_=>bx (λ_=>dB (lim _) (aX (fin _ _ _ q2 hu.2))) λ_=>bx (λ_=>dB (lim _) (aX (fin _ _ _ q3 hu.2))) λ_=> ?_;refine aS (Rj hb hu.2) λv hv=> ?_;obtain ⟨⟨⟨va,_⟩,_⟩,⟨⟨vi,vh,_⟩,_⟩⟩:=v;exact dB (lim _) (aX (fin _ _ _ hv.1 hv.2))
   . have h5:¬ k>0:=akZ h5
     exact ⟨⟨⟨by simp only;omega,by simp only;omega⟩,q4⟩,h2⟩
 . have hf:du (1,0,y.1.1.1,0,())=true:=ik1 ⟨by decide,by decide⟩ (by omega)
   refine ⟨⟨rfl, ?_,hz.2, ?_, ?_⟩,⟨by rfl,by rfl, ?_⟩,rfl⟩
   . simp only [w0];omega
   . simp only [w0,adC];omega
   . grind
   . unfold bm
     simp only [aeB,hf];rfl
 . grind
 . unfold cH
   grind
end
section
variable {b:List Int} {i h:Int}
theorem aL.arC {pg:List (List ar)}:aL (KK pg):=⟨λp hp=>by
 rw [aey.1 hp];decide⟩
theorem lF {ρ α:Type} {o:Option α} {z:α} {k:α→Out ρ} {Q:ρ→Prop} (e:o=some z) (hk:iq (k z).eval Q):iq (Out.get o k).eval Q:=by subst e;exact hk
abbrev aen (x:Nq):UT:=(x.2.2.2.1.1,x.2.2.2.1.2.1,x.2.2.2.2.2.2.2.2.2.2.2.1,x.2.2.2.2.2.2.2.2.2.2.2.2.1,x.2.2.2.2.2.2.2.2.2.2.2.2.2.1,x.2.2.2.2.2.2.2.2.2.2.2.2.2.2.1,x.2.2.2.2.2.2.2.2.2.2.2.2.2.2.2.1,x.2.2.2.2.2.2.2.2.2.2.2.2.2.2.2.2.1,x.2.2.2.2.2.2.2.2.2.2.2.2.2.2.2.2.2.1,())
abbrev aeo:Type:=(Unit)×lw
abbrev aep (x:aeo):UT:=(x.2.2.1.1,x.2.2.1.2.1,x.2.2.2.2.2.2.2.2.2.2.1,x.2.2.2.2.2.2.2.2.2.2.2.1,x.2.2.2.2.2.2.2.2.2.2.2.2.1,x.2.2.2.2.2.2.2.2.2.2.2.2.2.1,x.2.2.2.2.2.2.2.2.2.2.2.2.2.2.1,x.2.2.2.2.2.2.2.2.2.2.2.2.2.2.2.1,x.2.2.2.2.2.2.2.2.2.2.2.2.2.2.2.2.1,())
theorem KO {n:Int} (hb:b.length≤cj) (hi:0≤i) (hn:n≤1000):iq (UY ((b,i,h,()),(n,()),())) λy=>(gU y.1.1∧aL y.1.1)∧0≤y.2.1.1:=by
 show iq (Out.eval (Pa _)) _;dsimp only [Pa];refine aS (Rk hb hi) λy hy=> ?_;obtain ⟨⟨⟨pg,_⟩,_⟩,⟨⟨ui,uh,_⟩,_⟩⟩:=y;obtain ⟨hp,hu⟩:=hy;refine lF (ahA.trans (by rw [aaZ hp])) ?_;refine aS (bI hb hu) λz hz=> ?_;have h2:z.1.1.1≤1000:=by
  by_cases q:0<n
  . have:=hz.1.2.1 q;omega
  . rw [hz.1.2.2 (by omega)];decide
 have hR:gU (KK pg)∧aL (KK pg):=⟨ahz hp,aL.arC⟩
 refine aS (P:=λx:aeo=>(gU (aep x)∧aL (aep x))∧0≤x.2.2.2.2.2.2.2.2.2.2.2.2.2.2.2.2.2.1.2.1) (mP (λx=>x.2.1.1=b∧0≤x.2.1.2.1∧x.1.1≤1000∧gU (aen x)∧aL (aen x)) (λx=>x.1.1.toNat) _ (λx hx=> ?_) _ _ ?_ ?_) λx hx=> ?_
 . obtain ⟨⟨k,_⟩,⟨b',i,h,_⟩,⟨d1,d2,_⟩,⟨nx,tk,_⟩,e1,e2,e3,e4,e5,e6,e7,pg,ps,os,pi,fi,rd,ou,_⟩:=x
   obtain ⟨e1,h2,hk,h3⟩:=hx;simp only at e1 h2 hk;have h3:gU (nx,tk,pg,ps,os,pi,fi,rd,ou,())∧aL (nx,tk,pg,ps,os,pi,fi,rd,ou,()):=h3;subst e1;dsimp only [UQ];refine bx (λh5=> ?_) (λh5=>aX ⟨h3,h2⟩);have h5:k>0:=adR h5;have w:abs (k - 1)=k - 1:=bt (by omega) (by omega);refine aS (C6 hb h2) λu hu=>bx (λ_=>lF (Z5 h3.1) ?_) λ_=>lF (ahy h3.1) ?_
   . exact aX ⟨⟨rfl,hu,by simp only [w];omega,⟨agD h3.1,h3.2.anr⟩⟩,by simp only [w];omega⟩
   . exact aX ⟨⟨rfl,hu,by simp only [w];omega,⟨amY h3.1,h3.2.run h3.1⟩⟩,by simp only [w];omega⟩
 . exact ⟨rfl,hz.2,h2,hR⟩
 . exact afb (show z.1.1.1.toNat≤1000 by omega) (by decide)
 . obtain ⟨_,⟨d1,d2,_⟩,⟨nx,tk,_⟩,e1,e2,e3,e4,e5,e6,e7,pg,ps,os,pi,fi,rd,ou,⟨b',i,h,_⟩,_⟩:=x
   obtain ⟨h3,h4⟩:=hx;have h3:gU (nx,tk,pg,ps,os,pi,fi,rd,ou,())∧aL (nx,tk,pg,ps,os,pi,fi,rd,ou,()):=h3;exact lF (Z4 h3.1) (aX ⟨h3,h4⟩)
end
section
variable {b:List Int} {i h:Int} {u:UT}
structure arD (nx tk:Int) (pg:List (List ar)) (ps:List af) (os:List ai) (pi fi:List ah) (rd ou:List Int):Prop where
 pg:cH pg=true
 np:ps.length≤7
 pr:∀ p∈ps,(ug p).2.1.length≤4∧(ct p).length≤20∧(aE p).length≤4∧mc p≤1000000
 os:os.length≤9
 np2:pi.length≤4
 pi:∀ y∈pi,y.2.1.length≤4
 nf:fi.length≤7
 fi:∀ y∈fi,y.2.1.length≤8
 rd:rd.length≤7
 ou:ou.length≤61
abbrev wT (u:UT):Prop:=arD u.1 u.2.1 u.2.2.1 u.2.2.2.1 u.2.2.2.2.1 u.2.2.2.2.2.1 u.2.2.2.2.2.2.1 u.2.2.2.2.2.2.2.1 u.2.2.2.2.2.2.2.2.1
theorem Da (h:gU u) (hU:aL u):wT u:=⟨h.uY,adQ h.np,λp hp=>by
 have hl:=h.loc p hp;exact ⟨agr (dt hl.pW).2.1,adQ hl.mem.1,agr hl.fds,hU.le p hp⟩,adQ (oY h),adQ (vU h),λy hy=>(h.uv y hy).data.1,adQ (Ak h),λy hy=>(lB h hy).1,adQ (uw h),adQ h.Fa.1⟩
theorem Db {α:Type} {a:List α} {x y:α} (h:y∈a++[x]):y∈a∨y=x:=by simpa using h
theorem aaf {n:Int} (h:n=1∨n=4∨n=8):∃ l:List Int,uu ((n,()),())=some (((l,()),()),((),()))∧l.length≤8:=by
 rcases h with rfl|rfl|rfl
 . exact ⟨[0],rfl,by decide⟩
 . exact ⟨[0,0,0,0],rfl,by decide⟩
 . exact ⟨[0,0,0,0,0,0,0,0],rfl,by decide⟩
theorem KP {nx tk k:Int} {pg:List (List ar)} {ps:List af} {os:List ai} {pi fi:List ah} {rd ou:List Int} (hb:b.length≤cj) (hi:0≤i) (hR:gU (nx,tk,pg,ps,os,pi,fi,rd,ou,())) (hU:aL (nx,tk,pg,ps,os,pi,fi,rd,ou,())) (hk:0≤k∧(0<ps.length→k<(ps.length:Nat))):
  iq (Is k b i h nx tk pg ps os pi fi rd ou).eval λy=>wT y.1.1∧0≤y.2.1.1:=by
 have hL:=jQ;have T:wT (nx,tk,pg,ps,os,pi,fi,rd,ou,()):=Da hR hU;have hps:ps.length≤6:=hR.np;have hos:os.length≤8:=oY hR;have uv:pi.length≤3:=vU hR;have AZ:fi.length≤6:=Ak hR;have HD:rd.length≤6:=uw hR;have Fa:ou.length≤60:=hR.Fa.1;have aag:0<ps.length→∃ p∈ps,nth ps k.toNat=some p∧(ug p).2.1.length=4∧(ct p).length≤12∧(aE p).length=4∧mc p≤1000000:=λh0=>by
  have:=hk.2 h0;have hm:ps[k.toNat]'(by omega)∈ps:=ad9 _;have hl:=hR.loc _ hm;exact ⟨_,hm,by grind,(dt hl.pW).2.1,hl.mem.1,hl.fds,hU.le _ hm⟩
 have KQ:∀ {p':af},((ug p').2.1.length≤4∧(ct p').length≤20∧(aE p').length≤4∧mc p'≤1000000)→wT (nx,tk,pg,ps.set k.toNat p',os,pi,fi,rd,ou,()):=λ{p'} MU=>by
  refine ⟨T.pg, ?_,λq hq=> ?_,T.os,T.np2,T.pi,T.nf,T.fi,T.rd,T.ou⟩
  . grind
  . rcases List.mem_or_eq_of_mem_set hq with e|e
    . exact T.pr q e
    grind
 have Gn:∀ {α:Type} (a:List α) (x:α),(a++[x]).length=a.length+1:=by grind
 dsimp only [Is];refine aS (bI hb hi) λy hy=> ?_;refine bx (λ_=>aS (nj hb hy.2 (by decide)) λz hz=>aX ⟨⟨T.pg,T.np,T.pr,T.os,T.np2,T.pi,T.nf,T.fi,T.rd,T.ou⟩,hz.2⟩) λ_=> ?_;refine bx (λ_=>aS (nj hb hy.2 (by decide)) λz hz=>aX ⟨⟨T.pg,T.np,T.pr,T.os,T.np2,T.pi,T.nf,T.fi,T.rd,T.ou⟩,hz.2⟩) λ_=> ?_;refine bx (λ_=>aS (bI hb hy.2) λz hz=>dB (aac (by simp only [aay,adC];omega)) (aX ⟨⟨T.pg,T.np,T.pr,T.os,T.np2,T.pi,T.nf,T.fi,by rw [Gn];omega,T.ou⟩,hz.2⟩)) λ_=> ?_;refine bx (λ_=>aS (nj hb hy.2 (by decide)) λz hz=>dB (aac (by simp only [aay,adC];omega)) (aX ⟨⟨T.pg,T.np,T.pr,T.os,T.np2,T.pi,T.nf,T.fi,T.rd,by rw [Gn];omega⟩,hz.2⟩)) λ_=> ?_;refine bx (λ_=>aS (bI hb hy.2) λz hz=>aS (bI hb hz.2) λz2 Y1=>aS (bI hb Y1.2) λz3 hz3=>dB (aac (by simp only [aay,adC];omega)) (aX ⟨⟨T.pg,T.np,T.pr,by rw [Gn];omega,T.np2,T.pi,T.nf,T.fi,T.rd,T.ou⟩,hz3.2⟩)) λ_=> ?_;refine bx (λ_=>aS (bI hb hy.2) λz hz=>dB (aac (by simp only [aay,adC];omega)) (aX ⟨⟨T.pg,T.np,T.pr,T.os,by rw [Gn];omega,λy hy=>(Db hy).elim (T.pi y) λe=>by rw [e];exact afI _,T.nf,T.fi,T.rd,T.ou⟩,hz.2⟩)) λ_=> ?_;refine bx (λ_=>aS (bI hb hy.2) λz hz=>dB (aac (by simp only [aay,adC];omega)) (aX ⟨⟨T.pg,T.np,T.pr,T.os,T.np2,T.pi,by rw [Gn];omega,λy hy=>(Db hy).elim (T.fi y) λe=>by rw [e];show 1≤8;omega,T.rd,T.ou⟩,hz.2⟩)) λ_=> ?_;have same:iq (Out.ret (((nx,tk,pg,ps,os,pi,fi,rd,ou,()),()),((y.2.1.1,y.2.1.2.1,()),(),()))).eval λy=>wT y.1.1∧0≤y.2.1.1:=aX ⟨T,hy.2⟩;by_cases h0:((ps.length:Nat):Int)>0
 case neg=>
  refine bx (λ_=>pb (adD h0) same) λ_=>bx (λ_=>pb (adD h0) same) λ_=>bx (λ_=>pb (adD h0) same) λ_=>bx (λ_=>pb (adD h0) same) λ_=>pb (adD h0) same
 obtain ⟨p,hp,hn,l1,l2,l3,l4⟩:=aag (by omega);have hkk:=hk.2 (by omega);have ln:decide (0≤k∧k<((ps.length:Nat):Int))=true:=aac ⟨hk.1,hkk⟩;have h0:decide (((ps.length:Nat):Int)>0)=true:=aac h0;refine bx (λ_=>dB h0 (aS (bI hb hy.2) λz hz=>dB ln (lF hn (aX ⟨KQ ⟨agr l1,by show (ct p).length≤20;omega,agr l3,l4⟩,hz.2⟩)))) λ_=> ?_;refine bx (λ_=>dB h0 (dB ln (lF hn (aS (nj hb hy.2 (by decide)) λz hz=> ?_)))) λ_=> ?_
 . obtain ⟨l,e,hl⟩:=aaf (n:=z.1.1.1) (by have:=hz.1;simp at this;omega)
   refine lF e (dB (aac (by show (ct p).length+l.length≤bn;omega)) (dB ln (dB (by simp) (lF hn (aX ⟨KQ ⟨agr l1, ?_,agr l3,l4⟩,hz.2⟩)))));show (ct p++l).length≤20;rw [aaY];omega
 refine bx (λ_=>dB h0 (dB ln (lF hn (aS (bI hb hy.2) λz hz=>aS (bI hb hz.2) λz2 Y1=> ?_)))) λ_=> ?_
 . have z0:=hz.1.1
   have z4:z.1.1.1<4:=hz.1.2.1 (by decide);refine dB (aac ⟨z0,by show z.1.1.1<(((aE p).length:Nat):Int);omega⟩) (lF (aa7 (show z.1.1.1.toNat<(aE p).length by omega)) (aX ⟨KQ ⟨agr l1,by show (ct p).length≤20;omega, ?_,l4⟩,Y1.2⟩));show ((aE p).set _ _).length≤4;rw [afC];omega
 refine bx (λ_=>dB h0 (aS (bI hb hy.2) λz hz=>dB ln (lF hn (aX ⟨KQ ⟨agr l1,by show (ct p).length≤20;omega,agr l3,l4⟩,hz.2⟩)))) λ_=> ?_;refine dB h0 (dB ln (lF hn ?_));rw [jT hn];refine dB (aac (by simp only [aay,adC];omega)) (aX ⟨⟨T.pg,by rw [Gn];omega,λq hq=>(Db hq).elim (T.pr q) λe=>by rw [e];exact T.pr p hp,T.os,T.np2,T.pi,T.nf,T.fi,T.rd,T.ou⟩,hy.2⟩)
theorem aah {n:Int} (hb:b.length≤cj) (hi:0≤i) (hn:n≤1000):iq (aem ((b,i,h,()),(n,()),())) λy=>wT y.1.1∧0≤y.2.1.1:=by
 show iq (Out.eval (Pb _)) _;dsimp only [Pb];refine aS (KO hb hi hn) λy hy=> ?_;obtain ⟨⟨⟨nx,tk,pg,ps,os,pi,fi,rd,ou,_⟩,_⟩,⟨⟨ui,uh,_⟩,_⟩⟩:=y;obtain ⟨⟨hR,hU⟩,hu⟩:=hy;refine aS (C6 hb hu) λz hz=>bx (by simp_all [aX,Da]) λ_=> ?_;refine bx (λh0=>aS (bI hb hz) λw hw=> ?_) λh0=> ?_
 . have h0:((ps.length:Nat):Int)>0:=adR h0
   simp_all [KP]
 . have h0:¬ ((ps.length:Nat):Int)>0:=akZ h0
   simp_all [KP,afK,absurd]
end
def Dc (a0:List Int) (a1 a2:Int) (a3:List UInt8):Out (((List UInt8×Unit)×Unit)×rc):= .ite ((((List.length a3:Nat):Int)==(0:Int))) (.get (O5 a0 a1 a2 (3:Int)) λy1=> .ret (((y1.1.1.1,()),()),((y1.2.1.1,y1.2.1.2.1,()),(),()))) (.get (ff a0 a1 a2 ((List.length a3:Nat):Int)) λy2=> .get (ff a0 y2.2.1.1 y2.2.1.2.1 (4:Int)) λy3=> .ite ((y3.1.1.1==(0:Int))) (.ite (decide (0≤(0:Int)∧(0:Int)≤y2.1.1.1∧y2.1.1.1≤((List.length a3:Nat):Int))) (.ite (decide (0≤(abs (y2.1.1.1+(1:Int)))∧(abs (y2.1.1.1+(1:Int)))≤((List.length a3:Nat):Int))) (.ite (decide (List.length (List.drop (Int.toNat (0:Int)) (List.take (Int.toNat y2.1.1.1) a3))+List.length (List.drop (Int.toNat (abs (y2.1.1.1+(1:Int)))) a3)≤bn)) (.ret (((((List.drop (Int.toNat (0:Int)) (List.take (Int.toNat y2.1.1.1) a3))++(List.drop (Int.toNat (abs (y2.1.1.1+(1:Int)))) a3)),()),()),((y3.2.1.1,y3.2.1.2.1,()),(),()))) .fail) .fail) .fail) (.ite ((y3.1.1.1==(1:Int))) (.ite (decide (0≤(0:Int)∧(0:Int)≤y2.1.1.1∧y2.1.1.1≤((List.length a3:Nat):Int))) (.get (uB a0 y3.2.1.1 y3.2.1.2.1) λy4=> .ite (decide (List.length (List.drop (Int.toNat (0:Int)) (List.take (Int.toNat y2.1.1.1) a3))+List.length (List.map (λn:Int=>UInt8.ofNat n.toNat) ([(IntKind.u8.wrap y4.1.1.1)]:List (Int)))≤bn)) (.ite (decide (0≤y2.1.1.1∧y2.1.1.1≤((List.length a3:Nat):Int))) (.ite (decide (List.length ((List.drop (Int.toNat (0:Int)) (List.take (Int.toNat y2.1.1.1) a3))++(List.map (λn:Int=>UInt8.ofNat n.toNat) ([(IntKind.u8.wrap y4.1.1.1)]:List (Int))))+List.length (List.drop (Int.toNat y2.1.1.1) a3)≤bn)) (.ret ((((((List.drop (Int.toNat (0:Int)) (List.take (Int.toNat y2.1.1.1) a3))++(List.map (λn:Int=>UInt8.ofNat n.toNat) ([(IntKind.u8.wrap y4.1.1.1)]:List (Int))))++(List.drop (Int.toNat y2.1.1.1) a3)),()),()),((y4.2.1.1,y4.2.1.2.1,()),(),()))) .fail) .fail) .fail) .fail) (.ite ((y3.1.1.1==(2:Int))) (.ite (decide (0≤(0:Int)∧(0:Int)≤y2.1.1.1∧y2.1.1.1≤((List.length a3:Nat):Int))) (.ret ((((List.drop (Int.toNat (0:Int)) (List.take (Int.toNat y2.1.1.1) a3)),()),()),((y3.2.1.1,y3.2.1.2.1,()),(),()))) .fail) (.ite (decide (0≤(0:Int)∧(0:Int)≤y2.1.1.1∧y2.1.1.1≤((List.length a3:Nat):Int))) (.ite (decide (0≤y2.1.1.1)) (.get (nth a3 (Int.toNat y2.1.1.1)) λy5=> .get (ff a0 y3.2.1.1 y3.2.1.2.1 (255:Int)) λy6=> .ite (decide (List.length (List.drop (Int.toNat (0:Int)) (List.take (Int.toNat y2.1.1.1) a3))+List.length (List.map (λn:Int=>UInt8.ofNat n.toNat) ([(IntKind.u8.wrap (abs (((BitVec.ofInt (IntKind.bits IntKind.i64) (abs ((UInt8.toNat y5:Nat):Int)) ^^^ BitVec.ofInt (IntKind.bits IntKind.i64) (abs ((1:Int)+y6.1.1.1))).toNat:Int))))]:List (Int)))≤bn)) (.ite (decide (0≤(abs (y2.1.1.1+(1:Int)))∧(abs (y2.1.1.1+(1:Int)))≤((List.length a3:Nat):Int))) (.ite (decide (List.length ((List.drop (Int.toNat (0:Int)) (List.take (Int.toNat y2.1.1.1) a3))++(List.map (λn:Int=>UInt8.ofNat n.toNat) ([(IntKind.u8.wrap (abs (((BitVec.ofInt (IntKind.bits IntKind.i64) (abs ((UInt8.toNat y5:Nat):Int)) ^^^ BitVec.ofInt (IntKind.bits IntKind.i64) (abs ((1:Int)+y6.1.1.1))).toNat:Int))))]:List (Int))))+List.length (List.drop (Int.toNat (abs (y2.1.1.1+(1:Int)))) a3)≤bn)) (.ret ((((((List.drop (Int.toNat (0:Int)) (List.take (Int.toNat y2.1.1.1) a3))++(List.map (λn:Int=>UInt8.ofNat n.toNat) ([(IntKind.u8.wrap (abs (((BitVec.ofInt (IntKind.bits IntKind.i64) (abs ((UInt8.toNat y5:Nat):Int)) ^^^ BitVec.ofInt (IntKind.bits IntKind.i64) (abs ((1:Int)+y6.1.1.1))).toNat:Int))))]:List (Int))))++(List.drop (Int.toNat (abs (y2.1.1.1+(1:Int)))) a3)),()),()),((y6.2.1.1,y6.2.1.2.1,()),(),()))) .fail) .fail) .fail) .fail) .fail))))
def Pc:=λa0 a1 a2 a3=>(Dc a0 a1 a2 a3).eval
def k38:bK:={ f:=38,lend:=true,aF:=[Do,wr],lay:=[none,none],rs:=[wr],F:=λx=> .get (Pc x.1.1 x.1.2.1 x.1.2.2.1 x.2.1.1) λy=> .ret y }
theorem ahP (x:aw k38.aF):bo [k85,MD,Z6] (λ_=>none) Tryz.f38 k38 [.tmp 4] x=Dc x.1.1 x.1.2.1 x.1.2.2.1 x.2.1.1:=by kernel_rfl
theorem ahQ:k38.Ok acl:=aD [k85,MD,Z6] ⟨ahI,qo,Nn,trivial⟩ ahP λ_ _ _ hy=>(dv _).symm.trans hy
theorem Rl {b:List Int} {i h:Int} {s:bs} (hb:b.length≤cj) (hi:0≤i) (hs:s.length≤1000000):iq (Pc b i h s) λy=>y.1.1.1.length≤s.length+3∧0≤y.2.1.1:=by
 unfold Pc Dc;refine bx (λh0=> ?_) λh0=> ?_
 . refine aS (UM (n:=3) hb hi (by omega)) λy hy=>aX ⟨by simp only;omega,hy.2⟩
 have qb:0<s.length:=by
  rcases Nat.eq_zero_or_pos s.length with e|e
  . rw [e] at h0;exact absurd h0 (by decide)
  . exact e
 refine aS (bI hb hi) λy hy=>aS (bI hb hy.2) λz hz=> ?_;have k0:=hy.1.1;have k1:=hy.1.2.1 (by omega);obtain ⟨k,hk⟩:=aft k0;rw [hk] at k1 ⊢;have w:abs (((k:Nat):Int)+1)=((k+1:Nat):Int):=aq (by unfold cj;omega);rw [w];have c1:decide (0≤(0:Int)∧(0:Int)≤((k:Nat):Int)∧((k:Nat):Int)≤((s.length:Nat):Int))=true:=aac;have c2:decide (0≤((k+1:Nat):Int)∧((k+1:Nat):Int)≤((s.length:Nat):Int))=true:=aac;have c3:decide (0≤((k:Nat):Int)∧((k:Nat):Int)≤((s.length:Nat):Int))=true:=aac;have l1:(List.drop (Int.toNat (0:Int)) (List.take (Int.toNat ((k:Nat):Int)) s)).length=k:=by
  rw [show Int.toNat (0:Int)=0 from rfl,alA,adu,ae0];omega
 have l2:(List.drop (Int.toNat ((k+1:Nat):Int)) s).length=s.length - (k+1):=by rw [adu,aec]
 have l3:(List.drop (Int.toNat ((k:Nat):Int)) s).length=s.length - k:=by rw [adu,aec]
 have l4:∀ x:Int,(List.map (λn:Int=>UInt8.ofNat n.toNat) [x]).length=1:=λ_=>rfl;refine bx (λ_=> ?_) λ_=>bx (λ_=> ?_) λ_=>bx (λ_=> ?_) λ_=> ?_
 . refine dB c1 (dB c2 (dB (aac (by rw [l1,l2,jQ];omega)) (aX ⟨?_,hz.2⟩)))
   simp only [aaY,l1,l2];omega
 . refine dB c1 (aS (ni hb hz.2) λu hu=>dB (aac (by rw [l1,l4,jQ];omega)) (dB c3 (dB (aac (by rw [aaY,l1,l3,l4,jQ];omega)) (aX ⟨?_,hu.2⟩))))
   simp only [aaY,l1,l3,l4];omega
 . refine dB c1 (aX ⟨?_,hz.2⟩)
   simp only [l1];omega
 . refine dB c1 (dB (aac) (aS (P:=λ_=>True) ⟨_,aa7 (show Int.toNat ((k:Nat):Int)<s.length by omega),trivial⟩ λt _=>aS (bI hb hz.2) λu hu=>
    dB (aac (by rw [l1,l4,jQ];omega)) (dB c2 (dB (aac (by rw [aaY,l1,l2,l4,jQ];omega)) (aX ⟨?_,hu.2⟩)))))
   simp only [aaY,l1,l2,l4];omega
abbrev arE:=(t5×Unit)×(Unit×Unit)
def aai:t19×Unit→Out arE
|(a0,_)=> .get (KL a0.1) λy1=> .get (KM a0.1 (200:Int)) λy2=> .get (aem ((y1.1.1.1,y1.1.1.2.1,y1.1.1.2.2.1,()),(y2.1.1.1,()),())) λ((dW,_),_)=> .ret ((dW,()),((),()))
def anU (x:t19×Unit):=(aai x).eval
def k5:bK:=dX 5 false [i19] [none] [i5] aai
theorem anV:k5.Ok acl:=ck bR [] [] [k12,k14,k13] ⟨UH,UJ,ahO,trivial⟩ (λ_=>none) Tryz.f5 [.cell 2 31] λx=>by kernel_rfl
abbrev anW:=(t20×Unit)×(Unit×Unit)
def Pd:t19×Unit→Out anW
|(a0,_)=> .get (KL a0.1) λy1=> .get (KM a0.1 (200:Int)) λy2=> .get (UY ((y1.1.1.1,y1.1.1.2.1,y1.1.1.2.2.1,()),(y2.1.1.1,()),())) λ((dW,_),(y3A,_))=> .get (eB dW.1 dW.2.1 dW.2.2.1 dW.2.2.2.1 dW.2.2.2.2.1 dW.2.2.2.2.2.1 dW.2.2.2.2.2.2.1 dW.2.2.2.2.2.2.2.1 dW.2.2.2.2.2.2.2.2.1) λy4=> .get (Gm y1.1.1.1 y3A.1 y3A.2.1 (3:Int)) λy5=> .ite y5.1.1.1 (.get (Pc y1.1.1.1 y5.2.1.1 y5.2.1.2.1 y4) λy6=> .ret (((y6.1.1.1,()),()),((),()))) (.ret (((y4,()),()),((),())))
def U1 (x:t19×Unit):=(Pd x).eval
def k10:bK:=dX 10 false [i19] [none] [i20] Pd
theorem ahR:k10.Ok acl:=ck bR [] [] [k12,k14,k36,ZV,k37,k38] ⟨UH,UJ,UZ,T8,No,ahQ,trivial⟩ (λ_=>none) Tryz.f10 [.tmp 2] λx=>by kernel_rfl
abbrev U2:=(List Int×List Int×Int×Unit)×(Unit)
def Dd:U2→Out (Round U2 ((Unit)×(Unit)) ((Bool×Unit)×(Unit)))
|((p0,p1,p2,_),_)=> .ite (decide (p2<((List.length p0:Nat):Int))) (.ite (decide (0≤p2)) (.get (nth p0 (Int.toNat p2)) λy1=> .ite (decide (0≤p2)) (.get (nth p1 (Int.toNat p2)) λy2=> .ite ((y1 != y2)) (.ret (.ret ((false,()),()))) (.ret (.again ((p0,p1,(abs (p2+(1:Int))),()),())))) .fail) .fail) (.ret (.out ((),())))
def wU (a0 a1:List Int):Out (((Bool×Unit)×Unit)×XI):= .ite ((((List.length a0:Nat):Int) != ((List.length a1:Nat):Int))) (.ret (((false,()),()),((),(),()))) (.get (iter Dd aI ((a0,a1,(0:Int),()),())) λy1=> .alt y1 (λy2=> .ret (((true,()),()),((),(),()))) (λy3=> .ret (((y3.1.1,()),()),((),(),()))))
def anX:Nat→Option au:=λn=>bw [(0,⟨⟨[.ro (.int .i64) (some 0), .ro (.int .i64) (some 1), .dead, .dead, .dead, .i .i64]++dd 20,[]⟩,⟨dd 26,[]⟩,some ⟨dd 4++[.b]++dd 21,[]⟩,false⟩)] n
def Y2:bK:={ f:=32,lend:=true,aF:=[ww,ww],lay:=[none,none],rs:=[wn],F:=λx=> .ret ((((fN x.1.1 x.2.1.1),()),()),((),(),())) }
theorem ahS (x:aw Y2.aF):bo [] anX Tryz.f32 Y2 [.tmp 4] x=wU x.1.1 x.2.1.1:=by kernel_rfl
theorem ahT (hr:∀ x:(List Int×Unit)×(List Int×Unit)×Unit,aB Y2.aF x→(wU x.1.1 x.2.1.1).eval=(Y2.F x).eval):Y2.Ok acl:=aD [] trivial ahS λx hw _ hy=>(hr x hw).trans hy
theorem Ns:Y2.Ok acl:=by
 refine ahT λx hw=> ?_;obtain ⟨⟨a,_⟩,⟨b,_⟩,_⟩:=x;have ha:a.length≤cj:=hw.1.1.1;show (wU a b).eval=some (((fN a b,()),()),((),((),())));unfold wU;by_cases hl:a.length=b.length
 . rw [ae (Nt hl)]
   have:=It (f:=Dd) a b (λi=>((a,(b,(((i:Nat):Int),()))),())) (y:=((),())) (z:=((false,()),())) hl ha
    (λi hi dh he=>by
     have:=aq (i:=i) (by omega);simp [Dd,Out.eval,hi,dh,he,this])
    (λi hi dh he=>by simp [Dd,Out.eval,hi,dh,he,cond_eq_ite])
    (by simp [Dd,Out.eval])
   refine zG ?_ this;unfold fN;by_cases JG:a=b
   . simp only [aaZ JG,aac JG];rfl
   . simp only [aae JG,adD JG];rfl
 . rw [ab (Nu hl)]
   have:fN a b=false:=adD λe=>hl (by rw [e]);rw [this];rfl
abbrev U3:=(List ah×List ah×Int×Unit)×(Unit)
def ze:U3→Out (Round U3 ((Unit)×(Unit)) ((Bool×Unit)×(Unit)))
|((p0,p1,p2,_),_)=> .ite (decide (p2<((List.length p0:Nat):Int))) (.ite (decide (0≤p2)) (.get (nth p0 (Int.toNat p2)) λy1=> .ite (decide (0≤p2)) (.get (nth p1 (Int.toNat p2)) λy2=> .ite (((y1.1 != y2.1))==false) (.ite (decide (0≤p2)) (.get (nth p0 (Int.toNat p2)) λy3=> .ite (decide (0≤p2)) (.get (nth p1 (Int.toNat p2)) λy4=> .ite (!(fN y3.2.1 y4.2.1)) (.ret (.ret ((false,()),()))) (.ret (.again ((p0,p1,(abs (p2+(1:Int))),()),())))) .fail) .fail) (.ret (.ret ((false,()),())))) .fail) .fail) (.ret (.out ((),())))
def wV (a0 a1:List ah):Out (((Bool×Unit)×Unit)×XI):= .ite ((((List.length a0:Nat):Int) != ((List.length a1:Nat):Int))) (.ret (((false,()),()),((),(),()))) (.get (iter ze aI ((a0,a1,(0:Int),()),())) λy1=> .alt y1 (λy2=> .ret (((true,()),()),((),(),()))) (λy3=> .ret (((y3.1.1,()),()),((),(),()))))
def anY:Nat→Option au:=λn=>bw [(0,⟨⟨[.ro dp (some 0), .ro dp (some 1), .dead, .dead, .dead, .i .i64]++dd 36,[]⟩,⟨dd 42,[]⟩,some ⟨dd 4++[.b]++dd 37,[]⟩,false⟩)] n
def k31:bK:={ f:=31,lend:=true,aF:=[FS,FS],lay:=[none,none],rs:=[wn],F:=λx=> .ret ((((pd x.1.1 x.2.1.1),()),()),((),(),())) }
theorem ahV (x:aw k31.aF):bo [Y2] anY Tryz.f31 k31 [.tmp 4] x=wV x.1.1 x.2.1.1:=by kernel_rfl
theorem ahW (hr:∀ x:(List ah×Unit)×(List ah×Unit)×Unit,aB k31.aF x→(wV x.1.1 x.2.1.1).eval=(k31.F x).eval):k31.Ok acl:=aD [Y2] ⟨Ns,trivial⟩ ahV λx hw _ hy=>(hr x hw).trans hy
theorem ahX:k31.Ok acl:=by
 refine ahW λx hw=> ?_;obtain ⟨⟨a,_⟩,⟨b,_⟩,_⟩:=x;have ha:a.length≤cj:=hw.1.1.1;show (wV a b).eval=some (((pd a b,()),()),((),((),())));unfold wV;by_cases hl:a.length=b.length
 . rw [ae (Nt hl)]
   have:=It (f:=ze) a b (λi=>((a,(b,(((i:Nat):Int),()))),())) (y:=((),())) (z:=((false,()),())) hl ha
    (λi hi dh he=>by
     have:=aq (i:=i) (by omega);simp [ze,Out.eval,hi,dh,he,this,fN])
    (λi hi dh he=>by
     have hx:a[i]=(a[i].1,(a[i].2.1,())):=rfl;have hy:b[i]=(b[i].1,(b[i].2.1,())):=rfl;by_cases q1:a[i].1=b[i].1
     . have q2:¬ a[i].2.1=b[i].2.1:=λq=>he (by rw [hx,hy,q1,q])
       simp [ze,Out.eval,hi,dh,q1,q2,fN]
     . simp [ze,Out.eval,hi,dh,q1,cond_eq_ite])
    (by simp [ze,Out.eval])
   refine zG ?_ this;unfold pd;by_cases JG:a=b
   . simp only [aaZ JG,aac JG];rfl
   . simp only [aae JG,adD JG];rfl
 . rw [ab (Nu hl)]
   have:pd a b=false:=adD λe=>hl (by rw [e]);rw [this];rfl
abbrev anZ:=(t10×Unit)×XI
def Pe:t15×t15×Unit→Out anZ
|(a0,a1,_)=> .ite (((a0.1==a1.1))==true) (.ite (((a0.2.1==a1.2.1))==true) (.ite (((a0.2.2.1==a1.2.2.1))==true) (.ite (((a0.2.2.2.1==a1.2.2.2.1))==true) (.ite (((a0.2.2.2.2.1==a1.2.2.2.2.1))==true) (.ite ((fN a0.2.2.2.2.2.1 a1.2.2.2.2.2.1)==true) (.ite ((fN a0.2.2.2.2.2.2.1 a1.2.2.2.2.2.2.1)==true) (.ite ((fN a0.2.2.2.2.2.2.2.1 a1.2.2.2.2.2.2.2.1)==true) (.ite (((a0.2.2.2.2.2.2.2.2.1==a1.2.2.2.2.2.2.2.2.1))==true) (.ret (((((a0.2.2.2.2.2.2.2.2.2.1==a1.2.2.2.2.2.2.2.2.2.1)),()),()),((),(),()))) (.ret (((false,()),()),((),(),())))) (.ret (((false,()),()),((),(),())))) (.ret (((false,()),()),((),(),())))) (.ret (((false,()),()),((),(),())))) (.ret (((false,()),()),((),(),())))) (.ret (((false,()),()),((),(),())))) (.ret (((false,()),()),((),(),())))) (.ret (((false,()),()),((),(),())))) (.ret (((false,()),()),((),(),())))
def aer (x:t15×t15×Unit):=(Pe x).eval
def k34:bK:=dX 34 true [i15,i15] [none,none] [i10] Pe
theorem ahY:k34.Ok acl:=ck jd [] [] [Y2] ⟨Ns,trivial⟩ (λ_=>none) Tryz.f34 [.tmp 4] λx=>by kernel_rfl
abbrev an0:=(t10×Unit)×XI
abbrev U4:=(List ar×List ar×Int×Unit)×(Unit)
def zg:U4→Out (Round U4 ((Unit)×(Unit)) ((Bool×Unit)×(Unit)))
|((p0,p1,p2,_),_)=> .ite (decide (p2<((List.length p0:Nat):Int))) (.ite (decide (0≤p2)) (.get (nth p0 (Int.toNat p2)) λy1=> .ite (decide (0≤p2)) (.get (nth p1 (Int.toNat p2)) λy2=> .ite (!((y1.1==y2.1)&&((y1.2.1==y2.2.1)&&((y1.2.2.1==y2.2.2.1)&&((y1.2.2.2.1==y2.2.2.2.1)&&true))))) (.ret (.ret ((false,()),()))) (.ret (.again ((p0,p1,(abs (p2+1)),()),())))) .fail) .fail) (.ret (.out ((),())))
def Pf:t8×t8×Unit→Out an0
|(a0,a1,_)=> .ite ((((List.length a0.1:Nat):Int) != ((List.length a1.1:Nat):Int))) (.ret (((false,()),()),((),(),()))) (.get (iter zg aI ((a0.1,a1.1,0,()),())) λy1=> .alt y1 (λy2=> .ret (((true,()),()),((),(),()))) (λy3=> .ret (((y3.1.1,()),()),((),(),()))))
def aes (x:t8×t8×Unit):=(Pf x).eval
def an1:Nat→Option au:=λn=>bw [(0,⟨⟨[.ro cT (some 0), .ro cT (some 1), .dead, .dead, .dead, .i .i64]++dd 20,[]⟩,⟨dd 26,[]⟩,some ⟨dd 4++[.b]++dd 21,[]⟩,false⟩)] n
def k33:bK:=dX 33 true [i8,i8] [none,none] [i10] Pf
theorem ahZ:k33.Ok acl:=ck jd [] [] [] trivial an1 Tryz.f33 [.tmp 4] λx=>by kernel_rfl
abbrev arG:=(t10×Unit)×XI
abbrev aet:=(Int×Unit)×(bA×bA×Unit)
def Gp:aet→Out (Round aet ((Unit)×(bA×bA×Unit)) ((Bool×Unit)×(Unit)))
|((p0,_),(p1,p2,p3,p4,p5,p6,p7,p8,p9,_),(bL,b8,cr,dc,cO,cn,cX,dz,dC,_),_)=> .ite (decide (p0<((List.length p3:Nat):Int))) (.ite (decide (0≤p0)) (.get (nth p3 (Int.toNat p0)) λy1=> .ite (decide (0≤p0)) (.get (nth cr (Int.toNat p0)) λy2=> .get (aes ((y1,()),(y2,()),())) λ((dW,_),_)=> .ite (!dW.1) (.ret (.ret ((false,()),()))) (.ret (.again (((abs (p0+1)),()),((p1,p2,p3,p4,p5,p6,p7,p8,p9,()),(bL,b8,cr,dc,cO,cn,cX,dz,dC,()),()))))) .fail) .fail) (.ret (.out ((),((p1,p2,p3,p4,p5,p6,p7,p8,p9,()),(bL,b8,cr,dc,cO,cn,cX,dz,dC,()),()))))
abbrev aeu:=(Int×Unit)×(bA×bA×Unit)
def Gq:aeu→Out (Round aeu ((Unit)×(bA×bA×Unit)) ((Bool×Unit)×(Unit)))
|((p0,_),(p1,p2,p3,p4,p5,p6,p7,p8,p9,_),(bL,b8,cr,dc,cO,cn,cX,dz,dC,_),_)=> .ite (decide (p0<((List.length p4:Nat):Int))) (.ite (decide (0≤p0)) (.get (nth p4 (Int.toNat p0)) λy1=> .ite (decide (0≤p0)) (.get (nth dc (Int.toNat p0)) λy2=> .get (aer ((y1.1,y1.2.1,y1.2.2.1,y1.2.2.2.1,y1.2.2.2.2.1.1,y1.2.2.2.2.1.2.1,y1.2.2.2.2.2),(y2.1,y2.2.1,y2.2.2.1,y2.2.2.2.1,y2.2.2.2.2.1.1,y2.2.2.2.2.1.2.1,y2.2.2.2.2.2),())) λ((dW,_),_)=> .ite (!dW.1) (.ret (.ret ((false,()),()))) (.ret (.again (((abs (p0+1)),()),((p1,p2,p3,p4,p5,p6,p7,p8,p9,()),(bL,b8,cr,dc,cO,cn,cX,dz,dC,()),()))))) .fail) .fail) (.ret (.out ((),((p1,p2,p3,p4,p5,p6,p7,p8,p9,()),(bL,b8,cr,dc,cO,cn,cX,dz,dC,()),()))))
abbrev aev:=(Int×Unit)×(bA×bA×Unit)
def Gr:aev→Out (Round aev ((Unit)×(bA×bA×Unit)) ((Bool×Unit)×(Unit)))
|((p0,_),(p1,p2,p3,p4,p5,p6,p7,p8,p9,_),(bL,b8,cr,dc,cO,cn,cX,dz,dC,_),_)=> .ite (decide (p0<((List.length p5:Nat):Int))) (.ite (decide (0≤p0)) (.get (nth p5 (Int.toNat p0)) λy1=> .ite (decide (0≤p0)) (.get (nth cO (Int.toNat p0)) λy2=> .ite (!((y1.1==y2.1)&&((y1.2.1==y2.2.1)&&((y1.2.2.1==y2.2.2.1)&&((y1.2.2.2.1==y2.2.2.2.1)&&((y1.2.2.2.2.1==y2.2.2.2.2.1)&&true)))))) (.ret (.ret ((false,()),()))) (.ret (.again (((abs (p0+1)),()),((p1,p2,p3,p4,p5,p6,p7,p8,p9,()),(bL,b8,cr,dc,cO,cn,cX,dz,dC,()),()))))) .fail) .fail) (.ret (.out ((),((p1,p2,p3,p4,p5,p6,p7,p8,p9,()),(bL,b8,cr,dc,cO,cn,cX,dz,dC,()),()))))
abbrev aew:=(Int×Unit)×(bA×bA×Unit)
def Gs:aew→Out (Round aew ((Unit)×(Unit)) ((Bool×Unit)×(Unit)))
|((p0,_),(p1,p2,p3,p4,p5,p6,p7,p8,p9,_),(bL,b8,cr,dc,cO,cn,cX,dz,dC,_),_)=> .ite (decide (p0<((List.length p6:Nat):Int))) (.ite (decide (0≤p0)) (.get (nth p6 (Int.toNat p0)) λy1=> .ite (decide (0≤p0)) (.get (nth cn (Int.toNat p0)) λy2=> .ite (((y1.1 != y2.1))==false) (.ite (decide (0≤p0)) (.get (nth p6 (Int.toNat p0)) λy3=> .ite (decide (0≤p0)) (.get (nth cn (Int.toNat p0)) λy4=> .ite (!(fN y3.2.1 y4.2.1)) (.ret (.ret ((false,()),()))) (.ret (.again (((abs (p0+1)),()),((p1,p2,p3,p4,p5,p6,p7,p8,p9,()),(bL,b8,cr,dc,cO,cn,cX,dz,dC,()),()))))) .fail) .fail) (.ret (.ret ((false,()),())))) .fail) .fail) (.ret (.out ((),())))
def aaj:t11×t11×Unit→Out arG
|(a0,a1,_)=> .ite (((a0.1 != a1.1))==false) (.ite (((a0.2.1 != a1.2.1))==false) (.ite (((((List.length a0.2.2.1:Nat):Int) != ((List.length a1.2.2.1:Nat):Int)))==false) (.ite (((((List.length a0.2.2.2.1:Nat):Int) != ((List.length a1.2.2.2.1:Nat):Int)))==false) (.ite (((((List.length a0.2.2.2.2.1:Nat):Int) != ((List.length a1.2.2.2.2.1:Nat):Int)))==false) (.ite (((((List.length a0.2.2.2.2.2.1:Nat):Int) != ((List.length a1.2.2.2.2.2.1:Nat):Int)))==false) (.ite ((!(pd a0.2.2.2.2.2.2.1 a1.2.2.2.2.2.2.1))==false) (.ite ((!(fN a0.2.2.2.2.2.2.2.1 a1.2.2.2.2.2.2.2.1))==false) (.ite (!(fN a0.2.2.2.2.2.2.2.2.1 a1.2.2.2.2.2.2.2.2.1)) (.ret (((false,()),()),((),(),()))) (.get (iter Gp aI ((0,()),((a0.1,a0.2.1,a0.2.2.1,a0.2.2.2.1,a0.2.2.2.2.1,a0.2.2.2.2.2.1,a0.2.2.2.2.2.2.1,a0.2.2.2.2.2.2.2.1,a0.2.2.2.2.2.2.2.2.1,()),(a1.1,a1.2.1,a1.2.2.1,a1.2.2.2.1,a1.2.2.2.2.1,a1.2.2.2.2.2.1,a1.2.2.2.2.2.2.1,a1.2.2.2.2.2.2.2.1,a1.2.2.2.2.2.2.2.2.1,()),()))) λy1=> .alt y1 (λy2=> .get (iter Gq aI ((0,()),((y2.2.1.1,y2.2.1.2.1,y2.2.1.2.2.1,y2.2.1.2.2.2.1,y2.2.1.2.2.2.2.1,y2.2.1.2.2.2.2.2.1,y2.2.1.2.2.2.2.2.2.1,y2.2.1.2.2.2.2.2.2.2.1,y2.2.1.2.2.2.2.2.2.2.2.1,()),(y2.2.2.1.1,y2.2.2.1.2.1,y2.2.2.1.2.2.1,y2.2.2.1.2.2.2.1,y2.2.2.1.2.2.2.2.1,y2.2.2.1.2.2.2.2.2.1,y2.2.2.1.2.2.2.2.2.2.1,y2.2.2.1.2.2.2.2.2.2.2.1,y2.2.2.1.2.2.2.2.2.2.2.2.1,()),()))) λy4=> .alt y4 (λy5=> .get (iter Gr aI ((0,()),((y5.2.1.1,y5.2.1.2.1,y5.2.1.2.2.1,y5.2.1.2.2.2.1,y5.2.1.2.2.2.2.1,y5.2.1.2.2.2.2.2.1,y5.2.1.2.2.2.2.2.2.1,y5.2.1.2.2.2.2.2.2.2.1,y5.2.1.2.2.2.2.2.2.2.2.1,()),(y5.2.2.1.1,y5.2.2.1.2.1,y5.2.2.1.2.2.1,y5.2.2.1.2.2.2.1,y5.2.2.1.2.2.2.2.1,y5.2.2.1.2.2.2.2.2.1,y5.2.2.1.2.2.2.2.2.2.1,y5.2.2.1.2.2.2.2.2.2.2.1,y5.2.2.1.2.2.2.2.2.2.2.2.1,()),()))) λy7=> .alt y7 (λy8=> .get (iter Gs aI ((0,()),((y8.2.1.1,y8.2.1.2.1,y8.2.1.2.2.1,y8.2.1.2.2.2.1,y8.2.1.2.2.2.2.1,y8.2.1.2.2.2.2.2.1,y8.2.1.2.2.2.2.2.2.1,y8.2.1.2.2.2.2.2.2.2.1,y8.2.1.2.2.2.2.2.2.2.2.1,()),(y8.2.2.1.1,y8.2.2.1.2.1,y8.2.2.1.2.2.1,y8.2.2.1.2.2.2.1,y8.2.2.1.2.2.2.2.1,y8.2.2.1.2.2.2.2.2.1,y8.2.2.1.2.2.2.2.2.2.1,y8.2.2.1.2.2.2.2.2.2.2.1,y8.2.2.1.2.2.2.2.2.2.2.2.1,()),()))) λF6=> .alt F6 (λsX=> .ret (((true,()),()),((),(),()))) (λyY=> .ret (((yY.1.1,()),()),((),(),())))) (λy9=> .ret (((y9.1.1,()),()),((),(),())))) (λy6=> .ret (((y6.1.1,()),()),((),(),())))) (λy3=> .ret (((y3.1.1,()),()),((),(),()))))) (.ret (((false,()),()),((),(),())))) (.ret (((false,()),()),((),(),())))) (.ret (((false,()),()),((),(),())))) (.ret (((false,()),()),((),(),())))) (.ret (((false,()),()),((),(),())))) (.ret (((false,()),()),((),(),())))) (.ret (((false,()),()),((),(),())))) (.ret (((false,()),()),((),(),())))
def an2 (x:t11×t11×Unit):=(aaj x).eval
abbrev De:List (Nat×dT):=[(act, .var [.i .i64, .i .i64, .ro (.sl cT) (some 0), .ro jc (some 1), .ro eF (some 2), .ro dp (some 3), .ro dp (some 4), .ro eG (some 5), .ro eG (some 6)]),(adc, .var [.i .i64, .i .i64, .ro (.sl cT) (some 7), .ro jc (some 8), .ro eF (some 9), .ro dp (some 10), .ro dp (some 11), .ro eG (some 12), .ro eG (some 13)])]
def arH:Nat→Option au:=λn=>bw [(0,⟨⟨[.dead, .dead, .vptr act 0, .vptr adc 0, .dead, .i .i64]++dd 167,De⟩,⟨[.dead, .dead, .vptr act 0, .vptr adc 0]++dd 169,De⟩,some ⟨dd 4++[.b]++dd 168,[]⟩,false⟩),(2,⟨⟨[.dead, .dead, .vptr act 0, .vptr adc 0, .dead, .dead, .i .i64]++dd 166,De⟩,⟨[.dead, .dead, .vptr act 0, .vptr adc 0]++dd 169,De⟩,some ⟨dd 4++[.b]++dd 168,[]⟩,false⟩),(4,⟨⟨[.dead, .dead, .vptr act 0, .vptr adc 0, .dead, .dead, .dead, .i .i64]++dd 165,De⟩,⟨[.dead, .dead, .vptr act 0, .vptr adc 0]++dd 169,De⟩,some ⟨dd 4++[.b]++dd 168,[]⟩,false⟩),(6,⟨⟨[.dead, .dead, .vptr act 0, .vptr adc 0]++dd 4++[.i .i64]++dd 164,De⟩,⟨dd 173,[]⟩,some ⟨dd 4++[.b]++dd 168,[]⟩,false⟩)] n
def k9:bK:=dX 9 true [i11,i11] [none,none] [i10] aaj
theorem an3:k9.Ok acl:=ck jd [] [] [k31,Y2,k33,k34] ⟨ahX,Ns,ahZ,ahY,trivial⟩ arH Tryz.f9 [.tmp 4] λx=>by kernel_rfl
section
variable {u:UT} {p:af}
theorem Iu {a:List ar} (h:a.length≤1000):aes ((a,()),(a,()),())=some (((true,()),()),((),(),())):=by
 have hB:cj=9223372036854775807:=rfl;have h1:=ml (f:=zg) (λi=>((a,a,(i:Int),()),())) a.length (n:=aI) (y:=((),())) (ij (by omega)) (λi hi=> ?_) ?_
 . show Out.eval (Pf _)=_
   dsimp only [Pf];refine zF ?_ (by simp);exact zG rfl h1
 . have hn:nth a i=some a[i]:=aa7 hi
   have hw:abs ((i:Int)+1)=((i+1:Nat):Int):=aq (by omega);show Out.eval (zg _)=_;dsimp only [zg];simp only [adu,hw];refine zT ?_;refine zT ?_;refine zG ?_;refine zT ?_;refine zG ?_;exact zF rfl (by simp)
 . show Out.eval (zg _)=_
   dsimp only [zg];exact zF rfl (adD)
theorem n9 {a:List Int}:fN a a=true:=aac rfl
theorem Fm:aer ((p.1,p.2.1,p.2.2.1,p.2.2.2.1,p.2.2.2.2.1.1,p.2.2.2.2.1.2.1,p.2.2.2.2.2),(p.1,p.2.1,p.2.2.1,p.2.2.2.1,p.2.2.2.2.1.1,p.2.2.2.2.1.2.1,p.2.2.2.2.2),())=some (((true,()),()),((),(),())):=by
 show Out.eval (Pe _)=_;dsimp only [Pe];simp only [n9,beq_self_eq_true];rfl
structure U5 (u:UT):Prop where
 pg:u.2.2.1.length≤1000
 pr:∀ l∈u.2.2.1,l.length≤1000
 ps:(bE u).length≤1000
 os:(eY u).length≤1000
 pi:(nW u).length≤1000
 rd:(oZ u).length≤1000
theorem Nv (h:wT u):U5 u:=by
 have uY:cH u.2.2.1=true:=h.pg;unfold cH at uY;simp only [aa6,adS] at uY;exact ⟨by omega,λl hl=>adQ (th (adG.1 uY.2 _ hl)),adQ h.np,adQ h.os,adQ h.np2,adQ h.rd⟩
theorem ah0 (h:U5 u):an2 (u,u,())=some (((true,()),()),((),(),())):=by
 have hB:cj=9223372036854775807:=rfl;obtain ⟨nx,tk,pg,ps,os,pi,fi,rd,ou,_⟩:=u;have uY:pg.length≤1000:=h.pg;have hp:∀ i (hi:i<pg.length),pg[i].length≤1000:=λi hi=>h.pr _ (ad9 hi);have hps:ps.length≤1000:=h.ps;have hos:os.length≤1000:=h.os;have uv:pi.length≤1000:=h.pi
 let U:UT:=(nx,tk,pg,ps,os,pi,fi,rd,ou,())
 have h0:=ml (f:=Gp) (λi=>(((i:Int),()),(U,U,()))) pg.length (n:=aI) (y:=((),(U,U,()))) (ij (by omega)) (λi hi=> ?_) ?_
 . have h2:=ml (f:=Gq) (λi=>(((i:Int),()),(U,U,()))) ps.length (n:=aI) (y:=((),(U,U,()))) (ij (by omega)) (λi hi=> ?_) ?_
   . have h4:=ml (f:=Gr) (λi=>(((i:Int),()),(U,U,()))) os.length (n:=aI) (y:=((),(U,U,()))) (ij (by omega)) (λi hi=> ?_) ?_
     . have h6:=ml (f:=Gs) (λi=>(((i:Int),()),(U,U,()))) pi.length (n:=aI) (y:=((),())) (ij (by omega)) (λi hi=> ?_) ?_
       . show Out.eval (aaj _)=_
         dsimp only [aaj];refine zT ?_ (by simp);refine zT ?_ (by simp);refine zT ?_ (by simp);refine zT ?_ (by simp);refine zT ?_ (by simp);refine zT ?_ (by simp);refine zT ?_ (by rw [show pd fi fi=true from aac rfl];rfl);refine zT ?_ (by rw [n9];rfl);refine zF ?_ (by rw [n9];rfl);refine zG ?_ h0;refine zG ?_ h2;refine zG ?_ h4;exact zG rfl h6
       . have hn:nth pi i=some pi[i]:=aa7 hi
         have hw:abs ((i:Int)+1)=((i+1:Nat):Int):=aq (by omega);show Out.eval (Gs _)=_;dsimp only [Gs,U];simp only [adu,hw];refine zT ?_;refine zT ?_;refine zG ?_;refine zT ?_;refine zG ?_;refine zT ?_ (by simp);refine zT ?_;refine zG ?_;refine zT ?_;refine zG ?_;exact zF rfl (by rw [n9];rfl)
       . show Out.eval (Gs _)=_
         dsimp only [Gs,U];exact zF rfl (adD)
     . have hn:nth os i=some os[i]:=aa7 hi
       have hw:abs ((i:Int)+1)=((i+1:Nat):Int):=aq (by omega);show Out.eval (Gr _)=_;dsimp only [Gr,U];simp only [adu,hw];refine zT ?_;refine zT ?_;refine zG ?_;refine zT ?_;refine zG ?_;exact zF rfl (by simp)
     . show Out.eval (Gr _)=_
       dsimp only [Gr,U];exact zF rfl (adD)
   . have hn:nth ps i=some ps[i]:=aa7 hi
     have hw:abs ((i:Int)+1)=((i+1:Nat):Int):=aq (by omega);show Out.eval (Gq _)=_;dsimp only [Gq,U];simp only [adu,hw];refine zT ?_;refine zT ?_;refine zG ?_;refine zT ?_;refine zG ?_;refine zG ?_ Fm;exact zF rfl rfl
   . show Out.eval (Gq _)=_
     dsimp only [Gq,U];exact zF rfl (adD)
 . have hn:nth pg i=some pg[i]:=aa7 hi
   have hw:abs ((i:Int)+1)=((i+1:Nat):Int):=aq (by omega);show Out.eval (Gp _)=_;dsimp only [Gp,U];simp only [adu,hw];refine zT ?_;refine zT ?_;refine zG ?_;refine zT ?_;refine zG ?_;refine zG ?_ (Iu (hp i hi));exact zF rfl rfl
 . show Out.eval (Gp _)=_
   dsimp only [Gp,U];exact zF rfl (adD)
end
section
variable {b:List Int} {u:UT}
theorem Iv (hb:b.length≤cj):iq (anU ((b,()),())) λy=>wT y.1.1:=by
 show iq (Out.eval (aai _)) _;dsimp only [aai];refine aS (CZ hb) λc hc=> ?_;have h0:0≤c.1.1.2.1:=by rw [hc.2];exact afK _
 rw [hc.1];refine aS (KN hb) λw hw=> ?_;refine aS (aah hb h0 (by omega)) λy hy=> ?_;obtain ⟨⟨y,_⟩,_⟩:=y;exact aX hy.1
abbrev aak (u:UT):Bool:=cw u.1 u.2.1 u.2.2.1 (bE u) (eY u) (nW u) (nT u) (oZ u) (Ca u)
theorem Pg (h:(oZ u).length≤1000):eB u.1 u.2.1 u.2.2.1 (bE u) (eY u) (nW u) (nT u) (oZ u) (Ca u)=some (fM u.1 u.2.1 u.2.2.1 (bE u) (eY u) (nW u) (nT u) (oZ u) (Ca u)):=aaZ (by have hL:bn=68719476736:=rfl;omega)
theorem Nw (u:UT):(fM u.1 u.2.1 u.2.2.1 (bE u) (eY u) (nW u) (nT u) (oZ u) (Ca u)).length≤20000:=by
 unfold fM;split
 . exact F5 ‹_›
 . exact afI _
theorem aal (s:bs):(ao s).2.2.2.2.2.2.2.1.length≤6:=by
 unfold ao;cases e:jX (s.drop 1) with
 |none=>exact afI _
 |some x=>
  obtain ⟨⟨h0,pg,ps,os,pp,fl,rd,ou⟩,k⟩:=x;obtain ⟨n,t,h⟩:=yP e;simp only at h;subst h;have hl:rd.length≤6:=by
   unfold jX at e;obtain ⟨_,_,_,e,_⟩:=cK e;obtain ⟨_,_,_,e,_⟩:=cK e;obtain ⟨_,_,_,e,_⟩:=cK e;obtain ⟨_,_,_,e,_⟩:=cK e;obtain ⟨_,_,_,e,_⟩:=cK e;obtain ⟨_,_,_,e,_⟩:=cK e;obtain ⟨_,_,e,_,_⟩:=cK e;exact (gW e).2.1
  show (if fM n t pg ps os pp fl rd ou=s then (n,t,pg,ps,os,pp,fl,rd,ou,true) else wK).2.2.2.2.2.2.2.1.length≤6;split
  . exact hl
  . exact afI _
theorem Iw (hb:b.length≤cj):iq (U1 ((b,()),())) λy=>y.1.1.1.length≤30000:=by
 show iq (Out.eval (Pd _)) _;dsimp only [Pd];refine aS (CZ hb) λc hc=> ?_;have h0:0≤c.1.1.2.1:=by rw [hc.2];exact afK _
 rw [hc.1];refine aS (KN hb) λw hw=> ?_;refine aS (KO hb h0 (by omega)) λy hy=> ?_;obtain ⟨⟨u,_⟩,d⟩:=y;dsimp only;have hr:(oZ u).length≤1000:=adQ (uw hy.1.1);have hl:=Nw u;refine lF (Pg hr) ?_;refine aS (C6 hb hy.2) λz hz=>bx (λ_=>aS (Rl hb hz (by omega)) λt ht=>aX ?_) λ_=>aX ?_
 . show t.1.1.1.length≤30000;omega
 . show (fM _ _ _ _ _ _ _ _ _).length≤30000;omega
end
end Go.Proofs.YtkmhgofibfmjfaaGreat.Dm
