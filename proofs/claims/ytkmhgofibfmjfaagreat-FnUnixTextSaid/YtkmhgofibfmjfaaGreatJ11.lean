/- f -/
import Derived.Test.YtkmhgofibfmjfaaGreatJ10
import Derived.Test.YtkmhgofibfmjfaaGreatShelf
import Derived.Test.YtkmhgofibfmjfaaGreatJ9
import Derived.Test.YtkmhgofibfmjfaaGreatJ5
namespace Go.Proofs.YtkmhgofibfmjfaaGreat.Dm
open Go Go.ChangeShapes Go.WideShapes Go.ChangeAt Go.RowKit
theorem fe {α:Type} {n:Nat} {a b:α} (h:n≤1000000):(bif decide (n≤bn) then a else b)=a:=by grind
theorem iV {n:Nat} (h:n≤1000000):decide (n≤bn)=true:=by grind
theorem Cw {l:List ar} (h:bm l=true):l.length≤40:=adR (Bool.and_eq_true_iff.1 h).1
theorem Tx {x:ar} (h:(x.1==(1:Int))=true):o6 x=ay x.1++(ay x.2.1++(ay (il x.2.2.1)++ay x.2.2.2.1)):=by
 simp_all [o6]
theorem Tz {x:ar} (h:(x.1==(1:Int))=false):o6 x=ay x.1++(ay x.2.1++(ay x.2.2.1++ay x.2.2.2.1)):=by
 simp_all [o6]
theorem agT {x:ar} (h:(x.1==(1:Int))=true):o6 x=ay x.1++(ay x.2.1++(jY x.2.2.1++ay x.2.2.2.1)):=Tx h
def iK (l:List ar):Option bs:=if bm l=true then some (jL l) else none
abbrev OS:=(List ar×List UInt8×Int×Unit)×(Unit)
def wD:OS→Out (Round OS mt Empty)
|((p0,p1,p2,_),_)=> .ite (decide (p2<((List.length p0:Nat):Int))) (.ite (decide (0≤p2)) (.get (nth p0 (Int.toNat p2)) λy1=> .ite (decide (0≤p2)) (.get (nth p0 (Int.toNat p2)) λy2=> .ite ((y2.1==(1:Int))) (.ite (decide (0≤p2)) (.get (nth p0 (Int.toNat p2)) λy3=> .ite (decide (List.length p1+List.length (ay y3.1)≤bn)) (.ite (decide (0≤p2)) (.get (nth p0 (Int.toNat p2)) λy4=> .ite (decide (List.length (p1++(ay y3.1))+List.length (ay y4.2.1)≤bn)) (.ite (decide (List.length ((p1++(ay y3.1))++(ay y4.2.1))+List.length (ay (il y1.2.2.1))≤bn)) (.ite (decide (0≤p2)) (.get (nth p0 (Int.toNat p2)) λy5=> .ite (decide (List.length (((p1++(ay y3.1))++(ay y4.2.1))++(ay (il y1.2.2.1)))+List.length (ay y5.2.2.2.1)≤bn)) (.ret (.again ((p0,((((p1++(ay y3.1))++(ay y4.2.1))++(ay (il y1.2.2.1)))++(ay y5.2.2.2.1)),(abs (p2+(1:Int))),()),()))) .fail) .fail) .fail) .fail) .fail) .fail) .fail) (.ite (decide (0≤p2)) (.get (nth p0 (Int.toNat p2)) λy6=> .ite (decide (List.length p1+List.length (ay y6.1)≤bn)) (.ite (decide (0≤p2)) (.get (nth p0 (Int.toNat p2)) λy7=> .ite (decide (List.length (p1++(ay y6.1))+List.length (ay y7.2.1)≤bn)) (.ite (decide (List.length ((p1++(ay y6.1))++(ay y7.2.1))+List.length (ay y1.2.2.1)≤bn)) (.ite (decide (0≤p2)) (.get (nth p0 (Int.toNat p2)) λy8=> .ite (decide (List.length (((p1++(ay y6.1))++(ay y7.2.1))++(ay y1.2.2.1))+List.length (ay y8.2.2.2.1)≤bn)) (.ret (.again ((p0,((((p1++(ay y6.1))++(ay y7.2.1))++(ay y1.2.2.1))++(ay y8.2.2.2.1)),(abs (p2+(1:Int))),()),()))) .fail) .fail) .fail) .fail) .fail) .fail) .fail)) .fail) .fail) (.ret (.out ((p1,()),())))
def s8 (a0:List ar):Out gc:= .get (aP wD aI ((a0,(ay ((List.length a0:Nat):Int)),(0:Int),()),())) λy1=> .ret (((y1.1.1,()),()),((),()))
def agU:Nat→Option au:=λn=>bw [(0,⟨⟨[.ro cT (some 0), .dead, .dead, .s, .i .i64]++dd 49,[]⟩,⟨[.dead, .dead, .dead, .s]++dd 50,[]⟩,none,false⟩)] n
def Kp:bK:={ f:=120,lend:=true,aF:=[At],lay:=[none],rs:=[wr],F:=λx=> .get (iK x.1.1) λy=> .ret (((y,()),()),((),())) }
theorem ZK (x:aw Kp.aF):bo [rq,Fj] agU Tryz.f120 Kp [.tmp 2] x=s8 x.1.1:=by kernel_rfl
theorem TA (hr:∀ x:(List ar×Unit)×Unit,aB Kp.aF x→∀ y,(Kp.F x).eval=some y→(s8 x.1.1).eval=some y):Kp.Ok acl:=aD [rq,Fj] ⟨s9,OT,trivial⟩ ZK hr
theorem ZL:Kp.Ok acl:=by
 refine TA λx hw y hy=> ?_;obtain ⟨⟨a0,_⟩,_⟩:=x;have l0:List.length a0≤cj:=hw.1.1.1;change (Out.get (iK a0) λy=>Out.ret (((y,()),()),((),()))).eval=some y at hy;show (s8 a0).eval=some y;unfold iK at hy;by_cases hp:bm a0=true
 case neg=>rw [aae hp] at hy;exact nomatch hy
 rw [aaZ hp] at hy;refine afk ?_ hy;unfold s8;have hlen:=Cw hp;have hb:=dR o6 28 a0 λx _=>Cj x;have v0:=bQ ((List.length a0:Nat):Int);have h:aP wD aI ((a0,(ay ((List.length a0:Nat):Int)),(0:Int),()),())=some ((((ay ((List.length a0:Nat):Int))++List.flatMap o6 a0),()),()):=di (f:=wD) o6 a0 (λd i=>((a0,d,((i:Nat):Int),()),())) (λd=>((d,()),())) 1000000
  (λi hi d hd=>by
   have h1:=aq (i:=i) (by omega);cases q:(a0[i].1==(1:Int))
   case' false=>rw [Tz q] at hd ⊢
   case' true=>rw [Tx q] at hd ⊢
   all_goals (try simp only [aaY] at hd)
   all_goals (simp only [wD,Out.eval,iZ hi,pQ,bD hi,adN,aed,aex,h1,q])
   all_goals (repeat rw [fe (by (try simp only [aaY]);omega)])
   all_goals (try simp only [adO])
   all_goals (try rfl))
  (λd=>by simp [wD,Out.eval]) l0 (ay ((List.length a0:Nat):Int)) (by omega)
 exact (aa h).trans rfl
abbrev TB:=(List UInt8×List ar×Int×Int×Unit)×(Unit)
def Cy:TB→Out (Round TB mt Empty)
|((p0,p1,p2,p3,_),_)=> .ite (decide (p3<p2)) (.ite (decide (0≤p3)) (.get (nth p1 (Int.toNat p3)) λy1=> .ite (decide (List.length (ay y1.1)+List.length (ay y1.2.1)≤bn)) (.ite (decide (List.length p0+List.length ((ay y1.1)++(ay y1.2.1))≤bn)) (.ite ((y1.1==(1:Int))) (.ite (decide (List.length (p0++((ay y1.1)++(ay y1.2.1)))+List.length (jY y1.2.2.1)≤bn)) (.ite (decide (List.length ((p0++((ay y1.1)++(ay y1.2.1)))++(jY y1.2.2.1))+List.length (ay y1.2.2.2.1)≤bn)) (.ret (.again (((((p0++((ay y1.1)++(ay y1.2.1)))++(jY y1.2.2.1))++(ay y1.2.2.2.1)),p1,p2,(abs (p3+(1:Int))),()),()))) .fail) .fail) (.ite (decide (List.length (p0++((ay y1.1)++(ay y1.2.1)))+List.length (ay y1.2.2.1)≤bn)) (.ite (decide (List.length ((p0++((ay y1.1)++(ay y1.2.1)))++(ay y1.2.2.1))+List.length (ay y1.2.2.2.1)≤bn)) (.ret (.again (((((p0++((ay y1.1)++(ay y1.2.1)))++(ay y1.2.2.1))++(ay y1.2.2.2.1)),p1,p2,(abs (p3+(1:Int))),()),()))) .fail) .fail)) .fail) .fail) .fail) (.ret (.out ((p0,()),())))
def wE (a0:List ar):Out gc:= .ite (!(bm a0)) (.ret (((([]:List UInt8),()),()),((),()))) (.get (aP Cy aI (((ay ((List.length a0:Nat):Int)),a0,((List.length a0:Nat):Int),(0:Int),()),())) λy1=> .ret (((y1.1.1,()),()),((),())))
def am3:Nat→Option au:=λn=>bw [(0,⟨⟨[.dead, .dead, .dead, .s]++dd 8++[.ro cT (some 0), .i .i64, .i .i64]++dd 32,[]⟩,⟨[.dead, .dead, .dead, .s]++dd 43,[]⟩,none,false⟩)] n
def k19:bK:={ f:=19,lend:=true,aF:=[At],lay:=[none],rs:=[wr],F:=λx=> .get (iK x.1.1) λy=> .ret (((y,()),()),((),())) }
theorem agV (x:aw k19.aF):bo [Sj,JI,YZ] am3 Tryz.f19 k19 [.tmp 2] x=wE x.1.1:=by kernel_rfl
theorem ZM (hr:∀ x:(List ar×Unit)×Unit,aB k19.aF x→∀ y,(k19.F x).eval=some y→(wE x.1.1).eval=some y):k19.Ok acl:=aD [Sj,JI,YZ] ⟨Nd,yU,TC,trivial⟩ agV hr
theorem agW:k19.Ok acl:=by
 refine ZM λx hw y hy=> ?_;obtain ⟨⟨a0,_⟩,_⟩:=x;have l0:List.length a0≤cj:=hw.1.1.1;change (Out.get (iK a0) λy=>Out.ret (((y,()),()),((),()))).eval=some y at hy;show (wE a0).eval=some y;unfold iK at hy;by_cases hp:bm a0=true
 case neg=>rw [aae hp] at hy;exact nomatch hy
 rw [aaZ hp] at hy;refine afk ?_ hy;unfold wE;rw [ae (by simp [hp])];have hlen:=Cw hp;have hb:=dR o6 28 a0 λx _=>Cj x;have v0:=bQ ((List.length a0:Nat):Int);have h:aP Cy aI (((ay ((List.length a0:Nat):Int)),a0,((List.length a0:Nat):Int),(0:Int),()),())=some ((((ay ((List.length a0:Nat):Int))++List.flatMap o6 a0),()),()):=di (f:=Cy) o6 a0 (λd i=>((d,a0,((List.length a0:Nat):Int),((i:Nat):Int),()),())) (λd=>((d,()),())) 1000000
  (λi hi d hd=>by
   have h1:=aq (i:=i) (by omega);cases q:(a0[i].1==(1:Int))
   case' false=>rw [Tz q] at hd ⊢
   case' true=>rw [agT q] at hd ⊢
   all_goals (try simp only [aaY] at hd)
   all_goals (simp only [Cy,Out.eval,iZ hi,pQ,bD hi,adN,aed,aex,h1,q])
   all_goals (repeat rw [fe (by (try simp only [aaY]);omega)])
   all_goals (try simp only [adO])
   all_goals (try rfl))
  (λd=>by simp [Cy,Out.eval]) l0 (ay ((List.length a0:Nat):Int)) (by omega)
 exact (aa h).trans rfl
def ql (l:List Int) (more:Int):Option bs:=if l.length≤100 then some (gh more l) else none
def Kq (l:List Int):Option bs:=ql l 1
abbrev OU:=(List Int×List UInt8×Int×Unit)×(Unit)
def wF:OU→Out (Round OU mt Empty)
|((p0,p1,p2,_),_)=> .ite (decide (p2<((List.length p0:Nat):Int))) (.ite (decide (0≤p2)) (.get (nth p0 (Int.toNat p2)) λy1=> .ite (decide (List.length p1+List.length (ay (abs (y1+(1:Int))))≤bn)) (.ret (.again ((p0,(p1++(ay (abs (y1+(1:Int))))),(abs (p2+(1:Int))),()),()))) .fail) .fail) (.ret (.out ((p1,()),())))
def ta (a0:List Int):Out gc:= .get (aP wF aI ((a0,(ay ((List.length a0:Nat):Int)),(0:Int),()),())) λy1=> .ret (((y1.1.1,()),()),((),()))
def agX:Nat→Option au:=λn=>bw [(0,⟨⟨[.ro (.int .i64) (some 0), .dead, .dead, .s, .i .i64]++dd 18,[]⟩,⟨[.dead, .dead, .dead, .s]++dd 19,[]⟩,none,false⟩)] n
def Kr:bK:={ f:=147,lend:=true,aF:=[ww],lay:=[none],rs:=[wr],F:=λx=> .get (Kq x.1.1) λy=> .ret (((y,()),()),((),())) }
theorem ZN (x:aw Kr.aF):bo [rq] agX Tryz.f147 Kr [.tmp 2] x=ta x.1.1:=by kernel_rfl
theorem TD (hr:∀ x:(List Int×Unit)×Unit,aB Kr.aF x→∀ y,(Kr.F x).eval=some y→(ta x.1.1).eval=some y):Kr.Ok acl:=aD [rq] ⟨s9,trivial⟩ ZN hr
theorem ZO:Kr.Ok acl:=by
 refine TD λx hw y hy=> ?_;obtain ⟨⟨a0,_⟩,_⟩:=x;have l0:List.length a0≤cj:=hw.1.1.1;change (Out.get (Kq a0) λy=>Out.ret (((y,()),()),((),()))).eval=some y at hy;show (ta a0).eval=some y;unfold Kq ql at hy;by_cases hp:List.length a0≤100
 case neg=>rw [aae hp] at hy;exact nomatch hy
 rw [aaZ hp] at hy;refine afk ?_ hy;unfold ta;have hb:=dR (λn=>ay (abs (n+1))) 7 a0 λx _=>bQ _;have v0:=bQ ((List.length a0:Nat):Int);have h:aP wF aI ((a0,(ay ((List.length a0:Nat):Int)),(0:Int),()),())=some ((((ay ((List.length a0:Nat):Int))++List.flatMap (λn=>ay (abs (n+1))) a0),()),()):=di (f:=wF) (λn=>ay (abs (n+1))) a0 (λd i=>((a0,d,((i:Nat):Int),()),())) (λd=>((d,()),())) 1000000
  (λi hi d hd=>by
   have h1:=aq (i:=i) (by omega)
   skip
   all_goals (try simp only [aaY,aay,adC] at hd)
   all_goals (simp only [wF,Out.eval,iZ hi,pQ,bD hi,adN,aed,h1])
   all_goals (repeat rw [fe (by (try simp only [aaY,aay,adC]);omega)])
   all_goals (try simp only [adO])
   all_goals (try rfl))
  (λd=>by simp [wF,Out.eval]) l0 (ay ((List.length a0:Nat):Int)) (by omega)
 exact (aa h).trans rfl
abbrev TE:=(Int×List UInt8×XE)×(Unit)
def Cz:TE→Out (Round TE mt Empty)
|((p0,p1,p2,p3,p4,_),_)=> .ite (decide (p4<p3)) (.ite (decide (0≤p4)) (.get (nth p2 (Int.toNat p4)) λy1=> .ite (decide (List.length p1+List.length (ay (abs (y1+p0)))≤bn)) (.ret (.again ((p0,(p1++(ay (abs (y1+p0)))),p2,p3,(abs (p4+(1:Int))),()),()))) .fail) .fail) (.ret (.out ((p1,()),())))
def wG (a0:List Int) (a1:Int):Out (((List UInt8×Unit)×Unit)×XI):= .get (aP Cz aI ((a1,(ay ((List.length a0:Nat):Int)),a0,((List.length a0:Nat):Int),(0:Int),()),())) λy1=> .ret (((y1.1.1,()),()),((),(),()))
def am4:Nat→Option au:=λn=>bw [(0,⟨⟨[.dead, .i .i64, .dead, .dead, .dead, .s]++dd 5++[.ro (.int .i64) (some 0), .i .i64, .i .i64]++dd 11,[]⟩,⟨dd 5++[.s]++dd 19,[]⟩,none,false⟩)] n
def k22:bK:={ f:=22,lend:=true,aF:=[ww,wl],lay:=[none,none],rs:=[wr],F:=λx=> .get (ql x.1.1 x.2.1.1) λy=> .ret (((y,()),()),((),(),())) }
theorem agY (x:aw k22.aF):bo [JI] am4 Tryz.f22 k22 [.tmp 4] x=wG x.1.1 x.2.1.1:=by kernel_rfl
theorem ZP (hr:∀ x:(List Int×Unit)×(Int×Unit)×Unit,aB k22.aF x→∀ y,(k22.F x).eval=some y→(wG x.1.1 x.2.1.1).eval=some y):k22.Ok acl:=aD [JI] ⟨yU,trivial⟩ agY hr
theorem agZ:k22.Ok acl:=by
 refine ZP λx hw y hy=> ?_;obtain ⟨⟨a0,_⟩,⟨a1,_⟩,_⟩:=x;have l0:List.length a0≤cj:=hw.1.1.1;change (Out.get (ql a0 a1) λy=>Out.ret (((y,()),()),((),(),()))).eval=some y at hy;show (wG a0 a1).eval=some y;unfold ql at hy;by_cases hp:List.length a0≤100
 case neg=>rw [aae hp] at hy;exact nomatch hy
 rw [aaZ hp] at hy;refine afk ?_ hy;unfold wG;have hb:=dR (λn=>ay (abs (n+a1))) 7 a0 λx _=>bQ _;have v0:=bQ ((List.length a0:Nat):Int);have h:aP Cz aI ((a1,(ay ((List.length a0:Nat):Int)),a0,((List.length a0:Nat):Int),(0:Int),()),())=some ((((ay ((List.length a0:Nat):Int))++List.flatMap (λn=>ay (abs (n+a1))) a0),()),()):=di (f:=Cz) (λn=>ay (abs (n+a1))) a0 (λd i=>((a1,d,a0,((List.length a0:Nat):Int),((i:Nat):Int),()),())) (λd=>((d,()),())) 1000000
  (λi hi d hd=>by
   have h1:=aq (i:=i) (by omega)
   skip
   all_goals (try simp only [aaY,aay,adC] at hd)
   all_goals (simp only [Cz,Out.eval,iZ hi,pQ,bD hi,adN,aed,h1])
   all_goals (repeat rw [fe (by (try simp only [aaY,aay,adC]);omega)])
   all_goals (try simp only [adO])
   all_goals (try rfl))
  (λd=>by simp [Cz,Out.eval]) l0 (ay ((List.length a0:Nat):Int)) (by omega)
 exact (aa h).trans rfl
theorem fB {d:List Int} (h:d.length≤100):ft d=some (cQ d):=jj (by grind [jz,jQ])
def yV (a0 a1 a2 a3 a4:Int) (a5 a6 a7:List Int) (a8 a9:Int):Out gc:= .ite (decide (List.length (ay a0)+List.length (ay a1)≤bn)) (.ite (decide (List.length ((ay a0)++(ay a1))+List.length (ay a2)≤bn)) (.ite (decide (List.length (((ay a0)++(ay a1))++(ay a2))+List.length (ay a3)≤bn)) (.ite (decide (List.length ((((ay a0)++(ay a1))++(ay a2))++(ay a3))+List.length (ay a4)≤bn)) (.get (ft a5) λy1=> .ite (decide (List.length (((((ay a0)++(ay a1))++(ay a2))++(ay a3))++(ay a4))+List.length y1≤bn)) (.get (ft a6) λy2=> .ite (decide (List.length ((((((ay a0)++(ay a1))++(ay a2))++(ay a3))++(ay a4))++y1)+List.length y2≤bn)) (.get (Kq a7) λy3=> .ite (decide (List.length (((((((ay a0)++(ay a1))++(ay a2))++(ay a3))++(ay a4))++y1)++y2)+List.length y3≤bn)) (.ite (decide (List.length ((((((((ay a0)++(ay a1))++(ay a2))++(ay a3))++(ay a4))++y1)++y2)++y3)+List.length (ay a8)≤bn)) (.get (ft ([a9]:List Int)) λy4=> .ite (decide (List.length (((((((((ay a0)++(ay a1))++(ay a2))++(ay a3))++(ay a4))++y1)++y2)++y3)++(ay a8))+List.length y4≤bn)) (.ret (((((((((((((ay a0)++(ay a1))++(ay a2))++(ay a3))++(ay a4))++y1)++y2)++y3)++(ay a8))++y4),()),()),((),()))) .fail) .fail) .fail) .fail) .fail) .fail) .fail) .fail) .fail
def CA (pid par st pg pc:Int) (iY mem fds:List Int) (n6 code:Int):Option bs:=
 if iY.length≤100∧mem.length≤100∧fds.length≤100 then some (jM (pid,(par,(st,(pg,((pc,(iY,())),(mem,(fds,(n6,(code,()))))))))) ) else none
def Ks:bK:={ f:=121,lend:=true,aF:=[Fn],lay:=[none],rs:=[wr],F:=λx=> .get (CA x.1.1 x.1.2.1 x.1.2.2.1 x.1.2.2.2.1 x.1.2.2.2.2.1 x.1.2.2.2.2.2.1 x.1.2.2.2.2.2.2.1 x.1.2.2.2.2.2.2.2.1 x.1.2.2.2.2.2.2.2.2.1 x.1.2.2.2.2.2.2.2.2.2.1) λy=> .ret (((y,()),()),((),())) }
abbrev TF:Type:=XM×Unit
abbrev TG (x:TF):=yV x.1.1 x.1.2.1 x.1.2.2.1 x.1.2.2.2.1 x.1.2.2.2.2.1 x.1.2.2.2.2.2.1 x.1.2.2.2.2.2.2.1 x.1.2.2.2.2.2.2.2.1 x.1.2.2.2.2.2.2.2.2.1 x.1.2.2.2.2.2.2.2.2.2.1
theorem ZQ (x:aw Ks.aF):bo [rq,Fk,Kr] (λ_=>none) Tryz.f121 Ks [.tmp 2] x=TG x:=by kernel_rfl
theorem TH (hr:∀ x:TF,aB Ks.aF x→∀ y,(Ks.F x).eval=some y→(TG x).eval=some y):Ks.Ok acl:=aD [rq,Fk,Kr] ⟨s9,OV,ZO,trivial⟩ ZQ hr
theorem ZR:Ks.Ok acl:=by
 refine TH λx hw y hy=> ?_;obtain ⟨⟨a0,a1,a2,a3,a4,a5,a6,a7,a8,a9,_⟩,_⟩:=x;change (Out.get (CA a0 a1 a2 a3 a4 a5 a6 a7 a8 a9) λy=>Out.ret (((y,()),()),((),()))).eval=some y at hy;show (yV a0 a1 a2 a3 a4 a5 a6 a7 a8 a9).eval=some y;unfold CA at hy;by_cases hp:List.length a5≤100∧List.length a6≤100∧List.length a7≤100
 case neg=>rw [aae hp] at hy;exact nomatch hy
 rw [aaZ hp] at hy;refine afk ?_ hy;unfold yV;have e1:=fB hp.1;have e2:=fB hp.2.1;have e3:Kq a7=some (gh 1 a7):=aaZ hp.2.2;have e4:ft [a9]=some (cQ [a9]):=fB (by simp);have v1:=bQ a0;have v2:=bQ a1;have v3:=bQ a2;have v4:=bQ a3;have v5:=bQ a4;have v6:=jz a5;have v7:=jz a6;have v8:=yN 1 a7;have v9:=bQ a8;have v10:=jz [a9];simp only [aay,adC] at v10;simp only [Out.eval,e1,e2,e3,e4,adN]
 repeat rw [fe (by (try simp only [aaY]);omega)]
 grind [jM,List.append_assoc]
theorem vf {next tick:Int} {dO:List (List ar)} {ps:List af} {os:List ai} {cA:List fq} {files:List cB} {rd out:List Int} (h:cw next tick dO ps os cA files rd out=true):
  dO.length≤4∧(∀ x∈dO,bm x=true)∧ps.length≤6∧os.length≤8∧cA.length≤3∧(∀ x∈cA,x.2.1.length≤4)∧files.length≤6∧(∀ x∈files,x.2.1.length≤8)∧rd.length≤6∧out.length≤60∧∀ x∈rd,1≤x∧x≤100000:=by
 unfold cw im cH nb at h;simp only [aa6,adS] at h;obtain ⟨⟨⟨⟨⟨⟨⟨⟨⟨n1,t1⟩,⟨p1,p2⟩,p3⟩,o1⟩,o2⟩,q1⟩,q2⟩,r1⟩,⟨⟨⟨⟨⟨k1,k2⟩,k3⟩,k4⟩,k5⟩,k6⟩⟩,⟨w1,w2⟩⟩:=h;have hf:=adG.1 (o7 k6);have uv:=adG.1 (o7 k5);have ZA:=adG.1 (o7 r1);have hle:(aN ps).length≤ps.length:=by grind [aN,List.length_map,List.length_filter_le]
 refine ⟨p2,adG.1 p3,q1,k1,k2,λx hx=> ?_,k3,λx hx=> ?_,by omega,o1,λx hx=> ?_⟩
 . have:=uv x hx
   unfold ko at this;grind
 . have:=hf x hx
   simp_all [fA]
 . have hn:(aN ps).Nodup:=(rP r1).imp λh e=>by omega
   have hp:=n7 hn (λy hy=>rQ.1 (adG.1 w1 y hy)) w2;have Sk:=hp.mem_iff.2 hx;unfold aN at Sk;obtain ⟨p,hp1,rfl⟩:=List.mem_map.1 Sk;have:=ZA p (List.mem_filter.1 hp1).1;unfold fL at this;rw [aa6] at this;grind [dL,bt,aA]
def CB (next tick:Int) (dO:List (List ar)) (ps:List af) (os:List ai) (cA:List fq) (files:List cB) (rd out:List Int):Option bs:=
 if cw next tick dO ps os cA files rd out=true then some (lr next tick dO ps os cA files rd out) else none
theorem F4 {next tick:Int} {dO:List (List ar)} {ps:List af} {os:List ai} {cA:List fq} {files:List cB} {rd out:List Int} (h:cw next tick dO ps os cA files rd out=true):
  (dO.flatMap jL).length≤4508∧(ps.flatMap jM).length≤1800∧(os.flatMap kx).length≤280∧(cA.flatMap gV).length≤210∧(files.flatMap gV).length≤420∧(rd.flatMap ay).length≤42∧(gh 0 rd).length≤49∧(cQ out).length≤427:=by
 obtain ⟨p1,p2,q1,k1,k2,k4,k3,k6,r1,o1,_⟩:=vf h;have g1:=dR jL 1127 dO (by grind [QU,Cw]);have g2:=dR jM 300 ps λx hx=>by
  grind [vg,QV]
 have g3:=dR kx 35 os λx _=>QW x;have g4:=dR gV 70 cA (by grind [FW]);have g5:=dR gV 70 files (by grind [FW]);have g6:=dR ay 7 rd λx _=>bQ x;grind [yN,jz]
theorem TI {rd:List Int} (h:∀ x∈rd,1≤x∧x≤100000):gh 0 rd=ay ((rd.length:Nat):Int)++rd.flatMap ay:=(yO λx hx=>by have:=h x hx;unfold b7;omega).symm
theorem TJ (o:ai):kx o=ay o.1++(ay o.2.1++(ay o.2.2.1++(ay o.2.2.2.1++ay o.2.2.2.2.1))):=rfl
theorem Kt (o:cB):gV o=ay o.1++cQ o.2.1:=rfl
abbrev TK:=(List UInt8×Int×Unit)×(bA×Unit)
def CD:TK→Out (Round TK ol Empty)
|((p0,p1,_),(p2,p3,p4,p5,p6,p7,p8,p9,bL,_),_)=> .ite (decide (p1<((List.length p4:Nat):Int))) (.ite (decide (0≤p1)) (.get (nth p4 (Int.toNat p1)) λy1=> .get (iK y1) λy2=> .ite (decide (List.length p0+List.length y2≤bn)) (.ret (.again (((p0++y2),(abs (p1+(1:Int))),()),((p2,p3,p4,p5,p6,p7,p8,p9,bL,()),())))) .fail) .fail) (.ret (.out ((p0,()),((p2,p3,p4,p5,p6,p7,p8,p9,bL,()),()))))
abbrev TL:=(List UInt8×Int×Unit)×(bA×Unit)
def CE:TL→Out (Round TL ol Empty)
|((p0,p1,_),(p2,p3,p4,p5,p6,p7,p8,p9,bL,_),_)=> .ite (decide (p1<((List.length p5:Nat):Int))) (.ite (decide (0≤p1)) (.get (nth p5 (Int.toNat p1)) λy1=> .get (CA y1.1 y1.2.1 y1.2.2.1 y1.2.2.2.1 y1.2.2.2.2.1.1 y1.2.2.2.2.1.2.1 y1.2.2.2.2.2.1 y1.2.2.2.2.2.2.1 y1.2.2.2.2.2.2.2.1 y1.2.2.2.2.2.2.2.2.1) λy2=> .ite (decide (List.length p0+List.length y2≤bn)) (.ret (.again (((p0++y2),(abs (p1+(1:Int))),()),((p2,p3,p4,p5,p6,p7,p8,p9,bL,()),())))) .fail) .fail) (.ret (.out ((p0,()),((p2,p3,p4,p5,p6,p7,p8,p9,bL,()),()))))
abbrev TM:=(List UInt8×Int×Unit)×(bA×Unit)
def CF:TM→Out (Round TM ol Empty)
|((p0,p1,_),(p2,p3,p4,p5,p6,p7,p8,p9,bL,_),_)=> .ite (decide (p1<((List.length p6:Nat):Int))) (.ite (decide (0≤p1)) (.get (nth p6 (Int.toNat p1)) λy1=> .ite (decide (List.length p0+List.length (ay y1.1)≤bn)) (.ite (decide (List.length (p0++(ay y1.1))+List.length (ay y1.2.1)≤bn)) (.ite (decide (List.length ((p0++(ay y1.1))++(ay y1.2.1))+List.length (ay y1.2.2.1)≤bn)) (.ite (decide (List.length (((p0++(ay y1.1))++(ay y1.2.1))++(ay y1.2.2.1))+List.length (ay y1.2.2.2.1)≤bn)) (.ite (decide (List.length ((((p0++(ay y1.1))++(ay y1.2.1))++(ay y1.2.2.1))++(ay y1.2.2.2.1))+List.length (ay y1.2.2.2.2.1)≤bn)) (.ret (.again (((((((p0++(ay y1.1))++(ay y1.2.1))++(ay y1.2.2.1))++(ay y1.2.2.2.1))++(ay y1.2.2.2.2.1)),(abs (p1+(1:Int))),()),((p2,p3,p4,p5,p6,p7,p8,p9,bL,()),())))) .fail) .fail) .fail) .fail) .fail) .fail) (.ret (.out ((p0,()),((p2,p3,p4,p5,p6,p7,p8,p9,bL,()),()))))
abbrev TN:=(List UInt8×Int×Unit)×(bA×Unit)
def CG:TN→Out (Round TN ol Empty)
|((p0,p1,_),(p2,p3,p4,p5,p6,p7,p8,p9,bL,_),_)=> .ite (decide (p1<((List.length p7:Nat):Int))) (.ite (decide (0≤p1)) (.get (nth p7 (Int.toNat p1)) λy1=> .ite (decide (List.length p0+List.length (ay y1.1)≤bn)) (.ite (decide (0≤p1)) (.get (nth p7 (Int.toNat p1)) λy2=> .get (ft y2.2.1) λy3=> .ite (decide (List.length (p0++(ay y1.1))+List.length y3≤bn)) (.ret (.again ((((p0++(ay y1.1))++y3),(abs (p1+(1:Int))),()),((p2,p3,p4,p5,p6,p7,p8,p9,bL,()),())))) .fail) .fail) .fail) .fail) (.ret (.out ((p0,()),((p2,p3,p4,p5,p6,p7,p8,p9,bL,()),()))))
abbrev TO:=(List UInt8×Int×Unit)×(bA×Unit)
def CH:TO→Out (Round TO ol Empty)
|((p0,p1,_),(p2,p3,p4,p5,p6,p7,p8,p9,bL,_),_)=> .ite (decide (p1<((List.length p8:Nat):Int))) (.ite (decide (0≤p1)) (.get (nth p8 (Int.toNat p1)) λy1=> .ite (decide (List.length p0+List.length (ay y1.1)≤bn)) (.ite (decide (0≤p1)) (.get (nth p8 (Int.toNat p1)) λy2=> .get (ft y2.2.1) λy3=> .ite (decide (List.length (p0++(ay y1.1))+List.length y3≤bn)) (.ret (.again ((((p0++(ay y1.1))++y3),(abs (p1+(1:Int))),()),((p2,p3,p4,p5,p6,p7,p8,p9,bL,()),())))) .fail) .fail) .fail) .fail) (.ret (.out ((p0,()),((p2,p3,p4,p5,p6,p7,p8,p9,bL,()),()))))
abbrev OW:=(List UInt8×Int×Unit)×(bA×Unit)
def wH:OW→Out (Round OW ol Empty)
|((p0,p1,_),(p2,p3,p4,p5,p6,p7,p8,p9,bL,_),_)=> .ite (decide (p1<((List.length p9:Nat):Int))) (.ite (decide (0≤p1)) (.get (nth p9 (Int.toNat p1)) λy1=> .ite (decide (List.length p0+List.length (ay y1)≤bn)) (.ret (.again (((p0++(ay y1)),(abs (p1+(1:Int))),()),((p2,p3,p4,p5,p6,p7,p8,p9,bL,()),())))) .fail) .fail) (.ret (.out ((p0,()),((p2,p3,p4,p5,p6,p7,p8,p9,bL,()),()))))
def CI (a0 a1:Int) (a2:List (List ar)) (a3:List af) (a4:List ai) (a5 a6:List ah) (a7 a8:List Int):Out gc:= .ite (decide (List.length ([117]:List UInt8)+List.length (ay a0)≤bn)) (.ite (decide (List.length (([117]:List UInt8)++(ay a0))+List.length (ay a1)≤bn)) (.ite (decide (List.length ((([117]:List UInt8)++(ay a0))++(ay a1))+List.length (ay ((List.length a2:Nat):Int))≤bn)) (.get (aP CD aI (((((([117]:List UInt8)++(ay a0))++(ay a1))++(ay ((List.length a2:Nat):Int))),(0:Int),()),((a0,a1,a2,a3,a4,a5,a6,a7,a8,()),()))) λy1=> .ite (decide (List.length y1.1.1+List.length (ay ((List.length y1.2.1.2.2.2.1:Nat):Int))≤bn)) (.get (aP CE aI (((y1.1.1++(ay ((List.length y1.2.1.2.2.2.1:Nat):Int))),(0:Int),()),((y1.2.1.1,y1.2.1.2.1,y1.2.1.2.2.1,y1.2.1.2.2.2.1,y1.2.1.2.2.2.2.1,y1.2.1.2.2.2.2.2.1,y1.2.1.2.2.2.2.2.2.1,y1.2.1.2.2.2.2.2.2.2.1,y1.2.1.2.2.2.2.2.2.2.2.1,()),()))) λy2=> .ite (decide (List.length y2.1.1+List.length (ay ((List.length y2.2.1.2.2.2.2.1:Nat):Int))≤bn)) (.get (aP CF aI (((y2.1.1++(ay ((List.length y2.2.1.2.2.2.2.1:Nat):Int))),(0:Int),()),((y2.2.1.1,y2.2.1.2.1,y2.2.1.2.2.1,y2.2.1.2.2.2.1,y2.2.1.2.2.2.2.1,y2.2.1.2.2.2.2.2.1,y2.2.1.2.2.2.2.2.2.1,y2.2.1.2.2.2.2.2.2.2.1,y2.2.1.2.2.2.2.2.2.2.2.1,()),()))) λy3=> .ite (decide (List.length y3.1.1+List.length (ay ((List.length y3.2.1.2.2.2.2.2.1:Nat):Int))≤bn)) (.get (aP CG aI (((y3.1.1++(ay ((List.length y3.2.1.2.2.2.2.2.1:Nat):Int))),(0:Int),()),((y3.2.1.1,y3.2.1.2.1,y3.2.1.2.2.1,y3.2.1.2.2.2.1,y3.2.1.2.2.2.2.1,y3.2.1.2.2.2.2.2.1,y3.2.1.2.2.2.2.2.2.1,y3.2.1.2.2.2.2.2.2.2.1,y3.2.1.2.2.2.2.2.2.2.2.1,()),()))) λy4=> .ite (decide (List.length y4.1.1+List.length (ay ((List.length y4.2.1.2.2.2.2.2.2.1:Nat):Int))≤bn)) (.get (aP CH aI (((y4.1.1++(ay ((List.length y4.2.1.2.2.2.2.2.2.1:Nat):Int))),(0:Int),()),((y4.2.1.1,y4.2.1.2.1,y4.2.1.2.2.1,y4.2.1.2.2.2.1,y4.2.1.2.2.2.2.1,y4.2.1.2.2.2.2.2.1,y4.2.1.2.2.2.2.2.2.1,y4.2.1.2.2.2.2.2.2.2.1,y4.2.1.2.2.2.2.2.2.2.2.1,()),()))) λy5=> .ite (decide (List.length y5.1.1+List.length (ay ((List.length y5.2.1.2.2.2.2.2.2.2.1:Nat):Int))≤bn)) (.get (aP wH aI (((y5.1.1++(ay ((List.length y5.2.1.2.2.2.2.2.2.2.1:Nat):Int))),(0:Int),()),((y5.2.1.1,y5.2.1.2.1,y5.2.1.2.2.1,y5.2.1.2.2.2.1,y5.2.1.2.2.2.2.1,y5.2.1.2.2.2.2.2.1,y5.2.1.2.2.2.2.2.2.1,y5.2.1.2.2.2.2.2.2.2.1,y5.2.1.2.2.2.2.2.2.2.2.1,()),()))) λy6=> .get (ft y6.2.1.2.2.2.2.2.2.2.2.1) λy7=> .ite (decide (List.length y6.1.1+List.length y7≤bn)) (.ret ((((y6.1.1++y7),()),()),((),()))) .fail) .fail) .fail) .fail) .fail) .fail) .fail) .fail) .fail
abbrev mu:List (Nat×dT):=[(act, .var [.i .i64, .i .i64, .ro (.sl cT) (some 0), .ro jc (some 1), .ro eF (some 2), .ro dp (some 3), .ro dp (some 4), .ro (.int .i64) (some 5), .ro (.int .i64) (some 6)])]
def am5:Nat→Option au:=λn=>bw [(0,⟨⟨[.dead, .vptr act 0, .dead, .s, .i .i64]++dd 180,mu⟩,⟨[.dead, .vptr act 0, .dead, .s]++dd 181,mu⟩,none,false⟩),(2,⟨⟨[.dead, .vptr act 0, .dead, .s, .dead, .i .i64]++dd 179,mu⟩,⟨[.dead, .vptr act 0, .dead, .s]++dd 181,mu⟩,none,false⟩),(4,⟨⟨[.dead, .vptr act 0, .dead, .s, .dead, .dead, .i .i64]++dd 178,mu⟩,⟨[.dead, .vptr act 0, .dead, .s]++dd 181,mu⟩,none,false⟩),(6,⟨⟨[.dead, .vptr act 0, .dead, .s]++dd 4++[.i .i64]++dd 176,mu⟩,⟨[.dead, .vptr act 0, .dead, .s]++dd 181,mu⟩,none,false⟩),(8,⟨⟨[.dead, .vptr act 0, .dead, .s]++dd 5++[.i .i64]++dd 175,mu⟩,⟨[.dead, .vptr act 0, .dead, .s]++dd 181,mu⟩,none,false⟩),(10,⟨⟨[.dead, .vptr act 0, .dead, .s]++dd 6++[.i .i64]++dd 174,mu⟩,⟨[.dead, .vptr act 0, .dead, .s]++dd 181,mu⟩,none,false⟩)] n
def k79:bK:={ f:=79,lend:=true,aF:=[ws],lay:=[none],rs:=[wr],F:=λx=> .get (CB x.1.1 x.1.2.1 x.1.2.2.1 x.1.2.2.2.1 x.1.2.2.2.2.1 x.1.2.2.2.2.2.1 x.1.2.2.2.2.2.2.1 x.1.2.2.2.2.2.2.2.1 x.1.2.2.2.2.2.2.2.2.1) λy=> .ret (((y,()),()),((),())) }
abbrev adT:Type:=ac×Unit
abbrev adU (x:adT):=CI x.1.1 x.1.2.1 x.1.2.2.1 x.1.2.2.2.1 x.1.2.2.2.2.1 x.1.2.2.2.2.2.1 x.1.2.2.2.2.2.2.1 x.1.2.2.2.2.2.2.2.1 x.1.2.2.2.2.2.2.2.2.1
theorem ag0 (x:aw k79.aF):bo [rq,Kp,Ks,Fk] am5 Tryz.f79 k79 [.tmp 2] x=adU x:=by kernel_rfl
theorem ZS (hr:∀ x:adT,aB k79.aF x→∀ y,(k79.F x).eval=some y→(adU x).eval=some y):k79.Ok acl:=aD [rq,Kp,Ks,Fk] ⟨s9,ZL,ZR,OV,trivial⟩ ag0 hr
theorem ag1:k79.Ok acl:=by
 refine ZS λx hw y hy=> ?_;obtain ⟨⟨a0,a1,a2,a3,a4,a5,a6,a7,a8,_⟩,_⟩:=x;have l2:List.length a2≤cj:=hw.1.1.1;have l3:List.length a3≤cj:=hw.1.2.1.1;have l4:List.length a4≤cj:=hw.1.2.2.1.1;have l5:List.length a5≤cj:=hw.1.2.2.2.1.1;have l6:List.length a6≤cj:=hw.1.2.2.2.2.1.1;have l7:List.length a7≤cj:=hw.1.2.2.2.2.2.1.1;change (Out.get (CB a0 a1 a2 a3 a4 a5 a6 a7 a8) λy=>Out.ret (((y,()),()),((),()))).eval=some y at hy;show (CI a0 a1 a2 a3 a4 a5 a6 a7 a8).eval=some y;unfold CB at hy;by_cases hu:cw a0 a1 a2 a3 a4 a5 a6 a7 a8=true
 case neg=>rw [aae hu] at hy;exact nomatch hy
 rw [aaZ hu] at hy;refine afk ?_ hy;obtain ⟨p1,p2,q1,k1,k2,k4,k3,k6,r1,o1,r2⟩:=vf hu;obtain ⟨g1,g2,g3,g4,g5,g6,g7,g8⟩:=F4 hu;have v0:=bQ a0;have v1:=bQ a1;have v2:=bQ ((List.length a2:Nat):Int);have v3:=bQ ((List.length a3:Nat):Int);have v4:=bQ ((List.length a4:Nat):Int);have v5:=bQ ((List.length a5:Nat):Int);have v6:=bQ ((List.length a6:Nat):Int);have v7:=bQ ((List.length a7:Nat):Int);unfold CI
 repeat (refine (ab (iV (by (try simp only [aaY,aay,adC]);omega))).trans ?_)
 have h1:aP CD aI (((((([117]:List UInt8)++(ay a0))++(ay a1))++(ay ((List.length a2:Nat):Int))),(0:Int),()),((a0,a1,a2,a3,a4,a5,a6,a7,a8,()),()))=some ((((((([117]:List UInt8)++(ay a0))++(ay a1))++(ay ((List.length a2:Nat):Int)))++List.flatMap jL a2),()),((a0,a1,a2,a3,a4,a5,a6,a7,a8,()),())):=di (f:=CD) jL a2 (λd i=>((d,((i:Nat):Int),()),((a0,a1,a2,a3,a4,a5,a6,a7,a8,()),()))) (λd=>((d,()),((a0,a1,a2,a3,a4,a5,a6,a7,a8,()),()))) 1000000
  (λi hi d hd=>by
   have h1:=aq (i:=i) (by omega);have e1:iK a2[i]=some (jL a2[i]):=aaZ (p2 _ (ad9 hi))
   all_goals (try simp only [aaY,aay,adC] at hd)
   all_goals (simp only [CD,Out.eval,iZ hi,pQ,bD hi,adN,aed,h1,e1])
   all_goals (repeat rw [fe (by (try simp only [aaY,aay,adC]);omega)])
   all_goals (try simp only [adO])
   all_goals (try rfl))
  (λd=>by simp [CD,Out.eval]) l2 (((([117]:List UInt8)++(ay a0))++(ay a1))++(ay ((List.length a2:Nat):Int))) (by (try simp only [aaY,aay,adC]);omega)
 refine (aa h1).trans ?_;dsimp only;generalize es1:((((([117]:List UInt8)++(ay a0))++(ay a1))++(ay ((List.length a2:Nat):Int)))++List.flatMap jL a2)=s1;have ls1:List.length s1≤5000:=by rw [← es1];simp only [aaY,aay,adC];omega
 repeat (refine (ab (iV (by (try simp only [aaY,aay,adC]);omega))).trans ?_)
 have h2:aP CE aI (((s1++(ay ((List.length a3:Nat):Int))),(0:Int),()),((a0,a1,a2,a3,a4,a5,a6,a7,a8,()),()))=some ((((s1++(ay ((List.length a3:Nat):Int)))++List.flatMap jM a3),()),((a0,a1,a2,a3,a4,a5,a6,a7,a8,()),())):=di (f:=CE) jM a3 (λd i=>((d,((i:Nat):Int),()),((a0,a1,a2,a3,a4,a5,a6,a7,a8,()),()))) (λd=>((d,()),((a0,a1,a2,a3,a4,a5,a6,a7,a8,()),()))) 1000000
  (λi hi d hd=>by
   have h1:=aq (i:=i) (by omega);have sm:=vg hu (ad9 hi);have e1:CA a3[i].1 a3[i].2.1 a3[i].2.2.1 a3[i].2.2.2.1 a3[i].2.2.2.2.1.1 a3[i].2.2.2.2.1.2.1 a3[i].2.2.2.2.2.1 a3[i].2.2.2.2.2.2.1 a3[i].2.2.2.2.2.2.2.1 a3[i].2.2.2.2.2.2.2.2.1=some (jM a3[i]):=aaZ
   all_goals (try simp only [aaY,aay,adC] at hd)
   all_goals (simp only [CE,Out.eval,iZ hi,pQ,bD hi,adN,aed,h1,e1])
   all_goals (repeat rw [fe (by (try simp only [aaY,aay,adC]);omega)])
   all_goals (try simp only [adO])
   all_goals (try rfl))
  (λd=>by simp [CE,Out.eval]) l3 (s1++(ay ((List.length a3:Nat):Int))) (by (try simp only [aaY]);omega)
 refine (aa h2).trans ?_;dsimp only;generalize es2:((s1++(ay ((List.length a3:Nat):Int)))++List.flatMap jM a3)=s2;have ls2:List.length s2≤8000:=by rw [← es2];simp only [aaY];omega
 repeat (refine (ab (iV (by (try simp only [aaY,aay,adC]);omega))).trans ?_)
 have h3:aP CF aI (((s2++(ay ((List.length a4:Nat):Int))),(0:Int),()),((a0,a1,a2,a3,a4,a5,a6,a7,a8,()),()))=some ((((s2++(ay ((List.length a4:Nat):Int)))++List.flatMap kx a4),()),((a0,a1,a2,a3,a4,a5,a6,a7,a8,()),())):=di (f:=CF) kx a4 (λd i=>((d,((i:Nat):Int),()),((a0,a1,a2,a3,a4,a5,a6,a7,a8,()),()))) (λd=>((d,()),((a0,a1,a2,a3,a4,a5,a6,a7,a8,()),()))) 1000000
  (λi hi d hd=>by
   have h1:=aq (i:=i) (by omega);rw [TJ] at hd ⊢
   all_goals (try simp only [aaY] at hd)
   all_goals (simp only [CF,Out.eval,iZ hi,pQ,bD hi,adN,aed,h1])
   all_goals (repeat rw [fe (by (try simp only [aaY]);omega)])
   all_goals (try simp only [adO])
   all_goals (try rfl))
  (λd=>by simp [CF,Out.eval]) l4 (s2++(ay ((List.length a4:Nat):Int))) (by (try simp only [aaY]);omega)
 refine (aa h3).trans ?_;dsimp only;generalize es3:((s2++(ay ((List.length a4:Nat):Int)))++List.flatMap kx a4)=s3;have ls3:List.length s3≤10000:=by rw [← es3];simp only [aaY];omega
 repeat (refine (ab (iV (by (try simp only [aaY,aay,adC]);omega))).trans ?_)
 have h4:aP CG aI (((s3++(ay ((List.length a5:Nat):Int))),(0:Int),()),((a0,a1,a2,a3,a4,a5,a6,a7,a8,()),()))=some ((((s3++(ay ((List.length a5:Nat):Int)))++List.flatMap gV a5),()),((a0,a1,a2,a3,a4,a5,a6,a7,a8,()),())):=di (f:=CG) gV a5 (λd i=>((d,((i:Nat):Int),()),((a0,a1,a2,a3,a4,a5,a6,a7,a8,()),()))) (λd=>((d,()),((a0,a1,a2,a3,a4,a5,a6,a7,a8,()),()))) 1000000
  (λi hi d hd=>by
   have h1:=aq (i:=i) (by omega);have e1:=fB (show List.length a5[i].2.1≤100 from by have:=k4 _ (ad9 hi);omega);rw [Kt] at hd ⊢
   all_goals (try simp only [aaY] at hd)
   all_goals (simp only [CG,Out.eval,iZ hi,pQ,bD hi,adN,aed,h1,e1])
   all_goals (repeat rw [fe (by (try simp only [aaY]);omega)])
   all_goals (try simp only [adO])
   all_goals (try rfl))
  (λd=>by simp [CG,Out.eval]) l5 (s3++(ay ((List.length a5:Nat):Int))) (by (try simp only [aaY]);omega)
 refine (aa h4).trans ?_;dsimp only;generalize es4:((s3++(ay ((List.length a5:Nat):Int)))++List.flatMap gV a5)=s4;have ls4:List.length s4≤12000:=by rw [← es4];simp only [aaY];omega
 repeat (refine (ab (iV (by (try simp only [aaY,aay,adC]);omega))).trans ?_)
 have h5:aP CH aI (((s4++(ay ((List.length a6:Nat):Int))),(0:Int),()),((a0,a1,a2,a3,a4,a5,a6,a7,a8,()),()))=some ((((s4++(ay ((List.length a6:Nat):Int)))++List.flatMap gV a6),()),((a0,a1,a2,a3,a4,a5,a6,a7,a8,()),())):=di (f:=CH) gV a6 (λd i=>((d,((i:Nat):Int),()),((a0,a1,a2,a3,a4,a5,a6,a7,a8,()),()))) (λd=>((d,()),((a0,a1,a2,a3,a4,a5,a6,a7,a8,()),()))) 1000000
  (λi hi d hd=>by
   have h1:=aq (i:=i) (by omega);have e1:=fB (show List.length a6[i].2.1≤100 from by have:=k6 _ (ad9 hi);omega);rw [Kt] at hd ⊢
   all_goals (try simp only [aaY] at hd)
   all_goals (simp only [CH,Out.eval,iZ hi,pQ,bD hi,adN,aed,h1,e1])
   all_goals (repeat rw [fe (by (try simp only [aaY]);omega)])
   all_goals (try simp only [adO])
   all_goals (try rfl))
  (λd=>by simp [CH,Out.eval]) l6 (s4++(ay ((List.length a6:Nat):Int))) (by (try simp only [aaY]);omega)
 refine (aa h5).trans ?_;dsimp only;generalize es5:((s4++(ay ((List.length a6:Nat):Int)))++List.flatMap gV a6)=s5;have ls5:List.length s5≤14000:=by rw [← es5];simp only [aaY];omega
 repeat (refine (ab (iV (by (try simp only [aaY,aay,adC]);omega))).trans ?_)
 have h6:aP wH aI (((s5++(ay ((List.length a7:Nat):Int))),(0:Int),()),((a0,a1,a2,a3,a4,a5,a6,a7,a8,()),()))=some ((((s5++(ay ((List.length a7:Nat):Int)))++List.flatMap ay a7),()),((a0,a1,a2,a3,a4,a5,a6,a7,a8,()),())):=di (f:=wH) ay a7 (λd i=>((d,((i:Nat):Int),()),((a0,a1,a2,a3,a4,a5,a6,a7,a8,()),()))) (λd=>((d,()),((a0,a1,a2,a3,a4,a5,a6,a7,a8,()),()))) 1000000
  (λi hi d hd=>by
   have h1:=aq (i:=i) (by omega)
   skip
   all_goals (try simp only [aaY,aay,adC] at hd)
   all_goals (simp only [wH,Out.eval,iZ hi,pQ,bD hi,adN,aed,h1])
   all_goals (repeat rw [fe (by (try simp only [aaY,aay,adC]);omega)])
   all_goals (try simp only [adO])
   all_goals (try rfl))
  (λd=>by simp [wH,Out.eval]) l7 (s5++(ay ((List.length a7:Nat):Int))) (by (try simp only [aaY]);omega)
 refine (aa h6).trans ?_;dsimp only;generalize es6:((s5++(ay ((List.length a7:Nat):Int)))++List.flatMap ay a7)=s6;have ls6:List.length s6≤16000:=by rw [← es6];simp only [aaY];omega
 refine (aa (fB (show List.length a8≤100 by omega))).trans ?_;refine (ab (iV (by omega))).trans ?_;have e:s6++cQ a8=lr a0 a1 a2 a3 a4 a5 a6 a7 a8:=by
  grind [lr,TI,fa,List.append_assoc]
 rw [e];rfl
def fM (next tick:Int) (dO:List (List ar)) (ps:List af) (os:List ai) (cA:List fq) (files:List cB) (rd out:List Int):bs:=
 if cw next tick dO ps os cA files rd out=true then lr next tick dO ps os cA files rd out else []
def eB (next tick:Int) (dO:List (List ar)) (ps:List af) (os:List ai) (cA:List fq) (files:List cB) (rd out:List Int):Option bs:=
 if rd.length≤bn then some (fM next tick dO ps os cA files rd out) else none
theorem F5 {next tick:Int} {dO:List (List ar)} {ps:List af} {os:List ai} {cA:List fq} {files:List cB} {rd out:List Int} (h:cw next tick dO ps os cA files rd out=true):(lr next tick dO ps os cA files rd out).length≤20000:=by
 obtain ⟨g1,g2,g3,g4,g5,g6,g7,g8⟩:=F4 h;grind [bQ,lr,fa,List.length_append,List.length_cons]
theorem mK {α β:Type} (h:α→List (List β)):∀ a:List α,(a.flatMap h).flatten=a.flatMap λx=>(h x).flatten
 |[]=>rfl
 |x::r=>by rw [aez,aez,agc,mK h r]
theorem ZT {xs:List bs} (h1:xs.length≤1000) (h2:xs.flatten.length≤1000000):wC xs []=some xs.flatten:=by
 have e:=Q1 xs;unfold wC;grind
theorem CJ {l:List Int} (h:l.length≤100):CK l=some (l.flatMap ay):=jj (by have:=dR ay 7 l λx _=>bQ x;grind)
def rR (p:af):List bs:=[[p.1,p.2.1,p.2.2.1,p.2.2.2.1,p.2.2.2.2.1.1].flatMap ay,cQ p.2.2.2.2.1.2.1,cQ p.2.2.2.2.2.1,gh 1 p.2.2.2.2.2.2.1,ay p.2.2.2.2.2.2.2.1,cQ [p.2.2.2.2.2.2.2.2.1]]
def rS (o:ai):List bs:=[[o.1,o.2.1,o.2.2.1,o.2.2.2.1,o.2.2.2.2.1].flatMap ay]
def kV (o:cB):List bs:=[ay o.1,cQ o.2.1]
theorem Ku (p:af):(rR p).flatten=jM p:=by
 unfold rR jM;simp
theorem Kv (o:ai):(rS o).flatten=kx o:=by
 grind [rS,kx]
theorem Aq (o:cB):(kV o).flatten=gV o:=by
 grind [kV,gV]
theorem mL {α β:Type} (h:α→List β) (m:Nat) (hm:∀ x,(h x).length=m):∀ (a:List α),(a.flatMap h).length=m*a.length
 |[]=>by simp
 |x::r=>by rw [aez,aaY,hm,mL h m hm r,aay,Nat.mul_add];omega
def k23:bK:={ f:=23,lend:=true,aF:=[NE,wr],lay:=[none,none],rs:=[wr],F:=λx=> .get (wC x.1.1 x.2.1.1) λy=> .ret (((y,()),()),((),(),())) }
theorem ag2:k23.Ok acl:=Tw ⟨⟨_,Tryz.func23,by kernel_rfl,by kernel_rfl⟩⟩ (by grind [Tryz.strings_Join]) (by grind [Tryz.strings_Join_none])
abbrev adV:=(List (List ar)×Int×Int×Unit)×ii
def Kw:adV→Out (Round adV ((Unit)×ii) Empty)
|((p0,p1,p2,_),(p3,p4,p5,p6,p7,p8,p9,bL,b8,_),cr,_)=> .ite (decide (p2<p1)) (.ite (decide (0≤p2)) (.get (nth p0 (Int.toNat p2)) λy1=> .get (iK y1) λy2=> .ite (decide (List.length cr+List.length ([y2]:List (List UInt8))≤bn)) (.ret (.again ((p0,p1,(abs (p2+(1:Int))),()),((p3,p4,p5,p6,p7,p8,p9,bL,b8,()),(cr++([y2]:List (List UInt8))),())))) .fail) .fail) (.ret (.out ((),((p3,p4,p5,p6,p7,p8,p9,bL,b8,()),cr,()))))
abbrev adW:=XS×ii
def Kx:adW→Out (Round adW ((Unit)×ii) Empty)
|((p0,p1,p2,_),(p3,p4,p5,p6,p7,p8,p9,bL,b8,_),cr,_)=> .ite (decide (p2<p1)) (.ite (decide (0≤p2)) (.get (nth p0 (Int.toNat p2)) λy1=> .get (CK ([y1.1,y1.2.1,y1.2.2.1,y1.2.2.2.1,y1.2.2.2.2.1.1]:List Int)) λy2=> .get (ft y1.2.2.2.2.1.2.1) λy3=> .get (ft y1.2.2.2.2.2.1) λy4=> .get (ql y1.2.2.2.2.2.2.1 (1:Int)) λy5=> .get (ft ([y1.2.2.2.2.2.2.2.2.1]:List Int)) λy6=> .ite (decide (List.length cr+List.length ([y2,y3,y4,y5,(ay y1.2.2.2.2.2.2.2.1),y6]:List (List UInt8))≤bn)) (.ret (.again ((p0,p1,(abs (p2+(1:Int))),()),((p3,p4,p5,p6,p7,p8,p9,bL,b8,()),(cr++([y2,y3,y4,y5,(ay y1.2.2.2.2.2.2.2.1),y6]:List (List UInt8))),())))) .fail) .fail) (.ret (.out ((),((p3,p4,p5,p6,p7,p8,p9,bL,b8,()),cr,()))))
abbrev adX:=(List ai×Int×Int×Unit)×ii
def Ky:adX→Out (Round adX ((Unit)×ii) Empty)
|((p0,p1,p2,_),(p3,p4,p5,p6,p7,p8,p9,bL,b8,_),cr,_)=> .ite (decide (p2<p1)) (.ite (decide (0≤p2)) (.get (nth p0 (Int.toNat p2)) λy1=> .get (CK ([y1.1,y1.2.1,y1.2.2.1,y1.2.2.2.1,y1.2.2.2.2.1]:List Int)) λy2=> .ite (decide (List.length cr+List.length ([y2]:List (List UInt8))≤bn)) (.ret (.again ((p0,p1,(abs (p2+(1:Int))),()),((p3,p4,p5,p6,p7,p8,p9,bL,b8,()),(cr++([y2]:List (List UInt8))),())))) .fail) .fail) (.ret (.out ((),((p3,p4,p5,p6,p7,p8,p9,bL,b8,()),cr,()))))
abbrev adY:=(List ah×Int×Int×Unit)×ii
def Kz:adY→Out (Round adY ((Unit)×ii) Empty)
|((p0,p1,p2,_),(p3,p4,p5,p6,p7,p8,p9,bL,b8,_),cr,_)=> .ite (decide (p2<p1)) (.ite (decide (0≤p2)) (.get (nth p0 (Int.toNat p2)) λy1=> .get (ft y1.2.1) λy2=> .ite (decide (List.length cr+List.length ([(ay y1.1),y2]:List (List UInt8))≤bn)) (.ret (.again ((p0,p1,(abs (p2+(1:Int))),()),((p3,p4,p5,p6,p7,p8,p9,bL,b8,()),(cr++([(ay y1.1),y2]:List (List UInt8))),())))) .fail) .fail) (.ret (.out ((),((p3,p4,p5,p6,p7,p8,p9,bL,b8,()),cr,()))))
abbrev adZ:=(List ah×Int×Int×Unit)×ii
def KA:adZ→Out (Round adZ ((Unit)×ii) Empty)
|((p0,p1,p2,_),(p3,p4,p5,p6,p7,p8,p9,bL,b8,_),cr,_)=> .ite (decide (p2<p1)) (.ite (decide (0≤p2)) (.get (nth p0 (Int.toNat p2)) λy1=> .get (ft y1.2.1) λy2=> .ite (decide (List.length cr+List.length ([(ay y1.1),y2]:List (List UInt8))≤bn)) (.ret (.again ((p0,p1,(abs (p2+(1:Int))),()),((p3,p4,p5,p6,p7,p8,p9,bL,b8,()),(cr++([(ay y1.1),y2]:List (List UInt8))),())))) .fail) .fail) (.ret (.out ((),((p3,p4,p5,p6,p7,p8,p9,bL,b8,()),cr,()))))
def Ig (a0 a1:Int) (a2:List (List ar)) (a3:List af) (a4:List ai) (a5 a6:List ah) (a7 a8:List Int):Out gc:= .get (tc a0 a1 a2 a3 a4 a5 a6 a7 a8) λy1=> .ite (!y1) (.ret (((([]:List UInt8),()),()),((),()))) (.get (CK ([a0,a1,((List.length a2:Nat):Int)]:List Int)) λy2=> .get (aP Kw aI ((a2,((List.length a2:Nat):Int),(0:Int),()),((a0,a1,a2,a3,a4,a5,a6,a7,a8,()),([([117]:List UInt8),y2]:List (List UInt8)),()))) λy3=> .ite (decide (List.length y3.2.2.1+List.length ([(ay ((List.length y3.2.1.2.2.2.1:Nat):Int))]:List (List UInt8))≤bn)) (.get (aP Kx aI ((y3.2.1.2.2.2.1,((List.length y3.2.1.2.2.2.1:Nat):Int),(0:Int),()),((y3.2.1.1,y3.2.1.2.1,y3.2.1.2.2.1,y3.2.1.2.2.2.1,y3.2.1.2.2.2.2.1,y3.2.1.2.2.2.2.2.1,y3.2.1.2.2.2.2.2.2.1,y3.2.1.2.2.2.2.2.2.2.1,y3.2.1.2.2.2.2.2.2.2.2.1,()),(y3.2.2.1++([(ay ((List.length y3.2.1.2.2.2.1:Nat):Int))]:List (List UInt8))),()))) λy4=> .ite (decide (List.length y4.2.2.1+List.length ([(ay ((List.length y4.2.1.2.2.2.2.1:Nat):Int))]:List (List UInt8))≤bn)) (.get (aP Ky aI ((y4.2.1.2.2.2.2.1,((List.length y4.2.1.2.2.2.2.1:Nat):Int),(0:Int),()),((y4.2.1.1,y4.2.1.2.1,y4.2.1.2.2.1,y4.2.1.2.2.2.1,y4.2.1.2.2.2.2.1,y4.2.1.2.2.2.2.2.1,y4.2.1.2.2.2.2.2.2.1,y4.2.1.2.2.2.2.2.2.2.1,y4.2.1.2.2.2.2.2.2.2.2.1,()),(y4.2.2.1++([(ay ((List.length y4.2.1.2.2.2.2.1:Nat):Int))]:List (List UInt8))),()))) λy5=> .ite (decide (List.length y5.2.2.1+List.length ([(ay ((List.length y5.2.1.2.2.2.2.2.1:Nat):Int))]:List (List UInt8))≤bn)) (.get (aP Kz aI ((y5.2.1.2.2.2.2.2.1,((List.length y5.2.1.2.2.2.2.2.1:Nat):Int),(0:Int),()),((y5.2.1.1,y5.2.1.2.1,y5.2.1.2.2.1,y5.2.1.2.2.2.1,y5.2.1.2.2.2.2.1,y5.2.1.2.2.2.2.2.1,y5.2.1.2.2.2.2.2.2.1,y5.2.1.2.2.2.2.2.2.2.1,y5.2.1.2.2.2.2.2.2.2.2.1,()),(y5.2.2.1++([(ay ((List.length y5.2.1.2.2.2.2.2.1:Nat):Int))]:List (List UInt8))),()))) λy6=> .ite (decide (List.length y6.2.2.1+List.length ([(ay ((List.length y6.2.1.2.2.2.2.2.2.1:Nat):Int))]:List (List UInt8))≤bn)) (.get (aP KA aI ((y6.2.1.2.2.2.2.2.2.1,((List.length y6.2.1.2.2.2.2.2.2.1:Nat):Int),(0:Int),()),((y6.2.1.1,y6.2.1.2.1,y6.2.1.2.2.1,y6.2.1.2.2.2.1,y6.2.1.2.2.2.2.1,y6.2.1.2.2.2.2.2.1,y6.2.1.2.2.2.2.2.2.1,y6.2.1.2.2.2.2.2.2.2.1,y6.2.1.2.2.2.2.2.2.2.2.1,()),(y6.2.2.1++([(ay ((List.length y6.2.1.2.2.2.2.2.2.1:Nat):Int))]:List (List UInt8))),()))) λy7=> .get (ql y7.2.1.2.2.2.2.2.2.2.1 (0:Int)) λy8=> .get (ft y7.2.1.2.2.2.2.2.2.2.2.1) λy9=> .ite (decide (List.length y7.2.2.1+List.length ([y8,y9]:List (List UInt8))≤bn)) (.get (wC (y7.2.2.1++([y8,y9]:List (List UInt8))) ([]:List UInt8)) λF6=> .ret (((F6,()),()),((),()))) .fail) .fail) .fail) .fail) .fail)
abbrev uz:List (Nat×dT):=[(act, .var [.i .i64, .i .i64, .ro (.sl cT) (some 0), .ro jc (some 1), .ro eF (some 2), .ro dp (some 3), .ro dp (some 4), .ro (.int .i64) (some 5), .ro (.int .i64) (some 6)]),(adc, .arr .str)]
def arp:Nat→Option au:=λn=>bw [(0,⟨⟨[.dead, .vptr act 0, .dead, .aR adc]++dd 24++[.ro (.sl cT) (some 0), .i .i64, .i .i64]++dd 146,uz⟩,⟨[.dead, .vptr act 0, .dead, .aR adc]++dd 173,uz⟩,none,false⟩),(2,⟨⟨[.dead, .vptr act 0, .dead, .aR adc]++dd 44++[.ro jc (some 1), .i .i64, .i .i64]++dd 126,uz⟩,⟨[.dead, .vptr act 0, .dead, .aR adc]++dd 173,uz⟩,none,false⟩),(4,⟨⟨[.dead, .vptr act 0, .dead, .aR adc]++dd 92++[.ro eF (some 2), .i .i64, .i .i64]++dd 78,uz⟩,⟨[.dead, .vptr act 0, .dead, .aR adc]++dd 173,uz⟩,none,false⟩),(6,⟨⟨[.dead, .vptr act 0, .dead, .aR adc]++dd 122++[.ro dp (some 3), .i .i64, .i .i64]++dd 48,uz⟩,⟨[.dead, .vptr act 0, .dead, .aR adc]++dd 173,uz⟩,none,false⟩),(8,⟨⟨[.dead, .vptr act 0, .dead, .aR adc]++dd 146++[.ro dp (some 4), .i .i64, .i .i64]++dd 24,uz⟩,⟨[.dead, .vptr act 0, .dead, .aR adc]++dd 173,uz⟩,none,false⟩)] n
def k7:bK:={ f:=7,lend:=true,aF:=[ws],lay:=[none],rs:=[wr],F:=λx=> .get (eB x.1.1 x.1.2.1 x.1.2.2.1 x.1.2.2.2.1 x.1.2.2.2.2.1 x.1.2.2.2.2.2.1 x.1.2.2.2.2.2.2.1 x.1.2.2.2.2.2.2.2.1 x.1.2.2.2.2.2.2.2.2.1) λy=> .ret (((y,()),()),((),())) }
abbrev am6:Type:=ac×Unit
abbrev am7 (x:am6):=Ig x.1.1 x.1.2.1 x.1.2.2.1 x.1.2.2.2.1 x.1.2.2.2.2.1 x.1.2.2.2.2.2.1 x.1.2.2.2.2.2.2.1 x.1.2.2.2.2.2.2.2.1 x.1.2.2.2.2.2.2.2.2.1
theorem am8 (x:aw k7.aF):bo [k17,k18,k19,JI,k21,k22,k23] arp Tryz.f7 k7 [.tmp 2] x=am7 x:=by kernel_rfl
theorem ag3 (hr:∀ x:am6,aB k7.aF x→∀ y,(k7.F x).eval=some y→(am7 x).eval=some y):k7.Ok acl:=aD [k17,k18,k19,JI,k21,k22,k23] ⟨ag4,ag5,agW,yU,ag6,agZ,ag2,trivial⟩ am8 hr
theorem ad4:k7.Ok acl:=by
 refine ag3 λx hw y hy=> ?_;obtain ⟨⟨a0,a1,a2,a3,a4,a5,a6,a7,a8,_⟩,_⟩:=x;have l2:List.length a2≤cj:=hw.1.1.1;have l3:List.length a3≤cj:=hw.1.2.1.1;have l4:List.length a4≤cj:=hw.1.2.2.1.1;have l5:List.length a5≤cj:=hw.1.2.2.2.1.1;have l6:List.length a6≤cj:=hw.1.2.2.2.2.1.1;change (Out.get (eB a0 a1 a2 a3 a4 a5 a6 a7 a8) λy=>Out.ret (((y,()),()),((),()))).eval=some y at hy;show (Ig a0 a1 a2 a3 a4 a5 a6 a7 a8).eval=some y;unfold eB at hy;by_cases hl:List.length a7≤bn
 case neg=>rw [aae hl] at hy;exact nomatch hy
 rw [aaZ hl] at hy;refine afk ?_ hy;unfold Ig fM;have e0:tc a0 a1 a2 a3 a4 a5 a6 a7 a8=some (cw a0 a1 a2 a3 a4 a5 a6 a7 a8):=by
  unfold tc;rw [aaZ hl,Q4]
 refine (aa e0).trans ?_;by_cases hu:cw a0 a1 a2 a3 a4 a5 a6 a7 a8=true
 case neg=>rw [aae hu,ab (by simp [hu])];rfl
 rw [aaZ hu,ae (by simp [hu])];obtain ⟨p1,p2,q1,k1,k2,k4,k3,k6,r1,o1,r2⟩:=vf hu;have hT:=F5 hu;have n1:=mL (λ(x:List ar)=>[jL x]) 1 (λ_=>rfl) a2;have n2:=mL rR 6 (λ_=>rfl) a3;have n3:=mL rS 1 (λ_=>rfl) a4;have n4:=mL kV 2 (λ_=>rfl) a5;have n5:=mL kV 2 (λ_=>rfl) a6;refine (aa (CJ (l:=[a0,a1,((List.length a2:Nat):Int)]) (by simp))).trans ?_;generalize et:List.flatMap ay [a0,a1,((List.length a2:Nat):Int)]=t0
 skip
 have h1:aP Kw aI ((a2,((List.length a2:Nat):Int),(0:Int),()),((a0,a1,a2,a3,a4,a5,a6,a7,a8,()),([([117]:List UInt8),t0]:List (List UInt8)),()))=some ((),((a0,a1,a2,a3,a4,a5,a6,a7,a8,()),(([([117]:List UInt8),t0]:List (List UInt8))++List.flatMap (λx=>[jL x]) a2),())):=di (f:=Kw) (λx=>[jL x]) a2 (λd i=>((a2,((List.length a2:Nat):Int),((i:Nat):Int),()),((a0,a1,a2,a3,a4,a5,a6,a7,a8,()),d,()))) (λd=>((),((a0,a1,a2,a3,a4,a5,a6,a7,a8,()),d,()))) 1000000
  (λi hi d hd=>by
   have h1:=aq (i:=i) (by omega);have e1:iK a2[i]=some (jL a2[i]):=aaZ (p2 _ (ad9 hi))
   all_goals (try simp only [aay,adC] at hd)
   all_goals (simp only [Kw,Out.eval,iZ hi,pQ,bD hi,adN,aed,h1,e1])
   all_goals (repeat rw [fe (by (try simp only [aay,adC]);omega)])
   all_goals (try simp only [adO])
   all_goals (try rfl))
  (λd=>by simp [Kw,Out.eval]) l2 ([([117]:List UInt8),t0]:List (List UInt8)) (by (try simp only [aay,adC]);omega)
 refine (aa h1).trans ?_;dsimp only;generalize es1:(([([117]:List UInt8),t0]:List (List UInt8))++List.flatMap (λx=>[jL x]) a2)=s1;have ls1:List.length s1≤6:=by rw [← es1];simp only [aaY,aay,adC];omega
 repeat (refine (ab (iV (by (try simp only [aay,adC]);omega))).trans ?_)
 have h2:aP Kx aI ((a3,((List.length a3:Nat):Int),(0:Int),()),((a0,a1,a2,a3,a4,a5,a6,a7,a8,()),(s1++([(ay ((List.length a3:Nat):Int))]:List (List UInt8))),()))=some ((),((a0,a1,a2,a3,a4,a5,a6,a7,a8,()),((s1++([(ay ((List.length a3:Nat):Int))]:List (List UInt8)))++List.flatMap rR a3),())):=di (f:=Kx) rR a3 (λd i=>((a3,((List.length a3:Nat):Int),((i:Nat):Int),()),((a0,a1,a2,a3,a4,a5,a6,a7,a8,()),d,()))) (λd=>((),((a0,a1,a2,a3,a4,a5,a6,a7,a8,()),d,()))) 1000000
  (λi hi d hd=>by
   have h1:=aq (i:=i) (by omega);have sm:=vg hu (ad9 hi);have e1:=CJ (l:=[a3[i].1,a3[i].2.1,a3[i].2.2.1,a3[i].2.2.2.1,a3[i].2.2.2.2.1.1]) (by simp);have e2:=fB (show List.length a3[i].2.2.2.2.1.2.1≤100 from by omega);have e3:=fB (show List.length a3[i].2.2.2.2.2.1≤100 from by omega);have e4:ql a3[i].2.2.2.2.2.2.1 1=some (gh 1 a3[i].2.2.2.2.2.2.1):=aaZ;have e5:=fB (d:=[a3[i].2.2.2.2.2.2.2.2.1]) (by simp);have e6:List.length (rR a3[i])=6:=rfl;rw [e6] at hd
   all_goals (try simp only [aaY,aay,adC] at hd)
   all_goals (simp only [Kx,Out.eval,iZ hi,pQ,bD hi,adN,aed,h1,e1,e2,e3,e4,e5])
   all_goals (repeat rw [fe (by (try simp only [aay,adC]);omega)])
   all_goals (try simp only [adO])
   all_goals (try rfl))
  (λd=>by simp [Kx,Out.eval]) l3 (s1++([(ay ((List.length a3:Nat):Int))]:List (List UInt8))) (by (try simp only [aaY,aay,adC]);omega)
 refine (aa h2).trans ?_;dsimp only;generalize es2:((s1++([(ay ((List.length a3:Nat):Int))]:List (List UInt8)))++List.flatMap rR a3)=s2;have ls2:List.length s2≤43:=by rw [← es2];simp only [aaY,aay,adC];omega
 repeat (refine (ab (iV (by (try simp only [aay,adC]);omega))).trans ?_)
 have h3:aP Ky aI ((a4,((List.length a4:Nat):Int),(0:Int),()),((a0,a1,a2,a3,a4,a5,a6,a7,a8,()),(s2++([(ay ((List.length a4:Nat):Int))]:List (List UInt8))),()))=some ((),((a0,a1,a2,a3,a4,a5,a6,a7,a8,()),((s2++([(ay ((List.length a4:Nat):Int))]:List (List UInt8)))++List.flatMap rS a4),())):=di (f:=Ky) rS a4 (λd i=>((a4,((List.length a4:Nat):Int),((i:Nat):Int),()),((a0,a1,a2,a3,a4,a5,a6,a7,a8,()),d,()))) (λd=>((),((a0,a1,a2,a3,a4,a5,a6,a7,a8,()),d,()))) 1000000
  (λi hi d hd=>by
   have h1:=aq (i:=i) (by omega);have e1:=CJ (l:=[a4[i].1,a4[i].2.1,a4[i].2.2.1,a4[i].2.2.2.1,a4[i].2.2.2.2.1]) (by simp);have e6:List.length (rS a4[i])=1:=rfl;rw [e6] at hd
   all_goals (try simp only [aaY,aay,adC] at hd)
   all_goals (simp only [Ky,Out.eval,iZ hi,pQ,bD hi,adN,aed,h1,e1])
   all_goals (repeat rw [fe (by (try simp only [aay,adC]);omega)])
   all_goals (try simp only [adO])
   all_goals (try rfl))
  (λd=>by simp [Ky,Out.eval]) l4 (s2++([(ay ((List.length a4:Nat):Int))]:List (List UInt8))) (by (try simp only [aaY,aay,adC]);omega)
 refine (aa h3).trans ?_;dsimp only;generalize es3:((s2++([(ay ((List.length a4:Nat):Int))]:List (List UInt8)))++List.flatMap rS a4)=s3;have ls3:List.length s3≤52:=by rw [← es3];simp only [aaY,aay,adC];omega
 repeat (refine (ab (iV (by (try simp only [aay,adC]);omega))).trans ?_)
 have h4:aP Kz aI ((a5,((List.length a5:Nat):Int),(0:Int),()),((a0,a1,a2,a3,a4,a5,a6,a7,a8,()),(s3++([(ay ((List.length a5:Nat):Int))]:List (List UInt8))),()))=some ((),((a0,a1,a2,a3,a4,a5,a6,a7,a8,()),((s3++([(ay ((List.length a5:Nat):Int))]:List (List UInt8)))++List.flatMap kV a5),())):=di (f:=Kz) kV a5 (λd i=>((a5,((List.length a5:Nat):Int),((i:Nat):Int),()),((a0,a1,a2,a3,a4,a5,a6,a7,a8,()),d,()))) (λd=>((),((a0,a1,a2,a3,a4,a5,a6,a7,a8,()),d,()))) 1000000
  (λi hi d hd=>by
   have h1:=aq (i:=i) (by omega);have e1:=fB (show List.length a5[i].2.1≤100 from by have:=k4 _ (ad9 hi);omega);have e6:List.length (kV a5[i])=2:=rfl;rw [e6] at hd
   all_goals (try simp only [aaY,aay,adC] at hd)
   all_goals (simp only [Kz,Out.eval,iZ hi,pQ,bD hi,adN,aed,h1,e1])
   all_goals (repeat rw [fe (by (try simp only [aay,adC]);omega)])
   all_goals (try simp only [adO])
   all_goals (try rfl))
  (λd=>by simp [Kz,Out.eval]) l5 (s3++([(ay ((List.length a5:Nat):Int))]:List (List UInt8))) (by (try simp only [aaY,aay,adC]);omega)
 refine (aa h4).trans ?_;dsimp only;generalize es4:((s3++([(ay ((List.length a5:Nat):Int))]:List (List UInt8)))++List.flatMap kV a5)=s4;have ls4:List.length s4≤59:=by rw [← es4];simp only [aaY,aay,adC];omega
 repeat (refine (ab (iV (by (try simp only [aay,adC]);omega))).trans ?_)
 have h5:aP KA aI ((a6,((List.length a6:Nat):Int),(0:Int),()),((a0,a1,a2,a3,a4,a5,a6,a7,a8,()),(s4++([(ay ((List.length a6:Nat):Int))]:List (List UInt8))),()))=some ((),((a0,a1,a2,a3,a4,a5,a6,a7,a8,()),((s4++([(ay ((List.length a6:Nat):Int))]:List (List UInt8)))++List.flatMap kV a6),())):=di (f:=KA) kV a6 (λd i=>((a6,((List.length a6:Nat):Int),((i:Nat):Int),()),((a0,a1,a2,a3,a4,a5,a6,a7,a8,()),d,()))) (λd=>((),((a0,a1,a2,a3,a4,a5,a6,a7,a8,()),d,()))) 1000000
  (λi hi d hd=>by
   have h1:=aq (i:=i) (by omega);have e1:=fB (show List.length a6[i].2.1≤100 from by have:=k6 _ (ad9 hi);omega);have e6:List.length (kV a6[i])=2:=rfl;rw [e6] at hd
   all_goals (try simp only [aaY,aay,adC] at hd)
   all_goals (simp only [KA,Out.eval,iZ hi,pQ,bD hi,adN,aed,h1,e1])
   all_goals (repeat rw [fe (by (try simp only [aay,adC]);omega)])
   all_goals (try simp only [adO])
   all_goals (try rfl))
  (λd=>by simp [KA,Out.eval]) l6 (s4++([(ay ((List.length a6:Nat):Int))]:List (List UInt8))) (by (try simp only [aaY,aay,adC]);omega)
 refine (aa h5).trans ?_;dsimp only;generalize es5:((s4++([(ay ((List.length a6:Nat):Int))]:List (List UInt8)))++List.flatMap kV a6)=s5;have ls5:List.length s5≤72:=by rw [← es5];simp only [aaY,aay,adC];omega
 have e1:ql a7 0=some (gh 0 a7):=aaZ;have e2:=fB (show List.length a8≤100 by omega);refine (aa e1).trans ((aa e2).trans ?_);refine (ab (iV (by (try simp only [aay,adC]);omega))).trans ?_;have e:(s5++[gh 0 a7,cQ a8]).flatten=lr a0 a1 a2 a3 a4 a5 a6 a7 a8:=by
  subst es5 es4 es3 es2 es1 et;unfold lr fa;have f1:(List.flatMap (λx=>[jL x]) a2).flatten=a2.flatMap jL:=by rw [mK];simp
  have f2:(List.flatMap rR a3).flatten=a3.flatMap jM:=by simp_all [mK,Ku]
  have f3:(List.flatMap rS a4).flatten=a4.flatMap kx:=by simp_all [mK,Kv]
  have f4:(List.flatMap kV a5).flatten=a5.flatMap gV:=by simp_all [mK,Aq]
  have f5:(List.flatMap kV a6).flatten=a6.flatMap gV:=by simp_all [mK,Aq]
  simp only [agc,f1,f2,f3,f4,f5,List.flatten_cons,List.flatten_nil,aez,List.flatMap_nil,adO,List.cons_append,ad0,aeX]
 have e3:wC (s5++[gh 0 a7,cQ a8]) []=some (lr a0 a1 a2 a3 a4 a5 a6 a7 a8):=by
  grind [ZT,List.length_append,List.length_cons,List.length_nil]
 grind
section
variable {α β γ:Type}
def Q5 (f:Int→Option (α×Int)) (P:bs→Option (α×Nat)) (s:bs):Prop:= (∀ p:Nat,p≤s.length→∀ a k,P (s.drop p)=some (a,k)→f ((p:Nat):Int)=some (a,((p+k:Nat):Int))∧p+k≤s.length)∧ (∀ p:Nat,p≤s.length→P (s.drop p)=none→∃ z,f ((p:Nat):Int)=some (z, -1))∧∃ z,f (-1)=some (z, -1)
def yW (f:Int→Option (α×Int)) (g:Int→Option (β×Int)):Int→Option ((α×β)×Int):=λp=>(f p).bind λa=>(g a.2).bind λb=>some ((a.1,b.1),b.2)
theorem CL {f:Int→Option (α×Int)} {g:Int→Option (β×Int)} {P:bs→Option (α×Nat)} {Q:bs→Option (β×Nat)} {s:bs} (hf:Q5 f P s) (hg:Q5 g Q s):Q5 (yW f g) (fh P Q) s:=by
 have bad:∀ p,(∃ z,f p=some (z, -1))→∃ z,yW f g p=some (z, -1):=λp ⟨z,hz⟩=>by
  obtain ⟨z',F7⟩:=hg.2.2;simp_all [yW]
 refine ⟨λp hp x k h=> ?_,λp hp h=> ?_,bad _ hf.2.2⟩
 . unfold fh at h
   split at h
   . grind
   . rename_i a i ha
     split at h
     . grind
     . rename_i b j hb
       simp only [adI,ad3] at h;obtain ⟨rfl,rfl⟩:=h;have h1:=hf.1 p hp a i ha;rw [aea] at hb;have h2:=hg.1 (p+i) h1.2 b j hb;grind [yW,Nat.add_assoc]
 . unfold fh at h
   split at h
   . rename_i ha
     exact bad _ (hf.2.1 p hp ha)
   . rename_i a i ha
     split at h
     . rename_i hb
       have h1:=hf.1 p hp a i ha;rw [aea] at hb;obtain ⟨z,hz⟩:=hg.2.1 (p+i) h1.2 hb;simp_all [yW]
     grind
theorem F8 {P:bs→Option (α×Nat)} {Q:bs→Option (β×Nat)} {g:β→Option γ}:fh P (dS g Q)=dS (λx=>(g x.2).map λb=>(x.1,b)) (fh P Q):=by
 grind [fh,dS]
theorem yX {P:bs→Option (α×Nat)} {f:α→Option β} {g:β→Option γ}:dS g (dS f P)=dS (λa=>(f a).bind g) P:=by
 grind [dS]
end
def am9:List Int→Option Int
 |x::_=>some x
 |[]=>none
theorem F9:wc=dS am9 (cW 1):=by
 funext s;unfold wc dS;simp only [cW];cases sY s<;>rfl
theorem jk (s:bs) {n:Nat} (h1:1≤n) (h2:n≤1000):Q5 (λp=>cS s p ((n:Nat):Int)) (cW n) s:=by
 refine ⟨λp hp a k h=> ?_,λp hp h=> ?_, ?_⟩
 . have h3:=lE s n p [] hp
   have h4:=fX h;grind [List.length_drop,cS,mD]
 . have h3:=lE s n p [] hp
   grind [cS,mD]
 . refine ⟨[], ?_⟩
   show cS s (-1) ((n:Nat):Int)=_;rw [mD s _ h2];obtain ⟨m,rfl⟩:∃ m,n=m+1:=⟨n - 1,by omega⟩
   simp_all [cc]
theorem o8 (s:bs):cW 1 s=match sY s with|none=>none|some i=>some ([((dN (s.take (i+1)):Nat):Int)],i+1):=by
 grind [cW,sY]
theorem o9 (s:bs) {m:Nat} (hm:m≤1000):Q5 (λp=>cY s p ((m:Nat):Int)) (gm m) s:=by
 have v1:∀ p:Nat,p≤s.length→match sY (s.drop p) with|none=>∃ l,cc s 1 ((p:Nat):Int) []=(l, -1)|some i=>cc s 1 ((p:Nat):Int) []=([((dN ((s.drop p).take (i+1)):Nat):Int)],((p+(i+1):Nat):Int)):=λp hp=>by
  have h:=lE s 1 p [] hp;grind [o8,sY]
 have pP:((m:Nat):Int)≤1000:=by omega
 refine ⟨λp hp l k h=> ?_,λp hp h=> ?_, ?_⟩
 . have h3:=gW h
   rw [aec] at h3;refine ⟨?_,by omega⟩;unfold gm at h;split at h
   . grind
   . rename_i i hi
     have ra:=qj hi;rw [aec] at ra;split at h
     . grind
     . rename_i hn
       split at h
       . grind
       . rename_i l' k' hr
         simp only [adI,ad3] at h;obtain ⟨rfl,rfl⟩:=h;have e:=v1 p hp;rw [hi] at e;have e:cc s 1 ((p:Nat):Int) []=([((dN ((s.drop p).take (i+1)):Nat):Int)],((p+(i+1):Nat):Int)):=e;show cY s ((p:Nat):Int) ((m:Nat):Int)=_;unfold cY;rw [aaZ pP,e];generalize dN ((s.drop p).take (i+1))=n at hn hr;have hq:¬ (((p+(i+1):Nat):Int)<0):=by omega
         have hq2:¬ ((n:Nat):Int)>((m:Nat):Int):=by omega
         simp only [aae hq,aae hq2,adu];have h2:=lE s n (p+(i+1)) [] (by omega);grind [List.drop_drop,Nat.add_assoc]
 . show ∃ z,cY s ((p:Nat):Int) ((m:Nat):Int)=some (z, -1)
   unfold cY;rw [aaZ pP];unfold gm at h;split at h
   . grind
   . rename_i i hi
     have ra:=qj hi;rw [aec] at ra;have e:=v1 p hp;rw [hi] at e;have e:cc s 1 ((p:Nat):Int) []=([((dN ((s.drop p).take (i+1)):Nat):Int)],((p+(i+1):Nat):Int)):=e;rw [e];generalize dN ((s.drop p).take (i+1))=n at h;have hq:¬ (((p+(i+1):Nat):Int)<0):=by omega
     simp only [aae hq];split at h
     . simp_all
     . rename_i hn
       have hq2:¬ ((n:Nat):Int)>((m:Nat):Int):=by omega
       simp only [aae hq2,adu];have h2:=lE s n (p+(i+1)) [] (by omega);grind [List.drop_drop]
 . refine ⟨[], ?_⟩
   show cY s (-1) ((m:Nat):Int)=_;unfold cY;rw [aaZ pP];have e:cc s 1 (-1) []=([], -1):=by
    unfold cc;grind
   grind
theorem at_loop {α τ σ β:Type} {f:σ→Out (Round σ β Empty)} {C:Int→Option (α×Int)} {P:bs→Option (α×Nat)} {s:bs} (hC:Q5 C P s) (g:α→τ) (S:Nat→Int→List τ→σ) (y:Int→List τ→β) {n:Nat} (hn:n≤1000)
  (hs:∀ i p l a e,i<n→l.length=i→0≤p→C p=some (a,e)→∃ t,(f (S i p l)).eval=some (.again (S (i+1) e (l++[t])))∧(0≤e→t=g a)) (hy:∀ p l,(f (S n p l)).eval=some (.out (y p l)))
  (hb:∀ i p l,i<n→p<0→(f (S i p l)).eval=some (.out (y p l))) {p:Nat} (hp:p≤s.length):
  (∀ l k,jV P n (s.drop p)=some (l,k)→aP f aI (S 0 ((p:Nat):Int) [])=some (y ((p+k:Nat):Int) (l.map g))∧p+k≤s.length)∧
   (jV P n (s.drop p)=none→∃ l,aP f aI (S 0 ((p:Nat):Int) [])=some (y (-1) l)):=by
 have key:∀ (m i N p:Nat) (l:List τ),i+m=n→m<N→l.length=i→p≤s.length→
   (∀ l' k,jV P m (s.drop p)=some (l',k)→aP f N (S i ((p:Nat):Int) l)=some (y ((p+k:Nat):Int) (l++l'.map g))∧p+k≤s.length)∧(jV P m (s.drop p)=none→∃ l',aP f N (S i ((p:Nat):Int) l)=some (y (-1) l')):=by
  intro m
  induction m with
  |zero=>
   intro i N p l hi hN hl hp;obtain rfl:i=n:=by omega
   refine ⟨λl' k h=> ?_,λh=>nomatch h⟩;simp only [jV,adI,ad3] at h;obtain ⟨rfl,rfl⟩:=h;refine ⟨?_,by omega⟩;rw [gF (hy _ l) hN];simp
  |succ m ih=>
   intro i N p l hi hN hl hp;obtain ⟨N,rfl⟩:∃ N',N=N'+1:=⟨N - 1,by omega⟩
   obtain ⟨N,rfl⟩:∃ N',N=N'+1:=⟨N - 1,by omega⟩
   simp only [jV];cases ha:P (s.drop p) with
   |none=>
    refine ⟨λl' k h=>(nomatch h),λ_=> ?_⟩;obtain ⟨z,hz⟩:=hC.2.1 p hp ha;obtain ⟨t,ht,_⟩:=hs i _ l z (-1) (by omega) hl (by omega) hz;refine ⟨l++[t], ?_⟩;rw [ie ht];by_cases ln:i+1<n
    . exact gF (hb (i+1) (-1) _ ln (by decide)) (by omega)
    . obtain rfl:i+1=n:=by omega
      exact gF (hy (-1) _) (by omega)
   |some x=>
    obtain ⟨a,k⟩:=x;have h1:=hC.1 p hp a k ha;obtain ⟨t,ht,hg⟩:=hs i _ l a _ (by omega) hl (by omega) h1.1;obtain rfl:=hg (by omega);have ih:=ih (i+1) (N+1) (p+k) (l++[g a]) (by omega) (by omega) (by simp;omega) h1.2;rw [ie ht];simp only;rw [aea];cases hr:jV P m (s.drop (p+k)) with
    |none=>
     refine ⟨λl' k h=>(nomatch h),λ_=>ih.2 hr⟩
    |some y=>
     obtain ⟨r,j⟩:=y;refine ⟨λl' k' h=> ?_,λh=>nomatch h⟩;simp only [adI,ad3] at h;obtain ⟨rfl,rfl⟩:=h;have:=ih.1 r j hr;rw [this.1];refine ⟨?_,by omega⟩;simp [Nat.add_assoc]
 have:=key n 0 aI p [] (by omega) (afb (show n≤1000 from hn) (by decide)) rfl hp;simpa using this
theorem CM {α τ σ β γ:Type} {f:σ→Out (Round σ β γ)} {C:Int→Option (α×Int)} {P:bs→Option (α×Nat)} {s:bs} (hC:Q5 C P s) (g:α→τ) (S:Nat→Int→List τ→σ) (y:Int→List τ→β) (z:List τ→γ) {n:Nat} (hn:n≤1000)
  (hs:∀ i p l a e,i<n→l.length=i→0≤p→C p=some (a,e)→0≤e→(∃ k,P (s.drop p.toNat)=some (a,k))→(f (S i p l)).eval=some (.again (S (i+1) e (l++[g a]))))
  (hr:∀ i p l a,i<n→l.length=i→0≤p→C p=some (a, -1)→(f (S i p l)).eval=some (.ret (z l))) (hy:∀ p l,(f (S n p l)).eval=some (.out (y p l))) {p:Nat} (hp:p≤s.length):
  (∀ l k,jV P n (s.drop p)=some (l,k)→iter f aI (S 0 ((p:Nat):Int) [])=some (.inl (y ((p+k:Nat):Int) (l.map g)))∧p+k≤s.length)∧
   (jV P n (s.drop p)=none→∃ l,iter f aI (S 0 ((p:Nat):Int) [])=some (.inr (z l))):=by
 have key:∀ (m i N p:Nat) (l:List τ),i+m=n→m<N→l.length=i→p≤s.length→
   (∀ l' k,jV P m (s.drop p)=some (l',k)→iter f N (S i ((p:Nat):Int) l)=some (.inl (y ((p+k:Nat):Int) (l++l'.map g)))∧p+k≤s.length)∧(jV P m (s.drop p)=none→∃ l',iter f N (S i ((p:Nat):Int) l)=some (.inr (z l'))):=by
  intro m
  induction m with
  |zero=>
   intro i N p l hi hN hl hp;obtain rfl:i=n:=by omega
   refine ⟨λl' k h=> ?_,λh=>nomatch h⟩;simp only [jV,adI,ad3] at h;obtain ⟨rfl,rfl⟩:=h;grind [jx]
  |succ m ih=>
   intro i N p l hi hN hl hp;obtain ⟨N,rfl⟩:∃ N',N=N'+1:=⟨N - 1,by omega⟩
   simp only [jV];cases ha:P (s.drop p) with
   |none=>
    refine ⟨λl' k h=>(nomatch h),λ_=> ?_⟩;obtain ⟨w,hw⟩:=hC.2.1 p hp ha;exact ⟨l,lu (hr i _ l w (by omega) hl (by omega) hw) (by omega)⟩
   |some x=>
    obtain ⟨a,k⟩:=x;have h1:=hC.1 p hp a k ha;have ih:=ih (i+1) N (p+k) (l++[g a]) (by omega) (by omega) (by simp;omega) h1.2;rw [je (hs i _ l a _ (by omega) hl (by omega) h1.1 (by omega) ⟨k,by rw [adu];exact ha⟩)];simp only;rw [aea];cases Sl:jV P m (s.drop (p+k)) with
    |none=>exact ⟨λl' k h=>(nomatch h),λ_=>ih.2 Sl⟩
    |some y=>
     obtain ⟨r,j⟩:=y;refine ⟨λl' k' h=> ?_,λh=>nomatch h⟩;simp only [adI,ad3] at h;obtain ⟨rfl,rfl⟩:=h;have:=ih.1 r j Sl;rw [this.1];refine ⟨?_,by omega⟩;simp [Nat.add_assoc]
 have:=key n 0 aI p [] (by omega) (afb (show n≤1000 from hn) (by decide)) rfl hp;simpa using this
theorem dv {ρ:Type} (o:Option ρ):(Out.get o λy=> .ret y).eval=o:=by cases o<;>rfl
def rT (a0:List UInt8) (a1 a2:Int):Out (ul×(Unit×XI)):= .get (cS a0 a1 (1:Int)) λy1=> .ite ((decide (y1.2<(0:Int)))==false) (.ite (decide (0≤(0:Int)∧(0:Int)<((List.length y1.1:Nat):Int))) (.get (nth y1.1 (Int.toNat (0:Int))) λy2=> .ite (decide (y2>a2)) (.ret ((((0:Int),()),((-1:Int),()),()),((),(),(),()))) (.ite (decide (0≤(0:Int)∧(0:Int)<((List.length y1.1:Nat):Int))) (.get (nth y1.1 (Int.toNat (0:Int))) λy3=> .ret (((y3,()),(y1.2,()),()),((),(),(),()))) .fail)) .fail) (.ret ((((0:Int),()),((-1:Int),()),()),((),(),(),())))
def mi:=λa0 a1 a2=>(rT a0 a1 a2).eval
def k40:bK:={ f:=40,lend:=true,aF:=[wr,wl,wl],lay:=[none,none,none],rs:=[wl,wl],F:=λx=> .get (mi x.1.1 x.2.1.1 x.2.2.1.1) λy=> .ret y }
theorem ag8 (x:aw k40.aF):bo [JH] (λ_=>none) Tryz.f40 k40 [.tmp 6, .tmp 7] x=rT x.1.1 x.2.1.1 x.2.2.1.1:=by kernel_rfl
theorem TP:k40.Ok acl:=aD [JH] ⟨yQ,trivial⟩ ag8 λ_ _ _ hy=>(dv _).symm.trans hy
abbrev KB (n e:Int):ul×(Unit×XI):=(((n,()),(e,()),()),((),(),(),()))
theorem qm {s:bs} {p m n k:Nat} (hp:p≤s.length) (h:uj m (s.drop p)=some (n,k)):mi s ((p:Nat):Int) ((m:Nat):Int)=some (KB ((n:Nat):Int) ((p+k:Nat):Int))∧n≤m∧p+k≤s.length:=by
 have hle:=OM h;rw [aec] at hle;refine ⟨?_,hle.1,by omega⟩;unfold uj at h;split at h
 . exact nomatch h
 . rename_i i hi
   split at h
   . exact nomatch h
   . rename_i hm
     simp only [adI,ad3] at h;obtain ⟨rfl,rfl⟩:=h;have hv:=((jk s (n:=1) (by decide) (by decide)).1 p hp _ _ (by rw [o8,hi])).1;unfold mi rT;refine (aa hv).trans ?_;refine (ab (by rw [adD];rfl)).trans ((ab rfl).trans ((aa (x:=((dN ((s.drop p).take (i+1)):Nat):Int)) rfl).trans ?_));exact (ae (by grind)).trans ((ab rfl).trans ((aa (x:=((dN ((s.drop p).take (i+1)):Nat):Int)) rfl).trans rfl))
theorem Ga {s:bs} {p m:Int} {z:List Int} (hv:cS s p 1=some (z, -1)):mi s p m=some (KB 0 (-1)):=by
 unfold mi rT;exact (aa hv).trans ((ae rfl).trans rfl)
theorem CN {s:bs} {p m:Nat} (hp:p≤s.length) (h:uj m (s.drop p)=none):mi s ((p:Nat):Int) ((m:Nat):Int)=some (KB 0 (-1)):=by
 have hA:=jk s (n:=1) (by decide) (by decide);unfold uj at h;split at h
 . rename_i hi
   obtain ⟨z,hv⟩:=hA.2.1 p hp (by rw [o8,hi]);exact Ga hv
 . rename_i i hi
   split at h
   . rename_i hm
     have hv:=(hA.1 p hp _ _ (by rw [o8,hi])).1;unfold mi rT;refine (aa hv).trans ?_;refine (ab (by rw [adD];rfl)).trans ((ab rfl).trans ((aa (x:=((dN ((s.drop p).take (i+1)):Nat):Int)) rfl).trans ?_));exact (ab (by grind)).trans rfl
   grind
theorem jB (s:bs) (m:Int):mi s (-1) m=some (KB 0 (-1)):=by
 obtain ⟨z,hz⟩:=(jk s (n:=1) (by decide) (by decide)).2.2;exact Ga hz
theorem OX {α τ σ β:Type} {f:σ→Out (Round σ β Empty)} {C:Int→Option (α×Int)} {P:bs→Option (α×Nat)} {s:bs} (hC:Q5 C P s) (g:α→τ) (S:Nat→Nat→Int→List τ→σ) (y:Int→List τ→β) {m:Nat} (hm:m≤1000)
  (hs:∀ n i p l a e,n≤m→i<n→l.length=i→0≤p→C p=some (a,e)→∃ t,(f (S n i p l)).eval=some (.again (S n (i+1) e (l++[t])))∧(0≤e→t=g a)) (hy:∀ n p l,(f (S n n p l)).eval=some (.out (y p l)))
  (hb:∀ n i p l,i<n→p<0→(f (S n i p l)).eval=some (.out (y p l))):
  (∀ p:Nat,p≤s.length→(∀ l k,dm m P (s.drop p)=some (l,k)→∃ (n:Nat) (e:Int),mi s ((p:Nat):Int) ((m:Nat):Int)=some (KB ((n:Nat):Int) e)∧0≤e∧aP f aI (S n 0 e [])=some (y ((p+k:Nat):Int) (l.map g))∧p+k≤s.length)∧
   (dm m P (s.drop p)=none→∃ (n:Nat) (e:Int) (l:List τ),mi s ((p:Nat):Int) ((m:Nat):Int)=some (KB ((n:Nat):Int) e)∧aP f aI (S n 0 e [])=some (y (-1) l)))∧
   aP f aI (S 0 0 (-1) [])=some (y (-1) []):=by
 have out:aP f aI (S 0 0 (-1) [])=some (y (-1) []):=by grind [gF]
 refine ⟨λp hp=>⟨λl k h=> ?_,λh=> ?_⟩,out⟩
 . unfold dm at h
   split at h
   . grind
   . rename_i n i hn
     split at h
     . grind
     . rename_i l' j hr
       simp only [adI,ad3] at h;obtain ⟨rfl,rfl⟩:=h;have h1:=qm hp hn;rw [aea] at hr;have h2:=(at_loop hC g (S n) y (n:=n) (by omega) (by grind) (hy n) (hb n) h1.2.2).1 _ _ hr;grind
 . unfold dm at h
   split at h
   . grind [CN]
   . rename_i n i hn
     split at h
     . rename_i hr
       have h1:=qm hp hn;rw [aea] at hr;obtain ⟨l,h2⟩:=(at_loop hC g (S n) y (n:=n) (by omega) (by grind) (hy n) (hb n) h1.2.2).2 hr;grind
     grind
theorem CO {α τ σ β γ:Type} {f:σ→Out (Round σ β γ)} {C:Int→Option (α×Int)} {P:bs→Option (α×Nat)} {s:bs} (hC:Q5 C P s) (g:α→τ) (S:Nat→Nat→Int→List τ→σ) (y:Int→List τ→β) (z:List τ→γ) {m:Nat} (hm:m≤1000)
  (hs:∀ n i p l a e,n≤m→i<n→l.length=i→0≤p→C p=some (a,e)→0≤e→(∃ k,P (s.drop p.toNat)=some (a,k))→(f (S n i p l)).eval=some (.again (S n (i+1) e (l++[g a]))))
  (hr:∀ n i p l a,i<n→l.length=i→0≤p→C p=some (a, -1)→(f (S n i p l)).eval=some (.ret (z l))) (hy:∀ n p l,(f (S n n p l)).eval=some (.out (y p l))):
  (∀ p:Nat,p≤s.length→(∀ l k,dm m P (s.drop p)=some (l,k)→∃ (n:Nat) (e:Int),mi s ((p:Nat):Int) ((m:Nat):Int)=some (KB ((n:Nat):Int) e)∧iter f aI (S n 0 e [])=some (.inl (y ((p+k:Nat):Int) (l.map g)))∧p+k≤s.length)∧
   (dm m P (s.drop p)=none→∃ (n:Nat) (e:Int),mi s ((p:Nat):Int) ((m:Nat):Int)=some (KB ((n:Nat):Int) e)∧(iter f aI (S n 0 e [])=some (.inl (y (-1) []))∨∃ l,iter f aI (S n 0 e [])=some (.inr (z l)))))∧
   iter f aI (S 0 0 (-1) [])=some (.inl (y (-1) [])):=by
 have out:iter f aI (S 0 0 (-1) [])=some (.inl (y (-1) [])):=by grind [jx]
 refine ⟨λp hp=>⟨λl k h=> ?_,λh=> ?_⟩,out⟩
 . unfold dm at h
   split at h
   . grind
   . rename_i n i hn
     split at h
     . grind
     . rename_i l' j Sl
       simp only [adI,ad3] at h;obtain ⟨rfl,rfl⟩:=h;have h1:=qm hp hn;rw [aea] at Sl;have h2:=(CM hC g (S n) y z (n:=n) (by omega) (λi p l a e=>hs n i p l a e h1.2.1) (hr n) (hy n) h1.2.2).1 _ _ Sl;grind
 . unfold dm at h
   split at h
   . grind [CN]
   . rename_i n i hn
     split at h
     . rename_i Sl
       have h1:=qm hp hn;rw [aea] at Sl;obtain ⟨l,h2⟩:=(CM hC g (S n) y z (n:=n) (by omega) (λi p l a e=>hs n i p l a e h1.2.1) (hr n) (hy n) h1.2.2).2 Sl;grind
     grind
theorem map_some {α β:Type} {o:Option α} {f:α→β} {b:β} (h:o.map f=some b):∃ a,o=some a∧f a=b:=by
 simp_all
section
variable {α β γ:Type}
theorem Gb {P:bs→Option (α×Nat)} {Q:bs→Option (β×Nat)} {f:α→Option γ}:fh (dS f P) Q=dS (λx=>(f x.1).map λa=>(a,x.2)) (fh P Q):=by
 funext s;simp only [fh,dS];grind
theorem cK {P:bs→Option (α×Nat)} {Q:bs→Option (β×Nat)} {s:bs} {x:α×β} {k:Nat} (h:fh P Q s=some (x,k)):∃ i j,P s=some (x.1,i)∧Q (s.drop i)=some (x.2,j)∧k=i+j:=by
 unfold fh at h;grind
theorem fu {f:Int→Option (α×Int)} {g:Int→Option (β×Int)} {p:Int} {x:α×β} {e:Int} (h:yW f g p=some (x,e)):∃ q,f p=some (x.1,q)∧g q=some (x.2,e):=by
 unfold yW at h;cases hf:f p with
 |none=>grind
 |some a=>
  rw [hf] at h;obtain ⟨a,q⟩:=a;cases hg:g q with
  |none=>grind
  |some b=>
   grind
theorem Gc {P:bs→Option (α×Nat)} {f:α→Option β} {s:bs} {b:β} {k:Nat} (h:dS f P s=some (b,k)):∃ a,P s=some (a,k)∧f a=some b:=by
 unfold dS at h;grind
theorem Gd {P:bs→Option (α×Nat)} {f:α→Option β} {s:bs} (h:dS f P s=none):P s=none∨∃ a k,P s=some (a,k)∧f a=none:=by
 grind [dS]
end
theorem TQ:wh=dS (λv=>J7 (v.map yT)) (dm 40 (cW 4)):=by
 simp_all [wh,F1,lD,yX]
theorem TR {s:bs} {p:Nat} (hp:p≤s.length):match sY (s.drop p) with
  |none=>∃ z,cS s ((p:Nat):Int) 1=some (z, -1)
  |some i=>cS s ((p:Nat):Int) 1=some ([((dN ((s.drop p).take (i+1)):Nat):Int)],((p+(i+1):Nat):Int))∧p+(i+1)≤s.length:=by
 have hA:=jk s (n:=1) (by decide) (by decide);cases hi:sY (s.drop p) with
 |none=>exact hA.2.1 p hp (by rw [o8,hi])
 |some i=>exact hA.1 p hp _ _ (by rw [o8,hi])
abbrev TS:=(List UInt8×Int×Int×Unit)×(List ar×List Int×Unit)
def TT:TS→Out (Round TS ((Int×Unit)×(List ar×Unit)) ((Int×Unit)×(List ar×Unit)))
|((p0,p1,p2,_),p3,p4,_)=> .ite (decide (0≤(0:Int)∧(0:Int)<((List.length p4:Nat):Int))) (.get (nth p4 (Int.toNat (0:Int))) λy1=> .ite (decide (p2<y1)) (.get (cS p0 p1 (4:Int)) λy2=> .ite (decide (y2.2<(0:Int))) (.ret (.ret (((-1:Int),()),(([]:List ar),())))) (.ite (decide (0≤(0:Int)∧(0:Int)<((List.length y2.1:Nat):Int))) (.get (nth y2.1 (Int.toNat (0:Int))) λy3=> .ite (decide (0≤(1:Int)∧(1:Int)<((List.length y2.1:Nat):Int))) (.get (nth y2.1 (Int.toNat (1:Int))) λy4=> .ite (decide (0≤(2:Int)∧(2:Int)<((List.length y2.1:Nat):Int))) (.get (nth y2.1 (Int.toNat (2:Int))) λy5=> .ite (decide (0≤(3:Int)∧(3:Int)<((List.length y2.1:Nat):Int))) (.get (nth y2.1 (Int.toNat (3:Int))) λy6=> .ite ((y3==(1:Int))) (.ite (decide (List.length p3+List.length ([(y3,y4,(dA y5),y6,())]:List ar)≤bn)) (.ret (.again ((p0,y2.2,(abs (p2+(1:Int))),()),((p3++([(y3,y4,(dA y5),y6,())]:List ar)),p4,())))) .fail) (.ite (decide (List.length p3+List.length ([(y3,y4,y5,y6,())]:List ar)≤bn)) (.ret (.again ((p0,y2.2,(abs (p2+(1:Int))),()),((p3++([(y3,y4,y5,y6,())]:List ar)),p4,())))) .fail)) .fail) .fail) .fail) .fail)) (.ret (.out ((p1,()),(p3,()))))) .fail
def wI (a0:List UInt8) (a1:Int):Out (((List ar×Unit)×(Int×Unit)×Unit)×XI):= .get (cS a0 a1 (1:Int)) λy1=> .ite ((decide (y1.2<(0:Int)))==false) (.ite (decide (0≤(0:Int)∧(0:Int)<((List.length y1.1:Nat):Int))) (.get (nth y1.1 (Int.toNat (0:Int))) λy2=> .ite (decide (y2>(40:Int))) (.ret (((([]:List ar),()),((-1:Int),()),()),((),(),()))) (.get (iter TT aI ((a0,y1.2,(0:Int),()),(([]:List ar),y1.1,()))) λy3=> .alt y3 (λy4=> .ite (!(bm y4.2.1)) (.ret (((([]:List ar),()),((-1:Int),()),()),((),(),()))) (.ret (((y4.2.1,()),(y4.1.1,()),()),((),(),())))) (λy5=> .ret (((y5.2.1,()),(y5.1.1,()),()),((),(),()))))) .fail) (.ret (((([]:List ar),()),((-1:Int),()),()),((),(),())))
def ana:Nat→Option au:=λn=>bw [(0,⟨⟨[.s, .i .i64]++dd 4++[.aR act, .aR adc, .i .i64]++dd 66,[(act, .arr cT),(adc, .arr (.int .i64))]⟩,⟨[.dead, .i .i64]++dd 4++[.aR act]++dd 68,[(act, .arr cT)]⟩,some ⟨dd 4++[.aR act, .i .i64]++dd 69,[(act, .arr cT)]⟩,false⟩)] n
def KC:=λa0 a1=>(wI a0 a1).eval
def k41:bK:={ f:=41,lend:=true,aF:=[wr,wl],lay:=[none,none],rs:=[IO,wl],F:=λx=> .get (KC x.1.1 x.2.1.1) λy=> .ret y }
theorem ag9 (x:aw k41.aF):bo [JH,Si,Y0] ana Tryz.f41 k41 [.tmp 4, .tmp 5] x=wI x.1.1 x.2.1.1:=by kernel_rfl
theorem aha:k41.Ok acl:=aD [JH,Si,Y0] ⟨yQ,Na,TU,trivial⟩ ag9 λ_ _ _ hy=>(dv _).symm.trans hy
def Ge (s:bs) (p:Int):Option (List ar×Int):=(KC s p).map λy=>(y.1.1.1,y.1.2.1.1)
theorem CP {s:bs} {p:Int} {z:List Int} (h:cS s p 1=some (z, -1)):Ge s p=some ([], -1):=by
 unfold Ge KC wI;rw [aa h,ae (by rfl)];rfl
theorem rU {s:bs} {p:Nat} (hp:p≤s.length):(∀ v k,dm 40 (cW 4) (s.drop p)=some (v,k)→Ge s ((p:Nat):Int)=some (if bm (v.map yT)=true then (v.map yT,((p+k:Nat):Int)) else ([], -1))∧p+k≤s.length)∧
  (dm 40 (cW 4) (s.drop p)=none→∃ z,Ge s ((p:Nat):Int)=some (z, -1)):=by
 have hv:=TR hp;unfold dm uj;cases hi:sY (s.drop p) with
 |none=>
  rw [hi] at hv;obtain ⟨z,hz⟩:=hv;exact ⟨λv k h=>(nomatch h),λ_=>⟨_,CP hz⟩⟩
 |some i=>
  rw [hi] at hv;obtain ⟨hv,hle⟩:=hv;dsimp only;generalize dN ((s.drop p).take (i+1))=n at hv ⊢;unfold Ge KC wI;rw [aa hv,ab (by rw [adD];rfl),ab (by rfl),aa (x:=((n:Nat):Int)) (by rfl)];by_cases h40:40<n
  . rw [aaZ h40,ab (aac)]
    exact ⟨λv k h=>(nomatch h),λ_=>⟨_,rfl⟩⟩
  . rw [aae h40,ae (adD)]
    dsimp only;have hk:=CM (f:=TT) (jk s (n:=4) (by decide) (by decide)) yT (λi p l=>((s,p,((i:Nat):Int),()),(l,[((n:Nat):Int)],()))) (λp l=>((p,()),(l,()))) (λ_=>((-1,()),([],()))) (n:=n) (by omega)
     (λi p l a e hi hl hp ha he hP=>by
      have h1:=aq (i:=i) (by unfold cj;omega);obtain ⟨k,hk⟩:=hP;obtain ⟨x1,x2,x3,x4,rfl⟩:=Bs (fX hk).2.1;have g8:∀ z:ar,decide (List.length l+List.length ([z]:List ar)≤bn)=true:=λz=>iV (by simp;omega);refine (ab rfl).trans ((aa (x:=((n:Nat):Int)) rfl).trans ((ab (aac (show ((i:Nat):Int)<((n:Nat):Int) by omega))).trans ((aa ha).trans ((ae (adD (show ¬ e<0 by omega))).trans ?_))));refine (ab rfl).trans ((aa (x:=x1) rfl).trans ((ab rfl).trans ((aa (x:=x2) rfl).trans ((ab rfl).trans ((aa (x:=x3) rfl).trans ((ab rfl).trans ((aa (x:=x4) rfl).trans ?_)))))));have e2:yT [x1,x2,x3,x4]=(x1,(x2,((bif x1==(1:Int) then dA x3 else x3),(x4,())))):=rfl;rw [e2];cases q:(x1==(1:Int))
      . exact (ae rfl).trans ((ab (g8 _)).trans (by rw [← h1];rfl))
      . exact (ab rfl).trans ((ab (g8 _)).trans (by rw [← h1];rfl)))
     (λi p l a hi hl hp ha=>by
      exact (ab rfl).trans ((aa (x:=((n:Nat):Int)) rfl).trans ((ab (aac (show ((i:Nat):Int)<((n:Nat):Int) by omega))).trans ((aa ha).trans ((ab rfl).trans rfl)))))
     (λp l=>(ab rfl).trans ((aa (x:=((n:Nat):Int)) rfl).trans ((ae (adD (show ¬ ((n:Nat):Int)<((n:Nat):Int) by omega))).trans rfl))) (p:=p+(i+1)) hle
    rw [aea];cases hr:jV (cW 4) n (s.drop (p+(i+1))) with
    |none=>
     obtain ⟨l,hl⟩:=hk.2 hr;refine ⟨λv k h=>(nomatch h),λ_=>⟨[], ?_⟩⟩;refine (congrArg (Option.map _) (aa hl)).trans ?_;rfl
    |some x=>
     obtain ⟨v,j⟩:=x;obtain ⟨hl,anc⟩:=hk.1 v j hr;refine ⟨λv' k h=> ?_,λh=>nomatch h⟩;simp only [adI,ad3] at h;obtain ⟨rfl,rfl⟩:=h;refine ⟨?_,by omega⟩;refine (congrArg (Option.map _) (aa hl)).trans ?_;refine (congrArg (Option.map _) (bG _)).trans ?_;dsimp only;by_cases eK:bm (v.map yT)=true
     . rw [aaZ eK,ae (by simp [eK]),show p+(i+1+j)=p+(i+1)+j by omega];rfl
     . rw [aae eK,ab (by simp [eK])];rfl
theorem TV (s:bs):Q5 (Ge s) wh s:=by
 rw [TQ];refine ⟨λp hp l k h=> ?_,λp hp h=> ?_, ?_⟩
 . obtain ⟨v,hv,hl⟩:=Gc h
   have h1:=(rU hp).1 v k hv;unfold J7 at hl;split at hl
   . rename_i eK
     obtain rfl:=ac2 hl;rw [aaZ eK] at h1;exact h1
   . exact nomatch hl
 . rcases Gd h with h|⟨v,k,hv,hl⟩
   . exact (rU hp).2 h
   . have h1:=(rU hp).1 v k hv
     unfold J7 at hl;split at hl
     . exact nomatch hl
     . rename_i eK
       rw [aae eK] at h1;exact ⟨_,h1.1⟩
 . obtain ⟨z,hz⟩:=(jk s (n:=1) (by decide) (by decide)).2.2
   simp_all [CP]
abbrev TW:=(Int×Int×Unit)×(pu×List Int×pu×List Int×List Int×List Int×List Int×List Int×List Int×Unit)
def CQ:TW→Out (Round TW ((Int×Unit)×(pu×pu×List Int×List Int×List Int×List Int×List Int×List Int×Unit)) Empty)
|((p0,p1,_),(p2,p3,p4,p5,p6,p7,p8,_),p9,(bL,b8,cr,dc,cO,cn,cX,_),dz,dC,dP,eH,eC,jZ,_)=> .ite (decide (p1<((List.length p9:Nat):Int))) (.ite (decide (0≤p1∧p1<((List.length p9:Nat):Int))) (.get (nth p9 (Int.toNat p1)) λy1=> .ite (decide (List.length jZ+List.length ([(abs (y1 - (1:Int)))]:List Int)≤bn)) (.ret (.again ((p0,(abs (p1+(1:Int))),()),((p2,p3,p4,p5,p6,p7,p8,()),p9,(bL,b8,cr,dc,cO,cn,cX,()),dz,dC,dP,eH,eC,(jZ++([(abs (y1 - (1:Int)))]:List Int)),())))) .fail) .fail) (.ret (.out ((p0,()),((p2,p3,p4,p5,p6,p7,p8,()),(bL,b8,cr,dc,cO,cn,cX,()),dz,dC,dP,eH,eC,jZ,()))))
def mj (a0:List UInt8) (a1:Int):Out ((XM×(Int×Unit)×Unit)×XI):= .get (cS a0 a1 (5:Int)) λy1=> .get (cY a0 y1.2 (4:Int)) λy2=> .get (cY a0 y2.2 (12:Int)) λy3=> .get (cY a0 y3.2 (4:Int)) λy4=> .get (cS a0 y4.2 (1:Int)) λy5=> .get (cY a0 y5.2 (1:Int)) λy6=> .ite ((decide (y6.2<(0:Int)))==false) (.ite ((((List.length y6.1:Nat):Int) != (1:Int))) (.ret ((((0:Int),(0:Int),(0:Int),(0:Int),(0:Int),([]:List Int),([]:List Int),([]:List Int),(0:Int),(0:Int),()),((-1:Int),()),()),((),(),()))) (.ite (decide (0≤(0:Int)∧(0:Int)<((List.length y1.1:Nat):Int))) (.get (nth y1.1 (Int.toNat (0:Int))) λy7=> .ite (decide (0≤(1:Int)∧(1:Int)<((List.length y1.1:Nat):Int))) (.get (nth y1.1 (Int.toNat (1:Int))) λy8=> .ite (decide (0≤(2:Int)∧(2:Int)<((List.length y1.1:Nat):Int))) (.get (nth y1.1 (Int.toNat (2:Int))) λy9=> .ite (decide (0≤(3:Int)∧(3:Int)<((List.length y1.1:Nat):Int))) (.get (nth y1.1 (Int.toNat (3:Int))) λF6=> .ite (decide (0≤(4:Int)∧(4:Int)<((List.length y1.1:Nat):Int))) (.get (nth y1.1 (Int.toNat (4:Int))) λsX=> .get (rL y2.1) λyY=> .get (rL y3.1) λy13=> .ite (decide (0≤(0:Int)∧(0:Int)<((List.length y5.1:Nat):Int))) (.get (nth y5.1 (Int.toNat (0:Int))) λy14=> .ite (decide (0≤(0:Int)∧(0:Int)<((List.length y6.1:Nat):Int))) (.get (nth y6.1 (Int.toNat (0:Int))) λy15=> .get (aP CQ aI ((y6.2,(0:Int),()),(((0:Int),(0:Int),(0:Int),(0:Int),(0:Int),(0:Int),(0:Int),()),y4.1,(y7,y8,y9,F6,sX,y14,(dA y15),()),([]:List Int),([]:List Int),([]:List Int),yY,y13,([]:List Int),()))) λFl=> .ret (((Fl.2.2.1.1,Fl.2.2.1.2.1,Fl.2.2.1.2.2.1,Fl.2.2.1.2.2.2.1,Fl.2.2.1.2.2.2.2.1,Fl.2.2.2.2.2.2.1,Fl.2.2.2.2.2.2.2.1,Fl.2.2.2.2.2.2.2.2.1,Fl.2.2.1.2.2.2.2.2.1,Fl.2.2.1.2.2.2.2.2.2.1,()),(Fl.1.1,()),()),((),(),()))) .fail) .fail) .fail) .fail) .fail) .fail) .fail)) (.ret ((((0:Int),(0:Int),(0:Int),(0:Int),(0:Int),([]:List Int),([]:List Int),([]:List Int),(0:Int),(0:Int),()),((-1:Int),()),()),((),(),())))
def ane:Nat→Option au:=λn=>bw [(0,⟨⟨[.dead, .i .i64, .dead, .dead, .vptr act 0]++dd 4++[.aR adc, .dead, .dead, .vptr aig 0, .i .i64]++dd 90,[(act, .var [.i .i64, .i .i64, .i .i64, .i .i64, .i .i64, .aR alH, .aR alI, .aR alK, .i .i64, .i .i64]),(adc, .arr (.int .i64)),(aig, .var [.i .i64, .i .i64, .i .i64, .i .i64, .i .i64, .aR alQ, .aR alV, .aR ama, .i .i64, .i .i64]),(alH, .arr (.int .i64)),(alI, .arr (.int .i64)),(alK, .arr (.int .i64)),(alQ, .arr (.int .i64)),(alV, .arr (.int .i64)),(ama, .arr (.int .i64))]⟩,⟨[.dead, .i .i64, .dead, .dead, .vptr act 0]++dd 7++[.vptr adc 0]++dd 91,[(act, .var [.i .i64, .i .i64, .i .i64, .i .i64, .i .i64, .aR aig, .aR alH, .aR alI, .i .i64, .i .i64]),(adc, .var [.i .i64, .i .i64, .i .i64, .i .i64, .i .i64, .aR alK, .aR alQ, .aR alV, .i .i64, .i .i64]),(aig, .arr (.int .i64)),(alH, .arr (.int .i64)),(alI, .arr (.int .i64)),(alK, .arr (.int .i64)),(alQ, .arr (.int .i64)),(alV, .arr (.int .i64))]⟩,none,false⟩)] n
def Gf:=λa0 a1=>(mj a0 a1).eval
def k42:bK:={ f:=42,lend:=true,aF:=[wr,wl],lay:=[none,none],rs:=[Or,wl],F:=λx=> .get (Gf x.1.1 x.2.1.1) λy=> .ret y }
theorem ahd (x:aw k42.aF):bo [JH,Sg,Sh,Si] ane Tryz.f42 k42 [.cell 4 57, .tmp 5] x=mj x.1.1 x.2.1.1:=by kernel_rfl
theorem ahe:k42.Ok acl:=aD [JH,Sg,Sh,Si] ⟨yQ,M9,Nb,Na,trivial⟩ ahd λ_ _ _ hy=>(dv _).symm.trans hy
def ahf (y:Int×Int×Int×Int×Int×List Int×List Int×XE):af:= (y.1,(y.2.1,(y.2.2.1,(y.2.2.2.1,((y.2.2.2.2.1,(y.2.2.2.2.2.1,())),(y.2.2.2.2.2.2.1,(y.2.2.2.2.2.2.2.1,(y.2.2.2.2.2.2.2.2.1,(y.2.2.2.2.2.2.2.2.2.1,())))))))))
def wJ (s:bs) (p:Int):Option (af×Int):=(Gf s p).map λy=>(ahf y.1.1,y.1.2.1.1)
def ZU:bs→Option (qr×Nat):=fh (cW 5) (fh (gm 4) (fh (gm 12) (fh (gm 4) (fh (cW 1) (gm 1)))))
def Nf (s:bs):Int→Option (qr×Int):=
 yW (λp=>cS s p ((5:Nat):Int)) (yW (λp=>cY s p ((4:Nat):Int)) (yW (λp=>cY s p ((12:Nat):Int)) (yW (λp=>cY s p ((4:Nat):Int)) (yW (λp=>cS s p ((1:Nat):Int)) (λp=>cY s p ((1:Nat):Int))))))
theorem Q6 (s:bs):Q5 (Nf s) ZU s:=
 CL (by grind [jk]) (by grind [CL,o9,jk])
def arq:qr→Option af
 |([a,b,c,d,e],iY,mem,fds,u::_,[x])=>some (a,(b,(c,(d,((e,(iY.map dA,())),(mem.map dA,(fds.map uy,(u,(dA x,())))))))))
 |_=>none
theorem Q7:wi=dS arq ZU:=by
 unfold wi m5 Cn ON m5;simp only [F9,yX,F8,Gb];unfold ZU;congr 1;funext x;obtain ⟨n,iY,mem,fds,u,code⟩:=x;rcases n with _|⟨a,_|⟨b,_|⟨c,_|⟨d,_|⟨e,_|⟨f,r⟩⟩⟩⟩⟩⟩<;>rcases u with _|⟨u,ur⟩<;>rcases code with _|⟨x,_|⟨y,r⟩⟩<;>rfl
theorem Gg {s:bs} {n iY mem fds u code:List Int} {k:Nat} (h:ZU s=some ((n,iY,mem,fds,u,code),k)):
  (∃ a b c d e,n=[a,b,c,d,e])∧iY.length≤4∧mem.length≤12∧fds.length≤4∧(∃ x,u=[x])∧code.length≤1:=by
 obtain ⟨i1,j1,h1,h,_⟩:=cK h;obtain ⟨i2,j2,h2,h,_⟩:=cK h;obtain ⟨i3,j3,h3,h,_⟩:=cK h;obtain ⟨i4,j4,h4,h,_⟩:=cK h;obtain ⟨i5,j5,h5,h6,_⟩:=cK h;refine ⟨wq (fX h1).2.1,(gW h2).2.1,(gW h3).2.1,(gW h4).2.1, ?_,(gW h6).2.1⟩;have:=(fX h5).2.1;grind [List.length_eq_one_iff]
theorem KD {s:bs} {p:Int} {z:List Int×List Int×List Int×List Int×List Int×List Int} (h:Nf s p=some (z, -1)):∃ r,wJ s p=some (r, -1):=by
 obtain ⟨q1,h1,h⟩:=fu h;obtain ⟨q2,h2,h⟩:=fu h;obtain ⟨q3,h3,h⟩:=fu h;obtain ⟨q4,h4,h⟩:=fu h;obtain ⟨q5,h5,h6⟩:=fu h;have ht:(mj s p).eval=some (((0,0,0,0,0,[],[],[],0,0,()),(-1,()),()),((),(),())):=by
  unfold mj;refine (aa h1).trans ((aa h2).trans ((aa h3).trans ((aa h4).trans ((aa h5).trans ((aa h6).trans ?_)))));exact (ae rfl).trans rfl
 simp_all [wJ,Gf]
theorem Gh {s:bs} {p a b c w x u:Int} {iY mem fds code:List Int} {e:Int} (he:0≤e) (h:Nf s p=some (([a,b,c,w,x],iY,mem,fds,[u],code),e)) (hr:iY.length≤4) (hm:mem.length≤12) (hf:fds.length≤4):
  match code with
  |[y]=>wJ s p=some ((a,(b,(c,(w,((x,(iY.map dA,())),(mem.map dA,(fds.map uy,(u,(dA y,()))))))))),e)
  |_=>∃ r,wJ s p=some (r, -1):=by
 obtain ⟨q1,h1,h⟩:=fu h;obtain ⟨q2,h2,h⟩:=fu h;obtain ⟨q3,h3,h⟩:=fu h;obtain ⟨q4,h4,h⟩:=fu h;obtain ⟨q5,h5,h6⟩:=fu h;simp only at h1 h2 h3 h4 h5 h6;have lds:List.length fds≤cj:=by unfold cj;omega
 have g0:(decide (e<(0:Int))==false)=true:=by rw [adD];rfl
 have z1:rL iY=some (iY.map dA):=jj (by rw [jQ];omega);have z2:rL mem=some (mem.map dA):=jj (by rw [jQ];omega);have bad:∀ {l:List Int},l.length≠1→cY s q5 ((1:Nat):Int)=some (l,e)→∃ r,wJ s p=some (r, -1):=λ{l} hl h6=>by
  have g1:(((List.length l:Nat):Int) != (1:Int))=true:=by simp;omega
  have ht:(mj s p).eval=some (((0,0,0,0,0,[],[],[],0,0,()),(-1,()),()),((),(),())):=by
   unfold mj;refine (aa h1).trans ((aa h2).trans ((aa h3).trans ((aa h4).trans ((aa h5).trans ((aa h6).trans ?_)))));exact (ab g0).trans ((ab g1).trans rfl)
  exact ⟨Tu,by unfold wJ Gf;rw [ht];rfl⟩
 rcases code with _|⟨y,_|⟨y2,r⟩⟩
 . exact bad (by simp) h6
 . show wJ s p=_
   have ht:(mj s p).eval=some (((a,b,c,w,x,iY.map dA,mem.map dA,fds.map uy,u,dA y,()),(e,()),()),((),(),())):=by
    unfold mj;refine (aa h1).trans ((aa h2).trans ((aa h3).trans ((aa h4).trans ((aa h5).trans ((aa h6).trans ?_)))));refine (ab g0).trans ((ae rfl).trans ?_);refine (ab rfl).trans ((aa (x:=a) rfl).trans ((ab rfl).trans ((aa (x:=b) rfl).trans ((ab rfl).trans ((aa (x:=c) rfl).trans ((ab rfl).trans ((aa (x:=w) rfl).trans ((ab rfl).trans ((aa (x:=x) rfl).trans ?_)))))))));refine (aa z1).trans ((aa z2).trans ((ab rfl).trans ((aa (x:=u) rfl).trans ((ab rfl).trans ((aa (x:=y) rfl).trans ?_)))));dsimp only
    skip
    skip
    skip
    skip
    skip
    skip
    skip
    skip
    skip
    skip
    skip
    skip
    have hl:aP CQ aI ((e,(0:Int),()),(((0:Int),(0:Int),(0:Int),(0:Int),(0:Int),(0:Int),(0:Int),()),fds,(a,b,c,w,x,u,(dA y),()),([]:List Int),([]:List Int),([]:List Int),(List.map dA iY),(List.map dA mem),([]:List Int),()))=some ((e,()),(((0:Int),(0:Int),(0:Int),(0:Int),(0:Int),(0:Int),(0:Int),()),(a,b,c,w,x,u,(dA y),()),([]:List Int),([]:List Int),([]:List Int),(List.map dA iY),(List.map dA mem),(([]:List Int)++List.flatMap (λn=>[uy n]) fds),())):=di (f:=CQ) (λn=>[uy n]) fds (λd i=>((e,((i:Nat):Int),()),(((0:Int),(0:Int),(0:Int),(0:Int),(0:Int),(0:Int),(0:Int),()),fds,(a,b,c,w,x,u,(dA y),()),([]:List Int),([]:List Int),([]:List Int),(List.map dA iY),(List.map dA mem),d,()))) (λd=>((e,()),(((0:Int),(0:Int),(0:Int),(0:Int),(0:Int),(0:Int),(0:Int),()),(a,b,c,w,x,u,(dA y),()),([]:List Int),([]:List Int),([]:List Int),(List.map dA iY),(List.map dA mem),d,()))) 1000000
     (λi hi d hd=>by
      have h1:=aq (i:=i) (by omega);have h2:decide (0≤((i:Nat):Int)∧((i:Nat):Int)<((List.length fds:Nat):Int))=true:=aac
      all_goals (try simp only [aay,adC] at hd)
      all_goals (simp only [CQ,Out.eval,iZ hi,bD hi,adN,aed,h1,h2])
      all_goals (repeat rw [fe (by grind)])
      all_goals (try simp only [adO])
      all_goals (try rfl))
     (by grind [CQ,Out.eval]) lds ([]:List Int) (by rw [rM];simp;omega)
    rw [rM] at hl;exact (aa hl).trans rfl
   unfold wJ Gf;rw [ht];rfl
 grind
theorem TX (s:bs):Q5 (wJ s) wi s:=by
 rw [Q7];have hc:=Q6 s;refine ⟨λp hp r k h=> ?_,λp hp h=> ?_, ?_⟩
 . obtain ⟨⟨n,iY,mem,fds,u,code⟩,hx,hr⟩:=Gc h
   obtain ⟨⟨a,b,c,d,e,rfl⟩,r1,r2,r3,⟨u,rfl⟩,r4⟩:=Gg hx;have h1:=hc.1 p hp _ _ hx;refine ⟨?_,h1.2⟩;have h2:=Gh (by omega) h1.1 r1 r2 r3;rcases code with _|⟨y,_|⟨y2,r⟩⟩
   . exact nomatch hr
   . obtain rfl:=ac2 hr;exact h2
   . exact nomatch hr
 . rcases Gd h with h|⟨⟨n,iY,mem,fds,u,code⟩,k,hx,hr⟩
   . obtain ⟨z,hz⟩:=hc.2.1 p hp h
     exact KD hz
   . obtain ⟨⟨a,b,c,d,e,rfl⟩,r1,r2,r3,⟨u,rfl⟩,r4⟩:=Gg hx
     have h1:=hc.1 p hp _ _ hx;have h2:=Gh (by omega) h1.1 r1 r2 r3;rcases code with _|⟨y,_|⟨y2,r⟩⟩
     . exact h2
     . exact nomatch hr
     . exact h2
 . obtain ⟨z,hz⟩:=hc.2.2
   exact KD hz
def uA:List Int→ai
 |[a,b,c,d,e]=>(a,(b,(c,(d,(e,())))))
 |_=>(0,(0,(0,(0,(0,())))))
theorem CR {α β:Type} {P:bs→Option (α×Nat)} {f g:α→Option β} (h:∀ s a k,P s=some (a,k)→f a=g a):dS f P=dS g P:=by
 grind [dS]
theorem Q8:wj=dS (λl=>some (uA l)) (cW 5):=CR λs l k h=>by
 obtain ⟨a,b,c,d,e,rfl⟩:=wq (fX h).2.1;rfl
def CS (x:List Int×List Int):cB:=(x.1.headD 0,(x.2.map dA,()))
theorem Gi (m:Nat):m6 m=dS (λx=>some (CS x)) (fh (cW 1) (gm m)):=by
 unfold m6 m5;simp only [F9,yX,F8,Gb];refine CR λs x k h=> ?_;obtain ⟨i,j,h1,h2,_⟩:=cK h;obtain ⟨y,hy⟩:=Pi.1 (fX h1).2.1;obtain ⟨l,d⟩:=x;simp only at hy;subst hy;rfl
theorem KE (s:bs) {m:Nat} (hm:m≤1000):Q5 (yW (λp=>cS s p ((1:Nat):Int)) (λp=>cY s p ((m:Nat):Int))) (fh (cW 1) (gm m)) s:=
 by grind [CL,jk,o9]
def qn:bs→Option ((List ai×List fq×List cB)×Nat):=fh (dm 8 wj) (fh (dm 3 (m6 4)) (dm 6 (m6 8)))
theorem Ih {l:List Int} (h:l.length≤100):rL l=some (l.map dA):=jj (by grind)
theorem jC {α β:Type} {P:bs→Option (α×Nat)} {Q:bs→Option (β×Nat)} {s:bs} (h:P s=none):fh P Q s=none:=by grind [fh]
theorem eQ {α β:Type} {P:bs→Option (α×Nat)} {Q:bs→Option (β×Nat)} {s:bs} {a:α} {k:Nat} (h:P s=some (a,k)):fh P Q s=match Q (s.drop k) with|none=>none|some (b,j)=>some ((a,b),k+j):=by
 grind [fh]
theorem Ii {α β:Type} {P:bs→Option (α×Nat)} {g:α→β} {s:bs} {a:α} {k:Nat} (h:P s=some (a,k)):dS (λa=>some (g a)) P s=some (g a,k):=by grind [dS]
theorem Ij {α β:Type} {P:bs→Option (α×Nat)} {g:α→β} {s:bs} (h:P s=none):dS (λa=>some (g a)) P s=none:=by grind [dS]
abbrev TZ:=ne×bi
def T1:TZ→Out (Round TZ ut ((Int×Unit)×((Int×Int×Unit)×rV)))
|((p0,p1,p2,p3,_),(p4,p5,_),(p6,p7,_),p8,p9,bL,b8,cr,dc,cO,cn,cX,dz,dC,dP,eH,eC,_)=> .ite ((decide (p3<p2))==true) (.ite (decide (p1≥(0:Int))) (.get (cS p0 p1 (5:Int)) λy1=> .ite (decide (y1.2<(0:Int))) (.ret (.ret (((-1:Int),()),((p4,p5,()),p8,p9,bL,b8,cr,dc,cO,())))) (.ite (decide (0≤(0:Int)∧(0:Int)<((List.length y1.1:Nat):Int))) (.get (nth y1.1 (Int.toNat (0:Int))) λy2=> .ite (decide (0≤(1:Int)∧(1:Int)<((List.length y1.1:Nat):Int))) (.get (nth y1.1 (Int.toNat (1:Int))) λy3=> .ite (decide (0≤(2:Int)∧(2:Int)<((List.length y1.1:Nat):Int))) (.get (nth y1.1 (Int.toNat (2:Int))) λy4=> .ite (decide (0≤(3:Int)∧(3:Int)<((List.length y1.1:Nat):Int))) (.get (nth y1.1 (Int.toNat (3:Int))) λy5=> .ite (decide (0≤(4:Int)∧(4:Int)<((List.length y1.1:Nat):Int))) (.get (nth y1.1 (Int.toNat (4:Int))) λy6=> .ite (decide (List.length bL+List.length ([(y2,y3,y4,y5,y6,())]:List ai)≤bn)) (.ret (.again ((p0,y1.2,p2,(abs (p3+(1:Int))),()),((p4,p5,()),(p6,p7,()),p8,p9,(bL++([(y2,y3,y4,y5,y6,())]:List ai)),b8,cr,dc,cO,cn,cX,dz,dC,dP,eH,eC,())))) .fail) .fail) .fail) .fail) .fail) .fail)) (.ret (.out ((p0,p1,()),((p4,p5,()),(p6,p7,()),p8,p9,bL,b8,cr,dc,cO,cn,cX,dz,dC,dP,eH,eC,()))))) (.ret (.out ((p0,p1,()),((p4,p5,()),(p6,p7,()),p8,p9,bL,b8,cr,dc,cO,cn,cX,dz,dC,dP,eH,eC,()))))
abbrev T3:=ne×bi
def T4:T3→Out (Round T3 ut ((Int×Unit)×((Int×Int×Unit)×rV)))
|((p0,p1,p2,p3,_),(p4,p5,_),(p6,p7,_),p8,p9,bL,b8,cr,dc,cO,cn,cX,dz,dC,dP,eH,eC,_)=> .ite ((decide (p3<p2))==true) (.ite (decide (p1≥(0:Int))) (.get (cS p0 p1 (1:Int)) λy1=> .get (cY p0 y1.2 (4:Int)) λy2=> .ite (decide (y2.2<(0:Int))) (.ret (.ret (((-1:Int),()),((p4,p5,()),p8,p9,bL,b8,cr,dc,cO,())))) (.ite (decide (0≤(0:Int)∧(0:Int)<((List.length y1.1:Nat):Int))) (.get (nth y1.1 (Int.toNat (0:Int))) λy3=> .get (rL y2.1) λy4=> .ite (decide (List.length b8+List.length ([(y3,y4,())]:List ah)≤bn)) (.ret (.again ((p0,y2.2,p2,(abs (p3+(1:Int))),()),((p4,p5,()),(p6,p7,()),p8,p9,bL,(b8++([(y3,y4,())]:List ah)),cr,dc,cO,cn,cX,dz,dC,dP,eH,eC,())))) .fail) .fail)) (.ret (.out ((p0,p1,()),((p4,p5,()),(p6,p7,()),p8,p9,bL,b8,cr,dc,cO,cn,cX,dz,dC,dP,eH,eC,()))))) (.ret (.out ((p0,p1,()),((p4,p5,()),(p6,p7,()),p8,p9,bL,b8,cr,dc,cO,cn,cX,dz,dC,dP,eH,eC,()))))
abbrev T5:=ne×bi
def T6:T5→Out (Round T5 ((Int×Unit)×bi) ((Int×Unit)×((Int×Int×Unit)×rV)))
|((p0,p1,p2,p3,_),(p4,p5,_),(p6,p7,_),p8,p9,bL,b8,cr,dc,cO,cn,cX,dz,dC,dP,eH,eC,_)=> .ite ((decide (p3<p2))==true) (.ite (decide (p1≥(0:Int))) (.get (cS p0 p1 (1:Int)) λy1=> .get (cY p0 y1.2 (8:Int)) λy2=> .ite (decide (y2.2<(0:Int))) (.ret (.ret (((-1:Int),()),((p4,p5,()),p8,p9,bL,b8,cr,dc,cO,())))) (.ite (decide (0≤(0:Int)∧(0:Int)<((List.length y1.1:Nat):Int))) (.get (nth y1.1 (Int.toNat (0:Int))) λy3=> .get (rL y2.1) λy4=> .ite (decide (List.length cr+List.length ([(y3,y4,())]:List ah)≤bn)) (.ret (.again ((p0,y2.2,p2,(abs (p3+(1:Int))),()),((p4,p5,()),(p6,p7,()),p8,p9,bL,b8,(cr++([(y3,y4,())]:List ah)),dc,cO,cn,cX,dz,dC,dP,eH,eC,())))) .fail) .fail)) (.ret (.out ((p1,()),((p4,p5,()),(p6,p7,()),p8,p9,bL,b8,cr,dc,cO,cn,cX,dz,dC,dP,eH,eC,()))))) (.ret (.out ((p1,()),((p4,p5,()),(p6,p7,()),p8,p9,bL,b8,cr,dc,cO,cn,cX,dz,dC,dP,eH,eC,()))))
def j0 (a0 a1:Int) (a2:List (List ar)) (a3:List af) (a4:List ai) (a5 a6:List ah) (a7 a8:List Int) (a9:List UInt8) (fG:Int):Out ((bA×(Int×Unit)×Unit)×(Unit×XI)):= .get (mi a9 fG (8:Int)) λy1=> .get (iter T1 aI ((a9,y1.1.2.1.1,y1.1.1.1,(0:Int),()),((a0,a1,()),((0:Int),(0:Int),()),a2,a3,a4,a5,a6,a7,a8,([]:List (List ar)),([]:List af),([]:List ai),([]:List ah),([]:List ah),([]:List Int),([]:List Int),()))) λy2=> .alt y2 (λy3=> .get (mi y3.1.1 y3.1.2.1 (3:Int)) λy5=> .get (iter T4 aI ((y3.1.1,y5.1.2.1.1,y5.1.1.1,(0:Int),()),((y3.2.1.1,y3.2.1.2.1,()),(y3.2.2.1.1,y3.2.2.1.2.1,()),y3.2.2.2.1,y3.2.2.2.2.1,y3.2.2.2.2.2.1,y3.2.2.2.2.2.2.1,y3.2.2.2.2.2.2.2.1,y3.2.2.2.2.2.2.2.2.1,y3.2.2.2.2.2.2.2.2.2.1,y3.2.2.2.2.2.2.2.2.2.2.1,y3.2.2.2.2.2.2.2.2.2.2.2.1,y3.2.2.2.2.2.2.2.2.2.2.2.2.1,y3.2.2.2.2.2.2.2.2.2.2.2.2.2.1,y3.2.2.2.2.2.2.2.2.2.2.2.2.2.2.1,y3.2.2.2.2.2.2.2.2.2.2.2.2.2.2.2.1,y3.2.2.2.2.2.2.2.2.2.2.2.2.2.2.2.2.1,()))) λy6=> .alt y6 (λy7=> .get (mi y7.1.1 y7.1.2.1 (6:Int)) λy9=> .get (iter T6 aI ((y7.1.1,y9.1.2.1.1,y9.1.1.1,(0:Int),()),((y7.2.1.1,y7.2.1.2.1,()),(y7.2.2.1.1,y7.2.2.1.2.1,()),y7.2.2.2.1,y7.2.2.2.2.1,y7.2.2.2.2.2.1,y7.2.2.2.2.2.2.1,y7.2.2.2.2.2.2.2.1,y7.2.2.2.2.2.2.2.2.1,y7.2.2.2.2.2.2.2.2.2.1,y7.2.2.2.2.2.2.2.2.2.2.1,y7.2.2.2.2.2.2.2.2.2.2.2.1,y7.2.2.2.2.2.2.2.2.2.2.2.2.1,y7.2.2.2.2.2.2.2.2.2.2.2.2.2.1,y7.2.2.2.2.2.2.2.2.2.2.2.2.2.2.1,y7.2.2.2.2.2.2.2.2.2.2.2.2.2.2.2.1,y7.2.2.2.2.2.2.2.2.2.2.2.2.2.2.2.2.1,()))) λF6=> .alt F6 (λsX=> .ret (((sX.2.1.1,sX.2.1.2.1,sX.2.2.2.1,sX.2.2.2.2.1,sX.2.2.2.2.2.1,sX.2.2.2.2.2.2.1,sX.2.2.2.2.2.2.2.1,sX.2.2.2.2.2.2.2.2.1,sX.2.2.2.2.2.2.2.2.2.1,()),(sX.1.1,()),()),((),(),(),()))) (λyY=> .ret (((yY.2.1.1,yY.2.1.2.1,yY.2.2.1,yY.2.2.2.1,yY.2.2.2.2.1,yY.2.2.2.2.2.1,yY.2.2.2.2.2.2.1,yY.2.2.2.2.2.2.2.1,yY.2.2.2.2.2.2.2.2.1,()),(yY.1.1,()),()),((),(),(),())))) (λy8=> .ret (((y8.2.1.1,y8.2.1.2.1,y8.2.2.1,y8.2.2.2.1,y8.2.2.2.2.1,y8.2.2.2.2.2.1,y8.2.2.2.2.2.2.1,y8.2.2.2.2.2.2.2.1,y8.2.2.2.2.2.2.2.2.1,()),(y8.1.1,()),()),((),(),(),())))) (λy4=> .ret (((y4.2.1.1,y4.2.1.2.1,y4.2.2.1,y4.2.2.2.1,y4.2.2.2.2.1,y4.2.2.2.2.2.1,y4.2.2.2.2.2.2.1,y4.2.2.2.2.2.2.2.1,y4.2.2.2.2.2.2.2.2.1,()),(y4.1.1,()),()),((),(),(),())))
abbrev yZ:List (Nat×dT):=[(act, .var [.i .i64, .i .i64, .aR aig, .aR alH, .aR alI, .aR alK, .aR alQ, .aR alV, .aR ama]),(adc, .var [.i .i64, .i .i64, .aR amb, .aR amc, .aR amd, .aR ame, .aR amf, .aR amg, .aR amh]),(aig, .arr (.sl cT)),(alH, .arr jc),(alI, .arr eF),(alK, .arr dp),(alQ, .arr dp),(alV, .arr (.int .i64)),(ama, .arr (.int .i64)),(amb, .arr (.sl cT)),(amc, .arr jc),(amd, .arr eF),(ame, .arr dp),(amf, .arr dp),(amg, .arr (.int .i64)),(amh, .arr (.int .i64))]
abbrev Ng:List (Nat×dT):=[(act, .var [.i .i64, .i .i64, .aR adc, .aR aig, .aR alH, .aR alI, .aR alK, .aR alQ, .aR alV]),(adc, .arr (.sl cT)),(aig, .arr jc),(alH, .arr eF),(alI, .arr dp),(alK, .arr dp),(alQ, .arr (.int .i64)),(alV, .arr (.int .i64))]
def ang:Nat→Option au:=λn=>bw [(0,⟨⟨[.dead, .s, .i .i64, .vptr act 0, .dead, .dead, .vptr adc 0, .dead, .i .i64, .i .i64]++dd 142,yZ⟩,⟨[.dead, .s, .i .i64, .vptr act 0, .dead, .dead, .vptr adc 0]++dd 145,yZ⟩,some ⟨dd 6++[.vptr act 0, .i .i64]++dd 144,Ng⟩,false⟩),(2,⟨⟨[.dead, .s, .i .i64, .vptr act 0, .dead, .dead, .vptr adc 0, .dead, .i .i64, .dead, .dead, .dead, .i .i64]++dd 139,yZ⟩,⟨[.dead, .s, .i .i64, .vptr act 0, .dead, .dead, .vptr adc 0]++dd 145,yZ⟩,some ⟨dd 6++[.vptr act 0, .i .i64]++dd 144,Ng⟩,false⟩),(4,⟨⟨[.dead, .s, .i .i64, .vptr act 0, .dead, .dead, .vptr adc 0, .dead, .i .i64]++dd 7++[.i .i64]++dd 135,yZ⟩,⟨[.dead, .dead, .i .i64, .vptr act 0, .dead, .dead, .vptr adc 0]++dd 145,yZ⟩,some ⟨dd 6++[.vptr act 0, .i .i64]++dd 144,Ng⟩,false⟩)] n
def n8:=λa0 a1 a2 a3 a4 a5 a6 a7 a8 a9 fG=>(j0 a0 a1 a2 a3 a4 a5 a6 a7 a8 a9 fG).eval
def k43:bK:={ f:=43,lend:=true,aF:=[GT,wr,wl],lay:=[none,none,none],rs:=[GT,wl],F:=λx=> .get (n8 x.1.1 x.1.2.1 x.1.2.2.1 x.1.2.2.2.1 x.1.2.2.2.2.1 x.1.2.2.2.2.2.1 x.1.2.2.2.2.2.2.1 x.1.2.2.2.2.2.2.2.1 x.1.2.2.2.2.2.2.2.2.1 x.2.1.1 x.2.2.1.1) λy=> .ret y }
theorem ahg (x:aw k43.aF):bo [k40,JH,Sg,Sh] ang Tryz.f43 k43 [.cell 6 31, .tmp 7] x=j0 x.1.1 x.1.2.1 x.1.2.2.1 x.1.2.2.2.1 x.1.2.2.2.2.1 x.1.2.2.2.2.2.1 x.1.2.2.2.2.2.2.1 x.1.2.2.2.2.2.2.2.1 x.1.2.2.2.2.2.2.2.2.1 x.2.1.1 x.2.2.1.1:=by kernel_rfl
theorem ahh:k43.Ok acl:=aD [k40,JH,Sg,Sh] ⟨TP,yQ,M9,Nb,trivial⟩ ahg λ_ _ _ hy=>(dv _).symm.trans hy
def rW (a0 a1:Int) (a2:List (List ar)) (a3:List af) (a7 a8:List Int) (a9:bs) (p:Int):Option ((List ai×List fq×List cB)×Int)→Prop
 |some ((os,A1,OY),e)=>n8 a0 a1 a2 a3 [] [] [] a7 a8 a9 p=some (((a0,a1,a2,a3,os,A1,OY,a7,a8,()),(e,()),()),((),(),(),()))
 |none=>∃ os A1 OY,n8 a0 a1 a2 a3 [] [] [] a7 a8 a9 p=some (((a0,a1,a2,a3,os,A1,OY,a7,a8,()),(-1,()),()),((),(),(),()))
theorem Q9 (a0 a1:Int) (a2:List (List ar)) (a3:List af) (a7 a8:List Int) (a9:bs):
  (∀ p:Nat,p≤a9.length→match qn (a9.drop p) with
   |some (x,k)=>rW a0 a1 a2 a3 a7 a8 a9 ((p:Nat):Int) (some (x,((p+k:Nat):Int)))∧p+k≤a9.length
   |none=>rW a0 a1 a2 a3 a7 a8 a9 ((p:Nat):Int) none)∧rW a0 a1 a2 a3 a7 a8 a9 (-1) none:=by
 obtain ⟨a5,h5⟩:∃ x:List fq,x=[]:=⟨[],rfl⟩
 obtain ⟨a6,h6⟩:∃ x:List cB,x=[]:=⟨[],rfl⟩
 have h1:=CO (f:=T1) (jk a9 (n:=5) (by decide) (by decide)) uA (λn i p l=>((a9,p,((n:Nat):Int),((i:Nat):Int),()),((a0,a1,()),((0:Int),(0:Int),()),a2,a3,l,a5,a6,a7,a8,([]:List (List ar)),([]:List af),([]:List ai),([]:List ah),([]:List ah),([]:List Int),([]:List Int),()))) (λp l=>((a9,p,()),((a0,a1,()),((0:Int),(0:Int),()),a2,a3,l,a5,a6,a7,a8,([]:List (List ar)),([]:List af),([]:List ai),([]:List ah),([]:List ah),([]:List Int),([]:List Int),()))) (λl=>(((-1:Int),()),((a0,a1,()),a2,a3,l,a5,a6,a7,a8,()))) (m:=8) (by decide)
  (λn i p l a e hn hi hl hp ha he hP=>by
   have h1:=aq (i:=i) (by unfold cj;omega);obtain ⟨k,hk⟩:=hP;obtain ⟨x1,x2,x3,x4,x5,rfl⟩:=wq (fX hk).2.1;refine (ab (by rw [aac (show ((i:Nat):Int)<((n:Nat):Int) by omega)];rfl)).trans ((ab (aac (show p≥0 by omega))).trans ((aa ha).trans ((ae (adD (show ¬ e<0 by omega))).trans ?_)));refine (ab rfl).trans ((aa (x:=x1) rfl).trans ((ab rfl).trans ((aa (x:=x2) rfl).trans ((ab rfl).trans ((aa (x:=x3) rfl).trans ((ab rfl).trans ((aa (x:=x4) rfl).trans ((ab rfl).trans ((aa (x:=x5) rfl).trans ?_)))))))));exact (ab (iV (by simp;omega))).trans (by rw [← h1];rfl))
  (λn i p l a hi hl hp ha=>by
   exact (ab (by rw [aac (show ((i:Nat):Int)<((n:Nat):Int) by omega)];rfl)).trans ((ab (aac (show p≥0 by omega))).trans ((aa ha).trans ((ab rfl).trans rfl))))
  (λn p l=>(ae (by rw [adD (show ¬ ((n:Nat):Int)<((n:Nat):Int) by omega)];rfl)).trans rfl)
 skip
 have h2 (os:List ai):=CO (f:=T4) (KE a9 (m:=4) (by decide)) CS (λn i p l=>((a9,p,((n:Nat):Int),((i:Nat):Int),()),((a0,a1,()),((0:Int),(0:Int),()),a2,a3,os,l,a6,a7,a8,([]:List (List ar)),([]:List af),([]:List ai),([]:List ah),([]:List ah),([]:List Int),([]:List Int),()))) (λp l=>((a9,p,()),((a0,a1,()),((0:Int),(0:Int),()),a2,a3,os,l,a6,a7,a8,([]:List (List ar)),([]:List af),([]:List ai),([]:List ah),([]:List ah),([]:List Int),([]:List Int),()))) (λl=>(((-1:Int),()),((a0,a1,()),a2,a3,os,l,a6,a7,a8,()))) (m:=3) (by decide)
  (λn i p l a e hn hi hl hp ha he hP=>by
   have h1:=aq (i:=i) (by unfold cj;omega);obtain ⟨k,hk⟩:=hP;obtain ⟨i1,i2,k1,k2,_⟩:=cK hk;obtain ⟨l1,d⟩:=a;obtain ⟨x1,hx⟩:=Pi.1 (fX k1).2.1;simp only at hx;subst hx;obtain ⟨q1,e1,e2⟩:=fu ha;simp only at e1 e2;have hd:=(gW k2).2.1;refine (ab (by rw [aac (show ((i:Nat):Int)<((n:Nat):Int) by omega)];rfl)).trans ((ab (aac (show p≥0 by omega))).trans ((aa e1).trans ((aa e2).trans ((ae (adD (show ¬ e<0 by omega))).trans ?_))));refine (ab rfl).trans ((aa (x:=x1) rfl).trans ((aa (Ih (show d.length≤100 by simp only at hd;omega))).trans ?_));exact (ab (iV (by simp;omega))).trans (by rw [← h1];rfl))
  (λn i p l a hi hl hp ha=>by
   obtain ⟨q1,e1,e2⟩:=fu ha;exact (ab (by rw [aac (show ((i:Nat):Int)<((n:Nat):Int) by omega)];rfl)).trans ((ab (aac (show p≥0 by omega))).trans ((aa e1).trans ((aa e2).trans ((ab rfl).trans rfl)))))
  (λn p l=>(ae (by rw [adD (show ¬ ((n:Nat):Int)<((n:Nat):Int) by omega)];rfl)).trans rfl)
 skip
 have h4 (os:List ai) (A1:List fq):=CO (f:=T6) (KE a9 (m:=8) (by decide)) CS (λn i p l=>((a9,p,((n:Nat):Int),((i:Nat):Int),()),((a0,a1,()),((0:Int),(0:Int),()),a2,a3,os,A1,l,a7,a8,([]:List (List ar)),([]:List af),([]:List ai),([]:List ah),([]:List ah),([]:List Int),([]:List Int),()))) (λp l=>((p,()),((a0,a1,()),((0:Int),(0:Int),()),a2,a3,os,A1,l,a7,a8,([]:List (List ar)),([]:List af),([]:List ai),([]:List ah),([]:List ah),([]:List Int),([]:List Int),()))) (λl=>(((-1:Int),()),((a0,a1,()),a2,a3,os,A1,l,a7,a8,()))) (m:=6) (by decide)
  (λn i p l a e hn hi hl hp ha he hP=>by
   have h1:=aq (i:=i) (by unfold cj;omega);obtain ⟨k,hk⟩:=hP;obtain ⟨i1,i2,k1,k2,_⟩:=cK hk;obtain ⟨l1,d⟩:=a;obtain ⟨x1,hx⟩:=Pi.1 (fX k1).2.1;simp only at hx;subst hx;obtain ⟨q1,e1,e2⟩:=fu ha;simp only at e1 e2;have hd:=(gW k2).2.1;refine (ab (by rw [aac (show ((i:Nat):Int)<((n:Nat):Int) by omega)];rfl)).trans ((ab (aac (show p≥0 by omega))).trans ((aa e1).trans ((aa e2).trans ((ae (adD (show ¬ e<0 by omega))).trans ?_))));refine (ab rfl).trans ((aa (x:=x1) rfl).trans ((aa (Ih (show d.length≤100 by simp only at hd;omega))).trans ?_));exact (ab (iV (by simp;omega))).trans (by rw [← h1];rfl))
  (λn i p l a hi hl hp ha=>by
   obtain ⟨q1,e1,e2⟩:=fu ha;exact (ab (by simp_all)).trans ((ab (by simp_all)).trans ((aa e1).trans ((aa e2).trans ((ab rfl).trans rfl)))))
  (λn p l=>(ae (by simp_all)).trans rfl)
 subst h5 h6;have out:rW a0 a1 a2 a3 a7 a8 a9 (-1) none:=by
  refine ⟨[],[],[], ?_⟩;unfold n8 j0;exact (aa (jB _ _)).trans ((aa h1.2).trans ((bG _).trans ((aa (jB _ _)).trans ((aa (h2 []).2).trans ((bG _).trans ((aa (jB _ _)).trans ((aa (h4 [] []).2).trans ((bG _).trans rfl))))))))
 refine ⟨λp hp=> ?_,out⟩;unfold qn;rw [Q8,Gi,Gi,lD,lD,lD];cases e1:dm 8 (cW 5) (a9.drop p) with
 |none=>
  rw [jC (Ij e1)];obtain ⟨n,e,c1,c2⟩:=(h1.1 p hp).2 e1;rcases c2 with c2|⟨l,c2⟩
  . refine ⟨[],[],[], ?_⟩
    unfold n8 j0;exact (aa c1).trans ((aa c2).trans ((bG _).trans ((aa (jB _ _)).trans ((aa (h2 []).2).trans ((bG _).trans ((aa (jB _ _)).trans ((aa (h4 [] []).2).trans ((bG _).trans rfl))))))))
  . refine ⟨l,[],[], ?_⟩
    unfold n8 j0;exact (aa c1).trans ((aa c2).trans ((pY _).trans rfl))
 |some x=>
  obtain ⟨os,k1⟩:=x;rw [eQ (Ii e1)];obtain ⟨n1,q1,c1,c2,c3⟩:=(h1.1 p hp).1 _ _ e1;rw [aea];cases e2:dm 3 (fh (cW 1) (gm 4)) (a9.drop (p+k1)) with
  |none=>
   rw [jC (Ij e2)];obtain ⟨n,e,d1,d2⟩:=((h2 (os.map uA)).1 (p+k1) c3).2 e2;rcases d2 with d2|⟨l,d2⟩
   . refine ⟨os.map uA,[],[], ?_⟩
     unfold n8 j0;exact (aa c1).trans ((aa c2).trans ((bG _).trans ((aa d1).trans ((aa d2).trans ((bG _).trans ((aa (jB _ _)).trans ((aa (h4 _ []).2).trans ((bG _).trans rfl))))))))
   . refine ⟨os.map uA,l,[], ?_⟩
     unfold n8 j0;exact (aa c1).trans ((aa c2).trans ((bG _).trans ((aa d1).trans ((aa d2).trans ((pY _).trans rfl)))))
  |some y=>
   obtain ⟨A1,k2⟩:=y;rw [eQ (Ii e2)];obtain ⟨n2,q2,d1,d2,d3⟩:=((h2 (os.map uA)).1 (p+k1) c3).1 _ _ e2;rw [aea];cases e3:dm 6 (fh (cW 1) (gm 8)) (a9.drop (p+k1+k2)) with
   |none=>
    rw [Ij e3];obtain ⟨n,e,f1,f2⟩:=((h4 (os.map uA) (A1.map CS)).1 (p+k1+k2) d3).2 e3;rcases f2 with f2|⟨l,f2⟩
    . refine ⟨os.map uA,A1.map CS,[], ?_⟩
      unfold n8 j0;exact (aa c1).trans ((aa c2).trans ((bG _).trans ((aa d1).trans ((aa d2).trans ((bG _).trans ((aa f1).trans ((aa f2).trans ((bG _).trans rfl))))))))
    . refine ⟨os.map uA,A1.map CS,l, ?_⟩
      unfold n8 j0;exact (aa c1).trans ((aa c2).trans ((bG _).trans ((aa d1).trans ((aa d2).trans ((bG _).trans ((aa f1).trans ((aa f2).trans ((pY _).trans rfl))))))))
   |some z=>
    obtain ⟨OY,k3⟩:=z;rw [Ii e3];obtain ⟨n3,q3,f1,f2,f3⟩:=((h4 (os.map uA) (A1.map CS)).1 (p+k1+k2) d3).1 _ _ e3;refine ⟨?_,by omega⟩;show n8 a0 a1 a2 a3 [] [] [] a7 a8 a9 ((p:Nat):Int)=_;unfold n8 j0;rw [show p+(k1+(k2+k3))=p+k1+k2+k3 by omega];exact (aa c1).trans ((aa c2).trans ((bG _).trans ((aa d1).trans ((aa d2).trans ((bG _).trans ((aa f1).trans ((aa f2).trans ((bG _).trans rfl))))))))
theorem KF {β:Type} (Q:bs→Option (β×Nat)) (s:bs):fh (dm 8 wj) (fh (dm 3 (m6 4)) (fh (dm 6 (m6 8)) Q)) s=match qn s with
  |none=>none
  |some (x,k)=>match Q (s.drop k) with
   |none=>none
   |some (b,j)=>some ((x.1,x.2.1,x.2.2,b),k+j):=by
 unfold qn;cases e1:dm 8 wj s with
 |none=>grind [jC]
 |some x=>
  obtain ⟨os,k1⟩:=x;rw [eQ e1,eQ e1];cases e2:dm 3 (m6 4) (s.drop k1) with
  |none=>grind [jC]
  |some y=>
   obtain ⟨A1,k2⟩:=y;rw [eQ e2,eQ e2];cases e3:dm 6 (m6 8) ((s.drop k1).drop k2) with
   |none=>rw [jC e3]
   |some z=>
    obtain ⟨OY,k3⟩:=z;grind [eQ,List.drop_drop,Nat.add_assoc]
abbrev T7:=Int×Int×List (List ar)×List af×List ai×List fq×List cB×List Int×List Int×Bool
def wK:T7:=(0,0,[],[],[],[],[],[],[],false)
def mv (s:bs):Option (OO×Nat)→T7
 |some (([n,t],pg,ps,os,pp,fl,rd,ou),_)=>if fM n t pg ps os pp fl rd ou=s then (n,t,pg,ps,os,pp,fl,rd,ou,true) else wK
 |_=>wK
def ao (s:bs):T7:=mv s (jX (s.drop 1))
def CT (a0 a1:Int) (a2:List (List ar)) (a3:List af) (a4:List ai) (a5 a6:List ah) (a7 a8:List Int):Out gc:= .ite (!(cw a0 a1 a2 a3 a4 a5 a6 a7 a8)) (.ret (((([]:List UInt8),()),()),((),()))) (.get (CB a0 a1 a2 a3 a4 a5 a6 a7 a8) λy1=> .ret (((y1,()),()),((),())))
def ZV:bK:={ f:=35,lend:=true,aF:=[ws],lay:=[none],rs:=[wr],F:=λx=> .get (eB x.1.1 x.1.2.1 x.1.2.2.1 x.1.2.2.2.1 x.1.2.2.2.2.1 x.1.2.2.2.2.2.1 x.1.2.2.2.2.2.2.1 x.1.2.2.2.2.2.2.2.1 x.1.2.2.2.2.2.2.2.2.1) λy=> .ret (((y,()),()),((),())) }
abbrev ad6:Type:=ac×Unit
abbrev ad7 (x:ad6):=CT x.1.1 x.1.2.1 x.1.2.2.1 x.1.2.2.2.1 x.1.2.2.2.2.1 x.1.2.2.2.2.2.1 x.1.2.2.2.2.2.2.1 x.1.2.2.2.2.2.2.2.1 x.1.2.2.2.2.2.2.2.2.1
theorem ahi (x:aw ZV.aF):bo [k8,k79] (λ_=>none) Tryz.f35 ZV [.tmp 2] x=ad7 x:=by kernel_rfl
theorem ZW (hr:∀ x:ad6,aB ZV.aF x→∀ y,(ZV.F x).eval=some y→(ad7 x).eval=some y):ZV.Ok acl:=aD [k8,k79] ⟨ad8,ag1,trivial⟩ ahi hr
theorem T8:ZV.Ok acl:=by
 refine ZW λx hw y hy=> ?_;obtain ⟨⟨a0,a1,a2,a3,a4,a5,a6,a7,a8,_⟩,_⟩:=x;change (Out.get (eB a0 a1 a2 a3 a4 a5 a6 a7 a8) λy=>Out.ret (((y,()),()),((),()))).eval=some y at hy;show (CT a0 a1 a2 a3 a4 a5 a6 a7 a8).eval=some y;unfold eB at hy;by_cases hl:List.length a7≤bn
 case neg=>rw [aae hl] at hy;exact nomatch hy
 rw [aaZ hl] at hy;refine afk ?_ hy;unfold CT fM;by_cases hu:cw a0 a1 a2 a3 a4 a5 a6 a7 a8=true
 case neg=>rw [aae hu,ab (by simp [hu])];rfl
 rw [aaZ hu,ae (by simp [hu])];have e1:CB a0 a1 a2 a3 a4 a5 a6 a7 a8=some (lr a0 a1 a2 a3 a4 a5 a6 a7 a8):=aaZ hu;exact (aa e1).trans rfl
abbrev T9:=ne×bi
def Ua:T9→Out (Round T9 ut Empty)
|((p0,p1,p2,p3,_),(p4,p5,_),(p6,p7,_),p8,p9,bL,b8,cr,dc,cO,cn,cX,dz,dC,dP,eH,eC,_)=> .ite ((decide (p3<p2))==true) (.ite (decide (p1≥(0:Int))) (.get (KC p0 p1) λy1=> .ite (decide (List.length cn+List.length ([y1.1.1.1]:List (List ar))≤bn)) (.ret (.again ((p0,y1.1.2.1.1,p2,(abs (p3+(1:Int))),()),((p4,p5,()),(p6,p7,()),p8,p9,bL,b8,cr,dc,cO,(cn++([y1.1.1.1]:List (List ar))),cX,dz,dC,dP,eH,eC,())))) .fail) (.ret (.out ((p0,p1,()),((p4,p5,()),(p6,p7,()),p8,p9,bL,b8,cr,dc,cO,cn,cX,dz,dC,dP,eH,eC,()))))) (.ret (.out ((p0,p1,()),((p4,p5,()),(p6,p7,()),p8,p9,bL,b8,cr,dc,cO,cn,cX,dz,dC,dP,eH,eC,()))))
abbrev Ub:=ne×bi
def Uc:Ub→Out (Round Ub ut Empty)
|((p0,p1,p2,p3,_),(p4,p5,_),(p6,p7,_),p8,p9,bL,b8,cr,dc,cO,cn,cX,dz,dC,dP,eH,eC,_)=> .ite ((decide (p3<p2))==true) (.ite (decide (p1≥(0:Int))) (.get (Gf p0 p1) λy1=> .ite (decide (List.length cX+List.length ([(y1.1.1.1,y1.1.1.2.1,y1.1.1.2.2.1,y1.1.1.2.2.2.1,(y1.1.1.2.2.2.2.1,y1.1.1.2.2.2.2.2.1,()),y1.1.1.2.2.2.2.2.2.1,y1.1.1.2.2.2.2.2.2.2.1,y1.1.1.2.2.2.2.2.2.2.2.1,y1.1.1.2.2.2.2.2.2.2.2.2.1,())]:List af)≤bn)) (.ret (.again ((p0,y1.1.2.1.1,p2,(abs (p3+(1:Int))),()),((p4,p5,()),(p6,p7,()),p8,p9,bL,b8,cr,dc,cO,cn,(cX++([(y1.1.1.1,y1.1.1.2.1,y1.1.1.2.2.1,y1.1.1.2.2.2.1,(y1.1.1.2.2.2.2.1,y1.1.1.2.2.2.2.2.1,()),y1.1.1.2.2.2.2.2.2.1,y1.1.1.2.2.2.2.2.2.2.1,y1.1.1.2.2.2.2.2.2.2.2.1,y1.1.1.2.2.2.2.2.2.2.2.2.1,())]:List af)),dz,dC,dP,eH,eC,())))) .fail) (.ret (.out ((p0,p1,()),((p4,p5,()),(p6,p7,()),p8,p9,bL,b8,cr,dc,cO,cn,cX,dz,dC,dP,eH,eC,()))))) (.ret (.out ((p0,p1,()),((p4,p5,()),(p6,p7,()),p8,p9,bL,b8,cr,dc,cO,cn,cX,dz,dC,dP,eH,eC,()))))
def jl (a0:List UInt8):Out ((bA×(Bool×Unit)×Unit)×(Unit×Unit)):= .get (cS a0 (1:Int) (2:Int)) λy1=> .get (mi a0 y1.2 (4:Int)) λy2=> .ite (decide (y2.1.2.1.1<(0:Int))) (.ret ((((0:Int),(0:Int),([]:List (List ar)),([]:List af),([]:List ai),([]:List ah),([]:List ah),([]:List Int),([]:List Int),()),(false,()),()),((),()))) (.ite (decide (0≤(0:Int)∧(0:Int)<((List.length y1.1:Nat):Int))) (.get (nth y1.1 (Int.toNat (0:Int))) λy3=> .ite (decide (0≤(1:Int)∧(1:Int)<((List.length y1.1:Nat):Int))) (.get (nth y1.1 (Int.toNat (1:Int))) λy4=> .get (aP Ua aI ((a0,y2.1.2.1.1,y2.1.1.1,(0:Int),()),(((0:Int),(0:Int),()),(y3,y4,()),([]:List (List ar)),([]:List af),([]:List ai),([]:List ah),([]:List ah),([]:List Int),([]:List Int),([]:List (List ar)),([]:List af),([]:List ai),([]:List ah),([]:List ah),([]:List Int),([]:List Int),()))) λy5=> .get (mi y5.1.1 y5.1.2.1 (6:Int)) λy6=> .get (aP Uc aI ((y5.1.1,y6.1.2.1.1,y6.1.1.1,(0:Int),()),((y5.2.1.1,y5.2.1.2.1,()),(y5.2.2.1.1,y5.2.2.1.2.1,()),y5.2.2.2.1,y5.2.2.2.2.1,y5.2.2.2.2.2.1,y5.2.2.2.2.2.2.1,y5.2.2.2.2.2.2.2.1,y5.2.2.2.2.2.2.2.2.1,y5.2.2.2.2.2.2.2.2.2.1,y5.2.2.2.2.2.2.2.2.2.2.1,y5.2.2.2.2.2.2.2.2.2.2.2.1,y5.2.2.2.2.2.2.2.2.2.2.2.2.1,y5.2.2.2.2.2.2.2.2.2.2.2.2.2.1,y5.2.2.2.2.2.2.2.2.2.2.2.2.2.2.1,y5.2.2.2.2.2.2.2.2.2.2.2.2.2.2.2.1,y5.2.2.2.2.2.2.2.2.2.2.2.2.2.2.2.2.1,()))) λy7=> .get (n8 y7.2.2.1.1 y7.2.2.1.2.1 y7.2.2.2.2.2.2.2.2.2.2.1 y7.2.2.2.2.2.2.2.2.2.2.2.1 y7.2.2.2.2.2.2.2.2.2.2.2.2.1 y7.2.2.2.2.2.2.2.2.2.2.2.2.2.1 y7.2.2.2.2.2.2.2.2.2.2.2.2.2.2.1 y7.2.2.2.2.2.2.2.2.2.2.2.2.2.2.2.1 y7.2.2.2.2.2.2.2.2.2.2.2.2.2.2.2.2.1 y7.1.1 y7.1.2.1) λy8=> .get (cY y7.1.1 y8.1.2.1.1 (6:Int)) λy9=> .get (cY y7.1.1 y9.2 (60:Int)) λF6=> .ite (decide (F6.2<(0:Int))) (.ret ((((0:Int),(0:Int),([]:List (List ar)),([]:List af),([]:List ai),([]:List ah),([]:List ah),([]:List Int),([]:List Int),()),(false,()),()),((),()))) (.get (rL F6.1) λsX=> .get (eB y8.1.1.1 y8.1.1.2.1 y8.1.1.2.2.1 y8.1.1.2.2.2.1 y8.1.1.2.2.2.2.1 y8.1.1.2.2.2.2.2.1 y8.1.1.2.2.2.2.2.2.1 y9.1 sX) λyY=> .ite (yY != y7.1.1) (.ret ((((0:Int),(0:Int),([]:List (List ar)),([]:List af),([]:List ai),([]:List ah),([]:List ah),([]:List Int),([]:List Int),()),(false,()),()),((),()))) (.ret (((y8.1.1.1,y8.1.1.2.1,y8.1.1.2.2.1,y8.1.1.2.2.2.1,y8.1.1.2.2.2.2.1,y8.1.1.2.2.2.2.2.1,y8.1.1.2.2.2.2.2.2.1,y9.1,sX,()),(true,()),()),((),()))))) .fail) .fail)
abbrev Ik:List (Nat×dT):=[(act, .var [.i .i64, .i .i64, .aR aig, .aR alH, .aR alI, .aR alK, .aR alQ, .aR alV, .aR ama]),(adc, .var [.i .i64, .i .i64, .aR amb, .aR amc, .aR amd, .aR ame, .aR amf, .aR amg, .aR amh]),(aig, .arr (.sl cT)),(alH, .arr jc),(alI, .arr eF),(alK, .arr dp),(alQ, .arr dp),(alV, .arr (.int .i64)),(ama, .arr (.int .i64)),(amb, .arr (.sl cT)),(amc, .arr jc),(amd, .arr eF),(ame, .arr dp),(amf, .arr dp),(amg, .arr (.int .i64)),(amh, .arr (.int .i64))]
def ani:Nat→Option au:=λn=>bw [(0,⟨⟨[.s, .dead, .vptr act 0, .dead, .dead, .i .i64, .i .i64, .vptr adc 0, .i .i64]++dd 111,Ik⟩,⟨[.s, .dead, .vptr act 0, .dead, .dead, .i .i64, .dead, .vptr adc 0]++dd 112,Ik⟩,none,false⟩),(2,⟨⟨[.s, .dead, .vptr act 0, .dead, .dead, .i .i64, .i .i64, .vptr adc 0, .dead, .dead, .dead, .i .i64]++dd 108,Ik⟩,⟨[.s, .dead, .vptr act 0, .dead, .dead, .i .i64, .dead, .vptr adc 0]++dd 112,Ik⟩,none,false⟩)] n
def k11:bK:={ f:=11,lend:=true,aF:=[wr],lay:=[none],rs:=[GT,wn],F:=λx=> .ret ((((ao x.1.1).1,(ao x.1.1).2.1,(ao x.1.1).2.2.1,(ao x.1.1).2.2.2.1,(ao x.1.1).2.2.2.2.1,(ao x.1.1).2.2.2.2.2.1,(ao x.1.1).2.2.2.2.2.2.1,(ao x.1.1).2.2.2.2.2.2.2.1,(ao x.1.1).2.2.2.2.2.2.2.2.1,()),((ao x.1.1).2.2.2.2.2.2.2.2.2,()),()),((),())) }
theorem ahj (x:aw k11.aF):bo [JH,k40,k41,k42,k43,Sg,Sh,ZV] ani Tryz.f11 k11 [.cell 2 31, .tmp 3] x=jl x.1.1:=by kernel_rfl
theorem ahk (hr:∀ x:(List UInt8×Unit)×Unit,aB k11.aF x→(jl x.1.1).eval=(k11.F x).eval):k11.Ok acl:=aD [JH,k40,k41,k42,k43,Sg,Sh,ZV] ⟨yQ,TP,aha,ahe,ahh,M9,Nb,T8,trivial⟩ ahj λx hw _ hy=>(hr x hw).trans hy
theorem ahl:k11.Ok acl:=by
 refine ahk λx hw=> ?_;obtain ⟨⟨a0,_⟩,_⟩:=x;show (jl a0).eval=some ((((ao a0).1,(ao a0).2.1,(ao a0).2.2.1,(ao a0).2.2.2.1,(ao a0).2.2.2.2.1,(ao a0).2.2.2.2.2.1,(ao a0).2.2.2.2.2.2.1,(ao a0).2.2.2.2.2.2.2.1,(ao a0).2.2.2.2.2.2.2.2.1,()),((ao a0).2.2.2.2.2.2.2.2.2,()),()),((),()));obtain ⟨z1,hz1⟩:=(o9 a0 (m:=6) (by decide)).2.2;obtain ⟨z2,Y1⟩:=(o9 a0 (m:=60) (by decide)).2.2;have bad:jX (List.drop 1 a0)=none→ao a0=wK:=λh=>by unfold ao;rw [h];rfl
 have hA:=jk a0 (n:=2) (by decide) (by decide);by_cases hl:1≤List.length a0
 case neg=>
  obtain rfl:a0=[]:=aeE (by omega);rw [bad rfl];unfold jl;exact (aa (show cS [] 1 2=some ([], -1) from rfl)).trans ((aa (jB _ _)).trans ((ab rfl).trans rfl))
 cases e0:cW 2 (List.drop 1 a0) with
 |none=>
  rw [bad (by unfold jX;rw [jC e0])];obtain ⟨z,hz⟩:=hA.2.1 1 hl e0;unfold jl;exact (aa hz).trans ((aa (jB _ _)).trans ((ab rfl).trans rfl))
 |some x=>
  obtain ⟨h0,k0⟩:=x;obtain ⟨nx,tk,rfl⟩:∃ n t,h0=[n,t]:=by
   have Ud:=(fX e0).2.1;rcases h0 with _|⟨n,_|⟨t,_|⟨z,r⟩⟩⟩
   . exact nomatch Ud
   . exact nomatch Ud
   . exact ⟨n,t,rfl⟩
   . simp at Ud
  obtain ⟨c0,c0l⟩:=hA.1 1 hl _ _ e0
  skip
  skip
  have h1:=OX (f:=Ua) (TV a0) (λl=>l) (λn i p l=>((a0,p,((n:Nat):Int),((i:Nat):Int),()),(((0:Int),(0:Int),()),(nx,tk,()),([]:List (List ar)),([]:List af),([]:List ai),([]:List ah),([]:List ah),([]:List Int),([]:List Int),l,([]:List af),([]:List ai),([]:List ah),([]:List ah),([]:List Int),([]:List Int),()))) (λp l=>((a0,p,()),(((0:Int),(0:Int),()),(nx,tk,()),([]:List (List ar)),([]:List af),([]:List ai),([]:List ah),([]:List ah),([]:List Int),([]:List Int),l,([]:List af),([]:List ai),([]:List ah),([]:List ah),([]:List Int),([]:List Int),()))) (m:=4) (by decide)
   (λn i p l a e hn hi hl hp ha=>by
    have h1:=aq (i:=i) (by grind);obtain ⟨y,hy,e1⟩:=map_some ha;simp only [ad3] at e1;obtain ⟨rfl,rfl⟩:=e1;refine ⟨_, ?_,λ_=>rfl⟩;exact (ab (by rw [aac (show ((i:Nat):Int)<((n:Nat):Int) by omega)];rfl)).trans ((ab (aac (show p≥0 by omega))).trans ((aa hy).trans ((ab (iV (by simp;omega))).trans (by rw [← h1];rfl)))))
   (λn p l=>(ae (by rw [adD (show ¬ ((n:Nat):Int)<((n:Nat):Int) by omega)];rfl)).trans rfl)
   (λn i p l hi hp=>(ab (by rw [aac (show ((i:Nat):Int)<((n:Nat):Int) by omega)];rfl)).trans ((ae (adD (show ¬ p≥0 by omega))).trans rfl))
  skip
  have h2 (pg:List (List ar)):=OX (f:=Uc) (TX a0) (λl=>l) (λn i p l=>((a0,p,((n:Nat):Int),((i:Nat):Int),()),(((0:Int),(0:Int),()),(nx,tk,()),([]:List (List ar)),([]:List af),([]:List ai),([]:List ah),([]:List ah),([]:List Int),([]:List Int),pg,l,([]:List ai),([]:List ah),([]:List ah),([]:List Int),([]:List Int),()))) (λp l=>((a0,p,()),(((0:Int),(0:Int),()),(nx,tk,()),([]:List (List ar)),([]:List af),([]:List ai),([]:List ah),([]:List ah),([]:List Int),([]:List Int),pg,l,([]:List ai),([]:List ah),([]:List ah),([]:List Int),([]:List Int),()))) (m:=6) (by decide)
   (λn i p l a e hn hi hl hp ha=>by
    have h1:=aq (i:=i) (by grind);obtain ⟨y,hy,e1⟩:=map_some ha;simp only [ad3] at e1;obtain ⟨rfl,rfl⟩:=e1;refine ⟨_, ?_,λ_=>rfl⟩;exact (ab (by rw [aac (show ((i:Nat):Int)<((n:Nat):Int) by omega)];rfl)).trans ((ab (aac (show p≥0 by omega))).trans ((aa hy).trans ((ab (iV (by simp;omega))).trans (by rw [← h1];rfl)))))
   (λn p l=>(ae (by rw [adD (show ¬ ((n:Nat):Int)<((n:Nat):Int) by omega)];rfl)).trans rfl)
   (λn i p l hi hp=>(ab (by rw [aac (show ((i:Nat):Int)<((n:Nat):Int) by omega)];rfl)).trans ((ae (adD (show ¬ p≥0 by omega))).trans rfl))
  have h3:=λpg ps=>Q9 nx tk pg ps [] [] a0;have fin:∀ {pg:List (List ar)} {ps:List af},rW nx tk pg ps [] [] a0 (-1) none:=λ{pg ps}=>(h3 pg ps).2;cases e1:dm 4 wh (List.drop (1+k0) a0) with
  |none=>
   rw [bad (by unfold jX;rw [eQ e0,aea,jC e1])];obtain ⟨n,e,l,c1,c2⟩:=(h1.1 (1+k0) c0l).2 e1;unfold jl;by_cases he:e<0
   . exact (aa c0).trans ((aa c1).trans ((ab (aac he)).trans rfl))
   . obtain ⟨os,A1,OY,c4⟩:=fin (pg:=l) (ps:=[])
     exact (aa c0).trans ((aa c1).trans ((ae (adD he)).trans ((ab rfl).trans ((aa (x:=nx) rfl).trans ((ab rfl).trans ((aa (x:=tk) rfl).trans ((aa c2).trans ((aa (jB _ _)).trans ((aa (h2 l).2).trans ((aa c4).trans ((aa hz1).trans ((aa Y1).trans ((ab rfl).trans rfl)))))))))))))
  |some x=>
   obtain ⟨pg,k1⟩:=x;obtain ⟨n1,q1,c1,c1n,c2,c2l⟩:=(h1.1 (1+k0) c0l).1 _ _ e1;rw [akU] at c2;have hd:(decide (q1<(0:Int)))=false:=adD;cases e2:dm 6 wi (List.drop (1+k0+k1) a0) with
   |none=>
    rw [bad (by unfold jX;rw [eQ e0,aea,eQ e1,aea,jC e2])];obtain ⟨n,e,l,d1,d2⟩:=((h2 pg).1 (1+k0+k1) c2l).2 e2;unfold jl;obtain ⟨os,A1,OY,c4⟩:=fin (pg:=pg) (ps:=l);exact (aa c0).trans ((aa c1).trans ((ae hd).trans ((ab rfl).trans ((aa (x:=nx) rfl).trans ((ab rfl).trans ((aa (x:=tk) rfl).trans ((aa c2).trans ((aa d1).trans ((aa d2).trans ((aa c4).trans ((aa hz1).trans ((aa Y1).trans ((ab rfl).trans rfl)))))))))))))
   |some x=>
    obtain ⟨ps,k2⟩:=x;obtain ⟨n2,q2,d1,_,d2,d2l⟩:=((h2 pg).1 (1+k0+k1) c2l).1 _ _ e2;rw [akU] at d2;have h4:=(h3 pg ps).1 (1+k0+k1+k2) d2l;have to3:jX (List.drop 1 a0)=match (match qn (List.drop (1+k0+k1+k2) a0) with
      |none=>none
      |some (x,k)=>match fh (gm 6) (m5 60) ((List.drop (1+k0+k1+k2) a0).drop k) with
       |none=>none
       |some (b,j)=>some ((x.1,x.2.1,x.2.2,b),k+j):Option ((List ai×List fq×List cB×List Int×List Int)×Nat)) with
     |none=>none
     |some (b,j)=>some (([nx,tk],pg,ps,b),k0+(k1+(k2+j))):=by
     unfold jX;rw [eQ e0,aea,eQ e1,aea,eQ e2,aea,KF];cases qn (List.drop (1+k0+k1+k2) a0) with
     |none=>rfl
     |some x=>
      obtain ⟨x,k⟩:=x;dsimp only;cases fh (gm 6) (m5 60) ((List.drop (1+k0+k1+k2) a0).drop k) with
      |none=>rfl
      |some y=>rfl
    cases e3:qn (List.drop (1+k0+k1+k2) a0) with
    |none=>
     rw [e3] at h4 to3;rw [bad to3];obtain ⟨os,A1,OY,c4⟩:=h4;unfold jl;exact (aa c0).trans ((aa c1).trans ((ae hd).trans ((ab rfl).trans ((aa (x:=nx) rfl).trans ((ab rfl).trans ((aa (x:=tk) rfl).trans ((aa c2).trans ((aa d1).trans ((aa d2).trans ((aa c4).trans ((aa hz1).trans ((aa Y1).trans ((ab rfl).trans rfl)))))))))))))
    |some x=>
     obtain ⟨⟨os,A1,OY⟩,k3⟩:=x;rw [e3] at h4 to3;obtain ⟨c4,c4l⟩:=h4;have c4:n8 nx tk pg ps [] [] [] [] [] a0 ((1+k0+k1+k2:Nat):Int)=_:=c4;have L6:=o9 a0 (m:=6) (by decide);have L60:=o9 a0 (m:=60) (by decide);cases e4:gm 6 (List.drop (1+k0+k1+k2+k3) a0) with
     |none=>
      rw [bad (by rw [to3];simp only [aea];rw [jC e4])];obtain ⟨z,c5⟩:=L6.2.1 _ c4l e4;unfold jl;exact (aa c0).trans ((aa c1).trans ((ae hd).trans ((ab rfl).trans ((aa (x:=nx) rfl).trans ((ab rfl).trans ((aa (x:=tk) rfl).trans ((aa c2).trans ((aa d1).trans ((aa d2).trans ((aa c4).trans ((aa c5).trans ((aa Y1).trans ((ab rfl).trans rfl)))))))))))))
     |some x=>
      obtain ⟨rd,k4⟩:=x;obtain ⟨c5,c5l⟩:=L6.1 _ c4l _ _ e4;cases e5:gm 60 (List.drop (1+k0+k1+k2+k3+k4) a0) with
      |none=>
       rw [bad (by rw [to3];simp only [aea];rw [eQ e4,aea,show m5 60 (List.drop (1+k0+k1+k2+k3+k4) a0)=none from Ij e5])];obtain ⟨z,c6⟩:=L60.2.1 _ c5l e5;unfold jl;exact (aa c0).trans ((aa c1).trans ((ae hd).trans ((ab rfl).trans ((aa (x:=nx) rfl).trans ((ab rfl).trans ((aa (x:=tk) rfl).trans ((aa c2).trans ((aa d1).trans ((aa d2).trans ((aa c4).trans ((aa c5).trans ((aa c6).trans ((ab rfl).trans rfl)))))))))))))
      |some x=>
       obtain ⟨ou,k5⟩:=x;obtain ⟨c6,c6l⟩:=L60.1 _ c5l _ _ e5;have HD:=(gW e4).2.1;have Fa:=(gW e5).2.1;have s1:eB nx tk pg ps os A1 OY rd (ou.map dA)=some (fM nx tk pg ps os A1 OY rd (ou.map dA)):=aaZ (by rw [jQ];omega);have hu:ao a0=if fM nx tk pg ps os A1 OY rd (ou.map dA)=a0 then (nx,tk,pg,ps,os,A1,OY,rd,ou.map dA,true) else wK:=by
        unfold ao;rw [to3];simp only [aea];rw [eQ e4,aea,show m5 60 (List.drop (1+k0+k1+k2+k3+k4) a0)=some (ou.map dA,k5) from Ii e5];rfl
       rw [hu];have h60:decide (((1+k0+k1+k2+k3+k4+k5:Nat):Int)<0)=false:=adD;unfold jl;refine (aa c0).trans ((aa c1).trans ((ae hd).trans ((ab rfl).trans ((aa (x:=nx) rfl).trans ((ab rfl).trans ((aa (x:=tk) rfl).trans ((aa c2).trans ((aa d1).trans ((aa d2).trans ((aa c4).trans ((aa c5).trans ((aa c6).trans ((ae h60).trans ((aa (Ih (l:=ou) (by omega))).trans ((aa s1).trans ?_)))))))))))))));by_cases hs:fM nx tk pg ps os A1 OY rd (ou.map dA)=a0
       . rw [aaZ hs]
         exact (ae (by simp [hs])).trans rfl
       . rw [aae hs]
         exact (ab (by simp [hs])).trans rfl
theorem mM {α σ β:Type} {f:σ→Out (Round σ β Empty)} (R:Rd α) (S:Int→Nat→bs→Bool→List α→σ) (y:bs→Bool→List α→β) {m:Int} (hm:0≤m∧m≤1000)
  (hs:∀ (n i:Nat) (s:bs) (b:Bool) (l:List α),n≤1000→i<n→l.length=i→(f (S ((n:Nat):Int) i s b l)).eval=some (.again (S ((n:Nat):Int) (i+1) (R s b).2.1 (R s b).2.2 (l++[(R s b).1]))))
  (hy:∀ (n:Nat) (s:bs) (b:Bool) (l:List α),(f (S ((n:Nat):Int) n s b l)).eval=some (.out (y s b l))) (s:bs) (b:Bool):
  aP f aI (S (cm s b m).1 0 (cm s b m).2.1 (cm s b m).2.2 [])=some (y (mh m R s b).2.1 (mh m R s b).2.2 (mh m R s b).1):=by
 have h:=Cp s b m hm.1;unfold mh;obtain ⟨n,hn⟩:=aft h.1;rw [hn] at h ⊢;rw [adu];exact Q0 R (λi s b l=>S ((n:Nat):Int) i s b l) y n (by omega) (λi s b l=>hs n i s b l (by omega)) (hy n) _ _
def td (s:bs) (b:Bool) (m less:Int):Option (List Int×bs×Bool):=if 0≤m∧m≤1000 then some (vd m less s b) else none
theorem wL {m less:Int} (h:0≤m∧m≤1000) (s:bs) (b:Bool):td s b m less=some (vd m less s b):=aaZ h
abbrev Ue:=(Int×Int×Int×Unit)×((List UInt8×Bool×Unit)×List Int×Unit)
def Uf:Ue→Out (Round Ue ((Unit)×(List Int×(List UInt8×Bool×Unit)×Unit)) Empty)
|((p0,p1,p2,_),(p3,p4,_),p5,_)=> .ite (decide (p2<p1)) (.ite (decide (List.length p5+List.length ([(abs ((ag p3 p4).1 - p0))]:List Int)≤bn)) (.ret (.again ((p0,p1,(abs (p2+(1:Int))),()),(((ag p3 p4).2.1,(ag p3 p4).2.2,()),(p5++([(abs ((ag p3 p4).1 - p0))]:List Int)),())))) .fail) (.ret (.out ((),(p5,(p3,p4,()),()))))
def wM (a0:List UInt8) (a1:Bool) (a2 a3:Int):Out (((List Int×Unit)×Unit)×((List UInt8×Bool×Unit)×XI)):= .get (aP Uf aI ((a3,(cm a0 a1 a2).1,(0:Int),()),(((cm a0 a1 a2).2.1,(cm a0 a1 a2).2.2,()),([]:List Int),()))) λy1=> .ret (((y1.2.1,()),()),((y1.2.2.1.1,y1.2.2.1.2.1,()),(),(),()))
def ank:Nat→Option au:=λn=>bw [(0,⟨⟨[.vptr 0 0, .dead, .i .i64]++dd 4++[.aR act, .dead, .dead, .i .i64, .i .i64]++dd 10,[(0, .var [.s, .b]),(act, .arr (.int .i64))]⟩,⟨[.vptr 0 0]++dd 6++[.aR act]++dd 14,[(act, .arr (.int .i64)),(0, .var [.s, .b])]⟩,none,false⟩)] n
def k54:bK:={ f:=54,lend:=true,aF:=[EQ,wl,wl],lay:=[none,none,none],rs:=[Fd],F:=λx=> .get (td x.1.1 x.1.2.1 x.2.1.1 x.2.2.1.1) λy=> .ret (((y.1,()),()),((y.2.1,y.2.2,()),(),(),())) }
theorem ahm (x:aw k54.aF):bo [OQ,MC] ank Tryz.f54 k54 [.tmp 6] x=wM x.1.1 x.1.2.1 x.2.1.1 x.2.2.1.1:=by kernel_rfl
theorem ZX (hr:∀ x:(List UInt8×Bool×Unit)×(Int×Unit)×(Int×Unit)×Unit,aB k54.aF x→∀ y,(k54.F x).eval=some y→(wM x.1.1 x.1.2.1 x.2.1.1 x.2.2.1.1).eval=some y):k54.Ok acl:=aD [OQ,MC] ⟨Ia,Co,trivial⟩ ahm hr
theorem ahn:k54.Ok acl:=by
 refine ZX λx hw y hy=> ?_;obtain ⟨⟨a0,a1,_⟩,⟨a2,_⟩,⟨a3,_⟩,_⟩:=x;change (Out.get (td a0 a1 a2 a3) λy=>Out.ret (((y.1,()),()),((y.2.1,y.2.2,()),(),(),()))).eval=some y at hy;show (wM a0 a1 a2 a3).eval=some y;unfold td at hy;split at hy
 case isFalse=>exact nomatch hy
 rename_i hm;refine afk ?_ hy;unfold wM;have h:=mM (f:=Uf) (Ib (λx=>abs (x - a3)) ag) (λn i s b l=>((a3,n,((i:Nat):Int),()),((s,b,()),l,()))) (λs b l=>((),(l,(s,b,()),()))) hm
  (λn i s b l hn hi hl=>by
   have h1:=aq (i:=i) (by unfold cj;omega);refine (ab (aac (show ((i:Nat):Int)<((n:Nat):Int) by omega))).trans ?_;exact (ab (iV (by simp;omega))).trans (by rw [← h1];rfl))
  (λn s b l=>(ae (adD (show ¬ ((n:Nat):Int)<((n:Nat):Int) by omega))).trans rfl)
 exact (aa (h a0 a1)).trans rfl
def wN (a0:List UInt8) (a1:Bool):Out (((Int×Unit)×Unit)×un):= .get (kU a0 a1 (1:Int)) λy1=> .ite ((((List.length y1.1:Nat):Int) != (1:Int))) (.ret ((((0:Int),()),()),((y1.2.1,true,()),()))) (.ite (decide (0≤(0:Int)∧(0:Int)<((List.length y1.1:Nat):Int))) (.get (nth y1.1 (Int.toNat (0:Int))) λy2=> .ret (((y2,()),()),((y1.2.1,y1.2.2,()),()))) .fail)
def k55:bK:={ f:=55,lend:=true,aF:=[EQ],lay:=[none],rs:=[wl],F:=λx=> .ret ((((m9 x.1.1 x.1.2.1).1,()),()),(((m9 x.1.1 x.1.2.1).2.1,(m9 x.1.1 x.1.2.1).2.2,()),())) }
theorem aho (x:aw k55.aF):bo [YX] (λ_=>none) Tryz.f55 k55 [.tmp 2] x=wN x.1.1 x.1.2.1:=by kernel_rfl
theorem ahp (hr:∀ x:(List UInt8×Bool×Unit)×Unit,aB k55.aF x→(wN x.1.1 x.1.2.1).eval=(k55.F x).eval):k55.Ok acl:=aD [YX] ⟨Ts,trivial⟩ aho λx hw _ hy=>(hr x hw).trans hy
theorem ahq:k55.Ok acl:=by
 refine ahp λx hw=> ?_;obtain ⟨⟨a0,a1,_⟩,_⟩:=x;show (wN a0 a1).eval=some ((((m9 a0 a1).1,()),()),(((m9 a0 a1).2.1,(m9 a0 a1).2.2,()),()));unfold wN;refine (aa (jA (by decide) _ _)).trans ?_;unfold m9 Cr;rcases hw2:oH 1 a0 a1 with ⟨l,s,b⟩;rcases l with _|⟨x,_|⟨z,r⟩⟩
 . exact (ab rfl).trans rfl
 . exact (ae rfl).trans ((ab rfl).trans ((aa (x:=x) rfl).trans rfl))
 . refine (ab (by simp;omega)).trans rfl
def cg (s:bs) (b:Bool):Int×Int×List (List ar)×List af×List ai×List fq×List cB×List Int×List Int×bs×Bool:= ((ag s b).1,(ag (ag s b).2.1 (ag s b).2.2).1,(jO s b).1.2.1,(jO s b).1.2.2.1,(jO s b).1.2.2.2.1,(jO s b).1.2.2.2.2.1,(jO s b).1.2.2.2.2.2.1,(jO s b).1.2.2.2.2.2.2.1,(jO s b).1.2.2.2.2.2.2.2,(jO s b).2.1,(jO s b).2.2)
theorem Ug {s:bs} {b:Bool} {n1 n2 n3 n4 n5:Int} {t:bs} {d:Bool} (h:jN 5 s b=([n1,n2,n3,n4,n5],t,d)) {r m f:List Int} {t1 t2 t3:bs} {d1 d2 d3:Bool}
  (h1:oH 4 t d=(r,t1,d1)) (h2:oH 12 t1 d1=(m,t2,d2)) (h3:vd 4 1 t2 d2=(f,t3,d3)):
  Kj s b=((n1,(n2,(n3,(n4,((n5,(r,())),(m,(f,((ag t3 d3).1,((m9 (ag t3 d3).2.1 (ag t3 d3).2.2).1,()))))))))),(m9 (ag t3 d3).2.1 (ag t3 d3).2.2).2):=by
 unfold Kj Cr mg;simp only [h,h1,h2,h3];rfl
theorem Uh {s:bs} {b:Bool} {n1 n2 n3 n4 n5:Int} {t:bs×Bool} (h:jN 5 s b=([n1,n2,n3,n4,n5],t)):Kl s b=((n1,(n2,(n3,(n4,(n5,()))))),t):=by
 unfold Kl Cr;simp only [h];rfl
abbrev Ui:=(Int×Int×Unit)×bv
def Uj:Ui→Out (Round Ui ((Unit)×bv) Empty)
|((p0,p1,_),(p2,p3,_),(p4,p5,_),(p6,p7,_),p8,p9,bL,b8,cr,dc,cO,cn,cX,dz,dC,dP,eH,eC,_)=> .ite (decide (p1<p0)) (.ite (decide (List.length cn+List.length ([(mC p2 p3).1]:List (List ar))≤bn)) (.ret (.again ((p0,(abs (p1+(1:Int))),()),(((mC p2 p3).2.1,(mC p2 p3).2.2,()),(p4,p5,()),(p6,p7,()),p8,p9,bL,b8,cr,dc,cO,(cn++([(mC p2 p3).1]:List (List ar))),cX,dz,dC,dP,eH,eC,())))) .fail) (.ret (.out ((),((p2,p3,()),(p4,p5,()),(p6,p7,()),p8,p9,bL,b8,cr,dc,cO,cn,cX,dz,dC,dP,eH,eC,()))))
abbrev Uk:=(Int×Int×Unit)×bv
def Ul:Uk→Out (Round Uk ((Unit)×bv) Empty)
|((p0,p1,_),(p2,p3,_),(p4,p5,_),(p6,p7,_),p8,p9,bL,b8,cr,dc,cO,cn,cX,dz,dC,dP,eH,eC,_)=> .ite (decide (p1<p0)) (.get (kU (ag (ag (ag (ag (ag p2 p3).2.1 (ag p2 p3).2.2).2.1 (ag (ag p2 p3).2.1 (ag p2 p3).2.2).2.2).2.1 (ag (ag (ag p2 p3).2.1 (ag p2 p3).2.2).2.1 (ag (ag p2 p3).2.1 (ag p2 p3).2.2).2.2).2.2).2.1 (ag (ag (ag (ag p2 p3).2.1 (ag p2 p3).2.2).2.1 (ag (ag p2 p3).2.1 (ag p2 p3).2.2).2.2).2.1 (ag (ag (ag p2 p3).2.1 (ag p2 p3).2.2).2.1 (ag (ag p2 p3).2.1 (ag p2 p3).2.2).2.2).2.2).2.2).2.1 (ag (ag (ag (ag (ag p2 p3).2.1 (ag p2 p3).2.2).2.1 (ag (ag p2 p3).2.1 (ag p2 p3).2.2).2.2).2.1 (ag (ag (ag p2 p3).2.1 (ag p2 p3).2.2).2.1 (ag (ag p2 p3).2.1 (ag p2 p3).2.2).2.2).2.2).2.1 (ag (ag (ag (ag p2 p3).2.1 (ag p2 p3).2.2).2.1 (ag (ag p2 p3).2.1 (ag p2 p3).2.2).2.2).2.1 (ag (ag (ag p2 p3).2.1 (ag p2 p3).2.2).2.1 (ag (ag p2 p3).2.1 (ag p2 p3).2.2).2.2).2.2).2.2).2.2 (4:Int)) λy1=> .get (kU y1.2.1 y1.2.2 (12:Int)) λy2=> .get (td y2.2.1 y2.2.2 (4:Int) (1:Int)) λy3=> .ite (decide (List.length cX+List.length ([((ag p2 p3).1,(ag (ag p2 p3).2.1 (ag p2 p3).2.2).1,(ag (ag (ag p2 p3).2.1 (ag p2 p3).2.2).2.1 (ag (ag p2 p3).2.1 (ag p2 p3).2.2).2.2).1,(ag (ag (ag (ag p2 p3).2.1 (ag p2 p3).2.2).2.1 (ag (ag p2 p3).2.1 (ag p2 p3).2.2).2.2).2.1 (ag (ag (ag p2 p3).2.1 (ag p2 p3).2.2).2.1 (ag (ag p2 p3).2.1 (ag p2 p3).2.2).2.2).2.2).1,((ag (ag (ag (ag (ag p2 p3).2.1 (ag p2 p3).2.2).2.1 (ag (ag p2 p3).2.1 (ag p2 p3).2.2).2.2).2.1 (ag (ag (ag p2 p3).2.1 (ag p2 p3).2.2).2.1 (ag (ag p2 p3).2.1 (ag p2 p3).2.2).2.2).2.2).2.1 (ag (ag (ag (ag p2 p3).2.1 (ag p2 p3).2.2).2.1 (ag (ag p2 p3).2.1 (ag p2 p3).2.2).2.2).2.1 (ag (ag (ag p2 p3).2.1 (ag p2 p3).2.2).2.1 (ag (ag p2 p3).2.1 (ag p2 p3).2.2).2.2).2.2).2.2).1,y1.1,()),y2.1,y3.1,(ag y3.2.1 y3.2.2).1,(m9 (ag y3.2.1 y3.2.2).2.1 (ag y3.2.1 y3.2.2).2.2).1,())]:List af)≤bn)) (.ret (.again ((p0,(abs (p1+(1:Int))),()),(((m9 (ag y3.2.1 y3.2.2).2.1 (ag y3.2.1 y3.2.2).2.2).2.1,(m9 (ag y3.2.1 y3.2.2).2.1 (ag y3.2.1 y3.2.2).2.2).2.2,()),(p4,p5,()),(p6,p7,()),p8,p9,bL,b8,cr,dc,cO,cn,(cX++([((ag p2 p3).1,(ag (ag p2 p3).2.1 (ag p2 p3).2.2).1,(ag (ag (ag p2 p3).2.1 (ag p2 p3).2.2).2.1 (ag (ag p2 p3).2.1 (ag p2 p3).2.2).2.2).1,(ag (ag (ag (ag p2 p3).2.1 (ag p2 p3).2.2).2.1 (ag (ag p2 p3).2.1 (ag p2 p3).2.2).2.2).2.1 (ag (ag (ag p2 p3).2.1 (ag p2 p3).2.2).2.1 (ag (ag p2 p3).2.1 (ag p2 p3).2.2).2.2).2.2).1,((ag (ag (ag (ag (ag p2 p3).2.1 (ag p2 p3).2.2).2.1 (ag (ag p2 p3).2.1 (ag p2 p3).2.2).2.2).2.1 (ag (ag (ag p2 p3).2.1 (ag p2 p3).2.2).2.1 (ag (ag p2 p3).2.1 (ag p2 p3).2.2).2.2).2.2).2.1 (ag (ag (ag (ag p2 p3).2.1 (ag p2 p3).2.2).2.1 (ag (ag p2 p3).2.1 (ag p2 p3).2.2).2.2).2.1 (ag (ag (ag p2 p3).2.1 (ag p2 p3).2.2).2.1 (ag (ag p2 p3).2.1 (ag p2 p3).2.2).2.2).2.2).2.2).1,y1.1,()),y2.1,y3.1,(ag y3.2.1 y3.2.2).1,(m9 (ag y3.2.1 y3.2.2).2.1 (ag y3.2.1 y3.2.2).2.2).1,())]:List af)),dz,dC,dP,eH,eC,())))) .fail) (.ret (.out ((),((p2,p3,()),(p4,p5,()),(p6,p7,()),p8,p9,bL,b8,cr,dc,cO,cn,cX,dz,dC,dP,eH,eC,()))))
abbrev Um:=(Int×Int×Unit)×bv
def Uo:Um→Out (Round Um ((Unit)×bv) Empty)
|((p0,p1,_),(p2,p3,_),(p4,p5,_),(p6,p7,_),p8,p9,bL,b8,cr,dc,cO,cn,cX,dz,dC,dP,eH,eC,_)=> .ite (decide (p1<p0)) (.ite (decide (List.length dz+List.length ([((ag p2 p3).1,(ag (ag p2 p3).2.1 (ag p2 p3).2.2).1,(ag (ag (ag p2 p3).2.1 (ag p2 p3).2.2).2.1 (ag (ag p2 p3).2.1 (ag p2 p3).2.2).2.2).1,(ag (ag (ag (ag p2 p3).2.1 (ag p2 p3).2.2).2.1 (ag (ag p2 p3).2.1 (ag p2 p3).2.2).2.2).2.1 (ag (ag (ag p2 p3).2.1 (ag p2 p3).2.2).2.1 (ag (ag p2 p3).2.1 (ag p2 p3).2.2).2.2).2.2).1,(ag (ag (ag (ag (ag p2 p3).2.1 (ag p2 p3).2.2).2.1 (ag (ag p2 p3).2.1 (ag p2 p3).2.2).2.2).2.1 (ag (ag (ag p2 p3).2.1 (ag p2 p3).2.2).2.1 (ag (ag p2 p3).2.1 (ag p2 p3).2.2).2.2).2.2).2.1 (ag (ag (ag (ag p2 p3).2.1 (ag p2 p3).2.2).2.1 (ag (ag p2 p3).2.1 (ag p2 p3).2.2).2.2).2.1 (ag (ag (ag p2 p3).2.1 (ag p2 p3).2.2).2.1 (ag (ag p2 p3).2.1 (ag p2 p3).2.2).2.2).2.2).2.2).1,())]:List ai)≤bn)) (.ret (.again ((p0,(abs (p1+(1:Int))),()),(((ag (ag (ag (ag (ag p2 p3).2.1 (ag p2 p3).2.2).2.1 (ag (ag p2 p3).2.1 (ag p2 p3).2.2).2.2).2.1 (ag (ag (ag p2 p3).2.1 (ag p2 p3).2.2).2.1 (ag (ag p2 p3).2.1 (ag p2 p3).2.2).2.2).2.2).2.1 (ag (ag (ag (ag p2 p3).2.1 (ag p2 p3).2.2).2.1 (ag (ag p2 p3).2.1 (ag p2 p3).2.2).2.2).2.1 (ag (ag (ag p2 p3).2.1 (ag p2 p3).2.2).2.1 (ag (ag p2 p3).2.1 (ag p2 p3).2.2).2.2).2.2).2.2).2.1,(ag (ag (ag (ag (ag p2 p3).2.1 (ag p2 p3).2.2).2.1 (ag (ag p2 p3).2.1 (ag p2 p3).2.2).2.2).2.1 (ag (ag (ag p2 p3).2.1 (ag p2 p3).2.2).2.1 (ag (ag p2 p3).2.1 (ag p2 p3).2.2).2.2).2.2).2.1 (ag (ag (ag (ag p2 p3).2.1 (ag p2 p3).2.2).2.1 (ag (ag p2 p3).2.1 (ag p2 p3).2.2).2.2).2.1 (ag (ag (ag p2 p3).2.1 (ag p2 p3).2.2).2.1 (ag (ag p2 p3).2.1 (ag p2 p3).2.2).2.2).2.2).2.2).2.2,()),(p4,p5,()),(p6,p7,()),p8,p9,bL,b8,cr,dc,cO,cn,cX,(dz++([((ag p2 p3).1,(ag (ag p2 p3).2.1 (ag p2 p3).2.2).1,(ag (ag (ag p2 p3).2.1 (ag p2 p3).2.2).2.1 (ag (ag p2 p3).2.1 (ag p2 p3).2.2).2.2).1,(ag (ag (ag (ag p2 p3).2.1 (ag p2 p3).2.2).2.1 (ag (ag p2 p3).2.1 (ag p2 p3).2.2).2.2).2.1 (ag (ag (ag p2 p3).2.1 (ag p2 p3).2.2).2.1 (ag (ag p2 p3).2.1 (ag p2 p3).2.2).2.2).2.2).1,(ag (ag (ag (ag (ag p2 p3).2.1 (ag p2 p3).2.2).2.1 (ag (ag p2 p3).2.1 (ag p2 p3).2.2).2.2).2.1 (ag (ag (ag p2 p3).2.1 (ag p2 p3).2.2).2.1 (ag (ag p2 p3).2.1 (ag p2 p3).2.2).2.2).2.2).2.1 (ag (ag (ag (ag p2 p3).2.1 (ag p2 p3).2.2).2.1 (ag (ag p2 p3).2.1 (ag p2 p3).2.2).2.2).2.1 (ag (ag (ag p2 p3).2.1 (ag p2 p3).2.2).2.1 (ag (ag p2 p3).2.1 (ag p2 p3).2.2).2.2).2.2).2.2).1,())]:List ai)),dC,dP,eH,eC,())))) .fail) (.ret (.out ((),((p2,p3,()),(p4,p5,()),(p6,p7,()),p8,p9,bL,b8,cr,dc,cO,cn,cX,dz,dC,dP,eH,eC,()))))
abbrev Up:=(Int×Int×Unit)×bv
def Uq:Up→Out (Round Up ((Unit)×bv) Empty)
|((p0,p1,_),(p2,p3,_),(p4,p5,_),(p6,p7,_),p8,p9,bL,b8,cr,dc,cO,cn,cX,dz,dC,dP,eH,eC,_)=> .ite (decide (p1<p0)) (.get (kU (ag p2 p3).2.1 (ag p2 p3).2.2 (4:Int)) λy1=> .ite (decide (List.length dC+List.length ([((ag p2 p3).1,y1.1,())]:List ah)≤bn)) (.ret (.again ((p0,(abs (p1+(1:Int))),()),((y1.2.1,y1.2.2,()),(p4,p5,()),(p6,p7,()),p8,p9,bL,b8,cr,dc,cO,cn,cX,dz,(dC++([((ag p2 p3).1,y1.1,())]:List ah)),dP,eH,eC,())))) .fail) (.ret (.out ((),((p2,p3,()),(p4,p5,()),(p6,p7,()),p8,p9,bL,b8,cr,dc,cO,cn,cX,dz,dC,dP,eH,eC,()))))
abbrev Ur:=(Int×Int×Unit)×bv
def Us:Ur→Out (Round Ur ((Unit)×bv) Empty)
|((p0,p1,_),(p2,p3,_),(p4,p5,_),(p6,p7,_),p8,p9,bL,b8,cr,dc,cO,cn,cX,dz,dC,dP,eH,eC,_)=> .ite (decide (p1<p0)) (.get (kU (ag p2 p3).2.1 (ag p2 p3).2.2 (8:Int)) λy1=> .ite (decide (List.length dP+List.length ([((ag p2 p3).1,y1.1,())]:List ah)≤bn)) (.ret (.again ((p0,(abs (p1+(1:Int))),()),((y1.2.1,y1.2.2,()),(p4,p5,()),(p6,p7,()),p8,p9,bL,b8,cr,dc,cO,cn,cX,dz,dC,(dP++([((ag p2 p3).1,y1.1,())]:List ah)),eH,eC,())))) .fail) (.ret (.out ((),((p2,p3,()),(p4,p5,()),(p6,p7,()),p8,p9,bL,b8,cr,dc,cO,cn,cX,dz,dC,dP,eH,eC,()))))
def wO (a0:List UInt8) (a1:Bool):Out ((bA×Unit)×un):= .get (aP Uj aI (((cm (ag (ag a0 a1).2.1 (ag a0 a1).2.2).2.1 (ag (ag a0 a1).2.1 (ag a0 a1).2.2).2.2 (4:Int)).1,(0:Int),()),(((cm (ag (ag a0 a1).2.1 (ag a0 a1).2.2).2.1 (ag (ag a0 a1).2.1 (ag a0 a1).2.2).2.2 (4:Int)).2.1,(cm (ag (ag a0 a1).2.1 (ag a0 a1).2.2).2.1 (ag (ag a0 a1).2.1 (ag a0 a1).2.2).2.2 (4:Int)).2.2,()),((0:Int),(0:Int),()),((ag a0 a1).1,(ag (ag a0 a1).2.1 (ag a0 a1).2.2).1,()),([]:List (List ar)),([]:List af),([]:List ai),([]:List ah),([]:List ah),([]:List Int),([]:List Int),([]:List (List ar)),([]:List af),([]:List ai),([]:List ah),([]:List ah),([]:List Int),([]:List Int),()))) λy1=> .get (aP Ul aI (((cm y1.2.1.1 y1.2.1.2.1 (6:Int)).1,(0:Int),()),(((cm y1.2.1.1 y1.2.1.2.1 (6:Int)).2.1,(cm y1.2.1.1 y1.2.1.2.1 (6:Int)).2.2,()),(y1.2.2.1.1,y1.2.2.1.2.1,()),(y1.2.2.2.1.1,y1.2.2.2.1.2.1,()),y1.2.2.2.2.1,y1.2.2.2.2.2.1,y1.2.2.2.2.2.2.1,y1.2.2.2.2.2.2.2.1,y1.2.2.2.2.2.2.2.2.1,y1.2.2.2.2.2.2.2.2.2.1,y1.2.2.2.2.2.2.2.2.2.2.1,y1.2.2.2.2.2.2.2.2.2.2.2.1,y1.2.2.2.2.2.2.2.2.2.2.2.2.1,y1.2.2.2.2.2.2.2.2.2.2.2.2.2.1,y1.2.2.2.2.2.2.2.2.2.2.2.2.2.2.1,y1.2.2.2.2.2.2.2.2.2.2.2.2.2.2.2.1,y1.2.2.2.2.2.2.2.2.2.2.2.2.2.2.2.2.1,y1.2.2.2.2.2.2.2.2.2.2.2.2.2.2.2.2.2.1,()))) λy2=> .get (aP Uo aI (((cm y2.2.1.1 y2.2.1.2.1 (8:Int)).1,(0:Int),()),(((cm y2.2.1.1 y2.2.1.2.1 (8:Int)).2.1,(cm y2.2.1.1 y2.2.1.2.1 (8:Int)).2.2,()),(y2.2.2.1.1,y2.2.2.1.2.1,()),(y2.2.2.2.1.1,y2.2.2.2.1.2.1,()),y2.2.2.2.2.1,y2.2.2.2.2.2.1,y2.2.2.2.2.2.2.1,y2.2.2.2.2.2.2.2.1,y2.2.2.2.2.2.2.2.2.1,y2.2.2.2.2.2.2.2.2.2.1,y2.2.2.2.2.2.2.2.2.2.2.1,y2.2.2.2.2.2.2.2.2.2.2.2.1,y2.2.2.2.2.2.2.2.2.2.2.2.2.1,y2.2.2.2.2.2.2.2.2.2.2.2.2.2.1,y2.2.2.2.2.2.2.2.2.2.2.2.2.2.2.1,y2.2.2.2.2.2.2.2.2.2.2.2.2.2.2.2.1,y2.2.2.2.2.2.2.2.2.2.2.2.2.2.2.2.2.1,y2.2.2.2.2.2.2.2.2.2.2.2.2.2.2.2.2.2.1,()))) λy3=> .get (aP Uq aI (((cm y3.2.1.1 y3.2.1.2.1 (3:Int)).1,(0:Int),()),(((cm y3.2.1.1 y3.2.1.2.1 (3:Int)).2.1,(cm y3.2.1.1 y3.2.1.2.1 (3:Int)).2.2,()),(y3.2.2.1.1,y3.2.2.1.2.1,()),(y3.2.2.2.1.1,y3.2.2.2.1.2.1,()),y3.2.2.2.2.1,y3.2.2.2.2.2.1,y3.2.2.2.2.2.2.1,y3.2.2.2.2.2.2.2.1,y3.2.2.2.2.2.2.2.2.1,y3.2.2.2.2.2.2.2.2.2.1,y3.2.2.2.2.2.2.2.2.2.2.1,y3.2.2.2.2.2.2.2.2.2.2.2.1,y3.2.2.2.2.2.2.2.2.2.2.2.2.1,y3.2.2.2.2.2.2.2.2.2.2.2.2.2.1,y3.2.2.2.2.2.2.2.2.2.2.2.2.2.2.1,y3.2.2.2.2.2.2.2.2.2.2.2.2.2.2.2.1,y3.2.2.2.2.2.2.2.2.2.2.2.2.2.2.2.2.1,y3.2.2.2.2.2.2.2.2.2.2.2.2.2.2.2.2.2.1,()))) λy4=> .get (aP Us aI (((cm y4.2.1.1 y4.2.1.2.1 (6:Int)).1,(0:Int),()),(((cm y4.2.1.1 y4.2.1.2.1 (6:Int)).2.1,(cm y4.2.1.1 y4.2.1.2.1 (6:Int)).2.2,()),(y4.2.2.1.1,y4.2.2.1.2.1,()),(y4.2.2.2.1.1,y4.2.2.2.1.2.1,()),y4.2.2.2.2.1,y4.2.2.2.2.2.1,y4.2.2.2.2.2.2.1,y4.2.2.2.2.2.2.2.1,y4.2.2.2.2.2.2.2.2.1,y4.2.2.2.2.2.2.2.2.2.1,y4.2.2.2.2.2.2.2.2.2.2.1,y4.2.2.2.2.2.2.2.2.2.2.2.1,y4.2.2.2.2.2.2.2.2.2.2.2.2.1,y4.2.2.2.2.2.2.2.2.2.2.2.2.2.1,y4.2.2.2.2.2.2.2.2.2.2.2.2.2.2.1,y4.2.2.2.2.2.2.2.2.2.2.2.2.2.2.2.1,y4.2.2.2.2.2.2.2.2.2.2.2.2.2.2.2.2.1,y4.2.2.2.2.2.2.2.2.2.2.2.2.2.2.2.2.2.1,()))) λy5=> .get (td y5.2.1.1 y5.2.1.2.1 (6:Int) (0:Int)) λy6=> .get (kU y6.2.1 y6.2.2 (60:Int)) λy7=> .ret (((y5.2.2.2.1.1,y5.2.2.2.1.2.1,y5.2.2.2.2.2.2.2.2.2.2.2.1,y5.2.2.2.2.2.2.2.2.2.2.2.2.1,y5.2.2.2.2.2.2.2.2.2.2.2.2.2.1,y5.2.2.2.2.2.2.2.2.2.2.2.2.2.2.1,y5.2.2.2.2.2.2.2.2.2.2.2.2.2.2.2.1,y6.1,y7.1,()),()),((y7.2.1,y7.2.2,()),()))
abbrev oI:List (Nat×dT):=[(0, .var [.s, .b]),(act, .var [.i .i64, .i .i64, .aR aig, .aR alH, .aR alI, .aR alK, .aR alQ, .aR alV, .aR ama]),(adc, .var [.i .i64, .i .i64, .aR amb, .aR amc, .aR amd, .aR ame, .aR amf, .aR amg, .aR amh]),(aig, .arr (.sl cT)),(alH, .arr jc),(alI, .arr eF),(alK, .arr dp),(alQ, .arr dp),(alV, .arr (.int .i64)),(ama, .arr (.int .i64)),(amb, .arr (.sl cT)),(amc, .arr jc),(amd, .arr eF),(ame, .arr dp),(amf, .arr dp),(amg, .arr (.int .i64)),(amh, .arr (.int .i64))]
def anl:Nat→Option au:=λn=>bw [(0,⟨⟨[.vptr 0 0, .dead, .vptr act 0, .vptr adc 0]++dd 11++[.i .i64, .i .i64]++dd 117,oI⟩,⟨[.vptr 0 0, .dead, .vptr act 0, .vptr adc 0]++dd 130,oI⟩,none,false⟩),(2,⟨⟨[.vptr 0 0, .dead, .vptr act 0, .vptr adc 0]++dd 23++[.i .i64, .i .i64]++dd 105,oI⟩,⟨[.vptr 0 0, .dead, .vptr act 0, .vptr adc 0]++dd 130,oI⟩,none,false⟩),(4,⟨⟨[.vptr 0 0, .dead, .vptr act 0, .vptr adc 0]++dd 66++[.i .i64, .i .i64]++dd 62,oI⟩,⟨[.vptr 0 0, .dead, .vptr act 0, .vptr adc 0]++dd 130,oI⟩,none,false⟩),(6,⟨⟨[.vptr 0 0, .dead, .vptr act 0, .vptr adc 0]++dd 92++[.i .i64, .i .i64]++dd 36,oI⟩,⟨[.vptr 0 0, .dead, .vptr act 0, .vptr adc 0]++dd 130,oI⟩,none,false⟩),(8,⟨⟨[.vptr 0 0, .dead, .vptr act 0, .vptr adc 0]++dd 108++[.i .i64, .i .i64]++dd 20,oI⟩,⟨[.vptr 0 0, .dead, .vptr act 0, .vptr adc 0]++dd 130,oI⟩,none,false⟩)] n
def k16:bK:={ f:=16,lend:=true,aF:=[EQ],lay:=[none],rs:=[GT],F:=λx=> .ret ((((cg x.1.1 x.1.2.1).1,(cg x.1.1 x.1.2.1).2.1,(cg x.1.1 x.1.2.1).2.2.1,(cg x.1.1 x.1.2.1).2.2.2.1,(cg x.1.1 x.1.2.1).2.2.2.2.1,(cg x.1.1 x.1.2.1).2.2.2.2.2.1,(cg x.1.1 x.1.2.1).2.2.2.2.2.2.1,(cg x.1.1 x.1.2.1).2.2.2.2.2.2.2.1,(cg x.1.1 x.1.2.1).2.2.2.2.2.2.2.2.1,()),()),(((cg x.1.1 x.1.2.1).2.2.2.2.2.2.2.2.2.1,(cg x.1.1 x.1.2.1).2.2.2.2.2.2.2.2.2.2,()),())) }
theorem ahr (x:aw k16.aF):bo [MC,OQ,k52,YX,k54,k55] anl Tryz.f16 k16 [.cell 2 31] x=wO x.1.1 x.1.2.1:=by kernel_rfl
theorem ahs (hr:∀ x:(List UInt8×Bool×Unit)×Unit,aB k16.aF x→(wO x.1.1 x.1.2.1).eval=(k16.F x).eval):k16.Ok acl:=aD [MC,OQ,k52,YX,k54,k55] ⟨Co,Ia,aht,Ts,ahn,ahq,trivial⟩ ahr λx hw _ hy=>(hr x hw).trans hy
set_option maxHeartbeats 4000000 in
theorem ahu:k16.Ok acl:=by
 refine ahs λx hw=> ?_;obtain ⟨⟨a0,a1,_⟩,_⟩:=x;show (wO a0 a1).eval=some ((((cg a0 a1).1,(cg a0 a1).2.1,(cg a0 a1).2.2.1,(cg a0 a1).2.2.2.1,(cg a0 a1).2.2.2.2.1,(cg a0 a1).2.2.2.2.2.1,(cg a0 a1).2.2.2.2.2.2.1,(cg a0 a1).2.2.2.2.2.2.2.1,(cg a0 a1).2.2.2.2.2.2.2.2.1,()),()),(((cg a0 a1).2.2.2.2.2.2.2.2.2.1,(cg a0 a1).2.2.2.2.2.2.2.2.2.2,()),()));have h1:=mM (f:=Uj) mC (λn i s b l=>((n,((i:Nat):Int),()),((s,b,()),((0:Int),(0:Int),()),((ag a0 a1).1,(ag (ag a0 a1).2.1 (ag a0 a1).2.2).1,()),([]:List (List ar)),([]:List af),([]:List ai),([]:List ah),([]:List ah),([]:List Int),([]:List Int),l,([]:List af),([]:List ai),([]:List ah),([]:List ah),([]:List Int),([]:List Int),()))) (λs b l=>((),((s,b,()),((0:Int),(0:Int),()),((ag a0 a1).1,(ag (ag a0 a1).2.1 (ag a0 a1).2.2).1,()),([]:List (List ar)),([]:List af),([]:List ai),([]:List ah),([]:List ah),([]:List Int),([]:List Int),l,([]:List af),([]:List ai),([]:List ah),([]:List ah),([]:List Int),([]:List Int),()))) (m:=4) (by decide)
  (λn i s b l hn hi hl=>by
   have h1:=aq (i:=i) (by unfold cj;omega);refine (ab (aac (show ((i:Nat):Int)<((n:Nat):Int) by omega))).trans ?_;exact (ab (iV (by simp;omega))).trans (by rw [← h1];rfl))
  (λn s b l=>(ae (adD (show ¬ ((n:Nat):Int)<((n:Nat):Int) by omega))).trans rfl)
 skip
 have h2 (pg:List (List ar)):=mM (f:=Ul) Kj (λn i s b l=>((n,((i:Nat):Int),()),((s,b,()),((0:Int),(0:Int),()),((ag a0 a1).1,(ag (ag a0 a1).2.1 (ag a0 a1).2.2).1,()),([]:List (List ar)),([]:List af),([]:List ai),([]:List ah),([]:List ah),([]:List Int),([]:List Int),pg,l,([]:List ai),([]:List ah),([]:List ah),([]:List Int),([]:List Int),()))) (λs b l=>((),((s,b,()),((0:Int),(0:Int),()),((ag a0 a1).1,(ag (ag a0 a1).2.1 (ag a0 a1).2.2).1,()),([]:List (List ar)),([]:List af),([]:List ai),([]:List ah),([]:List ah),([]:List Int),([]:List Int),pg,l,([]:List ai),([]:List ah),([]:List ah),([]:List Int),([]:List Int),()))) (m:=6) (by decide)
  (λn i s b l hn hi hl=>by
   have h1:=aq (i:=i) (by unfold cj;omega);refine (ab (aac (show ((i:Nat):Int)<((n:Nat):Int) by omega))).trans ?_;refine (aa (jA (by decide) _ _)).trans ((aa (jA (by decide) _ _)).trans ((aa (wL (by decide) _ _)).trans ((ab (iV (by simp;omega))).trans ?_)));rw [← h1,Ug (s:=s) (b:=b) rfl rfl rfl rfl];rfl)
  (λn s b l=>(ae (adD (show ¬ ((n:Nat):Int)<((n:Nat):Int) by omega))).trans rfl)
 skip
 have h3 (pg:List (List ar)) (ps:List af):=mM (f:=Uo) Kl (λn i s b l=>((n,((i:Nat):Int),()),((s,b,()),((0:Int),(0:Int),()),((ag a0 a1).1,(ag (ag a0 a1).2.1 (ag a0 a1).2.2).1,()),([]:List (List ar)),([]:List af),([]:List ai),([]:List ah),([]:List ah),([]:List Int),([]:List Int),pg,ps,l,([]:List ah),([]:List ah),([]:List Int),([]:List Int),()))) (λs b l=>((),((s,b,()),((0:Int),(0:Int),()),((ag a0 a1).1,(ag (ag a0 a1).2.1 (ag a0 a1).2.2).1,()),([]:List (List ar)),([]:List af),([]:List ai),([]:List ah),([]:List ah),([]:List Int),([]:List Int),pg,ps,l,([]:List ah),([]:List ah),([]:List Int),([]:List Int),()))) (m:=8) (by decide)
  (λn i s b l hn hi hl=>by
   have h1:=aq (i:=i) (by unfold cj;omega);refine (ab (aac (show ((i:Nat):Int)<((n:Nat):Int) by omega))).trans ?_;refine (ab (iV (by simp;omega))).trans ?_;rw [← h1,Uh (s:=s) (b:=b) rfl];rfl)
  (λn s b l=>(ae (adD (show ¬ ((n:Nat):Int)<((n:Nat):Int) by omega))).trans rfl)
 skip
 have h4 (pg:List (List ar)) (ps:List af) (os:List ai):=mM (f:=Uq) (Kn 4) (λn i s b l=>((n,((i:Nat):Int),()),((s,b,()),((0:Int),(0:Int),()),((ag a0 a1).1,(ag (ag a0 a1).2.1 (ag a0 a1).2.2).1,()),([]:List (List ar)),([]:List af),([]:List ai),([]:List ah),([]:List ah),([]:List Int),([]:List Int),pg,ps,os,l,([]:List ah),([]:List Int),([]:List Int),()))) (λs b l=>((),((s,b,()),((0:Int),(0:Int),()),((ag a0 a1).1,(ag (ag a0 a1).2.1 (ag a0 a1).2.2).1,()),([]:List (List ar)),([]:List af),([]:List ai),([]:List ah),([]:List ah),([]:List Int),([]:List Int),pg,ps,os,l,([]:List ah),([]:List Int),([]:List Int),()))) (m:=3) (by decide)
  (λn i s b l hn hi hl=>by
   have h1:=aq (i:=i) (by unfold cj;omega);refine (ab (aac (show ((i:Nat):Int)<((n:Nat):Int) by omega))).trans ?_;exact (aa (jA (by decide) _ _)).trans ((ab (iV (by simp;omega))).trans (by rw [← h1];rfl)))
  (λn s b l=>(ae (adD (show ¬ ((n:Nat):Int)<((n:Nat):Int) by omega))).trans rfl)
 skip
 have h5 (pg:List (List ar)) (ps:List af) (os:List ai) (A1:List fq):=mM (f:=Us) (Kn 8) (λn i s b l=>((n,((i:Nat):Int),()),((s,b,()),((0:Int),(0:Int),()),((ag a0 a1).1,(ag (ag a0 a1).2.1 (ag a0 a1).2.2).1,()),([]:List (List ar)),([]:List af),([]:List ai),([]:List ah),([]:List ah),([]:List Int),([]:List Int),pg,ps,os,A1,l,([]:List Int),([]:List Int),()))) (λs b l=>((),((s,b,()),((0:Int),(0:Int),()),((ag a0 a1).1,(ag (ag a0 a1).2.1 (ag a0 a1).2.2).1,()),([]:List (List ar)),([]:List af),([]:List ai),([]:List ah),([]:List ah),([]:List Int),([]:List Int),pg,ps,os,A1,l,([]:List Int),([]:List Int),()))) (m:=6) (by decide)
  (λn i s b l hn hi hl=>by
   have h1:=aq (i:=i) (by unfold cj;omega);refine (ab (aac (show ((i:Nat):Int)<((n:Nat):Int) by omega))).trans ?_;exact (aa (jA (by decide) _ _)).trans ((ab (iV (by simp;omega))).trans (by rw [← h1];rfl)))
  (λn s b l=>(ae (adD (show ¬ ((n:Nat):Int)<((n:Nat):Int) by omega))).trans rfl)
 unfold wO;exact (aa (h1 _ _)).trans ((aa (h2 _ _ _)).trans ((aa (h3 _ _ _ _)).trans ((aa (h4 _ _ _ _ _)).trans ((aa (h5 _ _ _ _ _ _)).trans ((aa (wL (by decide) _ _)).trans ((aa (jA (by decide) _ _)).trans rfl))))))
theorem KG {s:bs} {n t:Int} {pg:List (List ar)} {ps:List af} {os:List ai} {pp:List fq} {fl:List cB} {rd ou:List Int} {k:Nat} (h:jX s=some (([n,t],pg,ps,os,pp,fl,rd,ou),k)):
  cg s false=(n,t,pg,ps,os,pp,fl,rd,ou,s.drop k,false):=by
 have h1:=rN.Cq h;have e:cg s false=((jO s false).1.1.headD 0,(jO s false).1.1.getD 1 0,(jO s false).1.2.1,(jO s false).1.2.2.1,(jO s false).1.2.2.2.1,(jO s false).1.2.2.2.2.1,(jO s false).1.2.2.2.2.2.1,(jO s false).1.2.2.2.2.2.2.1,(jO s false).1.2.2.2.2.2.2.2,(jO s false).2.1,(jO s false).2.2):=rfl;simp_all
theorem CU {s:bs} {b:Bool} (h:(jO s b).2.2=true):(cg s b).2.2.2.2.2.2.2.2.2.2=true:=h
theorem wP {s:bs} {n t:Int} {pg:List (List ar)} {ps:List af} {os:List ai} {pp:List fq} {fl:List cB} {rd ou:List Int} {k:Nat} (h:jX (s.drop 1)=some (([n,t],pg,ps,os,pp,fl,rd,ou),k))
  (hs:fM n t pg ps os pp fl rd ou=s):s=117::s.drop 1∧(s.drop 1).drop k=[]:=by
 obtain ⟨h1,h2⟩:=Kc h;unfold fM at hs;split at hs
 . grind
 . subst hs
   exact nomatch h
def Bt (a0:List UInt8):Out ((bA×(Bool×Unit)×Unit)×(Unit×Unit)):= .ite ((cg (aJ a0 ([117]:List UInt8)).1 (!(aJ a0 ([117]:List UInt8)).2)).2.2.2.2.2.2.2.2.2.2==false) (.ite (((cg (aJ a0 ([117]:List UInt8)).1 (!(aJ a0 ([117]:List UInt8)).2)).2.2.2.2.2.2.2.2.2.1 != ([]:List UInt8))==false) (.get (eB (cg (aJ a0 ([117]:List UInt8)).1 (!(aJ a0 ([117]:List UInt8)).2)).1 (cg (aJ a0 ([117]:List UInt8)).1 (!(aJ a0 ([117]:List UInt8)).2)).2.1 (cg (aJ a0 ([117]:List UInt8)).1 (!(aJ a0 ([117]:List UInt8)).2)).2.2.1 (cg (aJ a0 ([117]:List UInt8)).1 (!(aJ a0 ([117]:List UInt8)).2)).2.2.2.1 (cg (aJ a0 ([117]:List UInt8)).1 (!(aJ a0 ([117]:List UInt8)).2)).2.2.2.2.1 (cg (aJ a0 ([117]:List UInt8)).1 (!(aJ a0 ([117]:List UInt8)).2)).2.2.2.2.2.1 (cg (aJ a0 ([117]:List UInt8)).1 (!(aJ a0 ([117]:List UInt8)).2)).2.2.2.2.2.2.1 (cg (aJ a0 ([117]:List UInt8)).1 (!(aJ a0 ([117]:List UInt8)).2)).2.2.2.2.2.2.2.1 (cg (aJ a0 ([117]:List UInt8)).1 (!(aJ a0 ([117]:List UInt8)).2)).2.2.2.2.2.2.2.2.1) λy1=> .ite (y1 != a0) (.ret ((((0:Int),(0:Int),([]:List (List ar)),([]:List af),([]:List ai),([]:List ah),([]:List ah),([]:List Int),([]:List Int),()),(false,()),()),((),()))) (.ret ((((cg (aJ a0 ([117]:List UInt8)).1 (!(aJ a0 ([117]:List UInt8)).2)).1,(cg (aJ a0 ([117]:List UInt8)).1 (!(aJ a0 ([117]:List UInt8)).2)).2.1,(cg (aJ a0 ([117]:List UInt8)).1 (!(aJ a0 ([117]:List UInt8)).2)).2.2.1,(cg (aJ a0 ([117]:List UInt8)).1 (!(aJ a0 ([117]:List UInt8)).2)).2.2.2.1,(cg (aJ a0 ([117]:List UInt8)).1 (!(aJ a0 ([117]:List UInt8)).2)).2.2.2.2.1,(cg (aJ a0 ([117]:List UInt8)).1 (!(aJ a0 ([117]:List UInt8)).2)).2.2.2.2.2.1,(cg (aJ a0 ([117]:List UInt8)).1 (!(aJ a0 ([117]:List UInt8)).2)).2.2.2.2.2.2.1,(cg (aJ a0 ([117]:List UInt8)).1 (!(aJ a0 ([117]:List UInt8)).2)).2.2.2.2.2.2.2.1,(cg (aJ a0 ([117]:List UInt8)).1 (!(aJ a0 ([117]:List UInt8)).2)).2.2.2.2.2.2.2.2.1,()),(true,()),()),((),())))) (.ret ((((0:Int),(0:Int),([]:List (List ar)),([]:List af),([]:List ai),([]:List ah),([]:List ah),([]:List Int),([]:List Int),()),(false,()),()),((),())))) (.ret ((((0:Int),(0:Int),([]:List (List ar)),([]:List af),([]:List ai),([]:List ah),([]:List ah),([]:List Int),([]:List Int),()),(false,()),()),((),())))
def k6:bK:={ f:=6,lend:=true,aF:=[wr],lay:=[none],rs:=[GT,wn],F:=λx=> .ret ((((ao x.1.1).1,(ao x.1.1).2.1,(ao x.1.1).2.2.1,(ao x.1.1).2.2.2.1,(ao x.1.1).2.2.2.2.1,(ao x.1.1).2.2.2.2.2.1,(ao x.1.1).2.2.2.2.2.2.1,(ao x.1.1).2.2.2.2.2.2.2.1,(ao x.1.1).2.2.2.2.2.2.2.2.1,()),((ao x.1.1).2.2.2.2.2.2.2.2.2,()),()),((),())) }
theorem anm (x:aw k6.aF):bo [k15,k16,k7] (λ_=>none) Tryz.f6 k6 [.cell 2 31, .tmp 3] x=Bt x.1.1:=by kernel_rfl
theorem ann (hr:∀ x:(List UInt8×Unit)×Unit,aB k6.aF x→(Bt x.1.1).eval=(k6.F x).eval):k6.Ok acl:=aD [k15,k16,k7] ⟨agN,ahu,ad4,trivial⟩ anm λx hw _ hy=>(hr x hw).trans hy
theorem ano:k6.Ok acl:=by
 refine ann λx hw=> ?_;obtain ⟨⟨a0,_⟩,_⟩:=x;show (Bt a0).eval=some ((((ao a0).1,(ao a0).2.1,(ao a0).2.2.1,(ao a0).2.2.2.1,(ao a0).2.2.2.2.1,(ao a0).2.2.2.2.2.1,(ao a0).2.2.2.2.2.2.1,(ao a0).2.2.2.2.2.2.2.1,(ao a0).2.2.2.2.2.2.2.2.1,()),((ao a0).2.2.2.2.2.2.2.2.2,()),()),((),()));unfold Bt;have Ut:jX (List.drop 1 a0)=none→ao a0=wK:=λh=>by unfold ao;rw [h];rfl
 by_cases hp:kk a0 [117]=true
 . have ec:aJ a0 [117]=(List.drop 1 a0,true):=by grind [aJ]
   simp only [ec,Bool.not_true];cases e:jX (List.drop 1 a0) with
   |none=>
    rw [Ut e];have hb:=CU (rN.fail e);exact (ae (by rw [hb];rfl)).trans rfl
   |some x=>
    obtain ⟨⟨h0,pg,ps,os,pp,fl,rd,ou⟩,k⟩:=x;obtain ⟨n,t,h⟩:=yP e;simp only at h;subst h;rw [KG e];have hu:ao a0=if fM n t pg ps os pp fl rd ou=a0 then (n,t,pg,ps,os,pp,fl,rd,ou,true) else wK:=by unfold ao;rw [e];rfl
    rw [hu];refine (ab rfl).trans ?_;by_cases hr:List.drop k (List.drop 1 a0)=[]
    . rw [hr]
      refine (ab rfl).trans ?_;have hl:rd.length≤6:=by
       unfold jX at e;obtain ⟨_,_,_,e,_⟩:=cK e;obtain ⟨_,_,_,e,_⟩:=cK e;obtain ⟨_,_,_,e,_⟩:=cK e;obtain ⟨_,_,_,e,_⟩:=cK e;obtain ⟨_,_,_,e,_⟩:=cK e;obtain ⟨_,_,_,e,_⟩:=cK e;obtain ⟨_,_,e,_,_⟩:=cK e;exact (gW e).2.1
      have s1:eB n t pg ps os pp fl rd ou=some (fM n t pg ps os pp fl rd ou):=aaZ (by grind);refine (aa s1).trans ?_;by_cases hs:fM n t pg ps os pp fl rd ou=a0
      . rw [aaZ hs]
        exact (ae (by simp [hs])).trans rfl
      . rw [aae hs]
        exact (ab (by simp [hs])).trans rfl
    . rw [aae λhs=>hr (wP e hs).2]
      have fE:(List.drop k (List.drop 1 a0) != ([]:bs))=true:=by grind
      exact (ae (by rw [fE];rfl)).trans rfl
 . have ec:aJ a0 [117]=(a0,false):=by unfold aJ;grind
   simp only [ec,Bool.not_false];have hb:=CU (rN.2.2 a0);have hz:ao a0=wK:=by
    cases e:jX (List.drop 1 a0) with
    |none=>exact Ut e
    |some x=>
     obtain ⟨⟨h0,pg,ps,os,pp,fl,rd,ou⟩,k⟩:=x;obtain ⟨n,t,h⟩:=yP e;simp only at h;subst h;have hu:ao a0=if fM n t pg ps os pp fl rd ou=a0 then (n,t,pg,ps,os,pp,fl,rd,ou,true) else wK:=by unfold ao;rw [e];rfl
     rw [hu,if_neg];intro hs;have h3:=(wP e hs).1;rw [h3] at hp;exact hp rfl
   rw [hz];exact (ae (by rw [hb];rfl)).trans rfl
section
variable {α β:Type} {p:bs→Option (α×Nat)} {q:bs→Option (β×Nat)} {t w:bs} {a:α} {b:β} {m:Nat} {l:List Int} {u:UT}
def Told (p:bs→Option (α×Nat)) (t:bs) (a:α):Prop:=∀ r,p (t++r)=some (a,t.length)
theorem Told.seq (hp:Told p t a) (hq:Told q w b):Told (fh p q) (t++w) (a,b):=λr=>by
 unfold fh;rw [adO,hp];simp only;rw [alm rfl,hq];grind
theorem Told.map {f:α→Option β} (hp:Told p t a) (hf:f a=some b):Told (dS f p) t b:=λr=>by
 unfold dS;rw [hp];simp only [hf]
theorem OZ {x:Int} (h:b7 x):∃ n:Nat,x=((n:Nat):Int)∧n<562949953421312∧ay x=iE n∧0<(iE n).length:=by
 obtain ⟨n,rfl⟩:=aft h.1;have h2:=h.2;have hn:n<562949953421312:=by omega
 exact ⟨n,rfl,hn,jW hn,PP.2 (lR _)⟩
theorem KH {x:Int} (h:b7 x):Told wc (ay x) x:=λr=>by
 obtain ⟨n,rfl,hn,e,hp⟩:=OZ h;grind [wc,tf,tg,Nat.sub_add_cancel]
theorem mN:∀ {l:List Int},(∀ x∈l,b7 x)→Told (cW l.length) (l.flatMap ay) l
 |[],_=>λ_=>rfl
 |x::l,h=>λr=>by
  have ih:=mN (l:=l) (by grind) r;obtain ⟨n,rfl,hn,e,hp⟩:=OZ (h x (by simp));rw [aay,cW,aez,adO,e,tf hn];simp only;rw [tg hn,ago hp,alm rfl,ih];simp
theorem Uu {n:Nat} (hn:n≤m) (hs:n<562949953421312) (r:bs):uj m (ay ((n:Nat):Int)++r)=some (n,(ay ((n:Nat):Int)).length):=by
 have hp:0<(iE n).length:=PP.2 (lR _);unfold uj;rw [jW hs,tf hs];simp only;rw [tg hs,aae,ago hp]
theorem KI {f:α→bs}:∀ {l:List α},(∀ x∈l,Told p (f x) x)→Told (jV p l.length) (l.flatMap f) l
 |[],_=>λ_=>rfl
 |x::l,h=>λr=>by
  have ih:=KI (l:=l) (λy hy=>h y (by simp [hy])) r;rw [aay,jV,aez,adO,h x (by simp)];grind
theorem mO {f:α→bs} {l:List α} (hl:l.length≤m) (hm:m≤100) (h:∀ x∈l,Told p (f x) x):Told (dm m p) (fa f l) l:=λr=>by
 unfold dm fa;rw [adO,Uu hl (by omega)];simp only;rw [alm rfl,KI h];grind
theorem Gj (hl:l.length≤m) (hm:m≤100) (h:∀ x∈l,b7 x):Told (gm m) (fa ay l) l:=λr=>by
 have hs:l.length<562949953421312:=by omega
 have hp:0<(iE l.length).length:=PP.2 (lR _);unfold gm fa;rw [adO,jW hs,tf hs];simp only;rw [tg hs,aae,ago hp,alm rfl,mN h];grind
theorem nc (hl:l.length≤m) (hm:m≤100) (hw:aH l=true):Told (m5 m) (cQ l) l:=
 Told.map (λr=>KJ hl (by omega) hw r) (by
  rw [agR];exact congrArg some ((afp λx hx=>O0 (adG.1 hw x hx)).trans (akU l)))
theorem Nh (hl:l.length≤m) (hm:m≤100) (h:∀ x∈l, -1≤x∧x≤100):Told (Cn m) (gh 1 l) l:=by
 have h1:∀ y∈l.map λx:Int=>x+1,b7 y:=λy hy=>by
  obtain ⟨x,hx,rfl⟩:=List.mem_map.1 hy;grind [b7]
 have e:(l.map λx:Int=>x+1).map uy=l:=by
  rw [agR];refine (afp λx hx=> ?_).trans (akU l);have:=h x hx;show abs (x+1 - 1)=x;grind [bt]
 have e2:=FX h1;rw [e] at e2;rw [← e2];exact Told.map (Gj (by grind) hm h1) (congrArg some e)
theorem Ni (hl:l.length≤m) (hm:m≤100) (h:∀ x∈l,b7 x):Told (gm m) (gh 0 l) l:=by
 rw [← yO h];grind [Gj]
theorem Uv {x:ar} (h:du x=true):Told (dS ZE (cW 4)) (o6 x) x:=by
 obtain ⟨o,a,b,c,z⟩:=x;have h:gg o a b c=true:=h;have key:b7 o∧b7 a∧b7 (if o=1 then il b else b)∧b7 c∧(o=1→dL b (-1000000) 1000000=true):=by
  unfold gg at h;have ars:∀ {n:Int},eT n=true→b7 n:=λq=>by
   unfold eT at q;simp only [aa6,adS] at q;grind [b7]
  have hz:∀ {n:Int},(n==0)=true→b7 n:=by grind [b7]
  have avK:∀ {n lo hi:Int},dL n lo hi=true→0≤lo→hi≤100→b7 n:=by grind [eS,b7]
  by_cases e1:o=1
  . subst e1
    simp only [beq_self_eq_true,aed,aa6] at h;have hb:=rX h.2.1;exact ⟨by grind [b7],ars h.1,by rw [aaZ rfl];grind [b7],hz h.2.2,λ_=>h.2.1⟩
  rw [aae e1];have ho:∀ k:Int,o=k→0≤k→k≤8→b7 o:=by grind [b7]
  rw [show (o==(1:Int))=false from beq_false_of_ne e1,aex] at h;by_cases e:o=2
  . grind
  grind
 obtain ⟨k1,k2,k3,k4,k5⟩:=key;have h4:=mN (l:=[o,a,if o=1 then il b else b,c]) (by grind);have e:o6 (o,a,b,c,z)=[o,a,if o=1 then il b else b,c].flatMap ay:=by grind [o6]
 rw [e];refine h4.map ?_;show some (Tj o a (if o=1 then il b else b) c)=_;unfold Tj;by_cases h1:o=1
 . subst h1
   rw [aaZ rfl,show (bif ((1:Int)==1) then dA (il b) else il b)=b from O0 (k5 rfl)]
 grind
theorem Ra {x:List ar} (h:bm x=true):Told wh (jL x) x:=by
 have h2:decide (x.length≤40)=true∧x.all du=true:=Bool.and_eq_true_iff.1 h;exact (mO (m:=40) (adR h2.1) (by decide) (by grind [Uv,List.all_eq_true])).map (aaZ h)
theorem Gk {x:cB} (hx:b7 x.1) (hl:x.2.1.length≤m) (hm:m≤100) (hw:aH x.2.1=true):Told (m6 m) (gV x) x:=((KH hx).seq (nc hl hm hw)).map rfl
theorem Rb {x:ai} (h1:b7 x.1) (h2:b7 x.2.1) (h3:b7 x.2.2.1) (h4:b7 x.2.2.2.1) (h5:b7 x.2.2.2.2.1):Told wj (kx x) x:=by
 have h:=mN (l:=[x.1,x.2.1,x.2.2.1,x.2.2.2.1,x.2.2.2.2.1]) (by grind);have e:kx x=[x.1,x.2.1,x.2.2.1,x.2.2.2.1,x.2.2.2.2.1].flatMap ay:=by unfold kx;simp
 rw [e];exact h.map rfl
theorem Rc {x:af} (h1:b7 x.1) (h2:b7 (gQ x)) (h3:b7 (cU x)) (h4:b7 (Zz x)) (h5:b7 (ug x).1) (hr:(ug x).2.1.length=4∧aH (ug x).2.1=true) (hm:(ct x).length≤12∧aH (ct x)=true) (hf:(aE x).length=4∧∀ f∈aE x, -1≤f∧f≤100) (h6:b7 (mc x)) (hc:b9 (mb x)=true):Told wi (jM x) x:=by
 have h:=mN (l:=[x.1,gQ x,cU x,Zz x,(ug x).1]) (by grind);have hw:=nc (m:=1) (l:=[mb x]) (adK 1) (by decide) (by unfold aH;simp [hc]);have:=(h.seq ((nc (m:=4) (by omega) (by decide) hr.2).seq ((nc (m:=12) hm.1 (by decide) hm.2).seq ((Nh (m:=4) (by omega) (by decide) hf.2).seq ((KH h6).seq (hw.map (f:=agE) (b:=mb x) rfl)))))).map (f:=Tk) (b:=x) rfl;have e:jM x=[x.1,gQ x,cU x,Zz x,(ug x).1].flatMap ay++(cQ (ug x).2.1++(cQ (ct x)++(gh 1 (aE x)++(ay (mc x)++cQ [mb x])))):=by unfold jM;simp
 rw [e];exact this
structure aL (u:UT):Prop where
 le:∀ p∈bE u,mc p≤1000000
theorem Re (h:gU u) (hU:aL u):jX ((lr u.1 u.2.1 u.2.2.1 (bE u) (eY u) (nW u) (nT u) (oZ u) (Ca u)).drop 1)=some (([u.1,u.2.1],u.2.2.1,bE u,eY u,nW u,nT u,oZ u,Ca u),(lr u.1 u.2.1 u.2.2.1 (bE u) (eY u) (nW u) (nT u) (oZ u) (Ca u)).length - 1):=by
 have OE:=h.OE;have B5:=h.B5;have uY:=h.uY;unfold cH at uY;simp only [aa6,adS] at uY;have g1:=mN (l:=[u.1,u.2.1]) (λx hx=>by
  rcases adM.1 hx with rfl|hx
  . unfold b7;omega
  . rw [aey.1 hx];unfold b7;omega)
 have g2:=mO (m:=4) (p:=wh) (f:=jL) uY.1.2 (by decide) λx hx=>Ra (adG.1 uY.2 x hx);have g3:=mO (m:=6) (p:=wi) (f:=jM) h.np (by decide) λx hx=>by
  have hl:=h.loc x hx;have hc:=h.ctx x hx;have anp:=dt hl.pW;have hpc:=eS.1 (show dL (ug x).1 0 40=true from anp.1);have fg:∀ o∈eY u,0≤o.1∧o.1≤7:=λo ho=>(h.op o ho).id;have hf:∀ f∈aE x, -1≤f∧f≤100:=λf hf=>by
   rcases hc.fds f hf with e|⟨o,ho,e⟩
   . omega
   . have:=fg o ho;omega
  have ZY:0≤gQ x∧gQ x≤100000:=by
   rcases hc.par with e|⟨_,q,hq,e,_⟩
   . omega
   . have:=(h.ctx q hq).pid;omega
  have hun:0≤mc x:=by
   have vP:=hl.st;have:cU x=1∨cU x=2∨cU x=3∨cU x=4∨cU x=5∨cU x=6:=by omega
   rcases this with e|e|e|e|e|e
   . exact Int.le_of_eq (hl.n6 (.inl e)).symm
   . have:=hc.Uw e;omega
   . exact Int.le_of_eq (hl.n6 (.inr (.inl e))).symm
   . obtain ⟨_,o,ho,e⟩:=hc.wt (.inl e);have:=fg o ho;omega
   . obtain ⟨_,o,ho,e⟩:=hc.wt (.inr e);have:=fg o ho;omega
   . exact Int.le_of_eq (hl.n6 (.inr (.inr e))).symm
  have avL:=hU.le x hx;have anq:=hc.pid;have vP:=hl.st;have avM:=hl.pg;exact Rc (by unfold b7;omega) (by unfold b7;omega) (by unfold b7;omega) (by unfold b7;omega) (by unfold b7;omega) anp.2 ⟨hl.mem.1,hl.mem.2.2⟩ ⟨hl.fds,hf⟩ (by unfold b7;omega) hl.code
 have g4:=mO (m:=8) (p:=wj) (f:=kx) (oY h) (by decide) λx hx=>by
  have ho:=h.op x hx;have fg:=ho.id;have hcn:=Ux (ps:=bE u) (λp hp=>(h.loc p hp).fds) x.1;have QO:(bE u).length≤6:=h.np;have Sz:bP x=((pR (bE u) x.1:Nat):Int):=ho.refs.1;have hk:b7 (bN x)∧b7 (cu x)∧b7 (fK x):=by
   rcases ho.kind with ⟨e1,e2,e3⟩|⟨e1,⟨f,hf,e2,e3,e4⟩⟩|⟨e1,⟨f,hf,e2⟩,e3⟩
   . grind [b7]
   . have AZ:=h.AZ f hf
     unfold fA at AZ;simp only [aa6,adS] at AZ;grind [eS,b7]
   . have:=(h.uv f hf).id
     unfold b7;omega
  exact Rb (by grind [b7]) hk.1 hk.2.1 hk.2.2 (by show b7 (bP x);grind [b7])
 have g5:=mO (m:=3) (p:=m6 4) (f:=gV) (vU h) (by decide) λx hx=>by
  have hp:=h.uv x hx;have:=hp.id;exact Gk (by grind [b7]) hp.data.1 (by decide) hp.data.2
 have g6:=mO (m:=6) (p:=m6 8) (f:=gV) (Ak h) (by decide) λx hx=>by
  have AZ:=h.AZ x hx;unfold fA at AZ;simp only [aa6,adS] at AZ;grind [eS,Gk,b7]
 have g7:=Ni (m:=6) (l:=oZ u) (uw h) (by decide) λx hx=>by
  obtain ⟨p,hp,e⟩:=List.mem_map.1 (h.HD.mem_iff.1 hx);have:=(h.ctx p (List.mem_filter.1 hp).1).pid;have e:p.1=x:=e;grind [b7]
 have g8:=nc (m:=60) h.Fa.1 (by decide) h.Fa.2;have:=(g1.seq (g2.seq (g3.seq (g4.seq (g5.seq (g6.seq (g7.seq g8))))))) []
 unfold jX;rw [aeX] at this;have e:(lr u.1 u.2.1 u.2.2.1 (bE u) (eY u) (nW u) (nT u) (oZ u) (Ca u)).drop 1=[u.1,u.2.1].flatMap ay++(fa jL u.2.2.1++(fa jM (bE u)++(fa kx (eY u)++(fa gV (nW u)++(fa gV (nT u)++(gh 0 (oZ u)++cQ (Ca u))))))):=by unfold lr;simp
 have e2:(lr u.1 u.2.1 u.2.2.1 (bE u) (eY u) (nW u) (nT u) (oZ u) (Ca u)).length - 1=([u.1,u.2.1].flatMap ay++(fa jL u.2.2.1++(fa jM (bE u)++(fa kx (eY u)++(fa gV (nW u)++(fa gV (nT u)++(gh 0 (oZ u)++cQ (Ca u)))))))).length:=by grind
 simp_all
theorem Nj (h:gU u) (hU:aL u):ao (fM u.1 u.2.1 u.2.2.1 (bE u) (eY u) (nW u) (nT u) (oZ u) (Ca u))=(u.1,u.2.1,u.2.2.1,bE u,eY u,nW u,nT u,oZ u,Ca u,true):=by
 have e:fM u.1 u.2.1 u.2.2.1 (bE u) (eY u) (nW u) (nT u) (oZ u) (Ca u)=lr u.1 u.2.1 u.2.2.1 (bE u) (eY u) (nW u) (nT u) (oZ u) (Ca u):=aaZ (yL.2 h);rw [e];unfold ao;rw [Re h hU];show (if _ then _ else _)=_;rw [aaZ e]
theorem O1 {s:bs} (h:(ao s).2.2.2.2.2.2.2.2.2=true):fM (ao s).1 (ao s).2.1 (ao s).2.2.1 (ao s).2.2.2.1 (ao s).2.2.2.2.1 (ao s).2.2.2.2.2.1 (ao s).2.2.2.2.2.2.1 (ao s).2.2.2.2.2.2.2.1 (ao s).2.2.2.2.2.2.2.2.1=s:=by
 have key:∀ x,(mv s x).2.2.2.2.2.2.2.2.2=true→fM (mv s x).1 (mv s x).2.1 (mv s x).2.2.1 (mv s x).2.2.2.1 (mv s x).2.2.2.2.1 (mv s x).2.2.2.2.2.1 (mv s x).2.2.2.2.2.2.1 (mv s x).2.2.2.2.2.2.2.1 (mv s x).2.2.2.2.2.2.2.2.1=s:=λx=>by
  unfold mv;split
  . split
    . grind
    . exact λh=>nomatch h
  . exact λh=>nomatch h
 exact key _ h
end
section
variable {x tl:Int} {u u' w:UT} {p:af} {v code:Int}
theorem aL.set {f:af→af} (h:aL w) (hf:∀ q,mc q≤1000000→mc (f q)≤1000000):aL (dJ v f w):=⟨λq hq=>by
 obtain ⟨z,hz,e⟩:=gl.1 hq;rw [← e];split
 . exact hf z (h.le z hz)
 . exact h.le z hz⟩
theorem aL.rm (h:aL w):aL (gf (λps=>uN ps v) w):=⟨λq hq=>h.le q (jy.1 hq).1⟩
theorem aL.opens {f:List ai→List ai} (h:aL w):aL (bu f w):=⟨h.le⟩
theorem aL.cA {f:List ah→List ah} (h:aL w):aL (gR f w):=⟨h.le⟩
theorem aL.files {f:List ah→List ah} (h:aL w):aL (lx f w):=⟨h.le⟩
theorem aL.ready {f:List Int→List Int} (h:aL w):aL (eJ f w):=⟨h.le⟩
theorem aL.outs (h:aL w):aL (SV v w):=⟨h.le⟩
theorem aL.spawn (h:aL w) (_:p∈bE u) (_:aL u):aL (oE p w):=⟨λq hq=>by
 rcases adE.1 hq with e|e
 . exact h.le q e
 . rw [aey.1 e]
   exact Int.zero_le_ofNat 1000000⟩
theorem aL.uW (h:aL w):aL (iU v w):=(h.set (f:=nQ 1 0) λ_ _=>Int.zero_le_ofNat 1000000).ready
theorem aL.block {s t:Int} (h:aL w) (ht:t≤1000000):aL (rF v s t w):=(h.set (f:=nQ s t) λ_ _=>ht).ready
theorem aL.pW {c:ah} (h:aL w):aL (B4 v c w):=h.set (f:=pX c) λ_ h=>h
theorem aL.told {c:ah} {y:Int} (h:aL w):aL (cG v c y w):=h.pW
theorem aL.Ti {c:ah} {y z:Int} (h:aL w):aL (iQ v c y z w):=h.pW
theorem aL.fold {α:Type} {f:UT→α→UT} (hf:∀ w y,aL w→aL (f w y)):∀ {a:List α} {w:UT},aL w→aL (a.foldl f w)
 |[],_,h=>h
 |y::a,w,h=>aL.fold hf (a:=a) (hf w y h)
theorem aL.wb {vs:List Int} (h:aL w):aL (gT vs w):=aL.fold (f:=λu v=>iU v u) (λ_ _ h=>h.uW) h
theorem aL.m2 {t:Int} (h:aL w):aL (fV t w):=h.wb
theorem aL.ite {c:Prop} [Decidable c] {a b:UT} (h:c→aL a) (k:¬ c→aL b):aL (if c then a else b):=by split<;>simp_all
theorem aL.close {k:Nat} (h:aL w):aL (kS v k w):=by unfold kS;(repeat' first|assumption|(intro _ h;exact h)|apply aL.m2|apply aL.set|apply aL.opens|apply aL.cA|refine aL.ite (λ_=> ?_) λ_=> ?_|split)
theorem aL.vV {k:Nat} (h:aL w):aL (cq v k w):=aL.fold (f:=ke v) (λw j h=>by
 unfold ke;split
 . exact h
 . split
   . exact h
   . exact h.close) h
theorem aL.kids {ks:List af} (h:aL w):aL (gE v ks w):=aL.fold (f:=qe v) (λw j h=>by unfold qe;(repeat' first|assumption|(intro _ h;exact h)|apply aL.set|apply aL.rm|refine aL.ite (λ_=> ?_) λ_=> ?_)) h
theorem aL.last (h:aL w):aL (Cc v code w):=by unfold Cc;(repeat' first|assumption|(intro _ _;exact Int.zero_le_ofNat 1000000)|apply aL.uW|apply aL.set|apply aL.rm|apply aL.ready|refine aL.ite (λ_=> ?_) λ_=> ?_|split)
theorem aL.drop (h:aL w):aL (mB v w):=h.set (f:=ly []) λ_ h=>h
theorem aL.ends (h:aL w):aL (iD v code w):=by
 unfold iD;exact h.vV.drop.kids.last
theorem aL.exit (h:aL w):aL (nY v code w):=by
 unfold nY;split
 . exact h
 . split
   . exact h.ends
   . exact h.uW.ends
theorem ZZ {k:Int} {o:ai} (h:YU p k u=some o):o∈eY u:=by
 unfold YU at h;split at h
 . split at h
   . split at h
     . exact nomatch h
     . exact (qf h).1
   . exact nomatch h
 . exact nomatch h
theorem aL.sys {c:ah} {k:Int} (h:aL u) (ho:∀ o∈eY u,o.1≤7) (hp:p∈bE u):aL (HY p c k u):=by
 have hq:∀ {k:Int} {o:ai},YU p k u=some o→o.1≤1000000:=λe=>by have:=ho _ (ZZ e);omega
 unfold HY BU BX B0 lv rG kj B9 uS mZ uT qd lA lz yB MW dup2 uR Ce qc B1 yE
 (repeat' first|assumption|(intro _ h;exact h)|(intro _ _;exact Int.zero_le_ofNat 1000000)|apply aL.told|apply aL.Ti|apply aL.pW|apply aL.block|apply aL.uW|apply aL.m2|apply aL.set|apply aL.rm|apply aL.opens|apply aL.cA|apply aL.files|apply aL.ready|apply aL.outs|apply aL.spawn|refine aL.ite (λ_=> ?_) λ_=> ?_|apply aL.exit|apply aL.close|exact hq ‹_› |split|omega)
theorem aL.run (h:aL u) (hR:gU u):aL (yI u):=by
 unfold yI;split
 . exact h
 split
 . exact h
 split
 . exact h
 . rename_i p e _ _ _
   have hp:=(qf e).1;have ho:∀ o∈eY u,o.1≤7:=λo ho=>(hR.op o ho).id.2;unfold Dm.Fh;split
   . exact h.exit
   split
   . exact h.sys ho hp
   split
   . exact h.pW.set λ_ h=>h
   . exact h.pW
theorem aL.anr (h:aL u):aL (vY u):=by
 unfold vY;split
 . exact h
 . have hN:aL (Ch u):=⟨h.le⟩
   unfold upU M6;split
   . exact hN.ready.wb
   . exact hN.wb
end
abbrev ans:=(t4×Unit)×(Unit×Unit)
def O2:t4×Unit→Out ans
|(a0,_)=> .get (Te (a0,())) λ((fC,_),_)=> .ret (((fC.1,fC.2.1,fC.2.2.1,fC.2.2.2.1,fC.2.2.2.2.1,fC.2.2.2.2.2.1,fC.2.2.2.2.2.2.1,fC.2.2.2.2.2.2.2.1,fC.2.2.2.2.2.2.2.2.1,()),()),((),()))
def aee (x:t4×Unit):=(O2 x).eval
def k83:bK:=dX 83 false [i4] [none] [i4] O2
theorem ahv:k83.Ok acl:=ck bR [] [] [ant] ⟨Z0,trivial⟩ (λ_=>none) Tryz.f83 [.cell 2 31] λx=>by kernel_rfl
abbrev anu:=(t4×Unit)×(Unit×Unit)
def O3:t4×Unit→Out anu
|(a0,_)=> .get (Th (a0,())) λ((fC,_),_)=> .ret (((fC.1,fC.2.1,fC.2.2.1,fC.2.2.2.1,fC.2.2.2.2.1,fC.2.2.2.2.2.1,fC.2.2.2.2.2.2.1,fC.2.2.2.2.2.2.2.1,fC.2.2.2.2.2.2.2.2.1,()),()),((),()))
def aef (x:t4×Unit):=(O3 x).eval
def k82:bK:=dX 82 false [i4] [none] [i4] O3
theorem ahw:k82.Ok acl:=ck bR [] [] [anv] ⟨Z1,trivial⟩ (λ_=>none) Tryz.f82 [.cell 2 31] λx=>by kernel_rfl
abbrev anw:=(t4×t10×Unit)×(Unit×Unit)
abbrev Uy:=(List (List ar)×Int×Unit)×bi
def CV:Uy→Out (Round Uy ((Unit)×bi) Empty)
|((p0,p1,_),(p2,p3,_),(p4,p5,_),p6,p7,p8,p9,bL,b8,cr,dc,cO,cn,cX,dz,dC,dP,_)=> .ite (decide (p1<((List.length p0:Nat):Int))) (.ite (decide (0≤p1)) (.get (nth p0 (Int.toNat p1)) λy1=> .ite (decide (List.length ([]:List ar)+List.length y1≤bn)) (.ite (decide (List.length dc+List.length ([(([]:List ar)++y1)]:List (List ar))≤bn)) (.ret (.again ((p0,(abs (p1+1)),()),((p2,p3,()),(p4,p5,()),p6,p7,p8,p9,bL,b8,cr,(dc++([(([]:List ar)++y1)]:List (List ar))),cO,cn,cX,dz,dC,dP,())))) .fail) .fail) .fail) (.ret (.out ((),((p2,p3,()),(p4,p5,()),p6,p7,p8,p9,bL,b8,cr,dc,cO,cn,cX,dz,dC,dP,()))))
def O4:t3×Unit→Out anw
|(a0,_)=> .ite (!(cH a0.1)) (.ret (((0,0,([]:List (List ar)),([]:List af),([]:List ai),([]:List ah),([]:List ah),([]:List Int),([]:List Int),()),(false,()),()),((),()))) (.get (aP CV aI ((a0.1,0,()),((0,0,()),(2,0,()),([]:List (List ar)),([]:List af),([]:List ai),([]:List ah),([]:List ah),([]:List Int),([]:List Int),([]:List (List ar)),([]:List af),([(0,1,0,0,2,())]:List ai),([]:List ah),([]:List ah),([(1:Int)]:List Int),([]:List Int),()))) λ(_,_,(Il,A2,_),_,_,_,_,_,_,_,A3,_,A4,wQ,A5,za,A6,_)=> .get (uu ((4,()),())) λ((cC,_),_)=> .get (uu ((4,()),())) λ((dW,_),_)=> .ret (((Il,A2,A3,([(1,0,1,0,(0,cC),dW.1,([0,0, -1,(-1:Int)]:List Int),0,0,())]:List af),A4,wQ,A5,za,A6,()),(true,()),()),((),())))
def aeg (x:t3×Unit):=(O4 x).eval
abbrev Uz:List (Nat×dT):=[(act, .var [.i .i64, .i .i64, .aR aig, .aR alH, .aR alI, .aR alK, .aR alQ, .aR alV, .aR ama]),(adc, .var [.i .i64, .i .i64, .aR amb, .aR amc, .aR amd, .aR ame, .aR amf, .aR amg, .aR amh]),(aig, .arr (.fz cT)),(alH, .arr mX),(alI, .arr eF),(alK, .arr dQ),(alQ, .arr dQ),(alV, .arr eG),(ama, .arr eG),(amb, .arr (.fz cT)),(amc, .arr mX),(amd, .arr eF),(ame, .arr dQ),(amf, .arr dQ),(amg, .arr eG),(amh, .arr eG)]
def anx:Nat→Option au:=λn=>bw [(0,⟨⟨[.ro (.fz cT) (some 0), .dead, .vptr act 0, .dead, .vptr adc 0, .i .i64]++dd 33,Uz⟩,⟨[.dead, .dead, .vptr act 0, .dead, .vptr adc 0]++dd 34,Uz⟩,none,false⟩)] n
def k80:bK:=dX 80 false [i3] [none] [i4,i10] O4
theorem ahx:k80.Ok acl:=ck bR [1800,2049] [(1800,1),(2049,1)] [Z2,k48] ⟨UA,Im,trivial⟩ anx Tryz.f80 [.cell 2 31, .tmp 3] λx=>by kernel_rfl
section
variable {x tl:Int} {u u' w:UT} {p:af} {l l':List ET} {β:Type} {n m:Nat} {v code:Int}
theorem gG {α:Type}:∀ (a acc:List α),a.foldl (λacc y=>acc++[y]) acc=acc++a
 |[],acc=>by simp
 |y::a,acc=>by rw [ae5,gG a];simp
theorem th {l:List ar} (h:bm l=true):l.length≤40:=adR (Bool.and_eq_true_iff.1 h).1
theorem Z3 {pg:List (List ar)} (h:cH pg=true):Nk ((pg,()),())=some (((pg,()),()),((),())):=by
 unfold cH at h;simp only [aa6,adS] at h;have hL:bn=68719476736:=rfl;have hB:cj=9223372036854775807:=rfl;have h1:=foldl_loop (f:=wR) (λ(acc:List (List ar)) i=>acc.length=i) (λacc y=>acc++[y]) pg
  (λacc i=>((pg,(i:Int),()),(acc,()))) (λacc=>((),(acc,()))) (λi hi acc ha=> ?_) (λacc _=> ?_) (λi hi acc ha=> ?_) (by omega) [] rfl
 . rw [gG,ad0] at h1
   show Out.eval (Nl _)=_;dsimp only [Nl];exact zG rfl h1
 . have hn:nth pg i=some pg[i]:=by grind
   have hw:abs ((i:Int)+1)=((i+1:Nat):Int):=aq (by omega);have hp:=th (adG.1 h.2 _ (ad9 hi));show Out.eval (wR _)=_;dsimp only [wR];simp only [adu,hw];refine zT ?_;refine zT ?_;refine zG ?_;refine zT ?_ (by grind);refine zT ?_ (by grind);rfl
 . simp_all [Out.eval,wR,zF]
 grind
theorem UB {pg:List (List ar)} (h:cH pg=true):Io ((pg,()),())=some (((pg,()),()),((),())):=by
 unfold cH at h;simp only [aa6,adS] at h;have hL:bn=68719476736:=rfl;have hB:cj=9223372036854775807:=rfl;have h1:=foldl_loop (f:=rY) (λ(acc:List (List ar)) i=>acc.length=i) (λacc y=>acc++[y]) pg
  (λacc i=>(((i:Int),()),(pg,acc,()))) (λacc=>((),(acc,()))) (λi hi acc ha=> ?_) (λacc _=> ?_) (λi hi acc ha=> ?_) (by omega) [] rfl
 . rw [gG,ad0] at h1
   show Out.eval (Bu _)=_;dsimp only [Bu];exact zG rfl h1
 . have hn:nth pg i=some pg[i]:=by grind
   have hw:abs ((i:Int)+1)=((i+1:Nat):Int):=aq (by omega);have hp:=th (adG.1 h.2 _ (ad9 hi));show Out.eval (rY _)=_;dsimp only [rY];simp only [adu,hw];refine zT ?_;refine zT ?_;refine zG ?_;refine zT ?_ (by grind);refine zT ?_ (by grind);rfl
 . simp_all [Out.eval,rY,zF]
 grind
theorem Gl (h:aQ x tl u) (hp:p∈bE u):gS p.1 p.2.1 p.2.2.1 p.2.2.2.1 p.2.2.2.2.1.1 p.2.2.2.2.1.2.1 p.2.2.2.2.2.1 p.2.2.2.2.2.2.1 p.2.2.2.2.2.2.2.1 p.2.2.2.2.2.2.2.2.1=some (p.1,p.2.1,p.2.2.1,p.2.2.2.1,p.2.2.2.2.1.1,p.2.2.2.2.1.2.1,p.2.2.2.2.2.1,p.2.2.2.2.2.2.1,p.2.2.2.2.2.2.2.1,p.2.2.2.2.2.2.2.2.1):=aaZ (by
 have hL:bn=68719476736:=rfl;have OH:=h.loc p hp;have a1:p.2.2.2.2.1.2.1.length=4:=(dt OH.pW).2.1;have a2:p.2.2.2.2.2.1.length≤12:=OH.mem.1;have a3:p.2.2.2.2.2.2.1.length=4:=OH.fds;omega)
theorem aru (h:aQ x tl u):anA (u,())=some ((u,()),((),())):=by
 have hL:bn=68719476736:=rfl;have hB:cj=9223372036854775807:=rfl;have qa:=oY h;have Sf:=vU h;have E9:=Ak h;have S6:=uw h;have Fa:=h.Fa.1;have QO:=h.np;have uY:=Z3 h.uY;have hpc:=λ(p:af) (hp:p∈bE u)=>Gl h hp;have hpd:=λ(y:ah) (hy:y∈nW u)=>(h.uv y hy).data.1;have JF:=λ(y:ah) (hy:y∈nT u)=>(lB h hy).1;obtain ⟨nx,tk,pg,ps,os,pi,fi,rd,ou,_⟩:=u;have qa:os.length≤1000:=by grind
 have Sf:pi.length≤1000:=by grind
 have E9:fi.length≤1000:=by grind
 have S6:rd.length≤6:=S6;have Fa:ou.length≤60:=Fa;have QO:ps.length≤6:=QO;have uY:Nk ((pg,()),())=some (((pg,()),()),((),())):=uY;have h0:=foldl_loop (f:=zb) (λ(acc:List af) i=>acc.length=i) (λacc y=>acc++[y]) ps
  (λacc i=>(((i:Int),()),((nx,tk,pg,ps,os,pi,fi,rd,ou,()),(0,0,()),(nx,tk,os,pi,fi,rd,ou,()),[],[],[],[],[],[],[],pg,acc,())))
  (λacc=>((),((nx,tk,pg,ps,os,pi,fi,rd,ou,()),(0,0,()),(nx,tk,os,pi,fi,rd,ou,()),[],[],[],[],[],[],[],pg,acc,()))) (λi hi acc ha=> ?_) (λacc _=> ?_) (λi hi acc ha=> ?_) (by omega) [] rfl
 . rw [gG,ad0] at h0
   have h2:=foldl_loop (f:=zc) (λ(acc:List ah) i=>acc.length=i) (λacc y=>acc++[y]) pi
    (λacc i=>(((i:Int),()),((nx,tk,pg,ps,os,pi,fi,rd,ou,()),(0,0,()),(nx,tk,fi,rd,ou,()),[],[],[],[],[],[],[],pg,ps,os,acc,())))
    (λacc=>((),((nx,tk,pg,ps,os,pi,fi,rd,ou,()),(0,0,()),(nx,tk,fi,rd,ou,()),[],[],[],[],[],[],[],pg,ps,os,acc,()))) (λi hi acc ha=> ?_) (λacc _=> ?_) (λi hi acc ha=> ?_) (by omega) [] rfl
   . rw [gG,ad0] at h2
     have h4:=foldl_loop (f:=zd) (λ(acc:List ah) i=>acc.length=i) (λacc y=>acc++[y]) fi
      (λacc i=>(((i:Int),()),((nx,tk,pg,ps,os,pi,fi,rd,ou,()),(0,0,()),(nx,tk,rd,ou,()),[],[],[],[],[],[],[],pg,ps,os,pi,acc,())))
      (λacc=>((),((nx,tk,pg,ps,os,pi,fi,rd,ou,()),(0,0,()),(nx,tk,rd,ou,()),[],[],[],[],[],[],[],pg,ps,os,pi,acc,()))) (λi hi acc ha=> ?_) (λacc _=> ?_) (λi hi acc ha=> ?_) (by omega) [] rfl
     . rw [gG,ad0] at h4
       show Out.eval (UC _)=_;dsimp only [UC];refine zG ?_ uY;refine zG ?_ h0;dsimp only;refine zT ?_ (aac (by simp only [adC];omega));refine zG ?_ h2;refine zG ?_ h4;dsimp only;refine zT ?_ (aac (by simp only [adC];omega));refine zT ?_ (aac (by simp only [adC];omega));rfl
     . have hn:nth fi i=some fi[i]:=aa7 hi
       have hw:abs ((i:Int)+1)=((i+1:Nat):Int):=aq (by omega);have hd:=JF _ (ad9 hi);show Out.eval (zd _)=_;dsimp only [zd];simp only [adu,hw];refine zT ?_;refine zT ?_;refine zG ?_;refine zT ?_;refine zG ?_;refine zT ?_ (aac (by simp only [adC];omega));refine zT ?_ (aac (by simp only [aay,adC];omega));rfl
     . show Out.eval (zd _)=_
       dsimp only [zd];refine zF ?_;rfl
     . rw [aaY,ha];rfl
   . have hn:nth pi i=some pi[i]:=aa7 hi
     have hw:abs ((i:Int)+1)=((i+1:Nat):Int):=aq (by omega);have hd:=hpd _ (ad9 hi);show Out.eval (zc _)=_;dsimp only [zc];simp only [adu,hw];refine zT ?_;refine zT ?_;refine zG ?_;refine zT ?_;refine zG ?_;refine zT ?_ (aac (by simp only [adC];omega));refine zT ?_ (aac (by simp only [aay,adC];omega));rfl
   . show Out.eval (zc _)=_
     dsimp only [zc];refine zF ?_;rfl
   . rw [aaY,ha];rfl
 . have hn:nth ps i=some ps[i]:=aa7 hi
   have hw:abs ((i:Int)+1)=((i+1:Nat):Int):=aq (by omega);have hc:=hpc _ (ad9 hi);show Out.eval (zb _)=_;dsimp only [zb];simp only [adu,hw];refine zT ?_;refine zT ?_;refine zG ?_;refine zG ?_ hc;refine zT ?_ (aac (by simp only [aay,adC];omega));rfl
 . show Out.eval (zb _)=_
   dsimp only [zb];refine zF ?_;rfl
 . rw [aaY,ha];rfl
theorem Z4 (h:aQ x tl u):UD (u,())=some ((u,()),((),())):=by
 have hL:bn=68719476736:=rfl;have hB:cj=9223372036854775807:=rfl;have qa:=oY h;have Sf:=vU h;have E9:=Ak h;have S6:=uw h;have Fa:=h.Fa.1;have QO:=h.np;have uY:=UB h.uY;have hpc:=λ(p:af) (hp:p∈bE u)=>Gl h hp;have hpd:=λ(y:ah) (hy:y∈nW u)=>(h.uv y hy).data.1;have JF:=λ(y:ah) (hy:y∈nT u)=>(lB h hy).1;obtain ⟨nx,tk,pg,ps,os,pi,fi,rd,ou,_⟩:=u;have qa:os.length≤1000:=by grind
 have Sf:pi.length≤1000:=by grind
 have E9:fi.length≤1000:=by grind
 have S6:rd.length≤6:=S6;have Fa:ou.length≤60:=Fa;have QO:ps.length≤6:=QO;have uY:Io ((pg,()),())=some (((pg,()),()),((),())):=uY;have h0:=foldl_loop (f:=ti) (λ(acc:List af) i=>acc.length=i) (λacc y=>acc++[y]) ps
  (λacc i=>(((i:Int),()),((nx,tk,()),(0,0,()),(nx,tk,()),ps,os,pi,fi,rd,ou,[],[],[],[],[],[],[],pg,acc,())))
  (λacc=>((),((nx,tk,()),(0,0,()),(nx,tk,()),ps,os,pi,fi,rd,ou,[],[],[],[],[],[],[],pg,acc,()))) (λi hi acc ha=> ?_) (λacc _=> ?_) (λi hi acc ha=> ?_) (by omega) [] rfl
 . rw [gG,ad0] at h0
   have h2:=foldl_loop (f:=tj) (λ(acc:List ah) i=>acc.length=i) (λacc y=>acc++[y]) pi
    (λacc i=>(((i:Int),()),((nx,tk,()),(0,0,()),(nx,tk,()),ps,os,pi,fi,rd,ou,[],[],[],[],[],[],[],pg,ps,os,acc,())))
    (λacc=>((),((nx,tk,()),(0,0,()),(nx,tk,()),ps,os,pi,fi,rd,ou,[],[],[],[],[],[],[],pg,ps,os,acc,()))) (λi hi acc ha=> ?_) (λacc _=> ?_) (λi hi acc ha=> ?_) (by omega) [] rfl
   . rw [gG,ad0] at h2
     have h4:=foldl_loop (f:=tn) (λ(acc:List ah) i=>acc.length=i) (λacc y=>acc++[y]) fi
      (λacc i=>(((i:Int),()),((nx,tk,()),(0,0,()),(nx,tk,()),ps,os,pi,fi,rd,ou,[],[],[],[],[],[],[],pg,ps,os,pi,acc,())))
      (λacc=>((),((nx,tk,()),(0,0,()),(nx,tk,()),ps,os,pi,fi,rd,ou,[],[],[],[],[],[],[],pg,ps,os,pi,acc,()))) (λi hi acc ha=> ?_) (λacc _=> ?_) (λi hi acc ha=> ?_) (by omega) [] rfl
     . rw [gG,ad0] at h4
       show Out.eval (Ip _)=_;dsimp only [Ip];refine zG ?_ uY;refine zG ?_ h0;dsimp only;refine zT ?_ (aac (by simp only [adC];omega));refine zG ?_ h2;refine zG ?_ h4;dsimp only;refine zT ?_ (aac (by simp only [adC];omega));refine zT ?_ (aac (by simp only [adC];omega));rfl
     . have hn:nth fi i=some fi[i]:=aa7 hi
       have hw:abs ((i:Int)+1)=((i+1:Nat):Int):=aq (by omega);have hd:=JF _ (ad9 hi);show Out.eval (tn _)=_;dsimp only [tn];simp only [adu,hw];refine zT ?_;refine zT ?_;refine zG ?_;refine zT ?_;refine zG ?_;refine zT ?_ (aac (by simp only [adC];omega));refine zT ?_ (aac (by simp only [aay,adC];omega));rfl
     . show Out.eval (tn _)=_
       dsimp only [tn];refine zF ?_;rfl
     . rw [aaY,ha];rfl
   . have hn:nth pi i=some pi[i]:=aa7 hi
     have hw:abs ((i:Int)+1)=((i+1:Nat):Int):=aq (by omega);have hd:=hpd _ (ad9 hi);show Out.eval (tj _)=_;dsimp only [tj];simp only [adu,hw];refine zT ?_;refine zT ?_;refine zG ?_;refine zT ?_;refine zG ?_;refine zT ?_ (aac (by simp only [adC];omega));refine zT ?_ (aac (by simp only [aay,adC];omega));rfl
   . show Out.eval (tj _)=_
     dsimp only [tj];refine zF ?_;rfl
   . rw [aaY,ha];rfl
 . have hn:nth ps i=some ps[i]:=aa7 hi
   have hw:abs ((i:Int)+1)=((i+1:Nat):Int):=aq (by omega);have hc:=hpc _ (ad9 hi);show Out.eval (ti _)=_;dsimp only [ti];simp only [adu,hw];refine zT ?_;refine zT ?_;refine zG ?_;refine zG ?_ hc;refine zT ?_ (aac (by simp only [aay,adC];omega));rw [jT (show ps[i]? =some ps[i] from hn)];rfl
 . show Out.eval (ti _)=_
   dsimp only [ti];refine zF ?_;rfl
 . rw [aaY,ha];rfl
abbrev Un (r:UT):Option ((UT×Unit)×(Unit×Unit)):=some ((r,()),((),()))
theorem ahy (h:aQ 0 tl u):aee (u,())=Un (yI u):=by
 obtain ⟨l',z,e,_⟩:=amU h;show Out.eval (O2 _)=_;dsimp only [O2];exact zG rfl e
theorem Z5 (h:gU u):aef (u,())=Un (vY u):=by
 obtain ⟨l',z,e,_⟩:=agC h;show Out.eval (O3 _)=_;dsimp only [O3];exact zG rfl e
abbrev anB:UT:=(0,0,[],[],[],[],[],[],[],())
open Classical in
open Classical in
def KK (pg:List (List ar)):UT:=(2,0,pg,[(1,0,1,0,(0,[0,0,0,0],()),[0,0,0,0],[0,0, -1, -1],0,0,())],[(0,1,0,0,2,())],[],[],[1],[],())
theorem ahz {pg:List (List ar)} (h:cH pg=true):gU (KK pg):=by
 refine yL.1 ?_;have h':=h;unfold cH at h;simp only [aa6,adS] at h;show cw 2 0 pg [(1,0,1,0,(0,[0,0,0,0],()),[0,0,0,0],[0,0, -1, -1],0,0,())] [(0,1,0,0,2,())] [] [] [1] []=true;unfold cw;rw [h'];have h1:=h.1.1;have h4:=h.1.2;generalize List.length pg=n at h1 h4 ⊢;have hn:n=1∨n=2∨n=3∨n=4:=by omega
 rcases hn with rfl|rfl|rfl|rfl<;>decide
theorem ahA {pg:List (List ar)}:aeg ((pg,()),())=some (if cH pg=true then ((KK pg,(true,()),()),((),())) else ((anB,(false,()),()),((),()))):=by
 have hL:bn=68719476736:=rfl;have hB:cj=9223372036854775807:=rfl;show Out.eval (O4 _)=_;dsimp only [O4];by_cases h:cH pg=true
 case neg=>
  rw [aae h];exact zT rfl (by grind)
 rw [aaZ h];refine zF ?_ (by rw [h];rfl);unfold cH at h;simp only [aa6,adS] at h;have h1:=foldl_loop (f:=CV) (λ(acc:List (List ar)) i=>acc.length=i) (λacc y=>acc++[y]) pg
  (λacc i=>((pg,(i:Int),()),((0,0,()),(2,0,()),[],[],[],[],[],[],[],acc,[],[(0,1,0,0,2,())],[],[],[1],[],())))
  (λacc=>((),((0,0,()),(2,0,()),[],[],[],[],[],[],[],acc,[],[(0,1,0,0,2,())],[],[],[1],[],()))) (λi hi acc ha=> ?_) (λacc _=> ?_) (λi hi acc ha=> ?_) (by omega) [] rfl
 . rw [gG,ad0] at h1
   have hz:uu ((4,()),())=some ((([0,0,0,0],()),()),((),())):=rfl;refine zG ?_ h1;refine zG ?_ hz;exact zG rfl hz
 . have hn:nth pg i=some pg[i]:=by grind
   have hw:abs ((i:Int)+1)=((i+1:Nat):Int):=aq (by omega);have hp:=th (adG.1 h.2 _ (ad9 hi));show Out.eval (CV _)=_;dsimp only [CV];simp only [adu,hw];refine zT ?_;refine zT ?_;refine zG ?_;refine zT ?_ (by grind);refine zT ?_ (by grind);rfl
 . simp_all [Out.eval,CV,zF]
 grind
end
section
open Go Go.ChangeShapes Go.WideShapes Go.ChangeAt Go.RowKit
end
def iq {ρ:Type} (o:Option ρ) (Q:ρ→Prop):Prop:=∃ y,o=some y∧Q y
theorem aX {ρ:Type} {r:ρ} {Q:ρ→Prop} (h:Q r):iq (Out.ret r).eval Q:=⟨r,rfl,h⟩
theorem bx {ρ:Type} {c:Bool} {a b:Out ρ} {Q:ρ→Prop} (ha:c=true→iq a.eval Q) (hb:c=false→iq b.eval Q):iq (Out.ite c a b).eval Q:=by
 cases c
 . exact hb rfl
 . exact ha rfl
theorem dB {ρ:Type} {c:Bool} {a b:Out ρ} {Q:ρ→Prop} (hc:c=true) (ha:iq a.eval Q):iq (Out.ite c a b).eval Q:=by subst hc;exact ha
theorem pb {ρ:Type} {c:Bool} {a b:Out ρ} {Q:ρ→Prop} (hc:c=false) (hb:iq b.eval Q):iq (Out.ite c a b).eval Q:=by subst hc;exact hb
theorem aS {ρ α:Type} {o:Option α} {k:α→Out ρ} {P:α→Prop} {Q:ρ→Prop} (h:iq o P) (hk:∀ y,P y→iq (k y).eval Q):iq (Out.get o k).eval Q:=by
 obtain ⟨y,rfl,p⟩:=h;exact hk y p
def UE {α β γ:Type} (I:α→Prop) (O:β→Prop) (R:γ→Prop):Round α β γ→Prop
 | .again x=>I x
 | .out y=>O y
 | .ret z=>R z
theorem mP {α β:Type} {f:α→Out (Round α β Empty)} (I:α→Prop) (m:α→Nat) (O:β→Prop) (h:∀ x,I x→iq (f x).eval (UE (λx'=>I x'∧m x'<m x) O λ_=>False)):
  ∀ (n:Nat) (x:α),I x→m x<n→iq (aP f n x) O
 |0,x,_,hn=>absurd hn (Nat.not_lt_zero _)
 |n+1,x,hx,hn=>by
  obtain ⟨r,e,hr⟩:=h x hx;cases r with
  |again x'=>rw [ie e];exact mP I m O h n x' hr.1 (by have:=hr.2;omega)
  |out y=>exact ⟨y,gF e (by omega),hr⟩
  |ret z=>exact z.elim
theorem CW (z:Int) {b:Nat} (hb:b≤cj):0≤abs (((BitVec.ofInt (IntKind.bits .i64) z &&& BitVec.ofInt (IntKind.bits .i64) ((b:Nat):Int)).toNat:Nat):Int)∧abs (((BitVec.ofInt (IntKind.bits .i64) z &&& BitVec.ofInt (IntKind.bits .i64) ((b:Nat):Int)).toNat:Nat):Int)≤b:=by
 have h:(BitVec.ofInt 64 z &&& BitVec.ofInt 64 ((b:Nat):Int)).toNat≤b:=by
  rw [BitVec.toNat_and,tp,BitVec.toNat_ofNat,alC (afb hb (by decide))];exact Nat.and_le_right
 have e:abs (((BitVec.ofInt (IntKind.bits .i64) z &&& BitVec.ofInt (IntKind.bits .i64) ((b:Nat):Int)).toNat:Nat):Int)=_:=ng (adQ h hb);rw [e];have h:(BitVec.ofInt (IntKind.bits .i64) z &&& BitVec.ofInt (IntKind.bits .i64) ((b:Nat):Int)).toNat≤b:=h;omega
abbrev UF:=wd×(Unit)
def UG:UF→Out (Round UF ((List (Int)×Int×Unit)×(Unit)) Empty)
|((p0,p1,p2,_),_)=> .ite ((decide (p2<((List.length p0:Nat):Int)))==true) (.ite (decide (p2<(4000:Int))) (.ite (decide (0≤p2)) (.get (nth p0 (Int.toNat p2)) λy1=> .ret (.again ((p0,(abs (((BitVec.ofInt (IntKind.bits IntKind.i64) (abs ((abs ((abs (p1*(131:Int)))+(abs y1)))+(7:Int))) &&& BitVec.ofInt (IntKind.bits IntKind.i64) (1073741823:Int)).toNat:Int))),(abs (p2+(1:Int))),()),()))) .fail) (.ret (.out ((p0,p1,()),())))) (.ret (.out ((p0,p1,()),())))
def CX (a0:List Int):Out ((XE×Unit)×(Unit×Unit)):= .get (aP UG aI ((a0,(abs ((10101:Int)+((List.length a0:Nat):Int))),(0:Int),()),())) λy1=> .ret (((y1.1.1,(0:Int),y1.1.2.1,()),()),((),()))
def anC:Nat→Option au:=λn=>bw [(0,⟨⟨[.ro (.int .u8) (some 0), .dead, .dead, .i .i64, .i .i64]++dd 27,[]⟩,⟨[.ro (.int .u8) (some 0), .dead, .dead, .i .i64]++dd 28,[]⟩,none,false⟩)] n
def KL:=λa0=>(CX a0).eval
def k12:bK:={ f:=12,lend:=false,aF:=[GE],lay:=[none],rs:=[Do],F:=λx=> .get (KL x.1.1) λy=> .ret y }
theorem ahB (x:aw k12.aF):bo [] anC Tryz.f12 k12 [.tmp 2] x=CX x.1.1:=by kernel_rfl
theorem UH:k12.Ok acl:=aD [] trivial ahB λ_ _ _ hy=>(dv _).symm.trans hy
theorem CZ {b:List Int} (hb:b.length≤cj):iq (KL b) λy=>y.1.1.1=b∧y.1.1.2.1=0:=by
 unfold KL CX;refine aS (P:=λy=>y.1.1=b) (mP (λx=>x.1.1=b∧0≤x.1.2.2.1∧x.1.2.2.1≤(b.length:Int)) (λx=>(b.length - x.1.2.2.1.toNat)) _ (λx hx=> ?_) _ _ ⟨rfl,by simp,by simp⟩ (by simp;exact ij hb)) λy hy=>aX ⟨hy,rfl⟩;obtain ⟨⟨l,h,i,_⟩,_⟩:=x;obtain ⟨e1,h1,h2⟩:=hx;simp only at e1 h1 h2;subst e1;unfold UG;refine bx (λh3=> ?_) (λ_=>aX rfl);have h3:i<(l.length:Int):=adR (by simpa using h3);refine bx (λ_=> ?_) (λ_=>aX rfl);refine dB (aac h1) (aS (P:=λ_=>True) ⟨_,aa7 (show i.toNat<l.length by omega),trivial⟩ λy _=>aX ?_);have w:abs (i+1)=i+1:=bt (by omega) (by unfold cj at hb;omega);exact ⟨⟨rfl,by simp only [w];omega,by simp only [w];omega⟩,by simp only [w];omega⟩
def C3 (a0:List Int) (a1 a2:Int):Out (((Int×Unit)×Unit)×((Int×Int×Unit)×Unit)):= .ite (decide ((33:Int)<0)) .fail (.ite (decide ((45:Int)<0)) .fail (.ite (decide (a1<((List.length a0:Nat):Int))) (.ite (decide (0≤a1)) (.get (nth a0 (Int.toNat a1)) λy1=> .ret ((((abs (((BitVec.ofInt (IntKind.bits IntKind.i64) (abs ((abs (((BitVec.ofInt (IntKind.bits IntKind.i64) (abs (((BitVec.ofInt (IntKind.bits IntKind.i64) (Int.fdiv (abs ((abs (a2*(6364136223846793005:Int)))+(1442695040888963407:Int))) (2 ^ (min (Int.toNat (33:Int)) (IntKind.bits IntKind.i64)))) ^^^ BitVec.ofInt (IntKind.bits IntKind.i64) (Int.fdiv (abs ((abs (a2*(6364136223846793005:Int)))+(1442695040888963407:Int))) (2 ^ (min (Int.toNat (45:Int)) (IntKind.bits IntKind.i64))))).toNat:Int))) &&& BitVec.ofInt (IntKind.bits IntKind.i64) (255:Int)).toNat:Int)))+(abs y1))) &&& BitVec.ofInt (IntKind.bits IntKind.i64) (255:Int)).toNat:Int))),()),()),(((abs (a1+(1:Int))),(abs ((abs (a2*(6364136223846793005:Int)))+(1442695040888963407:Int))),()),()))) .fail) (.ret ((((abs (((BitVec.ofInt (IntKind.bits IntKind.i64) (abs (((BitVec.ofInt (IntKind.bits IntKind.i64) (Int.fdiv (abs ((abs (a2*(6364136223846793005:Int)))+(1442695040888963407:Int))) (2 ^ (min (Int.toNat (33:Int)) (IntKind.bits IntKind.i64)))) ^^^ BitVec.ofInt (IntKind.bits IntKind.i64) (Int.fdiv (abs ((abs (a2*(6364136223846793005:Int)))+(1442695040888963407:Int))) (2 ^ (min (Int.toNat (45:Int)) (IntKind.bits IntKind.i64))))).toNat:Int))) &&& BitVec.ofInt (IntKind.bits IntKind.i64) (255:Int)).toNat:Int))),()),()),((a1,(abs ((abs (a2*(6364136223846793005:Int)))+(1442695040888963407:Int))),()),())))))
def uB:=λa0 a1 a2=>(C3 a0 a1 a2).eval
def Z6:bK:={ f:=86,lend:=true,aF:=[Do],lay:=[none],rs:=[wl],F:=λx=> .get (uB x.1.1 x.1.2.1 x.1.2.2.1) λy=> .ret y }
theorem ahC (x:aw Z6.aF):bo [] (λ_=>none) Tryz.f86 Z6 [.tmp 2] x=C3 x.1.1 x.1.2.1 x.1.2.2.1:=by kernel_rfl
theorem Nn:Z6.Ok acl:=aD [] trivial ahC λ_ _ _ hy=>(dv _).symm.trans hy
theorem ni {b:List Int} {i h:Int} (hb:b.length≤cj) (hi:0≤i):iq (uB b i h) λy=>(0≤y.1.1.1∧y.1.1.1≤255)∧0≤y.2.1.1:=by
 unfold uB C3;refine pb rfl (pb rfl (bx (λh1=> ?_) λ_=>aX ?_))
 . have h1:i<(b.length:Int):=adR h1
   refine dB (aac hi) (aS (P:=λ_=>True) ⟨_,aa7 (show i.toNat<b.length by omega),trivial⟩ λy _=>aX ?_);refine ⟨CW _ (b:=255) (by decide), ?_⟩
   . show 0≤abs (i+1)
     rw [bt (by omega) (by unfold cj at hb;omega)];omega
 . exact ⟨CW _ (b:=255) (by decide),hi⟩
def C4 (a0:List Int) (a1 a2 a3:Int):Out (((Int×Unit)×Unit)×rc):= .ite (decide (a3≤(0:Int))) (.ret ((((0:Int),()),()),((a1,a2,()),(),()))) (.ite (decide (a3≤(256:Int))) (.get (uB a0 a1 a2) λy1=> .ite (a3==0) .fail (.ret ((((Int.tmod y1.1.1.1 a3),()),()),((y1.2.1.1,y1.2.1.2.1,()),(),())))) (.get (uB a0 a1 a2) λy2=> .get (uB a0 y2.2.1.1 y2.2.1.2.1) λy3=> .get (uB a0 y3.2.1.1 y3.2.1.2.1) λy4=> .get (uB a0 y4.2.1.1 y4.2.1.2.1) λy5=> .ite (a3==0) .fail (.ret ((((Int.tmod (abs ((abs ((abs ((abs (y2.1.1.1*(16777216:Int)))+(abs (y3.1.1.1*(65536:Int)))))+(abs (y4.1.1.1*(256:Int)))))+y5.1.1.1)) a3),()),()),((y5.2.1.1,y5.2.1.2.1,()),(),())))))
def ff:=λa0 a1 a2 a3=>(C4 a0 a1 a2 a3).eval
def MD:bK:={ f:=46,lend:=true,aF:=[Do,wl],lay:=[none,none],rs:=[wl],F:=λx=> .get (ff x.1.1 x.1.2.1 x.1.2.2.1 x.2.1.1) λy=> .ret y }
theorem ahD (x:aw MD.aF):bo [Z6] (λ_=>none) Tryz.f46 MD [.tmp 4] x=C4 x.1.1 x.1.2.1 x.1.2.2.1 x.2.1.1:=by kernel_rfl
theorem qo:MD.Ok acl:=aD [Z6] ⟨Nn,trivial⟩ ahD λ_ _ _ hy=>(dv _).symm.trans hy
theorem Ar {x n:Int} (hx:0≤x) (hn:0<n):0≤Int.tmod x n∧Int.tmod x n<n:=⟨Int.tmod_nonneg _ hx,Int.tmod_lt_of_pos _ hn⟩
theorem bI {b:List Int} {i h n:Int} (hb:b.length≤cj) (hi:0≤i):iq (ff b i h n) λy=>(0≤y.1.1.1∧(0<n→y.1.1.1<n)∧(n≤0→y.1.1.1=0))∧0≤y.2.1.1:=by
 unfold ff C4;refine bx (λh1=>aX ?_) λh1=> ?_
 . exact ⟨⟨afK _,λh=>by omega,λ_=>rfl⟩,hi⟩
 have h1:=akZ h1;have hz:(n==0)=false:=by simp;omega
 refine bx (λh2=>aS (ni hb hi) λy hy=>pb hz (aX ?_)) λh2=> ?_
 . have:=Ar hy.1.1 (show 0<n by omega)
   exact ⟨⟨this.1,λ_=>this.2,λh=>by omega⟩,hy.2⟩
 . refine aS (ni hb hi) λy hy=>aS (ni hb hy.2) λz F7=>aS (ni hb F7.2) λu hu=>aS (ni hb hu.2) λv hv=>pb hz (aX ?_)
   have e4:=hv.1;have w1:abs (y.1.1.1*16777216)=y.1.1.1*16777216:=bt (by omega) (by omega);have w2:abs (z.1.1.1*65536)=z.1.1.1*65536:=bt (by omega) (by omega);have w3:abs (u.1.1.1*256)=u.1.1.1*256:=bt (by omega) (by omega);have w4:abs (y.1.1.1*16777216+z.1.1.1*65536)=y.1.1.1*16777216+z.1.1.1*65536:=bt (by omega) (by omega);have w5:abs (y.1.1.1*16777216+z.1.1.1*65536+u.1.1.1*256)=y.1.1.1*16777216+z.1.1.1*65536+u.1.1.1*256:=bt (by omega) (by omega);have w6:abs (y.1.1.1*16777216+z.1.1.1*65536+u.1.1.1*256+v.1.1.1)=y.1.1.1*16777216+z.1.1.1*65536+u.1.1.1*256+v.1.1.1:=bt (by omega) (by omega);have:=Ar (show 0≤y.1.1.1*16777216+z.1.1.1*65536+u.1.1.1*256+v.1.1.1 by omega) (show 0<n by omega);simp only [w1,w2,w3,w4,w5,w6];exact ⟨⟨this.1,λ_=>this.2,λh=>by omega⟩,hv.2⟩
def C5 (a0:List Int) (a1 a2 a3:Int):Out (((Bool×Unit)×Unit)×rc):= .get (ff a0 a1 a2 a3) λy1=> .ret (((((y1.1.1.1==(0:Int))),()),()),((y1.2.1.1,y1.2.1.2.1,()),(),()))
def Gm:=λa0 a1 a2 a3=>(C5 a0 a1 a2 a3).eval
def k37:bK:={ f:=37,lend:=true,aF:=[Do,wl],lay:=[none,none],rs:=[wn],F:=λx=> .get (Gm x.1.1 x.1.2.1 x.1.2.2.1 x.2.1.1) λy=> .ret y }
theorem ahE (x:aw k37.aF):bo [MD] (λ_=>none) Tryz.f37 k37 [.tmp 4] x=C5 x.1.1 x.1.2.1 x.1.2.2.1 x.2.1.1:=by kernel_rfl
theorem No:k37.Ok acl:=aD [MD] ⟨qo,trivial⟩ ahE λ_ _ _ hy=>(dv _).symm.trans hy
theorem C6 {b:List Int} {i h n:Int} (hb:b.length≤cj) (hi:0≤i):iq (Gm b i h n) λy=>0≤y.2.1.1:=by
 unfold Gm C5;exact aS (bI hb hi) λy hy=>aX hy.2
def C7 (a0:List Int) (a1 a2:Int) (a3:List Int):Out (((Int×Unit)×Unit)×rc):= .get (ff a0 a1 a2 ((List.length a3:Nat):Int)) λy1=> .ite (decide (0≤y1.1.1.1)) (.get (nth a3 (Int.toNat y1.1.1.1)) λy2=> .ret (((y2,()),()),((y1.2.1.1,y1.2.1.2.1,()),(),()))) .fail
def uC:=λa0 a1 a2 a3=>(C7 a0 a1 a2 a3).eval
def k47:bK:={ f:=47,lend:=true,aF:=[Do,ww],lay:=[none,none],rs:=[wl],F:=λx=> .get (uC x.1.1 x.1.2.1 x.1.2.2.1 x.2.1.1) λy=> .ret y }
theorem ahF (x:aw k47.aF):bo [MD] (λ_=>none) Tryz.f47 k47 [.tmp 4] x=C7 x.1.1 x.1.2.1 x.1.2.2.1 x.2.1.1:=by kernel_rfl
theorem UI:k47.Ok acl:=aD [MD] ⟨qo,trivial⟩ ahF λ_ _ _ hy=>(dv _).symm.trans hy
theorem nj {b:List Int} {i h:Int} {l:List Int} (hb:b.length≤cj) (hi:0≤i) (hl:0<l.length):iq (uC b i h l) λy=>y.1.1.1∈l∧0≤y.2.1.1:=by
 unfold uC C7;refine aS (bI hb hi) λy hy=> ?_;have h1:=hy.1.1;have h2:=hy.1.2.1 (by omega);refine dB (aac h1) (aS (P:=λx=>x∈l) ⟨_,aa7 (show y.1.1.1.toNat<l.length by omega),ad9 _⟩ λx hx=>aX ⟨hx,hy.2⟩)
def C8 (a0:List Int) (a1:Int):Out (((Int×Unit)×Unit)×XI):= .ite ((20:Int)==0) .fail (.ite (decide ((abs ((2:Int)+(abs (Int.tdiv ((List.length a0:Nat):Int) (20:Int)))))>a1)) (.ret (((a1,()),()),((),(),()))) (.ret ((((abs ((2:Int)+(abs (Int.tdiv ((List.length a0:Nat):Int) (20:Int))))),()),()),((),(),()))))
def KM:=λa0 a1=>(C8 a0 a1).eval
def k14:bK:={ f:=14,lend:=true,aF:=[GE,wl],lay:=[none,none],rs:=[wl],F:=λx=> .get (KM x.1.1 x.2.1.1) λy=> .ret y }
theorem ahG (x:aw k14.aF):bo [] (λ_=>none) Tryz.f14 k14 [.tmp 4] x=C8 x.1.1 x.2.1.1:=by kernel_rfl
theorem UJ:k14.Ok acl:=aD [] trivial ahG λ_ _ _ hy=>(dv _).symm.trans hy
theorem KN {b:List Int} {n:Int} (_:b.length≤cj):iq (KM b n) λy=>y.1.1.1≤n:=by
 unfold KM C8;refine pb rfl (bx (λh=>aX (afK _)) λh=>aX ?_);have:=akZ h;show abs _≤n;omega
abbrev UK:=(Int×Int×Unit)×(wd×List (Int)×Unit)
def UL:UK→Out (Round UK ((Unit)×(List (Int)×wd×Unit)) Empty)
|((p0,p1,_),(p2,p3,p4,_),p5,_)=> .ite (decide (p1>(0:Int))) (.get (uB p2 p3 p4) λy1=> .ite ((p0==(1:Int))) (.ite ((2:Int)==0) .fail (.ite ((p0==(2:Int))) (.ite ((4:Int)==0) .fail (.ite (decide (List.length p5+List.length ([(IntKind.u8.wrap (abs ((97:Int)+(Int.tmod (Int.tmod y1.1.1.1 (2:Int)) (4:Int)))))]:List (Int))≤bn)) (.ret (.again ((p0,(abs (p1 - (1:Int))),()),((p2,y1.2.1.1,y1.2.1.2.1,()),(p5++([(IntKind.u8.wrap (abs ((97:Int)+(Int.tmod (Int.tmod y1.1.1.1 (2:Int)) (4:Int)))))]:List (Int))),())))) .fail)) (.ite (decide (List.length p5+List.length ([(IntKind.u8.wrap (Int.tmod y1.1.1.1 (2:Int)))]:List (Int))≤bn)) (.ret (.again ((p0,(abs (p1 - (1:Int))),()),((p2,y1.2.1.1,y1.2.1.2.1,()),(p5++([(IntKind.u8.wrap (Int.tmod y1.1.1.1 (2:Int)))]:List (Int))),())))) .fail))) (.ite ((p0==(2:Int))) (.ite ((4:Int)==0) .fail (.ite (decide (List.length p5+List.length ([(IntKind.u8.wrap (abs ((97:Int)+(Int.tmod y1.1.1.1 (4:Int)))))]:List (Int))≤bn)) (.ret (.again ((p0,(abs (p1 - (1:Int))),()),((p2,y1.2.1.1,y1.2.1.2.1,()),(p5++([(IntKind.u8.wrap (abs ((97:Int)+(Int.tmod y1.1.1.1 (4:Int)))))]:List (Int))),())))) .fail)) (.ite (decide (List.length p5+List.length ([(IntKind.u8.wrap y1.1.1.1)]:List (Int))≤bn)) (.ret (.again ((p0,(abs (p1 - (1:Int))),()),((p2,y1.2.1.1,y1.2.1.2.1,()),(p5++([(IntKind.u8.wrap y1.1.1.1)]:List (Int))),())))) .fail))) (.ret (.out ((),(p5,(p2,p3,p4,()),()))))
def C9 (a0:List Int) (a1 a2 a3:Int):Out (((List UInt8×Unit)×Unit)×rc):= .get (ff a0 a1 a2 (4:Int)) λy1=> .get (ff a0 y1.2.1.1 y1.2.1.2.1 (abs (a3+(1:Int)))) λy2=> .get (aP UL aI ((y1.1.1.1,y2.1.1.1,()),((a0,y2.2.1.1,y2.2.1.2.1,()),([]:List (Int)),()))) λy3=> .ret ((((List.map (λn:Int=>UInt8.ofNat n.toNat) y3.2.1),()),()),((y3.2.2.1.2.1,y3.2.2.1.2.2.1,()),(),()))
def anG:Nat→Option au:=λn=>bw [(0,⟨⟨[.vptr 0 0]++dd 4++[.aR act, .i .i64, .i .i64]++dd 30,[(0, .var [.ro (.int .u8) (some 1), .i .i64, .i .i64]),(act, .arr (.int .u8))]⟩,⟨[.vptr 0 0]++dd 4++[.aR act]++dd 32,[(act, .arr (.int .u8)),(0, .var [.ro (.int .u8) (some 1), .i .i64, .i .i64])]⟩,none,false⟩)] n
def O5:=λa0 a1 a2 a3=>(C9 a0 a1 a2 a3).eval
def k85:bK:={ f:=85,lend:=true,aF:=[Do,wl],lay:=[none,none],rs:=[wr],F:=λx=> .get (O5 x.1.1 x.1.2.1 x.1.2.2.1 x.2.1.1) λy=> .ret y }
theorem ahH (x:aw k85.aF):bo [MD,Z6] anG Tryz.f85 k85 [.tmp 4] x=C9 x.1.1 x.1.2.1 x.1.2.2.1 x.2.1.1:=by kernel_rfl
theorem ahI:k85.Ok acl:=aD [MD,Z6] ⟨qo,Nn,trivial⟩ ahH λ_ _ _ hy=>(dv _).symm.trans hy
theorem UM {b:List Int} {i h:Int} {n:Nat} (hb:b.length≤cj) (hi:0≤i) (hn:n≤1000000):iq (O5 b i h ((n:Nat):Int)) λy=>y.1.1.1.length≤n∧0≤y.2.1.1:=by
 unfold O5 C9;have w:abs (((n:Nat):Int)+1)=((n:Nat):Int)+1:=bt (by omega) (by omega);refine aS (bI hb hi) λy hy=>aS (bI hb hy.2) λz hz=>aS (P:=λx=>x.2.1.length≤n∧0≤x.2.2.1.2.1)
  (mP (λx=>x.2.1.1=b∧0≤x.1.2.1∧0≤x.2.1.2.1∧(x.2.2.1.length:Int)+x.1.2.1≤n) (λx=>x.1.2.1.toNat) _ (λx hx=> ?_) _ _ ?_ ?_) λx hx=>aX (by simpa using hx)
 . obtain ⟨⟨st,k,_⟩,⟨b',i,h,_⟩,out,_⟩:=x
   obtain ⟨e1,h1,h2,h3⟩:=hx;simp only at e1 h1 h2 h3;subst e1;unfold UL;refine bx (λh4=> ?_) (λh4=>aX ?_)
   . have h4:=adR h4
     (try simp only at h4)
     have w:abs (k - 1)=k - 1:=bt (by omega) (by omega);have Z7:∀ v:Int,decide (out.length+[v].length≤bn)=true:=λv=>aac (by rw [jQ];simp;omega);refine aS (ni hb h2) λu hu=> ?_;refine bx (λ_=>pb rfl (bx (λ_=>pb rfl (dB (Z7 _) (aX ?_))) λ_=>dB (Z7 _) (aX ?_))) λ_=>bx (λ_=>pb rfl (dB (Z7 _) (aX ?_))) λ_=>dB (Z7 _) (aX ?_)<;>
      exact ⟨⟨rfl,by simp only [w];omega,hu.2,by simp only [w];simp;omega⟩,by simp only [w];omega⟩
   . exact ⟨by simp only at *; omega,h2⟩
 . have:=hz.1.2.1 (by rw [w];omega)
   rw [w] at this;exact ⟨rfl,hz.1.1,hz.2,by simp;omega⟩
 . have:=hz.1.2.1 (by rw [w];omega)
   rw [w] at this;exact afb (show z.1.1.1.toNat≤1000000 by omega) (by decide)
def O6 (a0:List Int):Out ci:= .ret ((((decide (((List.length a0:Nat):Int)>(1048576:Int))),()),()),((),()))
def ahJ (c:List Int):Bool:=decide (((c.length:Nat):Int)>1048576)
def k4:bK:={ f:=4,lend:=true,aF:=[GE],lay:=[none],rs:=[wn],F:=λx=> .ret ((((ahJ x.1.1),()),()),((),())) }
theorem anI (x:aw k4.aF):bo [] (λ_=>none) Tryz.f4 k4 [.tmp 2] x=O6 x.1.1:=by kernel_rfl
theorem anJ (hr:∀ x:(List Int×Unit)×Unit,aB k4.aF x→(O6 x.1.1).eval=(k4.F x).eval):k4.Ok acl:=aD [] trivial anI λx hw _ hy=>(hr x hw).trans hy
theorem anK:k4.Ok acl:=anJ λ_ _=>rfl
end Go.Proofs.YtkmhgofibfmjfaaGreat.Dm
