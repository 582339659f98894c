/- f -/
import Derived.Test.YtnlleofnjkeimaaGreatDoorJ8
import Derived.Test.YtnlleofnjkeimaaGreatDoorShelf
namespace Go.Proofs.YtnlleofnjkeimaaGreatDoor.Dm
open Go Go.ChangeShapes Go.WideShapes Go.ChangeAt Go.RowKit
def k76:bZ:={ f:=76,lend:=true,aJ:=[⟨false,false,[.mut (.int .i64)]⟩],lay:=[none],rs:=[],F:=λx=> .get (BA x.1.1) λy=> .ret ((),((y,()),())) }
theorem Z2:k76.Ok Tryz.prog:=Oe ⟨⟨_,Tryz.func76,by kernel_rfl,by kernel_rfl⟩⟩ (λb o c z w h1 h2 h3=>Tryz.slices_Sort_int b o c z w h1 h2 h3) λp c w=>Tryz.slices_Sort_int_none p c w
abbrev Of:=XS×(List Int×List Int×Unit)
def Dz:Of→Out (Round Of ((Unit)×(List Int×List Int×Unit)) Empty)
|((p0,p1,p2,_),p3,p4,_)=> .ite (decide (p2<p1)) (.ite (decide (0≤p2)) (.get (nth p0 (Int.toNat p2)) λy1=> .ite ((y1.2.2.1==(1:Int))) (.ite (decide (List.length p4+List.length ([y1.1]:List Int)≤bA)) (.ret (.again ((p0,p1,(IntKind.i64.wrap (p2+(1:Int))),()),(p3,(p4++([y1.1]:List Int)),())))) .fail) (.ret (.again ((p0,p1,(IntKind.i64.wrap (p2+(1:Int))),()),(p3,p4,()))))) .fail) (.ret (.out ((),(p3,p4,()))))
def tI (_:Int) (_:Int) (_:List (List az)) (a3:List af) (_:List aj) (_:List ag) (_:List ag) (a7:List Int) (_:List Int):Out (((Bool×Unit)×Unit)×(Unit×Unit)):= .get (yJ a7) λy1=> .get (BA y1) λy2=> .get (bx Dz bc ((a3,((List.length a3:Nat):Int),(0:Int),()),(y2,([]:List Int),()))) λy3=> .ret ((((sH y3.2.1 y3.2.2.1),()),()),((),()))
abbrev Og:List (Nat×eA):=[(64000000, .arr (.int .i64)),(64000001, .arr (.int .i64))]
def aer:Nat→Option aq:=λn=>b6 [(0,⟨⟨[.dead, .dead, .dead, .bg 64000000, .bg 64000001]++dd 9++[.ro jM (some 1), .i .i64, .i .i64]++dd 15,Og⟩,⟨[.dead, .dead, .dead, .bg 64000000, .bg 64000001]++dd 27,Og⟩,none,false⟩)] n
def zm (ps:List af) (rd:List Int):Option Bool:=if rd.length≤bA∧ps.length≤bA then some (decide (jE rd=aH ps)) else none
def Vp:bZ:={ f:=40,lend:=true,aJ:=[⟨false,true,[.i .i64, .i .i64, .ro (.sl dk), .ro jM, .ro dZ, .ro dU, .ro dU, .ro (.int .i64), .ro (.int .i64)]⟩],lay:=[none],rs:=[⟨false,false,[.b]⟩],F:=λx=> .get (zm x.1.2.2.2.1 x.1.2.2.2.2.2.2.2.1) λy=> .ret (((y,()),()),((),())) }
theorem Z3 (x:au Vp.aJ):bo [RK,k76,UI] aer Tryz.f40 Vp [.tmp 2] x=tI x.1.1 x.1.2.1 x.1.2.2.1 x.1.2.2.2.1 x.1.2.2.2.2.1 x.1.2.2.2.2.2.1 x.1.2.2.2.2.2.2.1 x.1.2.2.2.2.2.2.2.1 x.1.2.2.2.2.2.2.2.2.1:=by kernel_rfl
theorem Sy (hr:∀ x:bw×Unit,aD Vp.aJ x→∀ y,(Vp.F x).eval=some y→(tI x.1.1 x.1.2.1 x.1.2.2.1 x.1.2.2.2.1 x.1.2.2.2.2.1 x.1.2.2.2.2.2.1 x.1.2.2.2.2.2.2.1 x.1.2.2.2.2.2.2.2.1 x.1.2.2.2.2.2.2.2.2.1).eval=some y):Vp.Ok Tryz.prog:=aO [RK,k76,UI] ⟨Xw,Z2,Xo,trivial⟩ Z3 hr
theorem vM:∀ (a:List af) (l:List Int),a.foldl (λ(l:List Int) p=>if p.2.2.1=1 then l++[p.1] else l) l=l++aH a
 |[],l=>by simp [aH]
 |p::r,l=>by
  rw [acn];by_cases hp:p.2.2.1=1
  . rw [aa5 hp,vM r]
    simp [aH,ki,hp,ao]
  . rw [aa3 hp,vM r]
    simp [aH,ki,hp]
theorem Z4:Vp.Ok Tryz.prog:=by
 refine Sy λx hw y hy=> ?_;obtain ⟨⟨a0,a1,a2,a3,a4,a5,a6,a7,a8,_⟩,_⟩:=x;have l2:List.length a2≤aM:=hw.1.1.1;have l3:List.length a3≤aM:=hw.1.2.1.1;have l4:List.length a4≤aM:=hw.1.2.2.1.1;have l5:List.length a5≤aM:=hw.1.2.2.2.1.1;have l6:List.length a6≤aM:=hw.1.2.2.2.2.1.1;have l7:List.length a7≤aM:=hw.1.2.2.2.2.2.1.1;have l8:List.length a8≤aM:=hw.1.2.2.2.2.2.2.1.1;change (Out.get (zm a3 a7) λy=>Out.ret (((y,()),()),((),()))).eval=some y at hy;show (tI a0 a1 a2 a3 a4 a5 a6 a7 a8).eval=some y;unfold zm at hy;by_cases hb:List.length a7≤bA∧List.length a3≤bA
 case neg=>rw [aa3 hb] at hy;exact nomatch hy
 rw [aa5 hb] at hy;refine Eq.trans ?_ hy;obtain ⟨hl,hq⟩:=hb;unfold tI;have e1:yJ a7=some a7:=Fh hl;have e2:BA a7=some (jE a7):=aa5 (by rw [nF] at hl;omega);refine (aa e1).trans ((aa e2).trans ?_);have h:=foldl_loop (f:=Dz) (λ(d:List Int) i=>d.length≤i) (λ(l:List Int) (p:af)=>if p.2.2.1=1 then l++[p.1] else l) a3 (λd i=>((a3,((List.length a3:Nat):Int),((i:Nat):Int),()),(jE a7,d,()))) (λd=>((),(jE a7,d,())))
  (λi hi d hd=>by
   have h1:=aw (i:=i) (by omega);have h2:d.length+1≤bA:=by omega
   by_cases q:a3[i].2.2.1=1<;>simp [Dz,Out.eval,hi,h1,cond_eq_ite,q,h2])
  (λd _=>by simp [Dz,Out.eval])
  (λi hi d hd=>by
   split
   . simp;omega
   . omega) l3 [] (by simp)
 rw [vM a3 [],ab0] at h;refine (aa h).trans ?_;rfl
def iP (p:List az):Bool:= !bH p
def tJ (a0:List az):Out (((Bool×Unit)×Unit)×(Unit×Unit)):= .ret ((((!(bH a0)),()),()),((),()))
def Vq:bZ:={ f:=33,lend:=true,aJ:=[⟨false,false,[.ro dk]⟩],lay:=[none],rs:=[⟨false,false,[.b]⟩],F:=λx=> .ret ((((iP x.1.1),()),()),((),())) }
theorem Z5 (x:au Vq.aJ):bo [UY] (λ_=>none) Tryz.f33 Vq [.tmp 2] x=tJ x.1.1:=by kernel_rfl
theorem Z6 (hr:∀ x:(List az×Unit)×Unit,aD Vq.aJ x→(tJ x.1.1).eval=(Vq.F x).eval):Vq.Ok Tryz.prog:=aO [UY] ⟨Yl,trivial⟩ Z5 λx hw _ hy=>(hr x hw).trans hy
theorem Z7:Vq.Ok Tryz.prog:=by
 refine Z6 λx hw=> ?_;obtain ⟨⟨a0,_⟩,_⟩:=x;have l0:List.length a0≤aM:=hw.1.1.1;show (tJ a0).eval=some ((((iP a0),()),()),((),()));unfold tJ iP;simp only [Out.eval]
 all_goals ((repeat' split)<;>simp_all)
def kj (a:List (List az)):Int:=sv (a.findIdx? iP)
abbrev Jj:=(List (List az)×Int×Int×Unit)×(Unit)
def qH:Jj→Out (Round Jj ((Unit)×(Unit)) ((Int×Unit)×(Unit)))
|((p0,p1,p2,_),_)=> .ite (decide (p2<p1)) (.ite (decide (0≤p2)) (.get (nth p0 (Int.toNat p2)) λy1=> .ite (iP y1) (.ret (.ret ((p2,()),()))) (.ret (.again ((p0,p1,(IntKind.i64.wrap (p2+(1:Int))),()),())))) .fail) (.ret (.out ((),())))
def qI (a0:List (List az)):Out (((Int×Unit)×Unit)×(Unit×Unit)):= .get (iter qH bc ((a0,((List.length a0:Nat):Int),(0:Int),()),())) λy1=> .alt y1 (λ_=> .ret ((((-1:Int),()),()),((),()))) (λy3=> .ret (((y3.1.1,()),()),((),())))
def Z8:Nat→Option aq:=λn=>b6 [(0,⟨⟨[.ro (.sl dk) (some 0), .fn 33 []]++dd 5++[.i .i64, .i .i64]++dd 10,[]⟩,⟨dd 19,[]⟩,some ⟨dd 4++[.i .i64]++dd 14,[]⟩,false⟩)] n
def FM:bZ:={ f:=59,lend:=true,aJ:=[⟨false,false,[.ro (.sl dk)]⟩],lay:=[none,some (33,0)],rs:=[⟨false,false,[.i .i64]⟩],F:=λx=> .ret ((((kj x.1.1),()),()),((),())) }
theorem Sz (x:au FM.aJ):bo [Vq] Z8 Tryz.f59 FM [.tmp 4] x=qI x.1.1:=by kernel_rfl
theorem SA (hr:∀ x:(List (List az)×Unit)×Unit,aD FM.aJ x→(qI x.1.1).eval=(FM.F x).eval):FM.Ok Tryz.prog:=aO [Vq] ⟨Z7,trivial⟩ Sz λx hw _ hy=>(hr x hw).trans hy
theorem SB:FM.Ok Tryz.prog:=by
 refine SA λx hw=> ?_;obtain ⟨⟨a0,_⟩,_⟩:=x;have l0:List.length a0≤aM:=hw.1.1.1;show (qI a0).eval=some ((((kj a0),()),()),((),()));unfold qI kj;have h:iter qH bc ((a0,((List.length a0:Nat):Int),(0:Int),()),())=some (match List.findIdx? iP a0 with|some i=> .inr ((((i:Nat):Int),()),())|none=> .inl ((),())):=dY (f:=qH) a0 iP (λi=>((a0,((List.length a0:Nat):Int),((i:Nat):Int),()),())) (y:=((),())) (z:=λi=>((((i:Nat):Int),()),()))
  (λi hi hp=>by
   have h1:=aw (i:=i) (by omega);simp [qH,Out.eval,hi,h1,cond_eq_ite] at hp ⊢ <;>(try simp_all)<;>(try (rcases hp with h|h<;>simp_all)))
  (λi hi hp=>by simp [qH,Out.eval,hi,cond_eq_ite] at hp ⊢ <;>(try simp_all)<;>(try (rcases hp with h|h<;>simp_all)))
  (by simp [qH,Out.eval]) l0
 refine (aa h).trans ?_;cases List.findIdx? iP a0<;>rfl
def ji (a:List (List az)):Bool:=a.any iP
def qJ (a0:List (List az)):Out (((Bool×Unit)×Unit)×(Unit×Unit)):= .ret ((((decide ((kj a0)≥(0:Int))),()),()),((),()))
def FN:bZ:={ f:=32,lend:=true,aJ:=[⟨false,false,[.ro (.sl dk)]⟩],lay:=[none,some (33,0)],rs:=[⟨false,false,[.b]⟩],F:=λx=> .ret ((((ji x.1.1),()),()),((),())) }
theorem SC (x:au FN.aJ):bo [FM] (λ_=>none) Tryz.f32 FN [.tmp 4] x=qJ x.1.1:=by kernel_rfl
theorem SD (hr:∀ x:(List (List az)×Unit)×Unit,aD FN.aJ x→(qJ x.1.1).eval=(FN.F x).eval):FN.Ok Tryz.prog:=aO [FM] ⟨SB,trivial⟩ SC λx hw _ hy=>(hr x hw).trans hy
theorem SE:FN.Ok Tryz.prog:=by
 refine SD λx hw=> ?_;obtain ⟨⟨a0,_⟩,_⟩:=x;have l0:List.length a0≤aM:=hw.1.1.1;show (qJ a0).eval=some ((((ji a0),()),()),((),()));unfold qJ ji kj;rw [j4];rfl
abbrev Oh:=XS×(bw×Unit)
def vN:Oh→Out (Round Oh ((Unit)×(bw×Unit)) ((Bool×Unit)×(Unit)))
|((p0,p1,p2,_),(p3,p4,p5,p6,p7,p8,p9,cH,cK,_),_)=> .ite (decide (p2<p1)) (.ite (decide (0≤p2)) (.get (nth p0 (Int.toNat p2)) λy1=> .ite ((decide (p2>(0:Int)))==true) (.ite (decide (0≤(IntKind.i64.wrap (p2 - (1:Int))))) (.get (nth p6 (Int.toNat (IntKind.i64.wrap (p2 - (1:Int))))) λy2=> .ite ((decide (y2.1≥y1.1))==false) (.ite (!(iy p3 p4 p5 p6 p7 y1.1 y1.2.1 y1.2.2.1 y1.2.2.2.1 y1.2.2.2.2.1.1 y1.2.2.2.2.1.2.1 y1.2.2.2.2.2.1 y1.2.2.2.2.2.2.1 y1.2.2.2.2.2.2.2.1 y1.2.2.2.2.2.2.2.2.1)) (.ret (.ret ((false,()),()))) (.ret (.again ((p0,p1,(IntKind.i64.wrap (p2+(1:Int))),()),((p3,p4,p5,p6,p7,p8,p9,cH,cK,()),()))))) (.ret (.ret ((false,()),())))) .fail) (.ite (!(iy p3 p4 p5 p6 p7 y1.1 y1.2.1 y1.2.2.1 y1.2.2.2.1 y1.2.2.2.2.1.1 y1.2.2.2.2.1.2.1 y1.2.2.2.2.2.1 y1.2.2.2.2.2.2.1 y1.2.2.2.2.2.2.2.1 y1.2.2.2.2.2.2.2.2.1)) (.ret (.ret ((false,()),()))) (.ret (.again ((p0,p1,(IntKind.i64.wrap (p2+(1:Int))),()),((p3,p4,p5,p6,p7,p8,p9,cH,cK,()),())))))) .fail) (.ret (.out ((),((p3,p4,p5,p6,p7,p8,p9,cH,cK,()),()))))
abbrev Oi:=(List aj×Int×Int×Unit)×(bw×Unit)
def vO:Oi→Out (Round Oi ((Unit)×(bw×Unit)) ((Bool×Unit)×(Unit)))
|((p0,p1,p2,_),(p3,p4,p5,p6,p7,p8,p9,cH,cK,_),_)=> .ite (decide (p2<p1)) (.ite (decide (0≤p2)) (.get (nth p0 (Int.toNat p2)) λy1=> .ite ((decide (p2>(0:Int)))==true) (.ite (decide (0≤(IntKind.i64.wrap (p2 - (1:Int))))) (.get (nth p7 (Int.toNat (IntKind.i64.wrap (p2 - (1:Int))))) λy2=> .ite ((decide (y2.1≥y1.1))==false) (.ite (!(fQ p6 p8 p9 y1.1 y1.2.1 y1.2.2.1 y1.2.2.2.1 y1.2.2.2.2.1)) (.ret (.ret ((false,()),()))) (.ret (.again ((p0,p1,(IntKind.i64.wrap (p2+(1:Int))),()),((p3,p4,p5,p6,p7,p8,p9,cH,cK,()),()))))) (.ret (.ret ((false,()),())))) .fail) (.ite (!(fQ p6 p8 p9 y1.1 y1.2.1 y1.2.2.1 y1.2.2.2.1 y1.2.2.2.2.1)) (.ret (.ret ((false,()),()))) (.ret (.again ((p0,p1,(IntKind.i64.wrap (p2+(1:Int))),()),((p3,p4,p5,p6,p7,p8,p9,cH,cK,()),())))))) .fail) (.ret (.out ((),((p3,p4,p5,p6,p7,p8,p9,cH,cK,()),()))))
def tK (a0:Int) (a1:Int) (a2:List (List az)) (a3:List af) (a4:List aj) (a5:List ag) (a6:List ag) (a7:List Int) (a8:List Int):Out (((Bool×Unit)×Unit)×(Unit×Unit)):= .ite ((!(dh a0 (1:Int) (100000:Int)))==false) (.ite ((!(dh a1 (0:Int) (1000000:Int)))==false) (.ite ((!(dh ((List.length a2:Nat):Int) (1:Int) (4:Int)))==false) (.ite ((decide (((List.length a8:Nat):Int)>(60:Int)))==false) (.ite (!(aG a8)) (.ret (((false,()),()),((),()))) (.ite ((ji a2)==false) (.ite ((decide (((List.length a3:Nat):Int)>(6:Int)))==false) (.ite (decide (((List.length a4:Nat):Int)>(8:Int))) (.ret (((false,()),()),((),()))) (.get (iter vN bc ((a3,((List.length a3:Nat):Int),(0:Int),()),((a0,a1,a2,a3,a4,a5,a6,a7,a8,()),()))) λy1=> .alt y1 (λy2=> .get (iter vO bc ((y2.2.1.2.2.2.2.1,((List.length y2.2.1.2.2.2.2.1:Nat):Int),(0:Int),()),((y2.2.1.1,y2.2.1.2.1,y2.2.1.2.2.1,y2.2.1.2.2.2.1,y2.2.1.2.2.2.2.1,y2.2.1.2.2.2.2.2.1,y2.2.1.2.2.2.2.2.2.1,y2.2.1.2.2.2.2.2.2.2.1,y2.2.1.2.2.2.2.2.2.2.2.1,()),()))) λy4=> .alt y4 (λy5=> .ite ((decide ((o9 y5.2.1.2.2.2.1)≤(64:Int)))==true) (.ite ((lv y5.2.1.2.2.2.2.1 y5.2.1.2.2.2.2.2.1)==true) (.ite ((fW y5.2.1.2.2.2.2.2.2.1)==true) (.get (zm y5.2.1.2.2.2.1 y5.2.1.2.2.2.2.2.2.2.1) λy7=> .ret (((y7,()),()),((),()))) (.ret (((false,()),()),((),())))) (.ret (((false,()),()),((),())))) (.ret (((false,()),()),((),())))) (λy6=> .ret (((y6.1.1,()),()),((),())))) (λy3=> .ret (((y3.1.1,()),()),((),()))))) (.ret (((false,()),()),((),())))) (.ret (((false,()),()),((),()))))) (.ret (((false,()),()),((),())))) (.ret (((false,()),()),((),())))) (.ret (((false,()),()),((),())))) (.ret (((false,()),()),((),())))
abbrev DA:List (Nat×eA):=[(64000000, .var [.i .i64, .i .i64, .ro (.sl dk) (some 0), .ro jM (some 1), .ro dZ (some 2), .ro dU (some 3), .ro dU (some 4), .ro (.int .i64) (some 5), .ro (.int .i64) (some 6)])]
def aes:Nat→Option aq:=λn=>b6 [(0,⟨⟨[.dead, .vptr 64000000 0]++dd 50++[.ro jM (some 1), .i .i64, .i .i64]++dd 70,DA⟩,⟨[.dead, .vptr 64000000 0]++dd 123,DA⟩,some ⟨[.dead, .dead, .b]++dd 122,[]⟩,false⟩),(2,⟨⟨[.dead, .vptr 64000000 0]++dd 79++[.ro dZ (some 2), .i .i64, .i .i64]++dd 41,DA⟩,⟨[.dead, .vptr 64000000 0]++dd 123,DA⟩,some ⟨[.dead, .dead, .b]++dd 122,[]⟩,false⟩)] n
def iW (next tick:Int) (dX:List (List az)) (ps:List af) (os:List aj) (bN:List iO) (files:List et) (rd out:List Int):Option Bool:=
 if rd.length≤bA then some (gn next tick dX ps os bN files rd out) else none
def MY:bZ:={ f:=15,lend:=true,aJ:=[⟨false,true,[.i .i64, .i .i64, .ro (.sl dk), .ro jM, .ro dZ, .ro dU, .ro dU, .ro (.int .i64), .ro (.int .i64)]⟩],lay:=[none],rs:=[⟨false,false,[.b]⟩],F:=λx=> .get (iW x.1.1 x.1.2.1 x.1.2.2.1 x.1.2.2.2.1 x.1.2.2.2.2.1 x.1.2.2.2.2.2.1 x.1.2.2.2.2.2.2.1 x.1.2.2.2.2.2.2.2.1 x.1.2.2.2.2.2.2.2.2.1) λy=> .ret (((y,()),()),((),())) }
theorem Z9 (x:au MY.aJ):bo [xx,GM,FN,Vi,Vk,Vn,Vo,UO,Vp] aes Tryz.f15 MY [.tmp 2] x=tK x.1.1 x.1.2.1 x.1.2.2.1 x.1.2.2.2.1 x.1.2.2.2.2.1 x.1.2.2.2.2.2.1 x.1.2.2.2.2.2.2.1 x.1.2.2.2.2.2.2.2.1 x.1.2.2.2.2.2.2.2.2.1:=by kernel_rfl
theorem SF (hr:∀ x:bw×Unit,aD MY.aJ x→∀ y,(MY.F x).eval=some y→(tK x.1.1 x.1.2.1 x.1.2.2.1 x.1.2.2.2.1 x.1.2.2.2.2.1 x.1.2.2.2.2.2.1 x.1.2.2.2.2.2.2.1 x.1.2.2.2.2.2.2.2.1 x.1.2.2.2.2.2.2.2.2.1).eval=some y):MY.Ok Tryz.prog:=aO [xx,GM,FN,Vi,Vk,Vn,Vo,UO,Vp] ⟨nK,yN,SE,ZI,ZO,ZY,Z1,XV,Z4,trivial⟩ Z9 hr
theorem Hm:MY.Ok Tryz.prog:=by
 refine SF λx hw y hy=> ?_;obtain ⟨⟨a0,a1,a2,a3,a4,a5,a6,a7,a8,_⟩,_⟩:=x;have l2:List.length a2≤aM:=hw.1.1.1;have l3:List.length a3≤aM:=hw.1.2.1.1;have l4:List.length a4≤aM:=hw.1.2.2.1.1;have l5:List.length a5≤aM:=hw.1.2.2.2.1.1;have l6:List.length a6≤aM:=hw.1.2.2.2.2.1.1;have l7:List.length a7≤aM:=hw.1.2.2.2.2.2.1.1;have l8:List.length a8≤aM:=hw.1.2.2.2.2.2.2.1.1;change (Out.get (iW a0 a1 a2 a3 a4 a5 a6 a7 a8) λy=>Out.ret (((y,()),()),((),()))).eval=some y at hy;show (tK a0 a1 a2 a3 a4 a5 a6 a7 a8).eval=some y;unfold iW at hy;by_cases hl:List.length a7≤bA
 case neg=>rw [aa3 hl] at hy;exact nomatch hy
 rw [aa5 hl] at hy;refine Eq.trans ?_ hy;unfold tK;change _=some (((gn a0 a1 a2 a3 a4 a5 a6 a7 a8,()),()),((),()));rw [aea,gt6,gt8];by_cases c1:dh a0 1 100000=true
 case neg=>rw [ae (by first|(simp [c1];done)|(rw [aaE (by omega)];done)|(rw [aa1 (by omega)];done)|(rw [aaE (by omega)];rfl)|(rw [aa1 (by omega)];rfl)|(rw [c1];rfl)|(rw [Bool.eq_false_iff.2 c1];rfl))];simp [Out.eval,gn,c1]
 rw [ab (by first|(simp [c1];done)|(rw [aaE (by omega)];done)|(rw [aa1 (by omega)];done)|(rw [aaE (by omega)];rfl)|(rw [aa1 (by omega)];rfl)|(rw [c1];rfl)|(rw [Bool.eq_false_iff.2 c1];rfl))];by_cases c2:dh a1 0 1000000=true
 case neg=>rw [ae (by first|(simp [c2];done)|(rw [aaE (by omega)];done)|(rw [aa1 (by omega)];done)|(rw [aaE (by omega)];rfl)|(rw [aa1 (by omega)];rfl)|(rw [c2];rfl)|(rw [Bool.eq_false_iff.2 c2];rfl))];simp [Out.eval,gn,c2]
 rw [ab (by first|(simp [c2];done)|(rw [aaE (by omega)];done)|(rw [aa1 (by omega)];done)|(rw [aaE (by omega)];rfl)|(rw [aa1 (by omega)];rfl)|(rw [c2];rfl)|(rw [Bool.eq_false_iff.2 c2];rfl))];by_cases c3:dh ((List.length a2:Nat):Int) 1 4=true
 case neg=>rw [ae (by first|(simp [c3];done)|(rw [aaE (by omega)];done)|(rw [aa1 (by omega)];done)|(rw [aaE (by omega)];rfl)|(rw [aa1 (by omega)];rfl)|(rw [c3];rfl)|(rw [Bool.eq_false_iff.2 c3];rfl))];simp [Out.eval,gn,c3]
 rw [ab (by first|(simp [c3];done)|(rw [aaE (by omega)];done)|(rw [aa1 (by omega)];done)|(rw [aaE (by omega)];rfl)|(rw [aa1 (by omega)];rfl)|(rw [c3];rfl)|(rw [Bool.eq_false_iff.2 c3];rfl))];by_cases c4:List.length a8≤60
 case neg=>rw [ae (by first|(simp [c4];done)|(rw [aaE (by omega)];done)|(rw [aa1 (by omega)];done)|(rw [aaE (by omega)];rfl)|(rw [aa1 (by omega)];rfl)|(rw [c4];rfl)|(rw [Bool.eq_false_iff.2 c4];rfl))];simp [Out.eval,gn,c4]
 rw [ab (by first|(simp [c4];done)|(rw [aaE (by omega)];done)|(rw [aa1 (by omega)];done)|(rw [aaE (by omega)];rfl)|(rw [aa1 (by omega)];rfl)|(rw [c4];rfl)|(rw [Bool.eq_false_iff.2 c4];rfl))];by_cases c5:aG a8=true
 case neg=>rw [ab (by first|(simp [c5];done)|(rw [aaE (by omega)];done)|(rw [aa1 (by omega)];done)|(rw [aaE (by omega)];rfl)|(rw [aa1 (by omega)];rfl)|(rw [c5];rfl)|(rw [Bool.eq_false_iff.2 c5];rfl))];simp [Out.eval,gn,c5]
 rw [ae (by first|(simp [c5];done)|(rw [aaE (by omega)];done)|(rw [aa1 (by omega)];done)|(rw [aaE (by omega)];rfl)|(rw [aa1 (by omega)];rfl)|(rw [c5];rfl)|(rw [Bool.eq_false_iff.2 c5];rfl))];have e6:ji a2= !List.all a2 bH:=by
  unfold ji iP;rw [ace];simp
 rw [e6];by_cases c6:List.all a2 bH=true
 case neg=>rw [ae (by first|(simp [c6];done)|(rw [aaE (by omega)];done)|(rw [aa1 (by omega)];done)|(rw [aaE (by omega)];rfl)|(rw [aa1 (by omega)];rfl)|(rw [c6];rfl)|(rw [Bool.eq_false_iff.2 c6];rfl))];simp [Out.eval,gn,c6]
 rw [ab (by first|(simp [c6];done)|(rw [aaE (by omega)];done)|(rw [aa1 (by omega)];done)|(rw [aaE (by omega)];rfl)|(rw [aa1 (by omega)];rfl)|(rw [c6];rfl)|(rw [Bool.eq_false_iff.2 c6];rfl))];by_cases c7:List.length a3≤6
 case neg=>rw [ae (by first|(simp [c7];done)|(rw [aaE (by omega)];done)|(rw [aa1 (by omega)];done)|(rw [aaE (by omega)];rfl)|(rw [aa1 (by omega)];rfl)|(rw [c7];rfl)|(rw [Bool.eq_false_iff.2 c7];rfl))];simp [Out.eval,gn,c7]
 rw [ab (by first|(simp [c7];done)|(rw [aaE (by omega)];done)|(rw [aa1 (by omega)];done)|(rw [aaE (by omega)];rfl)|(rw [aa1 (by omega)];rfl)|(rw [c7];rfl)|(rw [Bool.eq_false_iff.2 c7];rfl))];by_cases c8:List.length a4≤8
 case neg=>rw [ab (by first|(simp [c8];done)|(rw [aaE (by omega)];done)|(rw [aa1 (by omega)];done)|(rw [aaE (by omega)];rfl)|(rw [aa1 (by omega)];rfl)|(rw [c8];rfl)|(rw [Bool.eq_false_iff.2 c8];rfl))];simp [Out.eval,gn,c8]
 rw [ae (by first|(simp [c8];done)|(rw [aaE (by omega)];done)|(rw [aa1 (by omega)];done)|(rw [aaE (by omega)];rfl)|(rw [aa1 (by omega)];rfl)|(rw [c8];rfl)|(rw [Bool.eq_false_iff.2 c8];rfl))];have h1:iter vN bc ((a3,((List.length a3:Nat):Int),(0:Int),()),((a0,a1,a2,a3,a4,a5,a6,a7,a8,()),()))=some (if eB ao (ee a0 a1 (List.length a2) a3 a4) a3=true then .inl ((),((a0,a1,a2,a3,a4,a5,a6,a7,a8,()),())) else .inr ((false,()),())):=jX (f:=vN) (List.length a3) (sX ao (ee a0 a1 (List.length a2) a3 a4) a3) (λi=>((a3,((List.length a3:Nat):Int),((i:Nat):Int),()),((a0,a1,a2,a3,a4,a5,a6,a7,a8,()),()))) (y:=((),((a0,a1,a2,a3,a4,a5,a6,a7,a8,()),()))) (z:=((false,()),()))
  (λi hi=>by
   have w1:=aw (i:=i) (by omega);cases i with
   |zero=>
    rw [ix hi];have w3:decide (((0:Nat):Int)>0)=false:=rfl
    try unfold ee
    try unfold oX
    try unfold ao
    simp only [vN,Out.eval,mP hi,Ay,cL hi,acf,acE,w1,w3,iy];cases p0:dh a3[0].1 1 (IntKind.i64.wrap (a0 - 1))<;>cases p2:cV a1 (List.length a2) a3 a4 a3[0].1 a3[0].2.1 a3[0].2.2.1 a3[0].2.2.2.1 a3[0].2.2.2.2.1.1 a3[0].2.2.2.2.1.2.1 a3[0].2.2.2.2.2.1 a3[0].2.2.2.2.2.2.1 a3[0].2.2.2.2.2.2.2.1 a3[0].2.2.2.2.2.2.2.2.1<;>rfl
   |succ i=>
    rw [gJ hi];have w2:=jh i (by omega);have w3:decide (((i+1:Nat):Int)>0)=true:=aaE (by omega)
    try unfold ee
    try unfold oX
    try unfold ao
    simp only [vN,Out.eval,mP hi,cL hi,acf,acE,w1,w3,iy,cL (show i<List.length a3 by omega),w2,oZ];cases p0:dh a3[i+1].1 1 (IntKind.i64.wrap (a0 - 1))<;>cases p1:decide (a3[i].1<a3[i+1].1)<;>cases p2:cV a1 (List.length a2) a3 a4 a3[i+1].1 a3[i+1].2.1 a3[i+1].2.2.1 a3[i+1].2.2.2.1 a3[i+1].2.2.2.2.1.1 a3[i+1].2.2.2.2.1.2.1 a3[i+1].2.2.2.2.2.1 a3[i+1].2.2.2.2.2.2.1 a3[i+1].2.2.2.2.2.2.2.1 a3[i+1].2.2.2.2.2.2.2.2.1<;>rfl)
  (by simp [vN,Out.eval]) l3
 refine (aa h1).trans ?_;by_cases q1:eB ao (ee a0 a1 (List.length a2) a3 a4) a3=true
 case neg=>rw [aa3 q1];simp [Out.eval,gn,q1]
 rw [aa5 q1];refine (gk _).trans ?_;dsimp only;have h2:iter vO bc ((a4,((List.length a4:Nat):Int),(0:Int),()),((a0,a1,a2,a3,a4,a5,a6,a7,a8,()),()))=some (if eB al (jb a3 a5 a6) a4=true then .inl ((),((a0,a1,a2,a3,a4,a5,a6,a7,a8,()),())) else .inr ((false,()),())):=jX (f:=vO) (List.length a4) (sX al (jb a3 a5 a6) a4) (λi=>((a4,((List.length a4:Nat):Int),((i:Nat):Int),()),((a0,a1,a2,a3,a4,a5,a6,a7,a8,()),()))) (y:=((),((a0,a1,a2,a3,a4,a5,a6,a7,a8,()),()))) (z:=((false,()),()))
  (λi hi=>by
   have w1:=aw (i:=i) (by omega);cases i with
   |zero=>
    rw [ix hi];have w3:decide (((0:Nat):Int)>0)=false:=rfl
    try unfold jb
    try unfold al
    simp only [vO,Out.eval,mP hi,Ay,cL hi,acf,acE,w1,w3];cases p0:fQ a3 a5 a6 a4[0].1 a4[0].2.1 a4[0].2.2.1 a4[0].2.2.2.1 a4[0].2.2.2.2.1<;>rfl
   |succ i=>
    rw [gJ hi];have w2:=jh i (by omega);have w3:decide (((i+1:Nat):Int)>0)=true:=aaE (by omega)
    try unfold jb
    try unfold al
    simp only [vO,Out.eval,mP hi,cL hi,acf,acE,w1,w3,cL (show i<List.length a4 by omega),w2,oZ];cases p0:fQ a3 a5 a6 a4[i+1].1 a4[i+1].2.1 a4[i+1].2.2.1 a4[i+1].2.2.2.1 a4[i+1].2.2.2.2.1<;>cases p1:decide (a4[i].1<a4[i+1].1)<;>rfl)
  (by simp [vO,Out.eval]) l4
 refine (aa h2).trans ?_;by_cases q2:eB al (jb a3 a5 a6) a4=true
 case neg=>rw [aa3 q2];simp [Out.eval,gn,q2]
 rw [aa5 q2];refine (gk _).trans ?_;dsimp only;have e9:zm a3 a7=some (decide (jE a7=aH a3)):=aa5 ⟨hl,by rw [nF];omega⟩;unfold gn;rw [c1,c2,c3,aaE c4,c5,c6,aaE c7,aaE c8,q1,q2,e9];cases decide (o9 a3≤64)<;>cases lv a4 a5<;>cases fW a6<;>rfl
def tL (a0:Int) (a1:Int) (a2:Int) (a3:Int) (a4:Int) (a5:List Int) (a6:List Int) (a7:List Int) (a8:Int) (a9:Int):Out ((XM×Unit)×(Unit×Unit)):= .ite (decide (List.length ([]:List Int)+List.length a5≤bA)) (.ite (decide (List.length ([]:List Int)+List.length a6≤bA)) (.ite (decide (List.length ([]:List Int)+List.length a7≤bA)) (.ret (((a0,a1,a2,a3,a4,(([]:List Int)++a5),(([]:List Int)++a6),(([]:List Int)++a7),a8,a9,()),()),((),()))) .fail) .fail) .fail
def fV (pid par st pg pc:Int) (yR mem fds:List Int) (nM code:Int):Option (Int×Int×Int×Int×Int×List Int×List Int×List Int×Int×Int):=
 if yR.length≤bA∧mem.length≤bA∧fds.length≤bA then some (pid,par,st,pg,pc,yR,mem,fds,nM,code) else none
def SG:bZ:={ f:=86,lend:=true,aJ:=[⟨false,true,[.i .i64, .i .i64, .i .i64, .i .i64, .i .i64, .ro (.int .i64), .ro (.int .i64), .ro (.int .i64), .i .i64, .i .i64]⟩],lay:=[none],rs:=[⟨false,true,[.i .i64, .i .i64, .i .i64, .i .i64, .i .i64, .own (.int .i64), .own (.int .i64), .own (.int .i64), .i .i64, .i .i64]⟩],F:=λx=> .get (fV x.1.1 x.1.2.1 x.1.2.2.1 x.1.2.2.2.1 x.1.2.2.2.2.1 x.1.2.2.2.2.2.1 x.1.2.2.2.2.2.2.1 x.1.2.2.2.2.2.2.2.1 x.1.2.2.2.2.2.2.2.2.1 x.1.2.2.2.2.2.2.2.2.2.1) λy=> .ret (((y.1,y.2.1,y.2.2.1,y.2.2.2.1,y.2.2.2.2.1,y.2.2.2.2.2.1,y.2.2.2.2.2.2.1,y.2.2.2.2.2.2.2.1,y.2.2.2.2.2.2.2.2.1,y.2.2.2.2.2.2.2.2.2,()),()),((),())) }
theorem aaa (x:au SG.aJ):bo [] (λ_=>none) Tryz.f86 SG [.cell 2 39] x=tL x.1.1 x.1.2.1 x.1.2.2.1 x.1.2.2.2.1 x.1.2.2.2.2.1 x.1.2.2.2.2.2.1 x.1.2.2.2.2.2.2.1 x.1.2.2.2.2.2.2.2.1 x.1.2.2.2.2.2.2.2.2.1 x.1.2.2.2.2.2.2.2.2.2.1:=by kernel_rfl
theorem SH (hr:∀ x:XM×Unit,aD SG.aJ x→∀ y,(SG.F x).eval=some y→(tL x.1.1 x.1.2.1 x.1.2.2.1 x.1.2.2.2.1 x.1.2.2.2.2.1 x.1.2.2.2.2.2.1 x.1.2.2.2.2.2.2.1 x.1.2.2.2.2.2.2.2.1 x.1.2.2.2.2.2.2.2.2.1 x.1.2.2.2.2.2.2.2.2.2.1).eval=some y):SG.Ok Tryz.prog:=aO [] trivial aaa hr
theorem HE:SG.Ok Tryz.prog:=by
 refine SH λx hw y hy=> ?_;obtain ⟨⟨a0,a1,a2,a3,a4,a5,a6,a7,a8,a9,_⟩,_⟩:=x;have l5:List.length a5≤aM:=hw.1.1.1;have l6:List.length a6≤aM:=hw.1.2.1.1;have l7:List.length a7≤aM:=hw.1.2.2.1.1;change (Out.get (fV a0 a1 a2 a3 a4 a5 a6 a7 a8 a9) λy=>Out.ret (((y.1,y.2.1,y.2.2.1,y.2.2.2.1,y.2.2.2.2.1,y.2.2.2.2.2.1,y.2.2.2.2.2.2.1,y.2.2.2.2.2.2.2.1,y.2.2.2.2.2.2.2.2.1,y.2.2.2.2.2.2.2.2.2,()),()),((),()))).eval=some y at hy;show (tL a0 a1 a2 a3 a4 a5 a6 a7 a8 a9).eval=some y;unfold fV at hy;by_cases hl:List.length a5≤bA∧List.length a6≤bA∧List.length a7≤bA
 case neg=>rw [aa3 hl] at hy;exact nomatch hy
 rw [aa5 hl] at hy;refine Eq.trans ?_ hy;unfold tL;have e:∀ (l:List Int),l.length≤bA→decide (List.length ([]:List Int)+List.length l≤bA)=true:=λl h=>aaE (by rw [abA,acw];exact h);rw [ab (e _ hl.1),ab (e _ hl.2.1),ab (e _ hl.2.2)];rfl
def ahx:List (Nat×Ty):=[(24,(.sl (.fz dk))),(25,(.sl kR)),(27,(.sl dj)),(28,(.sl dj)),(30,(.st (.cons dI (.cons dI (.cons (.sl (.fz dk)) (.cons (.sl kR) (.cons (.sl dZ) (.cons (.sl dj) (.cons (.sl dj) (.cons (.sl dI) (.cons (.sl dI) .nil))))))))))),(31,(.st (.cons dI (.cons dI (.cons (.sl (.fz dk)) (.cons (.sl kR) (.cons (.sl dZ) (.cons (.sl dj) (.cons (.sl dj) (.cons (.sl dI) (.cons (.sl dI) .nil))))))))))),(36,dj),(37,dj),(38,kR),(39,kR),(58,dj),(59,dj),(60,dj),(61,dj),(91,(.sl wV)),(92,(.st (.cons (.st (.cons dI (.cons dI (.cons (.sl (.fz dk)) (.cons (.sl kR) (.cons (.sl dZ) (.cons (.sl dj) (.cons (.sl dj) (.cons (.sl dI) (.cons (.sl dI) .nil)))))))))) (.cons (.sl wV) .nil)))),(93,(.st (.cons (.st (.cons dI (.cons dI (.cons (.sl (.fz dk)) (.cons (.sl kR) (.cons (.sl dZ) (.cons (.sl dj) (.cons (.sl dj) (.cons (.sl dI) (.cons (.sl dI) .nil)))))))))) (.cons (.sl wV) .nil)))),(112,wV),(113,wV)]++LJ
theorem bI:Ez Tryz.prog ahx=true:=by kernel_rfl
def ahy:List (Nat×Ty):=[(24,(.sl (.fz dk))),(25,(.sl tyY)),(27,(.sl dj)),(28,(.sl dj)),(30,(.st (.cons dI (.cons dI (.cons (.sl (.fz dk)) (.cons (.sl kR) (.cons (.sl dZ) (.cons (.sl dj) (.cons (.sl dj) (.cons (.sl dI) (.cons (.sl dI) .nil))))))))))),(31,(.st (.cons dI (.cons dI (.cons (.sl (.fz dk)) (.cons (.sl kR) (.cons (.sl dZ) (.cons (.sl dj) (.cons (.sl dj) (.cons (.sl dI) (.cons (.sl dI) .nil))))))))))),(36,dj),(37,dj),(38,tyY),(39,tyY),(58,dj),(59,dj),(60,dj),(61,dj),(91,(.sl wV)),(92,(.st (.cons (.st (.cons dI (.cons dI (.cons (.sl (.fz dk)) (.cons (.sl kR) (.cons (.sl dZ) (.cons (.sl dj) (.cons (.sl dj) (.cons (.sl dI) (.cons (.sl dI) .nil)))))))))) (.cons (.sl wV) .nil)))),(93,(.st (.cons (.st (.cons dI (.cons dI (.cons (.sl (.fz dk)) (.cons (.sl kR) (.cons (.sl dZ) (.cons (.sl dj) (.cons (.sl dj) (.cons (.sl dI) (.cons (.sl dI) .nil)))))))))) (.cons (.sl wV) .nil)))),(112,wV),(113,wV)]++LJ
theorem SI:Ez Tryz.prog ahy=true:=by kernel_rfl
abbrev i0:Item:=⟨false,false,[.own dI]⟩
abbrev i1:Item:=⟨false,false,[.i .i64]⟩
abbrev i2:Item:=⟨false,false,[.own (.fz dk)]⟩
abbrev i3:Item:=⟨false,false,[.ro (.fz dk)]⟩
abbrev i4:Item:=⟨false,true,[.i .i64, .i .i64, .own (.fz dk), .own kR, .own dZ, .own dj, .own dj, .own dI, .own dI]⟩
abbrev i5:Item:=⟨false,true,[.i .i64, .i .i64, .ro (.fz dk), .ro kR, .ro dZ, .ro dj, .ro dj, .ro dI, .ro dI]⟩
abbrev i6:Item:=⟨false,true,[.i .i64, .i .i64, .i .i64, .i .i64]⟩
abbrev i7:Item:=⟨false,true,[.i .i64, .own dI]⟩
abbrev i8:Item:=⟨false,false,[.ro dk]⟩
abbrev i9:Item:=⟨false,false,[.ro dI]⟩
abbrev i10:Item:=⟨false,false,[.b]⟩
abbrev i11:Item:=⟨false,true,[.i .i64, .i .i64, .ro (.sl dk), .ro jM, .ro dZ, .ro dU, .ro dU, .ro dI, .ro dI]⟩
abbrev i12:Item:=⟨false,true,[.i .i64, .i .i64, .i .i64, .i .i64, .ro dI]⟩
abbrev i13:Item:=⟨false,true,[.i .i64, .i .i64, .own (.fz dk), .own kR, .own dZ, .own dj, .own dj, .own dI, .own dI, .own wV]⟩
abbrev i14:Item:=⟨false,true,[.i .i64, .ro dI]⟩
abbrev i15:Item:=⟨false,true,[.i .i64, .i .i64, .i .i64, .i .i64, .i .i64, .ro dI, .ro dI, .ro dI, .i .i64, .i .i64]⟩
abbrev i16:Item:=⟨false,true,[.i .i64, .i .i64, .i .i64, .i .i64, .i .i64]⟩
abbrev i17:Item:=⟨true,false,[.ro (.int .u8), .i .i64, .i .i64]⟩
abbrev i18:Item:=⟨false,false,[.own dk]⟩
abbrev i19:Item:=⟨false,false,[.ro (.int .u8)]⟩
abbrev t0:Type:=List Int×Unit
abbrev t1:Type:=Int×Unit
abbrev t2:Type:=List (List (Int×Int×Int×Int×Unit))×Unit
abbrev t3:Type:=List (List (Int×Int×Int×Int×Unit))×Unit
abbrev t4:Type:=Int×Int×List (List (Int×Int×Int×Int×Unit))×List (Int×Int×Int×Int×(Int×List Int×Unit)×List Int×XE)×List (Int×Int×Int×Int×Int×Unit)×List (Int×List Int×Unit)×List (Int×List Int×Unit)×List Int×List Int×Unit
abbrev t5:Type:=Int×Int×List (List (Int×Int×Int×Int×Unit))×List (Int×Int×Int×Int×(Int×List Int×Unit)×List Int×XE)×List (Int×Int×Int×Int×Int×Unit)×List (Int×List Int×Unit)×List (Int×List Int×Unit)×List Int×List Int×Unit
abbrev t6:Type:=Int×Int×Int×Int×Unit
abbrev t7:Type:=Int×List Int×Unit
abbrev t8:Type:=List (Int×Int×Int×Int×Unit)×Unit
abbrev t9:Type:=List Int×Unit
abbrev t10:Type:=Bool×Unit
abbrev t11:Type:=Int×Int×List (List (Int×Int×Int×Int×Unit))×List (Int×Int×Int×Int×(Int×List Int×Unit)×List Int×XE)×List (Int×Int×Int×Int×Int×Unit)×List (Int×List Int×Unit)×List (Int×List Int×Unit)×List Int×List Int×Unit
abbrev t12:Type:=Int×Int×Int×Int×List Int×Unit
abbrev t13:Type:=Int×Int×List (List (Int×Int×Int×Int×Unit))×List (Int×Int×Int×Int×(Int×List Int×Unit)×List Int×XE)×List (Int×Int×Int×Int×Int×Unit)×List (Int×List Int×Unit)×List (Int×List Int×Unit)×List Int×List Int×List (Int×Int×Int×Int×List Int×Unit)×Unit
abbrev t14:Type:=Int×List Int×Unit
abbrev t15:Type:=Int×Int×Int×Int×Int×List Int×List Int×XE
abbrev t16:Type:=Int×Int×Int×Int×Int×Unit
abbrev b17:Type:=Int×Int×Unit
abbrev t17:Type:=List Int×Int×Int×Unit
abbrev t18:Type:=List (Int×Int×Int×Int×Unit)×Unit
abbrev t19:Type:=List Int×Unit
abbrev aet:=(t0×Unit)×(Unit×Unit)
def Vr:t1×Unit→Out aet
|(a0,_)=> .ite (decide (0≤a0.1∧a0.1≤a0.1∧a0.1≤(bA:Int))) (.ret ((((List.replicate (Int.toNat a0.1) (0:Int)),()),()),((),()))) .fail
def oP (x:t1×Unit):=(Vr x).eval
def k29:bZ:=dD 29 true [i1] [none] [i0] Vr
theorem Dg:k29.Ok Tryz.prog:=cb ja [] [] [] trivial (λ_=>none) Tryz.f29 [.tmp 2] λx=>by kernel_rfl
abbrev aab:=(t2×Unit)×(Unit×Unit)
abbrev Jk:=(Int×Unit)×(List (List az)×List (List az)×Unit)
def qh:Jk→Out (Round Jk ((Unit)×(List (List az)×Unit)) Empty)
|((p0,_),p1,p2,_)=> .ite (decide (p0<((List.length p1:Nat):Int))) (.ite (decide (0≤p0∧p0<((List.length p1:Nat):Int))) (.get (nth p1 (Int.toNat p0)) λy1=> .ite (decide (List.length ([]:List az)+List.length y1≤bA)) (.ite (decide (List.length p2+List.length ([(([]:List az)++y1)]:List (List az))≤bA)) (.ret (.again (((IntKind.i64.wrap (p0+1)),()),(p1,(p2++([(([]:List az)++y1)]:List (List az))),())))) .fail) .fail) .fail) (.ret (.out ((),(p2,()))))
def Dh:t2×Unit→Out aab
|(a0,_)=> .get (bx qh bc ((0,()),(a0.1,([]:List (List az)),()))) λy1=> .ret (((y1.2.1,()),()),((),()))
def Ho (x:t2×Unit):=(Dh x).eval
abbrev SJ:List (Nat×eA):=[(64000000, .arr (.fz dk))]
def aac:Nat→Option aq:=λn=>b6 [(0,⟨⟨[.bg 64000000, .dead, .dead, .bg 64000001, .i .i64]++dd 17,[(64000000, .arr (.fz dk)),(64000001, .arr (.fz dk))]⟩,⟨[.dead, .dead, .dead, .bg 64000000]++dd 18,SJ⟩,none,false⟩)] n
def aeu:bZ:=dD 85 false [i2] [none] [i2] Dh
theorem SK:aeu.Ok Tryz.prog:=cb bI [1287] [(1287,1)] [] trivial aac Tryz.f85 [.tmp 2] λx=>by kernel_rfl
abbrev aev:=(t2×Unit)×(Unit×Unit)
abbrev Oj:=(List (List az)×Int×Unit)×(List (List az)×Unit)
def vm:Oj→Out (Round Oj ((Unit)×(List (List az)×Unit)) Empty)
|((p0,p1,_),p2,_)=> .ite (decide (p1<((List.length p0:Nat):Int))) (.ite (decide (0≤p1)) (.get (nth p0 (Int.toNat p1)) λy1=> .ite (decide (List.length ([]:List az)+List.length y1≤bA)) (.ite (decide (List.length p2+List.length ([(([]:List az)++y1)]:List (List az))≤bA)) (.ret (.again ((p0,(IntKind.i64.wrap (p1+1)),()),((p2++([(([]:List az)++y1)]:List (List az))),())))) .fail) .fail) .fail) (.ret (.out ((),(p2,()))))
def M5:t3×Unit→Out aev
|(a0,_)=> .get (bx vm bc ((a0.1,0,()),(([]:List (List az)),()))) λy1=> .ret (((y1.2.1,()),()),((),()))
def M4 (x:t3×Unit):=(M5 x).eval
abbrev aad:=(t4×Unit)×(Unit×Unit)
abbrev Jl:=(Int×Unit)×((Int×Int×Unit)×(Int×Int×Unit)×(Int×Int×Unit)×List af×List aj×List ag×List ag×List Int×List Int×List (List az)×List af×List aj×List ag×List ag×List Int×List Int×List (List az)×List af×Unit)
def qi:Jl→Out (Round Jl ((Unit)×((Int×Int×Unit)×(Int×Int×Unit)×(Int×Int×Unit)×List af×List aj×List ag×List ag×List Int×List Int×List (List az)×List af×List aj×List ag×List ag×List Int×List Int×List (List az)×List af×Unit)) Empty)
|((p0,_),(p1,p2,_),(p3,p4,_),(p5,p6,_),p7,p8,p9,cH,cK,eH,eU,ei,dq,eI,fD,fN,fk,gm,gh,_)=> .ite (decide (p0<((List.length p7:Nat):Int))) (.ite (decide (0≤p0∧p0<((List.length p7:Nat):Int))) (.get (nth p7 (Int.toNat p0)) λy1=> .get (fV y1.1 y1.2.1 y1.2.2.1 y1.2.2.2.1 y1.2.2.2.2.1.1 y1.2.2.2.2.1.2.1 y1.2.2.2.2.2.1 y1.2.2.2.2.2.2.1 y1.2.2.2.2.2.2.2.1 y1.2.2.2.2.2.2.2.2.1) λy2=> .ite (decide (List.length gh+List.length ([(y2.1,y2.2.1,y2.2.2.1,y2.2.2.2.1,(y2.2.2.2.2.1,y2.2.2.2.2.2.1,()),y2.2.2.2.2.2.2.1,y2.2.2.2.2.2.2.2.1,y2.2.2.2.2.2.2.2.2.1,y2.2.2.2.2.2.2.2.2.2,())]:List af)≤bA)) (.ret (.again (((IntKind.i64.wrap (p0+1)),()),((p1,p2,()),(p3,p4,()),(p5,p6,()),(List.set p7 (Int.toNat p0) y1),p8,p9,cH,cK,eH,eU,ei,dq,eI,fD,fN,fk,gm,(gh++([(y2.1,y2.2.1,y2.2.2.1,y2.2.2.2.1,(y2.2.2.2.2.1,y2.2.2.2.2.2.1,()),y2.2.2.2.2.2.2.1,y2.2.2.2.2.2.2.2.1,y2.2.2.2.2.2.2.2.2.1,y2.2.2.2.2.2.2.2.2.2,())]:List af)),())))) .fail) .fail) (.ret (.out ((),((p1,p2,()),(p3,p4,()),(p5,p6,()),p7,p8,p9,cH,cK,eH,eU,ei,dq,eI,fD,fN,fk,gm,gh,()))))
abbrev Jm:=(Int×Unit)×((Int×Int×Unit)×(Int×Int×Unit)×(Int×Int×Unit)×List af×List aj×List ag×List ag×List Int×List Int×List (List az)×List af×List aj×List ag×List ag×List Int×List Int×List (List az)×List af×List aj×List ag×Unit)
def qj:Jm→Out (Round Jm ((Unit)×((Int×Int×Unit)×(Int×Int×Unit)×(Int×Int×Unit)×List af×List aj×List ag×List ag×List Int×List Int×List (List az)×List af×List aj×List ag×List ag×List Int×List Int×List (List az)×List af×List aj×List ag×Unit)) Empty)
|((p0,_),(p1,p2,_),(p3,p4,_),(p5,p6,_),p7,p8,p9,cH,cK,eH,eU,ei,dq,eI,fD,fN,fk,gm,gh,ju,lD,_)=> .ite (decide (p0<((List.length p9:Nat):Int))) (.ite (decide (0≤p0∧p0<((List.length p9:Nat):Int))) (.get (nth p9 (Int.toNat p0)) λy1=> .ite (decide (0≤p0∧p0<((List.length p9:Nat):Int))) (.get (nth p9 (Int.toNat p0)) λy2=> .ite (decide (List.length ([]:List Int)+List.length y2.2.1≤bA)) (.ite (decide (List.length lD+List.length ([(y1.1,(([]:List Int)++y2.2.1),())]:List ag)≤bA)) (.ret (.again (((IntKind.i64.wrap (p0+1)),()),((p1,p2,()),(p3,p4,()),(p5,p6,()),p7,p8,p9,cH,cK,eH,eU,ei,dq,eI,fD,fN,fk,gm,gh,ju,(lD++([(y1.1,(([]:List Int)++y2.2.1),())]:List ag)),())))) .fail) .fail) .fail) .fail) (.ret (.out ((),((p1,p2,()),(p3,p4,()),(p5,p6,()),p7,p8,p9,cH,cK,eH,eU,ei,dq,eI,fD,fN,fk,gm,gh,ju,lD,()))))
abbrev Jn:=(Int×Unit)×((Int×Int×Unit)×(Int×Int×Unit)×(Int×Int×Unit)×List af×List aj×List ag×List ag×List Int×List Int×List (List az)×List af×List aj×List ag×List ag×List Int×List Int×List (List az)×List af×List aj×List ag×List ag×Unit)
def qk:Jn→Out (Round Jn ((Unit)×((Int×Int×Unit)×(Int×Int×Unit)×(Int×Int×Unit)×List af×List aj×List ag×List ag×List Int×List Int×List (List az)×List af×List aj×List ag×List ag×List Int×List Int×List (List az)×List af×List aj×List ag×List ag×Unit)) Empty)
|((p0,_),(p1,p2,_),(p3,p4,_),(p5,p6,_),p7,p8,p9,cH,cK,eH,eU,ei,dq,eI,fD,fN,fk,gm,gh,ju,lD,oI,_)=> .ite (decide (p0<((List.length cH:Nat):Int))) (.ite (decide (0≤p0∧p0<((List.length cH:Nat):Int))) (.get (nth cH (Int.toNat p0)) λy1=> .ite (decide (0≤p0∧p0<((List.length cH:Nat):Int))) (.get (nth cH (Int.toNat p0)) λy2=> .ite (decide (List.length ([]:List Int)+List.length y2.2.1≤bA)) (.ite (decide (List.length oI+List.length ([(y1.1,(([]:List Int)++y2.2.1),())]:List ag)≤bA)) (.ret (.again (((IntKind.i64.wrap (p0+1)),()),((p1,p2,()),(p3,p4,()),(p5,p6,()),p7,p8,p9,cH,cK,eH,eU,ei,dq,eI,fD,fN,fk,gm,gh,ju,lD,(oI++([(y1.1,(([]:List Int)++y2.2.1),())]:List ag)),())))) .fail) .fail) .fail) .fail) (.ret (.out ((),((p1,p2,()),(p3,p4,()),(p5,p6,()),p7,p8,p9,cH,cK,eH,eU,ei,dq,eI,fD,fN,fk,gm,gh,ju,lD,oI,()))))
def Dj:t4×Unit→Out aad
|(a0,_)=> .get (Ho ((a0.2.2.1,()),())) λ((cP,_),_)=> .get (bx qi bc ((0,()),((a0.1,a0.2.1,()),(0,0,()),(a0.1,a0.2.1,()),a0.2.2.2.1,a0.2.2.2.2.1,a0.2.2.2.2.2.1,a0.2.2.2.2.2.2.1,a0.2.2.2.2.2.2.2.1,a0.2.2.2.2.2.2.2.2.1,([]:List (List az)),([]:List af),([]:List aj),([]:List ag),([]:List ag),([]:List Int),([]:List Int),cP.1,([]:List af),()))) λ(_,(Ol,Om,_),(On,Oo,_),(HF,Oq,_),Ot,HG,Ou,Ov,aae,aaf,aag,aah,aai,aaj,aak,aal,aam,aan,aao,_)=> .ite (decide (List.length ([]:List aj)+List.length HG≤bA)) (.get (bx qj bc ((0,()),((Ol,Om,()),(On,Oo,()),(HF,Oq,()),Ot,HG,Ou,Ov,aae,aaf,aag,aah,aai,aaj,aak,aal,aam,aan,aao,(([]:List aj)++HG),([]:List ag),()))) λ(_,(KY,Ow,_),(Ox,Oy,_),(Oz,OA,_),OB,OC,OD,OE,OF,OG,OH,OI,OJ,OK,OL,OM,ON,OO,OP,OQ,aap,_)=> .get (bx qk bc ((0,()),((KY,Ow,()),(Ox,Oy,()),(Oz,OA,()),OB,OC,OD,OE,OF,OG,OH,OI,OJ,OK,OL,OM,ON,OO,OP,OQ,aap,([]:List ag),()))) λ(_,_,_,(KF,KG,_),_,_,_,_,KH,KI,_,_,_,_,_,_,_,Nn,No,Np,Nq,Nr,_)=> .ite (decide (List.length ([]:List Int)+List.length KH≤bA)) (.ite (decide (List.length ([]:List Int)+List.length KI≤bA)) (.ret (((KF,KG,Nn,No,Np,Nq,Nr,(([]:List Int)++KH),(([]:List Int)++KI),()),()),((),()))) .fail) .fail) .fail
def M8 (x:t4×Unit):=(Dj x).eval
abbrev Jo:List (Nat×eA):=[(64000000, .var [.i .i64, .i .i64, .jj, .bg 64000003, .bg 64000004, .bg 64000005, .bg 64000006, .bg 64000007, .bg 64000008]),(64000001, .var [.i .i64, .i .i64, .bg 64000009, .bg 64000010, .bg 64000011, .bg 64000012, .bg 64000013, .bg 64000014, .bg 64000015]),(64000002, .var [.i .i64, .i .i64, .bg 64000016, .bg 64000017, .bg 64000004, .bg 64000005, .bg 64000006, .bg 64000007, .bg 64000008]),(64000003, .arr kR),(64000004, .arr dZ),(64000005, .arr dj),(64000006, .arr dj),(64000007, .arr dI),(64000008, .arr dI),(64000009, .arr (.fz dk)),(64000010, .arr kR),(64000011, .arr dZ),(64000012, .arr dj),(64000013, .arr dj),(64000014, .arr dI),(64000015, .arr dI),(64000016, .arr (.fz dk)),(64000017, .arr kR)]
abbrev Jp:List (Nat×eA):=[(64000000, .var [.i .i64, .i .i64, .jj, .bg 64000003, .bg 64000004, .bg 64000005, .bg 64000006, .bg 64000007, .bg 64000008]),(64000001, .var [.i .i64, .i .i64, .bg 64000009, .bg 64000010, .bg 64000011, .bg 64000012, .bg 64000013, .bg 64000014, .bg 64000015]),(64000002, .var [.i .i64, .i .i64, .bg 64000016, .bg 64000017, .bg 64000018, .bg 64000019, .bg 64000006, .bg 64000007, .bg 64000008]),(64000003, .arr kR),(64000004, .arr dZ),(64000005, .arr dj),(64000006, .arr dj),(64000007, .arr dI),(64000008, .arr dI),(64000009, .arr (.fz dk)),(64000010, .arr kR),(64000011, .arr dZ),(64000012, .arr dj),(64000013, .arr dj),(64000014, .arr dI),(64000015, .arr dI),(64000016, .arr (.fz dk)),(64000017, .arr kR),(64000018, .arr dZ),(64000019, .arr dj)]
abbrev Jq:List (Nat×eA):=[(64000000, .var [.i .i64, .i .i64, .jj, .bg 64000003, .bg 64000004, .bg 64000005, .bg 64000006, .bg 64000007, .bg 64000008]),(64000001, .var [.i .i64, .i .i64, .bg 64000009, .bg 64000010, .bg 64000011, .bg 64000012, .bg 64000013, .bg 64000014, .bg 64000015]),(64000002, .var [.i .i64, .i .i64, .bg 64000016, .bg 64000017, .bg 64000018, .bg 64000019, .bg 64000020, .bg 64000007, .bg 64000008]),(64000003, .arr kR),(64000004, .arr dZ),(64000005, .arr dj),(64000006, .arr dj),(64000007, .arr dI),(64000008, .arr dI),(64000009, .arr (.fz dk)),(64000010, .arr kR),(64000011, .arr dZ),(64000012, .arr dj),(64000013, .arr dj),(64000014, .arr dI),(64000015, .arr dI),(64000016, .arr (.fz dk)),(64000017, .arr kR),(64000018, .arr dZ),(64000019, .arr dj),(64000020, .arr dj)]
def aaq:Nat→Option aq:=λn=>b6 [(0,⟨⟨[.dead, .vptr 64000000 0, .vptr 64000001 0, .vptr 64000002 0, .i .i64]++dd 101,Jo⟩,⟨[.dead, .vptr 64000000 0, .vptr 64000001 0, .vptr 64000002 0]++dd 102,Jo⟩,none,false⟩),(2,⟨⟨[.dead, .vptr 64000000 0, .vptr 64000001 0, .vptr 64000002 0, .dead, .i .i64]++dd 100,Jp⟩,⟨[.dead, .vptr 64000000 0, .vptr 64000001 0, .vptr 64000002 0]++dd 102,Jp⟩,none,false⟩),(4,⟨⟨[.dead, .vptr 64000000 0, .vptr 64000001 0, .vptr 64000002 0, .dead, .dead, .i .i64]++dd 99,Jq⟩,⟨[.dead, .vptr 64000000 0, .vptr 64000001 0, .vptr 64000002 0]++dd 102,Jq⟩,none,false⟩)] n
def adM:bZ:=dD 54 false [i4] [none] [i4] Dj
theorem RA:adM.Ok Tryz.prog:=cb bI [1800,3344,4624] [(1799,1),(1800,32),(3344,1),(4624,1)] [aeu,SG] ⟨SK,HE,trivial⟩ aaq Tryz.f54 [.cell 2 31] λx=>by kernel_rfl
abbrev aew:=(t4×Unit)×(Unit×Unit)
abbrev OR:=(Int×Unit)×(bw×(Int×Int×Unit)×(Int×Int×List aj×List ag×List ag×List Int×List Int×Unit)×List (List az)×List af×List aj×List ag×List ag×List Int×List Int×List (List az)×List af×Unit)
def vn:OR→Out (Round OR ((Unit)×(bw×(Int×Int×Unit)×(Int×Int×List aj×List ag×List ag×List Int×List Int×Unit)×List (List az)×List af×List aj×List ag×List ag×List Int×List Int×List (List az)×List af×Unit)) Empty)
|((p0,_),(p1,p2,p3,p4,p5,p6,p7,p8,p9,_),(cH,cK,_),(eH,eU,ei,dq,eI,fD,fN,_),fk,gm,gh,ju,lD,oI,rr,GO,DB,_)=> .ite (decide (p0<((List.length p4:Nat):Int))) (.ite (decide (0≤p0)) (.get (nth p4 (Int.toNat p0)) λy1=> .get (fV y1.1 y1.2.1 y1.2.2.1 y1.2.2.2.1 y1.2.2.2.2.1.1 y1.2.2.2.2.1.2.1 y1.2.2.2.2.2.1 y1.2.2.2.2.2.2.1 y1.2.2.2.2.2.2.2.1 y1.2.2.2.2.2.2.2.2.1) λy2=> .ite (decide (List.length DB+List.length ([(y2.1,y2.2.1,y2.2.2.1,y2.2.2.2.1,(y2.2.2.2.2.1,y2.2.2.2.2.2.1,()),y2.2.2.2.2.2.2.1,y2.2.2.2.2.2.2.2.1,y2.2.2.2.2.2.2.2.2.1,y2.2.2.2.2.2.2.2.2.2,())]:List af)≤bA)) (.ret (.again (((IntKind.i64.wrap (p0+1)),()),((p1,p2,p3,p4,p5,p6,p7,p8,p9,()),(cH,cK,()),(eH,eU,ei,dq,eI,fD,fN,()),fk,gm,gh,ju,lD,oI,rr,GO,(DB++([(y2.1,y2.2.1,y2.2.2.1,y2.2.2.2.1,(y2.2.2.2.2.1,y2.2.2.2.2.2.1,()),y2.2.2.2.2.2.2.1,y2.2.2.2.2.2.2.2.1,y2.2.2.2.2.2.2.2.2.1,y2.2.2.2.2.2.2.2.2.2,())]:List af)),())))) .fail) .fail) (.ret (.out ((),((p1,p2,p3,p4,p5,p6,p7,p8,p9,()),(cH,cK,()),(eH,eU,ei,dq,eI,fD,fN,()),fk,gm,gh,ju,lD,oI,rr,GO,DB,()))))
abbrev OS:=(Int×Unit)×(bw×(Int×Int×Unit)×(Int×Int×List ag×List Int×List Int×Unit)×List (List az)×List af×List aj×List ag×List ag×List Int×List Int×List (List az)×List af×List aj×List ag×Unit)
def vp:OS→Out (Round OS ((Unit)×(bw×(Int×Int×Unit)×(Int×Int×List ag×List Int×List Int×Unit)×List (List az)×List af×List aj×List ag×List ag×List Int×List Int×List (List az)×List af×List aj×List ag×Unit)) Empty)
|((p0,_),(p1,p2,p3,p4,p5,p6,p7,p8,p9,_),(cH,cK,_),(eH,eU,ei,dq,eI,_),fD,fN,fk,gm,gh,ju,lD,oI,rr,GO,DB,_)=> .ite (decide (p0<((List.length p6:Nat):Int))) (.ite (decide (0≤p0)) (.get (nth p6 (Int.toNat p0)) λy1=> .ite (decide (0≤p0)) (.get (nth p6 (Int.toNat p0)) λy2=> .ite (decide (List.length ([]:List Int)+List.length y2.2.1≤bA)) (.ite (decide (List.length DB+List.length ([(y1.1,(([]:List Int)++y2.2.1),())]:List ag)≤bA)) (.ret (.again (((IntKind.i64.wrap (p0+1)),()),((p1,p2,p3,p4,p5,p6,p7,p8,p9,()),(cH,cK,()),(eH,eU,ei,dq,eI,()),fD,fN,fk,gm,gh,ju,lD,oI,rr,GO,(DB++([(y1.1,(([]:List Int)++y2.2.1),())]:List ag)),())))) .fail) .fail) .fail) .fail) (.ret (.out ((),((p1,p2,p3,p4,p5,p6,p7,p8,p9,()),(cH,cK,()),(eH,eU,ei,dq,eI,()),fD,fN,fk,gm,gh,ju,lD,oI,rr,GO,DB,()))))
abbrev OT:=(Int×Unit)×(bw×(Int×Int×Unit)×(Int×Int×List Int×List Int×Unit)×List (List az)×List af×List aj×List ag×List ag×List Int×List Int×List (List az)×List af×List aj×List ag×List ag×Unit)
def vq:OT→Out (Round OT ((Unit)×(bw×(Int×Int×Unit)×(Int×Int×List Int×List Int×Unit)×List (List az)×List af×List aj×List ag×List ag×List Int×List Int×List (List az)×List af×List aj×List ag×List ag×Unit)) Empty)
|((p0,_),(p1,p2,p3,p4,p5,p6,p7,p8,p9,_),(cH,cK,_),(eH,eU,ei,dq,_),eI,fD,fN,fk,gm,gh,ju,lD,oI,rr,GO,DB,_)=> .ite (decide (p0<((List.length p7:Nat):Int))) (.ite (decide (0≤p0)) (.get (nth p7 (Int.toNat p0)) λy1=> .ite (decide (0≤p0)) (.get (nth p7 (Int.toNat p0)) λy2=> .ite (decide (List.length ([]:List Int)+List.length y2.2.1≤bA)) (.ite (decide (List.length DB+List.length ([(y1.1,(([]:List Int)++y2.2.1),())]:List ag)≤bA)) (.ret (.again (((IntKind.i64.wrap (p0+1)),()),((p1,p2,p3,p4,p5,p6,p7,p8,p9,()),(cH,cK,()),(eH,eU,ei,dq,()),eI,fD,fN,fk,gm,gh,ju,lD,oI,rr,GO,(DB++([(y1.1,(([]:List Int)++y2.2.1),())]:List ag)),())))) .fail) .fail) .fail) .fail) (.ret (.out ((),((p1,p2,p3,p4,p5,p6,p7,p8,p9,()),(cH,cK,()),(eH,eU,ei,dq,()),eI,fD,fN,fk,gm,gh,ju,lD,oI,rr,GO,DB,()))))
def M7:t5×Unit→Out aew
|(a0,_)=> .get (M4 ((a0.2.2.1,()),())) λ((cP,_),_)=> .get (bx vn bc ((0,()),((a0.1,a0.2.1,a0.2.2.1,a0.2.2.2.1,a0.2.2.2.2.1,a0.2.2.2.2.2.1,a0.2.2.2.2.2.2.1,a0.2.2.2.2.2.2.2.1,a0.2.2.2.2.2.2.2.2.1,()),(0,0,()),(a0.1,a0.2.1,a0.2.2.2.2.1,a0.2.2.2.2.2.1,a0.2.2.2.2.2.2.1,a0.2.2.2.2.2.2.2.1,a0.2.2.2.2.2.2.2.2.1,()),([]:List (List az)),([]:List af),([]:List aj),([]:List ag),([]:List ag),([]:List Int),([]:List Int),cP.1,([]:List af),()))) λ(_,(Ol,Om,On,Oo,HF,Oq,Ot,HG,Ou,_),(Ov,aae,_),(aaf,aag,_,_,aah,aai,aaj,_),aak,aal,aam,aan,aao,ahz,ahA,ahB,ahC,_)=> .ite (decide (List.length ([]:List aj)+List.length HF≤bA)) (.get (bx vp bc ((0,()),((Ol,Om,On,Oo,HF,Oq,Ot,HG,Ou,()),(Ov,aae,()),(aaf,aag,aah,aai,aaj,()),aak,aal,aam,aan,aao,ahz,ahA,ahB,ahC,(([]:List aj)++HF),([]:List ag),()))) λ(_,(KY,Ow,Ox,Oy,Oz,OA,OB,OC,OD,_),(OE,OF,_),(OG,OH,_,OI,OJ,_),OK,OL,OM,ON,OO,OP,OQ,aap,ahD,ahE,ahF,_)=> .get (bx vq bc ((0,()),((KY,Ow,Ox,Oy,Oz,OA,OB,OC,OD,()),(OE,OF,()),(OG,OH,OI,OJ,()),OK,OL,OM,ON,OO,OP,OQ,aap,ahD,ahE,ahF,([]:List ag),()))) λ(_,(_,_,_,_,_,_,_,KF,KG,_),_,(KH,KI,_),_,_,_,_,_,_,_,Nn,No,Np,Nq,Nr,_)=> .ite (decide (List.length ([]:List Int)+List.length KF≤bA)) (.ite (decide (List.length ([]:List Int)+List.length KG≤bA)) (.ret (((KH,KI,Nn,No,Np,Nq,Nr,(([]:List Int)++KF),(([]:List Int)++KG),()),()),((),()))) .fail) .fail) .fail
def adv (x:t5×Unit):=(M7 x).eval
abbrev aar:=(t6×Unit)×(Unit)
def OU:Unit→Out aar
|_=> .ret (((0, -1,0,0,()),()),())
def MI (x:Unit):=(OU x).eval
def aex:bZ:=dD 130 true [] [] [i6] OU
theorem SL:aex.Ok Tryz.prog:=cb ja [] [] [] trivial (λ_=>none) Tryz.f130 [.cell 0 117] λx=>by kernel_rfl
abbrev aas:=(t7×t6×Unit)×(Unit×Unit)
def OV:t7×Unit→Out aas
|(a0,_)=> .ret ((a0,(2, -1,0,0,()),()),((),()))
def rX (x:t7×Unit):=(OV x).eval
def aey:bZ:=dD 129 true [i7] [none] [i7,i6] OV
theorem SM:aey.Ok Tryz.prog:=cb ja [] [] [] trivial (λ_=>none) Tryz.f129 [.cell 2 37, .cell 3 117] λx=>by kernel_rfl
abbrev HH:=(t7×t6×Unit)×(Unit×XI)
def xp (v0:Int) (v1:Int) (v2:Int) (v3:Int) (v4:Int) (v5:Int) (v6:Int) (v7:Int) (v8:List Int):Out (HH):= .ite (!(bV v1)) (.get (rX ((v2,v8,()),())) λ((uN,y9b,_),_)=> .ret ((uN,y9b,()),((),(),(),()))) (.ite (decide (0≤v3∧v3<((List.length v8:Nat):Int))) (.get (nth v8 (Int.toNat v3)) λ_=> .ret (((v0,(List.set v8 (Int.toNat v3) v1),()),(v4,v5,v6,v7,()),()),((),(),(),()))) .fail)
def xq (v0:Int) (v1:Int) (v2:Int) (v3:Int) (v4:Int) (v5:Int) (v6:Int) (v7:Int) (v8:List Int):Out (HH):= .ite (!(bV v1)) (.get (rX ((v2,v8,()),())) λ((lh,ahG,_),_)=> .ret ((lh,ahG,()),((),(),(),()))) (.ite (decide (0≤v3∧v3<((List.length v8:Nat):Int))) (.get (nth v8 (Int.toNat v3)) λ_=> .ret (((v0,(List.set v8 (Int.toNat v3) v1),()),(v4,v5,v6,v7,()),()),((),(),(),()))) .fail)
def C9:t8×t7×t9×Unit→Out HH
|(a0,a1,a2,_)=> .ite (decide (a1.1≥((List.length a0.1:Nat):Int))) (.get (rX (a1,())) λ((cP,y1b,_),_)=> .ret ((cP,y1b,()),((),(),(),()))) (.ite (decide (0≤a1.1)) (.get (nth a0.1 (Int.toNat a1.1)) λy2=> .get (MI ()) λ((dT,_),_)=> .ite ((y2.1==1)) (.ite (decide (0≤y2.2.1∧y2.2.1<((List.length a1.2.1:Nat):Int))) (.get (nth a1.2.1 (Int.toNat y2.2.1)) λ_=> .ret ((((IntKind.i64.wrap (a1.1+1)),(List.set a1.2.1 (Int.toNat y2.2.1) y2.2.2.1),()),dT,()),((),(),(),()))) .fail) (.ite ((y2.1==2)) (.ite (decide (0≤y2.2.2.1∧y2.2.2.1<((List.length a1.2.1:Nat):Int))) (.get (nth a1.2.1 (Int.toNat y2.2.2.1)) λy5=> .ite (decide (0≤y2.2.2.2.1∧y2.2.2.2.1<((List.length a1.2.1:Nat):Int))) (.get (nth a1.2.1 (Int.toNat y2.2.2.2.1)) λy6=> .ite ((y2.1==3)) (.ite (decide (0≤y2.2.2.1∧y2.2.2.1<((List.length a1.2.1:Nat):Int))) (.get (nth a1.2.1 (Int.toNat y2.2.2.1)) λy7=> .ite (decide (0≤y2.2.2.2.1∧y2.2.2.2.1<((List.length a1.2.1:Nat):Int))) (.get (nth a1.2.1 (Int.toNat y2.2.2.2.1)) λy8=>
 xp (IntKind.i64.wrap (a1.1+1)) (IntKind.i64.wrap (y7 - y8)) a1.1 y2.2.1 dT.1 dT.2.1 dT.2.2.1 dT.2.2.2.1 a1.2.1) .fail) .fail) (xp (IntKind.i64.wrap (a1.1+1)) (IntKind.i64.wrap (y5+y6)) a1.1 y2.2.1 dT.1 dT.2.1 dT.2.2.1 dT.2.2.2.1 a1.2.1)) .fail) .fail) (.ite ((y2.1==3)) (.ite (decide (0≤y2.2.2.1∧y2.2.2.1<((List.length a1.2.1:Nat):Int))) (.get (nth a1.2.1 (Int.toNat y2.2.2.1)) λEU=> .ite (decide (0≤y2.2.2.2.1∧y2.2.2.2.1<((List.length a1.2.1:Nat):Int))) (.get (nth a1.2.1 (Int.toNat y2.2.2.2.1)) λQB=> .ite ((y2.1==3)) (.ite (decide (0≤y2.2.2.1∧y2.2.2.1<((List.length a1.2.1:Nat):Int))) (.get (nth a1.2.1 (Int.toNat y2.2.2.1)) λy13=> .ite (decide (0≤y2.2.2.2.1∧y2.2.2.2.1<((List.length a1.2.1:Nat):Int))) (.get (nth a1.2.1 (Int.toNat y2.2.2.2.1)) λy14=>
 xq (IntKind.i64.wrap (a1.1+1)) (IntKind.i64.wrap (y13 - y14)) a1.1 y2.2.1 dT.1 dT.2.1 dT.2.2.1 dT.2.2.2.1 a1.2.1) .fail) .fail) (xq (IntKind.i64.wrap (a1.1+1)) (IntKind.i64.wrap (EU+QB)) a1.1 y2.2.1 dT.1 dT.2.1 dT.2.2.1 dT.2.2.2.1 a1.2.1)) .fail) .fail) (.ite ((y2.1==4)) (.ite (decide (0≤y2.2.2.1∧y2.2.2.1<((List.length a1.2.1:Nat):Int))) (.get (nth a1.2.1 (Int.toNat y2.2.2.1)) λRB=> .ite ((decide (RB<0))==false) (.ite (decide (RB≥((List.length a2.1:Nat):Int))) (.get (rX (a1,())) λ((sG,ahI,_),_)=> .ret ((sG,ahI,()),((),(),(),()))) (.ite ((y2.1==4)) (.ite (decide (0≤RB)) (.get (nth a2.1 (Int.toNat RB)) λUC=> .ite (decide (0≤y2.2.1∧y2.2.1<((List.length a1.2.1:Nat):Int))) (.get (nth a1.2.1 (Int.toNat y2.2.1)) λ_=> .ret ((((IntKind.i64.wrap (a1.1+1)),(List.set a1.2.1 (Int.toNat y2.2.1) UC),()),dT,()),((),(),(),()))) .fail) .fail) (.ite (decide (0≤y2.2.1∧y2.2.1<((List.length a1.2.1:Nat):Int))) (.get (nth a1.2.1 (Int.toNat y2.2.1)) λUD=> .ret ((((IntKind.i64.wrap (a1.1+1)),a1.2),(dT.1,RB,UD,dT.2.2.2),()),((),(),(),()))) .fail))) (.get (rX (a1,())) λ((OW,ahJ,_),_)=> .ret ((OW,ahJ,()),((),(),(),())))) .fail) (.ite ((y2.1==5)) (.ite (decide (0≤y2.2.2.1∧y2.2.2.1<((List.length a1.2.1:Nat):Int))) (.get (nth a1.2.1 (Int.toNat y2.2.2.1)) λy23=> .ite ((decide (y23<0))==false) (.ite (decide (y23≥((List.length a2.1:Nat):Int))) (.get (rX (a1,())) λ((Hf,ahK,_),_)=> .ret ((Hf,ahK,()),((),(),(),()))) (.ite ((y2.1==4)) (.ite (decide (0≤y23)) (.get (nth a2.1 (Int.toNat y23)) λy25=> .ite (decide (0≤y2.2.1∧y2.2.1<((List.length a1.2.1:Nat):Int))) (.get (nth a1.2.1 (Int.toNat y2.2.1)) λ_=> .ret ((((IntKind.i64.wrap (a1.1+1)),(List.set a1.2.1 (Int.toNat y2.2.1) y25),()),dT,()),((),(),(),()))) .fail) .fail) (.ite (decide (0≤y2.2.1∧y2.2.1<((List.length a1.2.1:Nat):Int))) (.get (nth a1.2.1 (Int.toNat y2.2.1)) λy27=> .ret ((((IntKind.i64.wrap (a1.1+1)),a1.2),(dT.1,y23,y27,dT.2.2.2),()),((),(),(),()))) .fail))) (.get (rX (a1,())) λ((aat,ahL,_),_)=> .ret ((aat,ahL,()),((),(),(),())))) .fail) (.ite ((y2.1==6)) (.ret (((y2.2.1,a1.2),dT,()),((),(),(),()))) (.ite ((y2.1==7)) (.ite (decide (0≤y2.2.1∧y2.2.1<((List.length a1.2.1:Nat):Int))) (.get (nth a1.2.1 (Int.toNat y2.2.1)) λy29=> .ite ((y29==0)) (.ret (((y2.2.2.1,a1.2),dT,()),((),(),(),()))) (.ret ((((IntKind.i64.wrap (a1.1+1)),a1.2),dT,()),((),(),(),())))) .fail) (.ret ((((IntKind.i64.wrap (a1.1+1)),a1.2),(1,dT.2.1,dT.2.2.1,y2.2.1,()),()),((),(),(),())))))))))) .fail)
def MJ (x:t8×t7×t9×Unit):=(C9 x).eval
def aez:bZ:=dD 108 true [i8,i7,i9] [none,none,none] [i7,i6] C9
theorem SN:aez.Ok Tryz.prog:=cb ja [] [] [aey,aex,LQ] ⟨SM,SL,Dp,trivial⟩ (λ_=>none) Tryz.f108 [.cell 6 37, .cell 7 117] λx=>by kernel_rfl
abbrev aau:=(t10×Unit)×XI
def DC:t11×t1×Unit→Out aau
|(a0,a1,_)=> .ret ((((decide ((IntKind.i64.wrap ((mx a0.2.2.2.1)+a1.1))≤(16:Int))),()),()),((),(),()))
def nB (x:t11×t1×Unit):=(DC x).eval
def OX:bZ:=dD 164 true [i11,i1] [none,none] [i10] DC
theorem xC:OX.Ok Tryz.prog:=cb ja [] [] [RV] ⟨NT,trivial⟩ (λ_=>none) Tryz.f164 [.tmp 4] λx=>by kernel_rfl
abbrev OY:=(t4×t10×Unit)×XI
def Jr (v0:Int) (v1:Int) (v2:Int) (v3:Int) (v4:List (List az)) (v5:List af) (v6:Nat) (v7:Int) (v8:Int) (v9:Int) (v10:Int) (v11:Int) (v12:List Int) (KZ:Int) (K1:Int) (QG:List aj) (Vs:List ag) (v17:List ag) (v18:List Int) (v19:List Int) (v20:List Int) (v21:List Int):Out (OY):= .ite (decide (0≤v0∧v0<((List.length v5:Nat):Int))) (.get (nth (List.set v5 v6 (v7,v8,v9,v10,(v11,v12,()),v20,v21,KZ,K1,())) (Int.toNat v0)) λy6=> .get (oP ((4,()),())) λ((lE,_),_)=> .ite (decide (0≤v0∧v0<((List.length (List.set (List.set v5 v6 (v7,v8,v9,v10,(v11,v12,()),v20,v21,KZ,K1,())) (Int.toNat v0) (y6.1,(y6.2.1,(y6.2.2.1,(v3,y6.2.2.2.2))))):Nat):Int))) (.get (nth (List.set (List.set v5 v6 (v7,v8,v9,v10,(v11,v12,()),v20,v21,KZ,K1,())) (Int.toNat v0) (y6.1,(y6.2.1,(y6.2.2.1,(v3,y6.2.2.2.2))))) (Int.toNat v0)) λy8=> .ret (((v1,v2,v4,(List.set (List.set (List.set v5 v6 (v7,v8,v9,v10,(v11,v12,()),v20,v21,KZ,K1,())) (Int.toNat v0) (y6.1,(y6.2.1,(y6.2.2.1,(v3,y6.2.2.2.2))))) (Int.toNat v0) (y8.1,(y8.2.1,(y8.2.2.1,(y8.2.2.2.1,(y8.2.2.2.2.1,(lE.1,y8.2.2.2.2.2.2))))))),QG,Vs,v17,v18,v19,()),(true,()),()),((),(),()))) .fail) .fail
def fc:t4×t12×Unit→Out OY
|(a0,a1,_)=> .ite (decide ((ak a0.2.2.2.1 a1.2.1)<0)) (.ret ((a0,(false,()),()),((),(),()))) (.ite (decide (0≤(ak a0.2.2.2.1 a1.2.1)∧(ak a0.2.2.2.1 a1.2.1)<((List.length a0.2.2.2.1:Nat):Int))) (.get (nth a0.2.2.2.1 (Int.toNat (ak a0.2.2.2.1 a1.2.1))) λy1=> .ite ((a1.1==1)) (.ite (decide (List.length ([]:List Int)+List.length a1.2.2.2.2.1≤bA)) (.ite (!(aP a1.2.2.1 (([]:List Int)++a1.2.2.2.2.1))) (.ret (((a0.1,a0.2.1,a0.2.2.1,(List.set a0.2.2.2.1 (Int.toNat (ak a0.2.2.2.1 a1.2.1)) y1),a0.2.2.2.2),(false,()),()),((),(),()))) (.ite (decide (0≤(ak a0.2.2.2.1 a1.2.1)∧(ak a0.2.2.2.1 a1.2.1)<((List.length a0.2.2.2.1:Nat):Int))) (.ite ((Int.toNat (ak a0.2.2.2.1 a1.2.1))==(Int.toNat (ak a0.2.2.2.1 a1.2.1))) (.ret (((a0.1,a0.2.1,a0.2.2.1,(List.set a0.2.2.2.1 (Int.toNat (ak a0.2.2.2.1 a1.2.1)) (y1.1,y1.2.1,y1.2.2.1,y1.2.2.2.1,(a1.2.2.1,(([]:List Int)++a1.2.2.2.2.1),()),y1.2.2.2.2.2)),a0.2.2.2.2),(true,()),()),((),(),()))) .fail) .fail)) .fail) (.ite ((a1.1==2)) (.ite ((decide (a1.2.2.1<0))==false) (.ite ((decide (a1.2.2.1≥((List.length y1.2.2.2.2.2.1:Nat):Int)))==false) (.ite (!(bV a1.2.2.2.1)) (.ret (((a0.1,a0.2.1,a0.2.2.1,(List.set a0.2.2.2.1 (Int.toNat (ak a0.2.2.2.1 a1.2.1)) y1),a0.2.2.2.2),(false,()),()),((),(),()))) (.ite (decide (0≤(ak a0.2.2.2.1 a1.2.1)∧(ak a0.2.2.2.1 a1.2.1)<((List.length a0.2.2.2.1:Nat):Int))) (.ite ((Int.toNat (ak a0.2.2.2.1 a1.2.1))==(Int.toNat (ak a0.2.2.2.1 a1.2.1))) (.ite (decide (0≤a1.2.2.1∧a1.2.2.1<((List.length y1.2.2.2.2.2.1:Nat):Int))) (.get (nth y1.2.2.2.2.2.1 (Int.toNat a1.2.2.1)) λ_=> .ret (((a0.1,a0.2.1,a0.2.2.1,(List.set a0.2.2.2.1 (Int.toNat (ak a0.2.2.2.1 a1.2.1)) (y1.1,y1.2.1,y1.2.2.1,y1.2.2.2.1,y1.2.2.2.2.1,(List.set y1.2.2.2.2.2.1 (Int.toNat a1.2.2.1) a1.2.2.2.1),y1.2.2.2.2.2.2)),a0.2.2.2.2),(true,()),()),((),(),()))) .fail) .fail) .fail)) (.ret (((a0.1,a0.2.1,a0.2.2.1,(List.set a0.2.2.2.1 (Int.toNat (ak a0.2.2.2.1 a1.2.1)) y1),a0.2.2.2.2),(false,()),()),((),(),())))) (.ret (((a0.1,a0.2.1,a0.2.2.1,(List.set a0.2.2.2.1 (Int.toNat (ak a0.2.2.2.1 a1.2.1)) y1),a0.2.2.2.2),(false,()),()),((),(),())))) (.ite ((a1.1==3)) (.ite (decide (0≤(ak a0.2.2.2.1 a1.2.1)∧(ak a0.2.2.2.1 a1.2.1)<((List.length a0.2.2.2.1:Nat):Int))) (.ite ((Int.toNat (ak a0.2.2.2.1 a1.2.1))==(Int.toNat (ak a0.2.2.2.1 a1.2.1))) (.ite (decide (0≤(ak a0.2.2.2.1 a1.2.1)∧(ak a0.2.2.2.1 a1.2.1)<((List.length a0.2.2.2.1:Nat):Int))) (.ite ((Int.toNat (ak a0.2.2.2.1 a1.2.1))==(Int.toNat (ak a0.2.2.2.1 a1.2.1))) (.ret (((a0.1,a0.2.1,a0.2.2.1,(List.set a0.2.2.2.1 (Int.toNat (ak a0.2.2.2.1 a1.2.1)) (y1.1,y1.2.1,a1.2.2.1,y1.2.2.2.1,y1.2.2.2.2.1,y1.2.2.2.2.2.1,y1.2.2.2.2.2.2.1,a1.2.2.2.1,y1.2.2.2.2.2.2.2.2)),a0.2.2.2.2),(true,()),()),((),(),()))) .fail) .fail) .fail) .fail) (.ite ((a1.1==5)) (.ite (decide (0≤(ak a0.2.2.2.1 a1.2.1)∧(ak a0.2.2.2.1 a1.2.1)<((List.length a0.2.2.2.1:Nat):Int))) (.ite ((Int.toNat (ak a0.2.2.2.1 a1.2.1))==(Int.toNat (ak a0.2.2.2.1 a1.2.1))) (.ret (((a0.1,a0.2.1,a0.2.2.1,(List.set a0.2.2.2.1 (Int.toNat (ak a0.2.2.2.1 a1.2.1)) (y1.1,y1.2.1,y1.2.2.1,y1.2.2.2.1,y1.2.2.2.2.1,([]:List Int),y1.2.2.2.2.2.2)),a0.2.2.2.2),(true,()),()),((),(),()))) .fail) .fail) (.ite ((a1.1==6)) (.ite (decide (0≤(0:Int)∧(0:Int)≤(ak a0.2.2.2.1 a1.2.1)∧(ak a0.2.2.2.1 a1.2.1)≤((List.length a0.2.2.2.1:Nat):Int))) (.ite (decide (0≤(0+Int.toNat (0:Int))∧List.length ([]:List af)+(Int.toNat (ak a0.2.2.2.1 a1.2.1) - Int.toNat (0:Int))≤bA)) (.ite (decide (0≤(IntKind.i64.wrap ((ak a0.2.2.2.1 a1.2.1)+1))∧(IntKind.i64.wrap ((ak a0.2.2.2.1 a1.2.1)+1))≤((((0+Int.toNat (0:Int))+(Int.toNat (ak a0.2.2.2.1 a1.2.1) - Int.toNat (0:Int)))+List.length (List.drop ((0+Int.toNat (0:Int)) - 0+(Int.toNat (ak a0.2.2.2.1 a1.2.1) - Int.toNat (0:Int))) (List.set a0.2.2.2.1 (Int.toNat (ak a0.2.2.2.1 a1.2.1)) y1)):Nat):Int)∧((((0+Int.toNat (0:Int))+(Int.toNat (ak a0.2.2.2.1 a1.2.1) - Int.toNat (0:Int)))+List.length (List.drop ((0+Int.toNat (0:Int)) - 0+(Int.toNat (ak a0.2.2.2.1 a1.2.1) - Int.toNat (0:Int))) (List.set a0.2.2.2.1 (Int.toNat (ak a0.2.2.2.1 a1.2.1)) y1)):Nat):Int)≤((((0+Int.toNat (0:Int))+(Int.toNat (ak a0.2.2.2.1 a1.2.1) - Int.toNat (0:Int)))+List.length (List.drop ((0+Int.toNat (0:Int)) - 0+(Int.toNat (ak a0.2.2.2.1 a1.2.1) - Int.toNat (0:Int))) (List.set a0.2.2.2.1 (Int.toNat (ak a0.2.2.2.1 a1.2.1)) y1)):Nat):Int))) (.ite (decide (((0+Int.toNat (0:Int))+(Int.toNat (ak a0.2.2.2.1 a1.2.1) - Int.toNat (0:Int)))≤(0+Int.toNat (IntKind.i64.wrap ((ak a0.2.2.2.1 a1.2.1)+1)))∧List.length (([]:List af)++List.take (Int.toNat (ak a0.2.2.2.1 a1.2.1) - Int.toNat (0:Int)) (List.drop ((0+Int.toNat (0:Int)) - 0) (List.set a0.2.2.2.1 (Int.toNat (ak a0.2.2.2.1 a1.2.1)) y1)))+(Int.toNat ((((0+Int.toNat (0:Int))+(Int.toNat (ak a0.2.2.2.1 a1.2.1) - Int.toNat (0:Int)))+List.length (List.drop ((0+Int.toNat (0:Int)) - 0+(Int.toNat (ak a0.2.2.2.1 a1.2.1) - Int.toNat (0:Int))) (List.set a0.2.2.2.1 (Int.toNat (ak a0.2.2.2.1 a1.2.1)) y1)):Nat):Int) - Int.toNat (IntKind.i64.wrap ((ak a0.2.2.2.1 a1.2.1)+1)))≤bA)) (.ret (((a0.1,a0.2.1,a0.2.2.1,((([]:List af)++List.take (Int.toNat (ak a0.2.2.2.1 a1.2.1) - Int.toNat (0:Int)) (List.drop ((0+Int.toNat (0:Int)) - 0) (List.set a0.2.2.2.1 (Int.toNat (ak a0.2.2.2.1 a1.2.1)) y1)))++List.take (Int.toNat ((((0+Int.toNat (0:Int))+(Int.toNat (ak a0.2.2.2.1 a1.2.1) - Int.toNat (0:Int)))+List.length (List.drop ((0+Int.toNat (0:Int)) - 0+(Int.toNat (ak a0.2.2.2.1 a1.2.1) - Int.toNat (0:Int))) (List.set a0.2.2.2.1 (Int.toNat (ak a0.2.2.2.1 a1.2.1)) y1)):Nat):Int) - Int.toNat (IntKind.i64.wrap ((ak a0.2.2.2.1 a1.2.1)+1))) (List.drop ((0+Int.toNat (IntKind.i64.wrap ((ak a0.2.2.2.1 a1.2.1)+1))) - ((0+Int.toNat (0:Int))+(Int.toNat (ak a0.2.2.2.1 a1.2.1) - Int.toNat (0:Int)))) (List.drop ((0+Int.toNat (0:Int)) - 0+(Int.toNat (ak a0.2.2.2.1 a1.2.1) - Int.toNat (0:Int))) (List.set a0.2.2.2.1 (Int.toNat (ak a0.2.2.2.1 a1.2.1)) y1)))),a0.2.2.2.2),(true,()),()),((),(),()))) .fail) .fail) .fail) .fail) (.ite ((a1.1==7)) (.ite ((4:Int)==0) .fail (.ite ((decide ((IntKind.i64.wrap (Int.tdiv ((List.length y1.2.2.2.2.2.1:Nat):Int) (4:Int)))≥(3:Int)))==false) (.get (nB ((a0.1,a0.2.1,a0.2.2.1,(List.set a0.2.2.2.1 (Int.toNat (ak a0.2.2.2.1 a1.2.1)) y1),a0.2.2.2.2),(1,()),())) λ((dT,_),_)=> .ite (!dT.1) (.ret (((a0.1,a0.2.1,a0.2.2.1,(List.set a0.2.2.2.1 (Int.toNat (ak a0.2.2.2.1 a1.2.1)) y1),a0.2.2.2.2),(false,()),()),((),(),()))) (.ite (decide (List.length ([]:List Int)+List.length y1.2.2.2.2.2.1≤bA)) (.get (oP ((4,()),())) λ((gR,_),_)=> .ite (decide (List.length (([]:List Int)++y1.2.2.2.2.2.1)+List.length gR.1≤bA)) (.ite (decide (0≤(ak a0.2.2.2.1 a1.2.1)∧(ak a0.2.2.2.1 a1.2.1)<((List.length a0.2.2.2.1:Nat):Int))) (.ite ((Int.toNat (ak a0.2.2.2.1 a1.2.1))==(Int.toNat (ak a0.2.2.2.1 a1.2.1))) (.ret (((a0.1,a0.2.1,a0.2.2.1,(List.set a0.2.2.2.1 (Int.toNat (ak a0.2.2.2.1 a1.2.1)) (y1.1,y1.2.1,y1.2.2.1,y1.2.2.2.1,y1.2.2.2.2.1,((([]:List Int)++y1.2.2.2.2.2.1)++gR.1),y1.2.2.2.2.2.2)),a0.2.2.2.2),(true,()),()),((),(),()))) .fail) .fail) .fail) .fail)) (.ret (((a0.1,a0.2.1,a0.2.2.1,(List.set a0.2.2.2.1 (Int.toNat (ak a0.2.2.2.1 a1.2.1)) y1),a0.2.2.2.2),(false,()),()),((),(),()))))) (.ite ((a1.1==8)) (.ite ((decide (a1.2.2.1<0))==false) (.ite ((decide (a1.2.2.1≥((List.length a0.2.2.1:Nat):Int)))==false) (.ite (((((List.length y1.2.2.2.2.2.1:Nat):Int)==0))==true) (.get (nB ((a0.1,a0.2.1,a0.2.2.1,(List.set a0.2.2.2.1 (Int.toNat (ak a0.2.2.2.1 a1.2.1)) y1),a0.2.2.2.2),(1,()),())) λ((jt,_),_)=> .ite (!jt.1) (.ret (((a0.1,a0.2.1,a0.2.2.1,(List.set a0.2.2.2.1 (Int.toNat (ak a0.2.2.2.1 a1.2.1)) y1),a0.2.2.2.2),(false,()),()),((),(),()))) (Jr (ak a0.2.2.2.1 a1.2.1) a0.1 a0.2.1 a1.2.2.1 a0.2.2.1 a0.2.2.2.1 (Int.toNat (ak a0.2.2.2.1 a1.2.1)) y1.1 y1.2.1 y1.2.2.1 y1.2.2.2.1 y1.2.2.2.2.1.1 y1.2.2.2.2.1.2.1 y1.2.2.2.2.2.2.2.1 y1.2.2.2.2.2.2.2.2.1 a0.2.2.2.2.1 a0.2.2.2.2.2.1 a0.2.2.2.2.2.2.1 a0.2.2.2.2.2.2.2.1 a0.2.2.2.2.2.2.2.2.1 y1.2.2.2.2.2.1 y1.2.2.2.2.2.2.1)) (Jr (ak a0.2.2.2.1 a1.2.1) a0.1 a0.2.1 a1.2.2.1 a0.2.2.1 a0.2.2.2.1 (Int.toNat (ak a0.2.2.2.1 a1.2.1)) y1.1 y1.2.1 y1.2.2.1 y1.2.2.2.1 y1.2.2.2.2.1.1 y1.2.2.2.2.1.2.1 y1.2.2.2.2.2.2.2.1 y1.2.2.2.2.2.2.2.2.1 a0.2.2.2.2.1 a0.2.2.2.2.2.1 a0.2.2.2.2.2.2.1 a0.2.2.2.2.2.2.2.1 a0.2.2.2.2.2.2.2.2.1 y1.2.2.2.2.2.1 y1.2.2.2.2.2.2.1)) (.ret (((a0.1,a0.2.1,a0.2.2.1,(List.set a0.2.2.2.1 (Int.toNat (ak a0.2.2.2.1 a1.2.1)) y1),a0.2.2.2.2),(false,()),()),((),(),())))) (.ret (((a0.1,a0.2.1,a0.2.2.1,(List.set a0.2.2.2.1 (Int.toNat (ak a0.2.2.2.1 a1.2.1)) y1),a0.2.2.2.2),(false,()),()),((),(),())))) (.ite ((a1.1==9)) (.ite ((decide (a1.2.2.1<0))==false) (.ite (decide (a1.2.2.1≥((List.length y1.2.2.2.2.2.2.1:Nat):Int))) (.ret (((a0.1,a0.2.1,a0.2.2.1,(List.set a0.2.2.2.1 (Int.toNat (ak a0.2.2.2.1 a1.2.1)) y1),a0.2.2.2.2),(false,()),()),((),(),()))) (.ite (decide (0≤(ak a0.2.2.2.1 a1.2.1)∧(ak a0.2.2.2.1 a1.2.1)<((List.length a0.2.2.2.1:Nat):Int))) (.ite ((Int.toNat (ak a0.2.2.2.1 a1.2.1))==(Int.toNat (ak a0.2.2.2.1 a1.2.1))) (.ite (decide (0≤a1.2.2.1∧a1.2.2.1<((List.length y1.2.2.2.2.2.2.1:Nat):Int))) (.get (nth y1.2.2.2.2.2.2.1 (Int.toNat a1.2.2.1)) λ_=> .ret (((a0.1,a0.2.1,a0.2.2.1,(List.set a0.2.2.2.1 (Int.toNat (ak a0.2.2.2.1 a1.2.1)) (y1.1,y1.2.1,y1.2.2.1,y1.2.2.2.1,y1.2.2.2.2.1,y1.2.2.2.2.2.1,(List.set y1.2.2.2.2.2.2.1 (Int.toNat a1.2.2.1) a1.2.2.2.1),y1.2.2.2.2.2.2.2)),a0.2.2.2.2),(true,()),()),((),(),()))) .fail) .fail) .fail)) (.ret (((a0.1,a0.2.1,a0.2.2.1,(List.set a0.2.2.2.1 (Int.toNat (ak a0.2.2.2.1 a1.2.1)) y1),a0.2.2.2.2),(false,()),()),((),(),())))) (.ite ((a1.1==25)) (.ite (decide (0≤(ak a0.2.2.2.1 a1.2.1)∧(ak a0.2.2.2.1 a1.2.1)<((List.length a0.2.2.2.1:Nat):Int))) (.ite ((Int.toNat (ak a0.2.2.2.1 a1.2.1))==(Int.toNat (ak a0.2.2.2.1 a1.2.1))) (.ret (((a0.1,a0.2.1,a0.2.2.1,(List.set a0.2.2.2.1 (Int.toNat (ak a0.2.2.2.1 a1.2.1)) (y1.1,a1.2.2.1,y1.2.2)),a0.2.2.2.2),(true,()),()),((),(),()))) .fail) .fail) (.ite (decide (0≤(ak a0.2.2.2.1 a1.2.1)∧(ak a0.2.2.2.1 a1.2.1)<((List.length a0.2.2.2.1:Nat):Int))) (.ite ((Int.toNat (ak a0.2.2.2.1 a1.2.1))==(Int.toNat (ak a0.2.2.2.1 a1.2.1))) (.ret (((a0.1,a0.2.1,a0.2.2.1,(List.set a0.2.2.2.1 (Int.toNat (ak a0.2.2.2.1 a1.2.1)) (y1.1,y1.2.1,y1.2.2.1,y1.2.2.2.1,y1.2.2.2.2.1,y1.2.2.2.2.2.1,y1.2.2.2.2.2.2.1,y1.2.2.2.2.2.2.2.1,a1.2.2.1,())),a0.2.2.2.2),(true,()),()),((),(),()))) .fail) .fail)))))))))) .fail)
def kA (x:t4×t12×Unit):=(fc x).eval
def aeD:bZ:=dD 157 false [i4,i12] [none,none] [i4,i10] fc
theorem SO:aeD.Ok Tryz.prog:=cb bI [2054] [(1029,1),(2054,1),(7944,2)] [Ja,RW,LQ,OX,k29] ⟨rV,NU,Dp,xC,Dg,trivial⟩ (λ_=>none) Tryz.f157 [.cell 4 31, .tmp 5] λx=>by kernel_rfl
abbrev aav:=(t4×t10×Unit)×XI
def DD:t4×t12×Unit→Out aav
|(a0,a1,_)=> .ite ((decide ((ak a0.2.2.2.1 a1.2.2.1)<0))==false) (.ite (((a1.2.1 != a0.1))==false) (.ite ((decide (a1.2.1≥(100000:Int)))==false) (.ite ((decide (((List.length a0.2.2.2.1:Nat):Int)≥(6:Int)))==false) (.ite (decide (0≤(ak a0.2.2.2.1 a1.2.2.1)∧(ak a0.2.2.2.1 a1.2.2.1)<((List.length a0.2.2.2.1:Nat):Int))) (.get (nth a0.2.2.2.1 (Int.toNat (ak a0.2.2.2.1 a1.2.2.1))) λy1=> .ite ((4:Int)==0) .fail (.get (nB ((a0.1,a0.2.1,a0.2.2.1,(List.set a0.2.2.2.1 (Int.toNat (ak a0.2.2.2.1 a1.2.2.1)) (y1.1,(y1.2.1,(y1.2.2.1,(y1.2.2.2.1,(y1.2.2.2.2.1,(y1.2.2.2.2.2.1,y1.2.2.2.2.2.2))))))),a0.2.2.2.2),((IntKind.i64.wrap (Int.tdiv ((List.length y1.2.2.2.2.2.1:Nat):Int) (4:Int))),()),())) λ((cm,_),_)=> .ite (!cm.1) (.ret (((a0.1,a0.2.1,a0.2.2.1,(List.set a0.2.2.2.1 (Int.toNat (ak a0.2.2.2.1 a1.2.2.1)) (y1.1,(y1.2.1,(y1.2.2.1,(y1.2.2.2.1,(y1.2.2.2.2.1,(y1.2.2.2.2.2.1,y1.2.2.2.2.2.2))))))),a0.2.2.2.2),(false,()),()),((),(),()))) (.ite (decide (0≤(ak a0.2.2.2.1 a1.2.2.1)∧(ak a0.2.2.2.1 a1.2.2.1)<((List.length a0.2.2.2.1:Nat):Int))) (.get (nth (List.set a0.2.2.2.1 (Int.toNat (ak a0.2.2.2.1 a1.2.2.1)) (y1.1,(y1.2.1,(y1.2.2.1,(y1.2.2.2.1,(y1.2.2.2.2.1,(y1.2.2.2.2.2.1,y1.2.2.2.2.2.2))))))) (Int.toNat (ak a0.2.2.2.1 a1.2.2.1))) λy3=> .get (fV y3.1 y3.2.1 y3.2.2.1 y3.2.2.2.1 y3.2.2.2.2.1.1 y3.2.2.2.2.1.2.1 y3.2.2.2.2.2.1 y3.2.2.2.2.2.2.1 y3.2.2.2.2.2.2.2.1 y3.2.2.2.2.2.2.2.2.1) λy4=> .ite (decide (List.length (List.set (List.set a0.2.2.2.1 (Int.toNat (ak a0.2.2.2.1 a1.2.2.1)) (y1.1,(y1.2.1,(y1.2.2.1,(y1.2.2.2.1,(y1.2.2.2.2.1,(y1.2.2.2.2.2.1,y1.2.2.2.2.2.2))))))) (Int.toNat (ak a0.2.2.2.1 a1.2.2.1)) y3)+List.length ([(a1.2.1,a1.2.2.1,1,y4.2.2.2.1,(y4.2.2.2.2.1,y4.2.2.2.2.2.1,()),y4.2.2.2.2.2.2.1,y4.2.2.2.2.2.2.2.1,0,0,())]:List af)≤bA)) (.ret ((((IntKind.i64.wrap (a1.2.1+1)),a0.2.1,a0.2.2.1,((List.set (List.set a0.2.2.2.1 (Int.toNat (ak a0.2.2.2.1 a1.2.2.1)) (y1.1,(y1.2.1,(y1.2.2.1,(y1.2.2.2.1,(y1.2.2.2.2.1,(y1.2.2.2.2.2.1,y1.2.2.2.2.2.2))))))) (Int.toNat (ak a0.2.2.2.1 a1.2.2.1)) y3)++([(a1.2.1,a1.2.2.1,1,y4.2.2.2.1,(y4.2.2.2.2.1,y4.2.2.2.2.2.1,()),y4.2.2.2.2.2.2.1,y4.2.2.2.2.2.2.2.1,0,0,())]:List af)),a0.2.2.2.2),(true,()),()),((),(),()))) .fail) .fail))) .fail) (.ret ((a0,(false,()),()),((),(),())))) (.ret ((a0,(false,()),()),((),(),())))) (.ret ((a0,(false,()),()),((),(),())))) (.ret ((a0,(false,()),()),((),(),())))
def OZ (x:t4×t12×Unit):=(DD x).eval
def aeE:bZ:=dD 156 false [i4,i12] [none,none] [i4,i10] DD
theorem SP:aeE.Ok Tryz.prog:=cb bI [1030] [(1029,1),(1030,32)] [Ja,OX,SG] ⟨rV,xC,HE,trivial⟩ (λ_=>none) Tryz.f156 [.cell 4 31, .tmp 5] λx=>by kernel_rfl
abbrev aaw:=(t4×t10×Unit)×XI
abbrev Js:=(Bool×Int×Unit)×((Int×Int×Unit)×(Int×Int×Int×Int×List Int×Unit)×(Int×Int×Unit)×List aj×List (List az)×List af×List aj×List ag×List ag×List Int×List Int×LO)
def qK:Js→Out (Round Js ((Bool×Unit)×((Int×Int×Unit)×(Int×Int×Int×Int×List Int×Unit)×(Int×Int×Unit)×List aj×List (List az)×List af×List aj×List ag×List ag×List Int×List Int×LO)) Empty)
|((p0,p1,_),(p2,p3,_),(p4,p5,p6,p7,p8,_),(p9,cH,_),cK,eH,eU,ei,dq,eI,fD,fN,fk,gm,gh,ju,lD,oI,rr,_)=> .ite (decide (p1<((List.length ei:Nat):Int))) (.ite ((!p0)==true) (.ite (decide (0≤p1∧p1<((List.length ei:Nat):Int))) (.get (nth ei (Int.toNat p1)) λy1=> .ite (decide (y1.1>p5)) (.ite (decide (List.length cK+List.length ([(p5,p6,p7,0,0,())]:List aj)≤bA)) (.ite (decide (0≤p1∧p1<((List.length ei:Nat):Int))) (.get (nth ei (Int.toNat p1)) λy2=> .ite (decide (List.length (cK++([(p5,p6,p7,0,0,())]:List aj))+List.length ([y2]:List aj)≤bA)) (.ret (.again ((true,(IntKind.i64.wrap (p1+1)),()),((p2,p3,()),(p4,p5,p6,p7,p8,()),(p9,cH,()),((cK++([(p5,p6,p7,0,0,())]:List aj))++([y2]:List aj)),eH,eU,ei,dq,eI,fD,fN,fk,gm,gh,ju,lD,oI,rr,())))) .fail) .fail) .fail) (.ite (decide (0≤p1∧p1<((List.length ei:Nat):Int))) (.get (nth ei (Int.toNat p1)) λy3=> .ite (decide (List.length cK+List.length ([y3]:List aj)≤bA)) (.ret (.again ((p0,(IntKind.i64.wrap (p1+1)),()),((p2,p3,()),(p4,p5,p6,p7,p8,()),(p9,cH,()),(cK++([y3]:List aj)),eH,eU,ei,dq,eI,fD,fN,fk,gm,gh,ju,lD,oI,rr,())))) .fail) .fail)) .fail) (.ite (decide (0≤p1∧p1<((List.length ei:Nat):Int))) (.get (nth ei (Int.toNat p1)) λy4=> .ite (decide (List.length cK+List.length ([y4]:List aj)≤bA)) (.ret (.again ((p0,(IntKind.i64.wrap (p1+1)),()),((p2,p3,()),(p4,p5,p6,p7,p8,()),(p9,cH,()),(cK++([y4]:List aj)),eH,eU,ei,dq,eI,fD,fN,fk,gm,gh,ju,lD,oI,rr,())))) .fail) .fail)) (.ret (.out ((p0,()),((p2,p3,()),(p4,p5,p6,p7,p8,()),(p9,cH,()),cK,eH,eU,ei,dq,eI,fD,fN,fk,gm,gh,ju,lD,oI,rr,()))))
def mz:t4×t12×Unit→Out aaw
|(a0,a1,_)=> .ite ((a1.1==10)) (.ite ((decide ((aF a0.2.2.2.2.1 a1.2.1)≥(0:Int)))==false) (.ite (!(dh a1.2.1 (0:Int) (7:Int))) (.ret ((a0,(false,()),()),((),(),()))) (.get (bx qK bc ((false,0,()),((a0.1,a0.2.1,()),(a1.1,a1.2.1,a1.2.2.1,a1.2.2.2.1,a1.2.2.2.2.1,()),(0,0,()),([]:List aj),a0.2.2.1,a0.2.2.2.1,a0.2.2.2.2.1,a0.2.2.2.2.2.1,a0.2.2.2.2.2.2.1,a0.2.2.2.2.2.2.2.1,a0.2.2.2.2.2.2.2.2.1,([]:List (List az)),([]:List af),([]:List aj),([]:List ag),([]:List ag),([]:List Int),([]:List Int),()))) λ((Df,_),(wY,wZ,_),(_,w8,sF,w9,_),_,vj,xa,AJ,_,AK,AL,SQ,SR,_)=> .ite (!Df) (.ite (decide (List.length vj+List.length ([(w8,sF,w9,0,0,())]:List aj)≤bA)) (.ret (((wY,wZ,xa,AJ,(vj++([(w8,sF,w9,0,0,())]:List aj)),AK,AL,SQ,SR,()),(true,()),()),((),(),()))) .fail) (.ret (((wY,wZ,xa,AJ,vj,AK,AL,SQ,SR,()),(true,()),()),((),(),()))))) (.ret ((a0,(false,()),()),((),(),())))) (.ite (decide ((aF a0.2.2.2.2.1 a1.2.1)<0)) (.ret ((a0,(false,()),()),((),(),()))) (.ite ((a1.1==11)) (.ite (decide (0≤(aF a0.2.2.2.2.1 a1.2.1)∧(aF a0.2.2.2.2.1 a1.2.1)<((List.length a0.2.2.2.2.1:Nat):Int))) (.get (nth a0.2.2.2.2.1 (Int.toNat (aF a0.2.2.2.2.1 a1.2.1))) λy2=> .ite (decide (0≤(aF a0.2.2.2.2.1 a1.2.1)∧(aF a0.2.2.2.2.1 a1.2.1)<((List.length a0.2.2.2.2.1:Nat):Int))) (.get (nth a0.2.2.2.2.1 (Int.toNat (aF a0.2.2.2.2.1 a1.2.1))) λy3=> .ret (((a0.1,a0.2.1,a0.2.2.1,a0.2.2.2.1,(List.set a0.2.2.2.2.1 (Int.toNat (aF a0.2.2.2.2.1 a1.2.1)) (y3.1,(y3.2.1,(y3.2.2.1,(y3.2.2.2.1,((IntKind.i64.wrap (y2.2.2.2.2.1+a1.2.2.1)),y3.2.2.2.2.2)))))),a0.2.2.2.2.2),(true,()),()),((),(),()))) .fail) .fail) (.ite ((a1.1==13)) (.ite (decide (0≤(aF a0.2.2.2.2.1 a1.2.1)∧(aF a0.2.2.2.2.1 a1.2.1)<((List.length a0.2.2.2.2.1:Nat):Int))) (.get (nth a0.2.2.2.2.1 (Int.toNat (aF a0.2.2.2.2.1 a1.2.1))) λy4=> .ret (((a0.1,a0.2.1,a0.2.2.1,a0.2.2.2.1,(List.set a0.2.2.2.2.1 (Int.toNat (aF a0.2.2.2.2.1 a1.2.1)) (y4.1,(y4.2.1,(y4.2.2.1,(a1.2.2.1,y4.2.2.2.2))))),a0.2.2.2.2.2),(true,()),()),((),(),()))) .fail) (.ite (decide (0≤(0:Int)∧(0:Int)≤(aF a0.2.2.2.2.1 a1.2.1)∧(aF a0.2.2.2.2.1 a1.2.1)≤((List.length a0.2.2.2.2.1:Nat):Int))) (.ite (decide (List.length ([]:List aj)+List.length (List.take (Int.toNat (aF a0.2.2.2.2.1 a1.2.1) - Int.toNat (0:Int)) (List.drop (0+Int.toNat (0:Int)) a0.2.2.2.2.1))≤bA)) (.ite (decide (0≤(IntKind.i64.wrap ((aF a0.2.2.2.2.1 a1.2.1)+1))∧(IntKind.i64.wrap ((aF a0.2.2.2.2.1 a1.2.1)+1))≤((List.length a0.2.2.2.2.1:Nat):Int)∧((List.length a0.2.2.2.2.1:Nat):Int)≤((List.length a0.2.2.2.2.1:Nat):Int))) (.ite (decide (List.length (([]:List aj)++(List.take (Int.toNat (aF a0.2.2.2.2.1 a1.2.1) - Int.toNat (0:Int)) (List.drop (0+Int.toNat (0:Int)) a0.2.2.2.2.1)))+List.length (List.take (Int.toNat ((List.length a0.2.2.2.2.1:Nat):Int) - Int.toNat (IntKind.i64.wrap ((aF a0.2.2.2.2.1 a1.2.1)+1))) (List.drop (0+Int.toNat (IntKind.i64.wrap ((aF a0.2.2.2.2.1 a1.2.1)+1))) a0.2.2.2.2.1))≤bA)) (.ret (((a0.1,a0.2.1,a0.2.2.1,a0.2.2.2.1,((([]:List aj)++(List.take (Int.toNat (aF a0.2.2.2.2.1 a1.2.1) - Int.toNat (0:Int)) (List.drop (0+Int.toNat (0:Int)) a0.2.2.2.2.1)))++(List.take (Int.toNat ((List.length a0.2.2.2.2.1:Nat):Int) - Int.toNat (IntKind.i64.wrap ((aF a0.2.2.2.2.1 a1.2.1)+1))) (List.drop (0+Int.toNat (IntKind.i64.wrap ((aF a0.2.2.2.2.1 a1.2.1)+1))) a0.2.2.2.2.1))),a0.2.2.2.2.2),(true,()),()),((),(),()))) .fail) .fail) .fail) .fail))))
def zn (x:t4×t12×Unit):=(mz x).eval
abbrev Jt:List (Nat×eA):=[(64000000, .var [.i .i64, .i .i64, .bg 64000004, .bg 64000005, .bg 64000006, .bg 64000007, .bg 64000008, .bg 64000009, .bg 64000010]),(64000001, .var [.i .i64, .i .i64, .i .i64, .i .i64, .ro dI (some 7)]),(64000002, .var [.i .i64, .i .i64, .bg 64000011, .bg 64000012, .bg 64000013, .bg 64000014, .bg 64000015, .bg 64000016, .bg 64000017]),(64000003, .arr dZ),(64000004, .arr (.fz dk)),(64000005, .arr kR),(64000006, .arr dZ),(64000007, .arr dj),(64000008, .arr dj),(64000009, .arr dI),(64000010, .arr dI),(64000011, .arr (.fz dk)),(64000012, .arr kR),(64000013, .arr dZ),(64000014, .arr dj),(64000015, .arr dj),(64000016, .arr dI),(64000017, .arr dI)]
def aax:Nat→Option aq:=λn=>b6 [(0,⟨⟨[.dead, .dead, .vptr 64000000 0, .vptr 64000001 0, .vptr 64000002 0, .dead, .dead, .bg 64000003, .b, .i .i64]++dd 116,Jt⟩,⟨[.dead, .dead, .vptr 64000000 0, .vptr 64000001 0, .vptr 64000002 0, .dead, .dead, .bg 64000003, .b]++dd 117,Jt⟩,none,false⟩)] n
def aeF:bZ:=dD 158 false [i4,i12] [none,none] [i4,i10] mz
theorem SS:aeF.Ok Tryz.prog:=cb bI [] [] [KU,vu] ⟨vD,jW,trivial⟩ aax Tryz.f158 [.cell 4 31, .tmp 5] λx=>by kernel_rfl
abbrev aay:=(t4×t10×Unit)×XI
abbrev Ju:=(Bool×Int×Unit)×((Int×Int×Unit)×(Int×Int×Int×Int×List Int×Unit)×(Int×Int×Unit)×List ag×List (List az)×List af×List aj×List ag×List ag×List Int×List Int×LO)
def qL:Ju→Out (Round Ju ((Bool×Unit)×((Int×Int×Unit)×(Int×Int×Int×Int×List Int×Unit)×(Int×Int×Unit)×List ag×List (List az)×List af×List aj×List ag×List ag×List Int×List Int×LO)) Empty)
|((p0,p1,_),(p2,p3,_),(p4,p5,p6,p7,p8,_),(p9,cH,_),cK,eH,eU,ei,dq,eI,fD,fN,fk,gm,gh,ju,lD,oI,rr,_)=> .ite (decide (p1<((List.length dq:Nat):Int))) (.ite ((!p0)==true) (.ite (decide (0≤p1∧p1<((List.length dq:Nat):Int))) (.get (nth dq (Int.toNat p1)) λy1=> .ite (decide (y1.1>p5)) (.ite (decide (List.length cK+List.length ([(p5,([]:List Int),())]:List ag)≤bA)) (.ite (decide (0≤p1∧p1<((List.length dq:Nat):Int))) (.get (nth dq (Int.toNat p1)) λy2=> .ite (decide (List.length (cK++([(p5,([]:List Int),())]:List ag))+List.length ([y2]:List ag)≤bA)) (.ret (.again ((true,(IntKind.i64.wrap (p1+1)),()),((p2,p3,()),(p4,p5,p6,p7,p8,()),(p9,cH,()),((cK++([(p5,([]:List Int),())]:List ag))++([y2]:List ag)),eH,eU,ei,dq,eI,fD,fN,fk,gm,gh,ju,lD,oI,rr,())))) .fail) .fail) .fail) (.ite (decide (0≤p1∧p1<((List.length dq:Nat):Int))) (.get (nth dq (Int.toNat p1)) λy3=> .ite (decide (List.length cK+List.length ([y3]:List ag)≤bA)) (.ret (.again ((p0,(IntKind.i64.wrap (p1+1)),()),((p2,p3,()),(p4,p5,p6,p7,p8,()),(p9,cH,()),(cK++([y3]:List ag)),eH,eU,ei,dq,eI,fD,fN,fk,gm,gh,ju,lD,oI,rr,())))) .fail) .fail)) .fail) (.ite (decide (0≤p1∧p1<((List.length dq:Nat):Int))) (.get (nth dq (Int.toNat p1)) λy4=> .ite (decide (List.length cK+List.length ([y4]:List ag)≤bA)) (.ret (.again ((p0,(IntKind.i64.wrap (p1+1)),()),((p2,p3,()),(p4,p5,p6,p7,p8,()),(p9,cH,()),(cK++([y4]:List ag)),eH,eU,ei,dq,eI,fD,fN,fk,gm,gh,ju,lD,oI,rr,())))) .fail) .fail)) (.ret (.out ((p0,()),((p2,p3,()),(p4,p5,p6,p7,p8,()),(p9,cH,()),cK,eH,eU,ei,dq,eI,fD,fN,fk,gm,gh,ju,lD,oI,rr,()))))
def mA:t4×t12×Unit→Out aay
|(a0,a1,_)=> .ite ((a1.1==14)) (.ite ((decide ((ba a0.2.2.2.2.2.1 a1.2.1)≥(0:Int)))==false) (.ite (!(dh a1.2.1 (0:Int) (2:Int))) (.ret ((a0,(false,()),()),((),(),()))) (.get (bx qL bc ((false,0,()),((a0.1,a0.2.1,()),(a1.1,a1.2.1,a1.2.2.1,a1.2.2.2.1,a1.2.2.2.2.1,()),(0,0,()),([]:List ag),a0.2.2.1,a0.2.2.2.1,a0.2.2.2.2.1,a0.2.2.2.2.2.1,a0.2.2.2.2.2.2.1,a0.2.2.2.2.2.2.2.1,a0.2.2.2.2.2.2.2.2.1,([]:List (List az)),([]:List af),([]:List aj),([]:List ag),([]:List ag),([]:List Int),([]:List Int),()))) λ((Df,_),(wY,wZ,_),(_,w8,_),_,sF,w9,vj,xa,_,AJ,AK,AL,_)=> .ite (!Df) (.ite (decide (List.length sF+List.length ([(w8,([]:List Int),())]:List ag)≤bA)) (.ret (((wY,wZ,w9,vj,xa,(sF++([(w8,([]:List Int),())]:List ag)),AJ,AK,AL,()),(true,()),()),((),(),()))) .fail) (.ret (((wY,wZ,w9,vj,xa,sF,AJ,AK,AL,()),(true,()),()),((),(),()))))) (.ret ((a0,(false,()),()),((),(),())))) (.ite (decide ((ba a0.2.2.2.2.2.1 a1.2.1)<0)) (.ret ((a0,(false,()),()),((),(),()))) (.ite (decide (0≤(ba a0.2.2.2.2.2.1 a1.2.1)∧(ba a0.2.2.2.2.2.1 a1.2.1)<((List.length a0.2.2.2.2.2.1:Nat):Int))) (.get (nth a0.2.2.2.2.2.1 (Int.toNat (ba a0.2.2.2.2.2.1 a1.2.1))) λy2=> .ite ((a1.1==15)) (.ite (decide (((List.length y2.2.1:Nat):Int)≥(4:Int))) (.ret ((a0,(false,()),()),((),(),()))) (.ite (decide (List.length ([]:List Int)+List.length y2.2.1≤bA)) (.ite (decide (List.length (([]:List Int)++y2.2.1)+List.length ([a1.2.2.1]:List Int)≤bA)) (.ite (decide (0≤(ba a0.2.2.2.2.2.1 a1.2.1)∧(ba a0.2.2.2.2.2.1 a1.2.1)<((List.length a0.2.2.2.2.2.1:Nat):Int))) (.get (nth a0.2.2.2.2.2.1 (Int.toNat (ba a0.2.2.2.2.2.1 a1.2.1))) λy3=> .ret (((a0.1,a0.2.1,a0.2.2.1,a0.2.2.2.1,a0.2.2.2.2.1,(List.set a0.2.2.2.2.2.1 (Int.toNat (ba a0.2.2.2.2.2.1 a1.2.1)) (y3.1,(((([]:List Int)++y2.2.1)++([a1.2.2.1]:List Int)),y3.2.2))),a0.2.2.2.2.2.2),(true,()),()),((),(),()))) .fail) .fail) .fail)) (.ite ((a1.1==16)) (.ite ((((List.length y2.2.1:Nat):Int)==0)) (.ret ((a0,(false,()),()),((),(),()))) (.ite (decide (0≤(1:Int)∧(1:Int)≤((List.length y2.2.1:Nat):Int))) (.ite (decide (List.length ([]:List Int)+List.length (List.drop (Int.toNat (1:Int)) y2.2.1)≤bA)) (.ite (decide (0≤(ba a0.2.2.2.2.2.1 a1.2.1)∧(ba a0.2.2.2.2.2.1 a1.2.1)<((List.length a0.2.2.2.2.2.1:Nat):Int))) (.get (nth a0.2.2.2.2.2.1 (Int.toNat (ba a0.2.2.2.2.2.1 a1.2.1))) λy4=> .ret (((a0.1,a0.2.1,a0.2.2.1,a0.2.2.2.1,a0.2.2.2.2.1,(List.set a0.2.2.2.2.2.1 (Int.toNat (ba a0.2.2.2.2.2.1 a1.2.1)) (y4.1,((([]:List Int)++(List.drop (Int.toNat (1:Int)) y2.2.1)),y4.2.2))),a0.2.2.2.2.2.2),(true,()),()),((),(),()))) .fail) .fail) .fail)) (.ite (decide (0≤(0:Int)∧(0:Int)≤(ba a0.2.2.2.2.2.1 a1.2.1)∧(ba a0.2.2.2.2.2.1 a1.2.1)≤((List.length a0.2.2.2.2.2.1:Nat):Int))) (.ite (decide (List.length ([]:List ag)+List.length (List.take (Int.toNat (ba a0.2.2.2.2.2.1 a1.2.1) - Int.toNat (0:Int)) (List.drop (0+Int.toNat (0:Int)) a0.2.2.2.2.2.1))≤bA)) (.ite (decide (0≤(IntKind.i64.wrap ((ba a0.2.2.2.2.2.1 a1.2.1)+1))∧(IntKind.i64.wrap ((ba a0.2.2.2.2.2.1 a1.2.1)+1))≤((List.length a0.2.2.2.2.2.1:Nat):Int)∧((List.length a0.2.2.2.2.2.1:Nat):Int)≤((List.length a0.2.2.2.2.2.1:Nat):Int))) (.ite (decide (List.length (([]:List ag)++(List.take (Int.toNat (ba a0.2.2.2.2.2.1 a1.2.1) - Int.toNat (0:Int)) (List.drop (0+Int.toNat (0:Int)) a0.2.2.2.2.2.1)))+List.length (List.take (Int.toNat ((List.length a0.2.2.2.2.2.1:Nat):Int) - Int.toNat (IntKind.i64.wrap ((ba a0.2.2.2.2.2.1 a1.2.1)+1))) (List.drop (0+Int.toNat (IntKind.i64.wrap ((ba a0.2.2.2.2.2.1 a1.2.1)+1))) a0.2.2.2.2.2.1))≤bA)) (.ret (((a0.1,a0.2.1,a0.2.2.1,a0.2.2.2.1,a0.2.2.2.2.1,((([]:List ag)++(List.take (Int.toNat (ba a0.2.2.2.2.2.1 a1.2.1) - Int.toNat (0:Int)) (List.drop (0+Int.toNat (0:Int)) a0.2.2.2.2.2.1)))++(List.take (Int.toNat ((List.length a0.2.2.2.2.2.1:Nat):Int) - Int.toNat (IntKind.i64.wrap ((ba a0.2.2.2.2.2.1 a1.2.1)+1))) (List.drop (0+Int.toNat (IntKind.i64.wrap ((ba a0.2.2.2.2.2.1 a1.2.1)+1))) a0.2.2.2.2.2.1))),a0.2.2.2.2.2.2),(true,()),()),((),(),()))) .fail) .fail) .fail) .fail))) .fail))
def zo (x:t4×t12×Unit):=(mA x).eval
abbrev xD:List (Nat×eA):=[(64000000, .var [.i .i64, .i .i64, .bg 64000004, .bg 64000005, .bg 64000006, .bg 64000007, .bg 64000008, .bg 64000009, .bg 64000010]),(64000001, .var [.i .i64, .i .i64, .i .i64, .i .i64, .ro dI (some 7)]),(64000002, .var [.i .i64, .i .i64, .bg 64000011, .bg 64000012, .bg 64000013, .bg 64000014, .bg 64000015, .bg 64000016, .bg 64000017]),(64000003, .arr dj),(64000004, .arr (.fz dk)),(64000005, .arr kR),(64000006, .arr dZ),(64000007, .arr dj),(64000008, .arr dj),(64000009, .arr dI),(64000010, .arr dI),(64000011, .arr (.fz dk)),(64000012, .arr kR),(64000013, .arr dZ),(64000014, .arr dj),(64000015, .arr dj),(64000016, .arr dI),(64000017, .arr dI)]
def aaz:Nat→Option aq:=λn=>b6 [(0,⟨⟨[.dead, .dead, .vptr 64000000 0, .vptr 64000001 0, .vptr 64000002 0, .dead, .dead, .bg 64000003, .b, .i .i64]++dd 123,xD⟩,⟨[.dead, .dead, .vptr 64000000 0, .vptr 64000001 0, .vptr 64000002 0, .dead, .dead, .bg 64000003, .b]++dd 124,xD⟩,none,false⟩)] n
def aeG:bZ:=dD 159 false [i4,i12] [none,none] [i4,i10] mA
theorem SU:aeG.Ok Tryz.prog:=cb bI [] [(6925,6),(7946,6)] [LU,vu] ⟨yW,jW,trivial⟩ aaz Tryz.f159 [.cell 4 31, .tmp 5] λx=>by kernel_rfl
abbrev O0:=(t4×t10×Unit)×XI
abbrev Jv:=(Bool×Int×Unit)×((Int×Int×Unit)×(Int×Int×Int×Int×List Int×Unit)×(Int×Int×Unit)×List ag×List (List az)×List af×List aj×List ag×List ag×List Int×List Int×LO)
def qM:Jv→Out (Round Jv ((Bool×Unit)×((Int×Int×Unit)×(Int×Int×Int×Int×List Int×Unit)×(Int×Int×Unit)×List ag×List (List az)×List af×List aj×List ag×List ag×List Int×List Int×LO)) Empty)
|((p0,p1,_),(p2,p3,_),(p4,p5,p6,p7,p8,_),(p9,cH,_),cK,eH,eU,ei,dq,eI,fD,fN,fk,gm,gh,ju,lD,oI,rr,_)=> .ite (decide (p1<((List.length eI:Nat):Int))) (.ite ((!p0)==true) (.ite (decide (0≤p1∧p1<((List.length eI:Nat):Int))) (.get (nth eI (Int.toNat p1)) λy1=> .ite (decide (y1.1>p5)) (.ite (decide (List.length cK+List.length ([(p5,([]:List Int),())]:List ag)≤bA)) (.ite (decide (0≤p1∧p1<((List.length eI:Nat):Int))) (.get (nth eI (Int.toNat p1)) λy2=> .ite (decide (List.length (cK++([(p5,([]:List Int),())]:List ag))+List.length ([y2]:List ag)≤bA)) (.ret (.again ((true,(IntKind.i64.wrap (p1+1)),()),((p2,p3,()),(p4,p5,p6,p7,p8,()),(p9,cH,()),((cK++([(p5,([]:List Int),())]:List ag))++([y2]:List ag)),eH,eU,ei,dq,eI,fD,fN,fk,gm,gh,ju,lD,oI,rr,())))) .fail) .fail) .fail) (.ite (decide (0≤p1∧p1<((List.length eI:Nat):Int))) (.get (nth eI (Int.toNat p1)) λy3=> .ite (decide (List.length cK+List.length ([y3]:List ag)≤bA)) (.ret (.again ((p0,(IntKind.i64.wrap (p1+1)),()),((p2,p3,()),(p4,p5,p6,p7,p8,()),(p9,cH,()),(cK++([y3]:List ag)),eH,eU,ei,dq,eI,fD,fN,fk,gm,gh,ju,lD,oI,rr,())))) .fail) .fail)) .fail) (.ite (decide (0≤p1∧p1<((List.length eI:Nat):Int))) (.get (nth eI (Int.toNat p1)) λy4=> .ite (decide (List.length cK+List.length ([y4]:List ag)≤bA)) (.ret (.again ((p0,(IntKind.i64.wrap (p1+1)),()),((p2,p3,()),(p4,p5,p6,p7,p8,()),(p9,cH,()),(cK++([y4]:List ag)),eH,eU,ei,dq,eI,fD,fN,fk,gm,gh,ju,lD,oI,rr,())))) .fail) .fail)) (.ret (.out ((p0,()),((p2,p3,()),(p4,p5,p6,p7,p8,()),(p9,cH,()),cK,eH,eU,ei,dq,eI,fD,fN,fk,gm,gh,ju,lD,oI,rr,()))))
def Jw (v0:Int) (v1:Int) (v2:Int) (v3:List Int) (v4:List (List az)) (v5:List af) (v6:List aj) (v7:List ag) (v8:List ag) (v9:List Int) (v10:List Int):Out (O0):= .ite (decide (0≤v0∧v0<((List.length v8:Nat):Int))) (.get (nth v8 (Int.toNat v0)) λy3=> .ret (((v1,v2,v4,v5,v6,v7,(List.set v8 (Int.toNat v0) (y3.1,(v3,y3.2.2))),v9,v10,()),(true,()),()),((),(),()))) .fail
def pe:t4×t12×Unit→Out O0
|(a0,a1,_)=> .ite ((a1.1==18)) (.ite ((decide ((bj a0.2.2.2.2.2.2.1 a1.2.1)≥(0:Int)))==false) (.ite (!(dh a1.2.1 (0:Int) (5:Int))) (.ret ((a0,(false,()),()),((),(),()))) (.get (bx qM bc ((false,0,()),((a0.1,a0.2.1,()),(a1.1,a1.2.1,a1.2.2.1,a1.2.2.2.1,a1.2.2.2.2.1,()),(0,0,()),([]:List ag),a0.2.2.1,a0.2.2.2.1,a0.2.2.2.2.1,a0.2.2.2.2.2.1,a0.2.2.2.2.2.2.1,a0.2.2.2.2.2.2.2.1,a0.2.2.2.2.2.2.2.2.1,([]:List (List az)),([]:List af),([]:List aj),([]:List ag),([]:List ag),([]:List Int),([]:List Int),()))) λ((Df,_),(wY,wZ,_),(_,w8,_),_,sF,w9,vj,xa,AJ,_,AK,AL,_)=> .ite (!Df) (.ite (decide (List.length sF+List.length ([(w8,([]:List Int),())]:List ag)≤bA)) (.ret (((wY,wZ,w9,vj,xa,AJ,(sF++([(w8,([]:List Int),())]:List ag)),AK,AL,()),(true,()),()),((),(),()))) .fail) (.ret (((wY,wZ,w9,vj,xa,AJ,sF,AK,AL,()),(true,()),()),((),(),()))))) (.ret ((a0,(false,()),()),((),(),())))) (.ite (decide ((bj a0.2.2.2.2.2.2.1 a1.2.1)<0)) (.ret ((a0,(false,()),()),((),(),()))) (.ite ((a1.1==20)) (.ite (decide (0≤(0:Int)∧(0:Int)≤(bj a0.2.2.2.2.2.2.1 a1.2.1)∧(bj a0.2.2.2.2.2.2.1 a1.2.1)≤((List.length a0.2.2.2.2.2.2.1:Nat):Int))) (.ite (decide (List.length ([]:List ag)+List.length (List.take (Int.toNat (bj a0.2.2.2.2.2.2.1 a1.2.1) - Int.toNat (0:Int)) (List.drop (0+Int.toNat (0:Int)) a0.2.2.2.2.2.2.1))≤bA)) (.ite (decide (0≤(IntKind.i64.wrap ((bj a0.2.2.2.2.2.2.1 a1.2.1)+1))∧(IntKind.i64.wrap ((bj a0.2.2.2.2.2.2.1 a1.2.1)+1))≤((List.length a0.2.2.2.2.2.2.1:Nat):Int)∧((List.length a0.2.2.2.2.2.2.1:Nat):Int)≤((List.length a0.2.2.2.2.2.2.1:Nat):Int))) (.ite (decide (List.length (([]:List ag)++(List.take (Int.toNat (bj a0.2.2.2.2.2.2.1 a1.2.1) - Int.toNat (0:Int)) (List.drop (0+Int.toNat (0:Int)) a0.2.2.2.2.2.2.1)))+List.length (List.take (Int.toNat ((List.length a0.2.2.2.2.2.2.1:Nat):Int) - Int.toNat (IntKind.i64.wrap ((bj a0.2.2.2.2.2.2.1 a1.2.1)+1))) (List.drop (0+Int.toNat (IntKind.i64.wrap ((bj a0.2.2.2.2.2.2.1 a1.2.1)+1))) a0.2.2.2.2.2.2.1))≤bA)) (.ret (((a0.1,a0.2.1,a0.2.2.1,a0.2.2.2.1,a0.2.2.2.2.1,a0.2.2.2.2.2.1,((([]:List ag)++(List.take (Int.toNat (bj a0.2.2.2.2.2.2.1 a1.2.1) - Int.toNat (0:Int)) (List.drop (0+Int.toNat (0:Int)) a0.2.2.2.2.2.2.1)))++(List.take (Int.toNat ((List.length a0.2.2.2.2.2.2.1:Nat):Int) - Int.toNat (IntKind.i64.wrap ((bj a0.2.2.2.2.2.2.1 a1.2.1)+1))) (List.drop (0+Int.toNat (IntKind.i64.wrap ((bj a0.2.2.2.2.2.2.1 a1.2.1)+1))) a0.2.2.2.2.2.2.1))),a0.2.2.2.2.2.2.2),(true,()),()),((),(),()))) .fail) .fail) .fail) .fail) (.ite (decide (0≤(bj a0.2.2.2.2.2.2.1 a1.2.1)∧(bj a0.2.2.2.2.2.2.1 a1.2.1)<((List.length a0.2.2.2.2.2.2.1:Nat):Int))) (.get (nth a0.2.2.2.2.2.2.1 (Int.toNat (bj a0.2.2.2.2.2.2.1 a1.2.1))) λy2=> .ite (decide (List.length ([]:List Int)+List.length y2.2.1≤bA)) (.ite ((decide (a1.2.2.1<0))==false) (.ite ((decide (a1.2.2.1>((List.length (([]:List Int)++y2.2.1):Nat):Int)))==false) (.ite (decide (a1.2.2.1≥(8:Int))) (.ret ((a0,(false,()),()),((),(),()))) (.ite ((a1.2.2.1==((List.length (([]:List Int)++y2.2.1):Nat):Int))) (.ite (decide (List.length (([]:List Int)++y2.2.1)+List.length ([a1.2.2.2.1]:List Int)≤bA)) (Jw (bj a0.2.2.2.2.2.2.1 a1.2.1) a0.1 a0.2.1 ((([]:List Int)++y2.2.1)++([a1.2.2.2.1]:List Int)) a0.2.2.1 a0.2.2.2.1 a0.2.2.2.2.1 a0.2.2.2.2.2.1 a0.2.2.2.2.2.2.1 a0.2.2.2.2.2.2.2.1 a0.2.2.2.2.2.2.2.2.1) .fail) (.ite (decide (0≤a1.2.2.1∧a1.2.2.1<((List.length (([]:List Int)++y2.2.1):Nat):Int))) (.get (nth (([]:List Int)++y2.2.1) (Int.toNat a1.2.2.1)) λ_=>
 Jw (bj a0.2.2.2.2.2.2.1 a1.2.1) a0.1 a0.2.1 (List.set (([]:List Int)++y2.2.1) (Int.toNat a1.2.2.1) a1.2.2.2.1) a0.2.2.1 a0.2.2.2.1 a0.2.2.2.2.1 a0.2.2.2.2.2.1 a0.2.2.2.2.2.2.1 a0.2.2.2.2.2.2.2.1 a0.2.2.2.2.2.2.2.2.1) .fail))) (.ret ((a0,(false,()),()),((),(),())))) (.ret ((a0,(false,()),()),((),(),())))) .fail) .fail)))
def DE (x:t4×t12×Unit):=(pe x).eval
def aaA:Nat→Option aq:=λn=>b6 [(0,⟨⟨[.dead, .dead, .vptr 64000000 0, .vptr 64000001 0, .vptr 64000002 0, .dead, .dead, .bg 64000003, .b, .i .i64]++dd 132,xD⟩,⟨[.dead, .dead, .vptr 64000000 0, .vptr 64000001 0, .vptr 64000002 0, .dead, .dead, .bg 64000003, .b]++dd 133,xD⟩,none,false⟩)] n
def aeH:bZ:=dD 160 false [i4,i12] [none,none] [i4,i10] pe
theorem SV:aeH.Ok Tryz.prog:=cb bI [] [(7687,6)] [LV,vu] ⟨yX,jW,trivial⟩ aaA Tryz.f160 [.cell 4 31, .tmp 5] λx=>by kernel_rfl
abbrev aaB:=(t4×t10×Unit)×XI
abbrev Jx:=(Int×Unit)×((Int×Int×Unit)×(Int×Int×Int×Int×List Int×Unit)×(Int×Int×Unit)×List (List az)×List af×List aj×List ag×List ag×List Int×List Int×LO)
def mc:Jx→Out (Round Jx ((Unit)×((Int×Int×Unit)×(Int×Int×Unit)×List (List az)×List af×List aj×List ag×List ag×List Int×List Int×LO)) ((Bool×Unit)×((Int×Int×Unit)×LO)))
|((p0,_),(p1,p2,_),(p3,p4,p5,p6,p7,_),(p8,p9,_),cH,cK,eH,eU,ei,dq,eI,fD,fN,fk,gm,gh,ju,lD,_)=> .ite (decide (p0<((List.length dq:Nat):Int))) (.ite (decide (0≤p0∧p0<((List.length dq:Nat):Int))) (.get (nth dq (Int.toNat p0)) λy1=> .ite ((y1==p4)) (.ite (decide (0≤(0:Int)∧(0:Int)≤p0∧p0≤((List.length dq:Nat):Int))) (.ite (decide (List.length ([]:List Int)+List.length (List.take (Int.toNat p0 - Int.toNat (0:Int)) (List.drop (0+Int.toNat (0:Int)) dq))≤bA)) (.ite (decide (0≤(IntKind.i64.wrap (p0+1))∧(IntKind.i64.wrap (p0+1))≤((List.length dq:Nat):Int)∧((List.length dq:Nat):Int)≤((List.length dq:Nat):Int))) (.ite (decide (List.length (([]:List Int)++(List.take (Int.toNat p0 - Int.toNat (0:Int)) (List.drop (0+Int.toNat (0:Int)) dq)))+List.length (List.take (Int.toNat ((List.length dq:Nat):Int) - Int.toNat (IntKind.i64.wrap (p0+1))) (List.drop (0+Int.toNat (IntKind.i64.wrap (p0+1))) dq))≤bA)) (.ret (.ret ((true,()),((p1,p2,()),cH,cK,eH,eU,ei,((([]:List Int)++(List.take (Int.toNat p0 - Int.toNat (0:Int)) (List.drop (0+Int.toNat (0:Int)) dq)))++(List.take (Int.toNat ((List.length dq:Nat):Int) - Int.toNat (IntKind.i64.wrap (p0+1))) (List.drop (0+Int.toNat (IntKind.i64.wrap (p0+1))) dq))),eI,())))) .fail) .fail) .fail) .fail) (.ret (.again (((IntKind.i64.wrap (p0+1)),()),((p1,p2,()),(p3,p4,p5,p6,p7,()),(p8,p9,()),cH,cK,eH,eU,ei,dq,eI,fD,fN,fk,gm,gh,ju,lD,()))))) .fail) (.ret (.out ((),((p1,p2,()),(p8,p9,()),cH,cK,eH,eU,ei,dq,eI,fD,fN,fk,gm,gh,ju,lD,()))))
def mB:t4×t12×Unit→Out aaB
|(a0,a1,_)=> .ite ((a1.1==21)) (.ite (decide (((List.length a0.2.2.2.2.2.2.2.1:Nat):Int)≥(6:Int))) (.ret ((a0,(false,()),()),((),(),()))) (.ite (decide (List.length a0.2.2.2.2.2.2.2.1+List.length ([a1.2.1]:List Int)≤bA)) (.ret (((a0.1,a0.2.1,a0.2.2.1,a0.2.2.2.1,a0.2.2.2.2.1,a0.2.2.2.2.2.1,a0.2.2.2.2.2.2.1,(a0.2.2.2.2.2.2.2.1++([a1.2.1]:List Int)),a0.2.2.2.2.2.2.2.2),(true,()),()),((),(),()))) .fail)) (.ite ((a1.1==22)) (.get (iter mc bc ((0,()),((a0.1,a0.2.1,()),(a1.1,a1.2.1,a1.2.2.1,a1.2.2.2.1,a1.2.2.2.2.1,()),(0,0,()),a0.2.2.1,a0.2.2.2.1,a0.2.2.2.2.1,a0.2.2.2.2.2.1,a0.2.2.2.2.2.2.1,a0.2.2.2.2.2.2.2.1,a0.2.2.2.2.2.2.2.2.1,([]:List (List az)),([]:List af),([]:List aj),([]:List ag),([]:List ag),([]:List Int),([]:List Int),()))) λy1=> .alt y1 (λy2=> .ret (((y2.2.1.1,y2.2.1.2.1,y2.2.2.2.1,y2.2.2.2.2.1,y2.2.2.2.2.2.1,y2.2.2.2.2.2.2.1,y2.2.2.2.2.2.2.2.1,y2.2.2.2.2.2.2.2.2.1,y2.2.2.2.2.2.2.2.2.2.1,()),(false,()),()),((),(),()))) (λy3=> .ret (((y3.2.1.1,y3.2.1.2.1,y3.2.2.1,y3.2.2.2.1,y3.2.2.2.2.1,y3.2.2.2.2.2.1,y3.2.2.2.2.2.2.1,y3.2.2.2.2.2.2.2.1,y3.2.2.2.2.2.2.2.2.1,()),(y3.1.1,()),()),((),(),())))) (.ite ((a1.1==23)) (.ite (decide (((List.length a0.2.2.2.2.2.2.2.2.1:Nat):Int)≥(60:Int))) (.ret ((a0,(false,()),()),((),(),()))) (.ite (decide (List.length a0.2.2.2.2.2.2.2.2.1+List.length ([a1.2.1]:List Int)≤bA)) (.ret (((a0.1,a0.2.1,a0.2.2.1,a0.2.2.2.1,a0.2.2.2.2.1,a0.2.2.2.2.2.1,a0.2.2.2.2.2.2.1,a0.2.2.2.2.2.2.2.1,(a0.2.2.2.2.2.2.2.2.1++([a1.2.1]:List Int)),()),(true,()),()),((),(),()))) .fail)) (.ite ((a1.1==24)) (.ite (decide (a0.2.1≥(1000000:Int))) (.ret ((a0,(false,()),()),((),(),()))) (.ret (((a0.1,(IntKind.i64.wrap (a0.2.1+1)),a0.2.2),(true,()),()),((),(),())))) (.ret ((a0,(false,()),()),((),(),()))))))
def zp (x:t4×t12×Unit):=(mB x).eval
def aaC:Nat→Option aq:=λn=>b6 [(1,⟨⟨[.dead, .dead, .vptr 64000000 0, .vptr 64000001 0, .vptr 64000002 0, .dead, .i .i64]++dd 76,[(64000000, .var [.i .i64, .i .i64, .bg 64000003, .bg 64000004, .bg 64000005, .bg 64000006, .bg 64000007, .bg 64000008, .bg 64000009]),(64000001, .var [.i .i64, .i .i64, .i .i64, .i .i64, .ro dI (some 7)]),(64000002, .var [.i .i64, .i .i64, .bg 64000010, .bg 64000011, .bg 64000012, .bg 64000013, .bg 64000014, .bg 64000015, .bg 64000016]),(64000003, .arr (.fz dk)),(64000004, .arr kR),(64000005, .arr dZ),(64000006, .arr dj),(64000007, .arr dj),(64000008, .arr dI),(64000009, .arr dI),(64000010, .arr (.fz dk)),(64000011, .arr kR),(64000012, .arr dZ),(64000013, .arr dj),(64000014, .arr dj),(64000015, .arr dI),(64000016, .arr dI)]⟩,⟨[.dead, .dead, .vptr 64000000 0, .dead, .vptr 64000001 0]++dd 78,[(64000000, .var [.i .i64, .i .i64, .bg 64000002, .bg 64000003, .bg 64000004, .bg 64000005, .bg 64000006, .bg 64000007, .bg 64000008]),(64000001, .var [.i .i64, .i .i64, .bg 64000009, .bg 64000010, .bg 64000011, .bg 64000012, .bg 64000013, .bg 64000014, .bg 64000015]),(64000002, .arr (.fz dk)),(64000003, .arr kR),(64000004, .arr dZ),(64000005, .arr dj),(64000006, .arr dj),(64000007, .arr dI),(64000008, .arr dI),(64000009, .arr (.fz dk)),(64000010, .arr kR),(64000011, .arr dZ),(64000012, .arr dj),(64000013, .arr dj),(64000014, .arr dI),(64000015, .arr dI)]⟩,some ⟨dd 4++[.vptr 64000000 0, .b]++dd 77,[(64000000, .var [.i .i64, .i .i64, .bg 64000001, .bg 64000002, .bg 64000003, .bg 64000004, .bg 64000005, .bg 64000006, .bg 64000007]),(64000001, .arr (.fz dk)),(64000002, .arr kR),(64000003, .arr dZ),(64000004, .arr dj),(64000005, .arr dj),(64000006, .arr dI),(64000007, .arr dI)]⟩,false⟩)] n
def aeI:bZ:=dD 161 false [i4,i12] [none,none] [i4,i10] mB
theorem SW:aeI.Ok Tryz.prog:=cb bI [] [] [] trivial aaC Tryz.f161 [.cell 4 31, .tmp 5] λx=>by kernel_rfl
abbrev aaD:=(t4×t10×Unit)×XI
def bB:t4×t12×Unit→Out aaD
|(a0,a1,_)=> .ite ((a1.1==4)) (.get (OZ (a0,a1,())) λ((cP,y1b,_),_)=> .ret ((cP,y1b,()),((),(),()))) (.ite ((dh a1.1 (1:Int) (9:Int))==false) (.ite (dh a1.1 (25:Int) (26:Int)) (.get (kA (a0,a1,())) λ((cm,y2b,_),_)=> .ret ((cm,y2b,()),((),(),()))) (.ite (dh a1.1 (10:Int) (13:Int)) (.get (zn (a0,a1,())) λ((dT,y3b,_),_)=> .ret ((dT,y3b,()),((),(),()))) (.ite (dh a1.1 (14:Int) (17:Int)) (.get (zo (a0,a1,())) λ((gR,y4b,_),_)=> .ret ((gR,y4b,()),((),(),()))) (.ite (dh a1.1 (18:Int) (20:Int)) (.get (DE (a0,a1,())) λ((jt,Vt,_),_)=> .ret ((jt,Vt,()),((),(),()))) (.get (zp (a0,a1,())) λ((oB,y6b,_),_)=> .ret ((oB,y6b,()),((),(),()))))))) (.get (kA (a0,a1,())) λ((lE,y7b,_),_)=> .ret ((lE,y7b,()),((),(),()))))
def dw (x:t4×t12×Unit):=(bB x).eval
def aeJ:bZ:=dD 128 false [i4,i12] [none,none] [i4,i10] bB
theorem SX:aeJ.Ok Tryz.prog:=cb bI [] [] [aeE,vu,aeD,aeF,aeG,aeH,aeI] ⟨SP,jW,SO,SS,SU,SV,SW,trivial⟩ (λ_=>none) Tryz.f128 [.cell 4 31, .tmp 5] λx=>by kernel_rfl
abbrev aaF:=(t13×Unit)×XI
def DF:t13×t12×Unit→Out aaF
|(a0,a1,_)=> .get (dw ((a0.1,a0.2.1,a0.2.2.1,a0.2.2.2.1,a0.2.2.2.2.1,a0.2.2.2.2.2.1,a0.2.2.2.2.2.2.1,a0.2.2.2.2.2.2.2.1,a0.2.2.2.2.2.2.2.2.1,()),a1,())) λ((cP,_),_)=> .ite (decide (List.length a0.2.2.2.2.2.2.2.2.2.1+List.length ([a1]:List ((Int×Int×Int×Int×List Int×Unit)))≤bA)) (.ret (((cP.1,cP.2.1,cP.2.2.1,cP.2.2.2.1,cP.2.2.2.2.1,cP.2.2.2.2.2.1,cP.2.2.2.2.2.2.1,cP.2.2.2.2.2.2.2.1,cP.2.2.2.2.2.2.2.2.1,(a0.2.2.2.2.2.2.2.2.2.1++([a1]:List ((Int×Int×Int×Int×List Int×Unit)))),()),()),((),(),()))) .fail
def br (x:t13×t12×Unit):=(DF x).eval
def mV:bZ:=dD 105 false [i13,i12] [none,none] [i13] DF
theorem eJ:mV.Ok Tryz.prog:=cb bI [] [] [aeJ] ⟨SX,trivial⟩ (λ_=>none) Tryz.f105 [.cell 4 93] λx=>by kernel_rfl
abbrev aaG:=(t12×Unit)×(Unit×Unit×XI)
def O1:t1×t1×t1×t1×Unit→Out aaG
|(a0,a1,a2,a3,_)=> .ret (((a0.1,a1.1,a2.1,a3.1,([]:List Int),()),()),((),(),(),(),()))
def bQ (x:t1×t1×t1×t1×Unit):=(O1 x).eval
def oC:bZ:=dD 106 false [i1,i1,i1,i1] [none,none,none,none] [i12] O1
theorem ft:oC.Ok Tryz.prog:=cb bI [] [] [] trivial (λ_=>none) Tryz.f106 [.cell 8 113] λx=>by kernel_rfl
abbrev SY:=(t13×Unit)×(Unit×XI)
def xE:t13×t1×t7×Unit→Out SY
|(a0,a1,a2,_)=> .ite (decide (List.length ([]:List Int)+List.length a2.2.1≤bA)) (.get (br (a0,(1,a1.1,a2.1,0,(([]:List Int)++a2.2.1),()),())) λ((cP,_),_)=> .ret ((cP,()),((),(),(),()))) .fail
def xF (x:t13×t1×t7×Unit):=(xE x).eval
def Jy:bZ:=dD 111 false [i13,i1,i7] [none,none,none] [i13] xE
theorem zq:Jy.Ok Tryz.prog:=cb bI [264] [(264,1)] [mV] ⟨eJ,trivial⟩ (λ_=>none) Tryz.f111 [.cell 6 93] λx=>by kernel_rfl
abbrev aaH:=(t13×Unit)×(Unit×XI)
def O3:t13×t1×t14×Unit→Out aaH
|(a0,a1,a2,_)=> .ite (decide (List.length ([]:List Int)+List.length a2.2.1≤bA)) (.get (br (a0,(1,a1.1,a2.1,0,(([]:List Int)++a2.2.1),()),())) λ((cP,_),_)=> .ret ((cP,()),((),(),(),()))) .fail
def O4 (x:t13×t1×t14×Unit):=(O3 x).eval
def aeK:bZ:=dD 111 false [i13,i1,i14] [none,none,none] [i13] O3
theorem SZ:aeK.Ok Tryz.prog:=cb bI [264] [(264,1)] [mV] ⟨eJ,trivial⟩ (λ_=>none) Tryz.f111 [.cell 6 93] λx=>by kernel_rfl
abbrev S0:=(t13×Unit)×(Unit×Unit×XI)
def xG:t13×t1×t7×t1×Unit→Out S0
|(a0,a1,a2,a3,_)=> .ite (decide (List.length ([]:List Int)+List.length a2.2.1≤bA)) (.ite (decide (0≤(0:Int)∧(0:Int)<((List.length (([]:List Int)++a2.2.1):Nat):Int))) (.get (nth (([]:List Int)++a2.2.1) (Int.toNat (0:Int))) λ_=> .get (xF (a0,a1,(a2.1,(List.set (([]:List Int)++a2.2.1) (Int.toNat (0:Int)) a3.1),()),())) λ((cm,_),_)=> .ret ((cm,()),((),(),(),(),()))) .fail) .fail
def Jz (x:t13×t1×t7×t1×Unit):=(xG x).eval
def Vu:bZ:=dD 134 false [i13,i1,i7,i1] [none,none,none,none] [i13] xG
theorem O5:Vu.Ok Tryz.prog:=cb bI [] [] [Jy] ⟨zq,trivial⟩ (λ_=>none) Tryz.f134 [.cell 8 93] λx=>by kernel_rfl
abbrev aaI:=(t13×Unit)×(Unit×Unit×XI)
def O6:t13×t1×t14×t1×Unit→Out aaI
|(a0,a1,a2,a3,_)=> .ite (decide (List.length ([]:List Int)+List.length a2.2.1≤bA)) (.ite (decide (0≤(0:Int)∧(0:Int)<((List.length (([]:List Int)++a2.2.1):Nat):Int))) (.get (nth (([]:List Int)++a2.2.1) (Int.toNat (0:Int))) λ_=> .get (xF (a0,a1,(a2.1,(List.set (([]:List Int)++a2.2.1) (Int.toNat (0:Int)) a3.1),()),())) λ((cm,_),_)=> .ret ((cm,()),((),(),(),(),()))) .fail) .fail
def bt (x:t13×t1×t14×t1×Unit):=(O6 x).eval
def tM:bZ:=dD 134 false [i13,i1,i14,i1] [none,none,none,none] [i13] O6
theorem iz:tM.Ok Tryz.prog:=cb bI [] [] [Jy] ⟨zq,trivial⟩ (λ_=>none) Tryz.f134 [.cell 8 93] λx=>by kernel_rfl
abbrev aaJ:=(t13×Unit)×(Unit×Unit×Unit×XI)
def DG:t13×t1×t14×t1×t1×Unit→Out aaJ
|(a0,a1,a2,a3,a4,_)=> .ite (decide (List.length ([]:List Int)+List.length a2.2.1≤bA)) (.ite (decide (0≤(1:Int)∧(1:Int)<((List.length (([]:List Int)++a2.2.1):Nat):Int))) (.get (nth (([]:List Int)++a2.2.1) (Int.toNat (1:Int))) λ_=> .get (Jz (a0,a1,(a2.1,(List.set (([]:List Int)++a2.2.1) (Int.toNat (1:Int)) a4.1),()),a3,())) λ((cm,_),_)=> .ret ((cm,()),((),(),(),(),(),()))) .fail) .fail
def uU (x:t13×t1×t14×t1×t1×Unit):=(DG x).eval
def S1:bZ:=dD 165 false [i13,i1,i14,i1,i1] [none,none,none,none,none] [i13] DG
theorem DH:S1.Ok Tryz.prog:=cb bI [] [] [Vu] ⟨O5,trivial⟩ (λ_=>none) Tryz.f165 [.cell 10 93] λx=>by kernel_rfl
abbrev aaK:=(t13×Unit)×(Unit×Unit×XI)
def DI:t13×t1×t1×t1×Unit→Out aaK
|(a0,a1,a2,a3,_)=> .get (bQ ((3,()),a1,a2,a3,())) λ((cP,_),_)=> .get (br (a0,cP,())) λ((cm,_),_)=> .get (bQ ((22,()),a1,(0,()),(0,()),())) λ((dT,_),_)=> .get (br (cm,dT,())) λ((gR,_),_)=> .ret ((gR,()),((),(),(),(),()))
def uX (x:t13×t1×t1×t1×Unit):=(DI x).eval
def O7:bZ:=dD 166 false [i13,i1,i1,i1] [none,none,none,none] [i13] DI
theorem xH:O7.Ok Tryz.prog:=cb bI [] [] [oC,mV] ⟨ft,eJ,trivial⟩ (λ_=>none) Tryz.f166 [.cell 8 93] λx=>by kernel_rfl
abbrev aaL:=(t13×Unit)×XI
def DJ:t13×t1×Unit→Out aaL
|(a0,a1,_)=> .get (bQ ((3,()),a1,(1,()),(0,()),())) λ((cP,_),_)=> .get (br (a0,cP,())) λ((cm,_),_)=> .get (bQ ((21,()),a1,(0,()),(0,()),())) λ((dT,_),_)=> .get (br (cm,dT,())) λ((gR,_),_)=> .ret ((gR,()),((),(),()))
def oM (x:t13×t1×Unit):=(DJ x).eval
def S3:bZ:=dD 107 false [i13,i1] [none,none] [i13] DJ
theorem DK:S3.Ok Tryz.prog:=cb bI [] [] [oC,mV] ⟨ft,eJ,trivial⟩ (λ_=>none) Tryz.f107 [.cell 4 93] λx=>by kernel_rfl
abbrev aaM:=(t10×Unit)×(Unit×Unit)
def DL:t1×Unit→Out aaM
|(a0,_)=> .ite (((a0.1==3))==false) (.ret (((((a0.1==4)),()),()),((),()))) (.ret (((true,()),()),((),())))
def DM (x:t1×Unit):=(DL x).eval
def aaN:bZ:=dD 162 true [i1] [none] [i10] DL
theorem JA:aaN.Ok Tryz.prog:=cb ja [] [] [] trivial (λ_=>none) Tryz.f162 [.tmp 2] λx=>by kernel_rfl
abbrev aaO:=(t13×Unit)×XI
abbrev JB:=(Int×Int×Unit)×((Int×Int×Unit)×(Int×Int×Unit)×List Int×List (List az)×List af×List aj×List ag×List ag×List Int×List Int×List ((Int×Int×Int×Int×List Int×Unit))×List (List az)×List af×List aj×List ag×List ag×List Int×List Int×List ((Int×Int×Int×Int×List Int×Unit))×Unit)
def mf:JB→Out (Round JB ((Unit)×((Int×Int×Unit)×(Int×Int×Unit)×List Int×List (List az)×List af×List aj×List ag×List ag×List Int×List Int×List ((Int×Int×Int×Int×List Int×Unit))×List (List az)×List af×List aj×List ag×List ag×List Int×List Int×List ((Int×Int×Int×Int×List Int×Unit))×Unit)) Empty)
|((p0,p1,_),(p2,p3,_),(p4,p5,_),p6,p7,p8,p9,cH,cK,eH,eU,ei,dq,eI,fD,fN,fk,gm,gh,ju,_)=> .ite (decide (p1<((List.length p8:Nat):Int))) (.ite (decide (0≤p1∧p1<((List.length p8:Nat):Int))) (.get (nth p8 (Int.toNat p1)) λy1=> .ite (((y1.2.2.1==4))==false) (.ite (((y1.2.2.1==5))==true) (.ite ((decide ((aF p9 y1.2.2.2.2.2.2.2.1)≥(0:Int)))==true) (.ite (decide (0≤(aF p9 y1.2.2.2.2.2.2.2.1)∧(aF p9 y1.2.2.2.2.2.2.2.1)<((List.length p9:Nat):Int))) (.get (nth p9 (Int.toNat (aF p9 y1.2.2.2.2.2.2.2.1))) λy2=> .get (DM ((y2.2.1,()),())) λ((dT,_),_)=> .ite (dT.1==true) (.ite (decide (0≤(aF p9 y1.2.2.2.2.2.2.2.1)∧(aF p9 y1.2.2.2.2.2.2.2.1)<((List.length p9:Nat):Int))) (.get (nth p9 (Int.toNat (aF p9 y1.2.2.2.2.2.2.2.1))) λy4=> .ite ((y4.2.2.1==p0)) (.ite (decide (List.length p6+List.length ([y1.1]:List Int)≤bA)) (.ret (.again ((p0,(IntKind.i64.wrap (p1+1)),()),((p2,p3,()),(p4,p5,()),(p6++([y1.1]:List Int)),p7,p8,p9,cH,cK,eH,eU,ei,dq,eI,fD,fN,fk,gm,gh,ju,())))) .fail) (.ret (.again ((p0,(IntKind.i64.wrap (p1+1)),()),((p2,p3,()),(p4,p5,()),p6,p7,p8,p9,cH,cK,eH,eU,ei,dq,eI,fD,fN,fk,gm,gh,ju,()))))) .fail) (.ret (.again ((p0,(IntKind.i64.wrap (p1+1)),()),((p2,p3,()),(p4,p5,()),p6,p7,p8,p9,cH,cK,eH,eU,ei,dq,eI,fD,fN,fk,gm,gh,ju,()))))) .fail) (.ret (.again ((p0,(IntKind.i64.wrap (p1+1)),()),((p2,p3,()),(p4,p5,()),p6,p7,p8,p9,cH,cK,eH,eU,ei,dq,eI,fD,fN,fk,gm,gh,ju,()))))) (.ret (.again ((p0,(IntKind.i64.wrap (p1+1)),()),((p2,p3,()),(p4,p5,()),p6,p7,p8,p9,cH,cK,eH,eU,ei,dq,eI,fD,fN,fk,gm,gh,ju,()))))) (.ite ((decide ((aF p9 y1.2.2.2.2.2.2.2.1)≥(0:Int)))==true) (.ite (decide (0≤(aF p9 y1.2.2.2.2.2.2.2.1)∧(aF p9 y1.2.2.2.2.2.2.2.1)<((List.length p9:Nat):Int))) (.get (nth p9 (Int.toNat (aF p9 y1.2.2.2.2.2.2.2.1))) λy5=> .get (DM ((y5.2.1,()),())) λ((oB,_),_)=> .ite (oB.1==true) (.ite (decide (0≤(aF p9 y1.2.2.2.2.2.2.2.1)∧(aF p9 y1.2.2.2.2.2.2.2.1)<((List.length p9:Nat):Int))) (.get (nth p9 (Int.toNat (aF p9 y1.2.2.2.2.2.2.2.1))) λy7=> .ite ((y7.2.2.1==p0)) (.ite (decide (List.length p6+List.length ([y1.1]:List Int)≤bA)) (.ret (.again ((p0,(IntKind.i64.wrap (p1+1)),()),((p2,p3,()),(p4,p5,()),(p6++([y1.1]:List Int)),p7,p8,p9,cH,cK,eH,eU,ei,dq,eI,fD,fN,fk,gm,gh,ju,())))) .fail) (.ret (.again ((p0,(IntKind.i64.wrap (p1+1)),()),((p2,p3,()),(p4,p5,()),p6,p7,p8,p9,cH,cK,eH,eU,ei,dq,eI,fD,fN,fk,gm,gh,ju,()))))) .fail) (.ret (.again ((p0,(IntKind.i64.wrap (p1+1)),()),((p2,p3,()),(p4,p5,()),p6,p7,p8,p9,cH,cK,eH,eU,ei,dq,eI,fD,fN,fk,gm,gh,ju,()))))) .fail) (.ret (.again ((p0,(IntKind.i64.wrap (p1+1)),()),((p2,p3,()),(p4,p5,()),p6,p7,p8,p9,cH,cK,eH,eU,ei,dq,eI,fD,fN,fk,gm,gh,ju,())))))) .fail) (.ret (.out ((),((p2,p3,()),(p4,p5,()),p6,p7,p8,p9,cH,cK,eH,eU,ei,dq,eI,fD,fN,fk,gm,gh,ju,()))))
abbrev JC:=(Int×Unit)×((Int×Int×Unit)×(Int×Int×Unit)×List Int×List (List az)×List af×List aj×List ag×List ag×List Int×List Int×List ((Int×Int×Int×Int×List Int×Unit))×List (List az)×List af×List aj×List ag×List ag×List Int×List Int×List ((Int×Int×Int×Int×List Int×Unit))×Unit)
def qN:JC→Out (Round JC ((Unit)×((Int×Int×Unit)×(Int×Int×Unit)×List (List az)×List af×List aj×List ag×List ag×List Int×List Int×List ((Int×Int×Int×Int×List Int×Unit))×List (List az)×List af×List aj×List ag×List ag×List Int×List Int×List ((Int×Int×Int×Int×List Int×Unit))×Unit)) Empty)
|((p0,_),(p1,p2,_),(p3,p4,_),p5,p6,p7,p8,p9,cH,cK,eH,eU,ei,dq,eI,fD,fN,fk,gm,gh,_)=> .ite (decide (p0<((List.length p5:Nat):Int))) (.ite (decide (0≤p0∧p0<((List.length p5:Nat):Int))) (.get (nth p5 (Int.toNat p0)) λy1=> .get (oM ((p1,p2,p6,p7,p8,p9,cH,cK,eH,eU,()),(y1,()),())) λ((cm,_),_)=> .ret (.again (((IntKind.i64.wrap (p0+1)),()),((cm.1,cm.2.1,()),(p3,p4,()),p5,cm.2.2.1,cm.2.2.2.1,cm.2.2.2.2.1,cm.2.2.2.2.2.1,cm.2.2.2.2.2.2.1,cm.2.2.2.2.2.2.2.1,cm.2.2.2.2.2.2.2.2.1,cm.2.2.2.2.2.2.2.2.2.1,ei,dq,eI,fD,fN,fk,gm,gh,())))) .fail) (.ret (.out ((),((p1,p2,()),(p3,p4,()),p6,p7,p8,p9,cH,cK,eH,eU,ei,dq,eI,fD,fN,fk,gm,gh,()))))
def DN:t13×t1×Unit→Out aaO
|(a0,a1,_)=> .get (bx mf bc ((a1.1,0,()),((a0.1,a0.2.1,()),(0,0,()),([]:List Int),a0.2.2.1,a0.2.2.2.1,a0.2.2.2.2.1,a0.2.2.2.2.2.1,a0.2.2.2.2.2.2.1,a0.2.2.2.2.2.2.2.1,a0.2.2.2.2.2.2.2.2.1,a0.2.2.2.2.2.2.2.2.2.1,([]:List (List az)),([]:List af),([]:List aj),([]:List ag),([]:List ag),([]:List Int),([]:List Int),([]:List ((Int×Int×Int×Int×List Int×Unit))),()))) λ(_,(Df,wY,_),(wZ,w8,_),sF,w9,vj,xa,AJ,AK,AL,SQ,SR,ahM,ahN,ahO,ahP,ahQ,ahR,ahS,ahT,_)=> .get (bx qN bc ((0,()),((Df,wY,()),(wZ,w8,()),sF,w9,vj,xa,AJ,AK,AL,SQ,SR,ahM,ahN,ahO,ahP,ahQ,ahR,ahS,ahT,()))) λ(_,(Ol,Om,_),_,On,Oo,HF,Oq,Ot,HG,Ou,Ov,_)=> .ret (((Ol,Om,On,Oo,HF,Oq,Ot,HG,Ou,Ov,()),()),((),(),()))
def xW (x:t13×t1×Unit):=(DN x).eval
abbrev qO:List (Nat×eA):=[(64000000, .var [.i .i64, .i .i64, .bg 64000003, .bg 64000004, .bg 64000005, .bg 64000006, .bg 64000007, .bg 64000008, .bg 64000009, .bg 64000010]),(64000001, .var [.i .i64, .i .i64, .bg 64000011, .bg 64000012, .bg 64000013, .bg 64000014, .bg 64000015, .bg 64000016, .bg 64000017, .bg 64000018]),(64000002, .arr dI),(64000003, .arr (.fz dk)),(64000004, .arr kR),(64000005, .arr dZ),(64000006, .arr dj),(64000007, .arr dj),(64000008, .arr dI),(64000009, .arr dI),(64000010, .arr wV),(64000011, .arr (.fz dk)),(64000012, .arr kR),(64000013, .arr dZ),(64000014, .arr dj),(64000015, .arr dj),(64000016, .arr dI),(64000017, .arr dI),(64000018, .arr wV)]
abbrev tN:List (Nat×eA):=[(64000000, .var [.i .i64, .i .i64, .bg 64000002, .bg 64000003, .bg 64000004, .bg 64000005, .bg 64000006, .bg 64000007, .bg 64000008, .bg 64000009]),(64000001, .var [.i .i64, .i .i64, .bg 64000010, .bg 64000011, .bg 64000012, .bg 64000013, .bg 64000014, .bg 64000015, .bg 64000016, .bg 64000017]),(64000002, .arr (.fz dk)),(64000003, .arr kR),(64000004, .arr dZ),(64000005, .arr dj),(64000006, .arr dj),(64000007, .arr dI),(64000008, .arr dI),(64000009, .arr wV),(64000010, .arr (.fz dk)),(64000011, .arr kR),(64000012, .arr dZ),(64000013, .arr dj),(64000014, .arr dj),(64000015, .arr dI),(64000016, .arr dI),(64000017, .arr wV)]
def aaP:Nat→Option aq:=λn=>b6 [(0,⟨⟨[.dead, .i .i64, .vptr 64000000 0, .dead, .vptr 64000001 0, .bg 64000002, .i .i64]++dd 74,qO⟩,⟨[.dead, .dead, .vptr 64000000 0, .dead, .vptr 64000001 0, .bg 64000002]++dd 75,qO⟩,none,false⟩),(2,⟨⟨[.dead, .dead, .vptr 64000000 0, .dead, .vptr 64000001 0, .bg 64000002, .dead, .dead, .dead, .i .i64]++dd 71,qO⟩,⟨[.dead, .dead, .vptr 64000000 0, .dead, .vptr 64000001 0]++dd 76,tN⟩,none,false⟩)] n
def S4:bZ:=dD 163 false [i13,i1] [none,none] [i13] DN
theorem DO:S4.Ok Tryz.prog:=cb bI [] [] [KU,aaN,S3] ⟨vD,JA,DK,trivial⟩ aaP Tryz.f163 [.cell 4 93] λx=>by kernel_rfl
abbrev aaQ:=(t13×Unit)×(Unit×XI)
def Cu:t13×t1×t1×Unit→Out aaQ
|(a0,a1,a2,_)=> .ite (decide (0≤(ak a0.2.2.2.1 a1.1)∧(ak a0.2.2.2.1 a1.1)<((List.length a0.2.2.2.1:Nat):Int))) (.get (nth a0.2.2.2.1 (Int.toNat (ak a0.2.2.2.1 a1.1))) λy1=> .ite (decide (0≤a2.1∧a2.1<((List.length y1.2.2.2.2.2.2.1:Nat):Int))) (.get (nth y1.2.2.2.2.2.2.1 (Int.toNat a2.1)) λy2=> .get (bQ ((9,()),a1,a2,(-1,()),())) λ((dT,_),_)=> .get (br ((a0.1,a0.2.1,a0.2.2.1,(List.set a0.2.2.2.1 (Int.toNat (ak a0.2.2.2.1 a1.1)) (y1.1,(y1.2.1,(y1.2.2.1,(y1.2.2.2.1,(y1.2.2.2.2.1,(y1.2.2.2.2.2.1,(y1.2.2.2.2.2.2.1,y1.2.2.2.2.2.2.2)))))))),a0.2.2.2.2),dT,())) λ((gR,_),_)=> .get (bQ ((11,()),(y2,()),(-1,()),(0,()),())) λ((jt,_),_)=> .get (br (gR,jt,())) λ((oB,_),_)=> .ite (decide (0≤(aF oB.2.2.2.2.1 y2)∧(aF oB.2.2.2.2.1 y2)<((List.length oB.2.2.2.2.1:Nat):Int))) (.get (nth oB.2.2.2.2.1 (Int.toNat (aF oB.2.2.2.2.1 y2))) λy7=> .ite ((y7.2.2.2.2.1 != 0)) (.ret ((oB,()),((),(),(),()))) (.get (bQ ((12,()),(y2,()),(0,()),(0,()),())) λ((lf,_),_)=> .get (br (oB,lf,())) λ((uN,_),_)=> .get (DM ((y7.2.1,()),())) λ((nE,_),_)=> .ite (!nE.1) (.ret ((uN,()),((),(),(),()))) (.ite (((IntKind.i64.wrap ((gZ uN.2.2.2.2.1 y7.2.2.1 (3:Int))+(gZ uN.2.2.2.2.1 y7.2.2.1 (4:Int))))==0)) (.get (bQ ((17,()),(y7.2.2.1,()),(0,()),(0,()),())) λ((uS,_),_)=> .get (br (uN,uS,())) λ((nz,_),_)=> .ret ((nz,()),((),(),(),()))) (.get (xW (uN,(y7.2.2.1,()),())) λ((nA,_),_)=> .ret ((nA,()),((),(),(),())))))) .fail) .fail) .fail
def uM (x:t13×t1×t1×Unit):=(Cu x).eval
def aaR:bZ:=dD 131 false [i13,i1,i1] [none,none,none] [i13] Cu
theorem JD:aaR.Ok Tryz.prog:=cb bI [] [] [Ja,oC,mV,KU,aaN,LW,S4] ⟨rV,ft,eJ,vD,JA,zg,DO,trivial⟩ (λ_=>none) Tryz.f131 [.cell 6 93] λx=>by kernel_rfl
abbrev O8:=(t13×Unit)×(Unit×XI)
abbrev Cw:=(Int×Int×Int×Unit)×((Int×Int×Unit)×(Int×Int×Unit)×List (List az)×List af×List aj×List ag×List ag×List Int×List Int×List ((Int×Int×Int×Int×List Int×Unit))×List (List az)×List af×List aj×List ag×List ag×List Int×List Int×List ((Int×Int×Int×Int×List Int×Unit))×Unit)
def pS:Cw→Out (Round Cw ((Int×Int×Unit)×((Int×Int×Unit)×(Int×Int×Unit)×List (List az)×List af×List aj×List ag×List ag×List Int×List Int×List ((Int×Int×Int×Int×List Int×Unit))×List (List az)×List af×List aj×List ag×List ag×List Int×List Int×List ((Int×Int×Int×Int×List Int×Unit))×Unit)) Empty)
|((p0,p1,p2,_),(p3,p4,_),(p5,p6,_),p7,p8,p9,cH,cK,eH,eU,ei,dq,eI,fD,fN,fk,gm,gh,ju,_)=> .ite (decide (p2<4)) (.ite (decide (0≤(ak p8 p0)∧(ak p8 p0)<((List.length p8:Nat):Int))) (.get (nth p8 (Int.toNat (ak p8 p0))) λy1=> .ite (decide (0≤p2∧p2<((List.length y1.2.2.2.2.2.2.1:Nat):Int))) (.get (nth y1.2.2.2.2.2.2.1 (Int.toNat p2)) λy2=> .ite ((y2 != -1)) (.get (uM ((p3,p4,p7,(List.set p8 (Int.toNat (ak p8 p0)) (y1.1,(y1.2.1,(y1.2.2.1,(y1.2.2.2.1,(y1.2.2.2.2.1,(y1.2.2.2.2.2.1,(y1.2.2.2.2.2.2.1,y1.2.2.2.2.2.2.2)))))))),p9,cH,cK,eH,eU,ei,()),(p0,()),(p2,()),())) λ((dT,_),_)=> .ret (.again ((p0,p1,(IntKind.i64.wrap (p2+1)),()),((dT.1,dT.2.1,()),(p5,p6,()),dT.2.2.1,dT.2.2.2.1,dT.2.2.2.2.1,dT.2.2.2.2.2.1,dT.2.2.2.2.2.2.1,dT.2.2.2.2.2.2.2.1,dT.2.2.2.2.2.2.2.2.1,dT.2.2.2.2.2.2.2.2.2.1,dq,eI,fD,fN,fk,gm,gh,ju,())))) (.ret (.again ((p0,p1,(IntKind.i64.wrap (p2+1)),()),((p3,p4,()),(p5,p6,()),p7,(List.set p8 (Int.toNat (ak p8 p0)) (y1.1,(y1.2.1,(y1.2.2.1,(y1.2.2.2.1,(y1.2.2.2.2.1,(y1.2.2.2.2.2.1,(y1.2.2.2.2.2.2.1,y1.2.2.2.2.2.2.2)))))))),p9,cH,cK,eH,eU,ei,dq,eI,fD,fN,fk,gm,gh,ju,()))))) .fail) .fail) (.ret (.out ((p0,p1,()),((p3,p4,()),(p5,p6,()),p7,p8,p9,cH,cK,eH,eU,ei,dq,eI,fD,fN,fk,gm,gh,ju,()))))
abbrev JE:=(Int×Int×Int×Unit)×((Int×Int×Unit)×(Int×Int×Unit)×List ((Int×Int×Int×Int×(Int×Unit×Unit)×Unit×Unit×Int×Int×Unit))×List (List az)×List af×List aj×List ag×List ag×List Int×List Int×List ((Int×Int×Int×Int×List Int×Unit))×List (List az)×List af×List aj×List ag×List ag×List Int×List Int×List ((Int×Int×Int×Int×List Int×Unit))×Unit)
def kI:JE→Out (Round JE ((Int×Int×Unit)×((Int×Int×Unit)×(Int×Int×Unit)×List (List az)×List af×List aj×List ag×List ag×List Int×List Int×List ((Int×Int×Int×Int×List Int×Unit))×List (List az)×List af×List aj×List ag×List ag×List Int×List Int×List ((Int×Int×Int×Int×List Int×Unit))×Unit)) Empty)
|((p0,p1,p2,_),(p3,p4,_),(p5,p6,_),p7,p8,p9,cH,cK,eH,eU,ei,dq,eI,fD,fN,fk,gm,gh,ju,lD,_)=> .ite (decide (p2<((List.length p7:Nat):Int))) (.ite (decide (0≤p2∧p2<((List.length p7:Nat):Int))) (.get (nth p7 (Int.toNat p2)) λy1=> .ite ((y1.2.1 != p0)) (.ret (.again ((p0,p1,(IntKind.i64.wrap (p2+1)),()),((p3,p4,()),(p5,p6,()),p7,p8,p9,cH,cK,eH,eU,ei,dq,eI,fD,fN,fk,gm,gh,ju,lD,())))) (.ite (decide (0≤p2∧p2<((List.length p7:Nat):Int))) (.get (nth p7 (Int.toNat p2)) λy2=> .ite ((y2.2.2.1==6)) (.ite (decide (0≤p2∧p2<((List.length p7:Nat):Int))) (.get (nth p7 (Int.toNat p2)) λy3=> .get (bQ ((6,()),(y3.1,()),(0,()),(0,()),())) λ((gR,_),_)=> .get (br ((p3,p4,p8,p9,cH,cK,eH,eU,ei,dq,()),gR,())) λ((jt,_),_)=> .ret (.again ((p0,p1,(IntKind.i64.wrap (p2+1)),()),((jt.1,jt.2.1,()),(p5,p6,()),p7,jt.2.2.1,jt.2.2.2.1,jt.2.2.2.2.1,jt.2.2.2.2.2.1,jt.2.2.2.2.2.2.1,jt.2.2.2.2.2.2.2.1,jt.2.2.2.2.2.2.2.2.1,jt.2.2.2.2.2.2.2.2.2.1,eI,fD,fN,fk,gm,gh,ju,lD,())))) .fail) (.ite (decide (0≤p2∧p2<((List.length p7:Nat):Int))) (.get (nth p7 (Int.toNat p2)) λy6=> .get (bQ ((25,()),(y6.1,()),(0,()),(0,()),())) λ((lE,_),_)=> .get (br ((p3,p4,p8,p9,cH,cK,eH,eU,ei,dq,()),lE,())) λ((lf,_),_)=> .ret (.again ((p0,p1,(IntKind.i64.wrap (p2+1)),()),((lf.1,lf.2.1,()),(p5,p6,()),p7,lf.2.2.1,lf.2.2.2.1,lf.2.2.2.2.1,lf.2.2.2.2.2.1,lf.2.2.2.2.2.2.1,lf.2.2.2.2.2.2.2.1,lf.2.2.2.2.2.2.2.2.1,lf.2.2.2.2.2.2.2.2.2.1,eI,fD,fN,fk,gm,gh,ju,lD,())))) .fail)) .fail)) .fail) (.ret (.out ((p0,p1,()),((p3,p4,()),(p5,p6,()),p8,p9,cH,cK,eH,eU,ei,dq,eI,fD,fN,fk,gm,gh,ju,lD,()))))
def ss (v0:Int) (v1:Int) (v2:Int) (v3:Int) (v4:Int) (v5:Int) (v6:List (List az)) (v7:List af) (v8:List aj) (v9:List ag) (v10:List ag) (v11:List Int) (v12:List Int) (KZ:List (Int×Int×Int×Int×List Int×Unit)) (K1:List (List az)) (QG:List af) (Vs:List aj) (v17:List ag) (v18:List ag) (v19:List Int) (v20:List Int) (v21:List (Int×Int×Int×Int×List Int×Unit)):Out (O8):= .get (bx pS bc ((v0,v1,0,()),((v2,v3,()),(v4,v5,()),v6,v7,v8,v9,v10,v11,v12,KZ,K1,QG,Vs,v17,v18,v19,v20,v21,()))) λ((KY,Ow,_),(Ox,Oy,_),(Oz,OA,_),OB,OC,OD,OE,OF,OG,OH,OI,OJ,OK,OL,OM,ON,OO,OP,OQ,_)=> .get (bQ ((5,()),(KY,()),(0,()),(0,()),())) λ((gR,_),_)=> .get (br ((Ox,Oy,OB,OC,OD,OE,OF,OG,OH,OI,()),gR,())) λ((jt,_),_)=> .ite (decide (List.length ([]:List ((Int×Int×Int×Int×(Int×Unit×Unit)×Unit×Unit×Int×Int×Unit)))+List.length (List.map (λz:af=>(z.1,z.2.1,z.2.2.1,z.2.2.2.1,(z.2.2.2.2.1.1,(),()),(),(),z.2.2.2.2.2.2.2.1,z.2.2.2.2.2.2.2.2.1,())) jt.2.2.2.1)≤bA)) (.get (bx kI bc ((KY,Ow,0,()),((jt.1,jt.2.1,()),(Oz,OA,()),(([]:List ((Int×Int×Int×Int×(Int×Unit×Unit)×Unit×Unit×Int×Int×Unit)))++(List.map (λz:af=>(z.1,z.2.1,z.2.2.1,z.2.2.2.1,(z.2.2.2.2.1.1,(),()),(),(),z.2.2.2.2.2.2.2.1,z.2.2.2.2.2.2.2.2.1,())) jt.2.2.2.1)),jt.2.2.1,jt.2.2.2.1,jt.2.2.2.2.1,jt.2.2.2.2.2.1,jt.2.2.2.2.2.2.1,jt.2.2.2.2.2.2.2.1,jt.2.2.2.2.2.2.2.2.1,jt.2.2.2.2.2.2.2.2.2.1,OJ,OK,OL,OM,ON,OO,OP,OQ,()))) λ((HI,ahU,_),(ahV,ahW,_),_,ahX,ahY,ahZ,ah0,ah1,ah2,ah3,ah4,_)=> .get (bQ ((22,()),(HI,()),(0,()),(0,()),())) λ((lE,_),_)=> .get (br ((ahV,ahW,ahX,ahY,ahZ,ah0,ah1,ah2,ah3,ah4,()),lE,())) λ((lf,_),_)=> .ite (decide (0≤(ak lf.2.2.2.1 HI)∧(ak lf.2.2.2.1 HI)<((List.length lf.2.2.2.1:Nat):Int))) (.get (nth lf.2.2.2.1 (Int.toNat (ak lf.2.2.2.1 HI))) λy9=> .ite ((y9.2.1==0)) (.get (bQ ((6,()),(HI,()),(0,()),(0,()),())) λ((nE,_),_)=> .get (br (lf,nE,())) λ((uS,_),_)=> .ret ((uS,()),((),(),(),()))) (.get (bQ ((3,()),(HI,()),(6,()),(0,()),())) λ((nz,_),_)=> .get (br (lf,nz,())) λ((nA,_),_)=> .get (bQ ((26,()),(HI,()),(ahU,()),(0,()),())) λ((zr,_),_)=> .get (br (nA,zr,())) λ((lh,_),_)=> .ite (decide (0≤(ak lh.2.2.2.1 y9.2.1)∧(ak lh.2.2.2.1 y9.2.1)<((List.length lh.2.2.2.1:Nat):Int))) (.get (nth lh.2.2.2.1 (Int.toNat (ak lh.2.2.2.1 y9.2.1))) λQV=> .ite ((QV.2.2.1==3)) (.get (oM (lh,(y9.2.1,()),())) λ((rG,_),_)=> .ret ((rG,()),((),(),(),()))) (.ret ((lh,()),((),(),(),())))) .fail)) .fail) .fail
def CD:t13×t1×t1×Unit→Out O8
|(a0,a1,a2,_)=> .ite (decide (0≤(ak a0.2.2.2.1 a1.1)∧(ak a0.2.2.2.1 a1.1)<((List.length a0.2.2.2.1:Nat):Int))) (.get (nth a0.2.2.2.1 (Int.toNat (ak a0.2.2.2.1 a1.1))) λy1=> .ite ((y1.2.2.1 != 1)) (.get (oM (a0,a1,())) λ((cm,_),_)=>
 ss a1.1 a2.1 cm.1 cm.2.1 (0:Int) (0:Int) cm.2.2.1 cm.2.2.2.1 cm.2.2.2.2.1 cm.2.2.2.2.2.1 cm.2.2.2.2.2.2.1 cm.2.2.2.2.2.2.2.1 cm.2.2.2.2.2.2.2.2.1 cm.2.2.2.2.2.2.2.2.2.1 ([]:List (List az)) ([]:List af) ([]:List aj) ([]:List ag) ([]:List ag) ([]:List Int) ([]:List Int) ([]:List ((Int×Int×Int×Int×List Int×Unit)))) (ss a1.1 a2.1 a0.1 a0.2.1 (0:Int) (0:Int) a0.2.2.1 a0.2.2.2.1 a0.2.2.2.2.1 a0.2.2.2.2.2.1 a0.2.2.2.2.2.2.1 a0.2.2.2.2.2.2.2.1 a0.2.2.2.2.2.2.2.2.1 a0.2.2.2.2.2.2.2.2.2.1 ([]:List (List az)) ([]:List af) ([]:List aj) ([]:List ag) ([]:List ag) ([]:List Int) ([]:List Int) ([]:List ((Int×Int×Int×Int×List Int×Unit))))) .fail
def uT (x:t13×t1×t1×Unit):=(CD x).eval
def aaS:Nat→Option aq:=λn=>b6 [(0,⟨⟨[.dead, .i .i64, .i .i64, .vptr 64000000 0, .dead, .dead, .vptr 64000001 0, .i .i64]++dd 127,tN⟩,⟨[.dead, .i .i64, .i .i64, .vptr 64000000 0, .dead, .dead, .vptr 64000001 0]++dd 128,tN⟩,none,false⟩),(2,⟨⟨[.dead, .i .i64, .i .i64, .vptr 64000000 0, .dead, .dead, .vptr 64000001 0, .dead, .bg 64000002, .i .i64]++dd 125,[(64000000, .var [.i .i64, .i .i64, .bg 64000003, .bg 64000004, .bg 64000005, .bg 64000006, .bg 64000007, .bg 64000008, .bg 64000009, .bg 64000010]),(64000001, .var [.i .i64, .i .i64, .bg 64000011, .bg 64000012, .bg 64000013, .bg 64000014, .bg 64000015, .bg 64000016, .bg 64000017, .bg 64000018]),(64000002, .arr tyY),(64000003, .arr (.fz dk)),(64000004, .arr kR),(64000005, .arr dZ),(64000006, .arr dj),(64000007, .arr dj),(64000008, .arr dI),(64000009, .arr dI),(64000010, .arr wV),(64000011, .arr (.fz dk)),(64000012, .arr kR),(64000013, .arr dZ),(64000014, .arr dj),(64000015, .arr dj),(64000016, .arr dI),(64000017, .arr dI),(64000018, .arr wV)]⟩,⟨[.dead, .i .i64, .i .i64, .vptr 64000000 0, .dead, .dead, .vptr 64000001 0]++dd 128,tN⟩,none,false⟩)] n
def S5:bZ:=dD 109 false [i13,i1,i1] [none,none,none] [i13] CD
theorem DP:S5.Ok Tryz.prog:=cb SI [] [] [Ja,S3,aaR,oC,mV] ⟨rV,DK,JD,ft,eJ,trivial⟩ aaS Tryz.f109 [.cell 6 93] λx=>by kernel_rfl
abbrev aaT:=(t1×Unit)×XI
abbrev JF:=(Int×Unit)×(XM×Unit)
def xk:JF→Out (Round JF ((Unit)×(Unit)) ((Int×Unit)×(Unit)))
|((p0,_),(p1,p2,p3,p4,p5,p6,p7,p8,p9,cH,_),_)=> .ite (decide (p0<((List.length p8:Nat):Int))) (.ite (decide (0≤p0)) (.get (nth p8 (Int.toNat p0)) λy1=> .ite ((y1== -1)) (.ret (.ret ((p0,()),()))) (.ret (.again (((IntKind.i64.wrap (p0+1)),()),((p1,p2,p3,p4,p5,p6,p7,p8,p9,cH,()),()))))) .fail) (.ret (.out ((),())))
def CK:t15×t1×Unit→Out aaT
|(a0,a1,_)=> .get (iter xk bc ((a1.1,()),((a0.1,a0.2.1,a0.2.2.1,a0.2.2.2.1,a0.2.2.2.2.1,a0.2.2.2.2.2.1,a0.2.2.2.2.2.2.1,a0.2.2.2.2.2.2.2.1,a0.2.2.2.2.2.2.2.2.1,a0.2.2.2.2.2.2.2.2.2.1,()),()))) λy1=> .alt y1 (λ_=> .ret (((-1,()),()),((),(),()))) (λy3=> .ret (((y3.1.1,()),()),((),(),())))
def yd (x:t15×t1×Unit):=(CK x).eval
def aaU:Nat→Option aq:=λn=>b6 [(0,⟨⟨[.dead, .dead, .vptr 64000000 0, .dead, .dead, .i .i64]++dd 15,[(64000000, .var [.i .i64, .i .i64, .i .i64, .i .i64, .i .i64, .ro dI (some 0), .ro dI (some 1), .ro dI (some 2), .i .i64, .i .i64])]⟩,⟨dd 21,[]⟩,some ⟨dd 4++[.i .i64]++dd 16,[]⟩,false⟩)] n
def S6:bZ:=dD 167 true [i15,i1] [none,none] [i1] CK
theorem DQ:S6.Ok Tryz.prog:=cb ja [] [] [] trivial aaU Tryz.f167 [.tmp 4] λx=>by kernel_rfl
abbrev aaV:=(t1×Unit)×XI
abbrev JG:=(Int×Unit)×(bw×Unit)
def xl:JG→Out (Round JG ((Unit)×(Unit)) ((Int×Unit)×(Unit)))
|((p0,_),(p1,p2,p3,p4,p5,p6,p7,p8,p9,_),_)=> .ite (decide (p0<8)) (.ite (decide ((aF p5 p0)<0)) (.ret (.ret ((p0,()),()))) (.ret (.again (((IntKind.i64.wrap (p0+1)),()),((p1,p2,p3,p4,p5,p6,p7,p8,p9,()),()))))) (.ret (.out ((),())))
def CM:t11×t1×Unit→Out aaV
|(a0,a1,_)=> .get (iter xl bc ((a1.1,()),((a0.1,a0.2.1,a0.2.2.1,a0.2.2.2.1,a0.2.2.2.2.1,a0.2.2.2.2.2.1,a0.2.2.2.2.2.2.1,a0.2.2.2.2.2.2.2.1,a0.2.2.2.2.2.2.2.2.1,()),()))) λy1=> .alt y1 (λ_=> .ret (((-1,()),()),((),(),()))) (λy3=> .ret (((y3.1.1,()),()),((),(),())))
def CL (x:t11×t1×Unit):=(CM x).eval
abbrev JH:List (Nat×eA):=[(64000000, .var [.i .i64, .i .i64, .ro (.sl dk) (some 0), .ro jM (some 1), .ro dZ (some 2), .ro dU (some 3), .ro dU (some 4), .ro dI (some 5), .ro dI (some 6)])]
def aaW:Nat→Option aq:=λn=>b6 [(0,⟨⟨[.dead, .dead, .vptr 64000000 0, .dead, .dead, .i .i64]++dd 10,JH⟩,⟨dd 16,[]⟩,some ⟨dd 4++[.i .i64]++dd 11,[]⟩,false⟩)] n
def aaX:bZ:=dD 168 true [i11,i1] [none,none] [i1] CM
theorem JI:aaX.Ok Tryz.prog:=cb ja [] [] [KU] ⟨vD,trivial⟩ aaW Tryz.f168 [.tmp 4] λx=>by kernel_rfl
abbrev aaY:=(t1×Unit)×(Unit×Unit)
abbrev JJ:=(Int×Unit)×(bw×Unit)
def xm:JJ→Out (Round JJ ((Unit)×(Unit)) ((Int×Unit)×(Unit)))
|((p0,_),(p1,p2,p3,p4,p5,p6,p7,p8,p9,_),_)=> .ite (decide (p0<3)) (.ite (decide ((ba p6 p0)<0)) (.ret (.ret ((p0,()),()))) (.ret (.again (((IntKind.i64.wrap (p0+1)),()),((p1,p2,p3,p4,p5,p6,p7,p8,p9,()),()))))) (.ret (.out ((),())))
def CN:t11×Unit→Out aaY
|(a0,_)=> .get (iter xm bc ((0,()),((a0.1,a0.2.1,a0.2.2.1,a0.2.2.2.1,a0.2.2.2.2.1,a0.2.2.2.2.2.1,a0.2.2.2.2.2.2.1,a0.2.2.2.2.2.2.2.1,a0.2.2.2.2.2.2.2.2.1,()),()))) λy1=> .alt y1 (λ_=> .ret (((-1,()),()),((),()))) (λy3=> .ret (((y3.1.1,()),()),((),())))
def Mh (x:t11×Unit):=(CN x).eval
def aaZ:Nat→Option aq:=λn=>b6 [(0,⟨⟨[.dead, .vptr 64000000 0, .dead, .i .i64]++dd 9,JH⟩,⟨dd 13,[]⟩,some ⟨[.dead, .dead, .i .i64]++dd 10,[]⟩,false⟩)] n
def aeL:bZ:=dD 169 true [i11] [none] [i1] CN
theorem S7:aeL.Ok Tryz.prog:=cb ja [] [] [LU] ⟨yW,trivial⟩ aaZ Tryz.f169 [.tmp 2] λx=>by kernel_rfl
abbrev aa0:=(t13×Unit)×(Unit×XI)
abbrev JK:=(Int×Int×Unit)×((Int×Int×Unit)×XM×(Int×List Int×Unit)×(Int×Int×Unit)×List (List az)×List af×List aj×List ag×List ag×List Int×List Int×List ((Int×Int×Int×Int×List Int×Unit))×List (List az)×List af×List aj×List ag×List ag×List Int×List Int×List ((Int×Int×Int×Int×List Int×Unit))×Unit)
def pV:JK→Out (Round JK ((Int×Unit)×((Int×Int×Unit)×XM×(Int×List Int×Unit)×(Int×Int×Unit)×List (List az)×List af×List aj×List ag×List ag×List Int×List Int×List ((Int×Int×Int×Int×List Int×Unit))×List (List az)×List af×List aj×List ag×List ag×List Int×List Int×List ((Int×Int×Int×Int×List Int×Unit))×Unit)) Empty)
|((p0,p1,_),(p2,p3,_),(p4,p5,p6,p7,p8,p9,cH,cK,eH,eU,_),(ei,dq,_),(eI,fD,_),fN,fk,gm,gh,ju,lD,oI,rr,GO,DB,p28,p29,p30,p31,p32,p33,_)=> .ite (decide (p1<((List.length cK:Nat):Int))) (.ite (decide (0≤p1)) (.get (nth cK (Int.toNat p1)) λy1=> .ite ((y1 != -1)) (.ite (decide (0≤p1)) (.get (nth cK (Int.toNat p1)) λy2=> .get (bQ ((11,()),(y2,()),(1,()),(0,()),())) λ((dT,_),_)=> .get (br ((p2,p3,fN,fk,gm,gh,ju,lD,oI,rr,()),dT,())) λ((gR,_),_)=> .ret (.again ((p0,(IntKind.i64.wrap (p1+1)),()),((gR.1,gR.2.1,()),(p4,p5,p6,p7,p8,p9,cH,cK,eH,eU,()),(ei,dq,()),(eI,fD,()),gR.2.2.1,gR.2.2.2.1,gR.2.2.2.2.1,gR.2.2.2.2.2.1,gR.2.2.2.2.2.2.1,gR.2.2.2.2.2.2.2.1,gR.2.2.2.2.2.2.2.2.1,gR.2.2.2.2.2.2.2.2.2.1,GO,DB,p28,p29,p30,p31,p32,p33,())))) .fail) (.ret (.again ((p0,(IntKind.i64.wrap (p1+1)),()),((p2,p3,()),(p4,p5,p6,p7,p8,p9,cH,cK,eH,eU,()),(ei,dq,()),(eI,fD,()),fN,fk,gm,gh,ju,lD,oI,rr,GO,DB,p28,p29,p30,p31,p32,p33,()))))) .fail) (.ret (.out ((p0,()),((p2,p3,()),(p4,p5,p6,p7,p8,p9,cH,cK,eH,eU,()),(ei,dq,()),(eI,fD,()),fN,fk,gm,gh,ju,lD,oI,rr,GO,DB,p28,p29,p30,p31,p32,p33,()))))
def CH:t13×t15×t14×Unit→Out aa0
|(a0,a1,a2,_)=> .ite ((decide (((List.length a0.2.2.2.1:Nat):Int)≥(6:Int)))==false) (.ite ((decide (a0.1≥(100000:Int)))==false) (.ite ((4:Int)==0) .fail (.get (nB ((a0.1,a0.2.1,a0.2.2.1,a0.2.2.2.1,a0.2.2.2.2.1,a0.2.2.2.2.2.1,a0.2.2.2.2.2.2.1,a0.2.2.2.2.2.2.2.1,a0.2.2.2.2.2.2.2.2.1,()),((IntKind.i64.wrap (Int.tdiv ((List.length a1.2.2.2.2.2.2.1:Nat):Int) (4:Int))),()),())) λ((cP,_),_)=> .ite (!cP.1) (.get (bt (a0,(a1.1,()),a2,(-1,()),())) λ((cm,_),_)=> .ret ((cm,()),((),(),(),()))) (.get (bQ ((4,()),(a0.1,()),(a1.1,()),(0,()),())) λ((dT,_),_)=> .get (br (a0,dT,())) λ((gR,_),_)=> .get (bx pV bc ((a0.1,0,()),((gR.1,gR.2.1,()),(a1.1,a1.2.1,a1.2.2.1,a1.2.2.2.1,a1.2.2.2.2.1,a1.2.2.2.2.2.1,a1.2.2.2.2.2.2.1,a1.2.2.2.2.2.2.2.1,a1.2.2.2.2.2.2.2.2.1,a1.2.2.2.2.2.2.2.2.2.1,()),(a2.1,a2.2.1,()),(0,0,()),gR.2.2.1,gR.2.2.2.1,gR.2.2.2.2.1,gR.2.2.2.2.2.1,gR.2.2.2.2.2.2.1,gR.2.2.2.2.2.2.2.1,gR.2.2.2.2.2.2.2.2.1,gR.2.2.2.2.2.2.2.2.2.1,([]:List (List az)),([]:List af),([]:List aj),([]:List ag),([]:List ag),([]:List Int),([]:List Int),([]:List ((Int×Int×Int×Int×List Int×Unit))),()))) λ((aa7,_),(ah5,ah6,_),(ah7,_),(aeM,aeN,_),_,ah8,ah9,aia,aib,aic,aid,aie,aif,_)=> .get (bt ((ah5,ah6,ah8,ah9,aia,aib,aic,aid,aie,aif,()),(aa7,()),(aeM,aeN,()),(0,()),())) λ((oB,_),_)=> .get (bQ ((21,()),(aa7,()),(0,()),(0,()),())) λ((lE,_),_)=> .get (br (oB,lE,())) λ((lf,_),_)=> .get (bt (lf,(ah7,()),(aeM,aeN,()),(aa7,()),())) λ((uN,_),_)=> .ret ((uN,()),((),(),(),()))))) (.get (bt (a0,(a1.1,()),a2,(-1,()),())) λ((uS,_),_)=> .ret ((uS,()),((),(),(),())))) (.get (bt (a0,(a1.1,()),a2,(-1,()),())) λ((nz,_),_)=> .ret ((nz,()),((),(),(),())))
def Mc (x:t13×t15×t14×Unit):=(CH x).eval
abbrev xI:List (Nat×eA):=[(64000000, .var [.i .i64, .i .i64, .bg 64000004, .bg 64000005, .bg 64000006, .bg 64000007, .bg 64000008, .bg 64000009, .bg 64000010, .bg 64000011]),(64000001, .var [.i .i64, .i .i64, .i .i64, .i .i64, .i .i64, .ro dI (some 8), .ro dI (some 9), .ro dI (some 10), .i .i64, .i .i64]),(64000002, .var [.i .i64, .ro dI (some 11)]),(64000003, .var [.i .i64, .i .i64, .bg 64000012, .bg 64000013, .bg 64000014, .bg 64000015, .bg 64000016, .bg 64000017, .bg 64000018, .bg 64000019]),(64000004, .arr (.fz dk)),(64000005, .arr kR),(64000006, .arr dZ),(64000007, .arr dj),(64000008, .arr dj),(64000009, .arr dI),(64000010, .arr dI),(64000011, .arr wV),(64000012, .arr (.fz dk)),(64000013, .arr kR),(64000014, .arr dZ),(64000015, .arr dj),(64000016, .arr dj),(64000017, .arr dI),(64000018, .arr dI),(64000019, .arr wV)]
def aa8:Nat→Option aq:=λn=>b6 [(0,⟨⟨[.dead, .dead, .dead, .vptr 64000000 0, .vptr 64000001 0, .vptr 64000002 0, .vptr 64000003 0, .i .i64, .i .i64]++dd 70,xI⟩,⟨[.dead, .dead, .dead, .vptr 64000000 0, .vptr 64000001 0, .vptr 64000002 0, .vptr 64000003 0, .i .i64]++dd 71,xI⟩,none,false⟩)] n
def aeO:bZ:=dD 132 false [i13,i15,i14] [none,none,none] [i13] CH
theorem S8:aeO.Ok Tryz.prog:=cb bI [] [] [OX,tM,oC,mV] ⟨xC,iz,ft,eJ,trivial⟩ aa8 Tryz.f132 [.cell 6 93] λx=>by kernel_rfl
abbrev aa9:=(t13×Unit)×(Unit×XI)
abbrev JL:=(Bool×Int×Unit)×((Int×Int×Unit)×XM×(Int×List Int×Unit)×(Int×Int×Unit)×List (List az)×List af×List aj×List ag×List ag×List Int×List Int×List ((Int×Int×Int×Int×List Int×Unit))×List (List az)×List af×List aj×List ag×List ag×List Int×List Int×List ((Int×Int×Int×Int×List Int×Unit))×Unit)
def pW:JL→Out (Round JL ((Bool×Unit)×((Int×Int×Unit)×XM×(Int×List Int×Unit)×(Int×Int×Unit)×List (List az)×List af×List aj×List ag×List ag×List Int×List Int×List ((Int×Int×Int×Int×List Int×Unit))×List (List az)×List af×List aj×List ag×List ag×List Int×List Int×List ((Int×Int×Int×Int×List Int×Unit))×Unit)) ((Unit)×((Int×Int×Unit)×List (List az)×List af×List aj×List ag×List ag×List Int×List Int×List ((Int×Int×Int×Int×List Int×Unit))×Unit)))
|((p0,p1,_),(p2,p3,_),(p4,p5,p6,p7,p8,p9,cH,cK,eH,eU,_),(ei,dq,_),(eI,fD,_),fN,fk,gm,gh,ju,lD,oI,rr,GO,DB,p28,p29,p30,p31,p32,p33,_)=> .ite (decide (p1<((List.length fk:Nat):Int))) (.ite (decide (0≤p1∧p1<((List.length fk:Nat):Int))) (.get (nth fk (Int.toNat p1)) λy1=> .ite ((y1.2.1 != p4)) (.ret (.again ((p0,(IntKind.i64.wrap (p1+1)),()),((p2,p3,()),(p4,p5,p6,p7,p8,p9,cH,cK,eH,eU,()),(ei,dq,()),(eI,fD,()),fN,fk,gm,gh,ju,lD,oI,rr,GO,DB,p28,p29,p30,p31,p32,p33,())))) (.ite ((y1.2.2.1==6)) (.get (bQ ((6,()),(y1.1,()),(0,()),(0,()),())) λ((cm,_),_)=> .get (br ((p2,p3,fN,fk,gm,gh,ju,lD,oI,rr,()),cm,())) λ((dT,_),_)=> .get (uU (dT,(p4,()),(ei,dq,()),(y1.1,()),y1.2.2.2.2.2.2.2.2,())) λ((gR,_),_)=> .ret (.ret ((),((gR.1,gR.2.1,()),gR.2.2.1,gR.2.2.2.1,gR.2.2.2.2.1,gR.2.2.2.2.2.1,gR.2.2.2.2.2.2.1,gR.2.2.2.2.2.2.2.1,gR.2.2.2.2.2.2.2.2.1,gR.2.2.2.2.2.2.2.2.2.1,())))) (.ret (.again ((false,(IntKind.i64.wrap (p1+1)),()),((p2,p3,()),(p4,p5,p6,p7,p8,p9,cH,cK,eH,eU,()),(ei,dq,()),(eI,fD,()),fN,fk,gm,gh,ju,lD,oI,rr,GO,DB,p28,p29,p30,p31,p32,p33,())))))) .fail) (.ret (.out ((p0,()),((p2,p3,()),(p4,p5,p6,p7,p8,p9,cH,cK,eH,eU,()),(ei,dq,()),(eI,fD,()),fN,fk,gm,gh,ju,lD,oI,rr,GO,DB,p28,p29,p30,p31,p32,p33,()))))
def CI:t13×t15×t14×Unit→Out aa9
|(a0,a1,a2,_)=> .get (iter pW bc ((true,0,()),((a0.1,a0.2.1,()),(a1.1,a1.2.1,a1.2.2.1,a1.2.2.2.1,a1.2.2.2.2.1,a1.2.2.2.2.2.1,a1.2.2.2.2.2.2.1,a1.2.2.2.2.2.2.2.1,a1.2.2.2.2.2.2.2.2.1,a1.2.2.2.2.2.2.2.2.2.1,()),(a2.1,a2.2.1,()),(0,0,()),a0.2.2.1,a0.2.2.2.1,a0.2.2.2.2.1,a0.2.2.2.2.2.1,a0.2.2.2.2.2.2.1,a0.2.2.2.2.2.2.2.1,a0.2.2.2.2.2.2.2.2.1,a0.2.2.2.2.2.2.2.2.2.1,([]:List (List az)),([]:List af),([]:List aj),([]:List ag),([]:List ag),([]:List Int),([]:List Int),([]:List ((Int×Int×Int×Int×List Int×Unit))),()))) λy1=> .alt y1 (λy2=> .ite y2.1.1 (.get (bt ((y2.2.1.1,y2.2.1.2.1,y2.2.2.2.2.2.1,y2.2.2.2.2.2.2.1,y2.2.2.2.2.2.2.2.1,y2.2.2.2.2.2.2.2.2.1,y2.2.2.2.2.2.2.2.2.2.1,y2.2.2.2.2.2.2.2.2.2.2.1,y2.2.2.2.2.2.2.2.2.2.2.2.1,y2.2.2.2.2.2.2.2.2.2.2.2.2.1,()),(y2.2.2.1.1,()),(y2.2.2.2.1.1,y2.2.2.2.1.2.1,()),(-1,()),())) λ((gR,_),_)=> .ret ((gR,()),((),(),(),()))) (.get (uX ((y2.2.1.1,y2.2.1.2.1,y2.2.2.2.2.2.1,y2.2.2.2.2.2.2.1,y2.2.2.2.2.2.2.2.1,y2.2.2.2.2.2.2.2.2.1,y2.2.2.2.2.2.2.2.2.2.1,y2.2.2.2.2.2.2.2.2.2.2.1,y2.2.2.2.2.2.2.2.2.2.2.2.1,y2.2.2.2.2.2.2.2.2.2.2.2.2.1,()),(y2.2.2.1.1,()),(3,()),(0,()),())) λ((jt,_),_)=> .ret ((jt,()),((),(),(),())))) (λy3=> .ret (((y3.2.1.1,y3.2.1.2.1,y3.2.2.1,y3.2.2.2.1,y3.2.2.2.2.1,y3.2.2.2.2.2.1,y3.2.2.2.2.2.2.1,y3.2.2.2.2.2.2.2.1,y3.2.2.2.2.2.2.2.2.1,y3.2.2.2.2.2.2.2.2.2.1,()),()),((),(),(),())))
def Mg (x:t13×t15×t14×Unit):=(CI x).eval
def aba:Nat→Option aq:=λn=>b6 [(0,⟨⟨[.dead, .dead, .dead, .vptr 64000000 0, .vptr 64000001 0, .vptr 64000002 0, .vptr 64000003 0, .b, .i .i64]++dd 47,xI⟩,⟨[.dead, .dead, .dead, .vptr 64000000 0, .vptr 64000001 0, .vptr 64000002 0, .vptr 64000003 0, .b]++dd 48,xI⟩,some ⟨dd 6++[.vptr 64000000 0]++dd 49,[(64000000, .var [.i .i64, .i .i64, .bg 64000001, .bg 64000002, .bg 64000003, .bg 64000004, .bg 64000005, .bg 64000006, .bg 64000007, .bg 64000008]),(64000001, .arr (.fz dk)),(64000002, .arr kR),(64000003, .arr dZ),(64000004, .arr dj),(64000005, .arr dj),(64000006, .arr dI),(64000007, .arr dI),(64000008, .arr wV)]⟩,false⟩)] n
def aeP:bZ:=dD 133 false [i13,i15,i14] [none,none,none] [i13] CI
theorem S9:aeP.Ok Tryz.prog:=cb bI [] [] [oC,mV,S1,tM,O7] ⟨ft,eJ,DH,iz,xH,trivial⟩ aba Tryz.f133 [.cell 6 93] λx=>by kernel_rfl
abbrev HJ:=(t13×Unit)×(Unit×XI)
def xn (v0:Int) (v1:Int) (v2:Int) (v3:Int) (v4:Int) (v5:Int) (v6:Int) (v7:List Int) (v8:List (List az)) (v9:List af) (v10:List aj) (v11:List ag) (v12:List ag) (KZ:List Int) (K1:List Int) (QG:List (Int×Int×Int×Int×List Int×Unit)):Out (HJ):= .get (bQ ((10,()),(v2,()),(2,()),(v0,()),())) λ((lf,_),_)=> .get (br ((v3,v4,v8,v9,v10,v11,v12,KZ,K1,QG,()),lf,())) λ((uN,_),_)=> .get (bQ ((11,()),(v2,()),(1,()),(0,()),())) λ((nE,_),_)=> .get (br (uN,nE,())) λ((uS,_),_)=> .get (bQ ((9,()),(v5,()),(v1,()),(v2,()),())) λ((nz,_),_)=> .get (br (uS,nz,())) λ((nA,_),_)=> .get (bt (nA,(v5,()),(v6,v7,()),(v1,()),())) λ((zr,_),_)=> .ret ((zr,()),((),(),(),()))
def xo (v0:Int) (v1:Int) (v2:Int) (v3:Bool) (v4:Int) (v5:Int) (v6:Int) (v7:Int) (v8:List Int) (v9:List (List az)) (v10:List af) (v11:List aj) (v12:List ag) (KZ:List ag) (K1:List Int) (QG:List Int) (Vs:List (Int×Int×Int×Int×List Int×Unit)):Out (HJ):= .ite (!v3) (.get (bQ ((18,()),(v0,()),(0,()),(0,()),())) λ((oB,_),_)=> .get (br ((v4,v5,v9,v10,v11,v12,KZ,K1,QG,Vs,()),oB,())) λ((lE,_),_)=>
 xn v0 v1 v2 lE.1 lE.2.1 v6 v7 v8 lE.2.2.1 lE.2.2.2.1 lE.2.2.2.2.1 lE.2.2.2.2.2.1 lE.2.2.2.2.2.2.1 lE.2.2.2.2.2.2.2.1 lE.2.2.2.2.2.2.2.2.1 lE.2.2.2.2.2.2.2.2.2.1) (xn v0 v1 v2 v4 v5 v6 v7 v8 v9 v10 v11 v12 KZ K1 QG Vs)
def CP:t13×t15×t14×Unit→Out HJ
|(a0,a1,a2,_)=> .ite (decide (0≤(0:Int))) (.get (nth a2.2.1 (Int.toNat (0:Int))) λy1=> .get (yd (a1,(0,()),())) λ((cm,_),_)=> .get (CL ((a0.1,a0.2.1,a0.2.2.1,a0.2.2.2.1,a0.2.2.2.2.1,a0.2.2.2.2.2.1,a0.2.2.2.2.2.2.1,a0.2.2.2.2.2.2.2.1,a0.2.2.2.2.2.2.2.2.1,()),(0,()),())) λ((dT,_),_)=> .ite ((!(dh y1 (0:Int) (5:Int)))==false) (.ite ((decide (cm.1<0))==false) (.ite ((decide (dT.1<0))==false) (.ite ((!(decide ((bj a0.2.2.2.2.2.2.1 y1)≥(0:Int))))==true) (.ite (decide (0≤(1:Int))) (.get (nth a2.2.1 (Int.toNat (1:Int))) λy4=> .ite ((y4==0)) (.get (bt (a0,(a1.1,()),a2,(-1,()),())) λ((jt,_),_)=> .ret ((jt,()),((),(),(),()))) (xo y1 cm.1 dT.1 (decide ((bj a0.2.2.2.2.2.2.1 y1)≥(0:Int))) a0.1 a0.2.1 a1.1 a2.1 a2.2.1 a0.2.2.1 a0.2.2.2.1 a0.2.2.2.2.1 a0.2.2.2.2.2.1 a0.2.2.2.2.2.2.1 a0.2.2.2.2.2.2.2.1 a0.2.2.2.2.2.2.2.2.1 a0.2.2.2.2.2.2.2.2.2.1)) .fail) (xo y1 cm.1 dT.1 (decide ((bj a0.2.2.2.2.2.2.1 y1)≥(0:Int))) a0.1 a0.2.1 a1.1 a2.1 a2.2.1 a0.2.2.1 a0.2.2.2.1 a0.2.2.2.2.1 a0.2.2.2.2.2.1 a0.2.2.2.2.2.2.1 a0.2.2.2.2.2.2.2.1 a0.2.2.2.2.2.2.2.2.1 a0.2.2.2.2.2.2.2.2.2.1)) (.get (bt (a0,(a1.1,()),a2,(-1,()),())) λ((HK,_),_)=> .ret ((HK,()),((),(),(),())))) (.get (bt (a0,(a1.1,()),a2,(-1,()),())) λ((rG,_),_)=> .ret ((rG,()),((),(),(),())))) (.get (bt (a0,(a1.1,()),a2,(-1,()),())) λ((sG,_),_)=> .ret ((sG,()),((),(),(),())))) .fail
def Ml (x:t13×t15×t14×Unit):=(CP x).eval
def aeQ:bZ:=dD 136 false [i13,i15,i14] [none,none,none] [i13] CP
theorem Ta:aeQ.Ok Tryz.prog:=cb bI [] [] [S6,aaX,LV,vu,tM,oC,mV] ⟨DQ,JI,yX,jW,iz,ft,eJ,trivial⟩ (λ_=>none) Tryz.f136 [.cell 6 93] λx=>by kernel_rfl
abbrev abb:=(t16×t10×Unit)×(Unit×XI)
def oO:t11×t15×t1×Unit→Out abb
|(a0,a1,a2,_)=> .ite ((decide (a2.1<0))==false) (.ite ((decide (a2.1≥((List.length a1.2.2.2.2.2.2.2.1:Nat):Int)))==false) (.ite (decide (0≤a2.1)) (.get (nth a1.2.2.2.2.2.2.2.1 (Int.toNat a2.1)) λy1=> .ite ((y1== -1)) (.ret (((0,0,0,0,0,()),(false,()),()),((),(),(),()))) (.ite (decide (0≤a2.1)) (.get (nth a1.2.2.2.2.2.2.2.1 (Int.toNat a2.1)) λy2=> .ite (decide (0≤(aF a0.2.2.2.2.1 y2))) (.get (nth a0.2.2.2.2.1 (Int.toNat (aF a0.2.2.2.2.1 y2))) λy3=> .ret ((y3,(true,()),()),((),(),(),()))) .fail) .fail)) .fail) (.ret (((0,0,0,0,0,()),(false,()),()),((),(),(),())))) (.ret (((0,0,0,0,0,()),(false,()),()),((),(),(),())))
def rL (x:t11×t15×t1×Unit):=(oO x).eval
def O9:bZ:=dD 137 true [i11,i15,i1] [none,none,none] [i16,i10] oO
theorem xJ:O9.Ok Tryz.prog:=cb ja [] [] [KU] ⟨vD,trivial⟩ (λ_=>none) Tryz.f137 [.cell 6 47, .tmp 7] λx=>by kernel_rfl
abbrev abc:=(t13×Unit)×(Unit×XI)
def CZ:t13×t15×t14×Unit→Out abc
|(a0,a1,a2,_)=> .ite (decide (0≤(0:Int))) (.get (nth a2.2.1 (Int.toNat (0:Int))) λy1=> .get (rL ((a0.1,a0.2.1,a0.2.2.1,a0.2.2.2.1,a0.2.2.2.2.1,a0.2.2.2.2.2.1,a0.2.2.2.2.2.2.1,a0.2.2.2.2.2.2.2.1,a0.2.2.2.2.2.2.2.2.1,()),a1,(y1,()),())) λ((cm,y2b,_),_)=> .ite ((!y2b.1)==false) (.ite ((cm.2.1==4)) (.get (bt (a0,(a1.1,()),a2,(-1,()),())) λ((dT,_),_)=> .ret ((dT,()),((),(),(),()))) (.ite ((cm.2.1==1)) (.get (bt (a0,(a1.1,()),a2,(0,()),())) λ((gR,_),_)=> .ret ((gR,()),((),(),(),()))) (.ite ((cm.2.1==2)) (.ite (decide (0≤(bj a0.2.2.2.2.2.2.1 cm.2.2.1)∧(bj a0.2.2.2.2.2.2.1 cm.2.2.1)<((List.length a0.2.2.2.2.2.2.1:Nat):Int))) (.get (nth a0.2.2.2.2.2.2.1 (Int.toNat (bj a0.2.2.2.2.2.2.1 cm.2.2.1))) λy5=> .ite (decide (cm.2.2.2.1≥((List.length y5.2.1:Nat):Int))) (.get (bt (a0,(a1.1,()),a2,(0,()),())) λ((oB,_),_)=> .ret ((oB,()),((),(),(),()))) (.get (bQ ((13,()),(cm.1,()),((IntKind.i64.wrap (cm.2.2.2.1+1)),()),(0,()),())) λ((lE,_),_)=> .get (br (a0,lE,())) λ((lf,_),_)=> .ite (decide (0≤cm.2.2.2.1)) (.get (nth y5.2.1 (Int.toNat cm.2.2.2.1)) λy9=> .get (uU (lf,(a1.1,()),a2,(1,()),(y9,()),())) λ((nE,_),_)=> .ret ((nE,()),((),(),(),()))) .fail)) .fail) (.ite (decide (0≤(ba a0.2.2.2.2.2.1 cm.2.2.1)∧(ba a0.2.2.2.2.2.1 cm.2.2.1)<((List.length a0.2.2.2.2.2.1:Nat):Int))) (.get (nth a0.2.2.2.2.2.1 (Int.toNat (ba a0.2.2.2.2.2.1 cm.2.2.1))) λEU=> .ite (decide (((List.length EU.2.1:Nat):Int)>0)) (.get (bQ ((16,()),(cm.2.2.1,()),(0,()),(0,()),())) λ((nz,_),_)=> .get (br (a0,nz,())) λ((nA,_),_)=> .get (xW (nA,(cm.2.2.1,()),())) λ((zr,_),_)=> .ite (decide (0≤(0:Int))) (.get (nth EU.2.1 (Int.toNat (0:Int))) λy15=> .get (uU (zr,(a1.1,()),a2,(1,()),(y15,()),())) λ((HK,_),_)=> .ret ((HK,()),((),(),(),()))) .fail) (.ite (((gZ a0.2.2.2.2.1 cm.2.2.1 (4:Int))==0)) (.get (bt (a0,(a1.1,()),a2,(0,()),())) λ((rG,_),_)=> .ret ((rG,()),((),(),(),()))) (.get (uX (a0,(a1.1,()),(4,()),(cm.1,()),())) λ((sG,_),_)=> .ret ((sG,()),((),(),(),()))))) .fail)))) (.get (bt (a0,(a1.1,()),a2,(-1,()),())) λ((HL,_),_)=> .ret ((HL,()),((),(),(),())))) .fail
def Mz (x:t13×t15×t14×Unit):=(CZ x).eval
def aeR:bZ:=dD 138 false [i13,i15,i14] [none,none,none] [i13] CZ
theorem Tb:aeR.Ok Tryz.prog:=cb bI [] [] [O9,tM,LV,oC,mV,S1,LU,S4,LW,O7] ⟨xJ,iz,yX,ft,eJ,DH,yW,DO,zg,xH,trivial⟩ (λ_=>none) Tryz.f138 [.cell 6 93] λx=>by kernel_rfl
abbrev abd:=(t13×Unit)×(Unit×XI)
def C3:t13×t15×t14×Unit→Out abd
|(a0,a1,a2,_)=> .ite (decide (0≤(0:Int))) (.get (nth a2.2.1 (Int.toNat (0:Int))) λy1=> .get (rL ((a0.1,a0.2.1,a0.2.2.1,a0.2.2.2.1,a0.2.2.2.2.1,a0.2.2.2.2.2.1,a0.2.2.2.2.2.2.1,a0.2.2.2.2.2.2.2.1,a0.2.2.2.2.2.2.2.2.1,()),a1,(y1,()),())) λ((cm,y2b,_),_)=> .ite (decide (0≤(1:Int))) (.get (nth a2.2.1 (Int.toNat (1:Int))) λy3=> .ite ((!y2b.1)==false) (.ite ((cm.2.1==3)) (.get (bt (a0,(a1.1,()),a2,(-1,()),())) λ((gR,_),_)=> .ret ((gR,()),((),(),(),()))) (.ite ((cm.2.1==1)) (.ite (decide (((List.length a0.2.2.2.2.2.2.2.2.1:Nat):Int)≥(60:Int))) (.get (bt (a0,(a1.1,()),a2,(-1,()),())) λ((jt,_),_)=> .ret ((jt,()),((),(),(),()))) (.get (bQ ((23,()),(y3,()),(0,()),(0,()),())) λ((oB,_),_)=> .get (br (a0,oB,())) λ((lE,_),_)=> .get (bt (lE,(a1.1,()),a2,(1,()),())) λ((lf,_),_)=> .ret ((lf,()),((),(),(),())))) (.ite ((cm.2.1==2)) (.ite (decide (cm.2.2.2.1≥(8:Int))) (.get (bt (a0,(a1.1,()),a2,(-1,()),())) λ((uN,_),_)=> .ret ((uN,()),((),(),(),()))) (.get (bQ ((19,()),(cm.2.2.1,()),(cm.2.2.2.1,()),(y3,()),())) λ((nE,_),_)=> .get (br (a0,nE,())) λ((uS,_),_)=> .get (bQ ((13,()),(cm.1,()),((IntKind.i64.wrap (cm.2.2.2.1+1)),()),(0,()),())) λ((nz,_),_)=> .get (br (uS,nz,())) λ((nA,_),_)=> .get (bt (nA,(a1.1,()),a2,(1,()),())) λ((zr,_),_)=> .ret ((zr,()),((),(),(),())))) (.ite (((gZ a0.2.2.2.2.1 cm.2.2.1 (3:Int))==0)) (.get (bt (a0,(a1.1,()),a2,(-1,()),())) λ((lh,_),_)=> .ret ((lh,()),((),(),(),()))) (.ite (decide (0≤(ba a0.2.2.2.2.2.1 cm.2.2.1)∧(ba a0.2.2.2.2.2.1 cm.2.2.1)<((List.length a0.2.2.2.2.2.1:Nat):Int))) (.get (nth a0.2.2.2.2.2.1 (Int.toNat (ba a0.2.2.2.2.2.1 cm.2.2.1))) λQV=> .ite (decide (((List.length QV.2.1:Nat):Int)≥(4:Int))) (.get (uX (a0,(a1.1,()),(5,()),(cm.1,()),())) λ((rG,_),_)=> .ret ((rG,()),((),(),(),()))) (.get (bQ ((15,()),(cm.2.2.1,()),(y3,()),(0,()),())) λ((sG,_),_)=> .get (br (a0,sG,())) λ((HL,_),_)=> .get (xW (HL,(cm.2.2.1,()),())) λ((Pa,_),_)=> .get (bt (Pa,(a1.1,()),a2,(1,()),())) λ((Pb,_),_)=> .ret ((Pb,()),((),(),(),())))) .fail))))) (.get (bt (a0,(a1.1,()),a2,(-1,()),())) λ((OW,_),_)=> .ret ((OW,()),((),(),(),())))) .fail) .fail
def MB (x:t13×t15×t14×Unit):=(C3 x).eval
def aeS:bZ:=dD 139 false [i13,i15,i14] [none,none,none] [i13] C3
theorem Tc:aeS.Ok Tryz.prog:=cb bI [] [] [O9,tM,oC,mV,LW,LU,O7,S4] ⟨xJ,iz,ft,eJ,zg,yW,xH,DO,trivial⟩ (λ_=>none) Tryz.f139 [.cell 6 93] λx=>by kernel_rfl
abbrev abe:=(t13×Unit)×(Unit×XI)
def CW:t13×t15×t14×Unit→Out abe
|(a0,a1,a2,_)=> .get (Mh ((a0.1,a0.2.1,a0.2.2.1,a0.2.2.2.1,a0.2.2.2.2.1,a0.2.2.2.2.2.1,a0.2.2.2.2.2.2.1,a0.2.2.2.2.2.2.2.1,a0.2.2.2.2.2.2.2.2.1,()),())) λ((cP,_),_)=> .get (yd (a1,(0,()),())) λ((cm,_),_)=> .get (yd (a1,((IntKind.i64.wrap (cm.1+1)),()),())) λ((dT,_),_)=> .get (CL ((a0.1,a0.2.1,a0.2.2.1,a0.2.2.2.1,a0.2.2.2.2.1,a0.2.2.2.2.2.1,a0.2.2.2.2.2.2.1,a0.2.2.2.2.2.2.2.1,a0.2.2.2.2.2.2.2.2.1,()),(0,()),())) λ((gR,_),_)=> .get (CL ((a0.1,a0.2.1,a0.2.2.1,a0.2.2.2.1,a0.2.2.2.2.1,a0.2.2.2.2.2.1,a0.2.2.2.2.2.2.1,a0.2.2.2.2.2.2.2.1,a0.2.2.2.2.2.2.2.2.1,()),((IntKind.i64.wrap (gR.1+1)),()),())) λ((jt,_),_)=> .ite ((decide (cP.1<0))==false) (.ite ((decide (cm.1<0))==false) (.ite ((decide (dT.1<0))==false) (.ite ((decide (gR.1<0))==false) (.ite (decide (jt.1<0)) (.get (bt (a0,(a1.1,()),a2,(-1,()),())) λ((oB,_),_)=> .ret ((oB,()),((),(),(),()))) (.get (bQ ((14,()),cP,(0,()),(0,()),())) λ((lE,_),_)=> .get (br (a0,lE,())) λ((lf,_),_)=> .get (bQ ((10,()),gR,(3,()),cP,())) λ((uN,_),_)=> .get (br (lf,uN,())) λ((nE,_),_)=> .get (bQ ((10,()),jt,(4,()),cP,())) λ((uS,_),_)=> .get (br (nE,uS,())) λ((nz,_),_)=> .get (bQ ((11,()),gR,(1,()),(0,()),())) λ((nA,_),_)=> .get (br (nz,nA,())) λ((zr,_),_)=> .get (bQ ((11,()),jt,(1,()),(0,()),())) λ((lh,_),_)=> .get (br (zr,lh,())) λ((HK,_),_)=> .get (bQ ((9,()),(a1.1,()),cm,gR,())) λ((rG,_),_)=> .get (br (HK,rG,())) λ((sG,_),_)=> .get (bQ ((9,()),(a1.1,()),dT,jt,())) λ((HL,_),_)=> .get (br (sG,HL,())) λ((Pa,_),_)=> .get (uU (Pa,(a1.1,()),a2,cm,dT,())) λ((Pb,_),_)=> .ret ((Pb,()),((),(),(),())))) (.get (bt (a0,(a1.1,()),a2,(-1,()),())) λ((MD,_),_)=> .ret ((MD,()),((),(),(),())))) (.get (bt (a0,(a1.1,()),a2,(-1,()),())) λ((Hf,_),_)=> .ret ((Hf,()),((),(),(),())))) (.get (bt (a0,(a1.1,()),a2,(-1,()),())) λ((ME,_),_)=> .ret ((ME,()),((),(),(),())))) (.get (bt (a0,(a1.1,()),a2,(-1,()),())) λ((MF,_),_)=> .ret ((MF,()),((),(),(),())))
def Mv (x:t13×t15×t14×Unit):=(CW x).eval
def aeT:bZ:=dD 140 false [i13,i15,i14] [none,none,none] [i13] CW
theorem Td:aeT.Ok Tryz.prog:=cb bI [] [] [aeL,S6,aaX,tM,oC,mV,S1] ⟨S7,DQ,JI,iz,ft,eJ,DH,trivial⟩ (λ_=>none) Tryz.f140 [.cell 6 93] λx=>by kernel_rfl
abbrev abf:=(t13×Unit)×(Unit×XI)
def CQ:t13×t15×t14×Unit→Out abf
|(a0,a1,a2,_)=> .ite (decide (0≤(0:Int))) (.get (nth a2.2.1 (Int.toNat (0:Int))) λy1=> .get (rL ((a0.1,a0.2.1,a0.2.2.1,a0.2.2.2.1,a0.2.2.2.2.1,a0.2.2.2.2.2.1,a0.2.2.2.2.2.2.1,a0.2.2.2.2.2.2.2.1,a0.2.2.2.2.2.2.2.2.1,()),a1,(y1,()),())) λ((cm,y2b,_),_)=> .get (yd (a1,(0,()),())) λ((dT,_),_)=> .ite ((!y2b.1)==false) (.ite (decide (dT.1<0)) (.get (bt (a0,(a1.1,()),a2,(-1,()),())) λ((gR,_),_)=> .ret ((gR,()),((),(),(),()))) (.get (bQ ((11,()),(cm.1,()),(1,()),(0,()),())) λ((jt,_),_)=> .get (br (a0,jt,())) λ((oB,_),_)=> .get (bQ ((9,()),(a1.1,()),dT,(cm.1,()),())) λ((lE,_),_)=> .get (br (oB,lE,())) λ((lf,_),_)=> .get (bt (lf,(a1.1,()),a2,dT,())) λ((uN,_),_)=> .ret ((uN,()),((),(),(),())))) (.get (bt (a0,(a1.1,()),a2,(-1,()),())) λ((nE,_),_)=> .ret ((nE,()),((),(),(),())))) .fail
def Mm (x:t13×t15×t14×Unit):=(CQ x).eval
def aeU:bZ:=dD 141 false [i13,i15,i14] [none,none,none] [i13] CQ
theorem Te:aeU.Ok Tryz.prog:=cb bI [] [] [O9,S6,tM,oC,mV] ⟨xJ,DQ,iz,ft,eJ,trivial⟩ (λ_=>none) Tryz.f141 [.cell 6 93] λx=>by kernel_rfl
abbrev abg:=(t13×Unit)×(Unit×XI)
def CT:t13×t15×t14×Unit→Out abg
|(a0,a1,a2,_)=> .ite (decide (0≤(0:Int))) (.get (nth a2.2.1 (Int.toNat (0:Int))) λy1=> .ite (decide (y1≤(0:Int))) (.get (bt (a0,(a1.1,()),a2,(0,()),())) λ((cm,_),_)=> .ret ((cm,()),((),(),(),()))) (.ite (decide ((IntKind.i64.wrap (a0.2.1+y1))>1000000)) (.get (bt (a0,(a1.1,()),a2,(-1,()),())) λ((dT,_),_)=> .ret ((dT,()),((),(),(),()))) (.get (bt (a0,(a1.1,()),a2,(0,()),())) λ((gR,_),_)=> .get (uX (gR,(a1.1,()),(2,()),((IntKind.i64.wrap (gR.2.1+y1)),()),())) λ((jt,_),_)=> .ret ((jt,()),((),(),(),()))))) .fail
def Mp (x:t13×t15×t14×Unit):=(CT x).eval
def aeV:bZ:=dD 142 false [i13,i15,i14] [none,none,none] [i13] CT
theorem Tf:aeV.Ok Tryz.prog:=cb bI [] [] [tM,O7] ⟨iz,xH,trivial⟩ (λ_=>none) Tryz.f142 [.cell 6 93] λx=>by kernel_rfl
abbrev abh:=(t13×Unit)×(Unit×XI)
def C5:t13×t15×t14×Unit→Out abh
|(a0,a1,a2,_)=> .ite (decide (0≤(0:Int))) (.get (nth a2.2.1 (Int.toNat (0:Int))) λy1=> .ite ((decide ((ak a0.2.2.2.1 y1)<0))==false) (.ite (decide (0≤(ak a0.2.2.2.1 y1)∧(ak a0.2.2.2.1 y1)<((List.length a0.2.2.2.1:Nat):Int))) (.get (nth a0.2.2.2.1 (Int.toNat (ak a0.2.2.2.1 y1))) λy2=> .ite ((y2.2.2.1==6)) (.get (bt (a0,(a1.1,()),a2,(-1,()),())) λ((dT,_),_)=> .ret ((dT,()),((),(),(),()))) (.ite (decide (0≤(0:Int))) (.get (nth a2.2.1 (Int.toNat (0:Int))) λy4=> .ite ((y4==a1.1)) (.get (uT (a0,(a1.1,()),(-1,()),())) λ((jt,_),_)=> .ret ((jt,()),((),(),(),()))) (.ite (decide (0≤(0:Int))) (.get (nth a2.2.1 (Int.toNat (0:Int))) λy6=> .get (uT (a0,(y6,()),(-1,()),())) λ((lE,_),_)=> .get (bt (lE,(a1.1,()),a2,(0,()),())) λ((lf,_),_)=> .ret ((lf,()),((),(),(),()))) .fail)) .fail)) .fail) (.get (bt (a0,(a1.1,()),a2,(-1,()),())) λ((uN,_),_)=> .ret ((uN,()),((),(),(),())))) .fail
def MC (x:t13×t15×t14×Unit):=(C5 x).eval
def aeW:bZ:=dD 143 false [i13,i15,i14] [none,none,none] [i13] C5
theorem Tg:aeW.Ok Tryz.prog:=cb bI [] [] [Ja,tM,S5] ⟨rV,iz,DP,trivial⟩ (λ_=>none) Tryz.f143 [.cell 6 93] λx=>by kernel_rfl
abbrev abi:=(t13×Unit)×(Unit×XI)
def CU:t13×t15×t14×Unit→Out abi
|(a0,a1,a2,_)=> .ite (decide (0≤(0:Int))) (.get (nth a2.2.1 (Int.toNat (0:Int))) λy1=> .ite ((decide ((bj a0.2.2.2.2.2.2.1 y1)<0))==false) (.ite (decide ((gZ a0.2.2.2.2.1 y1 (2:Int))>0)) (.get (bt (a0,(a1.1,()),a2,(-1,()),())) λ((cm,_),_)=> .ret ((cm,()),((),(),(),()))) (.get (bQ ((20,()),(y1,()),(0,()),(0,()),())) λ((dT,_),_)=> .get (br (a0,dT,())) λ((gR,_),_)=> .get (bt (gR,(a1.1,()),a2,(0,()),())) λ((jt,_),_)=> .ret ((jt,()),((),(),(),())))) (.get (bt (a0,(a1.1,()),a2,(-1,()),())) λ((oB,_),_)=> .ret ((oB,()),((),(),(),())))) .fail
def Mt (x:t13×t15×t14×Unit):=(CU x).eval
def aeX:bZ:=dD 144 false [i13,i15,i14] [none,none,none] [i13] CU
theorem Th:aeX.Ok Tryz.prog:=cb bI [] [] [LV,LW,tM,oC,mV] ⟨yX,zg,iz,ft,eJ,trivial⟩ (λ_=>none) Tryz.f144 [.cell 6 93] λx=>by kernel_rfl
abbrev abj:=(t13×Unit)×(Unit×XI)
def CS:t13×t15×t14×Unit→Out abj
|(a0,a1,a2,_)=> .ite (decide (0≤(0:Int))) (.get (nth a2.2.1 (Int.toNat (0:Int))) λy1=> .ite ((decide (y1<0))==false) (.ite (decide (y1≥((List.length a0.2.2.1:Nat):Int))) (.get (bt (a0,(a1.1,()),a2,(-1,()),())) λ((cm,_),_)=> .ret ((cm,()),((),(),(),()))) (.get (bQ ((8,()),(a1.1,()),(y1,()),(0,()),())) λ((dT,_),_)=> .get (br (a0,dT,())) λ((gR,_),_)=> .get (oP ((4,()),())) λ((jt,_),_)=> .get (xF (gR,(a1.1,()),(0,jt),())) λ((oB,_),_)=> .ret ((oB,()),((),(),(),())))) (.get (bt (a0,(a1.1,()),a2,(-1,()),())) λ((lE,_),_)=> .ret ((lE,()),((),(),(),())))) .fail
def Mo (x:t13×t15×t14×Unit):=(CS x).eval
def aeY:bZ:=dD 145 false [i13,i15,i14] [none,none,none] [i13] CS
theorem Ti:aeY.Ok Tryz.prog:=cb bI [] [] [tM,oC,mV,k29,Jy] ⟨iz,ft,eJ,Dg,zq,trivial⟩ (λ_=>none) Tryz.f145 [.cell 6 93] λx=>by kernel_rfl
abbrev abk:=(t13×Unit)×(Unit×XI)
def CR:t13×t15×t14×Unit→Out abk
|(a0,a1,a2,_)=> .ite ((4:Int)==0) .fail (.ite ((decide ((IntKind.i64.wrap (Int.tdiv ((List.length a1.2.2.2.2.2.2.1:Nat):Int) (4:Int)))≥(3:Int)))==false) (.get (nB ((a0.1,a0.2.1,a0.2.2.1,a0.2.2.2.1,a0.2.2.2.2.1,a0.2.2.2.2.2.1,a0.2.2.2.2.2.2.1,a0.2.2.2.2.2.2.2.1,a0.2.2.2.2.2.2.2.2.1,()),(1,()),())) λ((cP,_),_)=> .ite (!cP.1) (.get (bt (a0,(a1.1,()),a2,(-1,()),())) λ((cm,_),_)=> .ret ((cm,()),((),(),(),()))) (.get (bQ ((7,()),(a1.1,()),(0,()),(0,()),())) λ((dT,_),_)=> .get (br (a0,dT,())) λ((gR,_),_)=> .get (bt (gR,(a1.1,()),a2,(((List.length a1.2.2.2.2.2.2.1:Nat):Int),()),())) λ((jt,_),_)=> .ret ((jt,()),((),(),(),())))) (.get (bt (a0,(a1.1,()),a2,(-1,()),())) λ((oB,_),_)=> .ret ((oB,()),((),(),(),()))))
def Mn (x:t13×t15×t14×Unit):=(CR x).eval
def aeZ:bZ:=dD 135 false [i13,i15,i14] [none,none,none] [i13] CR
theorem Tj:aeZ.Ok Tryz.prog:=cb bI [] [] [OX,tM,oC,mV] ⟨xC,iz,ft,eJ,trivial⟩ (λ_=>none) Tryz.f135 [.cell 6 93] λx=>by kernel_rfl
abbrev abl:=(t13×Unit)×(Unit×Unit×XI)
def C6:t13×t15×t14×t1×Unit→Out abl
|(a0,a1,a2,a3,_)=> .ite ((a3.1==1)) (.ite (decide (0≤(0:Int))) (.get (nth a2.2.1 (Int.toNat (0:Int))) λy1=> .get (uT (a0,(a1.1,()),(y1,()),())) λ((cm,_),_)=> .ret ((cm,()),((),(),(),(),()))) .fail) (.ite ((a3.1==2)) (.get (Mc (a0,a1,a2,())) λ((dT,_),_)=> .ret ((dT,()),((),(),(),(),()))) (.ite ((a3.1==3)) (.get (Mg (a0,a1,a2,())) λ((gR,_),_)=> .ret ((gR,()),((),(),(),(),()))) (.ite ((a3.1==4)) (.get (bt (a0,(a1.1,()),a2,(a1.1,()),())) λ((jt,_),_)=> .ret ((jt,()),((),(),(),(),()))) (.ite ((a3.1==5)) (.get (Mn (a0,a1,a2,())) λ((oB,_),_)=> .ret ((oB,()),((),(),(),(),()))) (.ite ((a3.1==6)) (.get (Ml (a0,a1,a2,())) λ((lE,_),_)=> .ret ((lE,()),((),(),(),(),()))) (.ite ((a3.1==7)) (.ite (decide (0≤(0:Int))) (.get (nth a2.2.1 (Int.toNat (0:Int))) λy8=> .get (rL ((a0.1,a0.2.1,a0.2.2.1,a0.2.2.2.1,a0.2.2.2.2.1,a0.2.2.2.2.2.1,a0.2.2.2.2.2.2.1,a0.2.2.2.2.2.2.2.1,a0.2.2.2.2.2.2.2.2.1,()),a1,(y8,()),())) λ((_,y9b,_),_)=> .ite (!y9b.1) (.get (bt (a0,(a1.1,()),a2,(-1,()),())) λ((nE,_),_)=> .ret ((nE,()),((),(),(),(),()))) (.ite (decide (0≤(0:Int))) (.get (nth a2.2.1 (Int.toNat (0:Int))) λEU=> .get (uM (a0,(a1.1,()),(EU,()),())) λ((nz,_),_)=> .get (bt (nz,(a1.1,()),a2,(0,()),())) λ((nA,_),_)=> .ret ((nA,()),((),(),(),(),()))) .fail)) .fail) (.ite ((a3.1==8)) (.get (Mz (a0,a1,a2,())) λ((zr,_),_)=> .ret ((zr,()),((),(),(),(),()))) (.ite ((a3.1==9)) (.get (MB (a0,a1,a2,())) λ((lh,_),_)=> .ret ((lh,()),((),(),(),(),()))) (.ite ((a3.1==10)) (.get (Mv (a0,a1,a2,())) λ((HK,_),_)=> .ret ((HK,()),((),(),(),(),()))) (.ite ((a3.1==11)) (.get (Mm (a0,a1,a2,())) λ((rG,_),_)=> .ret ((rG,()),((),(),(),(),()))) (.ite ((a3.1==12)) (.get (Mp (a0,a1,a2,())) λ((sG,_),_)=> .ret ((sG,()),((),(),(),(),()))) (.ite ((a3.1==13)) (.get (MC (a0,a1,a2,())) λ((HL,_),_)=> .ret ((HL,()),((),(),(),(),()))) (.ite ((a3.1==14)) (.get (Mt (a0,a1,a2,())) λ((Pa,_),_)=> .ret ((Pa,()),((),(),(),(),()))) (.ite ((a3.1==15)) (.get (bt (a0,(a1.1,()),a2,(a0.2.1,()),())) λ((Pb,_),_)=> .ret ((Pb,()),((),(),(),(),()))) (.ite ((a3.1==16)) (.get (Mo (a0,a1,a2,())) λ((OW,_),_)=> .ret ((OW,()),((),(),(),(),()))) (.ite ((a3.1==17)) (.get (bt (a0,(a1.1,()),a2,(0,()),())) λ((MD,_),_)=> .get (bQ ((22,()),(a1.1,()),(0,()),(0,()),())) λ((Hf,_),_)=> .get (br (MD,Hf,())) λ((ME,_),_)=> .get (bQ ((21,()),(a1.1,()),(0,()),(0,()),())) λ((MF,_),_)=> .get (br (ME,MF,())) λ((Wz,_),_)=> .ret ((Wz,()),((),(),(),(),()))) (.get (bt (a0,(a1.1,()),a2,(-1,()),())) λ((aat,_),_)=> .ret ((aat,()),((),(),(),(),())))))))))))))))))))
def MG (x:t13×t15×t14×t1×Unit):=(C6 x).eval
def ae0:bZ:=dD 110 false [i13,i15,i14,i1] [none,none,none,none] [i13] C6
theorem Tk:ae0.Ok Tryz.prog:=cb bI [] [] [S5,aeO,aeP,tM,aeZ,aeQ,O9,aaR,aeR,aeS,aeT,aeU,aeV,aeW,aeX,aeY,oC,mV] ⟨DP,S8,S9,iz,Tj,Ta,xJ,JD,Tb,Tc,Td,Te,Tf,Tg,Th,Ti,ft,eJ,trivial⟩ (λ_=>none) Tryz.f110 [.cell 8 93] λx=>by kernel_rfl
abbrev ae1:=(t13×Unit)×(Unit×Unit)
def IK:t4×Unit→Out ae1
|(a0,_)=> .ite ((((List.length a0.2.2.2.2.2.2.2.1:Nat):Int)==0)) (.ret (((a0.1,a0.2.1,a0.2.2.1,a0.2.2.2.1,a0.2.2.2.2.1,a0.2.2.2.2.2.1,a0.2.2.2.2.2.2.1,a0.2.2.2.2.2.2.2.1,a0.2.2.2.2.2.2.2.2.1,([]:List ((Int×Int×Int×Int×List Int×Unit))),()),()),((),()))) (.ite (decide (0≤(0:Int)∧(0:Int)<((List.length a0.2.2.2.2.2.2.2.1:Nat):Int))) (.get (nth a0.2.2.2.2.2.2.2.1 (Int.toNat (0:Int))) λy1=> .ite (decide (0≤(ak a0.2.2.2.1 y1)∧(ak a0.2.2.2.1 y1)<((List.length a0.2.2.2.1:Nat):Int))) (.get (nth a0.2.2.2.1 (Int.toNat (ak a0.2.2.2.1 y1))) λy2=> .get (fV y2.1 y2.2.1 y2.2.2.1 y2.2.2.2.1 y2.2.2.2.2.1.1 y2.2.2.2.2.1.2.1 y2.2.2.2.2.2.1 y2.2.2.2.2.2.2.1 y2.2.2.2.2.2.2.2.1 y2.2.2.2.2.2.2.2.2.1) λy3=> .ite (decide (0≤y3.2.2.2.1∧y3.2.2.2.1<((List.length a0.2.2.1:Nat):Int))) (.get (nth a0.2.2.1 (Int.toNat y3.2.2.2.1)) λy4=> .ite (decide (List.length ([]:List Int)+List.length y3.2.2.2.2.2.1≤bA)) (.get (MJ ((y4,()),(y3.2.2.2.2.1,(([]:List Int)++y3.2.2.2.2.2.1),()),(y3.2.2.2.2.2.2.1,()),())) λ((jt,Vt,_),_)=> .ite ((Vt.1==2)) (.get (uT ((a0.1,a0.2.1,a0.2.2.1,(List.set a0.2.2.2.1 (Int.toNat (ak a0.2.2.2.1 y1)) y2),a0.2.2.2.2.1,a0.2.2.2.2.2.1,a0.2.2.2.2.2.2.1,a0.2.2.2.2.2.2.2.1,a0.2.2.2.2.2.2.2.2.1,([]:List ((Int×Int×Int×Int×List Int×Unit))),()),(y3.1,()),(-1,()),())) λ((oB,_),_)=> .ret ((oB,()),((),()))) (.ite ((Vt.1==1)) (.get (MG ((a0.1,a0.2.1,a0.2.2.1,(List.set a0.2.2.2.1 (Int.toNat (ak a0.2.2.2.1 y1)) y2),a0.2.2.2.2.1,a0.2.2.2.2.2.1,a0.2.2.2.2.2.2.1,a0.2.2.2.2.2.2.2.1,a0.2.2.2.2.2.2.2.2.1,([]:List ((Int×Int×Int×Int×List Int×Unit))),()),(y3.1,y3.2.1,y3.2.2.1,y3.2.2.2.1,y3.2.2.2.2.1,y3.2.2.2.2.2.1,y3.2.2.2.2.2.2.1,y3.2.2.2.2.2.2.2.1,y3.2.2.2.2.2.2.2.2.1,y3.2.2.2.2.2.2.2.2.2,()),jt,Vt.2.2.2,())) λ((lE,_),_)=> .ret ((lE,()),((),()))) (.get (O4 ((a0.1,a0.2.1,a0.2.2.1,(List.set a0.2.2.2.1 (Int.toNat (ak a0.2.2.2.1 y1)) y2),a0.2.2.2.2.1,a0.2.2.2.2.2.1,a0.2.2.2.2.2.2.1,a0.2.2.2.2.2.2.2.1,a0.2.2.2.2.2.2.2.2.1,([]:List ((Int×Int×Int×Int×List Int×Unit))),()),(y3.1,()),jt,())) λ((lf,_),_)=> .ite (decide (Vt.2.1≥(0:Int))) (.get (bQ ((2,()),(y3.1,()),(Vt.2.1,()),(Vt.2.2.1,()),())) λ((uN,_),_)=> .get (br (lf,uN,())) λ((nE,_),_)=> .ret ((nE,()),((),()))) (.ret ((lf,()),((),())))))) .fail) .fail) .fail) .fail)
def Ui (x:t4×Unit):=(IK x).eval
def k84:bZ:=dD 84 false [i4] [none] [i13] IK
theorem WV:k84.Ok Tryz.prog:=cb bI [1035,1298] [(1034,1),(1035,224),(1298,2)] [Ja,SG,aez,S5,ae0,aeK,oC,mV] ⟨rV,HE,SN,DP,Tk,SZ,ft,eJ,trivial⟩ (λ_=>none) Tryz.f84 [.cell 2 93] λx=>by kernel_rfl
abbrev Vv:=(t13×Unit)×(Unit×Unit)
abbrev Pc:=(Int×Unit)×((Int×Int×Unit)×(Int×Int×Unit)×List Int×List (List az)×List af×List aj×List ag×List ag×List Int×List Int×List ((Int×Int×Int×Int×List Int×Unit))×List (List az)×List af×List aj×List ag×List ag×List Int×List Int×List ((Int×Int×Int×Int×List Int×Unit))×Unit)
def vc:Pc→Out (Round Pc ((Unit)×((Int×Int×Unit)×(Int×Int×Unit)×List Int×List (List az)×List af×List aj×List ag×List ag×List Int×List Int×List ((Int×Int×Int×Int×List Int×Unit))×List (List az)×List af×List aj×List ag×List ag×List Int×List Int×List ((Int×Int×Int×Int×List Int×Unit))×Unit)) Empty)
|((p0,_),(p1,p2,_),(p3,p4,_),p5,p6,p7,p8,p9,cH,cK,eH,eU,ei,dq,eI,fD,fN,fk,gm,gh,_)=> .ite (decide (p0<((List.length dq:Nat):Int))) (.ite (decide (0≤p0∧p0<((List.length dq:Nat):Int))) (.get (nth dq (Int.toNat p0)) λy1=> .ite (((y1.2.2.1==2))==true) (.ite (decide (0≤p0∧p0<((List.length dq:Nat):Int))) (.get (nth dq (Int.toNat p0)) λy2=> .ite (decide (y2.2.2.2.2.2.2.2.1≤p4)) (.ite (decide (0≤p0∧p0<((List.length dq:Nat):Int))) (.get (nth dq (Int.toNat p0)) λy3=> .ite (decide (List.length p5+List.length ([y3.1]:List Int)≤bA)) (.ret (.again (((IntKind.i64.wrap (p0+1)),()),((p1,p2,()),(p3,p4,()),(p5++([y3.1]:List Int)),p6,p7,p8,p9,cH,cK,eH,eU,ei,dq,eI,fD,fN,fk,gm,gh,())))) .fail) .fail) (.ret (.again (((IntKind.i64.wrap (p0+1)),()),((p1,p2,()),(p3,p4,()),p5,p6,p7,p8,p9,cH,cK,eH,eU,ei,dq,eI,fD,fN,fk,gm,gh,()))))) .fail) (.ret (.again (((IntKind.i64.wrap (p0+1)),()),((p1,p2,()),(p3,p4,()),p5,p6,p7,p8,p9,cH,cK,eH,eU,ei,dq,eI,fD,fN,fk,gm,gh,()))))) .fail) (.ret (.out ((),((p1,p2,()),(p3,p4,()),p5,p6,p7,p8,p9,cH,cK,eH,eU,ei,dq,eI,fD,fN,fk,gm,gh,()))))
abbrev Pd:=(Int×Unit)×((Int×Int×Unit)×(Int×Int×Unit)×List Int×List (List az)×List af×List aj×List ag×List ag×List Int×List Int×List ((Int×Int×Int×Int×List Int×Unit))×List (List az)×List af×List aj×List ag×List ag×List Int×List Int×List ((Int×Int×Int×Int×List Int×Unit))×Unit)
def vd:Pd→Out (Round Pd ((Unit)×((Int×Int×Unit)×(Int×Int×Unit)×List (List az)×List af×List aj×List ag×List ag×List Int×List Int×List ((Int×Int×Int×Int×List Int×Unit))×List (List az)×List af×List aj×List ag×List ag×List Int×List Int×List ((Int×Int×Int×Int×List Int×Unit))×Unit)) Empty)
|((p0,_),(p1,p2,_),(p3,p4,_),p5,p6,p7,p8,p9,cH,cK,eH,eU,ei,dq,eI,fD,fN,fk,gm,gh,_)=> .ite (decide (p0<((List.length p5:Nat):Int))) (.ite (decide (0≤p0∧p0<((List.length p5:Nat):Int))) (.get (nth p5 (Int.toNat p0)) λy1=> .get (oM ((p3,p4,ei,dq,eI,fD,fN,fk,gm,gh,()),(y1,()),())) λ((cm,_),_)=> .ret (.again (((IntKind.i64.wrap (p0+1)),()),((p1,p2,()),(cm.1,cm.2.1,()),p5,p6,p7,p8,p9,cH,cK,eH,eU,cm.2.2.1,cm.2.2.2.1,cm.2.2.2.2.1,cm.2.2.2.2.2.1,cm.2.2.2.2.2.2.1,cm.2.2.2.2.2.2.2.1,cm.2.2.2.2.2.2.2.2.1,cm.2.2.2.2.2.2.2.2.2.1,())))) .fail) (.ret (.out ((),((p1,p2,()),(p3,p4,()),p6,p7,p8,p9,cH,cK,eH,eU,ei,dq,eI,fD,fN,fk,gm,gh,()))))
def Dc (v0:Int) (v1:Int) (v2:Int) (v3:Int) (v4:List (List az)) (v5:List af) (v6:List aj) (v7:List ag) (v8:List ag) (v9:List Int) (v10:List Int) (v11:List (Int×Int×Int×Int×List Int×Unit)) (v12:List (List az)) (KZ:List af) (K1:List aj) (QG:List ag) (Vs:List ag) (v17:List Int) (v18:List Int) (v19:List (Int×Int×Int×Int×List Int×Unit)):Out (Vv):= .get (bx vc bc ((0,()),((v0,v1,()),(v2,v3,()),([]:List Int),v4,v5,v6,v7,v8,v9,v10,v11,v12,KZ,K1,QG,Vs,v17,v18,v19,()))) λ(_,(aih,aii,_),(aij,aik,_),ail,aim,ain,aio,aip,aiq,air,ais,ait,aiu,aiv,aiw,aix,aiy,aiz,aiA,aiB,_)=> .get (bx vd bc ((0,()),((aih,aii,()),(aij,aik,()),ail,aim,ain,aio,aip,aiq,air,ais,ait,aiu,aiv,aiw,aix,aiy,aiz,aiA,aiB,()))) λ(_,_,(aiC,aiD,_),_,_,_,_,_,_,_,_,aiE,aiF,aiG,aiH,aiI,aiJ,aiK,aiL,_)=> .ret (((aiC,aiD,aiE,aiF,aiG,aiH,aiI,aiJ,aiK,aiL,()),()),((),()))
def IL:t4×Unit→Out Vv
|(a0,_)=> .ite (decide (a0.2.1≥(1000000:Int))) (.ret (((a0.1,a0.2.1,a0.2.2.1,a0.2.2.2.1,a0.2.2.2.2.1,a0.2.2.2.2.2.1,a0.2.2.2.2.2.2.1,a0.2.2.2.2.2.2.2.1,a0.2.2.2.2.2.2.2.2.1,([]:List ((Int×Int×Int×Int×List Int×Unit))),()),()),((),()))) (.get (bQ ((24,()),(0,()),(0,()),(0,()),())) λ((cP,_),_)=> .get (br ((a0.1,a0.2.1,a0.2.2.1,a0.2.2.2.1,a0.2.2.2.2.1,a0.2.2.2.2.2.1,a0.2.2.2.2.2.2.1,a0.2.2.2.2.2.2.2.1,a0.2.2.2.2.2.2.2.2.1,([]:List ((Int×Int×Int×Int×List Int×Unit))),()),cP,())) λ((cm,_),_)=> .ite (decide (((List.length cm.2.2.2.2.2.2.2.1:Nat):Int)≥(2:Int))) (.ite (decide (0≤(0:Int)∧(0:Int)<((List.length cm.2.2.2.2.2.2.2.1:Nat):Int))) (.get (nth cm.2.2.2.2.2.2.2.1 (Int.toNat (0:Int))) λy3=> .get (bQ ((22,()),(y3,()),(0,()),(0,()),())) λ((gR,_),_)=> .get (br (cm,gR,())) λ((jt,_),_)=> .get (bQ ((21,()),(y3,()),(0,()),(0,()),())) λ((oB,_),_)=> .get (br (jt,oB,())) λ((lE,_),_)=>
 Dc (0:Int) (0:Int) lE.1 lE.2.1 ([]:List (List az)) ([]:List af) ([]:List aj) ([]:List ag) ([]:List ag) ([]:List Int) ([]:List Int) ([]:List ((Int×Int×Int×Int×List Int×Unit))) lE.2.2.1 lE.2.2.2.1 lE.2.2.2.2.1 lE.2.2.2.2.2.1 lE.2.2.2.2.2.2.1 lE.2.2.2.2.2.2.2.1 lE.2.2.2.2.2.2.2.2.1 lE.2.2.2.2.2.2.2.2.2.1) .fail) (Dc (0:Int) (0:Int) cm.1 cm.2.1 ([]:List (List az)) ([]:List af) ([]:List aj) ([]:List ag) ([]:List ag) ([]:List Int) ([]:List Int) ([]:List ((Int×Int×Int×Int×List Int×Unit))) cm.2.2.1 cm.2.2.2.1 cm.2.2.2.2.1 cm.2.2.2.2.2.1 cm.2.2.2.2.2.2.1 cm.2.2.2.2.2.2.2.1 cm.2.2.2.2.2.2.2.2.1 cm.2.2.2.2.2.2.2.2.2.1))
def Ul (x:t4×Unit):=(IL x).eval
def ae2:Nat→Option aq:=λn=>b6 [(0,⟨⟨[.dead, .dead, .vptr 64000000 0, .vptr 64000001 0, .dead, .bg 64000002, .i .i64]++dd 82,qO⟩,⟨[.dead, .dead, .vptr 64000000 0, .vptr 64000001 0, .dead, .bg 64000002]++dd 83,qO⟩,none,false⟩),(2,⟨⟨[.dead, .dead, .vptr 64000000 0, .vptr 64000001 0, .dead, .bg 64000002, .dead, .i .i64]++dd 81,qO⟩,⟨[.dead, .dead, .vptr 64000000 0, .vptr 64000001 0]++dd 85,tN⟩,none,false⟩)] n
def k83:bZ:=dD 83 false [i4] [none] [i13] IL
theorem WX:k83.Ok Tryz.prog:=cb bI [] [] [oC,mV,S3] ⟨ft,eJ,DK,trivial⟩ ae2 Tryz.f83 [.cell 2 93] λx=>by kernel_rfl
section
abbrev UT:Type:=bw
abbrev ET:Type:=Int×Int×Int×Int×List Int×Unit
abbrev WT:Type:=Int×Int×List (List az)×List af×List aj×List ag×List ag×List Int×List Int×List ET×Unit
theorem eZ {P:Prop} [Decidable P] (h:¬P):(decide P==false)=true:=by rw [aa1 h];rfl
theorem iG {P:Prop} [Decidable P] (h:P):(decide P==false)=false:=by rw [aaE h];rfl
theorem Pe {P:Prop} [Decidable P] (h:P):(decide P==true)=true:=by rw [aaE h];rfl
theorem Pf {P:Prop} [Decidable P] (h:¬P):(decide P==true)=false:=by rw [aa1 h];rfl
theorem oK {a b:Int} (h:a=b):(a != b)=false:=by simp [h]
theorem A8 {a b:Int} (h:a≠b):(a != b)=true:=by simp [h]
theorem dN {a b:Int} (h:a≠b):(a==b)=false:=by simp [h]
theorem cT {a b:Int} (h:a=b):(a==b)=true:=by simp [h]
theorem bu {α:Type} {key:α→Int} {a:List α} (h:bO key a) {x:α} (hx:x∈a):∃ i:Nat,cU key a (key x)=(i:Int)∧i<a.length∧a[i]? =some x:=by
 obtain ⟨i,h1,h2,h3⟩:=nN h hx rfl;exact ⟨i,by unfold cU;rw [h1];rfl,h2,h3⟩
theorem tO {α:Type} {key:α→Int} {a:List α} {v:Int} (h:∀ x∈a,key x≠v):cU key a v= -1:=by unfold cU;rw [ll h];rfl
theorem iJ {α:Type} {a:List α} {i:Nat} {x:α} (h:a[i]? =some x):a.set i x=a:=by
 have bS:i<a.length:=(List.getElem?_eq_some_iff.1 h).1;rw [aa2 bS] at h;rw [← aa6 h,List.set_getElem_self]
theorem JM {α:Type} {a:List α} {i:Nat} {x:α} (h:i<a.length):nth (a.set i x) i=some x:=by
 show (a.set i x)[i]? =some x;rw [List.getElem?_set,aa5 rfl,aa5 h]
theorem zF {ρ:Type} {c:Bool} {a b:Out ρ} {r:Option ρ} (k:b.eval=r) (h:c=false:=by first|assumption|exact aa1 (by omega)|exact iG (by omega)|exact Pf (by omega)|rfl):(Out.ite c a b).eval=r:=(ae h).trans k
theorem zT {ρ:Type} {c:Bool} {a b:Out ρ} {r:Option ρ} (k:a.eval=r) (h:c=true:=by first|assumption|exact aaE (by omega)|exact eZ (by omega)|exact Pe (by omega)|rfl|exact beq_self_eq_true _|exact aaE (by simp only [ab0,abz,aby,abA,acz];omega)):(Out.ite c a b).eval=r:=(ab h).trans k
theorem zG {ρ α:Type} {o:Option α} {y:α} {f:α→Out ρ} {r:Option ρ} (k:(f y).eval=r) (h:o=some y:=by first|assumption|exact JM (by first|omega|(simp only [acz];omega))):(Out.get o f).eval=r:=(aa h).trans k
theorem xK {α:Type} {key:α→Int} {a:List α} (h:bO key a) {x:α} {i:Nat} (hi:a[i]? =some x):a.take i++a.drop (i+1)=a.filter (λy=>key y != key x):=by
 have bS:i<a.length:=(List.getElem?_eq_some_iff.1 hi).1;have hx:x∈a:=acx hi;obtain ⟨l1,l2,e,h1,h2,_,hf⟩:=gK h hx;have hl:i=l1.length:=by
  have h3:a[l1.length]? =some x:=by rw [e];simp
  have hn:=h.nodup;have abm:l1.length<a.length:=(List.getElem?_eq_some_iff.1 h3).1;rw [aa2 bS] at hi;rw [aa2 abm] at h3;rcases Nat.lt_trichotomy i l1.length with q|q|q
  . have:=List.pairwise_iff_getElem.1 hn i l1.length (by simpa using bS) (by simpa using abm) q
    simp [aa6 hi,aa6 h3] at this
  . exact q
  . have:=List.pairwise_iff_getElem.1 hn l1.length i (by simpa using abm) (by simpa using bS) q
    simp [aa6 hi,aa6 h3] at this
 rw [hf,e,hl];simp
variable {nx tk:Int} {pg:List (List az)} {ps:List af} {os:List aj} {pi fi:List ag} {rd ou:List Int} {p:af} {o:aj} {y:ag} {b c k:Int} {l:List Int}
abbrev j2 (u:UT):Option ((UT×(Bool×Unit)×Unit)×XI):=some ((u,(true,()),()),((),(),()))
theorem abn (h:bO ao ps) (hp:p∈ps) (hc:aP b l=true) (hl:l.length≤4):dw ((nx,tk,pg,ps,os,pi,fi,rd,ou,()),(1,p.1,b,c,l,()),())=j2 (nx,tk,pg,bM ps p.1 (oA (b,l,())),os,pi,fi,rd,ou,()):=by
 obtain ⟨i,hi,bS,hn⟩:=bu h hp;have cQ:ak ps p.1=(i:Int):=hi;have nv:nth ps i=some p:=hn;have hL:bA=68719476736:=rfl;have JN:([]:List Int).length=0:=rfl;have UZ:(!(aP b (([]:List Int)++l)))=false:=by rw [ab0,hc];rfl
 have key:kA ((nx,tk,pg,ps,os,pi,fi,rd,ou,()),(1,p.1,b,c,l,()),())=j2 (nx,tk,pg,bM ps p.1 (oA (b,l,())),os,pi,fi,rd,ou,()):=by
  show Out.eval (fc _)=_;rw [show bM ps p.1 (oA (b,l,()))=ps.set i ((oA (b,l,())) p) from (fl h hn _ rfl).symm];dsimp only [fc];rw [cQ];simp only [abo]
  repeat' (first|refine zF ?_|refine zT ?_|refine zG ?_)
  rfl
 show Out.eval (bB _)=_;dsimp only [bB]
 repeat' (first|refine zF ?_|refine zT ?_|refine zG ?_)
 rfl
theorem Rl (h:bO ao ps) (hp:p∈ps) (hb:0≤b∧b<((cd p).length:Nat)) (hc:bV c=true):dw ((nx,tk,pg,ps,os,pi,fi,rd,ou,()),(2,p.1,b,c,l,()),())=j2 (nx,tk,pg,bM ps p.1 (kg ((cd p).set b.toNat c)),os,pi,fi,rd,ou,()):=by
 obtain ⟨i,hi,bS,hn⟩:=bu h hp;have cQ:ak ps p.1=(i:Int):=hi;have nv:nth ps i=some p:=hn;have hL:bA=68719476736:=rfl;have JN:([]:List Int).length=0:=rfl;have UZ:(!(bV c))=false:=by rw [hc];rfl
 have hm:nth (cd p) b.toNat=some ((cd p)[b.toNat]'(by omega)):=aa2 _;have b8:0≤b∧b<((p.2.2.2.2.2.1.length:Nat):Int):=hb;have key:kA ((nx,tk,pg,ps,os,pi,fi,rd,ou,()),(2,p.1,b,c,l,()),())=j2 (nx,tk,pg,bM ps p.1 (kg ((cd p).set b.toNat c)),os,pi,fi,rd,ou,()):=by
  show Out.eval (fc _)=_;rw [show bM ps p.1 (kg ((cd p).set b.toNat c))=ps.set i ((kg ((cd p).set b.toNat c)) p) from (fl h hn _ rfl).symm];dsimp only [fc];rw [cQ];simp only [abo]
  repeat' (first|refine zF ?_|refine zT ?_|refine zG ?_)
  rfl
 show Out.eval (bB _)=_;dsimp only [bB]
 repeat' (first|refine zF ?_|refine zT ?_|refine zG ?_)
 rfl
theorem x9 (h:bO ao ps) (hp:p∈ps):dw ((nx,tk,pg,ps,os,pi,fi,rd,ou,()),(3,p.1,b,c,l,()),())=j2 (nx,tk,pg,bM ps p.1 (lU b c),os,pi,fi,rd,ou,()):=by
 obtain ⟨i,hi,bS,hn⟩:=bu h hp;have cQ:ak ps p.1=(i:Int):=hi;have nv:nth ps i=some p:=hn;have hL:bA=68719476736:=rfl;have JN:([]:List Int).length=0:=rfl;have key:kA ((nx,tk,pg,ps,os,pi,fi,rd,ou,()),(3,p.1,b,c,l,()),())=j2 (nx,tk,pg,bM ps p.1 (lU b c),os,pi,fi,rd,ou,()):=by
  show Out.eval (fc _)=_;rw [show bM ps p.1 (lU b c)=ps.set i ((lU b c) p) from (fl h hn _ rfl).symm];dsimp only [fc];rw [cQ];simp only [abo]
  repeat' (first|refine zF ?_|refine zT ?_|refine zG ?_)
  rfl
 show Out.eval (bB _)=_;dsimp only [bB]
 repeat' (first|refine zF ?_|refine zT ?_|refine zG ?_)
 rfl
theorem QX (h:bO ao ps) (hp:p∈ps):dw ((nx,tk,pg,ps,os,pi,fi,rd,ou,()),(5,p.1,b,c,l,()),())=j2 (nx,tk,pg,bM ps p.1 (kg []),os,pi,fi,rd,ou,()):=by
 obtain ⟨i,hi,bS,hn⟩:=bu h hp;have cQ:ak ps p.1=(i:Int):=hi;have nv:nth ps i=some p:=hn;have hL:bA=68719476736:=rfl;have JN:([]:List Int).length=0:=rfl;have key:kA ((nx,tk,pg,ps,os,pi,fi,rd,ou,()),(5,p.1,b,c,l,()),())=j2 (nx,tk,pg,bM ps p.1 (kg []),os,pi,fi,rd,ou,()):=by
  show Out.eval (fc _)=_;rw [show bM ps p.1 (kg [])=ps.set i ((kg []) p) from (fl h hn _ rfl).symm];dsimp only [fc];rw [cQ];simp only [abo]
  repeat' (first|refine zF ?_|refine zT ?_|refine zG ?_)
  rfl
 show Out.eval (bB _)=_;dsimp only [bB]
 repeat' (first|refine zF ?_|refine zT ?_|refine zG ?_)
 rfl
theorem Q2 (h:bO ao ps) (hp:p∈ps) (hm:(cd p).length<12∧(cd p).length % 4=0) (hr:nB ((nx,tk,pg,ps,os,pi,fi,rd,ou,()),(1,()),())=some (((true,()),()),((),(),()))):dw ((nx,tk,pg,ps,os,pi,fi,rd,ou,()),(7,p.1,b,c,l,()),())=j2 (nx,tk,pg,bM ps p.1 (kg (cd p++[0,0,0,0])),os,pi,fi,rd,ou,()):=by
 obtain ⟨i,hi,bS,hn⟩:=bu h hp;have cQ:ak ps p.1=(i:Int):=hi;have nv:nth ps i=some p:=hn;have hL:bA=68719476736:=rfl;have JN:([]:List Int).length=0:=rfl;have oH:p.2.2.2.2.2.1.length<12∧p.2.2.2.2.2.1.length % 4=0:=hm;have ht:IntKind.i64.wrap (Int.tdiv ((p.2.2.2.2.2.1.length:Nat):Int) (4:Int))=((p.2.2.2.2.2.1.length / 4:Nat):Int):=by
  have ht0:Int.tdiv ((p.2.2.2.2.2.1.length:Nat):Int) (4:Int)=((p.2.2.2.2.2.1.length / 4:Nat):Int):=rfl;rw [ht0,jy (by omega) (by omega)]
 have hs:=iJ hn;have hz:oP ((4,()),())=some ((([0,0,0,0],()),()),((),())):=rfl;have key:kA ((nx,tk,pg,ps,os,pi,fi,rd,ou,()),(7,p.1,b,c,l,()),())=j2 (nx,tk,pg,bM ps p.1 (kg (cd p++[0,0,0,0])),os,pi,fi,rd,ou,()):=by
  show Out.eval (fc _)=_;rw [show bM ps p.1 (kg (cd p++[0,0,0,0]))=ps.set i ((kg (cd p++[0,0,0,0])) p) from (fl h hn _ rfl).symm];dsimp only [fc];rw [cQ];simp only [abo]
  repeat' (first
   |refine (ae (by first|assumption|exact aa1 (by omega)|exact iG (by omega)|exact Pf (by omega)|rfl|(rw [ht];exact eZ (by omega))|fail)).trans ?_
   |refine (ab (by first|assumption|exact aaE (by omega)|exact eZ (by omega)|exact Pe (by omega)|rfl|exact beq_self_eq_true _|exact aaE (by simp only [ab0,abz,aby,abA,acz];omega)|(rw [ht];exact eZ (by omega))|fail)).trans ?_
   |refine (aa (by first|assumption|exact JM (by first|omega|(simp only [acz];omega))|fail)).trans ?_)
  rw [hs]
  repeat' (first|refine zF ?_|refine zT ?_|refine zG ?_)
  rfl
 show Out.eval (bB _)=_;dsimp only [bB]
 repeat' (first|refine zF ?_|refine zT ?_|refine zG ?_)
 rfl
theorem Q3 (h:bO ao ps) (hp:p∈ps) (hb:0≤b∧b<(pg.length:Nat)) (hm:0<(cd p).length):dw ((nx,tk,pg,ps,os,pi,fi,rd,ou,()),(8,p.1,b,c,l,()),())=j2 (nx,tk,pg,bM ps p.1 (og b),os,pi,fi,rd,ou,()):=by
 obtain ⟨i,hi,bS,hn⟩:=bu h hp;have cQ:ak ps p.1=(i:Int):=hi;have nv:nth ps i=some p:=hn;have hL:bA=68719476736:=rfl;have JN:([]:List Int).length=0:=rfl;have hs:ps.set i (p.1,p.2.1,p.2.2.1,p.2.2.2.1,(p.2.2.2.2.1.1,p.2.2.2.2.1.2.1,()),p.2.2.2.2.2.1,p.2.2.2.2.2.2.1,p.2.2.2.2.2.2.2.1,p.2.2.2.2.2.2.2.2.1,())=ps:=iJ hn;have oH:0<p.2.2.2.2.2.1.length:=hm;have hz:oP ((4,()),())=some ((([0,0,0,0],()),()),((),())):=rfl;have key:kA ((nx,tk,pg,ps,os,pi,fi,rd,ou,()),(8,p.1,b,c,l,()),())=j2 (nx,tk,pg,bM ps p.1 (og b),os,pi,fi,rd,ou,()):=by
  show Out.eval (fc _)=_;rw [show bM ps p.1 (og b)=ps.set i ((og b) p) from (fl h hn _ rfl).symm];dsimp only [fc];rw [cQ];simp only [abo]
  repeat' (first|refine zF ?_|refine zT ?_|refine zG ?_)
  simp only [abo,hs]
  repeat' (first|refine zF ?_|refine zT ?_|refine zG ?_)
  simp only [List.set_set];rfl
 show Out.eval (bB _)=_;dsimp only [bB]
 repeat' (first|refine zF ?_|refine zT ?_|refine zG ?_)
 rfl
theorem ED (h:bO ao ps) (hp:p∈ps) (hb:0≤b∧b<((aA p).length:Nat)):dw ((nx,tk,pg,ps,os,pi,fi,rd,ou,()),(9,p.1,b,c,l,()),())=j2 (nx,tk,pg,bM ps p.1 (b9 ((aA p).set b.toNat c)),os,pi,fi,rd,ou,()):=by
 obtain ⟨i,hi,bS,hn⟩:=bu h hp;have cQ:ak ps p.1=(i:Int):=hi;have nv:nth ps i=some p:=hn;have hL:bA=68719476736:=rfl;have JN:([]:List Int).length=0:=rfl;have hm:nth (aA p) b.toNat=some ((aA p)[b.toNat]'(by omega)):=aa2 _;have b8:0≤b∧b<((p.2.2.2.2.2.2.1.length:Nat):Int):=hb;have key:kA ((nx,tk,pg,ps,os,pi,fi,rd,ou,()),(9,p.1,b,c,l,()),())=j2 (nx,tk,pg,bM ps p.1 (b9 ((aA p).set b.toNat c)),os,pi,fi,rd,ou,()):=by
  show Out.eval (fc _)=_;rw [show bM ps p.1 (b9 ((aA p).set b.toNat c))=ps.set i ((b9 ((aA p).set b.toNat c)) p) from (fl h hn _ rfl).symm];dsimp only [fc];rw [cQ];simp only [abo]
  repeat' (first|refine zF ?_|refine zT ?_|refine zG ?_)
  rfl
 show Out.eval (bB _)=_;dsimp only [bB]
 repeat' (first|refine zF ?_|refine zT ?_|refine zG ?_)
 rfl
theorem Ks (h:bO ao ps) (hp:p∈ps):dw ((nx,tk,pg,ps,os,pi,fi,rd,ou,()),(25,p.1,b,c,l,()),())=j2 (nx,tk,pg,bM ps p.1 (GW b),os,pi,fi,rd,ou,()):=by
 obtain ⟨i,hi,bS,hn⟩:=bu h hp;have cQ:ak ps p.1=(i:Int):=hi;have nv:nth ps i=some p:=hn;have hL:bA=68719476736:=rfl;have JN:([]:List Int).length=0:=rfl;have key:kA ((nx,tk,pg,ps,os,pi,fi,rd,ou,()),(25,p.1,b,c,l,()),())=j2 (nx,tk,pg,bM ps p.1 (GW b),os,pi,fi,rd,ou,()):=by
  show Out.eval (fc _)=_;rw [show bM ps p.1 (GW b)=ps.set i ((GW b) p) from (fl h hn _ rfl).symm];dsimp only [fc];rw [cQ];simp only [abo]
  repeat' (first|refine zF ?_|refine zT ?_|refine zG ?_)
  rfl
 show Out.eval (bB _)=_;dsimp only [bB]
 repeat' (first|refine zF ?_|refine zT ?_|refine zG ?_)
 rfl
theorem QW (h:bO ao ps) (hp:p∈ps):dw ((nx,tk,pg,ps,os,pi,fi,rd,ou,()),(26,p.1,b,c,l,()),())=j2 (nx,tk,pg,bM ps p.1 (fM b),os,pi,fi,rd,ou,()):=by
 obtain ⟨i,hi,bS,hn⟩:=bu h hp;have cQ:ak ps p.1=(i:Int):=hi;have nv:nth ps i=some p:=hn;have hL:bA=68719476736:=rfl;have JN:([]:List Int).length=0:=rfl;have key:kA ((nx,tk,pg,ps,os,pi,fi,rd,ou,()),(26,p.1,b,c,l,()),())=j2 (nx,tk,pg,bM ps p.1 (fM b),os,pi,fi,rd,ou,()):=by
  show Out.eval (fc _)=_;rw [show bM ps p.1 (fM b)=ps.set i ((fM b) p) from (fl h hn _ rfl).symm];dsimp only [fc];rw [cQ];simp only [abo]
  repeat' (first|refine zF ?_|refine zT ?_|refine zG ?_)
  rfl
 show Out.eval (bB _)=_;dsimp only [bB]
 repeat' (first|refine zF ?_|refine zT ?_|refine zG ?_)
 rfl
theorem Cy (h:bO ao ps) (hp:p∈ps) (h6:ps.length≤6):dw ((nx,tk,pg,ps,os,pi,fi,rd,ou,()),(6,p.1,b,c,l,()),())=j2 (nx,tk,pg,so ps p.1,os,pi,fi,rd,ou,()):=by
 obtain ⟨i,hi,bS,hn⟩:=bu h hp;have cQ:ak ps p.1=(i:Int):=hi;have nv:nth ps i=some p:=hn;have hL:bA=68719476736:=rfl;have hs:=iJ hn;have hw:IntKind.i64.wrap ((i:Int)+1)=((i+1:Nat):Int):=aw (by have hB:aM=9223372036854775807:=rfl;omega);have key:kA ((nx,tk,pg,ps,os,pi,fi,rd,ou,()),(6,p.1,b,c,l,()),())=j2 (nx,tk,pg,so ps p.1,os,pi,fi,rd,ou,()):=by
  show Out.eval (fc _)=_;rw [show so ps p.1=ps.take i++ps.drop (i+1) from (xK h hn).symm];dsimp only [fc];rw [cQ];simp only [abo]
  repeat' (first|refine zF ?_|refine zT ?_|refine zG ?_)
  simp only [hs,hw,abo,Int.toNat_zero,Nat.sub_zero,ab0,acw,afW,afq,acA,aga]
  repeat' (first|refine zF ?_|refine zT ?_|refine zG ?_)
  rw [show i+(i+1 - i)=i+1 by omega,acY (l:=ps.drop (i+1)) (by rw [acA];omega)];rfl
 show Out.eval (bB _)=_;dsimp only [bB]
 repeat' (first|refine zF ?_|refine zT ?_|refine zG ?_)
 rfl
theorem Me (h:bO ao ps) (hp:p∈ps) (h6:ps.length<6) (hx:nx<100000) (h0:1≤nx) (hm:(cd p).length≤12∧(Db p).2.1.length=4∧(aA p).length=4) (hr:nB ((nx,tk,pg,ps,os,pi,fi,rd,ou,()),((((cd p).length / 4:Nat):Int),()),())=some (((true,()),()),((),(),()))):
  dw ((nx,tk,pg,ps,os,pi,fi,rd,ou,()),(4,nx,p.1,c,l,()),())=j2 (nx+1,tk,pg,ps++[lk nx p],os,pi,fi,rd,ou,()):=by
 obtain ⟨i,hi,bS,hn⟩:=bu h hp;have cQ:ak ps p.1=(i:Int):=hi;have nv:nth ps i=some p:=hn;have hL:bA=68719476736:=rfl;have oH:p.2.2.2.2.2.1.length≤12∧p.2.2.2.2.1.2.1.length=4∧p.2.2.2.2.2.2.1.length=4:=hm;have hs:ps.set i (p.1,p.2.1,p.2.2.1,p.2.2.2.1,p.2.2.2.2.1,p.2.2.2.2.2.1,p.2.2.2.2.2.2)=ps:=iJ hn;have Kr:ps.set i p=ps:=iJ hn;have ht0:Int.tdiv ((p.2.2.2.2.2.1.length:Nat):Int) (4:Int)=((p.2.2.2.2.2.1.length / 4:Nat):Int):=rfl;have ht:IntKind.i64.wrap ((p.2.2.2.2.2.1.length / 4:Nat):Int)=((p.2.2.2.2.2.1.length / 4:Nat):Int):=jy (by omega) (by omega);have hw:IntKind.i64.wrap (nx+1)=nx+1:=b7 (by omega) (by omega);have hb:((nx != nx)==false)=true:=by rw [oK rfl];rfl
 have hcp:fV p.1 p.2.1 p.2.2.1 p.2.2.2.1 p.2.2.2.2.1.1 p.2.2.2.2.1.2.1 p.2.2.2.2.2.1 p.2.2.2.2.2.2.1 p.2.2.2.2.2.2.2.1 p.2.2.2.2.2.2.2.2.1=some (p.1,p.2.1,p.2.2.1,p.2.2.2.1,p.2.2.2.2.1.1,p.2.2.2.2.1.2.1,p.2.2.2.2.2.1,p.2.2.2.2.2.2.1,p.2.2.2.2.2.2.2.1,p.2.2.2.2.2.2.2.2.1):=by
  unfold fV;rw [aa5 (by omega)]
 have key:OZ ((nx,tk,pg,ps,os,pi,fi,rd,ou,()),(4,nx,p.1,c,l,()),())=j2 (nx+1,tk,pg,ps++[lk nx p],os,pi,fi,rd,ou,()):=by
  show Out.eval (DD _)=_;dsimp only [DD];rw [cQ];simp only [abo]
  repeat' (first|refine zF ?_|refine zT ?_|refine zG ?_)
  simp only [hs,ht0,ht]
  repeat' (first|refine zF ?_|refine zT ?_|refine zG ?_)
  simp only [Kr]
  repeat' (first|refine zF ?_|refine zT ?_|refine zG ?_)
  rw [hw];rfl
 show Out.eval (bB _)=_;dsimp only [bB]
 repeat' (first|refine zF ?_|refine zT ?_|refine zG ?_)
 rfl
def gD {α:Type} (key:α→Int) (y:α) (d:Bool×List α) (x:α):Bool×List α:=if d.1=false∧key y<key x then (true,(d.2++[y])++[x]) else (d.1,d.2++[x])
theorem Pg {α:Type} {key:α→Int} {y:α}:∀ (a pre:List α),a.foldl (gD key y) (true,pre)=(true,pre++a)
 |[],pre=>by simp
 |x::r,pre=>by
  rw [acn];have:gD key y (true,pre) x=(true,pre++[x]):=by unfold gD;rw [aa3 (by simp)]
  rw [this,Pg r];simp
theorem qP {α:Type} {key:α→Int} {y:α}:∀ (a pre:List α),(if (a.foldl (gD key y) (false,pre)).1=true then (a.foldl (gD key y) (false,pre)).2 else (a.foldl (gD key y) (false,pre)).2++[y])=pre++bF key y a
 |[],pre=>by simp [bF]
 |x::r,pre=>by
  rw [acn];unfold bF;by_cases h:key y<key x
  . have:gD key y (false,pre) x=(true,(pre++[y])++[x]):=by unfold gD;rw [aa5 ⟨rfl,h⟩]
    rw [this,Pg,aa5 rfl,aa5 h];simp
  . have:gD key y (false,pre) x=(false,pre++[x]):=by unfold gD;rw [aa3 (by simp [h])]
    rw [this,qP r,aa3 h];simp
theorem zt {α σ β:Type} {f:σ→Out (Round σ β Empty)} {key:α→Int} (y:α) (a:List α) (S:Bool×List α→Nat→σ) (out:Bool×List α→β)
  (hs:∀ i (hi:i<a.length) d,d.2.length≤i+1→(f (S d i)).eval=some (.again (S (gD key y d a[i]) (i+1)))) (hy:∀ d,(f (S d a.length)).eval=some (.out (out d))) (ha:a.length≤aM):
  bx f bc (S (false,[]) 0)=some (out (a.foldl (gD key y) (false,[]))):=by
 refine foldl_loop (λd i=>d.2.length≤i+1∧(d.1=false→d.2.length≤i)) (gD key y) a S out (λi hi d hd=>hs i hi d hd.1) (λd _=>hy d) (λi hi d hd=> ?_) ha (false,[]) (by simp);unfold gD;obtain ⟨d1,d2⟩:=d;have hd:d2.length≤i+1∧(d1=false→d2.length≤i):=hd;split
 . rename_i q
   have:=hd.2 q.1;simp only [abz,aby,abA];exact ⟨by omega,λe=>by cases e⟩
 . simp only [abz,aby,abA]
   exact ⟨by have:=hd.1;omega,λe=>by have:=hd.2 e;omega⟩
theorem CO (h:∀ x∈os,x.1≠k) (hk:0≤k∧k≤7) (hl:os.length≤1000):dw ((nx,tk,pg,ps,os,pi,fi,rd,ou,()),(10,k,b,c,l,()),())=j2 (nx,tk,pg,ps,bF al (k,b,c,0,0,()) os,pi,fi,rd,ou,()):=by
 have JO:aF os k= -1:=tO (key:=al) h;have hL:bA=68719476736:=rfl;have hB:aM=9223372036854775807:=rfl;have jN:(!(dh k (0:Int) (7:Int)))=false:=by rw [fh.2 hk];rfl
 have JP:=zt (f:=qK) (key:=al) (k,b,c,0,0,()) os (λd i=>((d.1,(i:Int),()),((nx,tk,()),(10,k,b,c,l,()),(0,0,()),d.2,pg,ps,os,pi,fi,rd,ou,([]:List (List az)),([]:List af),([]:List aj),([]:List ag),([]:List ag),([]:List Int),([]:List Int),()))) (λd=>((d.1,()),((nx,tk,()),(10,k,b,c,l,()),(0,0,()),d.2,pg,ps,os,pi,fi,rd,ou,([]:List (List az)),([]:List af),([]:List aj),([]:List ag),([]:List ag),([]:List Int),([]:List Int),()))) (λi hi d hd=> ?_) (λd=> ?_) (by omega)
 . have key:zn ((nx,tk,pg,ps,os,pi,fi,rd,ou,()),(10,k,b,c,l,()),())=j2 (nx,tk,pg,ps,bF al (k,b,c,0,0,()) os,pi,fi,rd,ou,()):=by
    show Out.eval (mz _)=_;dsimp only [mz];rw [JO]
    repeat' (first|refine zF ?_|refine zT ?_|refine zG ?_)
    dsimp only;have hf:=qP (key:=al) (y:=(k,b,c,0,0,())) os [];have hlen:(List.foldl (gD al (k,b,c,0,0,())) (false,[]) os).2.length≤1002:=by
     have h2:=congrArg List.length hf;rw [ab0,iL] at h2;split at h2
     . omega
     . rw [abz] at h2;omega
    rw [ab0] at hf;rw [← hf];generalize List.foldl (gD al (k,b,c,0,0,())) (false,[]) os=d at hlen;obtain ⟨d1,d2⟩:=d;have hlen:d2.length≤1002:=hlen;cases d1
    . refine (ab (by rfl)).trans ?_
      refine (ab (aaE (by simp only [aby,abA];omega))).trans ?_;rfl
    . refine (ae (by rfl)).trans ?_
      rfl
   show Out.eval (bB _)=_;dsimp only [bB]
   repeat' (first|refine zF ?_|refine zT ?_|refine zG ?_)
   rfl
 . have hn:nth os i=some os[i]:=aa2 hi
   have hw:IntKind.i64.wrap ((i:Int)+1)=((i+1:Nat):Int):=aw (by omega);obtain ⟨d1,d2⟩:=d;have hd:d2.length≤i+1:=hd;show Out.eval (qK _)=_;dsimp only [qK];rw [hw];simp only [abo];refine (ab (aaE (by omega))).trans ?_;cases d1
   . refine (ab (by rfl)).trans ?_
     by_cases q:k<al os[i]
     . have e:gD al (k,b,c,0,0,()) (false,d2) os[i]=(true,(d2++[(k,b,c,0,0,())])++[os[i]]):=by unfold gD;rw [aa5 ⟨rfl,q⟩]
       have q':os[i].1>k:=q;rw [e]
       repeat' (first|refine zF ?_|refine zT ?_|refine zG ?_)
       rfl
     . have e:gD al (k,b,c,0,0,()) (false,d2) os[i]=(false,d2++[os[i]]):=by unfold gD;rw [aa3 λh=>q h.2]
       have q':¬ os[i].1>k:=q;rw [e]
       repeat' (first|refine zF ?_|refine zT ?_|refine zG ?_)
       rfl
   . have e:gD al (k,b,c,0,0,()) (true,d2) os[i]=(true,d2++[os[i]]):=by unfold gD;rw [aa3 (by simp)]
     rw [e]
     repeat' (first|refine zF ?_|refine zT ?_|refine zG ?_)
     rfl
 . show Out.eval (qK _)=_
   dsimp only [qK];refine (ae (aa1 (by omega))).trans ?_;rfl
theorem Q9 (h:∀ x∈pi,x.1≠k) (hk:0≤k∧k≤2) (hl:pi.length≤1000):dw ((nx,tk,pg,ps,os,pi,fi,rd,ou,()),(14,k,b,c,l,()),())=j2 (nx,tk,pg,ps,os,bF aB (k,[],()) pi,fi,rd,ou,()):=by
 have JO:ba pi k= -1:=tO (key:=aB) h;have hL:bA=68719476736:=rfl;have hB:aM=9223372036854775807:=rfl;have jN:(!(dh k (0:Int) (2:Int)))=false:=by rw [fh.2 hk];rfl
 have JP:=zt (f:=qL) (key:=aB) (k,[],()) pi (λd i=>((d.1,(i:Int),()),((nx,tk,()),(14,k,b,c,l,()),(0,0,()),d.2,pg,ps,os,pi,fi,rd,ou,([]:List (List az)),([]:List af),([]:List aj),([]:List ag),([]:List ag),([]:List Int),([]:List Int),()))) (λd=>((d.1,()),((nx,tk,()),(14,k,b,c,l,()),(0,0,()),d.2,pg,ps,os,pi,fi,rd,ou,([]:List (List az)),([]:List af),([]:List aj),([]:List ag),([]:List ag),([]:List Int),([]:List Int),()))) (λi hi d hd=> ?_) (λd=> ?_) (by omega)
 . have key:zo ((nx,tk,pg,ps,os,pi,fi,rd,ou,()),(14,k,b,c,l,()),())=j2 (nx,tk,pg,ps,os,bF aB (k,[],()) pi,fi,rd,ou,()):=by
    show Out.eval (mA _)=_;dsimp only [mA];rw [JO]
    repeat' (first|refine zF ?_|refine zT ?_|refine zG ?_)
    dsimp only;have hf:=qP (key:=aB) (y:=(k,[],())) pi [];have hlen:(List.foldl (gD aB (k,[],())) (false,[]) pi).2.length≤1002:=by
     have h2:=congrArg List.length hf;rw [ab0,iL] at h2;split at h2
     . omega
     . rw [abz] at h2;omega
    rw [ab0] at hf;rw [← hf];generalize List.foldl (gD aB (k,[],())) (false,[]) pi=d at hlen;obtain ⟨d1,d2⟩:=d;have hlen:d2.length≤1002:=hlen;cases d1
    . refine (ab (by rfl)).trans ?_
      refine (ab (aaE (by simp only [aby,abA];omega))).trans ?_;rfl
    . refine (ae (by rfl)).trans ?_
      rfl
   show Out.eval (bB _)=_;dsimp only [bB]
   repeat' (first|refine zF ?_|refine zT ?_|refine zG ?_)
   rfl
 . have hn:nth pi i=some pi[i]:=aa2 hi
   have hw:IntKind.i64.wrap ((i:Int)+1)=((i+1:Nat):Int):=aw (by omega);obtain ⟨d1,d2⟩:=d;have hd:d2.length≤i+1:=hd;show Out.eval (qL _)=_;dsimp only [qL];rw [hw];simp only [abo];refine (ab (aaE (by omega))).trans ?_;cases d1
   . refine (ab (by rfl)).trans ?_
     by_cases q:k<aB pi[i]
     . have e:gD aB (k,[],()) (false,d2) pi[i]=(true,(d2++[(k,[],())])++[pi[i]]):=by unfold gD;rw [aa5 ⟨rfl,q⟩]
       have q':pi[i].1>k:=q;rw [e]
       repeat' (first|refine zF ?_|refine zT ?_|refine zG ?_)
       rfl
     . have e:gD aB (k,[],()) (false,d2) pi[i]=(false,d2++[pi[i]]):=by unfold gD;rw [aa3 λh=>q h.2]
       have q':¬ pi[i].1>k:=q;rw [e]
       repeat' (first|refine zF ?_|refine zT ?_|refine zG ?_)
       rfl
   . have e:gD aB (k,[],()) (true,d2) pi[i]=(true,d2++[pi[i]]):=by unfold gD;rw [aa3 (by simp)]
     rw [e]
     repeat' (first|refine zF ?_|refine zT ?_|refine zG ?_)
     rfl
 . show Out.eval (qL _)=_
   dsimp only [qL];refine (ae (aa1 (by omega))).trans ?_;rfl
theorem Q1 (h:∀ x∈fi,x.1≠k) (hk:0≤k∧k≤5) (hl:fi.length≤1000):dw ((nx,tk,pg,ps,os,pi,fi,rd,ou,()),(18,k,b,c,l,()),())=j2 (nx,tk,pg,ps,os,pi,bF aR (k,[],()) fi,rd,ou,()):=by
 have JO:bj fi k= -1:=tO (key:=aR) h;have hL:bA=68719476736:=rfl;have hB:aM=9223372036854775807:=rfl;have jN:(!(dh k (0:Int) (5:Int)))=false:=by rw [fh.2 hk];rfl
 have JP:=zt (f:=qM) (key:=aR) (k,[],()) fi (λd i=>((d.1,(i:Int),()),((nx,tk,()),(18,k,b,c,l,()),(0,0,()),d.2,pg,ps,os,pi,fi,rd,ou,([]:List (List az)),([]:List af),([]:List aj),([]:List ag),([]:List ag),([]:List Int),([]:List Int),()))) (λd=>((d.1,()),((nx,tk,()),(18,k,b,c,l,()),(0,0,()),d.2,pg,ps,os,pi,fi,rd,ou,([]:List (List az)),([]:List af),([]:List aj),([]:List ag),([]:List ag),([]:List Int),([]:List Int),()))) (λi hi d hd=> ?_) (λd=> ?_) (by omega)
 . have key:DE ((nx,tk,pg,ps,os,pi,fi,rd,ou,()),(18,k,b,c,l,()),())=j2 (nx,tk,pg,ps,os,pi,bF aR (k,[],()) fi,rd,ou,()):=by
    show Out.eval (pe _)=_;dsimp only [pe];rw [JO]
    repeat' (first|refine zF ?_|refine zT ?_|refine zG ?_)
    dsimp only;have hf:=qP (key:=aR) (y:=(k,[],())) fi [];have hlen:(List.foldl (gD aR (k,[],())) (false,[]) fi).2.length≤1002:=by
     have h2:=congrArg List.length hf;rw [ab0,iL] at h2;split at h2
     . omega
     . rw [abz] at h2;omega
    rw [ab0] at hf;rw [← hf];generalize List.foldl (gD aR (k,[],())) (false,[]) fi=d at hlen;obtain ⟨d1,d2⟩:=d;have hlen:d2.length≤1002:=hlen;cases d1
    . refine (ab (by rfl)).trans ?_
      refine (ab (aaE (by simp only [aby,abA];omega))).trans ?_;rfl
    . refine (ae (by rfl)).trans ?_
      rfl
   show Out.eval (bB _)=_;dsimp only [bB]
   repeat' (first|refine zF ?_|refine zT ?_|refine zG ?_)
   rfl
 . have hn:nth fi i=some fi[i]:=aa2 hi
   have hw:IntKind.i64.wrap ((i:Int)+1)=((i+1:Nat):Int):=aw (by omega);obtain ⟨d1,d2⟩:=d;have hd:d2.length≤i+1:=hd;show Out.eval (qM _)=_;dsimp only [qM];rw [hw];simp only [abo];refine (ab (aaE (by omega))).trans ?_;cases d1
   . refine (ab (by rfl)).trans ?_
     by_cases q:k<aR fi[i]
     . have e:gD aR (k,[],()) (false,d2) fi[i]=(true,(d2++[(k,[],())])++[fi[i]]):=by unfold gD;rw [aa5 ⟨rfl,q⟩]
       have q':fi[i].1>k:=q;rw [e]
       repeat' (first|refine zF ?_|refine zT ?_|refine zG ?_)
       rfl
     . have e:gD aR (k,[],()) (false,d2) fi[i]=(false,d2++[fi[i]]):=by unfold gD;rw [aa3 λh=>q h.2]
       have q':¬ fi[i].1>k:=q;rw [e]
       repeat' (first|refine zF ?_|refine zT ?_|refine zG ?_)
       rfl
   . have e:gD aR (k,[],()) (true,d2) fi[i]=(true,d2++[fi[i]]):=by unfold gD;rw [aa3 (by simp)]
     rw [e]
     repeat' (first|refine zF ?_|refine zT ?_|refine zG ?_)
     rfl
 . show Out.eval (qM _)=_
   dsimp only [qM];refine (ae (aa1 (by omega))).trans ?_;rfl
theorem uO (h:bO al os) (ho:o∈os) (_:os.length≤1000) (hr: -1000≤bG o+b∧bG o+b≤1000):dw ((nx,tk,pg,ps,os,pi,fi,rd,ou,()),(11,o.1,b,c,l,()),())=j2 (nx,tk,pg,ps,bW al os o.1 (cG (bG o+b)),pi,fi,rd,ou,()):=by
 obtain ⟨i,hi,bS,hn⟩:=bu h ho;have cQ:aF os o.1=(i:Int):=hi;have nv:nth os i=some o:=hn;have hL:bA=68719476736:=rfl;have FO: -1000≤o.2.2.2.2.1+b∧o.2.2.2.2.1+b≤1000:=hr;have hw:IntKind.i64.wrap (o.2.2.2.2.1+b)=o.2.2.2.2.1+b:=b7 (by omega) (by omega);have key:zn ((nx,tk,pg,ps,os,pi,fi,rd,ou,()),(11,o.1,b,c,l,()),())=j2 (nx,tk,pg,ps,bW al os o.1 (cG (bG o+b)),pi,fi,rd,ou,()):=by
  show Out.eval (mz _)=_;dsimp only [mz];rw [cQ];rw [show bW al os o.1 (cG (bG o+b))=os.set i (cG (bG o+b) o) from (fl h hn _ rfl).symm];simp only [abo]
  repeat' (first|refine zF ?_|refine zT ?_|refine zG ?_)
  rw [hw];rfl
 show Out.eval (bB _)=_;dsimp only [bB]
 repeat' (first|refine zF ?_|refine zT ?_|refine zG ?_)
 rfl
theorem MA (h:bO al os) (ho:o∈os) (_:os.length≤1000):dw ((nx,tk,pg,ps,os,pi,fi,rd,ou,()),(13,o.1,b,c,l,()),())=j2 (nx,tk,pg,ps,bW al os o.1 (uZ b),pi,fi,rd,ou,()):=by
 obtain ⟨i,hi,bS,hn⟩:=bu h ho;have cQ:aF os o.1=(i:Int):=hi;have nv:nth os i=some o:=hn;have hL:bA=68719476736:=rfl;have key:zn ((nx,tk,pg,ps,os,pi,fi,rd,ou,()),(13,o.1,b,c,l,()),())=j2 (nx,tk,pg,ps,bW al os o.1 (uZ b),pi,fi,rd,ou,()):=by
  show Out.eval (mz _)=_;dsimp only [mz];rw [cQ];rw [show bW al os o.1 (uZ b)=os.set i (uZ b o) from (fl h hn _ rfl).symm];simp only [abo]
  repeat' (first|refine zF ?_|refine zT ?_|refine zG ?_)
  rfl
 show Out.eval (bB _)=_;dsimp only [bB]
 repeat' (first|refine zF ?_|refine zT ?_|refine zG ?_)
 rfl
theorem IA (h:bO al os) (ho:o∈os) (hl:os.length≤1000):dw ((nx,tk,pg,ps,os,pi,fi,rd,ou,()),(12,o.1,b,c,l,()),())=j2 (nx,tk,pg,ps,Ax os o.1,pi,fi,rd,ou,()):=by
 obtain ⟨i,hi,bS,hn⟩:=bu h ho;have cQ:aF os o.1=(i:Int):=hi;have nv:nth os i=some o:=hn;have hL:bA=68719476736:=rfl;have hw:IntKind.i64.wrap ((i:Int)+1)=((i+1:Nat):Int):=aw (by have hB:aM=9223372036854775807:=rfl;omega);have key:zn ((nx,tk,pg,ps,os,pi,fi,rd,ou,()),(12,o.1,b,c,l,()),())=j2 (nx,tk,pg,ps,Ax os o.1,pi,fi,rd,ou,()):=by
  show Out.eval (mz _)=_;dsimp only [mz];rw [cQ];rw [show Ax os o.1=os.take i++os.drop (i+1) from (xK h hn).symm];simp only [hw,abo,Int.toNat_zero,Nat.sub_zero,ab0,acw,afW,afq,acA]
  repeat' (first|refine zF ?_|refine zT ?_|refine zG ?_)
  rw [acY (l:=os.drop (i+1)) (by rw [acA];omega)];rfl
 show Out.eval (bB _)=_;dsimp only [bB]
 repeat' (first|refine zF ?_|refine zT ?_|refine zG ?_)
 rfl
theorem Wo (h:bO aB pi) (hy:y∈pi) (_:pi.length≤1000) (h4:y.2.1.length<4):dw ((nx,tk,pg,ps,os,pi,fi,rd,ou,()),(15,y.1,b,c,l,()),())=j2 (nx,tk,pg,ps,os,bW aB pi y.1 (eX (y.2.1++[b])),fi,rd,ou,()):=by
 obtain ⟨i,hi,bS,hn⟩:=bu h hy;have cQ:ba pi y.1=(i:Int):=hi;have nv:nth pi i=some y:=hn;have hL:bA=68719476736:=rfl;have key:zo ((nx,tk,pg,ps,os,pi,fi,rd,ou,()),(15,y.1,b,c,l,()),())=j2 (nx,tk,pg,ps,os,bW aB pi y.1 (eX (y.2.1++[b])),fi,rd,ou,()):=by
  show Out.eval (mA _)=_;dsimp only [mA];rw [cQ];rw [show bW aB pi y.1 (eX (y.2.1++[b]))=pi.set i (eX (y.2.1++[b]) y) from (fl h hn _ rfl).symm];simp only [abo,ab0]
  repeat' (first|refine zF ?_|refine zT ?_|refine zG ?_)
  rfl
 show Out.eval (bB _)=_;dsimp only [bB]
 repeat' (first|refine zF ?_|refine zT ?_|refine zG ?_)
 rfl
theorem Rc (h:bO aB pi) (hy:y∈pi) (_:pi.length≤1000) (h4:0<y.2.1.length∧y.2.1.length≤4):dw ((nx,tk,pg,ps,os,pi,fi,rd,ou,()),(16,y.1,b,c,l,()),())=j2 (nx,tk,pg,ps,os,bW aB pi y.1 (eX (y.2.1.drop 1)),fi,rd,ou,()):=by
 obtain ⟨i,hi,bS,hn⟩:=bu h hy;have cQ:ba pi y.1=(i:Int):=hi;have nv:nth pi i=some y:=hn;have hL:bA=68719476736:=rfl;have he:(((y.2.1.length:Nat):Int)==0)=false:=dN (by omega);have hd:(y.2.1.drop 1).length≤4:=by rw [acA];omega
 have key:zo ((nx,tk,pg,ps,os,pi,fi,rd,ou,()),(16,y.1,b,c,l,()),())=j2 (nx,tk,pg,ps,os,bW aB pi y.1 (eX (y.2.1.drop 1)),fi,rd,ou,()):=by
  show Out.eval (mA _)=_;dsimp only [mA];rw [cQ];rw [show bW aB pi y.1 (eX (y.2.1.drop 1))=pi.set i (eX (y.2.1.drop 1) y) from (fl h hn _ rfl).symm];simp only [abo,ab0,Int.toNat_one,acA]
  repeat' (first|refine zF ?_|refine zT ?_|refine zG ?_)
  rfl
 show Out.eval (bB _)=_;dsimp only [bB]
 repeat' (first|refine zF ?_|refine zT ?_|refine zG ?_)
 rfl
theorem Ko (h:bO aB pi) (hy:y∈pi) (hl:pi.length≤1000):dw ((nx,tk,pg,ps,os,pi,fi,rd,ou,()),(17,y.1,b,c,l,()),())=j2 (nx,tk,pg,ps,os,Iy pi y.1,fi,rd,ou,()):=by
 obtain ⟨i,hi,bS,hn⟩:=bu h hy;have cQ:ba pi y.1=(i:Int):=hi;have nv:nth pi i=some y:=hn;have hL:bA=68719476736:=rfl;have hw:IntKind.i64.wrap ((i:Int)+1)=((i+1:Nat):Int):=aw (by have hB:aM=9223372036854775807:=rfl;omega);have key:zo ((nx,tk,pg,ps,os,pi,fi,rd,ou,()),(17,y.1,b,c,l,()),())=j2 (nx,tk,pg,ps,os,Iy pi y.1,fi,rd,ou,()):=by
  show Out.eval (mA _)=_;dsimp only [mA];rw [cQ];simp only [abo];rw [show Iy pi y.1=pi.take i++pi.drop (i+1) from (xK h hn).symm];simp only [hw,abo,Int.toNat_zero,Nat.sub_zero,ab0,acw,afW,afq,acA]
  repeat' (first|refine zF ?_|refine zT ?_|refine zG ?_)
  rw [acY (l:=pi.drop (i+1)) (by rw [acA];omega)];rfl
 show Out.eval (bB _)=_;dsimp only [bB]
 repeat' (first|refine zF ?_|refine zT ?_|refine zG ?_)
 rfl
theorem Q6 (h:bO aR fi) (hy:y∈fi) (hl:fi.length≤1000):dw ((nx,tk,pg,ps,os,pi,fi,rd,ou,()),(20,y.1,b,c,l,()),())=j2 (nx,tk,pg,ps,os,pi,Iy fi y.1,rd,ou,()):=by
 obtain ⟨i,hi,bS,hn⟩:=bu h hy;have cQ:bj fi y.1=(i:Int):=hi;have nv:nth fi i=some y:=hn;have hL:bA=68719476736:=rfl;have hw:IntKind.i64.wrap ((i:Int)+1)=((i+1:Nat):Int):=aw (by have hB:aM=9223372036854775807:=rfl;omega);have key:DE ((nx,tk,pg,ps,os,pi,fi,rd,ou,()),(20,y.1,b,c,l,()),())=j2 (nx,tk,pg,ps,os,pi,Iy fi y.1,rd,ou,()):=by
  show Out.eval (pe _)=_;dsimp only [pe];rw [cQ];rw [show Iy fi y.1=fi.take i++fi.drop (i+1) from (xK h hn).symm];simp only [hw,abo,Int.toNat_zero,Nat.sub_zero,ab0,acw,afW,afq,acA]
  repeat' (first|refine zF ?_|refine zT ?_|refine zG ?_)
  rw [acY (l:=fi.drop (i+1)) (by rw [acA];omega)];rfl
 show Out.eval (bB _)=_;dsimp only [bB]
 repeat' (first|refine zF ?_|refine zT ?_|refine zG ?_)
 rfl
def hY (d:List Int) (b c:Int):List Int:=if b=((d.length:Nat):Int) then d++[c] else d.set b.toNat c
theorem Rf (h:bO aR fi) (hy:y∈fi) (_:fi.length≤1000) (hlen:y.2.1.length≤8) (hb:0≤b∧b≤((y.2.1.length:Nat):Int)∧b<8):dw ((nx,tk,pg,ps,os,pi,fi,rd,ou,()),(19,y.1,b,c,l,()),())=j2 (nx,tk,pg,ps,os,pi,bW aR fi y.1 (eX (hY y.2.1 b c)),rd,ou,()):=by
 obtain ⟨i,hi,bS,hn⟩:=bu h hy;have cQ:bj fi y.1=(i:Int):=hi;have nv:nth fi i=some y:=hn;have hL:bA=68719476736:=rfl;have key:DE ((nx,tk,pg,ps,os,pi,fi,rd,ou,()),(19,y.1,b,c,l,()),())=j2 (nx,tk,pg,ps,os,pi,bW aR fi y.1 (eX (hY y.2.1 b c)),rd,ou,()):=by
  show Out.eval (pe _)=_;dsimp only [pe];rw [cQ];rw [show bW aR fi y.1 (eX (hY y.2.1 b c))=fi.set i (eX (hY y.2.1 b c) y) from (fl h hn _ rfl).symm];simp only [abo,ab0];by_cases q:b=((y.2.1.length:Nat):Int)
  . have he:(b==((y.2.1.length:Nat):Int))=true:=cT q
    unfold hY;rw [aa5 q]
    repeat' (first|refine zF ?_|refine zT ?_|refine zG ?_)
    rfl
  . have he:(b==((y.2.1.length:Nat):Int))=false:=dN q
    have hnb:nth y.2.1 b.toNat=some (y.2.1[b.toNat]'(by omega)):=aa2 _;unfold hY;rw [aa3 q]
    repeat' (first|refine zF ?_|refine zT ?_|refine zG ?_)
    rfl
 show Out.eval (bB _)=_;dsimp only [bB]
 repeat' (first|refine zF ?_|refine zT ?_|refine zG ?_)
 rfl
theorem xg (hl:rd.length<6):dw ((nx,tk,pg,ps,os,pi,fi,rd,ou,()),(21,k,b,c,l,()),())=j2 (nx,tk,pg,ps,os,pi,fi,rd++[k],ou,()):=by
 have hL:bA=68719476736:=rfl;have key:zp ((nx,tk,pg,ps,os,pi,fi,rd,ou,()),(21,k,b,c,l,()),())=j2 (nx,tk,pg,ps,os,pi,fi,rd++[k],ou,()):=by
  show Out.eval (mB _)=_;dsimp only [mB]
  repeat' (first|refine zF ?_|refine zT ?_|refine zG ?_)
  rfl
 show Out.eval (bB _)=_;dsimp only [bB]
 repeat' (first|refine zF ?_|refine zT ?_|refine zG ?_)
 rfl
theorem Wn (hl:ou.length<60):dw ((nx,tk,pg,ps,os,pi,fi,rd,ou,()),(23,k,b,c,l,()),())=j2 (nx,tk,pg,ps,os,pi,fi,rd,ou++[k],()):=by
 have hL:bA=68719476736:=rfl;have key:zp ((nx,tk,pg,ps,os,pi,fi,rd,ou,()),(23,k,b,c,l,()),())=j2 (nx,tk,pg,ps,os,pi,fi,rd,ou++[k],()):=by
  show Out.eval (mB _)=_;dsimp only [mB]
  repeat' (first|refine zF ?_|refine zT ?_|refine zG ?_)
  rfl
 show Out.eval (bB _)=_;dsimp only [bB]
 repeat' (first|refine zF ?_|refine zT ?_|refine zG ?_)
 rfl
theorem Rm (h0:0≤tk) (hl:tk<1000000):dw ((nx,tk,pg,ps,os,pi,fi,rd,ou,()),(24,k,b,c,l,()),())=j2 (nx,tk+1,pg,ps,os,pi,fi,rd,ou,()):=by
 have hL:bA=68719476736:=rfl;have hw:IntKind.i64.wrap (tk+1)=tk+1:=b7 (by omega) (by omega);have key:zp ((nx,tk,pg,ps,os,pi,fi,rd,ou,()),(24,k,b,c,l,()),())=j2 (nx,tk+1,pg,ps,os,pi,fi,rd,ou,()):=by
  show Out.eval (mB _)=_;dsimp only [mB]
  repeat' (first|refine zF ?_|refine zT ?_|refine zG ?_)
  rw [hw];rfl
 show Out.eval (bB _)=_;dsimp only [bB]
 repeat' (first|refine zF ?_|refine zT ?_|refine zG ?_)
 rfl
theorem FP {x:Int}:∀ {l:List Int} {i:Nat},l.findIdx? (λy=>y==x)=some i→l.take i++l.drop (i+1)=l.erase x
 |[],i,h=>by simp at h
 |y::r,i,h=>by
  rw [List.findIdx?_cons] at h;by_cases q:(y==x)=true
  . rw [aa5 q] at h
    obtain rfl:=aa6 h;rw [List.erase_cons,aa5 q];rfl
  . rw [aa3 q] at h
    obtain ⟨j,hj,rfl⟩:=Option.map_eq_some_iff.1 h;rw [List.erase_cons,aa3 q, ← FP hj];rfl
theorem xf (hm:k∈rd) (hl:rd.length≤1000):dw ((nx,tk,pg,ps,os,pi,fi,rd,ou,()),(22,k,b,c,l,()),())=j2 (nx,tk,pg,ps,os,pi,fi,rd.erase k,ou,()):=by
 have hL:bA=68719476736:=rfl;have hB:aM=9223372036854775807:=rfl;have JP:=dY (f:=mc) rd (λy=>y==k) (λi=>(((i:Int),()),((nx,tk,()),(22,k,b,c,l,()),(0,0,()),pg,ps,os,pi,fi,rd,ou,([]:List (List az)),([]:List af),([]:List aj),([]:List ag),([]:List ag),([]:List Int),([]:List Int),())))
  (z:=λi=>((true,()),((nx,tk,()),pg,ps,os,pi,fi,rd.take i++rd.drop (i+1),ou,()))) (y:=((),((nx,tk,()),(0,0,()),pg,ps,os,pi,fi,rd,ou,([]:List (List az)),([]:List af),([]:List aj),([]:List ag),([]:List ag),([]:List Int),([]:List Int),()))) (λi hi q=> ?_) (λi hi q=> ?_) ?_ (by omega)
 . obtain ⟨i,hi⟩:∃ i,rd.findIdx? (λy=>y==k)=some i:=by
    cases e:rd.findIdx? (λy=>y==k) with
    |some i=>exact ⟨i,rfl⟩
    |none=>rw [adz] at e;have:=e k hm;simp at this
   rw [hi] at JP;have key:zp ((nx,tk,pg,ps,os,pi,fi,rd,ou,()),(22,k,b,c,l,()),())=j2 (nx,tk,pg,ps,os,pi,fi,rd.erase k,ou,()):=by
    rw [← FP hi];show Out.eval (mB _)=_;dsimp only [mB]
    repeat' (first|refine zF ?_|refine zT ?_|refine zG ?_)
    rfl
   show Out.eval (bB _)=_;dsimp only [bB]
   repeat' (first|refine zF ?_|refine zT ?_|refine zG ?_)
   rfl
 . have hn:nth rd i=some rd[i]:=aa2 hi
   have hw:IntKind.i64.wrap ((i:Int)+1)=((i+1:Nat):Int):=aw (by omega);show Out.eval (mc _)=_;dsimp only [mc];simp only [abo,hw]
   repeat' (first|refine zF ?_|refine zT ?_|refine zG ?_)
   rfl
 . have hn:nth rd i=some rd[i]:=aa2 hi
   have hw:IntKind.i64.wrap ((i:Int)+1)=((i+1:Nat):Int):=aw (by omega);show Out.eval (mc _)=_;dsimp only [mc];simp only [hw,abo,Int.toNat_zero,Nat.sub_zero,ab0,acw,afW,afq,acA]
   repeat' (first|refine zF ?_|refine zT ?_|refine zG ?_)
   rw [acY (l:=rd.drop (i+1)) (by rw [acA];omega)];rfl
 . show Out.eval (mc _)=_
   dsimp only [mc]
   repeat' (first|refine zF ?_|refine zT ?_|refine zG ?_)
   rfl
theorem QY (h:∀ p∈ps,(cd p).length≤12∧(cd p).length % 4=0) (hl:ps.length≤6) {n:Nat} (hn:n≤1000) {q:Bool} (hq:decide (lS ps+4*n≤64)=q):nB ((nx,tk,pg,ps,os,pi,fi,rd,ou,()),((n:Int),()),())=some (((q,()),()),((),(),())):=by
 obtain ⟨m,h1,h2⟩:=vA ps h hl;have h3:lS ps≤12*6:=by
  have:∀ ps:List af,(∀ p∈ps,(cd p).length≤12)→lS ps≤12*ps.length:=by
   intro ps
   induction ps with
   |nil=>intro _;exact ac0 _
   |cons p r ih=>intro h;have h1:=h p (by simp);have h2:=ih λq hq=>h q (by simp [hq]);rw [mT,aby];omega
  have:=this ps λp hp=>(h p hp).1;omega
 have hw:IntKind.i64.wrap ((m:Int)+(n:Int))=(m:Int)+(n:Int):=b7 (by omega) (by omega);show Out.eval (DC _)=_;dsimp only [DC];rw [h1,hw, ← hq];have e:decide ((m:Int)+(n:Int)≤16)=decide (lS ps+4*n≤64):=by
  rw [ace,aco,aco];omega
 rw [e];rfl
end
section
def aL (x tl:Int) (u:UT):Prop:=Inv x tl u.1 u.2.1 u.2.2.1 u.2.2.2.1 u.2.2.2.2.1 u.2.2.2.2.2.1 u.2.2.2.2.2.2.1 u.2.2.2.2.2.2.2.1 u.2.2.2.2.2.2.2.2.1
abbrev bm (u:UT):List af:=u.2.2.2.1
abbrev eP (u:UT):List aj:=u.2.2.2.2.1
abbrev oG (u:UT):List ag:=u.2.2.2.2.2.1
abbrev od (u:UT):List ag:=u.2.2.2.2.2.2.1
abbrev qU (u:UT):List Int:=u.2.2.2.2.2.2.2.1
abbrev GL (u:UT):List Int:=u.2.2.2.2.2.2.2.2.1
abbrev gz (u:UT) (l:List ET):WT:=(u.1,u.2.1,u.2.2.1,u.2.2.2.1,u.2.2.2.2.1,u.2.2.2.2.2.1,u.2.2.2.2.2.2.1,u.2.2.2.2.2.2.2.1,u.2.2.2.2.2.2.2.2.1,l,())
def fE (f:List af→List af) (u:UT):UT:=(u.1,u.2.1,u.2.2.1,f u.2.2.2.1,u.2.2.2.2)
def bp (f:List aj→List aj) (u:UT):UT:=(u.1,u.2.1,u.2.2.1,u.2.2.2.1,f u.2.2.2.2.1,u.2.2.2.2.2)
def gi (f:List ag→List ag) (u:UT):UT:=(u.1,u.2.1,u.2.2.1,u.2.2.2.1,u.2.2.2.2.1,f u.2.2.2.2.2.1,u.2.2.2.2.2.2)
def ky (f:List ag→List ag) (u:UT):UT:=(u.1,u.2.1,u.2.2.1,u.2.2.2.1,u.2.2.2.2.1,u.2.2.2.2.2.1,f u.2.2.2.2.2.2.1,u.2.2.2.2.2.2.2)
def dL (f:List Int→List Int) (u:UT):UT:=(u.1,u.2.1,u.2.2.1,u.2.2.2.1,u.2.2.2.2.1,u.2.2.2.2.2.1,u.2.2.2.2.2.2.1,f u.2.2.2.2.2.2.2.1,u.2.2.2.2.2.2.2.2)
def di (v:Int) (f:af→af) (u:UT):UT:=fE (λps=>bM ps v f) u
def dJ {α:Type} (key:α→Int) (a:List α) (v:Int):Option α:=a.find? λx=>key x==v
theorem dv {α:Type} {key:α→Int} {a:List α} (h:bO key a) {x:α} (hx:x∈a):dJ key a (key x)=some x:=by
 unfold dJ;cases e:a.find? (λy=>key y==key x) with
 |none=>rw [List.find?_eq_none] at e;have:=e x hx;simp at this
 |some y=>
  have h1:=List.find?_some e;have h2:=List.mem_of_find?_eq_some e;rw [h.inj h2 hx (by simpa using h1)]
theorem yi {α:Type} {key:α→Int} {a:List α} {v:Int} {x:α} (h:dJ key a v=some x):x∈a∧key x=v:=⟨List.mem_of_find?_eq_some h,by simpa using List.find?_some h⟩
variable {x tl:Int} {u u':UT} {p:af} {l l':List ET} {e:ET}
theorem eG (h:dw (u,e,())=j2 u') (hl:l.length≤100000):br (gz u l,e,())=some ((gz u' (l++[e]),()),((),(),())):=by
 have hL:bA=68719476736:=rfl;show Out.eval (DF _)=_;dsimp only [DF];refine zG ?_ h;refine zT ?_ (aaE (by simp only [aby,abA];omega));rfl
abbrev eE (k a b c:Int):ET:=(k,a,b,c,[],())
theorem aY {l:List ET} {e:ET}:(l++[e]).length=l.length+1:=by simp
def iD (v:Int) (u:UT):UT:=dL (· ++[v]) (di v (lU 1 0) u)
def rH (v s t:Int) (u:UT):UT:=dL (·.erase v) (di v (lU s t) u)
def AF (v:Int) (c:ag) (u:UT):UT:=di v (oA c) u
theorem wx (h:aL x tl u):(qU u).length≤6:=by
 rw [h.Et.length_eq];have h1:(aH (bm u)).length≤(bm u).length:=by unfold aH;rw [acF];exact adA _ _
 exact abG h1 h.np
theorem ae3 (h:aL x tl u) (hp:p∈bm u) (h1:cE p≠1):(qU u).length<6:=by
 rw [h.Et.length_eq];have h2:(aH (bm u)).length<(bm u).length:=by
  unfold aH;rw [acF];exact List.length_filter_lt_length_iff_exists.2 ⟨p,hp,by unfold ki;simpa using h1⟩
 exact aci h2 h.np
theorem x6 (h:aL x tl u) (hp:p∈bm u) (h0:cE p≠6) (h1:cE p≠1):aL x tl (iD p.1 u):=Inv.jC h hp h0 h1
abbrev rh (v:Int) (l:List ET):List ET:=l++[eE 3 v 1 0]++[eE 21 v 0 0]
theorem CA (h:aL x tl u) (hp:p∈bm u) (h1:cE p≠1) (hl:l.length≤99990):oM (gz u l,(p.1,()),())=some ((gz (iD p.1 u) (rh p.1 l),()),((),(),())):=by
 show Out.eval (DJ _)=_;dsimp only [DJ];refine zG ?_ rfl;refine (aa (eG (x9 h.cF hp) (by omega))).trans ?_;refine zG ?_ rfl;refine (aa (eG (xg (ae3 h hp h1)) (by rw [aY];omega))).trans ?_;rfl
theorem xi (h:aL x tl u) (hp:p∈bm u) {s t:Int} (h1:cE p=1) (hs:2≤s∧s≤5) (h2:s=2→tl<t) (h3:s=3→t=0) (h4:s=4∨s=5→t∈aA p∧∃ o∈eP u,o.1=t):aL x tl (rH p.1 s t u):=Inv.block h hp h1 hs h2 h3 h4
theorem xj (h:aL x tl u) (hp:p∈bm u) {s t:Int} (h1:cE p=1) (hl:l.length≤99990):uX (gz u l,(p.1,()),(s,()),(t,()),())=some ((gz (rH p.1 s t u) (l++[eE 3 p.1 s t]++[eE 22 p.1 0 0]),()),((),(),(),(),())):=by
 show Out.eval (DI _)=_;dsimp only [DI];refine zG ?_ rfl;refine (aa (eG (x9 h.cF hp) (by omega))).trans ?_;refine zG ?_ rfl;refine (aa (eG (xf (h.ready hp h1) (abG (wx h) (by omega))) (by rw [aY];omega))).trans ?_;rfl
theorem cY {pc:Int} {r:List Int} (h:aP pc r=true):mw pc=true∧r.length=4∧aG r=true:=by
 unfold aP at h;simp only [aa4,abS] at h;exact ⟨h.1.1,h.1.2,h.2⟩
theorem qd {pc:Int} {r:List Int} {k:Nat} {v:Int} (h:aP pc r=true) (hv:bV v=true):aP pc (r.set k v)=true:=by
 obtain ⟨h1,h2,h3⟩:=cY h;unfold aP;simp only [aa4,abS];refine ⟨⟨h1,by rw [acz];exact h2⟩, ?_⟩;unfold aG at h3 ⊢;rw [abD] at h3 ⊢;intro y hy;rcases afl hy with q|rfl
 . exact h3 y q
 . exact hv
theorem IG (h:aL x tl u) (hp:p∈bm u) {c:ag} (hc:aP c.1 c.2.1=true):aL x tl (AF p.1 c u):=Inv.ku h hp hc
theorem Ha (h:bO ao (bm u)) (hp:p∈bm u) {c:ag} (hc:aP c.1 c.2.1=true) (hl:l.length≤99990):xF (gz u l,(p.1,()),c,())=some ((gz (AF p.1 c u) (l++[(1,p.1,c.1,0,c.2.1,())]),()),((),(),(),())):=by
 have h4:=(cY hc).2.1;have hL:bA=68719476736:=rfl;show Out.eval (xE _)=_;dsimp only [xE];refine zT ?_ (aaE (by simp only [abA];omega));refine (aa (eG (abn h hp hc (by omega)) (by omega))).trans ?_;rfl
theorem ade (h:bO ao (bm u)) (hp:p∈bm u) {c:ag} (hc:aP c.1 c.2.1=true) (hl:l.length≤99990):O4 (gz u l,(p.1,()),c,())=some ((gz (AF p.1 c u) (l++[(1,p.1,c.1,0,c.2.1,())]),()),((),(),(),())):=Ha h hp hc hl
abbrev qX (c:ag) (k:Nat) (v:Int):ag:=(c.1,c.2.1.set k v,())
def ct (v:Int) (c:ag) (y:Int) (u:UT):UT:=AF v (qX c 0 y) u
def hJ (v:Int) (c:ag) (y z:Int) (u:UT):UT:=AF v (qX (qX c 1 z) 0 y) u
theorem cj (h:aL x tl u) (hp:p∈bm u) {c:ag} (hc:aP c.1 c.2.1=true) {y:Int} (hy:bV y=true):aL x tl (ct p.1 c y u):=IG h hp (c:=qX c 0 y) (qd hc hy)
theorem xh (h:aL x tl u) (hp:p∈bm u) {c:ag} (hc:aP c.1 c.2.1=true) {y z:Int} (hy:bV y=true) (hz:bV z=true):aL x tl (hJ p.1 c y z u):=IG h hp (c:=qX (qX c 1 z) 0 y) (qd (qd hc hz) hy)
theorem JQ (h:bO ao (bm u)) (hp:p∈bm u) {c:ag} (hc:aP c.1 c.2.1=true) {y:Int} (hy:bV y=true) (hl:l.length≤99990):∃ l',Jz (gz u l,(p.1,()),c,(y,()),())=some ((gz (ct p.1 c y u) l',()),((),(),(),(),()))∧l'.length=l.length+1:=by
 have h4:=(cY hc).2.1;have hL:bA=68719476736:=rfl;have hn:nth c.2.1 (Int.toNat (0:Int))=some (c.2.1[0]'(by omega)):=aa2 _;refine ⟨l++[(1,p.1,c.1,0,(qX c 0 y).2.1,())], ?_,aY⟩;show Out.eval (xG _)=_;dsimp only [xG];refine zT ?_ (aaE (by simp only [abA];omega));refine zT ?_ (aaE (by rw [ab0];omega));refine zG ?_;refine zG ?_ (Ha h hp (c:=qX c 0 y) (qd hc hy) hl);rfl
theorem CE (h:bO ao (bm u)) (hp:p∈bm u) {c:ag} (hc:aP c.1 c.2.1=true) {y:Int} (hy:bV y=true) (hl:l.length≤99990):∃ l',bt (gz u l,(p.1,()),c,(y,()),())=some ((gz (ct p.1 c y u) l',()),((),(),(),(),()))∧l'.length=l.length+1:=JQ h hp hc hy hl
theorem IE (h:bO ao (bm u)) (hp:p∈bm u) {c:ag} (hc:aP c.1 c.2.1=true) {y z:Int} (hy:bV y=true) (hz:bV z=true) (hl:l.length≤99990):∃ l',uU (gz u l,(p.1,()),c,(y,()),(z,()),())=some ((gz (hJ p.1 c y z u) l',()),((),(),(),(),(),()))∧l'.length=l.length+1:=by
 have h4:=(cY hc).2.1;have hL:bA=68719476736:=rfl;have hn:nth c.2.1 (Int.toNat (1:Int))=some (c.2.1[1]'(by omega)):=aa2 _;obtain ⟨l',e,hl'⟩:=JQ h hp (c:=qX c 1 z) (qd hc hz) hy hl;refine ⟨l', ?_,hl'⟩;show Out.eval (DG _)=_;dsimp only [DG];refine zT ?_ (aaE (by simp only [abA];omega));refine zT ?_ (aaE (by rw [ab0];omega));refine zG ?_;refine zG ?_ e;rfl
def ru (os:List aj) (pipe:Int) (p:af):Bool:=(cE p==4||cE p==5)&&match fj al os (oT p) with
 |none=>false
 |some i=>match os[i]? with|none=>false|some o=>(bE o==3||bE o==4)&&cg o==pipe
def waiters (os:List aj) (pipe:Int) (ps:List af):List Int:=(ps.filter (ru os pipe)).map ao
def gB (vs:List Int) (u:UT):UT:=vs.foldl (λu v=>iD v u) u
def ff (pipe:Int) (u:UT):UT:=gB (waiters (eP u) pipe (bm u)) u
theorem EC {os:List aj} {pipe:Int} (h:ru os pipe p=true):cE p=4∨cE p=5:=by
 unfold ru at h;rw [aa4,acQ,acy,acy] at h;exact h.1
theorem A6 (h:aL x tl u) (hp:p∈bm u) {q:af} (hq:q∈bm u) (dV:q.1≠p.1):q∈bm (iD p.1 u):=(aW h.cF hp).2 (.inr ⟨hq,dV⟩)
def la (vs:List Int) (u:UT):Prop:=vs.Nodup∧∀ v∈vs,∃ p∈bm u,p.1=v∧cE p≠1∧cE p≠6
theorem la.tail {v:Int} {vs:List Int} (h:aL x tl u) (ha:la (v::vs) u):aL x tl (iD v u)∧la vs (iD v u):=by
 obtain ⟨hn,ha⟩:=ha;obtain ⟨p,hp,rfl,h1,h6⟩:=ha v (by simp);rw [acu] at hn;refine ⟨x6 h hp h6 h1,hn.2,λw hw=> ?_⟩;obtain ⟨q,hq,rfl,q1,q6⟩:=ha w (by simp [hw]);exact ⟨q,A6 h hp hq λe=>hn.1 (e ▸ hw),rfl,q1,q6⟩
theorem vb:∀ {vs:List Int} {u:UT},aL x tl u→la vs u→aL x tl (gB vs u)
 |[],_,h,_=>h
 |_::vs,_,h,ha=>vb (vs:=vs) (ha.tail h).1 (ha.tail h).2
theorem lb (h:aL x tl u) (pipe:Int):la (waiters (eP u) pipe (bm u)) u:=by
 refine ⟨(show ((bm u).map ao).Nodup from h.cF.nodup).sublist (List.filter_sublist.map ao),λv hv=> ?_⟩;obtain ⟨p,hp,rfl⟩:=List.mem_map.1 hv;have Cr:=List.mem_filter.1 hp;have:=EC Cr.2;exact ⟨p,Cr.1,rfl,by omega,by omega⟩
theorem kZ (h:aL x tl u) (pipe:Int):aL x tl (ff pipe u):=vb h (lb h pipe)
end
section
variable {x tl:Int} {u u':UT} {p:af} {l l':List ET} {e:ET}
theorem T9 (k:Int):DM ((k,()),())=some ((((k==3||k==4),()),()),((),())):=by
 show Out.eval (DL _)=_;dsimp only [DL];cases h:(k==3)
 . rw [Bool.false_or];rfl
 . rfl
theorem HM {os:List aj} (h:bO al os) {o:aj} (ho:o∈os) (hk:o.1=oT p) (pipe:Int):ru os pipe p=((cE p==4||cE p==5)&&((bE o==3||bE o==4)&&cg o==pipe)):=by
 obtain ⟨i,h1,_,h3⟩:=nN h ho hk;unfold ru;rw [h1];simp only [h3]
theorem HN {os:List aj} (h:¬ ∃ o∈os,o.1=oT p) (pipe:Int):ru os pipe p=false:=by
 unfold ru;rw [ll (key:=al) λo ho e=>h ⟨o,ho,e⟩,Bool.and_false]
def ve (vs:List Int) (l:List ET):List ET:=vs.foldl (λl v=>rh v l) l
theorem rO:∀ (vs:List Int) (l:List ET),(ve vs l).length=l.length+2*vs.length
 |[],l=>rfl
 |v::vs,l=>by
  have:=rO vs (rh v l);unfold ve at this ⊢;rw [acn,this,aY,aY,aby];omega
theorem rD (h:aL x tl u) (pipe:Int) (hl:l.length≤99900):∃ l',xW (gz u l,(pipe,()),())=some ((gz (ff pipe u) l',()),((),(),()))∧l'.length≤l.length+12:=by
 obtain ⟨nx,tk,pg,ps,os,pi,fi,rd,ou,_⟩:=u;have hL:bA=68719476736:=rfl;have hB:aM=9223372036854775807:=rfl;have G0:ps.length≤6:=h.np;have h1:=foldl_loop (f:=mf) (λ(acc:List Int) i=>acc.length≤i) (λacc (p:af)=>if ru os pipe p=true then acc++[p.1] else acc) ps
  (λacc i=>((pipe,(i:Int),()),((nx,tk,()),(0,0,()),acc,pg,ps,os,pi,fi,rd,ou,l,([]:List (List az)),([]:List af),([]:List aj),([]:List ag),([]:List ag),([]:List Int),([]:List Int),([]:List ET),())))
  (λacc=>((),((nx,tk,()),(0,0,()),acc,pg,ps,os,pi,fi,rd,ou,l,([]:List (List az)),([]:List af),([]:List aj),([]:List ag),([]:List ag),([]:List Int),([]:List Int),([]:List ET),())))
  (λi hi acc ha=> ?_) (λacc _=> ?_) (λi hi acc ha=> ?_) (by omega) [] (abE 0)
 . have WG:∀ (a:List af) (acc:List Int),a.foldl (λacc (p:af)=>if ru os pipe p=true then acc++[p.1] else acc) acc=acc++waiters os pipe a:=by
    intro a
    induction a with
    |nil=>intro acc;simp [waiters]
    |cons p r ih=>
     intro acc;rw [acn,ih];unfold waiters;rw [acS];by_cases q:ru os pipe p=true
     . rw [aa5 q,aa5 q];simp [ao]
     . rw [aa3 q,aa3 q]
   rw [WG,ab0] at h1;have ha:=lb h pipe;have hlen:(waiters os pipe ps).length≤6:=by
    unfold waiters;rw [acF];exact abG (adA _ _) G0
   refine ⟨ve (waiters os pipe ps) l, ?_,by rw [rO];omega⟩;have CV:la (waiters os pipe ps) (nx,tk,pg,ps,os,pi,fi,rd,ou,()):=ha;unfold ff;show _=some ((gz (gB (waiters os pipe ps) (nx,tk,pg,ps,os,pi,fi,rd,ou,())) _,()),_);generalize waiters os pipe ps=vs at h1 CV hlen;have h2:=foldl_loop (f:=qN) (λ(d:UT×List ET) i=>aL x tl d.1∧la (vs.drop i) d.1∧d.2.length=l.length+2*i) (λ(d:UT×List ET) v=>(iD v d.1,rh v d.2)) vs
    (λd i=>(((i:Int),()),((d.1.1,d.1.2.1,()),(0,0,()),vs,d.1.2.2.1,d.1.2.2.2.1,d.1.2.2.2.2.1,d.1.2.2.2.2.2.1,d.1.2.2.2.2.2.2.1,d.1.2.2.2.2.2.2.2.1,d.1.2.2.2.2.2.2.2.2.1,d.2,([]:List (List az)),([]:List af),([]:List aj),([]:List ag),([]:List ag),([]:List Int),([]:List Int),([]:List ET),())))
    (λd=>((),((d.1.1,d.1.2.1,()),(0,0,()),d.1.2.2.1,d.1.2.2.2.1,d.1.2.2.2.2.1,d.1.2.2.2.2.2.1,d.1.2.2.2.2.2.2.1,d.1.2.2.2.2.2.2.2.1,d.1.2.2.2.2.2.2.2.2.1,d.2,([]:List (List az)),([]:List af),([]:List aj),([]:List ag),([]:List ag),([]:List Int),([]:List Int),([]:List ET),())))
    (λi hi d hd=> ?_) (λd _=> ?_) (λi hi d hd=> ?_) (by omega) ((nx,tk,pg,ps,os,pi,fi,rd,ou,()),l) ⟨h,CV,rfl⟩
   . have MO:∀ (vs:List Int) (d:UT×List ET),vs.foldl (λ(d:UT×List ET) v=>(iD v d.1,rh v d.2)) d=(gB vs d.1,ve vs d.2):=by
      intro vs
      induction vs with
      |nil=>intro d;rfl
      |cons v r ih=>intro d;rw [acn,ih];rfl
     rw [MO] at h2;show Out.eval (DN _)=_;dsimp only [DN];refine zG ?_ h1;refine zG ?_ h2;rfl
   . obtain ⟨hI,hA,Bl⟩:=hd
     have hn:nth vs i=some vs[i]:=aa2 hi;have hw:IntKind.i64.wrap ((i:Int)+1)=((i+1:Nat):Int):=aw (by omega);rw [acr hi] at hA;obtain ⟨q,hq,LK,q1,q6⟩:=hA.2 vs[i] List.mem_cons_self;have hv:=CA hI hq q1 (l:=d.2) (by omega);rw [LK] at hv;show Out.eval (qN _)=_;dsimp only [qN];simp only [abo,hw];refine zT ?_;refine zT ?_;refine zG ?_;refine zG ?_ hv;rfl
   . show Out.eval (qN _)=_
     dsimp only [qN];refine zF ?_;rfl
   . obtain ⟨hI,hA,Bl⟩:=hd
     rw [acr hi] at hA;have:=hA.tail hI;exact ⟨this.1,this.2,by show (rh _ _).length=_;rw [aY,aY];omega⟩
 . have hn:nth ps i=some ps[i]:=aa2 hi
   have hw:IntKind.i64.wrap ((i:Int)+1)=((i+1:Nat):Int):=aw (by omega);have Uk:acc.length+1≤bA:=by omega
   generalize ps[i]=p at hn;have hi0:(i:Int)<(ps.length:Int):=by omega
   by_cases hex:∃ o∈os,o.1=oT p
   . obtain ⟨o,ho,hk⟩:=hex
     obtain ⟨j,hj,QT,T8⟩:=bu h.ow ho;have GU:aF os p.2.2.2.2.2.2.2.1=(j:Int):=by rw [show p.2.2.2.2.2.2.2.1=al o from hk.symm];exact hj
     have GV:nth os j=some o:=T8;have VX:(j:Int)<(os.length:Int):=by have:j<os.length:=QT;omega
     have hj0:(j:Int)≥0:=by omega
     rw [HM h.ow ho hk];show Out.eval (mf _)=_;dsimp only [mf,cE,bE,cg];by_cases e4:p.2.2.1=4<;>by_cases e5:p.2.2.1=5<;>by_cases k3:o.2.1=3<;>by_cases k4:o.2.1=4<;>by_cases kt:o.2.2.1=pipe<;>
      simp [Out.eval,cond_eq_ite,hi0,hn,hw,GU,GV,VX,hj0,T9,e4,e5,k3,k4,kt,Uk]
   . rw [HN hex,aa3 (by decide)]
     have GU:aF os p.2.2.2.2.2.2.2.1= -1:=tO (key:=al) λo ho e=>hex ⟨o,ho,e⟩;show Out.eval (mf _)=_;dsimp only [mf];by_cases e4:p.2.2.1=4<;>by_cases e5:p.2.2.1=5<;>simp [Out.eval,cond_eq_ite,hi0,hn,hw,GU,e4,e5]
 . show Out.eval (mf _)=_
   dsimp only [mf];refine zF ?_;rfl
 . split
   . rw [abz];show acc.length+1≤i+1;omega
   . omega
end
end Go.Proofs.YtnlleofnjkeimaaGreatDoor.Dm
