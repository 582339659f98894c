/- f -/
import Derived.Test.YtnlleofnjkeimaaGreatDoorJ9
namespace Go.Proofs.YtnlleofnjkeimaaGreatDoor.Dm
open Go Go.ChangeShapes Go.WideShapes Go.ChangeAt Go.RowKit
section
variable {x tl:Int} {u u':UT} {p:af} {o:aj} {l l':List ET} {e:ET}
def kv (v:Int) (k:Nat) (u:UT):UT:=match dJ ao (bm u) v with
 |none=>u
 |some p=>match (aA p)[k]? with
  |none=>u
  |some id=>match dJ al (eP u) id with
   |none=>u
   |some o=>
    if bG o≠1 then bp (λos=>bW al os id (cG (bG o+ -1))) (di v (b9 ((aA p).set k (-1))) u)
    else if ¬ (bE o=3∨bE o=4) then bp (λos=>Ax os id) (di v (b9 ((aA p).set k (-1))) u)
    else if (Ax (eP u) id).any (eD (cg o))=true then ff (cg o) (bp (λos=>Ax os id) (di v (b9 ((aA p).set k (-1))) u))
    else gi (λpi=>Iy pi (cg o)) (bp (λos=>Ax os id) (di v (b9 ((aA p).set k (-1))) u))
theorem uK (h:aL x tl u) (hp:p∈bm u) {k:Nat} (ho:o∈eP u) (hk:(aA p)[k]? =some o.1):kv p.1 k u=
  if bG o≠1 then bp (λos=>bW al os o.1 (cG (bG o+ -1))) (di p.1 (b9 ((aA p).set k (-1))) u)
  else if ¬ (bE o=3∨bE o=4) then bp (λos=>Ax os o.1) (di p.1 (b9 ((aA p).set k (-1))) u)
  else if (Ax (eP u) o.1).any (eD (cg o))=true then ff (cg o) (bp (λos=>Ax os o.1) (di p.1 (b9 ((aA p).set k (-1))) u))
  else gi (λpi=>Iy pi (cg o)) (bp (λos=>Ax os o.1) (di p.1 (b9 ((aA p).set k (-1))) u)):=by
 unfold kv;rw [show dJ ao (bm u) p.1=some p from dv h.cF hp];simp only [hk];rw [show dJ al (eP u) o.1=some o from dv h.ow ho]
theorem A5 {t:Int} {e:aj}:eD t e=true↔(bE e=3∨bE e=4)∧cg e=t:=by
 unfold eD mq;simp only [acQ,aa4,acy];constructor
 . rintro (⟨a,b⟩|⟨a,b⟩)
   . exact ⟨.inl a,b⟩
   . exact ⟨.inr a,b⟩
 . rintro ⟨a|a,b⟩
   . exact .inl ⟨a,b⟩
   . exact .inr ⟨a,b⟩
theorem Cp (h:aL x tl u) (hp:p∈bm u) (h1:cE p=1) {k:Nat} (ho:o∈eP u) (hk:(aA p)[k]? =some o.1) (h0:bG o=1) (he:¬ (bE o=3∨bE o=4)∨(Ax (eP u) o.1).any (eD (cg o))=true):aL x tl (bp (λos=>Ax os o.1) (di p.1 (b9 ((aA p).set k (-1))) u)):=by
 refine Inv.shut h hp h1 hk ho h0 (List.Sublist.refl _) (λe _ _ _ y hy _=>hy) λy _ L4 hy=> ?_;rcases he with he|he
 . exact absurd L4 he
 . obtain ⟨e,hm,hq⟩:=List.any_eq_true.1 he
   have:=A5.1 hq;exact ⟨e,(ny.1 hm).1,(ny.1 hm).2,this.1,this.2.trans hy.symm⟩
theorem Cq (h:aL x tl u) (hp:p∈bm u) (h1:cE p=1) {k:Nat} (ho:o∈eP u) (hk:(aA p)[k]? =some o.1):aL x tl (kv p.1 k u):=by
 rw [uK h hp ho hk];split
 . rename_i h0
   exact Inv.T6 h hp h1 hk ho (.inl ⟨rfl,rfl,h0⟩) rfl
 . rename_i h0
   have h0:bG o=1:=by omega
   split
   . rename_i he;exact Cp h hp h1 ho hk h0 (.inl he)
   . split
     . rename_i he;exact kZ (Cp h hp h1 ho hk h0 (.inr he)) _
     . rename_i L4 he
       have L5:∀ e∈eP u,e.1≠o.1→¬ ((bE e=3∨bE e=4)∧cg e=cg o):=λe hm dV hq=>he (List.any_eq_true.2 ⟨e,ny.2 ⟨hm,dV⟩,A5.2 hq⟩);refine Inv.shut h hp h1 hk ho h0 (pi':=Iy (oG u) (cg o)) List.filter_sublist (λe hm dV L4 y hy hyt=>xe.2 ⟨hy,λe2=>L5 e hm dV ⟨L4,hyt.symm.trans e2⟩⟩) λy hy _ hyt=>absurd hyt (xe.1 hy).2
theorem wj:∀ {vs:List Int} {u:UT} {q:af},aL x tl u→la vs u→q∈bm u→q.1 ∉ vs→q∈bm (gB vs u)
 |[],_,_,_,_,hq,_=>hq
 |v::vs,u,q,h,ha,hq,hn=>by
  obtain ⟨p,hp,rfl,_⟩:=ha.2 v (by simp);have:=ha.tail h;exact wj (vs:=vs) this.1 this.2 (A6 h hp hq λe=>hn (by simp [e])) λe=>hn (by simp [e])
theorem jw (h:aL x tl u) {q:af} (hq:q∈bm u) (h1:¬ (cE q=4∨cE q=5)) (pipe:Int):q∈bm (ff pipe u):=by
 refine wj h (lb h pipe) hq λhm=> ?_;obtain ⟨p,hp,e⟩:=List.mem_map.1 hm;have Cr:=List.mem_filter.1 hp;obtain rfl:=h.cF.inj Cr.1 hq e;exact h1 (EC Cr.2)
theorem uL (h:aL x tl u) (hp:p∈bm u) (h1:cE p=1) {k:Nat} (ho:o∈eP u) (hk:(aA p)[k]? =some o.1):b9 ((aA p).set k (-1)) p∈bm (kv p.1 k u):=by
 have hm:b9 ((aA p).set k (-1)) p∈bM (bm u) p.1 (b9 ((aA p).set k (-1))):=(aW h.cF hp).2 (.inl rfl);rw [uK h hp ho hk];split
 . exact hm
 . rename_i h0
   split
   . exact hm
   . split
     . rename_i he
       exact jw (Cp h hp h1 ho hk (by omega) (.inr he)) hm (by show ¬ (cE p=4∨cE p=5);omega) _
     . exact hm
theorem VV {α:Type} {key:α→Int} {v:Int} {f:α→α} (hf:∀ x,key (f x)=key x) (a:List α):(bW key a v f).filter (λx=>key x != v)=a.filter λx=>key x != v:=by
 unfold bW
 induction a with
 |nil=>rfl
 |cons y r ih=>
  rw [acd,acS,acS,ih];by_cases q:key y=v
  . rw [aa5 q]
    have e1:(key (f y) != v)=false:=by rw [hf];simp [q]
    have e2:(key y != v)=false:=by simp [q]
    rw [e1,e2];simp
  . rw [aa3 q]
theorem VW {ps:List af} (h:∀ p∈ps,(aA p).length=4) (id:Int):mr ps id≤4*ps.length:=by
 induction ps with
 |nil=>simp [mr]
 |cons p r ih=>
  have h1:=h p (by simp);have h2:=ih λq hq=>h q (by simp [hq]);have h3:(aA p).count id≤(aA p).length:=List.count_le_length;rw [mI,aby];omega
theorem Cs (h:aL x tl u) (ho:o∈eP u):1≤bG o∧bG o≤24:=by
 have h1:=h.op o ho;have h2:=VW (ps:=bm u) (λp hp=>(h.loc p hp).fds) o.1;have h3:(bm u).length≤6:=h.np;have h4:=h1.refs;have h5:0<mr (bm u) o.1:=h4.2;have h6:bG o=((mr (bm u) o.1:Nat):Int):=h4.1;omega
theorem oc (h:aL x tl u):(eP u).length≤8:=kS 7 h.ow λo ho=>(h.op o ho).id
theorem wq (h:aL x tl u):(oG u).length≤3:=kS 2 h.wu λy hy=>(h.rf y hy).id
theorem xU (h:aL x tl u):(od u).length≤6:=kS 5 h.xV λy hy=>by have:=h.Er y hy;unfold eF at this;rw [aa4,fh] at this;exact this.1
theorem Iz (h:aL x tl u) (hp:p∈bm u) (h1:cE p=1) {k:Nat} (ho:o∈eP u) (hk:(aA p)[k]? =some o.1) (hl:l.length≤99800):∃ l',uM (gz u l,(p.1,()),((k:Int),()),())=some ((gz (kv p.1 k u) l',()),((),(),(),()))∧l'.length≤l.length+15:=by
 rw [uK h hp ho hk];obtain ⟨nx,tk,pg,ps,os,pi,fi,rd,ou,_⟩:=u;have QS:bO al os:=h.ow;have hos:os.length≤8:=oc h;have Qx:=Cs h ho;have hB:aM=9223372036854775807:=rfl;obtain ⟨i,hi,bS,hn⟩:=bu h.cF hp;have cQ:ak ps p.1=(i:Int):=hi;have nv:nth ps i=some p:=hn;have hs:ps.set i (p.1,(p.2.1,(p.2.2.1,(p.2.2.2.1,(p.2.2.2.2.1,(p.2.2.2.2.2.1,(p.2.2.2.2.2.2.1,p.2.2.2.2.2.2.2)))))))=ps:=iJ hn;have kH:nth p.2.2.2.2.2.2.1 k=some o.1:=hk;have ox:i<ps.length:=bS;have hkl:k<p.2.2.2.2.2.2.1.length:=(List.getElem?_eq_some_iff.1 hk).1;have Ct:(k:Int).toNat=k:=abo k;have A7:dw ((nx,tk,pg,ps,os,pi,fi,rd,ou,()),(9,p.1,(k:Int), -1,[],()),())=j2 (di p.1 (b9 ((aA p).set k (-1))) (nx,tk,pg,ps,os,pi,fi,rd,ou,())):=by
  have:=ED (nx:=nx) (tk:=tk) (pg:=pg) (os:=os) (pi:=pi) (fi:=fi) (rd:=rd) (ou:=ou) (b:=(k:Int)) (c:= -1) (l:=[]) h.cF hp ⟨by omega,by show (k:Int)<((p.2.2.2.2.2.2.1.length:Nat):Int);omega⟩;rw [Ct] at this;exact this
 have rC:bO al (bW al os o.1 (cG (bG o+ -1))):=dB h.ow λ_ _ _=>rfl;have T7:cG (bG o+ -1) o∈bW al os o.1 (cG (bG o+ -1)):=(gj h.ow ho).2 (.inl rfl);obtain ⟨j,hj,agI,T8⟩:=bu rC T7;have GU:aF (bW al os o.1 (cG (bG o+ -1))) o.1=(j:Int):=hj;have GV:nth (bW al os o.1 (cG (bG o+ -1))) j=some (cG (bG o+ -1) o):=T8;rw [jf] at agI;have acL:uM (gz (nx,tk,pg,ps,os,pi,fi,rd,ou,()) l,(p.1,()),((k:Int),()),())=(Out.ite ((bG o+ -1) != 0) (.ret ((gz (bp (λos=>bW al os o.1 (cG (bG o+ -1))) (di p.1 (b9 ((aA p).set k (-1))) (nx,tk,pg,ps,os,pi,fi,rd,ou,()))) (l++[eE 9 p.1 k (-1)]++[eE 11 o.1 (-1) 0]),()),((),(),(),())))
   (.get (br (gz (bp (λos=>bW al os o.1 (cG (bG o+ -1))) (di p.1 (b9 ((aA p).set k (-1))) (nx,tk,pg,ps,os,pi,fi,rd,ou,()))) (l++[eE 9 p.1 k (-1)]++[eE 11 o.1 (-1) 0]),eE 12 o.1 0 0,())) λ((uN,_),_)=>
    .ite (!(bE o==3||bE o==4)) (.ret ((uN,()),((),(),(),())))
     (.ite (((IntKind.i64.wrap ((gZ uN.2.2.2.2.1 (cg o) (3:Int))+(gZ uN.2.2.2.2.1 (cg o) (4:Int))))==0))
      (.get (br (uN,eE 17 (cg o) 0 0,())) λ((nz,_),_)=> .ret ((nz,()),((),(),(),())))
      (.get (xW (uN,(cg o,()),())) λ((nA,_),_)=> .ret ((nA,()),((),(),(),())))))).eval:=by
  show Out.eval (Cu _)=_;dsimp only [Cu];rw [cQ];simp only [abo];refine zT ?_;refine zG ?_ nv;refine zT ?_;refine zG ?_ kH;rw [hs];refine zG ?_ rfl;refine (aa (eG A7 (by omega))).trans ?_;refine zG ?_ rfl;refine (aa (eG (uO QS ho (by omega) (by omega)) (by rw [aY];omega))).trans ?_;dsimp only [gz,di,fE,bp];rw [GU];simp only [abo];refine zT ?_ (aaE (by rw [jf];omega));refine zG ?_ GV;show Out.eval (Out.ite ((bG o+ -1) != 0) _ _)=_;cases hz:((bG o+ -1) != 0)
  . refine (ae rfl).trans (Eq.trans ?_ (ae rfl).symm)
    refine zG ?_ rfl;have hd:=eG (u:=bp (λos=>bW al os o.1 (cG (bG o+ -1))) (di p.1 (b9 ((aA p).set k (-1))) (nx,tk,pg,ps,os,pi,fi,rd,ou,()))) (l:=l++[eE 9 p.1 k (-1)]++[eE 11 o.1 (-1) 0]) (IA (b:=0) (c:=0) (l:=[]) rC T7 (by rw [jf];exact abG hos (by omega))) (by rw [aY,aY];omega);refine (aa hd).trans (Eq.trans ?_ (aa hd).symm);refine zG ?_ (T9 _);show Out.eval (Out.ite (!(bE o==3||bE o==4)) _ _)=_;cases (!(bE o==3||bE o==4))
    . refine (ae rfl).trans (Eq.trans ?_ (ae rfl).symm)
      show Out.eval (Out.ite _ _ _)=Out.eval (Out.ite _ _ _);rw [eval_ite,eval_ite];rfl
    . rfl
  . rfl
 rw [acL];by_cases h0:bG o≠1
 . rw [aa5 h0]
   refine ⟨_,(ab (A8 (by omega))).trans rfl,by rw [aY,aY];omega⟩
 . rw [aa3 h0]
   have h0:bG o=1:=by omega
   have hd0:=eG (u:=bp (λos=>bW al os o.1 (cG (bG o+ -1))) (di p.1 (b9 ((aA p).set k (-1))) (nx,tk,pg,ps,os,pi,fi,rd,ou,()))) (l:=l++[eE 9 p.1 k (-1)]++[eE 11 o.1 (-1) 0]) (IA (b:=0) (c:=0) (l:=[]) rC T7 (by rw [jf];exact abG hos (by omega))) (by rw [aY,aY];omega);have hrm:Ax (bW al os o.1 (cG (bG o+ -1))) o.1=Ax os o.1:=VV (key:=al) (v:=o.1) (f:=cG (bG o+ -1)) (λ_=>rfl) os;have hd:=hd0.trans (congrArg (λz=>some ((gz (nx,tk,pg,bM ps p.1 (b9 ((aA p).set k (-1))),z,pi,fi,rd,ou,()) (l++[eE 9 p.1 k (-1)]++[eE 11 o.1 (-1) 0]++[eE 12 o.1 0 0]),()),((),(),()))) hrm);by_cases L4:¬ (bE o=3∨bE o=4)
   . rw [aa5 L4]
     refine ⟨_,((ae (oK (by omega))).trans (aa hd)).trans ((ab ?_).trans rfl),by rw [aY,aY,aY];omega⟩;have e1:(bE o==3)=false:=dN λe=>L4 (.inl e);have e2:(bE o==4)=false:=dN λe=>L4 (.inr e);rw [e1,e2];rfl
   . rw [aa3 L4]
     have L4:bE o=3∨bE o=4:=by omega
     have oz:(!(bE o==3||bE o==4))=false:=by rcases L4 with e|e<;>rw [e]<;>rfl
     have agJ:(Ax os o.1).length≤aM:=abG (adA _ _) (by omega);have A9:=xX agJ (cg o);by_cases he:(Ax os o.1).any (eD (cg o))=true
     . rw [aa5 he]
       rw [he] at A9;have hI:aL x tl (bp (λos=>Ax os o.1) (di p.1 (b9 ((aA p).set k (-1))) (nx,tk,pg,ps,os,pi,fi,rd,ou,()))):=Cp h hp h1 ho hk h0 (.inr he);obtain ⟨l',hw,hlw⟩:=rD hI (cg o) (l:=l++[eE 9 p.1 k (-1)]++[eE 11 o.1 (-1) 0]++[eE 12 o.1 0 0]) (by rw [aY,aY,aY];omega);refine ⟨l',((ae (oK (by omega))).trans (aa hd)).trans ((ae oz).trans ((ae A9).trans ((aa hw).trans rfl))),by rw [aY,aY,aY] at hlw;omega⟩
     . rw [aa3 he]
       rw [Bool.eq_false_iff.2 he] at A9;obtain ⟨y,hy,hyt⟩:∃ y∈pi,y.1=cg o:=by
        rcases (h.op o ho).kind with ⟨e,_⟩|⟨e,_⟩|⟨_,hq,_⟩
        . omega
        . omega
        . exact hq
       have Ua:=Ko (nx:=nx) (tk:=tk) (pg:=pg) (ps:=bM ps p.1 (b9 ((aA p).set k (-1)))) (os:=Ax os o.1) (fi:=fi) (rd:=rd) (ou:=ou) (b:=0) (c:=0) (l:=[]) h.wu hy (abG (wq h) (by omega));rw [hyt] at Ua;have hd2:=eG (u:=bp (λos=>Ax os o.1) (di p.1 (b9 ((aA p).set k (-1))) (nx,tk,pg,ps,os,pi,fi,rd,ou,()))) (l:=l++[eE 9 p.1 k (-1)]++[eE 11 o.1 (-1) 0]++[eE 12 o.1 0 0]) Ua (by rw [aY,aY,aY];omega);refine ⟨_,((ae (oK (by omega))).trans (aa hd)).trans ((ae oz).trans ((ab A9).trans ((aa hd2).trans rfl))),by rw [aY,aY,aY,aY];omega⟩
end
section
variable {x tl:Int} {u u':UT} {p:af} {o:aj} {l l':List ET} {e:ET}
theorem xY {σ β:Type} {f:σ→Out (Round σ β Empty)} (n:Nat) (R:Nat→σ→Prop) {Q:β→Prop} (hs:∀ i,i<n→∀ s,R i s→∃ s',(f s).eval=some (.again s')∧R (i+1) s') (hy:∀ s,R n s→∃ y,(f s).eval=some (.out y)∧Q y) (hn:n≤aM) {s:σ} (h0:R 0 s):∃ y,bx f bc s=some y∧Q y:=by
 have key:∀ (m i k:Nat) (s:σ),i+m=n→m<k→R i s→∃ y,bx f k s=some y∧Q y:=by
  intro m
  induction m with
  |zero=>
   intro i k s hi hk hr;obtain rfl:i=n:=by omega
   obtain ⟨y,h1,h2⟩:=hy s hr;exact ⟨y,rE h1 hk,h2⟩
  |succ m ih=>
   intro i k s hi hk hr;obtain ⟨s',h1,h2⟩:=hs i (by omega) s hr;obtain ⟨k,rfl⟩:∃ k',k=k'+1:=⟨k - 1,by omega⟩
   rw [wv h1];exact ih (i+1) k s' (by omega) (by omega) h2
 exact key n 0 bc s (by omega) (jx hn) h0
def acM (v:Int) (k:Nat) (u:UT):Option Int:=(dJ ao (bm u) v).bind λp=>(aA p)[k]?
def j3 (v:Int) (u:UT) (k:Nat):UT:=match acM v k u with|none=>u|some f=>if f= -1 then u else kv v k u
def cc (v:Int) (k:Nat) (u:UT):UT:=(List.range k).foldl (j3 v) u
def oL (v:Int) (u:UT) (q:af):UT:=if gV q=v then (if cE q=6 then fE (λps=>so ps q.1) u else di q.1 (GW 0) u) else u
def fS (v:Int) (kids:List af) (u:UT):UT:=kids.foldl (oL v) u
def Cv (v code:Int) (u:UT):UT:=match dJ ao (bm u) v with
 |none=>u
 |some p=>
  if gV p=0 then fE (λps=>so ps v) (dL (·.erase v) u)
  else match dJ ao (bm (di v (λp=>fM code (lU 6 0 p)) (dL (·.erase v) u))) (gV p) with
   |none=>di v (λp=>fM code (lU 6 0 p)) (dL (·.erase v) u)
   |some q=>if cE q=3 then iD q.1 (di v (λp=>fM code (lU 6 0 p)) (dL (·.erase v) u)) else di v (λp=>fM code (lU 6 0 p)) (dL (·.erase v) u)
def ld (v:Int) (u:UT):UT:=di v (kg []) u
def iK (v code:Int) (u:UT):UT:=Cv v code (fS v (bm (ld v (cc v 4 u))) (ld v (cc v 4 u)))
def oe (v code:Int) (u:UT):UT:=match dJ ao (bm u) v with
 |none=>u
 |some p=>if cE p=1 then iK v code u else iK v code (iD v u)
abbrev z2:Int×Int×Unit:=(0,0,())
abbrev em8:=(([]:List (List az)),([]:List af),([]:List aj),([]:List ag),([]:List ag),([]:List Int),([]:List Int),([]:List ET),())
abbrev dK (u:UT) (l:List ET):=(u.2.2.1,u.2.2.2.1,u.2.2.2.2.1,u.2.2.2.2.2.1,u.2.2.2.2.2.2.1,u.2.2.2.2.2.2.2.1,u.2.2.2.2.2.2.2.2.1,l,em8)
def Kp (v par:Int) (k:Nat) (u:UT):Prop:=∃ q∈bm u,q.1=v∧cE q=1∧gV q=par∧∀ j,j<k→(aA q)[j]? =some (-1)
theorem sr (v:Int) (k:Nat) (u:UT):cc v (k+1) u=j3 v (cc v k u) k:=by
 unfold cc;rw [List.range_succ,List.foldl_append];rfl
theorem xZ (h:aL x tl u) (hp:p∈bm u) (k:Nat) (hk:k<4):∃ f,(aA p)[k]? =some f∧j3 p.1 u k=if f= -1 then u else kv p.1 k u:=by
 have h4:=(h.loc p hp).fds;refine ⟨(aA p)[k]'(by omega),aa2 _, ?_⟩;unfold j3 acM;rw [show dJ ao (bm u) p.1=some p from dv h.cF hp];simp only [acf,aa2 (show k<(aA p).length by omega)]
theorem Kq {v par:Int} {k:Nat} (h:aL x tl u) (hs:Kp v par k u) (hk:k<4):aL x tl (j3 v u k)∧Kp v par (k+1) (j3 v u k):=by
 obtain ⟨q,hq,rfl,h1,h2,h3⟩:=hs;obtain ⟨f,hf,he⟩:=xZ h hq k hk;rw [he];have h4:=(h.loc q hq).fds;by_cases e:f= -1
 . rw [aa5 e]
   refine ⟨h,q,hq,rfl,h1,h2,λj hj=> ?_⟩;by_cases e2:j=k
   . rw [e2,hf,e]
   . exact h3 j (by omega)
 . rw [aa3 e]
   obtain ⟨o,ho,rfl⟩:=((h.ctx q hq).fds f (acx hf)).resolve_left e;refine ⟨Cq h hq h1 ho hf,_,uL h hq h1 ho hf,rfl,h1,h2,λj hj=> ?_⟩;show ((aA q).set k (-1))[j]? =_;rw [List.getElem?_set];by_cases e2:k=j
   . rw [aa5 e2,aa5 (by omega)]
   . rw [aa3 e2];exact h3 j (by omega)
theorem uP {v par:Int}:∀ {k:Nat},k≤4→aL x tl u→Kp v par 0 u→aL x tl (cc v k u)∧Kp v par k (cc v k u)
 |0,_,h,hs=>⟨h,hs⟩
 |k+1,hk,h,hs=>by
  have:=uP (k:=k) (by omega) h hs;rw [sr];exact Kq this.1 this.2 (by omega)
theorem GX {v par code:Int} (h:aL x tl u) (hs:Kp v par 0 u) (hl:l.length≤99000):∃ l',bx pS bc ((v,code,0,()),((u.1,u.2.1,()),z2,dK u l))=some ((v,code,()),(((cc v 4 u).1,(cc v 4 u).2.1,()),z2,dK (cc v 4 u) l'))∧l'.length≤l.length+60:=by
 have x3:=xY (f:=pS) 4 (λi s=>∃ l',s=((v,code,(i:Int),()),(((cc v i u).1,(cc v i u).2.1,()),z2,dK (cc v i u) l'))∧l'.length≤l.length+15*i)
  (Q:=λy=>∃ l',y=((v,code,()),(((cc v 4 u).1,(cc v 4 u).2.1,()),z2,dK (cc v 4 u) l'))∧l'.length≤l.length+60) (λi hi s L6=> ?_) (λs L6=> ?_) (by decide) (s:=((v,code,0,()),((u.1,u.2.1,()),z2,dK u l))) ⟨l,rfl,by omega⟩
 . obtain ⟨y,h1,l',rfl,h2⟩:=x3
   exact ⟨l',h1,h2⟩
 . obtain ⟨l1,rfl,GY⟩:=L6
   obtain ⟨hI,q,hq,rfl,q1,q2,q3⟩:=uP (k:=i) (by omega) h hs;rw [sr];generalize cc q.1 i u=w at hI hq;obtain ⟨f,hf,he⟩:=xZ hI hq i hi;rw [he];obtain ⟨nx,tk,pg,ps,os,pi,fi,rd,ou,_⟩:=w;obtain ⟨j,hj,QT,T8⟩:=bu hI.cF hq;have GU:ak ps q.1=(j:Int):=hj;have GV:nth ps j=some q:=T8;have VX:j<ps.length:=QT;have Kr:ps.set j (q.1,(q.2.1,(q.2.2.1,(q.2.2.2.1,(q.2.2.2.2.1,(q.2.2.2.2.2.1,(q.2.2.2.2.2.2.1,q.2.2.2.2.2.2.2)))))))=ps:=iJ T8;have h4:q.2.2.2.2.2.2.1.length=4:=(hI.loc q hq).fds;have AE:nth q.2.2.2.2.2.2.1 i=some f:=hf;have hw:IntKind.i64.wrap ((i:Int)+1)=((i+1:Nat):Int):=aw (by have hB:aM=9223372036854775807:=rfl;omega);have x4:∀ z:Option (Round Cw _ Empty),(if f= -1 then some (Round.again ((q.1,code,((i+1:Nat):Int),()),((nx,tk,()),z2,dK (nx,tk,pg,ps,os,pi,fi,rd,ou,()) l1))) else (Out.get (uM (gz (nx,tk,pg,ps,os,pi,fi,rd,ou,()) l1,(q.1,()),((i:Int),()),())) λ((dT,_),_)=>
     .ret (.again ((q.1,code,((i+1:Nat):Int),()),((dT.1,dT.2.1,()),z2,dT.2.2.1,dT.2.2.2.1,dT.2.2.2.2.1,dT.2.2.2.2.2.1,dT.2.2.2.2.2.2.1,dT.2.2.2.2.2.2.2.1,dT.2.2.2.2.2.2.2.2.1,dT.2.2.2.2.2.2.2.2.2.1,em8)))).eval)=z→
     (pS ((q.1,code,(i:Int),()),((nx,tk,()),z2,dK (nx,tk,pg,ps,os,pi,fi,rd,ou,()) l1))).eval=z:=λz hz=>by
    rw [← hz];dsimp only [pS,dK];rw [GU,hw];simp only [abo];refine zT ?_;refine zT ?_;refine zG ?_ GV;refine zT ?_;refine zG ?_ AE;rw [Kr];by_cases e:f= -1
    . rw [aa5 e]
      exact zF rfl (oK e)
    . rw [aa3 e]
      exact zT rfl (A8 e)
   by_cases e:f= -1
   . rw [aa5 e]
     exact ⟨_,x4 _ (aa5 e),l1,rfl,by omega⟩
   . rw [aa3 e]
     obtain ⟨o,ho,rfl⟩:=((hI.ctx q hq).fds f (acx hf)).resolve_left e;obtain ⟨l2,hv,QU⟩:=Iz hI hq q1 ho hf (l:=l1) (by omega);exact ⟨_,x4 _ ((aa3 e).trans ((aa hv).trans rfl)),l2,rfl,by omega⟩
 . obtain ⟨l1,rfl,GY⟩:=L6
   refine ⟨_, ?_,l1,rfl,by omega⟩;dsimp only [pS,dK];exact zF rfl (by rfl)
end
section
variable {x tl:Int} {u u':UT} {p:af} {o:aj} {l l':List ET} {e:ET}
structure Kids (v:Int) (ks:List af) (p:af) (u:UT):Prop where
 here:∀ q∈ks,q∈bm u
 nd:(ks.map ao).Nodup
 me:p∈bm u∧p.1=v
 all:∀ q∈bm u,gV q=v→q∈ks
theorem L7 {v:Int} {q:af} {ks:List af} (h:aL v tl u) (hk:Kids v (q::ks) p u):aL v tl (oL v u q)∧Kids v ks p (oL v u q):=by
 have hq:=hk.here q (by simp);have hn:(ao q::ks.map ao).Nodup:=hk.nd;rw [acu] at hn;have dV:∀ r∈ks,r.1≠q.1:=λr hr e=>hn.1 (by rw [show ao q=ao r from e.symm];exact adN hr);have hpv:gV q=v→q.1≠v:=λe e2=>by
  rcases (h.ctx q hq).par with e0|⟨e0,_⟩
  . have:=(h.ctx q hq).pid.1;omega
  . exact e0 (e.trans e2.symm)
 unfold oL;split
 . rename_i hv
   have LK:=hpv hv;split
   . rename_i h6
     refine ⟨Inv.VY h hq h6,λr hr=>iv.2 ⟨hk.here r (by simp [hr]),dV r hr⟩,hn.2,⟨iv.2 ⟨hk.me.1,λe=>LK (e.symm.trans hk.me.2)⟩,hk.me.2⟩,λr hr VZ=> ?_⟩;obtain ⟨hr,hrq⟩:=iv.1 hr;rcases abF.1 (hk.all r hr VZ) with rfl|hm
     . exact absurd rfl hrq
     . exact hm
   . rename_i h6
     refine ⟨Inv.agL h hq h6,λr hr=>(aW h.cF hq).2 (.inr ⟨hk.here r (by simp [hr]),dV r hr⟩),hn.2,⟨(aW h.cF hq).2 (.inr ⟨hk.me.1,λe=>LK (e.symm.trans hk.me.2)⟩),hk.me.2⟩,λr hr VZ=> ?_⟩;rcases (aW h.cF hq).1 hr with rfl|⟨hr,hrq⟩
     . have:(0:Int)=v:=VZ
       have h1:=(h.ctx p hk.me.1).pid.1;have h2:=hk.me.2;omega
     . rcases abF.1 (hk.all r hr VZ) with rfl|hm
       . exact absurd rfl hrq
       . exact hm
 . rename_i hv
   refine ⟨h,λr hr=>hk.here r (by simp [hr]),hn.2,hk.me,λr hr VZ=> ?_⟩;rcases abF.1 (hk.all r hr VZ) with rfl|hm
   . exact absurd VZ hv
   . exact hm
theorem L8 {v:Int}:∀ {ks:List af} {u:UT},aL v tl u→Kids v ks p u→aL v tl (fS v ks u)∧Kids v [] p (fS v ks u)
 |[],_,h,hk=>⟨h,hk⟩
 |_::ks,_,h,hk=>L8 (ks:=ks) (L7 h hk).1 (L7 h hk).2
def mJ (z:af):Int×Int×Int×Int×(Int×Unit×Unit)×Unit×Unit×Int×Int×Unit:=(z.1,z.2.1,z.2.2.1,z.2.2.2.1,(z.2.2.2.2.1.1,(),()),(),(),z.2.2.2.2.2.2.2.1,z.2.2.2.2.2.2.2.2.1,())
theorem GZ {v code:Int} {ks:List af} (h:aL v tl u) (hk:Kids v ks p u) (hl:l.length≤99000) (hks:ks.length≤6):∃ l',bx kI bc ((v,code,0,()),((u.1,u.2.1,()),z2,ks.map mJ,dK u l))=some ((v,code,()),(((fS v ks u).1,(fS v ks u).2.1,()),z2,dK (fS v ks u) l'))∧l'.length≤l.length+6:=by
 have hB:aM=9223372036854775807:=rfl;have x3:=xY (f:=kI) ks.length (λi s=>∃ u1 l1,s=((v,code,(i:Int),()),((u1.1,u1.2.1,()),z2,ks.map mJ,dK u1 l1))∧l1.length≤l.length+i∧aL v tl u1∧Kids v (ks.drop i) p u1∧fS v (ks.drop i) u1=fS v ks u)
  (Q:=λy=>∃ l',y=((v,code,()),(((fS v ks u).1,(fS v ks u).2.1,()),z2,dK (fS v ks u) l'))∧l'.length≤l.length+6) (λi hi s L6=> ?_) (λs L6=> ?_) (by omega) (s:=((v,code,0,()),((u.1,u.2.1,()),z2,ks.map mJ,dK u l))) ⟨u,l,rfl,by omega,h,hk,rfl⟩
 . obtain ⟨y,h1,l',rfl,h2⟩:=x3
   exact ⟨l',h1,h2⟩
 . obtain ⟨u1,l1,rfl,GY,hI,hK,uQ⟩:=L6
   have hn:nth (ks.map mJ) i=some (mJ ks[i]):=by
    show (ks.map mJ)[i]? =_;rw [afj,aa2 hi];rfl
   have hw:IntKind.i64.wrap ((i:Int)+1)=((i+1:Nat):Int):=aw (by omega);have hlen:(ks.map mJ).length=ks.length:=acF ..;rw [acr hi] at hK uQ;have L9:=L7 hI hK;have IB:fS v (ks.drop (i+1)) (oL v u1 ks[i])=fS v ks u:=uQ;have hq:=hK.here ks[i] List.mem_cons_self;generalize ks[i]=q at hn L9 IB hq;have x4:∀ {u2:UT} {l2:List ET},oL v u1 q=u2→l2.length≤l.length+(i+1)→(kI ((v,code,(i:Int),()),((u1.1,u1.2.1,()),z2,ks.map mJ,dK u1 l1))).eval=some (.again ((v,code,((i+1:Nat):Int),()),((u2.1,u2.2.1,()),z2,ks.map mJ,dK u2 l2)))→∃ s',(kI ((v,code,(i:Int),()),((u1.1,u1.2.1,()),z2,ks.map mJ,dK u1 l1))).eval=some (.again s')∧∃ u1 l1,s'=((v,code,((i+1:Nat):Int),()),((u1.1,u1.2.1,()),z2,ks.map mJ,dK u1 l1))∧l1.length≤l.length+(i+1)∧aL v tl u1∧Kids v (ks.drop (i+1)) p u1∧fS v (ks.drop (i+1)) u1=fS v ks u:=λe1 e2 e3=>⟨_,e3,_,_,rfl,e2,e1 ▸ L9.1,e1 ▸ L9.2,e1 ▸ IB⟩
   have hc:decide (0≤(i:Int)∧(i:Int)<(((ks.map mJ).length:Nat):Int))=true:=aaE (by omega);by_cases hv:gV q=v
   . by_cases h6:cE q=6
     . have e:oL v u1 q=fE (λps=>so ps q.1) u1:=by unfold oL;rw [aa5 hv,aa5 h6]
       refine x4 e (l2:=l1++[eE 6 q.1 0 0]) (by rw [aY];omega) ?_;dsimp only [kI,dK];simp only [abo,hw];refine zT ?_;refine zT ?_ hc;refine zG ?_;refine zF ?_ (oK hv);refine zT ?_ hc;refine zG ?_;refine zT ?_ (cT h6);refine zT ?_ hc;refine zG ?_;refine zG ?_ rfl;refine (aa (eG (u:=u1) (Cy hI.cF hq hI.np) (by omega))).trans ?_;rfl
     . have e:oL v u1 q=di q.1 (GW 0) u1:=by unfold oL;rw [aa5 hv,aa3 h6]
       refine x4 e (l2:=l1++[eE 25 q.1 0 0]) (by rw [aY];omega) ?_;dsimp only [kI,dK];simp only [abo,hw];refine zT ?_;refine zT ?_ hc;refine zG ?_;refine zF ?_ (oK hv);refine zT ?_ hc;refine zG ?_;refine zF ?_ (dN h6);refine zT ?_ hc;refine zG ?_;refine zG ?_ rfl;refine (aa (eG (u:=u1) (Ks hI.cF hq) (by omega))).trans ?_;rfl
   . have e:oL v u1 q=u1:=by unfold oL;rw [aa3 hv]
     refine x4 e (l2:=l1) (by omega) ?_;dsimp only [kI,dK];simp only [abo,hw];refine zT ?_;refine zT ?_ hc;refine zG ?_;exact zT rfl (A8 hv)
 . obtain ⟨u1,l1,rfl,GY,hI,hK,uQ⟩:=L6
   have IB:u1=fS v ks u:=by rw [← uQ,List.drop_length];rfl
   refine ⟨_, ?_,l1,rfl,by omega⟩;have hlen:(ks.map mJ).length=ks.length:=acF ..;rw [← IB];dsimp only [kI,dK];exact zF rfl (aa1 (by omega))
theorem uR {α:Type} {key:α→Int} {v:Int} {f g:α→α} (hf:∀ x,key (f x)=key x) (a:List α):bW key (bW key a v f) v g=bW key a v λx=>g (f x):=by
 unfold bW;rw [List.map_map];apply ac7;intro y _;by_cases q:key y=v
 . simp [q,hf]
 . simp [q]
end
section
variable {x tl:Int} {u u':UT} {p:af} {o:aj} {l l':List ET} {e:ET}
theorem x5 (_:aL x tl u) (hp:p∈bm u) (h1:cE p=1):Kp p.1 (gV p) 0 u:=⟨p,hp,rfl,h1,rfl,λj hj=>by omega⟩
structure Ma (v par:Int) (q:af) (u:UT):Prop where
 inv:aL v tl u
 me:q∈bm u∧q.1=v
 st:cE q=1
 pr:gV q=par
 mem:cd q=[]
 fds:∀ f∈aA q,f= -1
 kid:∀ r∈bm u,gV r≠v
theorem agM {q:af} (h4:(aA q).length=4) (h:∀ j,j<4→(aA q)[j]? =some (-1)):∀ f∈aA q,f= -1:=λf hf=>by
 obtain ⟨j,hj,rfl⟩:=adf hf;have:=h j (by omega);rw [aa2 hj] at this;exact aa6 this
theorem rF (h:aL 0 tl u) (hp:p∈bm u) (h1:cE p=1):∃ q∈bm (cc p.1 4 u),q.1=p.1∧cE q=1∧gV q=gV p∧(∀ f∈aA q,f= -1)∧aL 0 tl (cc p.1 4 u)∧aL p.1 tl (ld p.1 (cc p.1 4 u))∧Kids p.1 (bm (ld p.1 (cc p.1 4 u))) (kg [] q) (ld p.1 (cc p.1 4 u)):=by
 obtain ⟨hI,q,hq,LK,q1,q2,q3⟩:=uP (k:=4) (abE 4) h (x5 h hp h1);refine ⟨q,hq,LK,q1,q2,agM (hI.loc q hq).fds q3,hI, ?_⟩;rw [← LK] at hI hq ⊢;have hD:aL q.1 tl (ld q.1 (cc q.1 4 u)):=Inv.drop hI hq q1;exact ⟨hD,λr hr=>hr,hD.cF.nodup,⟨(aW hI.cF hq).2 (.inl rfl),rfl⟩,λr hr _=>hr⟩
theorem IC (h:aL 0 tl u) (hp:p∈bm u) (h1:cE p=1):∃ q,Ma (tl:=tl) p.1 (gV p) q (fS p.1 (bm (ld p.1 (cc p.1 4 u))) (ld p.1 (cc p.1 4 u))):=by
 obtain ⟨q,_,LK,q1,q2,q3,_,hD,hK⟩:=rF h hp h1;have hk:=L8 hD hK;exact ⟨kg [] q,hk.1,hk.2.me,q1,q2,rfl,q3,λr hr e=>by cases hk.2.all r hr e⟩
theorem ID {v par code:Int} {q:af} (h:Ma (tl:=tl) v par q u):Cv v code u=if par=0 then fE (λps=>so ps v) (dL (·.erase v) u)
  else match dJ ao (bm (di v (λp=>fM code (lU 6 0 p)) (dL (·.erase v) u))) par with
   |none=>di v (λp=>fM code (lU 6 0 p)) (dL (·.erase v) u)
   |some q=>if cE q=3 then iD q.1 (di v (λp=>fM code (lU 6 0 p)) (dL (·.erase v) u)) else di v (λp=>fM code (lU 6 0 p)) (dL (·.erase v) u):=by
 unfold Cv;have e:=dv h.inv.cF h.me.1;rw [show ao q=v from h.me.2] at e;rw [show dJ ao (bm u) v=some q from e];simp only [h.pr]
 all_goals rfl
theorem Mb {v par code:Int} {q:af} (h:Ma (tl:=tl) v par q u) (h0:par≠0) (hc:bV code=true):aL 0 tl (di v (λp=>fM code (lU 6 0 p)) (dL (·.erase v) u))∧
  ∃ r∈bm (di v (λp=>fM code (lU 6 0 p)) (dL (·.erase v) u)),r.1=par∧cE r≠6:=by
 obtain ⟨hI,⟨hq,rfl⟩,h1,rfl,hm,hf,hn⟩:=h;refine ⟨Inv.V0 hI hq h1 hm hf h0 hn hc, ?_⟩;rcases (hI.ctx q hq).par with e|⟨e,r,hr,e1,e2⟩
 . exact absurd e h0
 . exact ⟨r,(aW hI.cF hq).2 (.inr ⟨hr,λk=>e (e1.symm.trans k)⟩),e1,e2⟩
theorem acN {v par code:Int} {q:af} (h:Ma (tl:=tl) v par q u) (hc:bV code=true):aL 0 tl (Cv v code u):=by
 rw [ID h];split
 . obtain ⟨hI,⟨hq,rfl⟩,h1,_,hm,hf,hn⟩:=h
   exact Inv.gone hI hq h1 hf hn
 . rename_i h0
   obtain ⟨hZ,r,hr,rfl,r6⟩:=Mb h h0 hc;have e:=dv hZ.cF hr;rw [show dJ ao (bm (di v (λp=>fM code (lU 6 0 p)) (dL (·.erase v) u))) r.1=some r from e];simp only;split
   . rename_i h3;exact x6 hZ hr r6 (by omega)
   . exact hZ
theorem x7 {code:Int} (h:aL 0 tl u) (hp:p∈bm u) (h1:cE p=1) (hc:bV code=true):aL 0 tl (iK p.1 code u):=by
 obtain ⟨q,hL⟩:=IC h hp h1;unfold iK;exact acN hL hc
theorem x8 {code:Int} (h:aL 0 tl u) (hp:p∈bm u) (h6:cE p≠6) (hc:bV code=true):aL 0 tl (oe p.1 code u):=by
 unfold oe;rw [show dJ ao (bm u) p.1=some p from dv h.cF hp];simp only;split
 . rename_i h1;exact x7 h hp h1 hc
 . rename_i h1
   have:=x7 (p:=lU 1 0 p) (code:=code) (x6 h hp h6 h1) ((aW h.cF hp).2 (.inl rfl)) rfl hc;rw [show (lU 1 0 p).1=p.1 from rfl] at this;exact this
theorem Kt (h:aL x tl u):(qU u).length≤1000:=abG (wx h) (by omega)
abbrev exJ (v code:Int) (u:UT) (l:List ET):=ss v code u.1 u.2.1 0 0 u.2.2.1 u.2.2.2.1 u.2.2.2.2.1 u.2.2.2.2.2.1 u.2.2.2.2.2.2.1 u.2.2.2.2.2.2.2.1 u.2.2.2.2.2.2.2.2.1 l [] [] [] [] [] [] [] []
def exT (v code:Int) (w:WT):Out ((WT×Unit)×(Unit×XI)):= .get (br (w,eE 22 v 0 0,())) λ((lf,_),_)=> .ite (decide (0≤(ak lf.2.2.2.1 v)∧(ak lf.2.2.2.1 v)<((List.length lf.2.2.2.1:Nat):Int))) (.get (nth lf.2.2.2.1 (Int.toNat (ak lf.2.2.2.1 v))) λy9=> .ite ((y9.2.1==0)) (.get (br (lf,eE 6 v 0 0,())) λ((uS,_),_)=> .ret ((uS,()),((),(),(),()))) (.get (br (lf,eE 3 v 6 0,())) λ((nA,_),_)=> .get (br (nA,eE 26 v code 0,())) λ((lh,_),_)=> .ite (decide (0≤(ak lh.2.2.2.1 y9.2.1)∧(ak lh.2.2.2.1 y9.2.1)<((List.length lh.2.2.2.1:Nat):Int))) (.get (nth lh.2.2.2.1 (Int.toNat (ak lh.2.2.2.1 y9.2.1))) λQV=> .ite ((QV.2.2.1==3)) (.get (oM (lh,(y9.2.1,()),())) λ((rG,_),_)=> .ret ((rG,()),((),(),(),()))) (.ret ((lh,()),((),(),(),())))) .fail)) .fail
theorem acO {v par code:Int} {q:af} (h:Ma (tl:=tl) v par q u) (hc:bV code=true) (hl:l.length≤99000):∃ l',(exT v code (gz u l)).eval=some ((gz (Cv v code u) l',()),((),(),(),()))∧l'.length≤l.length+5:=by
 rw [ID h];have h':=h;obtain ⟨hI,⟨hq,rfl⟩,w1,rfl,wm,wf,wk⟩:=h;obtain ⟨nx,tk,pg,ps,os,pi,fi,rd,ou,_⟩:=u;have Ub:=eG (l:=l) (xf (nx:=nx) (tk:=tk) (pg:=pg) (ps:=ps) (os:=os) (pi:=pi) (fi:=fi) (ou:=ou) (b:=0) (c:=0) (l:=[]) (hI.ready hq w1) (Kt hI)) (by omega);obtain ⟨i,hi,Cz,jN⟩:=bu hI.cF hq;have cQ:ak ps q.1=(i:Int):=hi;have qV:nth ps i=some q:=jN;have V1:i<ps.length:=Cz;by_cases h0:gV q=0
 . rw [aa5 h0]
   have acP:=eG (l:=l++[eE 22 q.1 0 0]) (Cy (nx:=nx) (tk:=tk) (pg:=pg) (os:=os) (pi:=pi) (fi:=fi) (rd:=rd.erase q.1) (ou:=ou) (b:=0) (c:=0) (l:=[]) hI.cF hq hI.np) (by rw [aY];omega);refine ⟨l++[eE 22 q.1 0 0]++[eE 6 q.1 0 0], ?_,by rw [aY,aY];omega⟩;unfold exT;refine zG ?_ Ub;dsimp only;rw [cQ];simp only [abo];refine zT ?_;refine zG ?_ qV;refine zT ?_ (cT h0);exact zG rfl acP
 . rw [aa3 h0]
   obtain ⟨hZ,r,hr,V2,r6⟩:=Mb h' h0 hc;have pU:=eG (l:=l++[eE 22 q.1 0 0]) (x9 (nx:=nx) (tk:=tk) (pg:=pg) (os:=os) (pi:=pi) (fi:=fi) (rd:=rd.erase q.1) (ou:=ou) (b:=6) (c:=0) (l:=[]) hI.cF hq) (by rw [aY];omega);have qW:bO ao (bM ps q.1 (lU 6 0)):=dB hI.cF λ_ _ _=>rfl;have T7:lU 6 0 q∈bM ps q.1 (lU 6 0):=(aW hI.cF hq).2 (.inl rfl);have agO:=eG (l:=l++[eE 22 q.1 0 0]++[eE 3 q.1 6 0]) (QW (nx:=nx) (tk:=tk) (pg:=pg) (os:=os) (pi:=pi) (fi:=fi) (rd:=rd.erase q.1) (ou:=ou) (b:=code) (c:=0) (l:=[]) qW T7) (by rw [aY,aY];omega);have huu:bM (bM ps q.1 (lU 6 0)) q.1 (fM code)=bM ps q.1 (λp=>fM code (lU 6 0 p)):=uR (key:=ao) (f:=lU 6 0) (g:=fM code) (λ_=>rfl) _;have hco:=agO.trans (congrArg (λz=>some ((gz (nx,tk,pg,z,os,pi,fi,rd.erase q.1,ou,()) (l++[eE 22 q.1 0 0]++[eE 3 q.1 6 0]++[eE 26 q.1 code 0]),()),((),(),()))) huu);obtain ⟨j,hj,QT,T8⟩:=bu hZ.cF hr;have GU:ak (bM ps q.1 (λp=>fM code (lU 6 0 p))) q.2.1=(j:Int):=by rw [show q.2.1=r.1 from V2.symm];exact hj
   have GV:nth (bM ps q.1 (λp=>fM code (lU 6 0 p))) j=some r:=T8;have VX:j<(bM ps q.1 (λp=>fM code (lU 6 0 p))).length:=QT;have hlk:dJ ao (bM ps q.1 (λp=>fM code (lU 6 0 p))) (gV q)=some r:=by rw [← V2];exact dv hZ.cF hr
   rw [show dJ ao (bm (di q.1 (λp=>fM code (lU 6 0 p)) (dL (·.erase q.1) (nx,tk,pg,ps,os,pi,fi,rd,ou,())))) (gV q)=some r from hlk];simp only;have V3:∀ z,(Out.ite ((cE r==3)) (.get (oM (gz (nx,tk,pg,bM ps q.1 (λp=>fM code (lU 6 0 p)),os,pi,fi,rd.erase q.1,ou,()) (l++[eE 22 q.1 0 0]++[eE 3 q.1 6 0]++[eE 26 q.1 code 0]),(q.2.1,()),())) λ((rG,_),_)=> .ret ((rG,()),((),(),(),()))) (.ret ((gz (nx,tk,pg,bM ps q.1 (λp=>fM code (lU 6 0 p)),os,pi,fi,rd.erase q.1,ou,()) (l++[eE 22 q.1 0 0]++[eE 3 q.1 6 0]++[eE 26 q.1 code 0]),()),((),(),(),())))).eval=z→(exT q.1 code (gz (nx,tk,pg,ps,os,pi,fi,rd,ou,()) l)).eval=z:=λz hz=>by
    rw [← hz];unfold exT;refine zG ?_ Ub;dsimp only;rw [cQ];simp only [abo];refine zT ?_;refine zG ?_ qV;refine zF ?_ (dN h0);refine zG ?_ pU;refine zG ?_ hco;dsimp only;rw [GU];simp only [abo];refine zT ?_;exact zG rfl GV
   by_cases h3:cE r=3
   . rw [aa5 h3]
     have hw:=CA (u:=(nx,tk,pg,bM ps q.1 (λp=>fM code (lU 6 0 p)),os,pi,fi,rd.erase q.1,ou,())) hZ hr (by omega) (l:=l++[eE 22 q.1 0 0]++[eE 3 q.1 6 0]++[eE 26 q.1 code 0]) (by rw [aY,aY,aY];omega);rw [show r.1=q.2.1 from V2] at hw ⊢;exact ⟨_,V3 _ ((ab (cT h3)).trans ((aa hw).trans rfl)),by rw [aY,aY,aY,aY,aY];omega⟩
   . rw [aa3 h3]
     exact ⟨_,V3 _ ((ae (dN h3)).trans rfl),by rw [aY,aY,aY];omega⟩
theorem V4 (h:bO ao (bm u)) (hp:p∈bm u) (hl:l.length≤99990):br (gz u l,eE 5 p.1 0 0,())=some ((gz (ld p.1 u) (l++[eE 5 p.1 0 0]),()),((),(),())):=by
 obtain ⟨nx,tk,pg,ps,os,pi,fi,rd,ou,_⟩:=u;exact eG (QX h hp) (by omega)
theorem ya {code:Int} (h:aL 0 tl u) (hp:p∈bm u) (h1:cE p=1) (hc:bV code=true) (hl:l.length≤98000):∃ l',(exJ p.1 code u l).eval=some ((gz (iK p.1 code u) l',()),((),(),(),()))∧l'.length≤l.length+80:=by
 have hL:bA=68719476736:=rfl;obtain ⟨l1,e1,GY⟩:=GX (code:=code) h (x5 h hp h1) (l:=l) (by omega);obtain ⟨q,hq,LK,q1,q2,q3,hI,hD,hK⟩:=rF h hp h1;have G0:(bm (ld p.1 (cc p.1 4 u))).length≤6:=hD.np;have Uc:=V4 hI.cF hq (l:=l1) (by omega);rw [LK] at Uc;obtain ⟨l2,e2,QU⟩:=GZ (code:=code) hD hK (l:=l1++[eE 5 p.1 0 0]) (by rw [aY];omega) G0;obtain ⟨q',acR⟩:=IC h hp h1;rw [aY] at QU;obtain ⟨l3,e3,hl3⟩:=acO acR hc (l:=l2) (by omega);unfold iK;generalize fS p.1 (bm (ld p.1 (cc p.1 4 u))) (ld p.1 (cc p.1 4 u))=w at*;generalize ld p.1 (cc p.1 4 u)=w2 at*;generalize cc p.1 4 u=w1 at*;refine ⟨l3, ?_,by omega⟩;rw [← e3];dsimp only [exJ,ss];refine zG ?_ e1;dsimp only;refine zG ?_ rfl;refine zG ?_ Uc;refine (ab (aaE (by
  simp only [acF,abA];exact abG (Nat.add_le_add_left G0 0) (by omega)))).trans ?_
 refine zG ?_ e2;dsimp only;refine zG ?_ rfl;rfl
theorem CB {code:Int} (h:aL 0 tl u) (hp:p∈bm u) (h6:cE p≠6) (hc:bV code=true) (hl:l.length≤97000):∃ l',uT (gz u l,(p.1,()),(code,()),())=some ((gz (oe p.1 code u) l',()),((),(),(),()))∧l'.length≤l.length+90:=by
 unfold oe;rw [show dJ ao (bm u) p.1=some p from dv h.cF hp];simp only;obtain ⟨i,hi,Cz,jN⟩:=bu h.cF hp;have cQ:ak (bm u) p.1=(i:Int):=hi;have qV:nth (bm u) (Int.toNat (i:Int))=some p:=by rw [abo];exact jN
 have V1:i<(bm u).length:=Cz;have V3:∀ z,(Out.ite ((cE p != 1)) (.get (oM (gz u l,(p.1,()),())) λ((cm,_),_)=>ss p.1 code cm.1 cm.2.1 0 0 cm.2.2.1 cm.2.2.2.1 cm.2.2.2.2.1 cm.2.2.2.2.2.1 cm.2.2.2.2.2.2.1 cm.2.2.2.2.2.2.2.1 cm.2.2.2.2.2.2.2.2.1 cm.2.2.2.2.2.2.2.2.2.1 [] [] [] [] [] [] [] []) (exJ p.1 code u l)).eval=z→uT (gz u l,(p.1,()),(code,()),())=z:=λz hz=>by
  rw [← hz];show Out.eval (CD _)=_;dsimp only [CD,gz];show Out.eval (Out.ite (decide (0≤ak (bm u) p.1∧ak (bm u) p.1<(((bm u).length:Nat):Int))) (.get (nth (bm u) (Int.toNat (ak (bm u) p.1))) _) _)=_;rw [cQ];refine zT ?_;exact zG rfl qV
 by_cases h1:cE p=1
 . rw [aa5 h1]
   obtain ⟨l',e,hl'⟩:=ya h hp h1 hc (l:=l) (by omega);exact ⟨l',V3 _ ((ae (oK h1)).trans e),by omega⟩
 . rw [aa3 h1]
   have hw:=CA h hp h1 (l:=l) (by omega);have hm:lU 1 0 p∈bm (iD p.1 u):=(aW h.cF hp).2 (.inl rfl);obtain ⟨l',e,hl'⟩:=ya (code:=code) (x6 h hp h6 h1) hm rfl hc (l:=rh p.1 l) (by rw [aY,aY];omega);rw [aY,aY] at hl';rw [show (lU 1 0 p).1=p.1 from rfl] at e;generalize iK p.1 code (iD p.1 u)=w at*;generalize iD p.1 u=w1 at*;exact ⟨l',V3 _ ((ab (A8 h1)).trans ((aa hw).trans e)),by omega⟩
end
section
variable {x tl:Int} {u u' v:UT} {p:af} {o:aj} {l l':List ET} {e:ET} {β:Type} {n m:Nat}
def Gv (r:Option ((WT×Unit)×β)) (v:UT) (l:List ET) (n:Nat):Prop:=∃ l' z,r=some ((gz v l',()),z)∧l'.length≤l.length+n
theorem Gv.step {r r':Option ((WT×Unit)×β)} (e:r=r') (h:Gv r' v l n):Gv r v l n:=e ▸ h
theorem Gv.ret {l':List ET} {z:β} (h:l'.length≤l.length+n):Gv (Out.ret ((gz v l',()),z)).eval v l n:=⟨l',z,rfl,h⟩
theorem Gv.from {r:Option ((WT×Unit)×β)} {l1:List ET} (h:Gv r v l1 n) (hm:l1.length+n≤l.length+m):Gv r v l m:=by obtain ⟨a,b,c,d⟩:=h;exact ⟨a,b,c,by omega⟩
abbrev pT (p:af):=(p.1,p.2.1,p.2.2.1,p.2.2.2.1,p.2.2.2.2.1.1,p.2.2.2.2.1.2.1,p.2.2.2.2.2.1,p.2.2.2.2.2.2.1,p.2.2.2.2.2.2.2.1,p.2.2.2.2.2.2.2.2.1,())
theorem cM {y:Int} (h: -1000000≤y∧y≤1000000):bV y=true:=fh.2 h
theorem bP {z:β} (h:bO ao (bm u)) (hp:p∈bm u) {c:ag} (hc:aP c.1 c.2.1=true) {y:Int} (hy:bV y=true) {l1:List ET} (hl:l1.length≤99990) (hm:l1.length+1≤l.length+m):Gv (Out.get (bt (gz u l1,(p.1,()),c,(y,()),())) λ((cm,_),_)=>Out.ret ((cm,()),z)).eval (ct p.1 c y u) l m:=by
 obtain ⟨l',e,h2⟩:=CE h hp hc hy hl;exact Gv.step (aa e) (Gv.ret (by omega))
theorem CF {z:β} (h:bO ao (bm u)) (hp:p∈bm u) {c:ag} (hc:aP c.1 c.2.1=true) {y w:Int} (hy:bV y=true) (hw:bV w=true) {l1:List ET} (hl:l1.length≤99990) (hm:l1.length+1≤l.length+m):Gv (Out.get (uU (gz u l1,(p.1,()),c,(y,()),(w,()),())) λ((cm,_),_)=>Out.ret ((cm,()),z)).eval (hJ p.1 c y w u) l m:=by
 obtain ⟨l',e,h2⟩:=IE h hp hc hy hw hl;exact Gv.step (aa e) (Gv.ret (by omega))
theorem CG (h:aL x tl u) {n:Nat} (hn:n≤1000) {q:Bool} (hq:decide (lS (bm u)+4*n≤64)=q):nB (u,((n:Int),()),())=some (((q,()),()),((),(),())):=by
 obtain ⟨nx,tk,pg,ps,os,pi,fi,rd,ou,_⟩:=u;exact QY (λp hp=>⟨(h.loc p hp).mem.1,(h.loc p hp).mem.2.1⟩) h.np hn hq
def nC (p:af) (u:UT):UT:=(u.1+1,u.2.1,u.2.2.1,u.2.2.2.1++[lk u.1 p],u.2.2.2.2)
def Ba (p:af) (c:ag) (u:UT):UT:=
 if 6≤(bm u).length∨100000≤u.1∨64<lS (bm u)+(cd p).length then ct p.1 c (-1) u
 else ct p.1 c u.1 (dL (· ++[u.1]) (ct u.1 c 0 (bp (cn (aA p)) (nC p u))))
theorem V5 (h:aL 0 tl u) (hp:p∈bm u) (h1:cE p=1) {c:ag} (hc:aP c.1 c.2.1=true):aL 0 tl (Ba p c u):=by
 unfold Ba;split
 . exact cj h hp hc (by rfl)
 . rename_i hn
   have QZ:¬ 6≤(bm u).length:=λe=>hn (.inl e);have Ud:¬ 100000≤u.1:=λe=>hn (.inr (.inl e));have hn3:¬ 64<lS (bm u)+(cd p).length:=λe=>hn (.inr (.inr e));have hx:=h.Es;have hF:aL 0 tl (dL (· ++[u.1]) (bp (cn (aA p)) (nC p u))):=Inv.fork h hp h1 (by omega) (by show (bm u).length<6;omega) (by show lS (bm u)+_≤64;omega);have hk:lk u.1 p∈bm (dL (· ++[u.1]) (bp (cn (aA p)) (nC p u))):=adO _ (acq.2 rfl);have hK:=cj hF hk hc (y:=0) (by rfl);have hpp:p∈bm (dL (· ++[u.1]) (bp (cn (aA p)) (nC p u))):=aeA _ hp;have dV:p.1≠(lk u.1 p).1:=by have:=(h.ctx p hp).pid.2;show p.1≠u.1;omega
   have yb:p∈bm (ct (lk u.1 p).1 c 0 (dL (· ++[u.1]) (bp (cn (aA p)) (nC p u)))):=(aW hF.cF hk).2 (.inr ⟨hpp,dV⟩);exact cj hK yb hc (cM (by omega))
theorem G1 (os:List aj):cn [] os=os:=by
 unfold cn;refine (ac7 λo _=> ?_).trans (List.map_id' os);show cG (bG o+((0:Nat):Int)) o=o;rw [show bG o+((0:Nat):Int)=bG o by omega];rfl
theorem EF {os:List aj} (l:List Int) (f:Int) (hid:∀ o∈os,0≤o.1):cn (l++[f]) os=if f= -1 then cn l os else bW al (cn l os) f (λo=>cG (bG o+1) o):=by
 unfold cn;split
 . rename_i e
   refine ac7 λo ho=> ?_;have:(l++[f]).count o.1=l.count o.1:=by
    rw [List.count_append,e];have:=hid o ho;rw [List.count_eq_zero.2 (show o.1 ∉ [(-1:Int)] by simp;omega)];omega
   rw [this]
 . unfold bW
   rw [List.map_map];refine ac7 λo ho=> ?_;show cG (bG o+(((l++[f]).count o.1:Nat):Int)) o=if al (cG _ o)=f then _ else _
   rw [List.count_append];by_cases q:o.1=f
   . rw [aa5 (show al (cG (bG o+((l.count o.1:Nat):Int)) o)=f from q),q]
     have:[f].count f=1:=by simp
     rw [this];show cG (bG o+((l.count f+1:Nat):Int)) o=cG (bG o+((l.count o.1:Nat):Int)+1) o;rw [q,show bG o+((l.count f+1:Nat):Int)=bG o+((l.count f:Nat):Int)+1 by omega]
   . rw [aa3 (show ¬ al (cG (bG o+((l.count o.1:Nat):Int)) o)=f from q)]
     have:[f].count o.1=0:=List.count_eq_zero.2 (by simpa using q);rw [this,ae9]
theorem EG {os:List aj} (h:bO al os) (l:List Int):bO al (cn l os):=by
 have e:(cn l os).map al=os.map al:=by
  unfold cn;rw [List.map_map];rfl
 unfold bO;rw [e];exact h
theorem G2 {a:List aj} (h:bO al a) (ho:o∈a) {f g:aj→aj} (e:f o=g o):bW al a o.1 f=bW al a o.1 g:=by
 unfold bW;refine ac7 λy hy=> ?_;by_cases q:al y=o.1
 . obtain rfl:=h.inj hy ho q
   rw [aa5 q,aa5 q,e]
 . rw [aa3 q,aa3 q]
theorem Ku {c:ag} (h:bO al (eP u)) (hid:∀ o∈eP u,0≤o.1∧bG o≤100∧ -100≤bG o) (hos:(eP u).length≤8) (h4:(aA p).length=4) (hm:∀ f∈aA p,f= -1∨∃ o∈eP u,o.1=f) (hl:l.length≤99000) {k:Int}:
  ∃ l',bx pV bc ((k,0,()),((u.1,u.2.1,()),pT p,c,z2,dK u l))=some ((k,()),(((bp (cn (aA p)) u).1,(bp (cn (aA p)) u).2.1,()),pT p,c,z2,dK (bp (cn (aA p)) u) l'))∧l'.length≤l.length+4:=by
 have hB:aM=9223372036854775807:=rfl;have x3:=xY (f:=pV) 4 (λi s=>∃ l1,s=((k,(i:Int),()),((u.1,u.2.1,()),pT p,c,z2,dK (bp (cn ((aA p).take i)) u) l1))∧l1.length≤l.length+i)
  (Q:=λy=>∃ l',y=((k,()),(((bp (cn (aA p)) u).1,(bp (cn (aA p)) u).2.1,()),pT p,c,z2,dK (bp (cn (aA p)) u) l'))∧l'.length≤l.length+4) (λi hi s hs=> ?_) (λs hs=> ?_) (by omega) (s:=((k,0,()),((u.1,u.2.1,()),pT p,c,z2,dK u l))) ⟨l,by
   rw [afO];have:bp (cn []) u=u:=by unfold bp;rw [G1]
   rw [this];rfl,by omega⟩
 . obtain ⟨y,h1,l',rfl,h2⟩:=x3
   exact ⟨l',h1,h2⟩
 . obtain ⟨l1,rfl,GY⟩:=hs
   have hn:nth p.2.2.2.2.2.2.1 i=some ((aA p)[i]'(by omega)):=aa2 _;have h4':p.2.2.2.2.2.2.1.length=4:=h4;have hw:IntKind.i64.wrap ((i:Int)+1)=((i+1:Nat):Int):=aw (by omega);have ht:(aA p).take (i+1)=(aA p).take i++[(aA p)[i]'(by omega)]:=afo _;have hf:=hm _ (acb (show i<(aA p).length by omega));have Bb:=EF (os:=eP u) ((aA p).take i) ((aA p)[i]'(by omega)) λo ho=>(hid o ho).1;rw [← ht] at Bb;have V6:∀ o:aj,((aA p).take i).count o.1≤4:=λo=>abG List.count_le_length (by rw [afq];omega);generalize (aA p)[i]'(by omega)=f at hn hf Bb ht;by_cases e:f= -1
   . rw [aa5 e] at Bb
     refine ⟨_, ?_,l1,rfl,by omega⟩;dsimp only [pV,dK,pT];simp only [abo,hw];refine zT ?_;refine zT ?_;refine zG ?_;refine zF ?_ (oK e);rw [← show bp (cn ((aA p).take (i+1))) u=bp (cn ((aA p).take i)) u by unfold bp;rw [show cn ((aA p).take (i+1)) u.2.2.2.2.1=cn ((aA p).take i) u.2.2.2.2.1 from Bb]];rfl
   . rw [aa3 e] at Bb
     obtain ⟨o,ho,rfl⟩:=hf.resolve_left e;have T7:cG (bG o+((((aA p).take i).count o.1:Nat):Int)) o∈cn ((aA p).take i) (eP u):=List.mem_map.2 ⟨o,ho,rfl⟩;have qW:=EG h ((aA p).take i);have hc4:=V6 o;have hlen:(cn ((aA p).take i) (eP u)).length≤1000:=by unfold cn;rw [acF];omega
     have hbd: -1000≤bG (cG (bG o+((((aA p).take i).count o.1:Nat):Int)) o)+1∧bG (cG (bG o+((((aA p).take i).count o.1:Nat):Int)) o)+1≤1000:=by
      have:=hid o ho;show -1000≤bG o+((((aA p).take i).count o.1:Nat):Int)+1∧bG o+((((aA p).take i).count o.1:Nat):Int)+1≤1000;omega
     have hcn:=G2 qW T7 (f:=λo=>cG (bG o+1) o) (g:=cG (bG (cG (bG o+((((aA p).take i).count o.1:Nat):Int)) o)+1)) rfl;have agR:cn ((aA p).take (i+1)) (eP u)=bW al (cn ((aA p).take i) (eP u)) o.1 (cG (bG (cG (bG o+((((aA p).take i).count o.1:Nat):Int)) o)+1)):=Bb.trans hcn;have hd:=eG (l:=l1) (uO (nx:=u.1) (tk:=u.2.1) (pg:=u.2.2.1) (ps:=u.2.2.2.1) (pi:=u.2.2.2.2.2.1) (fi:=u.2.2.2.2.2.2.1) (rd:=u.2.2.2.2.2.2.2.1) (ou:=u.2.2.2.2.2.2.2.2.1) (b:=1) (c:=0) (l:=[]) qW T7 hlen hbd) (by omega);refine ⟨_, ?_,l1++[eE 11 o.1 1 0],rfl,by rw [aY];omega⟩;dsimp only [pV,dK,pT];simp only [abo,hw];refine zT ?_;refine zT ?_;refine zG ?_;refine zT ?_ (A8 e);refine zT ?_;refine zG ?_;refine zG ?_ rfl;refine zG ?_ hd;rw [show bp (cn ((aA p).take (i+1))) u=(u.1,u.2.1,u.2.2.1,u.2.2.2.1,cn ((aA p).take (i+1)) (eP u),u.2.2.2.2.2) from rfl,agR];rfl
 . obtain ⟨l1,rfl,GY⟩:=hs
   have h4':p.2.2.2.2.2.2.1.length=4:=h4;rw [acY (by omega)];refine ⟨_, ?_,l1,rfl,by omega⟩;dsimp only [pV,dK,pT];exact zF rfl (aa1 (by omega))
end
section
variable {x tl:Int} {u u' v:UT} {p:af} {o:aj} {l l':List ET} {e:ET} {β:Type} {n m:Nat}
theorem Ue (n:Nat) (h:n≤1000):IntKind.i64.wrap (Int.tdiv ((n:Nat):Int) (4:Int))=((n / 4:Nat):Int):=by
 have ht0:Int.tdiv ((n:Nat):Int) (4:Int)=((n / 4:Nat):Int):=rfl;rw [ht0,jy (by omega) (by omega)]
theorem V7 (h:aL 0 tl u) (hp:p∈bm u) (_:cE p=1) {c:ag} (hc:aP c.1 c.2.1=true) (hl:l.length≤98000):Gv (Mc (gz u l,pT p,c,())) (Ba p c u) l 10:=by
 have Md:=h.loc p hp;have hm:(cd p).length≤12∧(cd p).length % 4=0:=⟨Md.mem.1,Md.mem.2.1⟩
 have oH:p.2.2.2.2.2.1.length≤12∧p.2.2.2.2.2.1.length % 4=0:=hm;have hx:=h.Es;have ht:=h.G3;have ea:(cd p).length=p.2.2.2.2.2.1.length:=rfl;unfold Ba;show Gv (Out.eval (CH _)) _ _ _;dsimp only [CH,gz,pT];rw [Ue _ (by omega)];by_cases a1:6≤(bm u).length
 . rw [aa5 (.inl a1)]
   have a1':6≤u.2.2.2.1.length:=a1;refine Gv.step (ae (iG (by omega))) ?_;exact bP h.cF hp hc (by rfl) (by omega) (by omega)
 . have a1':¬ 6≤u.2.2.2.1.length:=a1
   refine Gv.step (ab (eZ (by omega))) ?_;by_cases a2:100000≤u.1
   . rw [aa5 (.inr (.inl a2))]
     refine Gv.step (ae (iG (by omega))) ?_;exact bP h.cF hp hc (by rfl) (by omega) (by omega)
   . refine Gv.step (ab (eZ (by omega))) ?_
     refine Gv.step (ae (by rfl)) ?_;by_cases a3:64<lS (bm u)+(cd p).length
     . rw [aa5 (.inr (.inr a3))]
       have hq:decide (lS (bm u)+4*(p.2.2.2.2.2.1.length / 4)≤64)=false:=aa1 (by omega);refine Gv.step (aa (CG h (by omega) hq)) ?_;refine Gv.step (ab (by rfl)) ?_;exact bP h.cF hp hc (by rfl) (by omega) (by omega)
     . have hq:decide (lS (bm u)+4*(p.2.2.2.2.2.1.length / 4)≤64)=true:=aaE (by omega)
       have hr:=CG h (by omega) hq;refine Gv.step (aa hr) ?_;refine Gv.step (ae (by rfl)) ?_;rw [aa3 (by rintro (e|e|e)<;>omega)];have hos:(eP u).length≤8:=oc h;have Qx:∀ o∈eP u,1≤bG o∧bG o≤24:=λo ho=>Cs h ho;have hid:=λo ho=>(h.op o ho).id;have agS:=h.ctx p hp;have qW:=h.cF;have G0:=h.np;have bS:∀ q∈bm u,q.1<u.1:=λq hq=>(h.ctx q hq).pid.2;obtain ⟨nx,tk,pg,ps,os,pi,fi,rd,ou,_⟩:=u;have Kv:=eG (l:=l) (Me (c:=0) (l:=[]) qW hp (by omega) (by omega) hx.1 ⟨hm.1,(cY Md.ku).2.1,Md.fds⟩ hr) (by omega);refine Gv.step (aa rfl) ?_;refine Gv.step (aa Kv) ?_;obtain ⟨l1,e1,GY⟩:=Ku (u:=nC p (nx,tk,pg,ps,os,pi,fi,rd,ou,())) (c:=c) (k:=nx) (p:=p) h.ow (λo ho=>⟨(hid o ho).1,by have:=Qx o ho;omega,by have:=Qx o ho;omega⟩) hos Md.fds agS.fds (l:=l++[eE 4 nx p.1 0]) (by rw [aY];omega);rw [aY] at GY;refine Gv.step (aa e1) ?_;have rC:bO ao (ps++[lk nx p]):=by
        unfold bO;rw [afz,List.pairwise_append];refine ⟨qW,by simp,λa ha b hb=> ?_⟩;obtain ⟨z,hz,ez⟩:=List.mem_map.1 ha;simp only [acd,afa,acq] at hb;rw [hb, ← ez];exact bS z hz
       have EH:lk nx p∈ps++[lk nx p]:=adO _ (acq.2 rfl);have hpp:p∈ps++[lk nx p]:=aeA _ hp;obtain ⟨l2,e2,QU⟩:=CE (u:=bp (cn (aA p)) (nC p (nx,tk,pg,ps,os,pi,fi,rd,ou,()))) rC EH hc (y:=0) (by rfl) (l:=l1) (by omega);refine Gv.step (aa e2) ?_;refine Gv.step (aa rfl) ?_;have hpu:=eG (l:=l2) (xg (nx:=nx+1) (tk:=tk) (pg:=pg) (ps:=bM (ps++[lk nx p]) nx (oA (qX c 0 0))) (os:=cn (aA p) os) (pi:=pi) (fi:=fi) (rd:=rd) (ou:=ou) (k:=nx) (b:=0) (c:=0) (l:=[]) (by
        have h3:rd.length≤ps.length:=by
         rw [(show rd.Perm (aH ps) from h.Et).length_eq];unfold aH;rw [acF];exact adA _ _
        have:¬ 6≤ps.length:=a1;omega)) (by omega)
       refine Gv.step (aa hpu) ?_;have V8:bO ao (bM (ps++[lk nx p]) nx (oA (qX c 0 0))):=dB rC λ_ _ _=>rfl;have Mf:p∈bM (ps++[lk nx p]) nx (oA (qX c 0 0)):=(aW rC EH).2 (.inr ⟨hpp,by have:=bS p hp;show p.1≠nx;have:p.1<nx:=this;omega⟩);exact bP (u:=dL (· ++[nx]) (ct nx c 0 (bp (cn (aA p)) (nC p (nx,tk,pg,ps,os,pi,fi,rd,ou,()))))) V8 Mf hc (y:=nx) (cM (by have:1≤nx∧nx≤100000:=hx;omega)) (l1:=l2++[eE 21 nx 0 0]) (by rw [aY];omega) (by rw [aY];omega)
theorem Kw {σ β γ:Type} {f:σ→Out (Round σ β γ)} (n:Nat) (R:Nat→σ→Prop) {Q:β→Prop} {Q':γ→Prop} (hs:∀ i,i<n→∀ s,R i s→(∃ s',(f s).eval=some (.again s')∧R (i+1) s')∨∃ z,(f s).eval=some (.ret z)∧Q' z) (hy:∀ s,R n s→∃ y,(f s).eval=some (.out y)∧Q y) (hn:n≤aM) {s:σ} (h0:R 0 s):
  (∃ y,iter f bc s=some (.inl y)∧Q y)∨∃ z,iter f bc s=some (.inr z)∧Q' z:=by
 have key:∀ (m i k:Nat) (s:σ),i+m=n→m<k→R i s→(∃ y,iter f k s=some (.inl y)∧Q y)∨∃ z,iter f k s=some (.inr z)∧Q' z:=by
  intro m
  induction m with
  |zero=>
   intro i k s hi hk hr;obtain rfl:i=n:=by omega
   obtain ⟨y,h1,h2⟩:=hy s hr;exact .inl ⟨y,kT h1 hk,h2⟩
  |succ m ih=>
   intro i k s hi hk hr;rcases hs i (by omega) s hr with ⟨s',h1,h2⟩|⟨z,h1,h2⟩
   . obtain ⟨k,rfl⟩:∃ k',k=k'+1:=⟨k - 1,by omega⟩
     rw [jT h1];exact ih (i+1) k s' (by omega) (by omega) h2
   . exact .inr ⟨z,mK h1 (by omega),h2⟩
 exact key n 0 bc s (by omega) (jx hn) h0
def jz (v:Int) (k:af):Bool:=gV k==v&&cE k==6
def oN (v:Int) (k:af):Bool:=gV k==v
def Bc (p:af) (c:ag) (u:UT):UT:=match (bm u).find? (jz p.1) with
 |some k=>hJ p.1 c k.1 (mL k) (fE (λps=>so ps k.1) u)
 |none=>if (bm u).any (oN p.1)=true then rH p.1 3 0 u else ct p.1 c (-1) u
theorem su {v:Int} {k:af}:jz v k=true↔gV k=v∧cE k=6:=by unfold jz;simp
theorem V9 (h:aL 0 tl u) (hp:p∈bm u) (h1:cE p=1) {c:ag} (hc:aP c.1 c.2.1=true):aL 0 tl (Bc p c u):=by
 unfold Bc;cases e:(bm u).find? (jz p.1) with
 |some k=>
  have hk:=List.mem_of_find?_eq_some e;have h6:=(su.1 (List.find?_some e)).2;have hR:aL 0 tl (fE (λps=>so ps k.1) u):=Inv.VY h hk h6;have hpk:=(h.ctx k hk).pid;have hx:=h.Es;refine xh hR (iv.2 ⟨hp,λe2=> ?_⟩) hc (cM (by omega)) (h.loc k hk).code;have:=h.cF.inj hp hk e2;subst this;omega
 |none=>
  simp only;split
  . exact xi h hp h1 (by omega) (by omega) (λ_=>rfl) (by omega)
  . exact cj h hp hc (by rfl)
theorem Wa (h:aL 0 tl u) (hp:p∈bm u) (h1:cE p=1) {c:ag} (hc:aP c.1 c.2.1=true) (hl:l.length≤98000):Gv (Mg (gz u l,pT p,c,())) (Bc p c u) l 10:=by
 have hB:aM=9223372036854775807:=rfl;have G0:(bm u).length≤6:=h.np;have alb:u.2.2.2.1.length≤6:=G0;have x3:=Kw (f:=pW) (bm u).length (λi s=>s=((!((bm u).take i).any (oN p.1),(i:Int),()),((u.1,u.2.1,()),pT p,c,z2,dK u l))∧((bm u).take i).all (λk=> !jz p.1 k)=true)
  (Q:=λy=>y=((!(bm u).any (oN p.1),()),((u.1,u.2.1,()),pT p,c,z2,dK u l))∧(bm u).find? (jz p.1)=none)
  (Q':=λz=>∃ k l',(bm u).find? (jz p.1)=some k∧l'.length≤l.length+2∧z=((),(((hJ p.1 c k.1 (mL k) (fE (λps=>so ps k.1) u)).1,(hJ p.1 c k.1 (mL k) (fE (λps=>so ps k.1) u)).2.1,()),(hJ p.1 c k.1 (mL k) (fE (λps=>so ps k.1) u)).2.2.1,(hJ p.1 c k.1 (mL k) (fE (λps=>so ps k.1) u)).2.2.2.1,(hJ p.1 c k.1 (mL k) (fE (λps=>so ps k.1) u)).2.2.2.2.1,(hJ p.1 c k.1 (mL k) (fE (λps=>so ps k.1) u)).2.2.2.2.2.1,(hJ p.1 c k.1 (mL k) (fE (λps=>so ps k.1) u)).2.2.2.2.2.2.1,(hJ p.1 c k.1 (mL k) (fE (λps=>so ps k.1) u)).2.2.2.2.2.2.2.1,(hJ p.1 c k.1 (mL k) (fE (λps=>so ps k.1) u)).2.2.2.2.2.2.2.2.1,l',())))
  (λi hi s hs=> ?_) (λs hs=> ?_) (by omega) (s:=((true,0,()),((u.1,u.2.1,()),pT p,c,z2,dK u l))) ⟨rfl,rfl⟩
 . show Gv (Out.eval (CI _)) _ _ _
   dsimp only [CI,gz,pT];unfold Bc;rcases x3 with ⟨y,e1,rfl,e2⟩|⟨z,e1,k,l',e2,hl',rfl⟩
   . rw [e2]
     refine Gv.step (aa e1) ?_;refine Gv.step (gk _) ?_;simp only;by_cases q:(bm u).any (oN p.1)=true
     . rw [aa5 q]
       refine Gv.step (ae (by rw [q];rfl)) ?_;refine Gv.step (aa (xj h hp h1 (by omega))) ?_;exact Gv.ret (by rw [aY,aY];omega)
     . rw [aa3 q]
       refine Gv.step (ab (by rw [Bool.eq_false_iff.2 q];rfl)) ?_;exact bP h.cF hp hc (by rfl) (by omega) (by omega)
   . rw [e2]
     refine Gv.step (aa e1) ?_;refine Gv.step (G4 _) ?_;exact Gv.ret (l':=l') (by omega)
 . obtain ⟨rfl,CJ⟩:=hs
   have hn:nth (bm u) i=some (bm u)[i]:=aa2 hi;have hq:=acb hi;have hw:IntKind.i64.wrap ((i:Int)+1)=((i+1:Nat):Int):=aw (by omega);have ht:(bm u).take (i+1)=(bm u).take i++[(bm u)[i]]:=afo _;have kx:bm u=(bm u).take i++(bm u)[i]::(bm u).drop (i+1):=by
    conv=>lhs;rw [← afQ i (bm u),acr hi]
   have cQ:i<u.2.2.2.1.length:=hi;generalize (bm u)[i]=q at hn hq ht kx;have nv:nth u.2.2.2.1 i=some q:=hn;by_cases hk:gV q=p.1
   . by_cases h6:cE q=6
     . right
       have hd:jz p.1 q=true:=su.2 ⟨hk,h6⟩;have hf:(bm u).find? (jz p.1)=some q:=by
        rw [kx,List.find?_append,List.find?_eq_none.2 λz hz=>by have:=abD.1 CJ z hz;simpa using this];rw [List.find?_cons_of_pos hd];rfl
       have hR:aL 0 tl (fE (λps=>so ps q.1) u):=Inv.VY h hq h6;have hpk:=(h.ctx q hq).pid;have hx:=h.Es;have yb:p∈bm (fE (λps=>so ps q.1) u):=iv.2 ⟨hp,λe2=>by
        have:=h.cF.inj hp hq e2;subst this;omega⟩
       obtain ⟨l',e2,QU⟩:=IE hR.cF yb hc (y:=q.1) (z:=mL q) (cM (by omega)) (h.loc q hq).code (l:=l++[eE 6 q.1 0 0]) (by rw [aY];omega);rw [aY] at QU;refine ⟨_, ?_,q,l',hf,by omega,rfl⟩;have hre:=eG (l:=l) (u:=u) (Cy (b:=0) (c:=0) (l:=[]) h.cF hq h.np) (by omega);dsimp only [pW,dK,pT];simp only [abo,hw];refine zT ?_;refine zT ?_;refine zG ?_ nv;refine zF ?_ (oK hk);refine zT ?_ (cT h6);refine zG ?_ rfl;refine zG ?_ hre;refine zG ?_ e2;rfl
     . left
       refine ⟨_, ?_,rfl, ?_⟩
       . dsimp only [pW,dK,pT]
         simp only [abo,hw];refine zT ?_;refine zT ?_;refine zG ?_ nv;refine zF ?_ (oK hk);refine zF ?_ (dN h6);have:(!((bm u).take (i+1)).any (oN p.1))=false:=by
          rw [ht,List.any_append];have:oN p.1 q=true:=by unfold oN;simpa using hk
          simp [this]
         rw [this];rfl
       . rw [ht,adE,CJ]
         have:jz p.1 q=false:=Bool.eq_false_iff.2 λe=>h6 (su.1 e).2;simp [this]
   . left
     refine ⟨_, ?_,rfl, ?_⟩
     . dsimp only [pW,dK,pT]
       simp only [abo,hw];refine zT ?_;refine zT ?_;refine zG ?_ nv;refine zT ?_ (A8 hk);have:(!((bm u).take (i+1)).any (oN p.1))= !((bm u).take i).any (oN p.1):=by
        rw [ht,List.any_append];have:oN p.1 q=false:=by unfold oN;simpa using hk
        simp [this]
       rw [this];rfl
     . rw [ht,adE,CJ]
       have:jz p.1 q=false:=Bool.eq_false_iff.2 λe=>hk (su.1 e).1;simp [this]
 . obtain ⟨rfl,CJ⟩:=hs
   rw [List.take_length] at CJ;refine ⟨_, ?_,rfl,List.find?_eq_none.2 λz hz=>by have:=abD.1 CJ z hz;simpa using this⟩;dsimp only [pW,dK,pT];rw [List.take_length];exact zF rfl (aa1 (by show ¬ (((bm u).length:Nat):Int)<(((bm u).length:Nat):Int);omega))
end
section
variable {x tl:Int} {u u' v:UT} {p:af} {o:aj} {l l':List ET} {e:ET} {β:Type} {n m:Nat}
def jA (q:Nat→Bool):Nat→Nat→Option Nat
 |_,0=>none
 |i,n+1=>if q i=true then some i else jA q (i+1) n
theorem lV {q:Nat→Bool}:∀ {n i j:Nat},jA q i n=some j→i≤j∧j<i+n∧q j=true
 |0,i,j,h=>by cases h
 |n+1,i,j,h=>by
  unfold jA at h;by_cases e:q i=true
  . rw [aa5 e] at h
    obtain rfl:=aa6 h;exact ⟨abE _,by omega,e⟩
  . rw [aa3 e] at h
    have:=lV h;exact ⟨by omega,by omega,this.2.2⟩
theorem nD {σ β γ:Type} {f:σ→Out (Round σ β γ)} (q:Nat→Bool) (S:Nat→σ) {y:β} {z:Nat→γ}:∀ (n i:Nat),(∀ j,i≤j→j<i+n→(f (S j)).eval=some (if q j=true then .ret (z j) else .again (S (j+1))))→(f (S (i+n))).eval=some (.out y)→∀ k,n<k→iter f k (S i)=some (match jA q i n with|some j=> .inr (z j)|none=> .inl y)
 |0,i,_,hy,k,hk=>by rw [show i+0=i from rfl] at hy;rw [kT hy hk];rfl
 |n+1,i,hs,hy,k,hk=>by
  have h1:=hs i (abE _) (by omega);unfold jA;by_cases e:q i=true
  . rw [aa5 e] at h1 ⊢
    rw [mK h1 (by omega)]
  . rw [aa3 e] at h1 ⊢
    obtain ⟨k,rfl⟩:∃ k',k=k'+1:=⟨k - 1,by omega⟩
    rw [jT h1];exact nD q S n (i+1) (λj h1 h2=>hs j (by omega) (by omega)) (by rw [show i+1+n=i+(n+1) by omega];exact hy) k (by omega)
def cf (fds:List Int) (k:Nat):Int:=sv (jA (λi=>fds[i]? ==some (-1)) k (4 - k))
def bD (os:List aj) (k:Nat):Int:=sv (jA (λi=> !os.any λo=>o.1==(i:Int)) k (8 - k))
def gG (pi:List ag):Int:=sv (jA (λi=> !pi.any λy=>y.1==(i:Int)) 0 3)
theorem rI (o:Option Nat):sv o= -1∧o=none∨∃ j,o=some j∧sv o=(j:Int):=by
 cases o with
 |none=>exact .inl ⟨rfl,rfl⟩
 |some j=>exact .inr ⟨j,rfl,rfl⟩
theorem gl {fds:List Int} {k:Nat} (_:fds.length=4) (hk:k≤4):cf fds k= -1∨∃ j:Nat,cf fds k=(j:Int)∧k≤j∧j<4∧fds[j]? =some (-1):=by
 unfold cf;rcases rI (jA (λi=>fds[i]? ==some (-1)) k (4 - k)) with ⟨e,_⟩|⟨j,e1,e2⟩
 . exact .inl e
 . have:=lV e1
   exact .inr ⟨j,e2,this.1,by omega,by simpa using this.2.2⟩
theorem hO {os:List aj} {k:Nat} (hk:k≤8):bD os k= -1∨∃ j:Nat,bD os k=(j:Int)∧k≤j∧j<8∧∀ o∈os,o.1≠(j:Int):=by
 unfold bD;rcases rI (jA (λi=> !os.any λo=>o.1==(i:Int)) k (8 - k)) with ⟨e,_⟩|⟨j,e1,e2⟩
 . exact .inl e
 . have h:=lV e1
   refine .inr ⟨j,e2,h.1,by omega,λo ho e=> ?_⟩;have h3:=h.2.2;rw [acJ,List.any_eq_false] at h3;exact h3 o ho (by simpa using e)
theorem yc {pi:List ag}:gG pi= -1∨∃ j:Nat,gG pi=(j:Int)∧j<3∧∀ y∈pi,y.1≠(j:Int):=by
 unfold gG;rcases rI (jA (λi=> !pi.any λy=>y.1==(i:Int)) 0 3) with ⟨e,_⟩|⟨j,e1,e2⟩
 . exact .inl e
 . have h:=lV e1
   refine .inr ⟨j,e2,by omega,λo ho e=> ?_⟩;have h3:=h.2.2;rw [acJ,List.any_eq_false] at h3;exact h3 o ho (by simpa using e)
theorem G5 {n:Nat} (h:n≤10):n<bc:=jx (abG h (by decide))
theorem sw (h4:(aA p).length=4) {k:Nat} (hk:k≤4):yd (pT p,((k:Int),()),())=some (((cf (aA p) k,()),()),((),(),())):=by
 have h4':p.2.2.2.2.2.2.1.length=4:=h4;have hB:aM=9223372036854775807:=rfl;have hl:=nD (f:=xk) (λi=>(aA p)[i]? ==some (-1)) (λi=>(((i:Int),()),(pT p,()))) (y:=((),())) (z:=λi=>(((i:Int),()),())) (4 - k) k (λj h1 h2=> ?_) ?_ bc (G5 (by omega))
 . show Out.eval (CK _)=_
   dsimp only [CK,pT];refine zG ?_ hl;unfold cf;cases jA (λi=>(aA p)[i]? ==some (-1)) k (4 - k) with
   |none=>rfl
   |some j=>rfl
 . have hw:IntKind.i64.wrap ((j:Int)+1)=((j+1:Nat):Int):=aw (by omega)
   have hg:(aA p)[j]? =some ((aA p)[j]'(by omega)):=aa2 _;dsimp only [xk,pT];simp only [abo,hw,hg];refine zT ?_;refine zT ?_;refine zG ?_ rfl;by_cases e:(aA p)[j]'(by omega)= -1
   . refine zT ?_ (cT e)
     rw [e];rfl
   . refine zF ?_ (dN e)
     rw [aa3 (by simpa using e)];rfl
 . dsimp only [xk,pT]
   exact zF rfl (aa1 (by omega))
theorem uV {α:Type} {key:α→Int} {a:List α} {v:Int}:decide (cU key a v<0)= !a.any λx=>key x==v:=by
 have:=j4 a λx=>key x==v;unfold cU fj;rw [← this];rw [ace];simp
theorem rJ {k:Nat} (hk:k≤8):CL (u,((k:Int),()),())=some (((bD (eP u) k,()),()),((),(),())):=by
 have hB:aM=9223372036854775807:=rfl;have hl:=nD (f:=xl) (λi=> !(eP u).any λo=>o.1==(i:Int)) (λi=>(((i:Int),()),(u,()))) (y:=((),())) (z:=λi=>(((i:Int),()),())) (8 - k) k (λj h1 h2=> ?_) ?_ bc (G5 (by omega))
 . show Out.eval (CM _)=_
   dsimp only [CM];refine zG ?_ hl;unfold bD;cases jA (λi=> !(eP u).any λo=>o.1==(i:Int)) k (8 - k) with
   |none=>rfl
   |some j=>rfl
 . have hw:IntKind.i64.wrap ((j:Int)+1)=((j+1:Nat):Int):=aw (by omega)
   obtain ⟨nx,tk,pg,ps,os,pi,fi,rd,ou,_⟩:=u;dsimp only [xl];simp only [hw];refine zT ?_;have hp:decide (aF os (j:Int)<0)= !os.any λo=>o.1==(j:Int):=uV (key:=al);rw [hp];cases q:(!os.any λo=>o.1==(j:Int))
   . refine zF ?_
     rfl
   . refine zT ?_
     rfl
 . obtain ⟨nx,tk,pg,ps,os,pi,fi,rd,ou,_⟩:=u
   dsimp only [xl];exact zF rfl (aa1 (by omega))
theorem G6:Mh (u,())=some (((gG (oG u),()),()),((),())):=by
 have hB:aM=9223372036854775807:=rfl;have hl:=nD (f:=xm) (λi=> !(oG u).any λy=>y.1==(i:Int)) (λi=>(((i:Int),()),(u,()))) (y:=((),())) (z:=λi=>(((i:Int),()),())) 3 0 (λj h1 h2=> ?_) ?_ bc (G5 (by omega))
 . show Out.eval (CN _)=_
   dsimp only [CN];refine zG ?_ hl;unfold gG;cases jA (λi=> !(oG u).any λy=>y.1==(i:Int)) 0 3 with
   |none=>rfl
   |some j=>rfl
 . have hw:IntKind.i64.wrap ((j:Int)+1)=((j+1:Nat):Int):=aw (by omega)
   obtain ⟨nx,tk,pg,ps,os,pi,fi,rd,ou,_⟩:=u;dsimp only [xm];simp only [hw];refine zT ?_;have hp:decide (ba pi (j:Int)<0)= !pi.any λy=>y.1==(j:Int):=uV (key:=aB);rw [hp];cases q:(!pi.any λy=>y.1==(j:Int))
   . refine zF ?_
     rfl
   . refine zT ?_
     rfl
 . obtain ⟨nx,tk,pg,ps,os,pi,fi,rd,ou,_⟩:=u
   dsimp only [xm];exact zF rfl (aa1 (by omega))
theorem pX {α:Type} {key:α→Int} {y:α} {f:α→α}:∀ {a:List α},(∀ x∈a,key x≠key y)→(key (f y)=key y)→bW key (bF key y a) (key y) f=bF key (f y) a
 |[],_,_=>by simp [bF,bW]
 |x::r,h,hf=>by
  have hx:=h x (by simp);unfold bF;rw [hf];by_cases q:key y<key x
  . rw [aa5 q,aa5 q]
    show (if key y=key y then f y else y)::bW key (x::r) (key y) f=_;rw [aa5 rfl,pY h]
  . rw [aa3 q,aa3 q]
    show (if key x=key y then f x else x)::bW key (bF key y r) (key y) f=_;rw [aa3 hx,pX (λz hz=>h z (by simp [hz])) hf]
def cW (c:ag) (k:Nat):Int:=c.2.1.getD k 0
theorem ed {c:ag} (hc:aP c.1 c.2.1=true) {k:Nat} (hk:k<4):nth c.2.1 k=some (cW c k)∧bV (cW c k)=true:=by
 obtain ⟨_,h4,hw⟩:=cY hc;have e:c.2.1[k]? =some (c.2.1[k]'(by omega)):=aa2 _;have e2:cW c k=c.2.1[k]'(by omega):=by unfold cW;rw [ach,e];rfl
 refine ⟨by rw [e2];exact e, ?_⟩;rw [e2];exact abD.1 hw _ (acb _)
theorem Mi {c:ag} (hc:aP c.1 c.2.1=true) {k:Nat} (hk:k<4): -1000000≤cW c k∧cW c k≤1000000:=fh.1 (ed hc hk).2
def jR (fi:List ag) (v:Int):Bool:=fi.any λy=>y.1==v
theorem pZ {fi:List ag} {v:Int}:jR fi v=true↔∃ y∈fi,y.1=v:=by unfold jR;rw [List.any_eq_true];simp
theorem EI (fi:List ag) (v:Int):decide (bj fi v≥0)=jR fi v:=j4 fi λy=>y.1==v
def rK (p:af) (c:ag) (name fd id:Int) (u:UT):UT:=ct p.1 c fd (di p.1 (b9 ((aA p).set fd.toNat id)) (bp (bF al (id,2,name,0,1,())) u))
def kU (p:af) (c:ag) (u:UT):UT:=
 if ¬ (0≤cW c 0∧cW c 0≤5)∨cf (aA p) 0<0∨bD (eP u) 0<0∨(jR (od u) (cW c 0)=false∧cW c 1=0) then ct p.1 c (-1) u
 else rK p c (cW c 0) (cf (aA p) 0) (bD (eP u) 0) (if jR (od u) (cW c 0)=true then u else ky (bF aR (cW c 0,[],())) u)
theorem EJ {name:Int} (h:aL 0 tl u) (hp:p∈bm u) (h1:cE p=1) {c:ag} (hc:aP c.1 c.2.1=true) {j k:Nat} (hj:j<4) (A7:(aA p)[j]? =some (-1)) (hk:k<8) (jB:∀ o∈eP u,o.1≠(k:Int)) (hn:∃ y∈od u,y.1=name):aL 0 tl (rK p c name j k u):=by
 obtain ⟨y,hy,rfl⟩:=hn;have hA:aL 0 tl (di p.1 (b9 ((aA p).set j (k:Int))) (bp (bF al ((k:Int),2,y.1,0,1,())) u)):=Inv.Wb (o:=((k:Int),2,y.1,0,1,())) h hp h1 A7 ⟨by show (0:Int)≤k;omega,by show (k:Int)≤7;omega⟩ jB rfl
  (.inl ⟨rfl,y,hy,rfl,acZ 0,by show (0:Int)≤_;omega⟩) (λz hz=> .inl hz) (λz hz=>hz) h.wu
 have yb:b9 ((aA p).set j (k:Int)) p∈bm (di p.1 (b9 ((aA p).set j (k:Int))) (bp (bF al ((k:Int),2,y.1,0,1,())) u)):=(aW h.cF hp).2 (.inl rfl);have:=cj hA yb hc (y:=(j:Int)) (cM (by omega));unfold rK;rw [abo];exact this
theorem Wc {name:Int} (h:aL x tl u) (hn:0≤name∧name≤5) (L5:¬ jR (od u) name=true):aL x tl (ky (bF aR (name,[],())) u):=Inv.make h hn λy hy e=>L5 (pZ.2 ⟨y,hy,e⟩)
theorem G7 (h:aL 0 tl u) (hp:p∈bm u) (h1:cE p=1) {c:ag} (hc:aP c.1 c.2.1=true):aL 0 tl (kU p c u):=by
 unfold kU;split
 . exact cj h hp hc (by rfl)
 . rename_i L5
   have a1:0≤cW c 0∧cW c 0≤5:=Classical.byContradiction λe=>L5 (.inl e);have a2:¬ cf (aA p) 0<0:=λe=>L5 (.inr (.inl e));have a3:¬ bD (eP u) 0<0:=λe=>L5 (.inr (.inr (.inl e)));rcases gl (k:=0) (h.loc p hp).fds (by omega) with e|⟨j,ej,_,Wd,hjf⟩
   . omega
   rcases hO (os:=eP u) (k:=0) (by omega) with e|⟨k,ek,_,hk8,Ct⟩
   . omega
   rw [ej,ek];split
   . rename_i hf
     exact EJ h hp h1 hc Wd hjf hk8 Ct (pZ.1 hf)
   . rename_i hf
     exact EJ (Wc h a1 hf) hp h1 hc Wd hjf hk8 Ct ⟨_,de.2 (.inl rfl),rfl⟩
theorem IF {name:Int} (h:bO ao (bm u)) (ho:bO al (eP u)) (mu:(eP u).length≤8) (hp:p∈bm u) {c:ag} (hc:aP c.1 c.2.1=true) (h4:(aA p).length=4) {j k:Nat} (hj:j<4) (hk:k<8) (jB:∀ o∈eP u,o.1≠(k:Int)) {l1:List ET} (hl:l1.length≤99000) (hm:l1.length+4≤l.length+m):
  Gv (xn name j k u.1 u.2.1 p.1 c.1 c.2.1 u.2.2.1 u.2.2.2.1 u.2.2.2.2.1 u.2.2.2.2.2.1 u.2.2.2.2.2.2.1 u.2.2.2.2.2.2.2.1 u.2.2.2.2.2.2.2.2.1 l1).eval (rK p c name j k u) l m:=by
 obtain ⟨nx,tk,pg,ps,os,pi,fi,rd,ou,_⟩:=u;have ye:bO al os:=ho;have agT:os.length≤8:=mu;have h':bO ao ps:=h;have Cr:p∈ps:=hp;have Mj:∀ o∈os,o.1≠(k:Int):=jB;have d1:=eG (l:=l1) (CO (nx:=nx) (tk:=tk) (pg:=pg) (ps:=ps) (pi:=pi) (fi:=fi) (rd:=rd) (ou:=ou) (b:=2) (c:=name) (k:=(k:Int)) (l:=[]) Mj ⟨by omega,by omega⟩ (by omega)) (by omega);have agU:bO al (bF al ((k:Int),2,name,0,0,()) os):=gH ye Mj;have d2:=eG (l:=l1++[eE 10 k 2 name]) (uO (o:=((k:Int),2,name,0,0,())) (nx:=nx) (tk:=tk) (pg:=pg) (ps:=ps) (pi:=pi) (fi:=fi) (rd:=rd) (ou:=ou) (b:=1) (c:=0) (l:=[]) agU (de.2 (.inl rfl)) (by rw [iL];omega) ⟨by show (-1000:Int)≤0+1;omega,by show (0:Int)+1≤1000;omega⟩) (by rw [aY];omega);have e2:bW al (bF al ((k:Int),2,name,0,0,()) os) (k:Int) (cG (0+1))=bF al ((k:Int),2,name,0,1,()) os:=pX (f:=cG (0+1)) Mj rfl;have d2':=d2.trans (congrArg (λz=>some ((gz (nx,tk,pg,ps,z,pi,fi,rd,ou,()) (l1++[eE 10 k 2 name]++[eE 11 k 1 0]),()),((),(),()))) e2);have d3:=eG (l:=l1++[eE 10 k 2 name]++[eE 11 k 1 0]) (ED (nx:=nx) (tk:=tk) (pg:=pg) (os:=bF al ((k:Int),2,name,0,1,()) os) (pi:=pi) (fi:=fi) (rd:=rd) (ou:=ou) (b:=(j:Int)) (c:=(k:Int)) (l:=[]) h' Cr ⟨by omega,by rw [h4];omega⟩) (by rw [aY,aY];omega);have Mk:bO ao (bM ps p.1 (b9 ((aA p).set j (k:Int)))):=dB h' λ_ _ _=>rfl;have Mf:b9 ((aA p).set j (k:Int)) p∈bM ps p.1 (b9 ((aA p).set j (k:Int))):=(aW h' Cr).2 (.inl rfl);rw [abo] at d3;unfold rK;rw [abo];dsimp only [xn];refine Gv.step (aa rfl) ?_;refine Gv.step (aa d1) ?_;refine Gv.step (aa rfl) ?_;refine Gv.step (aa d2') ?_;refine Gv.step (aa rfl) ?_;refine Gv.step (aa d3) ?_;exact bP (u:=di p.1 (b9 ((aA p).set j (k:Int))) (bp (bF al ((k:Int),2,name,0,1,())) (nx,tk,pg,ps,os,pi,fi,rd,ou,()))) Mk Mf hc (y:=(j:Int)) (cM (by omega)) (l1:=l1++[eE 10 k 2 name]++[eE 11 k 1 0]++[eE 9 p.1 j k]) (by rw [aY,aY,aY];omega) (by rw [aY,aY,aY];omega)
theorem G8 (h:aL 0 tl u) (hp:p∈bm u) {c:ag} (hc:aP c.1 c.2.1=true) (hl:l.length≤98000):Gv (Ml (gz u l,pT p,c,())) (kU p c u) l 10:=by
 have qY:=(ed hc (k:=0) (by omega)).1;have QZ:=(ed hc (k:=1) (by omega)).1;have agV:nth c.2.1 (Int.toNat (0:Int))=some (cW c 0):=qY;have acV:nth c.2.1 (Int.toNat (1:Int))=some (cW c 1):=QZ;have h4:=(h.loc p hp).fds;have A7:=sw (p:=p) h4 (k:=0) (by omega);have Q0:=rJ (u:=u) (k:=0) (by omega);have Uf:=EI (od u) (cW c 0);have uH:(od u).length≤6:=xU h;have mu:=oc h;unfold kU;show Gv (Out.eval (CP _)) _ _ _;dsimp only [CP,gz];refine Gv.step (ab (by rfl)) ?_;refine Gv.step (aa agV) ?_;refine Gv.step (aa A7) ?_;refine Gv.step (aa Q0) ?_;by_cases a1:0≤cW c 0∧cW c 0≤5
 case neg=>
  rw [aa5 (.inl a1)];refine Gv.step (ae (by rw [Bool.eq_false_iff.2 λe=>a1 (fh.1 e)];rfl)) ?_;exact bP h.cF hp hc (by rfl) (by omega) (by omega)
 refine Gv.step (ab (by rw [fh.2 a1];rfl)) ?_;by_cases a2:cf (aA p) 0<0
 . rw [aa5 (.inr (.inl a2))]
   refine Gv.step (ae (iG a2)) ?_;exact bP h.cF hp hc (by rfl) (by omega) (by omega)
 refine Gv.step (ab (eZ a2)) ?_;by_cases a3:bD (eP u) 0<0
 . rw [aa5 (.inr (.inr (.inl a3)))]
   refine Gv.step (ae (iG a3)) ?_;exact bP h.cF hp hc (by rfl) (by omega) (by omega)
 refine Gv.step (ab (eZ a3)) ?_;rcases gl (k:=0) h4 (by omega) with e|⟨j,ej,_,Wd,hjf⟩
 . omega
 rcases hO (os:=eP u) (k:=0) (by omega) with e|⟨k,ek,_,hk8,Ct⟩
 . omega
 have hJ1:Gv (xo (cW c 0) (cf (aA p) 0) (bD (eP u) 0) (decide (bj u.2.2.2.2.2.2.1 (cW c 0)≥0)) u.1 u.2.1 p.1 c.1 c.2.1 u.2.2.1 u.2.2.2.1 u.2.2.2.2.1 u.2.2.2.2.2.1 u.2.2.2.2.2.2.1 u.2.2.2.2.2.2.2.1 u.2.2.2.2.2.2.2.2.1 l).eval (rK p c (cW c 0) (cf (aA p) 0) (bD (eP u) 0) (if jR (od u) (cW c 0)=true then u else ky (bF aR (cW c 0,[],())) u)) l 10:=by
  rw [ej,ek];dsimp only [xo];rw [show decide (bj u.2.2.2.2.2.2.1 (cW c 0)≥0)=jR (od u) (cW c 0) from Uf];by_cases q:jR (od u) (cW c 0)=true
  . rw [aa5 q]
    refine Gv.step (ae (by rw [q];rfl)) ?_;exact IF h.cF h.ow mu hp hc h4 Wd hk8 Ct (by omega) (by omega)
  . rw [aa3 q]
    refine Gv.step (ab (by rw [Bool.eq_false_iff.2 q];rfl)) ?_;refine Gv.step (aa rfl) ?_;obtain ⟨nx,tk,pg,ps,os,pi,fi,rd,ou,_⟩:=u;have d1:=eG (l:=l) (Q1 (nx:=nx) (tk:=tk) (pg:=pg) (ps:=ps) (os:=os) (pi:=pi) (rd:=rd) (ou:=ou) (b:=0) (c:=0) (k:=cW c 0) (l:=[]) (λy hy e=>q (pZ.2 ⟨y,hy,e⟩)) a1 (abG uH (by omega))) (by omega);refine Gv.step (aa d1) ?_;exact IF (u:=ky (bF aR (cW c 0,[],())) (nx,tk,pg,ps,os,pi,fi,rd,ou,())) h.cF h.ow mu hp hc h4 Wd hk8 Ct (l1:=l++[eE 18 (cW c 0) 0 0]) (by rw [aY];omega) (by rw [aY];omega)
 rw [show decide (bj u.2.2.2.2.2.2.1 (cW c 0)≥0)=jR (od u) (cW c 0) from Uf];rw [show decide (bj u.2.2.2.2.2.2.1 (cW c 0)≥0)=jR (od u) (cW c 0) from Uf] at hJ1;by_cases a4:jR (od u) (cW c 0)=false∧cW c 1=0
 . rw [aa5 (.inr (.inr (.inr a4)))]
   refine Gv.step (ab (by rw [a4.1];rfl)) ?_;refine Gv.step (ab (by rfl)) ?_;refine Gv.step (aa acV) ?_;refine Gv.step (ab (cT a4.2)) ?_;exact bP h.cF hp hc (by rfl) (by omega) (by omega)
 . rw [aa3 (by rintro (q|q|q|q)<;>contradiction)]
   by_cases a5:jR (od u) (cW c 0)=false
   . refine Gv.step (ab (by rw [a5];rfl)) ?_
     refine Gv.step (ab (by rfl)) ?_;refine Gv.step (aa acV) ?_;refine Gv.step (ae (dN λe=>a4 ⟨a5,e⟩)) ?_;exact hJ1
   . have a5:jR (od u) (cW c 0)=true:=by simpa using a5
     refine Gv.step (ae (by rw [a5];rfl)) ?_;exact hJ1
end
section
variable {x tl:Int} {u u' v:UT} {p:af} {o:aj} {l l':List ET} {e:ET} {β:Type} {n m:Nat}
def We (p:af) (k:Int) (u:UT):Option aj:=if 0≤k∧k<4 then (match (aA p)[k.toNat]? with|some f=>if f= -1 then none else dJ al (eP u) f|none=>none) else none
abbrev of1 (r:aj×(Bool×Unit)×Unit):Option ((aj×(Bool×Unit)×Unit)×(Unit×XI)):=some (r,((),(),(),()))
theorem EK (h:aL x tl u) (hp:p∈bm u) (k:Int):(We p k u=none∧rL (u,pT p,(k,()),())=of1 ((0,0,0,0,0,()),(false,()),()))∨∃ o∈eP u,∃ j:Nat,k=(j:Int)∧j<4∧(aA p)[j]? =some o.1∧We p k u=some o∧rL (u,pT p,(k,()),())=of1 (o,(true,()),()):=by
 have h4:=(h.loc p hp).fds;have h4':p.2.2.2.2.2.2.1.length=4:=h4;unfold We;by_cases a1:0≤k∧k<4
 case neg=>
  rw [aa3 a1];refine .inl ⟨rfl, ?_⟩;show Out.eval (oO _)=_;dsimp only [oO,pT];by_cases a2:k<0
  . exact zF rfl (iG a2)
  . refine zT ?_ (eZ a2)
    exact zF rfl (iG (by omega))
 rw [aa5 a1];obtain ⟨j,rfl⟩:∃ j:Nat,k=j:=⟨k.toNat,by omega⟩
 have hj:j<4:=by omega
 rw [abo,aa2 (show j<(aA p).length by omega)];have hg:(aA p)[j]? =some ((aA p)[j]'(by omega)):=aa2 _;have hf:=(h.ctx p hp).fds _ (acb (show j<(aA p).length by omega));generalize (aA p)[j]'(by omega)=f at hg hf;have hn:nth p.2.2.2.2.2.2.1 j=some f:=hg;by_cases e:f= -1
 . subst e
   refine .inl ⟨rfl, ?_⟩;show Out.eval (oO _)=_;dsimp only [oO,pT];simp only [abo];refine zT ?_ (eZ (by omega));refine zT ?_ (eZ (by omega));refine zT ?_;refine zG ?_;exact zT rfl (by rfl)
 . obtain ⟨o,ho,rfl⟩:=hf.resolve_left e
   refine .inr ⟨o,ho,j,rfl,hj,hg, ?_, ?_⟩
   . simp only [aa3 e]
     exact dv h.ow ho
   . obtain ⟨i,hi,Cz,jN⟩:=bu h.ow ho
     have cQ:aF (eP u) o.1=(i:Int):=hi;have qV:nth u.2.2.2.2.1 i=some o:=jN;show Out.eval (oO _)=_;dsimp only [oO,pT];simp only [abo];refine zT ?_ (eZ (by omega));refine zT ?_ (eZ (by omega));refine zT ?_;refine zG ?_;refine zF ?_ (dN e);refine zT ?_;refine zG ?_;rw [show aF u.2.2.2.2.1 o.1=(i:Int) from cQ];simp only [abo];refine zT ?_;exact zG rfl qV
def dup2 (p:af) (c:ag) (o:aj) (fd:Int) (u:UT):UT:=ct p.1 c fd (di p.1 (b9 ((aA p).set fd.toNat o.1)) (bp (λos=>bW al os o.1 (cG (bG o+1))) u))
def Kx (p:af) (c:ag) (u:UT):UT:=match We p (cW c 0) u with
 |none=>ct p.1 c (-1) u
 |some o=>if cf (aA p) 0<0 then ct p.1 c (-1) u else dup2 p c o (cf (aA p) 0) u
theorem acW (h:aL 0 tl u) (hp:p∈bm u) (h1:cE p=1) {c:ag} (hc:aP c.1 c.2.1=true):aL 0 tl (Kx p c u):=by
 unfold Kx;rcases EK h hp (cW c 0) with ⟨e,_⟩|⟨o,ho,j,_,_,_,e,_⟩
 . rw [e];exact cj h hp hc (by rfl)
 . rw [e]
   simp only;split
   . exact cj h hp hc (by rfl)
   . rename_i hf
     rcases gl (k:=0) (h.loc p hp).fds (by omega) with e|⟨j,ej,_,Wd,hjf⟩
     . omega
     rw [ej];unfold dup2;rw [abo];have hid:=(h.op o ho).id;have hA:aL 0 tl (di p.1 (b9 ((aA p).set j o.1)) (bp (λos=>bW al os o.1 (cG (bG o+1))) u)):=Inv.T6 h hp h1 hjf ho (.inr ⟨rfl,rfl⟩) (by rw [aa3 (by omega)]);exact cj (p:=b9 ((aA p).set j o.1) p) hA ((aW h.cF hp).2 (.inl rfl)) hc (cM (by omega))
theorem acX (h:aL 0 tl u) (hp:p∈bm u) {c:ag} (hc:aP c.1 c.2.1=true) (hl:l.length≤98000):Gv (Mm (gz u l,pT p,c,())) (Kx p c u) l 10:=by
 have qY:nth c.2.1 (Int.toNat (0:Int))=some (cW c 0):=(ed hc (k:=0) (by omega)).1;have h4:=(h.loc p hp).fds;have A7:=sw (p:=p) h4 (k:=0) (by omega);unfold Kx;show Gv (Out.eval (CQ _)) _ _ _;dsimp only [CQ,gz];refine Gv.step (ab (by rfl)) ?_;refine Gv.step (aa qY) ?_;rcases EK h hp (cW c 0) with ⟨e,ev⟩|⟨o,ho,_,_,_,_,e,ev⟩
 . rw [e]
   refine Gv.step (aa ev) ?_;refine Gv.step (aa A7) ?_;refine Gv.step (ae (by rfl)) ?_;exact bP h.cF hp hc (by rfl) (by omega) (by omega)
 . rw [e]
   simp only;refine Gv.step (aa ev) ?_;refine Gv.step (aa A7) ?_;refine Gv.step (ab (by rfl)) ?_;by_cases a2:cf (aA p) 0<0
   . rw [aa5 a2]
     refine Gv.step (ab (aaE a2)) ?_;exact bP h.cF hp hc (by rfl) (by omega) (by omega)
   rw [aa3 a2];refine Gv.step (ae (aa1 a2)) ?_;rcases gl (k:=0) h4 (by omega) with e|⟨j,ej,_,Wd,hjf⟩
   . omega
   rw [ej];unfold dup2;rw [abo];have Qx:=Cs h ho;have mu:=oc h;have qW:=h.cF;have QS:=h.ow;obtain ⟨nx,tk,pg,ps,os,pi,fi,rd,ou,_⟩:=u;have d1:=eG (l:=l) (uO (nx:=nx) (tk:=tk) (pg:=pg) (ps:=ps) (pi:=pi) (fi:=fi) (rd:=rd) (ou:=ou) (b:=1) (c:=0) (l:=[]) QS ho (abG mu (by omega)) (by omega)) (by omega);have d2:=eG (l:=l++[eE 11 o.1 1 0]) (ED (nx:=nx) (tk:=tk) (pg:=pg) (os:=bW al os o.1 (cG (bG o+1))) (pi:=pi) (fi:=fi) (rd:=rd) (ou:=ou) (b:=(j:Int)) (c:=o.1) (l:=[]) qW hp ⟨by omega,by rw [h4];omega⟩) (by rw [aY];omega);rw [abo] at d2;refine Gv.step (aa rfl) ?_;refine Gv.step (aa d1) ?_;refine Gv.step (aa rfl) ?_;refine Gv.step (aa d2) ?_;have Mk:bO ao (bM ps p.1 (b9 ((aA p).set j o.1))):=dB qW λ_ _ _=>rfl;have Mf:b9 ((aA p).set j o.1) p∈bM ps p.1 (b9 ((aA p).set j o.1)):=(aW qW hp).2 (.inl rfl);exact bP (u:=di p.1 (b9 ((aA p).set j o.1)) (bp (λos=>bW al os o.1 (cG (bG o+1))) (nx,tk,pg,ps,os,pi,fi,rd,ou,()))) Mk Mf hc (y:=(j:Int)) (cM (by omega)) (l1:=l++[eE 11 o.1 1 0]++[eE 9 p.1 j o.1]) (by rw [aY,aY];omega) (by rw [aY,aY];omega)
def Bd (p:af) (c:ag) (u:UT):UT:=if 12≤(cd p).length∨60<lS (bm u) then ct p.1 c (-1) u else ct p.1 c ((cd p).length:Nat) (di p.1 (kg (cd p++[0,0,0,0])) u)
theorem Wf (h:aL 0 tl u) (hp:p∈bm u) (h1:cE p=1) {c:ag} (hc:aP c.1 c.2.1=true):aL 0 tl (Bd p c u):=by
 unfold Bd;split
 . exact cj h hp hc (by rfl)
 . rename_i hn
   have hm:=(h.loc p hp).mem;have a1:¬ 12≤(cd p).length:=λe=>hn (.inl e);have a2:¬ 60<lS (bm u):=λe=>hn (.inr e);have hw:aG (cd p++[0,0,0,0])=true:=by
    have:=hm.2.2;unfold aG at this ⊢;rw [adE,this];rfl
   have hA:aL 0 tl (di p.1 (kg (cd p++[0,0,0,0])) u):=Inv.mem h hp ⟨by rw [abz];show _+4≤12;omega,by rw [abz];show (_+4) % 4=0;omega,hw⟩ (by omega) (by rw [abz];show 0<_+4;omega) (by rw [abz];show lS (bm u)+(_+4)≤_;omega);exact cj (p:=kg (cd p++[0,0,0,0]) p) hA ((aW h.cF hp).2 (.inl rfl)) hc (cM (by omega))
theorem Wg (h:aL 0 tl u) (hp:p∈bm u) {c:ag} (hc:aP c.1 c.2.1=true) (hl:l.length≤98000):Gv (Mn (gz u l,pT p,c,())) (Bd p c u) l 10:=by
 have hm:=(h.loc p hp).mem;have oH:p.2.2.2.2.2.1.length≤12∧p.2.2.2.2.2.1.length % 4=0:=⟨hm.1,hm.2.1⟩
 have ea:(cd p).length=p.2.2.2.2.2.1.length:=rfl;unfold Bd;show Gv (Out.eval (CR _)) _ _ _;dsimp only [CR,gz,pT];rw [Ue _ (by omega)];refine Gv.step (ae (by rfl)) ?_;by_cases a1:12≤(cd p).length
 . rw [aa5 (.inl a1)]
   refine Gv.step (ae (iG (by omega))) ?_;exact bP h.cF hp hc (by rfl) (by omega) (by omega)
 refine Gv.step (ab (eZ (by omega))) ?_;by_cases a2:60<lS (bm u)
 . rw [aa5 (.inr a2)]
   refine Gv.step (aa (CG h (n:=1) (by omega) (q:=false) (aa1 (by omega)))) ?_;refine Gv.step (ab (by rfl)) ?_;exact bP h.cF hp hc (by rfl) (by omega) (by omega)
 . rw [aa3 (by rintro (e|e)<;>omega)]
   have hr:=CG h (n:=1) (by omega) (q:=true) (aaE (by omega));refine Gv.step (aa hr) ?_;refine Gv.step (ae (by rfl)) ?_;have qW:=h.cF;obtain ⟨nx,tk,pg,ps,os,pi,fi,rd,ou,_⟩:=u;have d1:=eG (l:=l) (Q2 (b:=0) (c:=0) (l:=[]) qW hp ⟨by omega,hm.2.1⟩ hr) (by omega);refine Gv.step (aa rfl) ?_;refine Gv.step (aa d1) ?_;have Mk:bO ao (bM ps p.1 (kg (cd p++[0,0,0,0]))):=dB qW λ_ _ _=>rfl;have Mf:kg (cd p++[0,0,0,0]) p∈bM ps p.1 (kg (cd p++[0,0,0,0])):=(aW qW hp).2 (.inl rfl);exact bP (u:=di p.1 (kg (cd p++[0,0,0,0])) (nx,tk,pg,ps,os,pi,fi,rd,ou,())) Mk Mf hc (y:=((cd p).length:Nat)) (cM (by omega)) (l1:=l++[eE 7 p.1 0 0]) (by rw [aY];omega) (by rw [aY];omega)
def Be (p:af) (c:ag) (u:UT):UT:=if ¬ (0≤cW c 0∧cW c 0<(u.2.2.1.length:Nat)) then ct p.1 c (-1) u else AF p.1 (0,[0,0,0,0],()) (di p.1 (og (cW c 0)) u)
theorem Wh (h:aL 0 tl u) (hp:p∈bm u) (h1:cE p=1) {c:ag} (hc:aP c.1 c.2.1=true):aL 0 tl (Be p c u):=by
 unfold Be;split
 . exact cj h hp hc (by rfl)
 . rename_i hn
   have hl:=h.loc p hp;have hm:=hl.mem;have mv:=(hl.live (by omega)).2 (by have:=(h.ctx p hp).pid;omega);have hA:aL 0 tl (di p.1 (og (cW c 0)) u):=Inv.exec h hp (Classical.byContradiction hn) (by omega) (by omega);exact IG (p:=og (cW c 0) p) hA ((aW h.cF hp).2 (.inl rfl)) (c:=(0,[0,0,0,0],())) (by rfl)
theorem Wi (h:aL 0 tl u) (hp:p∈bm u) (h1:cE p=1) {c:ag} (hc:aP c.1 c.2.1=true) (hl:l.length≤98000):Gv (Mo (gz u l,pT p,c,())) (Be p c u) l 10:=by
 have qY:nth c.2.1 (Int.toNat (0:Int))=some (cW c 0):=(ed hc (k:=0) (by omega)).1;have G9:=h.loc p hp;have mv:=(G9.live (by omega)).2 (by have:=(h.ctx p hp).pid;omega);unfold Be;show Gv (Out.eval (CS _)) _ _ _;dsimp only [CS,gz];refine Gv.step (ab (by rfl)) ?_;refine Gv.step (aa qY) ?_;by_cases a1:cW c 0<0
 . rw [aa5 (by omega)]
   refine Gv.step (ae (iG a1)) ?_;exact bP h.cF hp hc (by rfl) (by omega) (by omega)
 refine Gv.step (ab (eZ a1)) ?_;by_cases a2:cW c 0≥(u.2.2.1.length:Nat)
 . rw [aa5 (by omega)]
   refine Gv.step (ab (aaE a2)) ?_;exact bP h.cF hp hc (by rfl) (by omega) (by omega)
 rw [aa3 (by omega)];refine Gv.step (ae (aa1 a2)) ?_;have qW:=h.cF;obtain ⟨nx,tk,pg,ps,os,pi,fi,rd,ou,_⟩:=u;have d1:=eG (l:=l) (Q3 (nx:=nx) (tk:=tk) (pg:=pg) (os:=os) (pi:=pi) (fi:=fi) (rd:=rd) (ou:=ou) (b:=cW c 0) (c:=0) (l:=[]) qW hp ⟨by omega,Int.not_le.1 a2⟩ mv) (by omega);refine Gv.step (aa rfl) ?_;refine Gv.step (aa d1) ?_;have hz:oP ((4,()),())=some ((([0,0,0,0],()),()),((),())):=rfl;refine Gv.step (aa hz) ?_;have Mk:bO ao (bM ps p.1 (og (cW c 0))):=dB qW λ_ _ _=>rfl;have Mf:og (cW c 0) p∈bM ps p.1 (og (cW c 0)):=(aW qW hp).2 (.inl rfl);have d2:=Ha (u:=di p.1 (og (cW c 0)) (nx,tk,pg,ps,os,pi,fi,rd,ou,())) Mk Mf (c:=(0,[0,0,0,0],())) (by rfl) (l:=l++[eE 8 p.1 (cW c 0) 0]) (by rw [aY];omega);refine Gv.step (aa d2) ?_;exact Gv.ret (by rw [aY,aY];omega)
def uW (p:af) (c:ag) (u:UT):UT:=if cW c 0≤0 then ct p.1 c 0 u else if 1000000<u.2.1+cW c 0 then ct p.1 c (-1) u else rH p.1 2 (u.2.1+cW c 0) (ct p.1 c 0 u)
theorem Q4 (h:aL 0 tl u) (ht:tl≤u.2.1) (hp:p∈bm u) (h1:cE p=1) {c:ag} (hc:aP c.1 c.2.1=true):aL 0 tl (uW p c u):=by
 unfold uW;split
 . exact cj h hp hc (by rfl)
 . split
   . exact cj h hp hc (by rfl)
   . have hA:=cj h hp hc (y:=0) (by rfl)
     exact xi (p:=oA (qX c 0 0) p) hA ((aW h.cF hp).2 (.inl rfl)) h1 (by omega) (λ_=>by omega) (by omega) (by omega)
theorem Q5 (h:aL 0 tl u) (hp:p∈bm u) (h1:cE p=1) {c:ag} (hc:aP c.1 c.2.1=true) (hl:l.length≤98000):Gv (Mp (gz u l,pT p,c,())) (uW p c u) l 10:=by
 have qY:nth c.2.1 (Int.toNat (0:Int))=some (cW c 0):=(ed hc (k:=0) (by omega)).1;have hr:=Mi hc (k:=0) (by omega);have AG:=h.AG;have hw:IntKind.i64.wrap (u.2.1+cW c 0)=u.2.1+cW c 0:=b7 (by omega) (by omega);unfold uW;show Gv (Out.eval (CT _)) _ _ _;dsimp only [CT,gz];refine Gv.step (ab (by rfl)) ?_;refine Gv.step (aa qY) ?_;by_cases a1:cW c 0≤0
 . rw [aa5 a1]
   refine Gv.step (ab (aaE a1)) ?_;exact bP h.cF hp hc (by rfl) (by omega) (by omega)
 rw [aa3 a1];refine Gv.step (ae (aa1 a1)) ?_;rw [hw];by_cases a2:1000000<u.2.1+cW c 0
 . rw [aa5 a2]
   refine Gv.step (ab (aaE a2)) ?_;exact bP h.cF hp hc (by rfl) (by omega) (by omega)
 rw [aa3 a2];refine Gv.step (ae (aa1 a2)) ?_;obtain ⟨l1,e1,GY⟩:=CE h.cF hp hc (y:=0) (by rfl) (l:=l) (by omega);refine Gv.step (aa e1) ?_;have hA:=cj h hp hc (y:=0) (by rfl);have d2:=xj (p:=oA (qX c 0 0) p) (s:=2) (t:=u.2.1+cW c 0) hA ((aW h.cF hp).2 (.inl rfl)) h1 (l:=l1) (by omega);have hw2:IntKind.i64.wrap ((ct p.1 c 0 u).2.1+cW c 0)=u.2.1+cW c 0:=hw;show Gv (Out.eval (Out.get (uX (gz (ct p.1 c 0 u) l1,(p.1,()),(2,()),(IntKind.i64.wrap ((ct p.1 c 0 u).2.1+cW c 0),()),())) _)) _ _ _;rw [hw2];refine Gv.step (aa d2) ?_;exact Gv.ret (by rw [aY,aY];omega)
def EM (os:List aj) (v:Int):Bool:=os.any (mq 2 v)
theorem Mq {os:List aj} {v:Int}:EM os v=true↔∃ o∈os,bE o=2∧cg o=v:=by
 unfold EM mq;rw [List.any_eq_true];constructor
 . intro ⟨o,ho,h⟩
   rw [aa4,acy,acy] at h;exact ⟨o,ho,h⟩
 . intro ⟨o,ho,h⟩
   exact ⟨o,ho,by rw [aa4,acy,acy];exact h⟩
theorem EN {os:List aj} (h:os.length≤1000) (v k:Int):decide (gZ os v k>0)=os.any (mq k v):=by
 have hB:aM=9223372036854775807:=rfl;rw [qa (by omega),ace,aco,List.any_eq_true];constructor
 . intro q
   obtain ⟨a,ha,e⟩:=List.countP_pos_iff.1 (show 0<os.countP (mq k v) by omega);exact ⟨a,ha,e⟩
 . intro ⟨a,ha,e⟩
   have:=List.countP_pos_iff.2 ⟨a,ha,e⟩;omega
theorem Bf {os:List aj} (h:os.length≤1000) (v k:Int):(gZ os v k==0)= !os.any (mq k v):=by
 have hB:aM=9223372036854775807:=rfl;rw [← EN h,qa (by omega),ace];simp
def qb (p:af) (c:ag) (u:UT):UT:=if jR (od u) (cW c 0)=false∨EM (eP u) (cW c 0)=true then ct p.1 c (-1) u else ct p.1 c 0 (ky (λfi=>Iy fi (cW c 0)) u)
theorem Mr (h:aL 0 tl u) (hp:p∈bm u) {c:ag} (hc:aP c.1 c.2.1=true):aL 0 tl (qb p c u):=by
 unfold qb;split
 . exact cj h hp hc (by rfl)
 . rename_i hn
   have hA:aL 0 tl (ky (λfi=>Iy fi (cW c 0)) u):=Inv.unlink h λo ho k t=>hn (.inr (Mq.2 ⟨o,ho,k,t⟩));exact cj hA hp hc (by rfl)
theorem Ms (h:aL 0 tl u) (hp:p∈bm u) {c:ag} (hc:aP c.1 c.2.1=true) (hl:l.length≤98000):Gv (Mt (gz u l,pT p,c,())) (qb p c u) l 10:=by
 have qY:nth c.2.1 (Int.toNat (0:Int))=some (cW c 0):=(ed hc (k:=0) (by omega)).1;have mu:=oc h;have uH:=xU h;have qW:=h.cF;have Qx:=h.xV;obtain ⟨nx,tk,pg,ps,os,pi,fi,rd,ou,_⟩:=u;have IH:decide (bj fi (cW c 0)<0)= !jR fi (cW c 0):=uV (key:=aR);have hep:decide (gZ os (cW c 0) 2>0)=EM os (cW c 0):=EN (abG mu (by omega)) _ _;unfold qb;show Gv (Out.eval (CU _)) _ _ _;dsimp only [CU,gz,od,eP];refine Gv.step (ab (by rfl)) ?_;refine Gv.step (aa qY) ?_;rw [IH];by_cases a1:jR fi (cW c 0)=false
 . rw [aa5 (.inl a1)]
   refine Gv.step (ae (by rw [a1];rfl)) ?_;exact bP (u:=(nx,tk,pg,ps,os,pi,fi,rd,ou,())) qW hp hc (by rfl) (by omega) (by omega)
 have a1':jR fi (cW c 0)=true:=by simpa using a1
 refine Gv.step (ab (by rw [a1'];rfl)) ?_;rw [hep];by_cases a2:EM os (cW c 0)=true
 . rw [aa5 (.inr a2)]
   refine Gv.step (ab a2) ?_;exact bP (u:=(nx,tk,pg,ps,os,pi,fi,rd,ou,())) qW hp hc (by rfl) (by omega) (by omega)
 rw [aa3 (by rintro (e|e)<;>contradiction)];refine Gv.step (ae (Bool.eq_false_iff.2 a2)) ?_;obtain ⟨y,hy,hyn⟩:=pZ.1 a1';have d1:=eG (l:=l) (Q6 (nx:=nx) (tk:=tk) (pg:=pg) (ps:=ps) (os:=os) (pi:=pi) (rd:=rd) (ou:=ou) (b:=0) (c:=0) (l:=[]) Qx hy (abG uH (by omega))) (by omega);rw [hyn] at d1;refine Gv.step (aa rfl) ?_;refine Gv.step (aa d1) ?_;exact bP (u:=ky (λfi=>Iy fi (cW c 0)) (nx,tk,pg,ps,os,pi,fi,rd,ou,())) qW hp hc (by rfl) (l1:=l++[eE 20 (cW c 0) 0 0]) (by rw [aY];omega) (by rw [aY];omega)
end
section
variable {x tl:Int} {u u' v:UT} {p:af} {o:aj} {l l':List ET} {e:ET} {β:Type} {n m:Nat}
theorem yf {α:Type} {key:α→Int} {y:α} {f:α→α} {v:Int} (dV:key y≠v) (hf:∀ x,key (f x)=key x):∀ {a:List α},bW key (bF key y a) v f=bF key y (bW key a v f)
 |[]=>by
  show (if key y=v then f y else y)::[]=[y]
  rw [aa3 dV]
 |x::r=>by
  have ih:=yf (y:=y) dV hf (a:=r);have hk:key (if key x=v then f x else x)=key x:=by split<;>simp [hf]
  unfold bF;show _=(match (if key x=v then f x else x)::bW key r v f with|[]=>[y]|x::r=>if key y<key x then y::x::r else x::bF key y r)
  simp only [hk];by_cases q:key y<key x
  . rw [aa5 q,aa5 q]
    show (if key y=v then f y else y)::(if key x=v then f x else x)::bW key r v f=_;rw [aa3 dV]
  . rw [aa3 q,aa3 q]
    show (if key x=v then f x else x)::bW key (bF key y r) v f=_;rw [ih]
def yg (p:af) (c:ag) (w f g a b:Int) (u:UT):UT:=hJ p.1 c f g (di p.1 (b9 (((aA p).set f.toNat a).set g.toNat b)) (bp (λos=>bF al (b,4,w,0,1,()) (bF al (a,3,w,0,1,()) os)) (gi (bF aB (w,[],())) u)))
def kV (p:af) (c:ag) (u:UT):UT:=
 if gG (oG u)<0∨cf (aA p) 0<0∨cf (aA p) (cf (aA p) 0+1).toNat<0∨bD (eP u) 0<0∨bD (eP u) (bD (eP u) 0+1).toNat<0 then ct p.1 c (-1) u
 else yg p c (gG (oG u)) (cf (aA p) 0) (cf (aA p) (cf (aA p) 0+1).toNat) (bD (eP u) 0) (bD (eP u) (bD (eP u) 0+1).toNat) u
theorem Mu (h:aL 0 tl u) (hp:p∈bm u) (h1:cE p=1) {c:ag} (hc:aP c.1 c.2.1=true) {w f g a b:Nat} (hw:w<3) (Ug:∀ y∈oG u,y.1≠(w:Int)) (hf:f<4) (hff:(aA p)[f]? =some (-1)) (hg:g<4) (wW:(aA p)[g]? =some (-1)) (hfg:f<g)
  (ha:a<8) (Wj:∀ o∈eP u,o.1≠(a:Int)) (hb:b<8) (Wk:∀ o∈eP u,o.1≠(b:Int)) (Uh:a<b):aL 0 tl (yg p c w f g a b u):=by
 have hA:aL 0 tl (di p.1 (b9 ((aA p).set f (a:Int))) (bp (bF al ((a:Int),3,(w:Int),0,1,())) (gi (bF aB ((w:Int),[],())) u))):=
  Inv.Wb (o:=((a:Int),3,(w:Int),0,1,())) (pi':=bF aB ((w:Int),[],()) (oG u)) h hp h1 hff ⟨by show (0:Int)≤a;omega,by show (a:Int)≤7;omega⟩ Wj rfl
   (.inr ⟨.inl rfl,⟨_,de.2 (.inl rfl),rfl⟩,rfl⟩) (λz hz=>by
    rcases de.1 hz with rfl|hz
    . exact .inr ⟨rfl, .inl rfl,⟨by show (0:Int)≤w;omega,by show (w:Int)≤2;omega⟩,rfl⟩
    . exact .inl hz) (λz hz=>de.2 (.inr hz)) (gH h.wu Ug)
 have yb:b9 ((aA p).set f (a:Int)) p∈bm (di p.1 (b9 ((aA p).set f (a:Int))) (bp (bF al ((a:Int),3,(w:Int),0,1,())) (gi (bF aB ((w:Int),[],())) u))):=(aW h.cF hp).2 (.inl rfl);have hg2:((aA p).set f (a:Int))[g]? =some (-1):=by rw [List.getElem?_set,aa3 (by omega)];exact wW
 have hB0:aL 0 tl (di p.1 (b9 (((aA p).set f (a:Int)).set g (b:Int))) (bp (bF al ((b:Int),4,(w:Int),0,1,())) (di p.1 (b9 ((aA p).set f (a:Int))) (bp (bF al ((a:Int),3,(w:Int),0,1,())) (gi (bF aB ((w:Int),[],())) u))))):=
  Inv.Wb (o:=((b:Int),4,(w:Int),0,1,())) (pi':=bF aB ((w:Int),[],()) (oG u)) (p:=b9 ((aA p).set f (a:Int)) p) hA yb h1 hg2 ⟨by show (0:Int)≤b;omega,by show (b:Int)≤7;omega⟩ (λo ho=>by
    rcases de.1 ho with rfl|ho
    . show (a:Int)≠(b:Int);omega
    . exact Wk o ho) rfl
   (.inr ⟨.inr rfl,⟨_,de.2 (.inl rfl),rfl⟩,rfl⟩) (λz hz=> .inl hz) (λz hz=>hz) (gH h.wu Ug)
 have huu:bM (bM (bm u) p.1 (b9 ((aA p).set f (a:Int)))) p.1 (b9 (((aA p).set f (a:Int)).set g (b:Int)))=bM (bm u) p.1 (b9 (((aA p).set f (a:Int)).set g (b:Int))):=uR (key:=ao) (f:=b9 ((aA p).set f (a:Int))) (g:=b9 (((aA p).set f (a:Int)).set g (b:Int))) (λ_=>rfl) _;have hB:aL 0 tl (di p.1 (b9 (((aA p).set f (a:Int)).set g (b:Int))) (bp (λos=>bF al ((b:Int),4,(w:Int),0,1,()) (bF al ((a:Int),3,(w:Int),0,1,()) os)) (gi (bF aB ((w:Int),[],())) u))):=by
  have e:(di p.1 (b9 (((aA p).set f (a:Int)).set g (b:Int))) (bp (bF al ((b:Int),4,(w:Int),0,1,())) (di p.1 (b9 ((aA p).set f (a:Int))) (bp (bF al ((a:Int),3,(w:Int),0,1,())) (gi (bF aB ((w:Int),[],())) u)))))=(di p.1 (b9 (((aA p).set f (a:Int)).set g (b:Int))) (bp (λos=>bF al ((b:Int),4,(w:Int),0,1,()) (bF al ((a:Int),3,(w:Int),0,1,()) os)) (gi (bF aB ((w:Int),[],())) u))):=
   congrArg (λz=>((u.1,u.2.1,u.2.2.1,z,bF al ((b:Int),4,(w:Int),0,1,()) (bF al ((a:Int),3,(w:Int),0,1,()) (eP u)),bF aB ((w:Int),[],()) (oG u),u.2.2.2.2.2.2):UT)) huu
  rw [← e];exact hB0
 unfold yg;simp only [abo];exact xh (p:=b9 (((aA p).set f (a:Int)).set g (b:Int)) p) hB ((aW h.cF hp).2 (.inl rfl)) hc (cM (by omega)) (cM (by omega))
theorem oQ (h:aL x tl u) (hp:p∈bm u) {P:Prop} (sx:(gG (oG u)<0∨cf (aA p) 0<0∨cf (aA p) (cf (aA p) 0+1).toNat<0∨bD (eP u) 0<0∨bD (eP u) (bD (eP u) 0+1).toNat<0)→P)
  (mv:∀ w f g a b:Nat,gG (oG u)=w→cf (aA p) 0=f→cf (aA p) (f+1)=g→bD (eP u) 0=a→bD (eP u) (a+1)=b→w<3→(∀ y∈oG u,y.1≠(w:Int))→f<4→(aA p)[f]? =some (-1)→g<4→(aA p)[g]? =some (-1)→f<g→a<8→(∀ o∈eP u,o.1≠(a:Int))→b<8→(∀ o∈eP u,o.1≠(b:Int))→a<b→P):P:=by
 have h4:=(h.loc p hp).fds;rcases yc (pi:=oG u) with e|⟨w,ew,hw,Ug⟩
 . exact sx (.inl (by omega))
 rcases gl (k:=0) h4 (by omega) with e|⟨f,ef,_,hf,hff⟩
 . exact sx (.inr (.inl (by omega)))
 have ef1:(cf (aA p) 0+1).toNat=f+1:=by omega
 rcases gl (k:=f+1) h4 (by omega) with e|⟨g,eg,hg1,hg,wW⟩
 . exact sx (.inr (.inr (.inl (by rw [ef1];omega))))
 rcases hO (os:=eP u) (k:=0) (by omega) with e|⟨a,ea,_,ha,Wj⟩
 . exact sx (.inr (.inr (.inr (.inl (by omega)))))
 have ea1:(bD (eP u) 0+1).toNat=a+1:=by omega
 rcases hO (os:=eP u) (k:=a+1) (by omega) with e|⟨b,eb,GK,hb,Wk⟩
 . exact sx (.inr (.inr (.inr (.inr (by rw [ea1];omega)))))
 exact mv w f g a b ew ef eg ea eb hw Ug hf hff hg wW (by omega) ha Wj hb Wk (by omega)
theorem Hb (h:aL 0 tl u) (hp:p∈bm u) (h1:cE p=1) {c:ag} (hc:aP c.1 c.2.1=true):aL 0 tl (kV p c u):=by
 unfold kV;refine oQ h hp (λhn=> ?_) λw f g a b ew ef eg ea eb hw Ug hf hff hg wW hfg ha Wj hb Wk Uh=> ?_
 . rw [aa5 hn];exact cj h hp hc (by rfl)
 . have ef1:(cf (aA p) 0+1).toNat=f+1:=by omega
   have ea1:(bD (eP u) 0+1).toNat=a+1:=by omega
   rw [ef1,ea1,ew,ef,eg,ea,eb,aa3 (by omega)];exact Mu h hp h1 hc hw Ug hf hff hg wW hfg ha Wj hb Wk Uh
theorem Hc (h:aL 0 tl u) (hp:p∈bm u) {c:ag} (hc:aP c.1 c.2.1=true) (hl:l.length≤98000):Gv (Mv (gz u l,pT p,c,())) (kV p c u) l 10:=by
 have h4:=(h.loc p hp).fds;have wX:=G6 (u:=u);have Q7:=sw (p:=p) h4 (k:=0) (by omega);have hv3:=rJ (u:=u) (k:=0) (by omega);have hB:aM=9223372036854775807:=rfl;obtain ⟨f',ef',AE⟩:∃ f':Nat,IntKind.i64.wrap (cf (aA p) 0+1)=(f':Int)∧f'≤4∧f'=(cf (aA p) 0+1).toNat:=by
  rcases gl (k:=0) h4 (by omega) with e|⟨f,ef,_,hf,_⟩
  . exact ⟨0,by rw [e];rfl,by omega,by omega⟩
  . exact ⟨f+1,by rw [ef];exact aw (by omega),by omega,by omega⟩
 obtain ⟨a',ea',CV⟩:∃ a':Nat,IntKind.i64.wrap (bD (eP u) 0+1)=(a':Int)∧a'≤8∧a'=(bD (eP u) 0+1).toNat:=by
  rcases hO (os:=eP u) (k:=0) (by omega) with e|⟨f,ef,_,hf,_⟩
  . exact ⟨0,by rw [e];rfl,by omega,by omega⟩
  . exact ⟨f+1,by rw [ef];exact aw (by omega),by omega,by omega⟩
 have hv2:=sw (p:=p) h4 (k:=f') AE.1;have hv4:=rJ (u:=u) (k:=a') CV.1;unfold kV;show Gv (Out.eval (CW _)) _ _ _;dsimp only [CW,gz];refine Gv.step (aa wX) ?_;refine Gv.step (aa Q7) ?_;dsimp only;rw [ef'];refine Gv.step (aa hv2) ?_;refine Gv.step (aa hv3) ?_;dsimp only;rw [ea'];refine Gv.step (aa hv4) ?_;rw [AE.2,CV.2];by_cases q0:gG (oG u)<0
 . rw [aa5 (.inl q0)]
   refine Gv.step (ae (iG q0)) ?_;exact bP h.cF hp hc (by rfl) (by omega) (by omega)
 refine Gv.step (ab (eZ q0)) ?_;by_cases q1:cf (aA p) 0<0
 . rw [aa5 (.inr (.inl q1))]
   refine Gv.step (ae (iG q1)) ?_;exact bP h.cF hp hc (by rfl) (by omega) (by omega)
 refine Gv.step (ab (eZ q1)) ?_;by_cases q2:cf (aA p) (cf (aA p) 0+1).toNat<0
 . rw [aa5 (.inr (.inr (.inl q2)))]
   refine Gv.step (ae (iG q2)) ?_;exact bP h.cF hp hc (by rfl) (by omega) (by omega)
 refine Gv.step (ab (eZ q2)) ?_;by_cases q3:bD (eP u) 0<0
 . rw [aa5 (.inr (.inr (.inr (.inl q3))))]
   refine Gv.step (ae (iG q3)) ?_;exact bP h.cF hp hc (by rfl) (by omega) (by omega)
 refine Gv.step (ab (eZ q3)) ?_;by_cases q4:bD (eP u) (bD (eP u) 0+1).toNat<0
 . rw [aa5 (.inr (.inr (.inr (.inr q4))))]
   refine Gv.step (ab (aaE q4)) ?_;exact bP h.cF hp hc (by rfl) (by omega) (by omega)
 refine Gv.step (ae (aa1 q4)) ?_;rw [aa3 (by rintro (e|e|e|e|e)<;>contradiction)];refine oQ h hp (λhn=>absurd hn (by rintro (e|e|e|e|e)<;>contradiction)) λw f g a b ew ef eg ea eb hw Ug hf hff hg wW hfg ha Wj hb Wk Uh=> ?_;have ef1:(cf (aA p) 0+1).toNat=f+1:=by omega
 have ea1:(bD (eP u) 0+1).toNat=a+1:=by omega
 rw [ef1,ea1,ew,ef,eg,ea,eb];have mu:=oc h;have IH:=wq h;have qW:=h.cF;have QS:=h.ow;clear wX Q7 hv2 hv3 hv4 q0 q1 q2 q3 q4;obtain ⟨nx,tk,pg,ps,os,pi,fi,rd,ou,_⟩:=u;have ac1:bO al os:=QS;have Mw:bO ao ps:=qW;have Cr:p∈ps:=hp;have Q8:∀ o∈os,o.1≠(a:Int):=Wj;have ac2:∀ o∈os,o.1≠(b:Int):=Wk;have agT:os.length≤8:=mu;have dV:((b:Int))≠(a:Int):=by omega
 have d1:=eG (l:=l) (Q9 (nx:=nx) (tk:=tk) (pg:=pg) (ps:=ps) (os:=os) (fi:=fi) (rd:=rd) (ou:=ou) (b:=0) (c:=0) (k:=(w:Int)) (l:=[]) Ug ⟨by omega,by omega⟩ (abG IH (by omega))) (by omega);have d2:=eG (l:=l++[eE 14 w 0 0]) (CO (nx:=nx) (tk:=tk) (pg:=pg) (ps:=ps) (os:=os) (pi:=bF aB ((w:Int),[],()) pi) (fi:=fi) (rd:=rd) (ou:=ou) (b:=3) (c:=(w:Int)) (k:=(a:Int)) (l:=[]) Q8 ⟨by omega,by omega⟩ (by omega)) (by rw [aY];omega);have ac3:∀ z∈bF al ((a:Int),3,(w:Int),0,0,()) os,z.1≠(b:Int):=λz hz=>by
  rcases de.1 hz with rfl|hz
  . exact λe=>dV e.symm
  . exact ac2 z hz
 have d3:=eG (l:=l++[eE 14 w 0 0]++[eE 10 a 3 w]) (CO (nx:=nx) (tk:=tk) (pg:=pg) (ps:=ps) (os:=bF al ((a:Int),3,(w:Int),0,0,()) os) (pi:=bF aB ((w:Int),[],()) pi) (fi:=fi) (rd:=rd) (ou:=ou) (b:=4) (c:=(w:Int)) (k:=(b:Int)) (l:=[]) ac3 ⟨by omega,by omega⟩ (by rw [iL];omega)) (by rw [aY,aY];omega);have r1:bO al (bF al ((a:Int),3,(w:Int),0,0,()) os):=gH ac1 Q8;have r2:bO al (bF al ((b:Int),4,(w:Int),0,0,()) (bF al ((a:Int),3,(w:Int),0,0,()) os)):=gH r1 ac3;have d4:=eG (l:=l++[eE 14 w 0 0]++[eE 10 a 3 w]++[eE 10 b 4 w]) (uO (o:=((a:Int),3,(w:Int),0,0,())) (nx:=nx) (tk:=tk) (pg:=pg) (ps:=ps) (os:=bF al ((b:Int),4,(w:Int),0,0,()) (bF al ((a:Int),3,(w:Int),0,0,()) os)) (pi:=bF aB ((w:Int),[],()) pi) (fi:=fi) (rd:=rd) (ou:=ou) (b:=1) (c:=0) (l:=[]) r2 (de.2 (.inr (de.2 (.inl rfl)))) (by rw [iL,iL];omega) ⟨by show (-1000:Int)≤0+1;omega,by show (0:Int)+1≤1000;omega⟩) (by rw [aY,aY,aY];omega);have e4:bW al (bF al ((b:Int),4,(w:Int),0,0,()) (bF al ((a:Int),3,(w:Int),0,0,()) os)) (a:Int) (cG (0+1))=bF al ((b:Int),4,(w:Int),0,0,()) (bF al ((a:Int),3,(w:Int),0,1,()) os):=by
  rw [yf (key:=al) (y:=((b:Int),4,(w:Int),0,0,())) (f:=cG (0+1)) (v:=(a:Int)) (by show (b:Int)≠a;omega) (λ_=>rfl)];congr 1;exact pX (y:=((a:Int),3,(w:Int),0,0,())) (f:=cG (0+1)) Q8 rfl
 have d4':=d4.trans (congrArg (λz=>some ((gz (nx,tk,pg,ps,z,bF aB ((w:Int),[],()) pi,fi,rd,ou,()) (l++[eE 14 w 0 0]++[eE 10 a 3 w]++[eE 10 b 4 w]++[eE 11 a 1 0]),()),((),(),()))) e4);have ac4:∀ z∈bF al ((a:Int),3,(w:Int),0,1,()) os,z.1≠(b:Int):=λz hz=>by
  rcases de.1 hz with rfl|hz
  . exact λe=>dV e.symm
  . exact ac2 z hz
 have r3:bO al (bF al ((a:Int),3,(w:Int),0,1,()) os):=gH ac1 Q8;have r4:bO al (bF al ((b:Int),4,(w:Int),0,0,()) (bF al ((a:Int),3,(w:Int),0,1,()) os)):=gH r3 ac4;have d5:=eG (l:=l++[eE 14 w 0 0]++[eE 10 a 3 w]++[eE 10 b 4 w]++[eE 11 a 1 0]) (uO (o:=((b:Int),4,(w:Int),0,0,())) (nx:=nx) (tk:=tk) (pg:=pg) (ps:=ps) (os:=bF al ((b:Int),4,(w:Int),0,0,()) (bF al ((a:Int),3,(w:Int),0,1,()) os)) (pi:=bF aB ((w:Int),[],()) pi) (fi:=fi) (rd:=rd) (ou:=ou) (b:=1) (c:=0) (l:=[]) r4 (de.2 (.inl rfl)) (by rw [iL,iL];omega) ⟨by show (-1000:Int)≤0+1;omega,by show (0:Int)+1≤1000;omega⟩) (by rw [aY,aY,aY,aY];omega);have e5:bW al (bF al ((b:Int),4,(w:Int),0,0,()) (bF al ((a:Int),3,(w:Int),0,1,()) os)) (b:Int) (cG (0+1))=bF al ((b:Int),4,(w:Int),0,1,()) (bF al ((a:Int),3,(w:Int),0,1,()) os):=pX (y:=((b:Int),4,(w:Int),0,0,())) (f:=cG (0+1)) ac4 rfl;have d5':=d5.trans (congrArg (λz=>some ((gz (nx,tk,pg,ps,z,bF aB ((w:Int),[],()) pi,fi,rd,ou,()) (l++[eE 14 w 0 0]++[eE 10 a 3 w]++[eE 10 b 4 w]++[eE 11 a 1 0]++[eE 11 b 1 0]),()),((),(),()))) e5);have d6:=eG (l:=l++[eE 14 w 0 0]++[eE 10 a 3 w]++[eE 10 b 4 w]++[eE 11 a 1 0]++[eE 11 b 1 0]) (ED (nx:=nx) (tk:=tk) (pg:=pg) (os:=bF al ((b:Int),4,(w:Int),0,1,()) (bF al ((a:Int),3,(w:Int),0,1,()) os)) (pi:=bF aB ((w:Int),[],()) pi) (fi:=fi) (rd:=rd) (ou:=ou) (b:=(f:Int)) (c:=(a:Int)) (l:=[]) Mw Cr ⟨by omega,by rw [h4];omega⟩) (by rw [aY,aY,aY,aY,aY];omega);rw [abo] at d6;have Mk:bO ao (bM ps p.1 (b9 ((aA p).set f (a:Int)))):=dB Mw λ_ _ _=>rfl;have Mf:b9 ((aA p).set f (a:Int)) p∈bM ps p.1 (b9 ((aA p).set f (a:Int))):=(aW Mw Cr).2 (.inl rfl);have d7:=eG (l:=l++[eE 14 w 0 0]++[eE 10 a 3 w]++[eE 10 b 4 w]++[eE 11 a 1 0]++[eE 11 b 1 0]++[eE 9 p.1 f a]) (ED (nx:=nx) (tk:=tk) (pg:=pg) (os:=bF al ((b:Int),4,(w:Int),0,1,()) (bF al ((a:Int),3,(w:Int),0,1,()) os)) (pi:=bF aB ((w:Int),[],()) pi) (fi:=fi) (rd:=rd) (ou:=ou) (b:=(g:Int)) (c:=(b:Int)) (l:=[]) Mk Mf ⟨by omega,by show (g:Int)<((((aA p).set f (a:Int)).length:Nat):Int);rw [acz,h4];omega⟩) (by rw [aY,aY,aY,aY,aY,aY];omega);rw [abo] at d7;have huu:bM (bM ps p.1 (b9 ((aA p).set f (a:Int)))) p.1 (b9 (((aA p).set f (a:Int)).set g (b:Int)))=bM ps p.1 (b9 (((aA p).set f (a:Int)).set g (b:Int))):=uR (key:=ao) (f:=b9 ((aA p).set f (a:Int))) (g:=b9 (((aA p).set f (a:Int)).set g (b:Int))) (λ_=>rfl) _;have d7':=d7.trans (congrArg (λz=>some ((gz (nx,tk,pg,z,bF al ((b:Int),4,(w:Int),0,1,()) (bF al ((a:Int),3,(w:Int),0,1,()) os),bF aB ((w:Int),[],()) pi,fi,rd,ou,()) (l++[eE 14 w 0 0]++[eE 10 a 3 w]++[eE 10 b 4 w]++[eE 11 a 1 0]++[eE 11 b 1 0]++[eE 9 p.1 f a]++[eE 9 p.1 g b]),()),((),(),()))) huu);refine Gv.step (aa rfl) ?_;refine Gv.step (aa d1) ?_;refine Gv.step (aa rfl) ?_;refine Gv.step (aa d2) ?_;refine Gv.step (aa rfl) ?_;refine Gv.step (aa d3) ?_;refine Gv.step (aa rfl) ?_;refine Gv.step (aa d4') ?_;refine Gv.step (aa rfl) ?_;refine Gv.step (aa d5') ?_;refine Gv.step (aa rfl) ?_;refine Gv.step (aa d6) ?_;refine Gv.step (aa rfl) ?_;refine Gv.step (aa d7') ?_;unfold yg;simp only [abo];have hr5:bO ao (bM ps p.1 (b9 (((aA p).set f (a:Int)).set g (b:Int)))):=dB Mw λ_ _ _=>rfl;have hp5:b9 (((aA p).set f (a:Int)).set g (b:Int)) p∈bM ps p.1 (b9 (((aA p).set f (a:Int)).set g (b:Int))):=(aW Mw Cr).2 (.inl rfl);exact CF (u:=di p.1 (b9 (((aA p).set f (a:Int)).set g (b:Int))) (bp (λos=>bF al ((b:Int),4,(w:Int),0,1,()) (bF al ((a:Int),3,(w:Int),0,1,()) os)) (gi (bF aB ((w:Int),[],())) (nx,tk,pg,ps,os,pi,fi,rd,ou,())))) hr5 hp5 hc (y:=(f:Int)) (w:=(g:Int)) (cM (by omega)) (cM (by omega)) (l1:=l++[eE 14 w 0 0]++[eE 10 a 3 w]++[eE 10 b 4 w]++[eE 11 a 1 0]++[eE 11 b 1 0]++[eE 9 p.1 f a]++[eE 9 p.1 g b]) (by simp only [aY];omega) (by simp only [aY];omega)
end
section
variable {x tl:Int} {u u' v:UT} {p:af} {o:aj} {l l':List ET} {e:ET} {β:Type} {n m:Nat}
theorem kf {o:aj} {k:Int} (h:bE o≠k):(o.2.1==k)=false:=dN h
def lW (os:List aj) (k t:Int):Bool:=os.any (mq k t)
def uY (p:af) (c:ag) (o:aj) (y:ag) (u:UT):UT:=if eQ o≥(y.2.1.length:Nat) then ct p.1 c 0 u else hJ p.1 c 1 (y.2.1.getD (eQ o).toNat 0) (bp (λos=>bW al os o.1 (uZ (eQ o+1))) u)
def mM (p:af) (c:ag) (o:aj) (y:ag) (u:UT):UT:=if 0<y.2.1.length then hJ p.1 c 1 (y.2.1.getD 0 0) (ff (cg o) (gi (λpi=>bW aB pi (cg o) (eX (y.2.1.drop 1))) u))
 else if lW (eP u) 4 (cg o)=false then ct p.1 c 0 u else rH p.1 4 o.1 u
def Bg (p:af) (c:ag) (u:UT):UT:=match We p (cW c 0) u with
 |none=>ct p.1 c (-1) u
 |some o=>if bE o=4 then ct p.1 c (-1) u else if bE o=1 then ct p.1 c 0 u else if bE o=2 then (match dJ aR (od u) (cg o) with|none=>u|some y=>uY p c o y u)
  else match dJ aB (oG u) (cg o) with|none=>u|some y=>mM p c o y u
def qc (p:af) (c:ag) (o:aj) (y:ag) (u:UT):UT:=if eQ o≥8 then ct p.1 c (-1) u else ct p.1 c 1 (bp (λos=>bW al os o.1 (uZ (eQ o+1))) (ky (λfi=>bW aR fi y.1 (eX (hY y.2.1 (eQ o) (cW c 1)))) u))
def kW (p:af) (c:ag) (o:aj) (y:ag) (u:UT):UT:=if lW (eP u) 3 (cg o)=false then ct p.1 c (-1) u else if 4≤y.2.1.length then rH p.1 5 o.1 u
 else ct p.1 c 1 (ff (cg o) (gi (λpi=>bW aB pi (cg o) (eX (y.2.1++[cW c 1]))) u))
def Ra (v:Int) (u:UT):UT:=(u.1,u.2.1,u.2.2.1,u.2.2.2.1,u.2.2.2.2.1,u.2.2.2.2.2.1,u.2.2.2.2.2.2.1,u.2.2.2.2.2.2.2.1,u.2.2.2.2.2.2.2.2.1++[v],())
def u0 (p:af) (c:ag) (u:UT):UT:=match We p (cW c 0) u with
 |none=>ct p.1 c (-1) u
 |some o=>if bE o=3 then ct p.1 c (-1) u else if bE o=1 then (if 60≤(GL u).length then ct p.1 c (-1) u else ct p.1 c 1 (Ra (cW c 1) u)) else if bE o=2 then (match dJ aR (od u) (cg o) with|none=>u|some y=>qc p c o y u)
  else match dJ aB (oG u) (cg o) with|none=>u|some y=>kW p c o y u
theorem CX (h:aL x tl u) (ho:o∈eP u):bE o=1∨(bE o=2∧∃ y∈od u,y.1=cg o∧0≤eQ o∧eQ o≤(y.2.1.length:Nat))∨((bE o=3∨bE o=4)∧∃ y∈oG u,y.1=cg o):=by
 rcases (h.op o ho).kind with ⟨e,_⟩|q|⟨e,q,_⟩
 . exact .inl e
 . exact .inr (.inl q)
 . exact .inr (.inr ⟨e,q⟩)
theorem jU (h:aL x tl u) {y:ag} (hy:y∈od u):y.2.1.length≤8∧aG y.2.1=true:=by
 have:=h.Er y hy;unfold eF at this;simp only [aa4,abS] at this;exact this.2
theorem oR {l:List Int} (h:aG l=true) {k:Nat}:bV (l.getD k 0)=true:=by
 rw [ach];cases e:l[k]? with
 |none=>rfl
 |some v=>exact abD.1 h v (acx e)
theorem yh {l:List Int} (h:aG l=true) (k:Nat):aG (l.drop k)=true:=abD.2 λv hv=>abD.1 h v (afk hv)
theorem rM {l:List Int} (h:aG l=true) {v:Int} (hv:bV v=true):aG (l++[v])=true:=by
 unfold aG at h ⊢;rw [adE,h];simp [hv]
theorem Mx {l:List Int} (h:aG l=true) {v b:Int} (hv:bV v=true):aG (hY l b v)=true:=by
 unfold hY;split
 . exact rM h hv
 . refine abD.2 λy hy=> ?_
   rcases afl hy with q|rfl
   . exact abD.1 h y q
   . exact hv
theorem My (h:aL 0 tl u) (hp:p∈bm u) {c:ag} (hc:aP c.1 c.2.1=true) (ho:o∈eP u) {y:ag} (hy:y∈od u) (hk:bE o=2) (ht:y.1=cg o) (h0:0≤eQ o):aL 0 tl (uY p c o y u):=by
 unfold uY;split
 . exact cj h hp hc (by rfl)
 . have hA:aL 0 tl (bp (λos=>bW al os o.1 (uZ (eQ o+1))) u):=Inv.cw h ho hk λz hz e=>by
    obtain rfl:=h.xV.inj hz hy (e.trans ht.symm);omega
   exact xh hA hp hc (by rfl) (oR (jU h hy).2)
theorem Hd (h:aL 0 tl u) (hp:p∈bm u) (h1:cE p=1) {c:ag} (hc:aP c.1 c.2.1=true) {j:Nat} (ho:o∈eP u) (hf:(aA p)[j]? =some o.1) {y:ag} (hy:y∈oG u):aL 0 tl (mM p c o y u):=by
 have hd:=(h.rf y hy).data;unfold mM;split
 . have hA:aL 0 tl (gi (λpi=>bW aB pi (cg o) (eX (y.2.1.drop 1))) u):=Inv.II h (by rw [acA];omega) (yh hd.2 1)
   have hB:=kZ hA (cg o);exact xh hB (jw hA hp (by omega) _) hc (by rfl) (oR hd.2)
 . split
   . exact cj h hp hc (by rfl)
   . exact xi h hp h1 (by omega) (by omega) (by omega) λ_=>⟨acx hf,o,ho,rfl⟩
theorem Wl (h:aL 0 tl u) (hp:p∈bm u) (h1:cE p=1) {c:ag} (hc:aP c.1 c.2.1=true):aL 0 tl (Bg p c u):=by
 unfold Bg;rcases EK h hp (cW c 0) with ⟨e,_⟩|⟨o,ho,j,_,_,hf,e,_⟩
 . rw [e];exact cj h hp hc (by rfl)
 . rw [e]
   simp only;rcases CX h ho with k|⟨k,y,hy,ht,h0,_⟩|⟨k,y,hy,ht⟩
   . rw [aa3 (by omega),aa5 k];exact cj h hp hc (by rfl)
   . rw [aa3 (by omega),aa3 (by omega),aa5 k,show dJ aR (od u) (cg o)=some y by rw [← ht];exact dv h.xV hy]
     exact My h hp hc ho hy k ht h0
   . by_cases k4:bE o=4
     . rw [aa5 k4];exact cj h hp hc (by rfl)
     . rw [aa3 k4,aa3 (by omega),aa3 (by omega),show dJ aB (oG u) (cg o)=some y by rw [← ht];exact dv h.wu hy]
       exact Hd h hp h1 hc ho hf hy
theorem Ky (h:aL 0 tl u) (hp:p∈bm u) {c:ag} (hc:aP c.1 c.2.1=true) (ho:o∈eP u) {y:ag} (hy:y∈od u) (hk:bE o=2) (ht:y.1=cg o) (h0:0≤eQ o) (h2:eQ o≤(y.2.1.length:Nat)):aL 0 tl (qc p c o y u):=by
 unfold qc;split
 . exact cj h hp hc (by rfl)
 . have hd:=jU h hy
   have hw:=(ed hc (k:=1) (by omega)).2;have hl:y.2.1.length≤(hY y.2.1 (eQ o) (cW c 1)).length∧(hY y.2.1 (eQ o) (cW c 1)).length≤8∧eQ o+1≤((hY y.2.1 (eQ o) (cW c 1)).length:Nat):=by
    unfold hY;split
    . rw [abz];show _≤_+1∧_+1≤8∧_≤((_+1:Nat):Int);omega
    . rw [acz];omega
   have hA:aL 0 tl (ky (λfi=>bW aR fi y.1 (eX (hY y.2.1 (eQ o) (cW c 1)))) u):=Inv.file h hy hl.1 hl.2.1 (Mx hd.2 hw);have hB:aL 0 tl (bp (λos=>bW al os o.1 (uZ (eQ o+1))) (ky (λfi=>bW aR fi y.1 (eX (hY y.2.1 (eQ o) (cW c 1)))) u)):=Inv.cw hA ho hk λz hz e=>by
    obtain ⟨z0,hz0,e0⟩:=fT.1 hz;by_cases q:aR z0=y.1
    . rw [aa5 q] at e0
      subst e0;exact ⟨by omega,hl.2.2⟩
    . rw [aa3 q] at e0
      subst e0;exact absurd (e.trans ht.symm) q
   exact cj hB hp hc (by rfl)
theorem EO (h:aL 0 tl u) (hp:p∈bm u) (h1:cE p=1) {c:ag} (hc:aP c.1 c.2.1=true) {j:Nat} (ho:o∈eP u) (hf:(aA p)[j]? =some o.1) {y:ag} (hy:y∈oG u):aL 0 tl (kW p c o y u):=by
 have hd:=(h.rf y hy).data;unfold kW;split
 . exact cj h hp hc (by rfl)
 . split
   . exact xi h hp h1 (by omega) (by omega) (by omega) λ_=>⟨acx hf,o,ho,rfl⟩
   . have hA:aL 0 tl (gi (λpi=>bW aB pi (cg o) (eX (y.2.1++[cW c 1]))) u):=Inv.II h (by rw [abz];show _+1≤4;omega) (rM hd.2 (ed hc (k:=1) (by omega)).2)
     have hB:=kZ hA (cg o);exact cj hB (jw hA hp (by omega) _) hc (by rfl)
theorem ac5 (h:aL x tl u) {v:Int} (hl:(GL u).length<60) (hv:bV v=true):aL x tl (Ra v u):=Inv.out h hl hv
theorem Rb (h:aL 0 tl u) (hp:p∈bm u) (h1:cE p=1) {c:ag} (hc:aP c.1 c.2.1=true):aL 0 tl (u0 p c u):=by
 unfold u0;rcases EK h hp (cW c 0) with ⟨e,_⟩|⟨o,ho,j,_,_,hf,e,_⟩
 . rw [e];exact cj h hp hc (by rfl)
 . rw [e]
   simp only;rcases CX h ho with k|⟨k,y,hy,ht,h0,h2⟩|⟨k,y,hy,ht⟩
   . rw [aa3 (by omega),aa5 k]
     split
     . exact cj h hp hc (by rfl)
     . exact cj (ac5 h (by omega) (ed hc (k:=1) (by omega)).2) hp hc (by rfl)
   . rw [aa3 (by omega),aa3 (by omega),aa5 k,show dJ aR (od u) (cg o)=some y by rw [← ht];exact dv h.xV hy]
     exact Ky h hp hc ho hy k ht h0 h2
   . by_cases k3:bE o=3
     . rw [aa5 k3];exact cj h hp hc (by rfl)
     . rw [aa3 k3,aa3 (by omega),aa3 (by omega),show dJ aB (oG u) (cg o)=some y by rw [← ht];exact dv h.wu hy]
       exact EO h hp h1 hc ho hf hy
theorem Wm (h:aL 0 tl u) (hp:p∈bm u) (h1:cE p=1) {c:ag} (hc:aP c.1 c.2.1=true) (hl:l.length≤98000):Gv (Mz (gz u l,pT p,c,())) (Bg p c u) l 20:=by
 have qY:nth c.2.1 (Int.toNat (0:Int))=some (cW c 0):=(ed hc (k:=0) (by omega)).1;have mu:=oc h;have hB:aM=9223372036854775807:=rfl;unfold Bg;show Gv (Out.eval (CZ _)) _ _ _;dsimp only [CZ,gz];refine Gv.step (ab (by rfl)) ?_;refine Gv.step (aa qY) ?_;rcases EK h hp (cW c 0) with ⟨e,ev⟩|⟨o,ho,j,_,_,hf,e,ev⟩
 . rw [e]
   refine Gv.step (aa ev) ?_;refine Gv.step (ae (by rfl)) ?_;exact bP h.cF hp hc (by rfl) (by omega) (by omega)
 rw [e];simp only;refine Gv.step (aa ev) ?_;refine Gv.step (ab (by rfl)) ?_;rcases CX h ho with k|⟨k,y,hy,ht,h0,h2⟩|⟨k,y,hy,ht⟩
 . rw [aa3 (by omega),aa5 k]
   refine Gv.step (ae (kf (o:=o) (by omega))) ?_;refine Gv.step (ab (cT k)) ?_;exact bP h.cF hp hc (by rfl) (by omega) (by omega)
 . rw [aa3 (by omega),aa3 (by omega),aa5 k,show dJ aR (od u) (cg o)=some y by rw [← ht];exact dv h.xV hy]
   show Gv _ (uY p c o y u) _ _;have hd:=jU h hy;obtain ⟨i,hi,Cz,jN⟩:=bu h.xV hy;have cQ:bj u.2.2.2.2.2.2.1 o.2.2.1=(i:Int):=by rw [show o.2.2.1=aR y from ht.symm];exact hi
   have qV:nth u.2.2.2.2.2.2.1 i=some y:=jN;unfold uY;refine Gv.step (ae (kf (o:=o) (by omega))) ?_;refine Gv.step (ae (kf (o:=o) (by omega))) ?_;refine Gv.step (ab (cT k)) ?_;rw [cQ];simp only [abo];refine Gv.step (ab (aaE (by omega))) ?_;refine Gv.step (aa qV) ?_;by_cases q:eQ o≥((y.2.1.length:Nat):Int)
   . rw [aa5 q]
     refine Gv.step (ab (aaE q)) ?_;exact bP h.cF hp hc (by rfl) (by omega) (by omega)
   rw [aa3 q];refine Gv.step (ae (aa1 q)) ?_;have hw:IntKind.i64.wrap (o.2.2.2.1+1)=eQ o+1:=b7 (by show _≤eQ o+1;omega) (by show eQ o+1≤_;omega);have oS:nth y.2.1 (Int.toNat o.2.2.2.1)=some (y.2.1.getD (eQ o).toNat 0):=by
    have bS:(eQ o).toNat<y.2.1.length:=by omega
    show y.2.1[(eQ o).toNat]? =_;rw [ach,aa2 bS];rfl
   rw [hw];have qW:=h.cF;have QS:=h.ow;obtain ⟨nx,tk,pg,ps,os,pi,fi,rd,ou,_⟩:=u;have d1:=eG (l:=l) (MA (nx:=nx) (tk:=tk) (pg:=pg) (ps:=ps) (pi:=pi) (fi:=fi) (rd:=rd) (ou:=ou) (b:=eQ o+1) (c:=0) (l:=[]) QS ho (abG mu (by omega))) (by omega);refine Gv.step (aa rfl) ?_;refine Gv.step (aa d1) ?_;refine Gv.step (ab (aaE h0)) ?_;refine Gv.step (aa oS) ?_;exact CF (u:=bp (λos=>bW al os o.1 (uZ (eQ o+1))) (nx,tk,pg,ps,os,pi,fi,rd,ou,())) qW hp hc (y:=1) (by rfl) (oR hd.2) (l1:=l++[eE 13 o.1 (eQ o+1) 0]) (by rw [aY];omega) (by rw [aY];omega)
 . by_cases k4:bE o=4
   . rw [aa5 k4]
     refine Gv.step (ab (cT k4)) ?_;exact bP h.cF hp hc (by rfl) (by omega) (by omega)
   rw [aa3 k4,aa3 (by omega),aa3 (by omega),show dJ aB (oG u) (cg o)=some y by rw [← ht];exact dv h.wu hy];show Gv _ (mM p c o y u) _ _;have hd:=(h.rf y hy).data;obtain ⟨i,hi,Cz,jN⟩:=bu h.wu hy;have cQ:ba u.2.2.2.2.2.1 o.2.2.1=(i:Int):=by rw [show o.2.2.1=aB y from ht.symm];exact hi
   have qV:nth u.2.2.2.2.2.1 i=some y:=jN;unfold mM;refine Gv.step (ae (kf (o:=o) (by omega))) ?_;refine Gv.step (ae (kf (o:=o) (by omega))) ?_;refine Gv.step (ae (kf (o:=o) (by omega))) ?_;rw [cQ];simp only [abo];refine Gv.step (ab (aaE (by omega))) ?_;refine Gv.step (aa qV) ?_;by_cases q:0<y.2.1.length
   . rw [aa5 q]
     refine Gv.step (ab (aaE (by omega))) ?_;have hA:aL 0 tl (gi (λpi=>bW aB pi (cg o) (eX (y.2.1.drop 1))) u):=Inv.II h (by rw [acA];omega) (yh hd.2 1);have hB:=kZ hA (cg o);have yb:p∈bm (ff (cg o) (gi (λpi=>bW aB pi (cg o) (eX (y.2.1.drop 1))) u)):=jw hA hp (by omega) _;have V2:=h.wu;have IH:=wq h;have qY:nth y.2.1 (Int.toNat (0:Int))=some (y.2.1.getD 0 0):=by
      show y.2.1[0]? =_;rw [ach,aa2 q];rfl
     obtain ⟨l2,hv,QU⟩:=rD hA (cg o) (l:=l++[eE 16 (cg o) 0 0]) (by rw [aY];omega);rw [aY] at QU;obtain ⟨nx,tk,pg,ps,os,pi,fi,rd,ou,_⟩:=u;have d1:=eG (l:=l) (Rc (nx:=nx) (tk:=tk) (pg:=pg) (ps:=ps) (os:=os) (fi:=fi) (rd:=rd) (ou:=ou) (b:=0) (c:=0) (l:=[]) V2 hy (abG IH (by omega)) ⟨q,hd.1⟩) (by omega);rw [ht] at d1;refine Gv.step (aa rfl) ?_;refine Gv.step (aa d1) ?_;refine Gv.step (aa hv) ?_;refine Gv.step (ab (by rfl)) ?_;refine Gv.step (aa qY) ?_;exact CF hB.cF yb hc (y:=1) (by rfl) (oR hd.2) (by omega) (by omega)
   rw [aa3 q];refine Gv.step (ae (aa1 (by omega))) ?_;have hez:(gZ u.2.2.2.2.1 o.2.2.1 4==0)= !lW (eP u) 4 (cg o):=Bf (abG mu (by omega)) _ _;rw [hez];by_cases q2:lW (eP u) 4 (cg o)=false
   . rw [aa5 q2]
     refine Gv.step (ab (by rw [q2];rfl)) ?_;exact bP h.cF hp hc (by rfl) (by omega) (by omega)
   rw [aa3 q2];refine Gv.step (ae (by rw [show lW (eP u) 4 (cg o)=true by simpa using q2];rfl)) ?_;refine Gv.step (aa (xj h hp h1 (by omega))) ?_;exact Gv.ret (by rw [aY,aY];omega)
theorem Re (h:aL 0 tl u) (hp:p∈bm u) (h1:cE p=1) {c:ag} (hc:aP c.1 c.2.1=true) (hl:l.length≤98000):Gv (MB (gz u l,pT p,c,())) (u0 p c u) l 20:=by
 have qY:nth c.2.1 (Int.toNat (0:Int))=some (cW c 0):=(ed hc (k:=0) (by omega)).1;have QZ:nth c.2.1 (Int.toNat (1:Int))=some (cW c 1):=(ed hc (k:=1) (by omega)).1;have hw1:=(ed hc (k:=1) (by omega)).2;have mu:=oc h;have hB:aM=9223372036854775807:=rfl;unfold u0;show Gv (Out.eval (C3 _)) _ _ _;dsimp only [C3,gz];refine Gv.step (ab (by rfl)) ?_;refine Gv.step (aa qY) ?_;rcases EK h hp (cW c 0) with ⟨e,ev⟩|⟨o,ho,j,_,_,hf,e,ev⟩
 . rw [e]
   refine Gv.step (aa ev) ?_;refine Gv.step (ab (by rfl)) ?_;refine Gv.step (aa QZ) ?_;refine Gv.step (ae (by rfl)) ?_;exact bP h.cF hp hc (by rfl) (by omega) (by omega)
 rw [e];simp only;refine Gv.step (aa ev) ?_;refine Gv.step (ab (by rfl)) ?_;refine Gv.step (aa QZ) ?_;refine Gv.step (ab (by rfl)) ?_;rcases CX h ho with k|⟨k,y,hy,ht,h0,h2⟩|⟨k,y,hy,ht⟩
 . rw [aa3 (by omega),aa5 k]
   refine Gv.step (ae (kf (o:=o) (by omega))) ?_;refine Gv.step (ab (cT k)) ?_;by_cases q:60≤(GL u).length
   . rw [aa5 q]
     refine Gv.step (ab (aaE (by show (((GL u).length:Nat):Int)≥60;omega))) ?_;exact bP h.cF hp hc (by rfl) (by omega) (by omega)
   rw [aa3 q];refine Gv.step (ae (aa1 (by show ¬ (((GL u).length:Nat):Int)≥60;omega))) ?_;have qW:=h.cF;obtain ⟨nx,tk,pg,ps,os,pi,fi,rd,ou,_⟩:=u;have d1:=eG (l:=l) (Wn (nx:=nx) (tk:=tk) (pg:=pg) (ps:=ps) (os:=os) (pi:=pi) (fi:=fi) (rd:=rd) (k:=cW c 1) (b:=0) (c:=0) (l:=[]) (Nat.not_le.1 q)) (by omega);refine Gv.step (aa rfl) ?_;refine Gv.step (aa d1) ?_;exact bP (u:=Ra (cW c 1) (nx,tk,pg,ps,os,pi,fi,rd,ou,())) qW hp hc (by rfl) (l1:=l++[eE 23 (cW c 1) 0 0]) (by rw [aY];omega) (by rw [aY];omega)
 . rw [aa3 (by omega),aa3 (by omega),aa5 k,show dJ aR (od u) (cg o)=some y by rw [← ht];exact dv h.xV hy]
   show Gv _ (qc p c o y u) _ _;have hd:=jU h hy;unfold qc;refine Gv.step (ae (kf (o:=o) (by omega))) ?_;refine Gv.step (ae (kf (o:=o) (by omega))) ?_;refine Gv.step (ab (cT k)) ?_;by_cases q:eQ o≥8
   . rw [aa5 q]
     refine Gv.step (ab (aaE q)) ?_;exact bP h.cF hp hc (by rfl) (by omega) (by omega)
   rw [aa3 q];refine Gv.step (ae (aa1 q)) ?_;have hw:IntKind.i64.wrap (o.2.2.2.1+1)=eQ o+1:=b7 (by show _≤eQ o+1;omega) (by show eQ o+1≤_;omega);rw [hw];have qW:=h.cF;have QS:=h.ow;have Qx:=h.xV;have uH:=xU h;obtain ⟨nx,tk,pg,ps,os,pi,fi,rd,ou,_⟩:=u;have d1:=eG (l:=l) (Rf (nx:=nx) (tk:=tk) (pg:=pg) (ps:=ps) (os:=os) (pi:=pi) (rd:=rd) (ou:=ou) (b:=eQ o) (c:=cW c 1) (l:=[]) Qx hy (abG uH (by omega)) hd.1 ⟨h0,h2,by omega⟩) (by omega);rw [show y.1=o.2.2.1 from ht] at d1 ⊢;have d2:=eG (l:=l++[eE 19 o.2.2.1 (eQ o) (cW c 1)]) (MA (nx:=nx) (tk:=tk) (pg:=pg) (ps:=ps) (pi:=pi) (fi:=bW aR fi o.2.2.1 (eX (hY y.2.1 (eQ o) (cW c 1)))) (rd:=rd) (ou:=ou) (b:=eQ o+1) (c:=0) (l:=[]) QS ho (abG mu (by omega))) (by rw [aY];omega);refine Gv.step (aa rfl) ?_;refine Gv.step (aa d1) ?_;refine Gv.step (aa rfl) ?_;refine Gv.step (aa d2) ?_;exact bP (u:=bp (λos=>bW al os o.1 (uZ (eQ o+1))) (ky (λfi=>bW aR fi o.2.2.1 (eX (hY y.2.1 (eQ o) (cW c 1)))) (nx,tk,pg,ps,os,pi,fi,rd,ou,()))) qW hp hc (by rfl) (l1:=l++[eE 19 o.2.2.1 (eQ o) (cW c 1)]++[eE 13 o.1 (eQ o+1) 0]) (by rw [aY,aY];omega) (by rw [aY,aY];omega)
 . by_cases k3:bE o=3
   . rw [aa5 k3]
     refine Gv.step (ab (cT k3)) ?_;exact bP h.cF hp hc (by rfl) (by omega) (by omega)
   rw [aa3 k3,aa3 (by omega),aa3 (by omega),show dJ aB (oG u) (cg o)=some y by rw [← ht];exact dv h.wu hy];show Gv _ (kW p c o y u) _ _;have hd:=(h.rf y hy).data;obtain ⟨i,hi,Cz,jN⟩:=bu h.wu hy;have cQ:ba u.2.2.2.2.2.1 o.2.2.1=(i:Int):=by rw [show o.2.2.1=aB y from ht.symm];exact hi
   have qV:nth u.2.2.2.2.2.1 i=some y:=jN;unfold kW;refine Gv.step (ae (kf (o:=o) (by omega))) ?_;refine Gv.step (ae (kf (o:=o) (by omega))) ?_;refine Gv.step (ae (kf (o:=o) (by omega))) ?_;have hez:(gZ u.2.2.2.2.1 o.2.2.1 3==0)= !lW (eP u) 3 (cg o):=Bf (abG mu (by omega)) _ _;rw [hez];by_cases q2:lW (eP u) 3 (cg o)=false
   . rw [aa5 q2]
     refine Gv.step (ab (by rw [q2];rfl)) ?_;exact bP h.cF hp hc (by rfl) (by omega) (by omega)
   rw [aa3 q2];refine Gv.step (ae (by rw [show lW (eP u) 3 (cg o)=true by simpa using q2];rfl)) ?_;rw [cQ];simp only [abo];refine Gv.step (ab (aaE (by omega))) ?_;refine Gv.step (aa qV) ?_;by_cases q:4≤y.2.1.length
   . rw [aa5 q]
     refine Gv.step (ab (aaE (by omega))) ?_;refine Gv.step (aa (xj h hp h1 (by omega))) ?_;exact Gv.ret (by rw [aY,aY];omega)
   rw [aa3 q];refine Gv.step (ae (aa1 (by omega))) ?_;have hA:aL 0 tl (gi (λpi=>bW aB pi (cg o) (eX (y.2.1++[cW c 1]))) u):=Inv.II h (by rw [abz];show _+1≤4;omega) (rM hd.2 hw1);have hB:=kZ hA (cg o);have yb:p∈bm (ff (cg o) (gi (λpi=>bW aB pi (cg o) (eX (y.2.1++[cW c 1]))) u)):=jw hA hp (by omega) _;have V2:=h.wu;have IH:=wq h;obtain ⟨l2,hv,QU⟩:=rD hA (cg o) (l:=l++[eE 15 (cg o) (cW c 1) 0]) (by rw [aY];omega);rw [aY] at QU;obtain ⟨nx,tk,pg,ps,os,pi,fi,rd,ou,_⟩:=u;have d1:=eG (l:=l) (Wo (nx:=nx) (tk:=tk) (pg:=pg) (ps:=ps) (os:=os) (fi:=fi) (rd:=rd) (ou:=ou) (b:=cW c 1) (c:=0) (l:=[]) V2 hy (abG IH (by omega)) (by omega)) (by omega);rw [ht] at d1;refine Gv.step (aa rfl) ?_;refine Gv.step (aa d1) ?_;refine Gv.step (aa hv) ?_;exact bP hB.cF yb hc (by rfl) (by omega) (by omega)
end
section
variable {x tl:Int} {u u':UT} {p:af} {l l':List ET} {β:Type} {n m:Nat} {v w code:Int}
def dW (w:Int) (u:UT):Prop:=∃ q∈bm u,q.1=w∧cE q≠6
theorem dW.set {f:af→af} (h:dW w u) (hf:∀ q,(f q).1=q.1) (h6:v=w→∀ q,cE q≠6→cE (f q)≠6):dW w (di v f u):=by
 obtain ⟨q,hq,rfl,q6⟩:=h;by_cases e:q.1=v
 . exact ⟨f q,fT.2 ⟨q,hq,aa5 e⟩,hf q,h6 e.symm q q6⟩
 . exact ⟨q,fT.2 ⟨q,hq,aa3 e⟩,rfl,q6⟩
theorem dW.jC (h:dW w u):dW w (iD v u):=dW.set (u:=u) (v:=v) (f:=lU 1 0) h (λ_=>rfl) λ_ _ _=>by show (1:Int)≠6;omega
theorem dW.fold {α:Type} {f:UT→α→UT}:∀ {a:List α} {u:UT},(∀ y∈a,∀ u,dW w u→dW w (f u y))→dW w u→dW w (a.foldl f u)
 |[],_,_,h=>h
 |y::a,u,hf,h=>dW.fold (a:=a) (λz hz=>hf z (by simp [hz])) (hf y (by simp) u h)
theorem dW.cN {t:Int} (h:dW w u):dW w (ff t u):=dW.fold (f:=λu v=>iD v u) (λ_ _ _ h=>h.jC) h
theorem dW.fds {f:List Int} (h:dW w u):dW w (di v (b9 f) u):=h.set (λ_=>rfl) λ_ _ q=>q
theorem dW.close {k:Nat} (h:dW w u):dW w (kv v k u):=by
 unfold kv;split
 . exact h
 split
 . exact h
 split
 . exact h
 split
 . exact h.fds
 split
 . exact h.fds
 split
 . exact dW.cN (u:=bp _ (di v _ u)) h.fds
 . exact h.fds
theorem dW.C4 {k:Nat} (h:dW w u):dW w (cc v k u):=dW.fold (f:=j3 v) (λj _ u h=>by
 unfold j3;split
 . exact h
 . split
   . exact h
   . exact h.close) h
theorem dW.kid {q:af} (hq:q.1=w→cE q≠6) (h:dW w u):dW w (oL v u q):=by
 unfold oL;split
 . split
   . rename_i e6
     obtain ⟨r,hr,rfl,r6⟩:=h;exact ⟨r,iv.2 ⟨hr,λe=>hq e.symm e6⟩,rfl,r6⟩
   . exact h.set (λ_=>rfl) λ_ _ q=>q
 . exact h
theorem dW.kids {ks:List af} (hq:∀ q∈ks,q.1=w→cE q≠6) (h:dW w u):dW w (fS v ks u):=dW.fold (f:=oL v) (λq hm _ h=>h.kid (hq q hm)) h
theorem dW.last (h:dW w u) (dV:w≠v):dW w (Cv v code u):=by
 have hz:dW w (di v (λp=>fM code (lU 6 0 p)) (dL (·.erase v) u)):=dW.set (u:=dL (·.erase v) u) h (λ_=>rfl) λe=>absurd e.symm dV;unfold Cv;split
 . exact h
 split
 . obtain ⟨r,hr,rfl,r6⟩:=h
   exact ⟨r,iv.2 ⟨hr,dV⟩,rfl,r6⟩
 split
 . exact hz
 split
 . exact hz.jC
 . exact hz
theorem dW.ends (hI:aL 0 tl u) (hp:p∈bm u) (h1:cE p=1) (h:dW w u) (dV:w≠p.1):dW w (iK p.1 code u):=by
 obtain ⟨_,_,_,_,_,_,_,hD,_⟩:=rF hI hp h1;have hd:dW w (ld p.1 (cc p.1 4 u)):=h.C4.set (λ_=>rfl) λ_ _ q=>q;refine dW.last (dW.kids (λq hq e=> ?_) hd) dV;obtain ⟨r,hr,e2,r6⟩:=hd;rw [hD.cF.inj hq hr (e.trans e2.symm)];exact r6
theorem dW.exit (hI:aL 0 tl u) (hp:p∈bm u) (h6:cE p≠6) (h:dW w u) (dV:w≠p.1):dW w (oe p.1 code u):=by
 unfold oe;rw [show dJ ao (bm u) p.1=some p from dv hI.cF hp];simp only;split
 . rename_i h1;exact dW.ends hI hp h1 h dV
 . rename_i h1
   exact dW.ends (p:=lU 1 0 p) (x6 hI hp h6 h1) ((aW hI.cF hp).2 (.inl rfl)) rfl h.jC dV
def Bh (p:af) (c:ag) (u:UT):UT:=match dJ ao (bm u) (cW c 0) with
 |none=>ct p.1 c (-1) u
 |some q=>if cE q=6 then ct p.1 c (-1) u else if cW c 0=p.1 then oe p.1 (-1) u else ct p.1 c 0 (oe (cW c 0) (-1) u)
theorem Wp (h:aL 0 tl u) (hp:p∈bm u) (h1:cE p=1) {c:ag} (hc:aP c.1 c.2.1=true):aL 0 tl (Bh p c u):=by
 unfold Bh;split
 . exact cj h hp hc (by rfl)
 . rename_i q e
   obtain ⟨hq,e⟩:=yi e;have e:q.1=cW c 0:=e;split
   . exact cj h hp hc (by rfl)
   . rename_i q6
     split
     . exact x8 h hp (by omega) (by rfl)
     . rename_i dV
       rw [← e] at dV ⊢;obtain ⟨r,hr,er,_⟩:=dW.exit (code:= -1) h hq q6 ⟨p,hp,rfl,by omega⟩ (Ne.symm dV);rw [← er];exact cj (x8 h hq q6 (by rfl)) hr hc (by rfl)
theorem Wq (h:aL 0 tl u) (hp:p∈bm u) (h1:cE p=1) {c:ag} (hc:aP c.1 c.2.1=true) (hl:l.length≤96000):Gv (MC (gz u l,pT p,c,())) (Bh p c u) l 100:=by
 have qY:nth c.2.1 (Int.toNat (0:Int))=some (cW c 0):=(ed hc (k:=0) (by omega)).1;unfold Bh;show Gv (Out.eval (C5 _)) _ _ _;dsimp only [C5,gz];refine Gv.step (ab (by rfl)) ?_;refine Gv.step (aa qY) ?_;cases e:dJ ao (bm u) (cW c 0) with
 |none=>
  have L5:ak u.2.2.2.1 (cW c 0)= -1:=by
   unfold ak cU;rw [ll λy hy ey=>by have:=List.find?_eq_none.1 e y hy;exact this (by simpa using ey)];rfl
  rw [L5];refine Gv.step (ae (by rfl)) ?_;exact bP h.cF hp hc (by rfl) (by omega) (by omega)
 |some q=>
  obtain ⟨hq,eq⟩:=yi e;have eq:q.1=cW c 0:=eq;obtain ⟨i,hi,Cz,jN⟩:=bu h.cF hq;have cQ:ak u.2.2.2.1 (cW c 0)=(i:Int):=by rw [← eq];exact hi
  have qV:nth u.2.2.2.1 i=some q:=jN;have V1:i<u.2.2.2.1.length:=Cz;rw [cQ];simp only [abo];refine Gv.step (ab (eZ (by omega))) ?_;refine Gv.step (ab (aaE (by omega))) ?_;refine Gv.step (aa qV) ?_;by_cases q6:cE q=6
  . rw [aa5 q6]
    refine Gv.step (ab (cT q6)) ?_;exact bP h.cF hp hc (by rfl) (by omega) (by omega)
  rw [aa3 q6];refine Gv.step (ae (dN q6)) ?_;refine Gv.step (ab (by rfl)) ?_;refine Gv.step (aa qY) ?_;by_cases me:cW c 0=p.1
  . rw [aa5 me]
    refine Gv.step (ab (cT me)) ?_;obtain ⟨l1,e1,GY⟩:=CB (code:= -1) h hp (by omega) (by rfl) (l:=l) (by omega);exact Gv.step (aa e1) (Gv.ret (l':=l1) (by omega))
  rw [aa3 me];refine Gv.step (ae (dN me)) ?_;refine Gv.step (ab (by rfl)) ?_;refine Gv.step (aa qY) ?_;rw [← eq] at me ⊢;obtain ⟨l1,e1,GY⟩:=CB (code:= -1) h hq q6 (by rfl) (l:=l) (by omega);refine Gv.step (aa e1) ?_;obtain ⟨r,hr,er,_⟩:=dW.exit (code:= -1) h hq q6 ⟨p,hp,rfl,by omega⟩ (Ne.symm me);have hX:=x8 (code:= -1) h hq q6 (by rfl);rw [← er];exact bP hX.cF hr hc (by rfl) (l1:=l1) (by omega) (by omega)
def jV (p:af) (c:ag) (u:UT):UT:=match We p (cW c 0) u with
 |none=>ct p.1 c (-1) u
 |some _=>ct p.1 c 0 (kv p.1 (cW c 0).toNat u)
def yj (p:af) (c:ag) (u:UT):UT:=dL (λrd=>rd.erase p.1++[p.1]) (ct p.1 c 0 u)
def He (p:af) (c:ag) (k:Int) (u:UT):UT:=
 if k=1 then oe p.1 (cW c 0) u else if k=2 then Ba p c u else if k=3 then Bc p c u else if k=4 then ct p.1 c p.1 u
 else if k=5 then Bd p c u else if k=6 then kU p c u else if k=7 then jV p c u else if k=8 then Bg p c u
 else if k=9 then u0 p c u else if k=10 then kV p c u else if k=11 then Kx p c u else if k=12 then uW p c u
 else if k=13 then Bh p c u else if k=14 then qb p c u else if k=15 then ct p.1 c u.2.1 u else if k=16 then Be p c u
 else if k=17 then yj p c u else ct p.1 c (-1) u
theorem EP (h:aL 0 tl u) (hp:p∈bm u) (h1:cE p=1) {c:ag} (hc:aP c.1 c.2.1=true):aL 0 tl (jV p c u):=by
 unfold jV;rcases EK h hp (cW c 0) with ⟨e,_⟩|⟨o,ho,j,hj,_,hf,e,_⟩
 . rw [e];exact cj h hp hc (by rfl)
 . rw [e]
   simp only;rw [hj,abo];exact cj (p:=b9 ((aA p).set j (-1)) p) (Cq h hp h1 ho hf) (uL h hp h1 ho hf) hc (by rfl)
theorem Rg (h:aL 0 tl u) (hp:p∈bm u) (h1:cE p=1) {c:ag} (hc:aP c.1 c.2.1=true):aL 0 tl (yj p c u):=by
 have hT:=cj h hp hc (y:=0) (by rfl);have hm:p.1∈qU (ct p.1 c 0 u):=h.ready hp h1;exact Inv.perm hT ((List.perm_append_comm (l₁:=(qU (ct p.1 c 0 u)).erase p.1) (l₂:=[p.1])).trans (List.perm_cons_erase hm).symm)
theorem ER (h:aL x tl u) (hp:p∈bm u):bV p.1=true:=cM (by have:=(h.ctx p hp).pid;have:=h.Es;omega)
theorem ac6 (h:aL 0 tl u) (ht:tl≤u.2.1) (hp:p∈bm u) (h1:cE p=1) {c:ag} (hc:aP c.1 c.2.1=true) (k:Int):aL 0 tl (He p c k u):=by
 unfold He;have AG:=h.AG;by_cases e1:k=1
 . rw [aa5 e1];exact x8 h hp (by omega) (ed hc (by omega)).2
 rw [aa3 e1];by_cases e2:k=2
 . rw [aa5 e2];exact V5 h hp h1 hc
 rw [aa3 e2];by_cases e3:k=3
 . rw [aa5 e3];exact V9 h hp h1 hc
 rw [aa3 e3];by_cases e4:k=4
 . rw [aa5 e4];exact cj h hp hc (ER h hp)
 rw [aa3 e4];by_cases e5:k=5
 . rw [aa5 e5];exact Wf h hp h1 hc
 rw [aa3 e5];by_cases e6:k=6
 . rw [aa5 e6];exact G7 h hp h1 hc
 rw [aa3 e6];by_cases e7:k=7
 . rw [aa5 e7];exact EP h hp h1 hc
 rw [aa3 e7];by_cases e8:k=8
 . rw [aa5 e8];exact Wl h hp h1 hc
 rw [aa3 e8];by_cases e9:k=9
 . rw [aa5 e9];exact Rb h hp h1 hc
 rw [aa3 e9];by_cases Wr:k=10
 . rw [aa5 Wr];exact Hb h hp h1 hc
 rw [aa3 Wr];by_cases Ws:k=11
 . rw [aa5 Ws];exact acW h hp h1 hc
 rw [aa3 Ws];by_cases Wt:k=12
 . rw [aa5 Wt];exact Q4 h ht hp h1 hc
 rw [aa3 Wt];by_cases Wu:k=13
 . rw [aa5 Wu];exact Wp h hp h1 hc
 rw [aa3 Wu];by_cases Wv:k=14
 . rw [aa5 Wv];exact Mr h hp hc
 rw [aa3 Wv];by_cases Ww:k=15
 . rw [aa5 Ww];exact cj h hp hc (cM (by omega))
 rw [aa3 Ww];by_cases Wx:k=16
 . rw [aa5 Wx];exact Wh h hp h1 hc
 rw [aa3 Wx];by_cases Wy:k=17
 . rw [aa5 Wy];exact Rg h hp h1 hc
 rw [aa3 Wy];exact cj h hp hc (by rfl)
theorem Gv.hand {γ:Type} {r:Option ((WT×Unit)×γ)} {v:UT} {z:β} (h:Gv r v l n) (hn:n≤m):Gv (Out.get r λ((cm,_),_)=>Out.ret ((cm,()),z)).eval v l m:=by
 obtain ⟨l',y,e,hl⟩:=h;exact Gv.step (aa e) (Gv.ret (l':=l') (by omega))
theorem ES {z:β} (h:aL 0 tl u) (hp:p∈bm u) (h1:cE p=1) {c:ag} (hc:aP c.1 c.2.1=true) (hl:l.length≤96000):
  Gv (Out.get (rL (u,pT p,(cW c 0,()),())) λ((_,y9b,_),_)=>
   .ite (!y9b.1) (.get (bt (gz u l,(p.1,()),c,(-1,()),())) λ((nE,_),_)=> .ret ((nE,()),z))
   (.ite (decide (0≤(0:Int))) (.get (nth c.2.1 (Int.toNat (0:Int))) λEU=>
    .get (uM (gz u l,(p.1,()),(EU,()),())) λ((nz,_),_)=>
    .get (bt (nz,(p.1,()),c,(0,()),())) λ((nA,_),_)=> .ret ((nA,()),z)) .fail)).eval (jV p c u) l 100:=by
 have qY:nth c.2.1 (Int.toNat (0:Int))=some (cW c 0):=(ed hc (k:=0) (by omega)).1;unfold jV;rcases EK h hp (cW c 0) with ⟨e,ev⟩|⟨o,ho,j,hj,_,hf,e,ev⟩
 . rw [e]
   refine Gv.step (aa ev) ?_;refine Gv.step (ab (by rfl)) ?_;exact bP h.cF hp hc (by rfl) (by omega) (by omega)
 . rw [e]
   simp only;refine Gv.step (aa ev) ?_;refine Gv.step (ae (by rfl)) ?_;refine Gv.step (ab (by rfl)) ?_;refine Gv.step (aa qY) ?_;obtain ⟨l1,e1,GY⟩:=Iz h hp h1 ho hf (l:=l) (by omega);rw [hj,abo];refine Gv.step (aa e1) ?_;exact bP (p:=b9 ((aA p).set j (-1)) p) (Cq h hp h1 ho hf).cF (uL h hp h1 ho hf) hc (by rfl) (l1:=l1) (by omega) (by omega)
theorem Rh {z:β} (h:aL 0 tl u) (hp:p∈bm u) (h1:cE p=1) {c:ag} (hc:aP c.1 c.2.1=true) (hl:l.length≤96000):
  Gv (Out.get (bt (gz u l,(p.1,()),c,(0,()),())) λ((MD,_),_)=>
   .get (bQ ((22,()),(p.1,()),(0,()),(0,()),())) λ((Hf,_),_)=>
   .get (br (MD,Hf,())) λ((ME,_),_)=>
   .get (bQ ((21,()),(p.1,()),(0,()),(0,()),())) λ((MF,_),_)=>
   .get (br (ME,MF,())) λ((Wz,_),_)=> .ret ((Wz,()),z)).eval (yj p c u) l 100:=by
 obtain ⟨l1,e1,GY⟩:=CE h.cF hp hc (y:=0) (by rfl) (l:=l) (by omega);have hm:p.1∈qU u:=h.ready hp h1;have LL:=wx h;obtain ⟨nx,tk,pg,ps,os,pi,fi,rd,ou,_⟩:=u;have bS:(rd.erase p.1).length<6:=by
  have:=List.length_erase_of_mem (show p.1∈rd from hm);have:rd.length≤6:=LL;have:0<rd.length:=List.length_pos_of_mem (show p.1∈rd from hm);omega
 have d1:=eG (l:=l1) (xf (nx:=nx) (tk:=tk) (pg:=pg) (ps:=bM ps p.1 (oA (qX c 0 0))) (os:=os) (pi:=pi) (fi:=fi) (ou:=ou) (b:=0) (c:=0) (l:=[]) (show p.1∈rd from hm) (abG LL (by omega))) (by omega);have d2:=eG (l:=l1++[eE 22 p.1 0 0]) (xg (nx:=nx) (tk:=tk) (pg:=pg) (ps:=bM ps p.1 (oA (qX c 0 0))) (os:=os) (pi:=pi) (fi:=fi) (ou:=ou) (k:=p.1) (b:=0) (c:=0) (l:=[]) bS) (by rw [aY];omega);refine Gv.step (aa e1) ?_;refine Gv.step (aa rfl) ?_;refine Gv.step (aa d1) ?_;refine Gv.step (aa rfl) ?_;refine Gv.step (aa d2) ?_;exact Gv.ret (v:=yj p c (nx,tk,pg,ps,os,pi,fi,rd,ou,())) (l':=l1++[eE 22 p.1 0 0]++[eE 21 p.1 0 0]) (by rw [aY,aY];omega)
theorem ac8 (h:aL 0 tl u) (hp:p∈bm u) (h1:cE p=1) {c:ag} (hc:aP c.1 c.2.1=true) (k:Int) (hl:l.length≤96000):Gv (MG (gz u l,pT p,c,(k,()),())) (He p c k u) l 100:=by
 have qY:nth c.2.1 (Int.toNat (0:Int))=some (cW c 0):=(ed hc (k:=0) (by omega)).1;have AG:=h.AG;unfold He;show Gv (Out.eval (C6 _)) _ _ _;dsimp only [C6];by_cases e1:k=1
 . rw [aa5 e1]
   refine Gv.step (ab (cT e1)) ?_;refine Gv.step (ab (by rfl)) ?_;refine Gv.step (aa qY) ?_;obtain ⟨l1,e1,GY⟩:=CB (code:=cW c 0) h hp (by omega) (ed hc (by omega)).2 (l:=l) (by omega);exact Gv.step (aa e1) (Gv.ret (l':=l1) (by omega))
 rw [aa3 e1];refine Gv.step (ae (dN e1)) ?_;by_cases e2:k=2
 . rw [aa5 e2];exact Gv.step (ab (cT e2)) (Gv.hand (V7 h hp h1 hc (l:=l) (by omega)) (by omega))
 rw [aa3 e2];refine Gv.step (ae (dN e2)) ?_;by_cases e3:k=3
 . rw [aa5 e3];exact Gv.step (ab (cT e3)) (Gv.hand (Wa h hp h1 hc (l:=l) (by omega)) (by omega))
 rw [aa3 e3];refine Gv.step (ae (dN e3)) ?_;by_cases e4:k=4
 . rw [aa5 e4];exact Gv.step (ab (cT e4)) (bP h.cF hp hc (ER h hp) (by omega) (by omega))
 rw [aa3 e4];refine Gv.step (ae (dN e4)) ?_;by_cases e5:k=5
 . rw [aa5 e5];exact Gv.step (ab (cT e5)) (Gv.hand (Wg h hp hc (l:=l) (by omega)) (by omega))
 rw [aa3 e5];refine Gv.step (ae (dN e5)) ?_;by_cases e6:k=6
 . rw [aa5 e6];exact Gv.step (ab (cT e6)) (Gv.hand (G8 h hp hc (l:=l) (by omega)) (by omega))
 rw [aa3 e6];refine Gv.step (ae (dN e6)) ?_;by_cases e7:k=7
 . rw [aa5 e7]
   refine Gv.step (ab (cT e7)) ?_;refine Gv.step (ab (by rfl)) ?_;refine Gv.step (aa qY) ?_;exact ES h hp h1 hc hl
 rw [aa3 e7];refine Gv.step (ae (dN e7)) ?_;by_cases e8:k=8
 . rw [aa5 e8];exact Gv.step (ab (cT e8)) (Gv.hand (Wm h hp h1 hc (l:=l) (by omega)) (by omega))
 rw [aa3 e8];refine Gv.step (ae (dN e8)) ?_;by_cases e9:k=9
 . rw [aa5 e9];exact Gv.step (ab (cT e9)) (Gv.hand (Re h hp h1 hc (l:=l) (by omega)) (by omega))
 rw [aa3 e9];refine Gv.step (ae (dN e9)) ?_;by_cases Wr:k=10
 . rw [aa5 Wr];exact Gv.step (ab (cT Wr)) (Gv.hand (Hc h hp hc (l:=l) (by omega)) (by omega))
 rw [aa3 Wr];refine Gv.step (ae (dN Wr)) ?_;by_cases Ws:k=11
 . rw [aa5 Ws];exact Gv.step (ab (cT Ws)) (Gv.hand (acX h hp hc (l:=l) (by omega)) (by omega))
 rw [aa3 Ws];refine Gv.step (ae (dN Ws)) ?_;by_cases Wt:k=12
 . rw [aa5 Wt];exact Gv.step (ab (cT Wt)) (Gv.hand (Q5 h hp h1 hc (l:=l) (by omega)) (by omega))
 rw [aa3 Wt];refine Gv.step (ae (dN Wt)) ?_;by_cases Wu:k=13
 . rw [aa5 Wu];exact Gv.step (ab (cT Wu)) (Gv.hand (Wq h hp h1 hc (l:=l) (by omega)) (by omega))
 rw [aa3 Wu];refine Gv.step (ae (dN Wu)) ?_;by_cases Wv:k=14
 . rw [aa5 Wv];exact Gv.step (ab (cT Wv)) (Gv.hand (Ms h hp hc (l:=l) (by omega)) (by omega))
 rw [aa3 Wv];refine Gv.step (ae (dN Wv)) ?_;by_cases Ww:k=15
 . rw [aa5 Ww];exact Gv.step (ab (cT Ww)) (bP h.cF hp hc (cM (by omega)) (by omega) (by omega))
 rw [aa3 Ww];refine Gv.step (ae (dN Ww)) ?_;by_cases Wx:k=16
 . rw [aa5 Wx];exact Gv.step (ab (cT Wx)) (Gv.hand (Wi h hp h1 hc (l:=l) (by omega)) (by omega))
 rw [aa3 Wx];refine Gv.step (ae (dN Wx)) ?_;by_cases Wy:k=17
 . rw [aa5 Wy];exact Gv.step (ab (cT Wy)) (Rh h hp h1 hc hl)
 rw [aa3 Wy];refine Gv.step (ae (dN Wy)) ?_;exact bP h.cF hp hc (by rfl) (by omega) (by omega)
end
section
abbrev Qy:Type:=Int×Int×Int×Int×Unit
def jO (c:ag) (a:Int):Int:=cW c a.toNat
def Hg (c:ag) (a v:Int):ag:=(c.1+1,c.2.1.set a.toNat v,())
abbrev flt (c:ag):ag×Qy:=(c,2, -1,0,0,())
abbrev C7:Qy:=(0, -1,0,0,())
def WA (i:az) (c:ag):Int:=if i.1=3 then jO c i.2.2.1 - jO c i.2.2.2.1 else jO c i.2.2.1+jO c i.2.2.2.1
def EV (i:az) (c:ag) (m:List Int):ag×Qy:=
 if i.1=1 then (Hg c i.2.1 i.2.2.1,C7)
 else if i.1=2∨i.1=3 then (if bV (WA i c)=true then (Hg c i.2.1 (WA i c),C7) else flt c)
 else if i.1=4∨i.1=5 then (if jO c i.2.2.1<0∨(m.length:Nat)≤jO c i.2.2.1 then flt c else if i.1=4 then (Hg c i.2.1 (m.getD (jO c i.2.2.1).toNat 0),C7) else ((c.1+1,c.2),(0,jO c i.2.2.1,jO c i.2.1,0,())))
 else if i.1=6 then ((i.2.1,c.2),C7)
 else if i.1=7 then ((if jO c i.2.1=0 then i.2.2.1 else c.1+1,c.2),C7)
 else ((c.1+1,c.2),(1, -1,0,i.2.1,()))
def yk (pr:List az) (c:ag) (m:List Int):ag×Qy:=match nth pr c.1.toNat with
 |none=>flt c
 |some i=>EV i c m
abbrev Bi (a:Int):Prop:=0≤a∧a<4
theorem Bj {i:az} (h:df i=true):(i.1=1∧Bi i.2.1∧bV i.2.2.1=true)∨((i.1=2∨i.1=3)∧Bi i.2.1∧Bi i.2.2.1∧Bi i.2.2.2.1)∨((i.1=4∨i.1=5)∧Bi i.2.1∧Bi i.2.2.1)∨
  (i.1=6∧0≤i.2.1∧i.2.1≤40)∨(i.1=7∧Bi i.2.1∧0≤i.2.2.1∧i.2.2.1≤40)∨(i.1=8∧1≤i.2.1∧i.2.1≤20):=by
 obtain ⟨o,a,b,c,_⟩:=i;have h:fU o a b c=true:=h;unfold fU at h;by_cases e1:o=1
 . subst e1;simp [cA] at h;exact .inl ⟨rfl,h.1,h.2.1⟩
 by_cases e2:o=2
 . subst e2;simp [cA] at h;exact .inr (.inl ⟨.inl rfl,h.1,h.2.1,h.2.2⟩)
 by_cases e3:o=3
 . subst e3;simp [cA] at h;exact .inr (.inl ⟨.inr rfl,h.1,h.2.1,h.2.2⟩)
 by_cases e4:o=4
 . subst e4;simp [cA] at h;exact .inr (.inr (.inl ⟨.inl rfl,h.1,h.2.1⟩))
 by_cases e5:o=5
 . subst e5;simp [cA] at h;exact .inr (.inr (.inl ⟨.inr rfl,h.1,h.2.1⟩))
 by_cases e6:o=6
 . subst e6;simp [dh] at h;exact .inr (.inr (.inr (.inl ⟨rfl,h.1⟩)))
 by_cases e7:o=7
 . subst e7;simp [cA,dh] at h;exact .inr (.inr (.inr (.inr (.inl ⟨rfl,h.1,h.2.1⟩))))
 by_cases e8:o=8
 . subst e8;simp [dh] at h;exact .inr (.inr (.inr (.inr (.inr ⟨rfl,h.1⟩))))
 . simp [e1,e2,e3,e4,e5,e6,e7,e8] at h
variable {c:ag} {i:az} {m:List Int} {a v:Int} {pr:List az}
theorem ep (hc:aP c.1 c.2.1=true) (ha:Bi a):nth c.2.1 a.toNat=some (jO c a)∧bV (jO c a)=true:=ed hc (by omega)
theorem mN {n:Int}:mw n=true↔0≤n∧n≤40:=fh
theorem C8 {pc:Int} (hc:aP c.1 c.2.1=true) (h:0≤pc∧pc≤40):aP pc c.2.1=true:=by
 obtain ⟨_,h2,h3⟩:=cY hc;unfold aP;rw [mN.2 h,h3];simp [h2]
theorem Hh (hc:aP c.1 c.2.1=true) (h:c.1<40) (hv:bV v=true):aP (Hg c a v).1 (Hg c a v).2.1=true:=by
 have:=mN.1 (cY hc).1;exact qd (pc:=c.1+1) (C8 hc (by omega)) hv
structure EW (r:ag×Qy) (m:List Int):Prop where
 kind:r.2.1=0∨r.2.1=1∨r.2.1=2
 ku:r.2.1≠2→aP r.1.1 r.1.2.1=true
 addr:0≤r.2.2.1→r.2.2.1<(m.length:Nat)∧bV r.2.2.2.1=true
theorem Hi:EW (flt c) m:=⟨.inr (.inr rfl),λh=>absurd rfl h,λh=>absurd (show (0:Int)≤ -1 from h) (by omega)⟩
theorem sy (h:aP c.1 c.2.1=true):EW (c,C7) m:=⟨.inl rfl,λ_=>h,λh=>absurd (show (0:Int)≤ -1 from h) (by omega)⟩
theorem MH (hm:aG m=true) (k:Nat):bV (m.getD k 0)=true:=oR hm
theorem Ri (hi:df i=true) (hc:aP c.1 c.2.1=true) (h:c.1<40) (hm:aG m=true):EW (EV i c m) m:=by
 have hp:=mN.1 (cY hc).1;have hn:aP (c.1+1) c.2.1=true:=C8 hc (by omega);unfold EV;rcases Bj hi with ⟨e,h1,h2⟩|⟨e,h1,h2,h3⟩|⟨e,h1,h2⟩|⟨e,h1⟩|⟨e,h1,h2⟩|⟨e,h1⟩
 . rw [aa5 e];exact sy (Hh hc h h2)
 . rw [aa3 (by omega),aa5 e]
   split
   . rename_i hw;exact sy (Hh hc h hw)
   . exact Hi
 . rw [aa3 (by omega),aa3 (by omega),aa5 e]
   split
   . exact Hi
   . rename_i hb
     split
     . exact sy (Hh hc h (MH hm _))
     . exact ⟨.inl rfl,λ_=>hn,λ_=>⟨by show jO c _<_;omega,(ep hc h1).2⟩⟩
 . rw [aa3 (by omega),aa3 (by omega),aa3 (by omega),aa5 e]
   exact sy (c:=(i.2.1,c.2)) (C8 (c:=c) hc h1)
 . rw [aa3 (by omega),aa3 (by omega),aa3 (by omega),aa3 (by omega),aa5 e]
   refine sy (c:=(_,c.2)) ?_;show aP (if _ then _ else _) c.2.1=true;split
   . exact C8 (c:=c) hc h2
   . exact hn
 . rw [aa3 (by omega),aa3 (by omega),aa3 (by omega),aa3 (by omega),aa3 (by omega)]
   exact ⟨.inr (.inl rfl),λ_=>hn,λh=>absurd (show (0:Int)≤ -1 from h) (by omega)⟩
theorem EX (h:bH pr=true) {k:Nat} {i:az} (hk:nth pr k=some i):df i=true∧k<40:=by
 unfold bH at h;rw [aa4,abS] at h;have kH:pr[k]? =some i:=hk;have:=List.getElem?_eq_some_iff.1 kH;obtain ⟨bS,_⟩:=this;exact ⟨abD.1 h.2 i (acx kH),by omega⟩
theorem IJ (h:bH pr=true) (hc:aP c.1 c.2.1=true) (hm:aG m=true):EW (yk pr c m) m:=by
 have hp:=mN.1 (cY hc).1;unfold yk;split
 . exact Hi
 . rename_i i e
   obtain ⟨h1,h2⟩:=EX h e;exact Ri h1 hc (by omega) hm
abbrev ex1 (r:ag×Qy):Option ((ag×Qy×Unit)×(Unit×XI)):=some ((r.1,r.2,()),((),(),(),()))
theorem WB:MI ()=some ((C7,()),()):=rfl
theorem J_V {n:Int} (hc:aP c.1 c.2.1=true) (ha:Bi a):(xp (c.1+1) n c.1 a 0 (-1) 0 0 c.2.1).eval=ex1 (if bV n=true then (Hg c a n,C7) else flt c):=by
 have hl:=(cY hc).2.1;dsimp only [xp];by_cases hw:bV n=true
 . rw [aa5 hw]
   refine zF ?_ (by rw [hw];rfl);refine zT ?_;exact zG rfl ((ep hc ha).1)
 . rw [aa3 hw]
   refine zT ?_ (by cases e:bV n with|true=>exact absurd e hw|false=>rfl);exact zG rfl rfl
theorem ag1 {n:Int} (hc:aP c.1 c.2.1=true) (ha:Bi a):(xq (c.1+1) n c.1 a 0 (-1) 0 0 c.2.1).eval=ex1 (if bV n=true then (Hg c a n,C7) else flt c):=by
 have hl:=(cY hc).2.1;dsimp only [xq];by_cases hw:bV n=true
 . rw [aa5 hw]
   refine zF ?_ (by rw [hw];rfl);refine zT ?_;exact zG rfl ((ep hc ha).1)
 . rw [aa3 hw]
   refine zT ?_ (by cases e:bV n with|true=>exact absurd e hw|false=>rfl);exact zG rfl rfl
theorem u9 (hc:aP c.1 c.2.1=true) (ha:Bi a): -1000000≤jO c a∧jO c a≤1000000:=fh.1 (ep hc ha).2
theorem Rj (h:bH pr=true) (hc:aP c.1 c.2.1=true) (_:m.length≤1000):MJ ((pr,()),c,(m,()),())=ex1 (yk pr c m):=by
 have hp:=mN.1 (cY hc).1;have hl:=(cY hc).2.1;have hw1:IntKind.i64.wrap (c.1+1)=c.1+1:=b7 (by omega) (by omega);unfold yk;show Out.eval (C9 _)=_;dsimp only [C9];by_cases bS:c.1≥(pr.length:Nat)
 . rw [show nth pr c.1.toNat=none from acI (by omega)]
   refine zT ?_ (aaE bS);exact zG rfl rfl
 refine zF ?_ (aa1 bS);refine zT ?_ (aaE hp.1);cases e:nth pr c.1.toNat with
 |none=>have:=List.getElem?_eq_none_iff.1 (show pr[c.1.toNat]? =none from e);omega
 |some i=>
 refine zG ?_ rfl;refine zG ?_ WB;rw [hw1];show _=ex1 (EV i c m);unfold EV;have hk:∀ {x y:Int},x≠y→(x==y)=false:=λh=>dN h;rcases Bj (EX h e).1 with ⟨e,h1,h2⟩|⟨e,h1,h2,h3⟩|⟨e,h1,h2⟩|⟨e,h1⟩|⟨e,h1,h2⟩|⟨e,h1⟩
 . rw [aa5 e]
   refine zT ?_ (cT e);refine zT ?_;exact zG rfl ((ep hc h1).1)
 . rw [aa3 (by omega),aa5 e]
   have r2:=u9 hc h2;have r3:=u9 hc h3;have hs:IntKind.i64.wrap (jO c i.2.2.1 - jO c i.2.2.2.1)=jO c i.2.2.1 - jO c i.2.2.2.1:=b7 (by omega) (by omega);have ha:IntKind.i64.wrap (jO c i.2.2.1+jO c i.2.2.2.1)=jO c i.2.2.1+jO c i.2.2.2.1:=b7 (by omega) (by omega);refine zF ?_ (hk (by omega));unfold WA;rcases e with e|e
   . rw [aa3 (show ¬ i.1=3 by omega)]
     refine zT ?_ (cT e);refine zT ?_;refine zG ?_ ((ep hc h2).1);refine zT ?_;refine zG ?_ ((ep hc h3).1);refine zF ?_ (hk (by omega));rw [ha];exact J_V hc h1
   . rw [aa5 e]
     refine zF ?_ (hk (by omega));refine zT ?_ (cT e);refine zT ?_;refine zG ?_ ((ep hc h2).1);refine zT ?_;refine zG ?_ ((ep hc h3).1);refine zT ?_ (cT e);refine zT ?_;refine zG ?_ ((ep hc h2).1);refine zT ?_;refine zG ?_ ((ep hc h3).1);rw [hs];exact ag1 hc h1
 . rw [aa3 (by omega),aa3 (by omega),aa5 e]
   have r2:=u9 hc h2;refine zF ?_ (hk (by omega));refine zF ?_ (hk (by omega));refine zF ?_ (hk (by omega));have hg:∀ {k:Int},0≤k→k<(m.length:Nat)→nth m k.toNat=some (m.getD k.toNat 0):=λ{k} h0 hk=>by
    show m[k.toNat]? =_;rw [ach,aa2 (by omega)];rfl
   rcases e with e|e
   . refine zT ?_ (cT e)
     refine zT ?_;refine zG ?_ ((ep hc h2).1);by_cases q1:jO c i.2.2.1<0
     . rw [aa5 (.inl q1)]
       refine zF ?_ (iG q1);exact zG rfl rfl
     refine zT ?_ (eZ q1);by_cases q2:(m.length:Nat)≤jO c i.2.2.1
     . rw [aa5 (.inr q2)]
       refine zT ?_ (aaE q2);exact zG rfl rfl
     rw [aa3 (by omega),aa5 e];refine zF ?_ (aa1 q2);refine zT ?_ (cT e);refine zT ?_;refine zG ?_ (hg (by omega) (by omega));refine zT ?_;exact zG rfl ((ep hc h1).1)
   . refine zF ?_ (hk (by omega))
     refine zT ?_ (cT e);refine zT ?_;refine zG ?_ ((ep hc h2).1);by_cases q1:jO c i.2.2.1<0
     . rw [aa5 (.inl q1)]
       refine zF ?_ (iG q1);exact zG rfl rfl
     refine zT ?_ (eZ q1);by_cases q2:(m.length:Nat)≤jO c i.2.2.1
     . rw [aa5 (.inr q2)]
       refine zT ?_ (aaE q2);exact zG rfl rfl
     rw [aa3 (by omega),aa3 (by omega)];refine zF ?_ (aa1 q2);refine zF ?_ (hk (by omega));refine zT ?_;exact zG rfl ((ep hc h1).1)
 . rw [aa3 (by omega),aa3 (by omega),aa3 (by omega),aa5 e]
   refine zF ?_ (hk (by omega));refine zF ?_ (hk (by omega));refine zF ?_ (hk (by omega));refine zF ?_ (hk (by omega));refine zF ?_ (hk (by omega));exact zT rfl (cT e)
 . rw [aa3 (by omega),aa3 (by omega),aa3 (by omega),aa3 (by omega),aa5 e]
   refine zF ?_ (hk (by omega));refine zF ?_ (hk (by omega));refine zF ?_ (hk (by omega));refine zF ?_ (hk (by omega));refine zF ?_ (hk (by omega));refine zF ?_ (hk (by omega));refine zT ?_ (cT e);refine zT ?_;refine zG ?_ ((ep hc h1).1);by_cases q:jO c i.2.1=0
   . rw [aa5 q];exact zT rfl (cT q)
   . rw [aa3 q];exact zF rfl (dN q)
 . rw [aa3 (by omega),aa3 (by omega),aa3 (by omega),aa3 (by omega),aa3 (by omega)]
   refine zF ?_ (hk (by omega));refine zF ?_ (hk (by omega));refine zF ?_ (hk (by omega));refine zF ?_ (hk (by omega));refine zF ?_ (hk (by omega));refine zF ?_ (hk (by omega));exact zF rfl (hk (by omega))
end
section
variable {x tl:Int} {u u':UT} {p:af} {l l':List ET} {β:Type} {n m:Nat}
def MK (p:af) (a v:Int) (u:UT):UT:=di p.1 (kg ((cd p).set a.toNat v)) u
def Da (p:af) (r:ag×Qy) (u:UT):UT:=if r.2.1=2 then oe p.1 (-1) u else if r.2.1=1 then He p r.1 r.2.2.2.2.1 u
 else if 0≤r.2.2.1 then MK p r.2.2.1 r.2.2.2.1 (AF p.1 r.1 u) else AF p.1 r.1 u
def yl (u:UT):UT:=match qU u with
 |[]=>u
 |v::_=>match dJ ao (bm u) v with
  |none=>u
  |some p=>match nth u.2.2.1 (pPg p).toNat with
   |none=>u
   |some pr=>Da p (yk pr (Db p) (cd p)) u
theorem ML (h:aL 0 tl u) {v:Int} {r:List Int} (e:qU u=v::r):∃ p∈bm u,p.1=v∧cE p=1∧∃ pr,nth u.2.2.1 (pPg p).toNat=some pr∧bH pr=true∧yl u=Da p (yk pr (Db p) (cd p)) u:=by
 have hm:v∈aH (bm u):=h.Et.mem_iff.1 (show v∈qU u by rw [e];simp);obtain ⟨p,hp,rfl,h1⟩:=MM.1 hm;have Bk:=(h.loc p hp).pg;have hpo:=h.Bk;unfold cO at hpo;simp only [aa4] at hpo;have hn:nth u.2.2.1 (pPg p).toNat=some (u.2.2.1[(pPg p).toNat]'(by omega)):=aa2 _;refine ⟨p,hp,rfl,h1,_,hn,abD.1 hpo.2 _ (acb _), ?_⟩;unfold yl;rw [e];simp only;rw [show dJ ao (bm u) p.1=some p from dv h.cF hp];simp only;rw [hn]
theorem Kz {a:List Int} (h:aG a=true) {v:Int} (hv:bV v=true) (k:Nat):aG (a.set k v)=true:=abD.2 λy hy=>by
 rcases afl hy with q|rfl
 . exact abD.1 h y q
 . exact hv
theorem WC (h:aL 0 tl u) (hp:p∈bm u) (h1:cE p=1) {a v:Int} (ha:0≤a∧a<((cd p).length:Nat)) (hv:bV v=true):aL 0 tl (MK p a v u):=by
 have hm:=(h.loc p hp).mem;refine Inv.mem h hp ?_ (by omega) ?_ ?_
 . rw [acz];exact ⟨hm.1,hm.2.1,Kz hm.2.2 hv _⟩
 . rw [acz];omega
 . have ht:lS (bm u)≤64:=h.G3
   rw [acz];show lS (bm u)+_≤_;omega
theorem WD {r:ag×Qy} (h:aL 0 tl u) (ht:tl≤u.2.1) (hp:p∈bm u) (h1:cE p=1) (hd:EW r (cd p)):aL 0 tl (Da p r u):=by
 unfold Da;by_cases k2:r.2.1=2
 . rw [aa5 k2];exact x8 h hp (by omega) (by rfl)
 rw [aa3 k2];have hc:=hd.ku k2;by_cases k1:r.2.1=1
 . rw [aa5 k1];exact ac6 h ht hp h1 hc _
 rw [aa3 k1];have hA:=IG h hp hc;split
 . rename_i ha
   exact WC (p:=oA r.1 p) hA ((aW h.cF hp).2 (.inl rfl)) h1 ⟨ha,(hd.addr ha).1⟩ (hd.addr ha).2
 . exact hA
theorem ac9 (h:aL 0 tl u) (ht:tl≤u.2.1):aL 0 tl (yl u):=by
 cases e:qU u with
 |nil=>unfold yl;rw [e];exact h
 |cons v r=>
  obtain ⟨p,hp,rfl,h1,pr,_,dF,er⟩:=ML h e;rw [er];exact WD h ht hp h1 (IJ dF (h.loc p hp).ku (h.loc p hp).mem.2.2)
theorem ada (h:aL 0 tl u):Gv (Ui (u,())) (yl u) [] 110:=by
 have hL:bA=68719476736:=rfl;show Gv (Out.eval (IK _)) _ _ _;dsimp only [IK];cases e:qU u with
 |nil=>
  have e':u.2.2.2.2.2.2.2.1=[]:=e;refine Gv.step (ab (by rw [e'];rfl)) ?_;have er:yl u=u:=by unfold yl;rw [e]
  rw [er];exact Gv.ret (l':=[]) (by omega)
 |cons v r=>
  have e':u.2.2.2.2.2.2.2.1=v::r:=e;obtain ⟨p,hp,rfl,h1,pr,Rk,dF,er⟩:=ML h e;rw [er];have G9:=h.loc p hp;have hcp:=cY G9.ku;have hm:=G9.mem;have hf:=G9.fds;have Bk:=G9.pg;obtain ⟨i,hi,Cz,jN⟩:=bu h.cF hp;have cQ:ak u.2.2.2.1 p.1=(i:Int):=hi;have qV:nth u.2.2.2.1 i=some p:=jN;have V1:i<u.2.2.2.1.length:=Cz;have hd:=IJ dF G9.ku hm.2.2;have hx:=Rj dF G9.ku (m:=cd p) (by omega);generalize yk pr (Db p) (cd p)=r at hd hx;refine Gv.step (ae (by rw [e'];simp only [aby];exact dN (by omega))) ?_;refine Gv.step (ab (aaE (by rw [e',aby];omega))) ?_;refine Gv.step (aa (by rw [e'];rfl)) ?_;rw [cQ];simp only [abo];refine Gv.step (ab (aaE (by omega))) ?_;refine Gv.step (aa qV) ?_;have adb:fV p.1 p.2.1 p.2.2.1 p.2.2.2.1 p.2.2.2.2.1.1 p.2.2.2.2.1.2.1 p.2.2.2.2.2.1 p.2.2.2.2.2.2.1 p.2.2.2.2.2.2.2.1 p.2.2.2.2.2.2.2.2.1=some (p.1,p.2.1,p.2.2.1,p.2.2.2.1,p.2.2.2.2.1.1,p.2.2.2.2.1.2.1,p.2.2.2.2.2.1,p.2.2.2.2.2.2.1,p.2.2.2.2.2.2.2.1,p.2.2.2.2.2.2.2.2.1):=aa5 (by
   have a1:p.2.2.2.2.1.2.1.length=4:=hcp.2.1;have a2:p.2.2.2.2.2.1.length≤12:=hm.1;have a3:p.2.2.2.2.2.2.1.length=4:=hf;omega)
  refine Gv.step (aa adb) ?_;refine Gv.step (ab (aaE Bk)) ?_;refine Gv.step (aa Rk) ?_;refine Gv.step (ab (aaE (by
   have a1:p.2.2.2.2.1.2.1.length=4:=hcp.2.1;simp only [abA];omega))) ?_
  refine Gv.step (aa hx) ?_;rw [iJ jN];dsimp only;unfold Da;by_cases k2:r.2.1=2
  . rw [aa5 k2]
    refine Gv.step (ab (cT k2)) ?_;obtain ⟨l1,e1,GY⟩:=CB (code:= -1) h hp (by omega) (by rfl) (l:=[]) (by simp);exact Gv.step (aa e1) (Gv.ret (l':=l1) (by omega))
  rw [aa3 k2];refine Gv.step (ae (dN k2)) ?_;have hc:=hd.ku k2;by_cases k1:r.2.1=1
  . rw [aa5 k1]
    refine Gv.step (ab (cT k1)) ?_;exact Gv.hand (ac8 h hp h1 hc r.2.2.2.2.1 (l:=[]) (by simp)) (by omega)
  rw [aa3 k1];refine Gv.step (ae (dN k1)) ?_;have hcv:=ade h.cF hp hc (l:=[]) (by simp);refine Gv.step (aa hcv) ?_;by_cases ha:0≤r.2.2.1
  . rw [aa5 ha]
    refine Gv.step (ab (aaE ha)) ?_;have qW:bO ao (bM u.2.2.2.1 p.1 (oA r.1)):=dB h.cF λ_ _ _=>rfl;have yb:oA r.1 p∈bM u.2.2.2.1 p.1 (oA r.1):=(aW h.cF hp).2 (.inl rfl);obtain ⟨nx,tk,pg,ps,os,pi,fi,rd,ou,_⟩:=u;have d1:=eG (l:=[]++[(1,p.1,r.1.1,0,r.1.2.1,())]) (Rl (nx:=nx) (tk:=tk) (pg:=pg) (os:=os) (pi:=pi) (fi:=fi) (rd:=rd) (ou:=ou) (b:=r.2.2.1) (c:=r.2.2.2.1) (l:=[]) qW yb ⟨ha,(hd.addr ha).1⟩ (hd.addr ha).2) (by rw [aY];simp);refine Gv.step (aa rfl) ?_;refine Gv.step (aa d1) ?_;exact Gv.ret (v:=MK p r.2.2.1 r.2.2.2.1 (AF p.1 r.1 (nx,tk,pg,ps,os,pi,fi,rd,ou,()))) (l':=[]++[(1,p.1,r.1.1,0,r.1.2.1,())]++[eE 2 p.1 r.2.2.1 r.2.2.2.1]) (by rw [aY,aY];simp)
  . rw [aa3 ha]
    refine Gv.step (ae (aa1 ha)) ?_;exact Gv.ret (l':=[]++[(1,p.1,r.1.1,0,r.1.2.1,())]) (by rw [aY];simp)
end
section
variable {x tl:Int} {u u':UT} {p:af} {l l':List ET} {β:Type} {n m:Nat}
def rN (tk:Int) (p:af):Bool:=cE p==2&&decide (oT p≤tk)
def iM (tk:Int) (ps:List af):List Int:=(ps.filter (rN tk)).map ao
def Hj (u:UT):UT:=if 2≤(qU u).length then dL (λrd=>rd.erase (rd.headD 0)++[rd.headD 0]) u else u
def ym (u:UT):UT:=(u.1,u.2.1+1,u.2.2)
def upU (u:UT):UT:=gB (iM u.2.1 (bm u)) u
def yn (u:UT):UT:=if 1000000≤u.2.1 then u else upU (Hj (ym u))
theorem yo {tk:Int}:rN tk p=true↔cE p=2∧oT p≤tk:=by unfold rN;simp
theorem oh (h:aL x tl u) (tk:Int):la (iM tk (bm u)) u:=by
 refine ⟨(show ((bm u).map ao).Nodup from h.cF.nodup).sublist (List.filter_sublist.map ao),λv hv=> ?_⟩;obtain ⟨p,hp,rfl⟩:=List.mem_map.1 hv;have Cr:=List.mem_filter.1 hp;have:=(yo.1 Cr.2).1;exact ⟨p,Cr.1,rfl,by omega,by omega⟩
theorem sA:∀ (vs:List Int) (u:UT),(gB vs u).2.1=u.2.1
 |[],_=>rfl
 |v::vs,u=>sA vs (iD v u)
theorem ri {q:af}:∀ (vs:List Int) (u:UT),q∈bm (gB vs u)→cE q=1∨(q∈bm u∧q.1 ∉ vs)
 |[],_,h=> .inr ⟨h,by simp⟩
 |v::vs,u,h=>by
  rcases ri vs (iD v u) h with h1|⟨h1,h2⟩
  . exact .inl h1
  . obtain ⟨z,hz,e⟩:=fT.1 (show q∈bM (bm u) v (lU 1 0) from h1)
    by_cases k:ao z=v
    . rw [aa5 k] at e;subst e;exact .inl rfl
    . rw [aa3 k] at e;subst e;exact .inr ⟨hz,by rw [abF];exact λh=>h.elim (λe=>k e) h2⟩
theorem Uj (h:aL x tl u):aL x tl (Hj u):=by
 unfold Hj;split
 . rename_i h2
   obtain ⟨v,r,e⟩:∃ v r,qU u=v::r:=by
    cases e:qU u with
    |nil=>rw [e] at h2;simp at h2
    |cons v r=>exact ⟨v,r,rfl⟩
   refine Inv.perm h ?_;show ((qU u).erase ((qU u).headD 0)++[(qU u).headD 0]).Perm (qU u);rw [e];show (((v::r).erase v)++[v]).Perm (v::r);rw [List.erase_cons_head];exact List.perm_append_comm
 . exact h
theorem MN (h:aL x tl u) (hl:¬ 1000000≤u.2.1):aL x tl (ym u):=Inv.tick h (by omega)
theorem ag4 (h:aL x tl u):aL x u.2.1 (upU u):=by
 refine Inv.later (vb h (oh h u.2.1)) λq hq h2=> ?_;rcases ri _ _ hq with e|⟨e1,e2⟩
 . omega
 . refine Classical.byContradiction λhn=>e2 (List.mem_map.2 ⟨q,List.mem_filter.2 ⟨e1,yo.2 ⟨h2,by omega⟩⟩,rfl⟩)
theorem WE (h:aL 0 u.2.1 u):aL 0 (yn u).2.1 (yn u):=by
 unfold yn;split
 . exact h
 . rename_i hl
   have:=ag4 (Uj (MN h hl));rw [show (upU (Hj (ym u))).2.1=(Hj (ym u)).2.1 from sA _ _];exact this
theorem ag5 (h:aL x tl u) (hl:l.length≤99900):Gv (Dc 0 0 u.1 u.2.1 [] [] [] [] [] [] [] [] u.2.2.1 u.2.2.2.1 u.2.2.2.2.1 u.2.2.2.2.2.1 u.2.2.2.2.2.2.1 u.2.2.2.2.2.2.2.1 u.2.2.2.2.2.2.2.2.1 l).eval (upU u) l 12:=by
 obtain ⟨nx,tk,pg,ps,os,pi,fi,rd,ou,_⟩:=u;have hL:bA=68719476736:=rfl;have hB:aM=9223372036854775807:=rfl;have G0:ps.length≤6:=h.np;have h1:=foldl_loop (f:=vc) (λ(acc:List Int) i=>acc.length≤i) (λacc (p:af)=>if rN tk p=true then acc++[p.1] else acc) ps
  (λacc i=>(((i:Int),()),((0,0,()),(nx,tk,()),acc,([]:List (List az)),([]:List af),([]:List aj),([]:List ag),([]:List ag),([]:List Int),([]:List Int),([]:List ET),pg,ps,os,pi,fi,rd,ou,l,())))
  (λacc=>((),((0,0,()),(nx,tk,()),acc,([]:List (List az)),([]:List af),([]:List aj),([]:List ag),([]:List ag),([]:List Int),([]:List Int),([]:List ET),pg,ps,os,pi,fi,rd,ou,l,())))
  (λi hi acc ha=> ?_) (λacc _=> ?_) (λi hi acc ha=> ?_) (by omega) [] (abE 0)
 . have WG:∀ (a:List af) (acc:List Int),a.foldl (λacc (p:af)=>if rN tk p=true then acc++[p.1] else acc) acc=acc++iM tk a:=by
    intro a
    induction a with
    |nil=>intro acc;simp [iM]
    |cons p r ih=>
     intro acc;rw [acn,ih];unfold iM;rw [acS];by_cases q:rN tk p=true
     . rw [aa5 q,aa5 q];simp [ao]
     . rw [aa3 q,aa3 q]
   rw [WG,ab0] at h1;have ha:=oh h tk;have hlen:(iM tk ps).length≤6:=by
    unfold iM;rw [acF];exact abG (adA _ _) G0
   have CV:la (iM tk ps) (nx,tk,pg,ps,os,pi,fi,rd,ou,()):=ha;unfold upU;show Gv _ (gB (iM tk ps) (nx,tk,pg,ps,os,pi,fi,rd,ou,())) _ _;generalize iM tk ps=vs at h1 CV hlen;have h2:=foldl_loop (f:=vd) (λ(d:UT×List ET) i=>aL x tl d.1∧la (vs.drop i) d.1∧d.2.length=l.length+2*i) (λ(d:UT×List ET) v=>(iD v d.1,rh v d.2)) vs
    (λd i=>(((i:Int),()),((0,0,()),(d.1.1,d.1.2.1,()),vs,([]:List (List az)),([]:List af),([]:List aj),([]:List ag),([]:List ag),([]:List Int),([]:List Int),([]:List ET),d.1.2.2.1,d.1.2.2.2.1,d.1.2.2.2.2.1,d.1.2.2.2.2.2.1,d.1.2.2.2.2.2.2.1,d.1.2.2.2.2.2.2.2.1,d.1.2.2.2.2.2.2.2.2.1,d.2,())))
    (λd=>((),((0,0,()),(d.1.1,d.1.2.1,()),([]:List (List az)),([]:List af),([]:List aj),([]:List ag),([]:List ag),([]:List Int),([]:List Int),([]:List ET),d.1.2.2.1,d.1.2.2.2.1,d.1.2.2.2.2.1,d.1.2.2.2.2.2.1,d.1.2.2.2.2.2.2.1,d.1.2.2.2.2.2.2.2.1,d.1.2.2.2.2.2.2.2.2.1,d.2,())))
    (λi hi d hd=> ?_) (λd _=> ?_) (λi hi d hd=> ?_) (by omega) ((nx,tk,pg,ps,os,pi,fi,rd,ou,()),l) ⟨h,CV,rfl⟩
   . have MO:∀ (vs:List Int) (d:UT×List ET),vs.foldl (λ(d:UT×List ET) v=>(iD v d.1,rh v d.2)) d=(gB vs d.1,ve vs d.2):=by
      intro vs
      induction vs with
      |nil=>intro d;rfl
      |cons v r ih=>intro d;rw [acn,ih];rfl
     rw [MO] at h2;dsimp only [Dc];refine Gv.step (aa h1) ?_;refine Gv.step (aa h2) ?_;exact Gv.ret (v:=gB vs (nx,tk,pg,ps,os,pi,fi,rd,ou,())) (l':=ve vs l) (by rw [rO];omega)
   . obtain ⟨hI,hA,Bl⟩:=hd
     have hn:nth vs i=some vs[i]:=aa2 hi;have hw:IntKind.i64.wrap ((i:Int)+1)=((i+1:Nat):Int):=aw (by omega);rw [acr hi] at hA;obtain ⟨q,hq,LK,q1,q6⟩:=hA.2 vs[i] List.mem_cons_self;have hv:=CA hI hq q1 (l:=d.2) (by omega);rw [LK] at hv;show Out.eval (vd _)=_;dsimp only [vd];simp only [abo,hw];refine zT ?_;refine zT ?_;refine zG ?_;refine zG ?_ hv;rfl
   . show Out.eval (vd _)=_
     dsimp only [vd];refine zF ?_;rfl
   . obtain ⟨hI,hA,Bl⟩:=hd
     rw [acr hi] at hA;have:=hA.tail hI;exact ⟨this.1,this.2,by show (rh _ _).length=_;rw [aY,aY];omega⟩
 . have hn:nth ps i=some ps[i]:=aa2 hi
   have hw:IntKind.i64.wrap ((i:Int)+1)=((i+1:Nat):Int):=aw (by omega);have Uk:acc.length+1≤bA:=by omega
   generalize ps[i]=p at hn;have hi0:(i:Int)<(ps.length:Int):=by omega
   show Out.eval (vc _)=_;dsimp only [vc,rN,cE,oT];simp only [abo,hw];by_cases e2:p.2.2.1=2
   . by_cases e3:p.2.2.2.2.2.2.2.1≤tk
     . simp [Out.eval,cond_eq_ite,hi0,hn,e2,e3,Uk]
     . simp [Out.eval,cond_eq_ite,hi0,hn,e2,e3]
   . simp [Out.eval,cond_eq_ite,hi0,hn,e2]
 . show Out.eval (vc _)=_
   dsimp only [vc];refine zF ?_;rfl
 . split
   . rw [abz];show acc.length+1≤i+1;omega
   . omega
theorem WH (h:aL 0 u.2.1 u):Gv (Ul (u,())) (yn u) [] 20:=by
 have AG:=h.AG;show Gv (Out.eval (IL _)) _ _ _;dsimp only [IL];unfold yn;by_cases hl:1000000≤u.2.1
 . rw [aa5 hl]
   refine Gv.step (ab (aaE hl)) ?_;exact Gv.ret (l':=[]) (by omega)
 rw [aa3 hl];refine Gv.step (ae (aa1 hl)) ?_;have hN:=MN h hl;have LL:=wx hN;have Ua:= @ag5 0 u.2.1 (Hj (ym u));have hR:=Uj hN;unfold Hj at Ua hR ⊢;obtain ⟨nx,tk,pg,ps,os,pi,fi,rd,ou,_⟩:=u;have d0:=eG (l:=[]) (Rm (nx:=nx) (tk:=tk) (pg:=pg) (ps:=ps) (os:=os) (pi:=pi) (fi:=fi) (rd:=rd) (ou:=ou) (k:=0) (b:=0) (c:=0) (l:=[]) AG.1 (Int.not_le.1 hl)) (by simp);refine Gv.step (aa rfl) ?_;refine Gv.step (aa d0) ?_;by_cases h2:2≤rd.length
 . rw [aa5 (show 2≤(qU (ym (nx,tk,pg,ps,os,pi,fi,rd,ou,()))).length from h2)] at Ua hR ⊢
   obtain ⟨v,w,r,rfl⟩:∃ v w r,rd=v::w::r:=by
    match rd,h2 with
    |v::w::r,_=>exact ⟨v,w,r,rfl⟩
   have LL:(v::w::r).length≤6:=LL;have he:(v::w::r).erase v=w::r:=List.erase_cons_head v _;have d1:=eG (l:=[]++[eE 24 0 0 0]) (xf (nx:=nx) (tk:=tk+1) (pg:=pg) (ps:=ps) (os:=os) (pi:=pi) (fi:=fi) (ou:=ou) (b:=0) (c:=0) (l:=[]) (show v∈v::w::r by simp) (by omega)) (by rw [aY];simp);have d2:=eG (l:=[]++[eE 24 0 0 0]++[eE 22 v 0 0]) (xg (nx:=nx) (tk:=tk+1) (pg:=pg) (ps:=ps) (os:=os) (pi:=pi) (fi:=fi) (ou:=ou) (k:=v) (b:=0) (c:=0) (l:=[]) (rd:=(v::w::r).erase v) (by rw [he];simp only [aby] at LL ⊢; omega)) (by rw [aY,aY];simp);refine Gv.step (ab (aaE (by show ((List.length (v::w::r):Nat):Int)≥2;simp only [aby];omega))) ?_;refine Gv.step (ab (aaE (by show (0:Int)≤0∧(0:Int)<((List.length (v::w::r):Nat):Int);simp only [aby];omega))) ?_;refine Gv.step (aa (show nth (v::w::r) (Int.toNat 0)=some v from rfl)) ?_;refine Gv.step (aa rfl) ?_;refine Gv.step (aa d1) ?_;refine Gv.step (aa rfl) ?_;refine Gv.step (aa d2) ?_;exact (Ua hR (l:=[]++[eE 24 0 0 0]++[eE 22 v 0 0]++[eE 21 v 0 0]) (by rw [aY,aY,aY];simp)).from (by rw [aY,aY,aY];simp)
 . rw [aa3 (show ¬ 2≤(qU (ym (nx,tk,pg,ps,os,pi,fi,rd,ou,()))).length from h2)] at Ua hR ⊢
   refine Gv.step (ae (aa1 (by show ¬ ((List.length rd:Nat):Int)≥2;omega))) ?_;exact (Ua hR (l:=[]++[eE 24 0 0 0]) (by rw [aY];simp)).from (by rw [aY];simp)
end
section
variable {x tl:Int} {u u' w:UT} {p:af} {l l':List ET} {β:Type} {n m:Nat} {v code:Int}
structure aC (u u':UT):Prop where
 tick:u'.2.1=u.2.1
 next:u.1≤u'.1
 pg:u'.2.2.1=u.2.2.1
 out:GL u <+: GL u'
 pid:∀ q∈bm u',(∃ p∈bm u,p.1=q.1)∨u.1≤q.1
theorem aC.refl:aC u u:=⟨rfl,acZ _,rfl,afi,λq hq=> .inl ⟨q,hq,rfl⟩⟩
theorem aC.trans (h:aC u w) (k:aC w u'):aC u u':=⟨k.tick.trans h.tick,Int.le_trans h.next k.next,k.pg.trans h.pg,h.out.trans k.out,λq hq=>by
 rcases k.pid q hq with ⟨p,hp,e⟩|e
 . rw [← e];exact h.pid p hp
 . exact .inr (Int.le_trans h.next e)⟩
theorem aC.procs {f:List af→List af} (h:aC u w) (hf:∀ a,∀ q∈f a,∃ p∈a,p.1=q.1):aC u (fE f w):=h.trans ⟨rfl,acZ _,rfl,afi,λq hq=> .inl (hf _ q hq)⟩
theorem aC.set {f:af→af} (h:aC u w) (hf:∀ q,(f q).1=q.1):aC u (di v f w):=h.procs λa q hq=>by
 obtain ⟨z,hz,e⟩:=fT.1 hq;refine ⟨z,hz, ?_⟩;rw [← e];split
 . exact (hf z).symm
 . rfl
theorem aC.rm (h:aC u w):aC u (fE (λps=>so ps v) w):=h.procs λ_ q hq=>⟨q,(iv.1 hq).1,rfl⟩
theorem aC.opens {f:List aj→List aj} (h:aC u w):aC u (bp f w):=h.trans ⟨rfl,acZ _,rfl,afi,λq hq=> .inl ⟨q,hq,rfl⟩⟩
theorem aC.bN {f:List ag→List ag} (h:aC u w):aC u (gi f w):=h.trans ⟨rfl,acZ _,rfl,afi,λq hq=> .inl ⟨q,hq,rfl⟩⟩
theorem aC.files {f:List ag→List ag} (h:aC u w):aC u (ky f w):=h.trans ⟨rfl,acZ _,rfl,afi,λq hq=> .inl ⟨q,hq,rfl⟩⟩
theorem aC.ready {f:List Int→List Int} (h:aC u w):aC u (dL f w):=h.trans ⟨rfl,acZ _,rfl,afi,λq hq=> .inl ⟨q,hq,rfl⟩⟩
theorem aC.outs (h:aC u w):aC u (Ra v w):=h.trans ⟨rfl,acZ _,rfl,List.prefix_append _ _,λq hq=> .inl ⟨q,hq,rfl⟩⟩
theorem aC.spawn (h:aC u w):aC u (nC p w):=h.trans ⟨rfl,by show w.1≤w.1+1;omega,rfl,afi,λq hq=>by
 rcases abp.1 hq with e|e
 . exact .inl ⟨q,e,rfl⟩
 . rw [acq.1 e];exact .inr (acZ _)⟩
theorem aC.jC (h:aC u w):aC u (iD v w):=(h.set (f:=lU 1 0) λ_=>rfl).ready
theorem aC.block {s t:Int} (h:aC u w):aC u (rH v s t w):=(h.set (f:=lU s t) λ_=>rfl).ready
theorem aC.ku {c:ag} (h:aC u w):aC u (AF v c w):=h.set (f:=oA c) λ_=>rfl
theorem aC.told {c:ag} {y:Int} (h:aC u w):aC u (ct v c y w):=h.ku
theorem aC.iN {c:ag} {y z:Int} (h:aC u w):aC u (hJ v c y z w):=h.ku
theorem aC.fold {α:Type} {f:UT→α→UT} (hf:∀ w y,aC u w→aC u (f w y)):∀ {a:List α} {w:UT},aC u w→aC u (a.foldl f w)
 |[],_,h=>h
 |y::a,w,h=>aC.fold hf (a:=a) (hf w y h)
theorem aC.Rn {vs:List Int} (h:aC u w):aC u (gB vs w):=aC.fold (f:=λu v=>iD v u) (λ_ _ h=>h.jC) h
theorem aC.cN {t:Int} (h:aC u w):aC u (ff t w):=h.Rn
theorem aC.ite {c:Prop} [Decidable c] {a b:UT} (h:aC u a) (k:aC u b):aC u (if c then a else b):=by split<;>assumption
theorem aC.close {k:Nat} (h:aC u w):aC u (kv v k w):=by unfold kv;(repeat' first|assumption|exact aC.refl|(intro _;rfl)|apply aC.told|apply aC.iN|apply aC.ku|apply aC.block|apply aC.jC|apply aC.cN|apply aC.set|apply aC.rm|apply aC.opens|apply aC.bN|apply aC.files|apply aC.ready|apply aC.outs|apply aC.spawn|apply aC.ite|split)
theorem aC.C4 {k:Nat} (h:aC u w):aC u (cc v k w):=aC.fold (f:=j3 v) (λw j h=>by
 unfold j3;split
 . exact h
 . split
   . exact h
   . exact h.close) h
theorem aC.kids {ks:List af} (h:aC u w):aC u (fS v ks w):=aC.fold (f:=oL v) (λw j h=>by unfold oL;(repeat' first|assumption|exact aC.refl|(intro _;rfl)|apply aC.told|apply aC.iN|apply aC.ku|apply aC.block|apply aC.jC|apply aC.cN|apply aC.set|apply aC.rm|apply aC.opens|apply aC.bN|apply aC.files|apply aC.ready|apply aC.outs|apply aC.spawn|apply aC.ite|split)) h
theorem aC.last (h:aC u w):aC u (Cv v code w):=by unfold Cv;(repeat' first|assumption|exact aC.refl|(intro _;rfl)|apply aC.told|apply aC.iN|apply aC.ku|apply aC.block|apply aC.jC|apply aC.cN|apply aC.set|apply aC.rm|apply aC.opens|apply aC.bN|apply aC.files|apply aC.ready|apply aC.outs|apply aC.spawn|apply aC.ite|split)
theorem aC.drop (h:aC u w):aC u (ld v w):=h.set (f:=kg []) λ_=>rfl
theorem aC.ends (h:aC u w):aC u (iK v code w):=by
 unfold iK;exact h.C4.drop.kids.last
theorem aC.exit (h:aC u w):aC u (oe v code w):=by
 unfold oe;split
 . exact h
 . split
   . exact h.ends
   . exact h.jC.ends
theorem aC.sys {c:ag} {k:Int}:aC u (He p c k u):=by
 unfold He;refine aC.ite ?_ ?_
 . exact aC.refl.exit
 refine aC.ite ?_ ?_
 . unfold Ba;(repeat' first|assumption|exact aC.refl|(intro _;rfl)|apply aC.told|apply aC.iN|apply aC.ku|apply aC.block|apply aC.jC|apply aC.cN|apply aC.set|apply aC.rm|apply aC.opens|apply aC.bN|apply aC.files|apply aC.ready|apply aC.outs|apply aC.spawn|apply aC.ite|split)
 refine aC.ite ?_ ?_
 . unfold Bc;(repeat' first|assumption|exact aC.refl|(intro _;rfl)|apply aC.told|apply aC.iN|apply aC.ku|apply aC.block|apply aC.jC|apply aC.cN|apply aC.set|apply aC.rm|apply aC.opens|apply aC.bN|apply aC.files|apply aC.ready|apply aC.outs|apply aC.spawn|apply aC.ite|split)
 refine aC.ite ?_ ?_
 . (repeat' first|assumption|exact aC.refl|(intro _;rfl)|apply aC.told|apply aC.iN|apply aC.ku|apply aC.block|apply aC.jC|apply aC.cN|apply aC.set|apply aC.rm|apply aC.opens|apply aC.bN|apply aC.files|apply aC.ready|apply aC.outs|apply aC.spawn|apply aC.ite|split)
 refine aC.ite ?_ ?_
 . unfold Bd;(repeat' first|assumption|exact aC.refl|(intro _;rfl)|apply aC.told|apply aC.iN|apply aC.ku|apply aC.block|apply aC.jC|apply aC.cN|apply aC.set|apply aC.rm|apply aC.opens|apply aC.bN|apply aC.files|apply aC.ready|apply aC.outs|apply aC.spawn|apply aC.ite|split)
 refine aC.ite ?_ ?_
 . unfold kU rK;(repeat' first|assumption|exact aC.refl|(intro _;rfl)|apply aC.told|apply aC.iN|apply aC.ku|apply aC.block|apply aC.jC|apply aC.cN|apply aC.set|apply aC.rm|apply aC.opens|apply aC.bN|apply aC.files|apply aC.ready|apply aC.outs|apply aC.spawn|apply aC.ite|split)
 refine aC.ite ?_ ?_
 . unfold jV
   split
   . (repeat' first|assumption|exact aC.refl|(intro _;rfl)|apply aC.told|apply aC.iN|apply aC.ku|apply aC.block|apply aC.jC|apply aC.cN|apply aC.set|apply aC.rm|apply aC.opens|apply aC.bN|apply aC.files|apply aC.ready|apply aC.outs|apply aC.spawn|apply aC.ite|split)
   . exact aC.refl.close.told
 refine aC.ite ?_ ?_
 . unfold Bg uY mM;(repeat' first|assumption|exact aC.refl|(intro _;rfl)|apply aC.told|apply aC.iN|apply aC.ku|apply aC.block|apply aC.jC|apply aC.cN|apply aC.set|apply aC.rm|apply aC.opens|apply aC.bN|apply aC.files|apply aC.ready|apply aC.outs|apply aC.spawn|apply aC.ite|split)
 refine aC.ite ?_ ?_
 . unfold u0 qc kW;(repeat' first|assumption|exact aC.refl|(intro _;rfl)|apply aC.told|apply aC.iN|apply aC.ku|apply aC.block|apply aC.jC|apply aC.cN|apply aC.set|apply aC.rm|apply aC.opens|apply aC.bN|apply aC.files|apply aC.ready|apply aC.outs|apply aC.spawn|apply aC.ite|split)
 refine aC.ite ?_ ?_
 . unfold kV yg;(repeat' first|assumption|exact aC.refl|(intro _;rfl)|apply aC.told|apply aC.iN|apply aC.ku|apply aC.block|apply aC.jC|apply aC.cN|apply aC.set|apply aC.rm|apply aC.opens|apply aC.bN|apply aC.files|apply aC.ready|apply aC.outs|apply aC.spawn|apply aC.ite|split)
 refine aC.ite ?_ ?_
 . unfold Kx dup2;(repeat' first|assumption|exact aC.refl|(intro _;rfl)|apply aC.told|apply aC.iN|apply aC.ku|apply aC.block|apply aC.jC|apply aC.cN|apply aC.set|apply aC.rm|apply aC.opens|apply aC.bN|apply aC.files|apply aC.ready|apply aC.outs|apply aC.spawn|apply aC.ite|split)
 refine aC.ite ?_ ?_
 . unfold uW;(repeat' first|assumption|exact aC.refl|(intro _;rfl)|apply aC.told|apply aC.iN|apply aC.ku|apply aC.block|apply aC.jC|apply aC.cN|apply aC.set|apply aC.rm|apply aC.opens|apply aC.bN|apply aC.files|apply aC.ready|apply aC.outs|apply aC.spawn|apply aC.ite|split)
 refine aC.ite ?_ ?_
 . unfold Bh
   split
   . (repeat' first|assumption|exact aC.refl|(intro _;rfl)|apply aC.told|apply aC.iN|apply aC.ku|apply aC.block|apply aC.jC|apply aC.cN|apply aC.set|apply aC.rm|apply aC.opens|apply aC.bN|apply aC.files|apply aC.ready|apply aC.outs|apply aC.spawn|apply aC.ite|split)
   . split
     . (repeat' first|assumption|exact aC.refl|(intro _;rfl)|apply aC.told|apply aC.iN|apply aC.ku|apply aC.block|apply aC.jC|apply aC.cN|apply aC.set|apply aC.rm|apply aC.opens|apply aC.bN|apply aC.files|apply aC.ready|apply aC.outs|apply aC.spawn|apply aC.ite|split)
     . split
       . exact aC.refl.exit
       . exact aC.refl.exit.told
 refine aC.ite ?_ ?_
 . unfold qb;(repeat' first|assumption|exact aC.refl|(intro _;rfl)|apply aC.told|apply aC.iN|apply aC.ku|apply aC.block|apply aC.jC|apply aC.cN|apply aC.set|apply aC.rm|apply aC.opens|apply aC.bN|apply aC.files|apply aC.ready|apply aC.outs|apply aC.spawn|apply aC.ite|split)
 refine aC.ite ?_ ?_
 . (repeat' first|assumption|exact aC.refl|(intro _;rfl)|apply aC.told|apply aC.iN|apply aC.ku|apply aC.block|apply aC.jC|apply aC.cN|apply aC.set|apply aC.rm|apply aC.opens|apply aC.bN|apply aC.files|apply aC.ready|apply aC.outs|apply aC.spawn|apply aC.ite|split)
 refine aC.ite ?_ ?_
 . unfold Be;(repeat' first|assumption|exact aC.refl|(intro _;rfl)|apply aC.told|apply aC.iN|apply aC.ku|apply aC.block|apply aC.jC|apply aC.cN|apply aC.set|apply aC.rm|apply aC.opens|apply aC.bN|apply aC.files|apply aC.ready|apply aC.outs|apply aC.spawn|apply aC.ite|split)
 refine aC.ite ?_ ?_
 . unfold yj;(repeat' first|assumption|exact aC.refl|(intro _;rfl)|apply aC.told|apply aC.iN|apply aC.ku|apply aC.block|apply aC.jC|apply aC.cN|apply aC.set|apply aC.rm|apply aC.opens|apply aC.bN|apply aC.files|apply aC.ready|apply aC.outs|apply aC.spawn|apply aC.ite|split)
 . (repeat' first|assumption|exact aC.refl|(intro _;rfl)|apply aC.told|apply aC.iN|apply aC.ku|apply aC.block|apply aC.jC|apply aC.cN|apply aC.set|apply aC.rm|apply aC.opens|apply aC.bN|apply aC.files|apply aC.ready|apply aC.outs|apply aC.spawn|apply aC.ite|split)
theorem aC.Da {r:ag×Qy}:aC u (Da p r u):=by
 unfold Dm.Da;split
 . exact aC.refl.exit
 split
 . exact aC.sys
 split
 . exact aC.refl.ku.set λ_=>rfl
 . exact aC.refl.ku
theorem aC.run:aC u (yl u):=by
 unfold yl;split
 . exact aC.refl
 split
 . exact aC.refl
 split
 . exact aC.refl
 . exact aC.Da
abbrev ib (u:UT):Prop:=aL 0 u.2.1 u
theorem Bm:b5 u.1 u.2.1 u.2.2.1 u.2.2.2.1 u.2.2.2.2.1 u.2.2.2.2.2.1 u.2.2.2.2.2.2.1 u.2.2.2.2.2.2.2.1 u.2.2.2.2.2.2.2.2.1=true↔ib u:=Hk
theorem adg (h:ib u):ib (yl u):=by
 have:=ac9 h (acZ _);unfold ib;rw [(aC.run (u:=u)).tick];exact this
theorem WI (h:ib u):ib (yn u):=WE h
end
section
open Go Go.ChangeShapes Go.WideShapes Go.ChangeAt Go.RowKit
end
end Go.Proofs.YtnlleofnjkeimaaGreatDoor.Dm
