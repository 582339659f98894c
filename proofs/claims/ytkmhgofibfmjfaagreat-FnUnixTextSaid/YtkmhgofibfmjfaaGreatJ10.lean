/- f -/
import Derived.Test.YtkmhgofibfmjfaaGreatJ9
import Derived.Test.YtkmhgofibfmjfaaGreatJ8
import Derived.Test.YtkmhgofibfmjfaaGreatJ5
import Derived.Test.YtkmhgofibfmjfaaGreatSo
import Derived.Shelf.Strings.OnBuilder
namespace Go.Proofs.YtkmhgofibfmjfaaGreat.Dm
open Go Go.ChangeShapes Go.WideShapes Go.ChangeAt Go.RowKit
section
variable {x tl:Int} {u u' v:UT} {p:af} {o:ai} {l l':List ET} {e:ET} {β:Type} {n m:Nat}
def Gv (r:Option ((WT×Unit)×β)) (v:UT) (l:List ET) (n:Nat):Prop:=∃ l' z,r=some ((iB v l',()),z)∧l'.length≤l.length+n
theorem Gv.step {r r':Option ((WT×Unit)×β)} (e:r=r') (h:Gv r' v l n):Gv r v l n:=e ▸ h
theorem Gv.ret {l':List ET} {z:β} (h:l'.length≤l.length+n):Gv (Out.ret ((iB v l',()),z)).eval v l n:=⟨l',z,rfl,h⟩
theorem Gv.from {r:Option ((WT×Unit)×β)} {l1:List ET} (h:Gv r v l1 n) (hm:l1.length+n≤l.length+m):Gv r v l m:=by obtain ⟨a,b,c,d⟩:=h;exact ⟨a,b,c,by omega⟩
abbrev pT (p:af):=(p.1,p.2.1,p.2.2.1,p.2.2.2.1,p.2.2.2.2.1.1,p.2.2.2.2.1.2.1,p.2.2.2.2.2.1,p.2.2.2.2.2.2.1,p.2.2.2.2.2.2.2.1,p.2.2.2.2.2.2.2.2.1,())
theorem dk {y:Int} (h: -1000000≤y∧y≤1000000:=by omega):b9 y=true:=eS.2 h
theorem b5 {z:β} (h:bZ aA (bE u)) (hp:p∈bE u) {c:ah} (hc:aU c.1 c.2.1=true) {y:Int} (hy:b9 y=true) {l1:List ET} (hl:l1.length≤99990:=by omega) (hm:l1.length+1≤l.length+m:=by omega):Gv (Out.get (bF (iB u l1,(p.1,()),c,(y,()),())) λ((cC,_),_)=>Out.ret ((cC,()),z)).eval (cG p.1 c y u) l m:=by
 obtain ⟨l',e,h2⟩:=Hy h hp hc hy hl;exact Gv.step (aa e) (Gv.ret (by omega))
theorem Hz {z:β} (h:bZ aA (bE u)) (hp:p∈bE u) {c:ah} (hc:aU c.1 c.2.1=true) {y w:Int} (hy:b9 y=true) (hw:b9 w=true) {l1:List ET} (hl:l1.length≤99990) (hm:l1.length+1≤l.length+m):Gv (Out.get (yw (iB u l1,(p.1,()),c,(y,()),(w,()),())) λ((cC,_),_)=>Out.ret ((cC,()),z)).eval (iQ p.1 c y w u) l m:=by
 obtain ⟨l',e,h2⟩:=OD h hp hc hy hw hl;exact Gv.step (aa e) (Gv.ret (by omega))
theorem HA (h:aQ x tl u) {n:Nat} (hn:n≤1000) {q:Bool} (hq:decide (oV (bE u)+4*n≤64)=q):pV (u,((n:Int),()),())=some (((q,()),()),((),(),())):=by
 obtain ⟨nx,tk,pg,ps,os,pi,fi,rd,ou,_⟩:=u;exact Ze (λp hp=>⟨(h.loc p hp).mem.1,(h.loc p hp).mem.2.1⟩) h.np hn hq
def oE (p:af) (u:UT):UT:=(u.1+1,u.2.1,u.2.2.1,u.2.2.2.1++[mY u.1 p],u.2.2.2.2)
def BU (p:af) (c:ah) (u:UT):UT:=
 if 6≤(bE u).length∨100000≤u.1∨64<oV (bE u)+(ct p).length then cG p.1 c (-1) u
 else cG p.1 c u.1 (eJ (· ++[u.1]) (cG u.1 c 0 (bu (cF (aE p)) (oE p u))))
theorem afW (h:aQ 0 tl u) (hp:p∈bE u) (h1:cU p=1) {c:ah} (hc:aU c.1 c.2.1=true):aQ 0 tl (BU p c u):=by
 unfold BU;split
 . exact cz h hp hc (by rfl)
 . rename_i hn
   have hx:=h.OE;have hF:aQ 0 tl (eJ (· ++[u.1]) (bu (cF (aE p)) (oE p u))):=Inv.fork h hp h1 (by omega) (by show (bE u).length<6;omega) (by show oV (bE u)+_≤64;omega);have hk:mY u.1 p∈bE (eJ (· ++[u.1]) (bu (cF (aE p)) (oE p u))):=agn _ (aey.2 rfl);have hK:=cz hF hk hc (y:=0) (by rfl);have hpp:p∈bE (eJ (· ++[u.1]) (bu (cF (aE p)) (oE p u))):=List.mem_append_left _ hp;have fE:p.1≠(mY u.1 p).1:=by have:=(h.ctx p hp).pid.2;show p.1≠u.1;omega
   have MM:p∈bE (cG (mY u.1 p).1 c 0 (eJ (· ++[u.1]) (bu (cF (aE p)) (oE p u)))):=(bd hF.df hk).2 (.inr ⟨hpp,fE⟩);exact cz hK MM hc (dk)
theorem MN (os:List ai):cF [] os=os:=by
 unfold cF;refine (afp λo _=> ?_).trans (akU os);show dg (bP o+((0:Nat):Int)) o=o;rw [show bP o+((0:Nat):Int)=bP o by omega];rfl
theorem JQ {os:List ai} (l:List Int) (f:Int) (fg:∀ o∈os,0≤o.1):cF (l++[f]) os=if f= -1 then cF l os else ca an (cF l os) f (λo=>dg (bP o+1) o):=by
 unfold cF;split
 . rename_i e
   refine afp λo ho=> ?_;have:(l++[f]).count o.1=l.count o.1:=by
    rw [List.count_append,e];have:=fg o ho;rw [List.count_eq_zero.2 (show o.1 ∉ [(-1:Int)] by simp;omega)];omega
   rw [this]
 . unfold ca
   rw [agR];refine afp λo ho=> ?_;show dg (bP o+(((l++[f]).count o.1:Nat):Int)) o=if an (dg _ o)=f then _ else _
   rw [List.count_append];by_cases q:o.1=f
   . rw [aaZ (show an (dg (bP o+((l.count o.1:Nat):Int)) o)=f from q),q]
     have:[f].count f=1:=by simp
     rw [this];show dg (bP o+((l.count f+1:Nat):Int)) o=dg (bP o+((l.count o.1:Nat):Int)+1) o;rw [q,show bP o+((l.count f+1:Nat):Int)=bP o+((l.count f:Nat):Int)+1 by omega]
   . rw [aae (show ¬ an (dg (bP o+((l.count o.1:Nat):Int)) o)=f from q)]
     have:[f].count o.1=0:=List.count_eq_zero.2 (by simpa using q);rw [this,Nat.add_zero]
theorem JR {os:List ai} (h:bZ an os) (l:List Int):bZ an (cF l os):=by
 have e:(cF l os).map an=os.map an:=by
  unfold cF;rw [agR];rfl
 unfold bZ;rw [e];exact h
theorem MO {a:List ai} (h:bZ an a) (ho:o∈a) {f g:ai→ai} (e:f o=g o):ca an a o.1 f=ca an a o.1 g:=by
 unfold ca;refine afp λy hy=> ?_;by_cases q:an y=o.1
 . obtain rfl:=h.inj hy ho q
   rw [aaZ q,aaZ q,e]
 . rw [aae q,aae q]
theorem QN {c:ah} (h:bZ an (eY u)) (fg:∀ o∈eY u,0≤o.1∧bP o≤100∧ -100≤bP o) (hos:(eY u).length≤8) (h4:(aE p).length=4) (hm:∀ f∈aE p,f= -1∨∃ o∈eY u,o.1=f) (hl:l.length≤99000) {k:Int}:
  ∃ l',aP sR aI ((k,0,()),((u.1,u.2.1,()),pT p,c,z2,eN u l))=some ((k,()),(((bu (cF (aE p)) u).1,(bu (cF (aE p)) u).2.1,()),pT p,c,z2,eN (bu (cF (aE p)) u) l'))∧l'.length≤l.length+4:=by
 have hB:cj=9223372036854775807:=rfl;have BV:=BW (f:=sR) 4 (λi s=>∃ l1,s=((k,(i:Int),()),((u.1,u.2.1,()),pT p,c,z2,eN (bu (cF ((aE p).take i)) u) l1))∧l1.length≤l.length+i)
  (Q:=λy=>∃ l',y=((k,()),(((bu (cF (aE p)) u).1,(bu (cF (aE p)) u).2.1,()),pT p,c,z2,eN (bu (cF (aE p)) u) l'))∧l'.length≤l.length+4) (λi hi s hs=> ?_) (λs hs=> ?_) (by omega) (s:=((k,0,()),((u.1,u.2.1,()),pT p,c,z2,eN u l))) ⟨l,by
   rw [List.take_zero];have:bu (cF []) u=u:=by unfold bu;rw [MN]
   rw [this];rfl,by omega⟩
 . obtain ⟨y,h1,l',rfl,h2⟩:=BV
   exact ⟨l',h1,h2⟩
 . obtain ⟨l1,rfl,MP⟩:=hs
   have hn:nth p.2.2.2.2.2.2.1 i=some ((aE p)[i]'(by omega)):=aa7 _;have h4':p.2.2.2.2.2.2.1.length=4:=h4;have hw:abs ((i:Int)+1)=((i+1:Nat):Int):=aq (by omega);have ht:(aE p).take (i+1)=(aE p).take i++[(aE p)[i]'(by omega)]:=List.take_succ_eq_append_getElem _;have hf:=hm _ (ad9 (show i<(aE p).length by omega));have FP:=JQ (os:=eY u) ((aE p).take i) ((aE p)[i]'(by omega)) λo ho=>(fg o ho).1;rw [← ht] at FP;have afY:∀ o:ai,((aE p).take i).count o.1≤4:=λo=>adQ List.count_le_length (by rw [ae0];omega);generalize (aE p)[i]'(by omega)=f at hn hf FP ht;by_cases e:f= -1
   . rw [aaZ e] at FP
     refine ⟨_, ?_,l1,rfl,by omega⟩;dsimp only [sR,eN,pT];simp only [adu,hw];refine zT ?_;refine zT ?_;refine zG ?_;refine zF ?_ (rD e);rw [← show bu (cF ((aE p).take (i+1))) u=bu (cF ((aE p).take i)) u by unfold bu;rw [show cF ((aE p).take (i+1)) u.2.2.2.2.1=cF ((aE p).take i) u.2.2.2.2.1 from FP]];rfl
   . rw [aae e] at FP
     obtain ⟨o,ho,rfl⟩:=hf.resolve_left e;have hm2:dg (bP o+((((aE p).take i).count o.1:Nat):Int)) o∈cF ((aE p).take i) (eY u):=List.mem_map.2 ⟨o,ho,rfl⟩;have uc:=JR h ((aE p).take i);have hc4:=afY o;have hlen:(cF ((aE p).take i) (eY u)).length≤1000:=by unfold cF;rw [afh];omega
     have hbd: -1000≤bP (dg (bP o+((((aE p).take i).count o.1:Nat):Int)) o)+1∧bP (dg (bP o+((((aE p).take i).count o.1:Nat):Int)) o)+1≤1000:=by
      have:=fg o ho;show -1000≤bP o+((((aE p).take i).count o.1:Nat):Int)+1∧bP o+((((aE p).take i).count o.1:Nat):Int)+1≤1000;omega
     have hcn:=MO uc hm2 (f:=λo=>dg (bP o+1) o) (g:=dg (bP (dg (bP o+((((aE p).take i).count o.1:Nat):Int)) o)+1)) rfl;have aq7:cF ((aE p).take (i+1)) (eY u)=ca an (cF ((aE p).take i) (eY u)) o.1 (dg (bP (dg (bP o+((((aE p).take i).count o.1:Nat):Int)) o)+1)):=FP.trans hcn;have hd:=fJ (l:=l1) (yx (nx:=u.1) (tk:=u.2.1) (pg:=u.2.2.1) (ps:=u.2.2.2.1) (pi:=u.2.2.2.2.2.1) (fi:=u.2.2.2.2.2.2.1) (rd:=u.2.2.2.2.2.2.2.1) (ou:=u.2.2.2.2.2.2.2.2.1) (b:=1) (c:=0) (l:=[]) uc hm2 hlen hbd);refine ⟨_, ?_,l1++[eE 11 o.1 1 0],rfl,by rw [bC];omega⟩;dsimp only [sR,eN,pT];simp only [adu,hw];refine zT ?_;refine zT ?_;refine zG ?_;refine zT ?_ (FQ e);refine zT ?_;refine zG ?_;refine zG ?_ rfl;refine zG ?_ hd;rw [show bu (cF ((aE p).take (i+1))) u=(u.1,u.2.1,u.2.2.1,u.2.2.2.1,cF ((aE p).take (i+1)) (eY u),u.2.2.2.2.2) from rfl,aq7];rfl
 . obtain ⟨l1,rfl,MP⟩:=hs
   have h4':p.2.2.2.2.2.2.1.length=4:=h4;rw [afJ (by omega)];refine ⟨_, ?_,l1,rfl,by omega⟩;dsimp only [sR,eN,pT];exact zF rfl (adD)
end
section
variable {x tl:Int} {u u' v:UT} {p:af} {o:ai} {l l':List ET} {e:ET} {β:Type} {n m:Nat}
theorem adF (n:Nat) (h:n≤1000):abs (Int.tdiv ((n:Nat):Int) (4:Int))=((n / 4:Nat):Int):=by
 have ht0:Int.tdiv ((n:Nat):Int) (4:Int)=((n / 4:Nat):Int):=rfl;rw [ht0,kN (by omega) (by omega)]
theorem afZ (h:aQ 0 tl u) (hp:p∈bE u) (_:cU p=1) {c:ah} (hc:aU c.1 c.2.1=true) (hl:l.length≤98000):Gv (Sx (iB u l,pT p,c,())) (BU p c u) l 10:=by
 have Sy:=h.loc p hp;have hm:(ct p).length≤12∧(ct p).length % 4=0:=⟨Sy.mem.1,Sy.mem.2.1⟩
 have pP:p.2.2.2.2.2.1.length≤12∧p.2.2.2.2.2.1.length % 4=0:=hm;have hx:=h.OE;have ht:=h.MQ;have ea:(ct p).length=p.2.2.2.2.2.1.length:=rfl;unfold BU;show Gv (Out.eval (HB _)) _ _ _;dsimp only [HB,iB,pT];rw [adF _ (by omega)];by_cases a1:6≤(bE u).length
 . rw [aaZ (.inl a1)]
   have a1':6≤u.2.2.2.1.length:=a1;refine Gv.step (ae (jP (by omega))) ?_;exact b5 h.df hp hc (by rfl)
 . have a1':¬ 6≤u.2.2.2.1.length:=a1
   refine Gv.step (ab (gP (by omega))) ?_;by_cases a2:100000≤u.1
   . rw [aaZ (.inr (.inl a2))]
     refine Gv.step (ae (jP (by omega))) ?_;exact b5 h.df hp hc (by rfl)
   . refine Gv.step (ab (gP (by omega))) ?_
     refine Gv.step (ae (by rfl)) ?_;by_cases a3:64<oV (bE u)+(ct p).length
     . rw [aaZ (.inr (.inr a3))]
       have hq:decide (oV (bE u)+4*(p.2.2.2.2.2.1.length / 4)≤64)=false:=adD;refine Gv.step (aa (HA h (by omega) hq)) ?_;refine Gv.step (ab (by rfl)) ?_;exact b5 h.df hp hc (by rfl)
     . have hq:decide (oV (bE u)+4*(p.2.2.2.2.2.1.length / 4)≤64)=true:=aac
       have hr:=HA h (by omega) hq;refine Gv.step (aa hr) ?_;refine Gv.step (ae (by rfl)) ?_;rw [aae (by rintro (e|e|e)<;>omega)];have hos:(eY u).length≤8:=oY h;have Sz:∀ o∈eY u,1≤bP o∧bP o≤24:=λo ho=>HC h ho;have fg:=λo ho=>(h.op o ho).id;have aq8:=h.ctx p hp;have uc:=h.df;have QO:=h.np;have cf:∀ q∈bE u,q.1<u.1:=λq hq=>(h.ctx q hq).pid.2;obtain ⟨nx,tk,pg,ps,os,pi,fi,rd,ou,_⟩:=u;have QP:=fJ (l:=l) (SA (c:=0) (l:=[]) uc hp (by omega) (by omega) hx.1 ⟨hm.1,(dt Sy.pW).2.1,Sy.fds⟩ hr);refine Gv.step (aa rfl) ?_;refine Gv.step (aa QP) ?_;obtain ⟨l1,e1,MP⟩:=QN (u:=oE p (nx,tk,pg,ps,os,pi,fi,rd,ou,())) (c:=c) (k:=nx) (p:=p) h.rp (λo ho=>⟨(fg o ho).1,by have:=Sz o ho;omega,by have:=Sz o ho;omega⟩) hos Sy.fds aq8.fds (l:=l++[eE 4 nx p.1 0]) (by rw [bC];omega);rw [bC] at MP;refine Gv.step (aa e1) ?_;have uM:bZ aA (ps++[mY nx p]):=by
        unfold bZ;rw [akY,List.pairwise_append];refine ⟨uc,by simp,λa ha b hb=> ?_⟩;obtain ⟨z,hz,ez⟩:=List.mem_map.1 ha;simp only [ael,alr,aey] at hb;rw [hb, ← ez];exact cf z hz
       have JS:mY nx p∈ps++[mY nx p]:=agn _ (aey.2 rfl);have hpp:p∈ps++[mY nx p]:=List.mem_append_left _ hp;obtain ⟨l2,e2,Zf⟩:=Hy (u:=bu (cF (aE p)) (oE p (nx,tk,pg,ps,os,pi,fi,rd,ou,()))) uM JS hc (y:=0) (by rfl) (l:=l1);refine Gv.step (aa e2) ?_;refine Gv.step (aa rfl) ?_;have hpu:=fJ (l:=l2) (Bc (nx:=nx+1) (tk:=tk) (pg:=pg) (ps:=bY (ps++[mY nx p]) nx (pX (ud c 0 0))) (os:=cF (aE p) os) (pi:=pi) (fi:=fi) (rd:=rd) (ou:=ou) (k:=nx) (b:=0) (c:=0) (l:=[]) (by
        have h3:rd.length≤ps.length:=by
         rw [(show rd.Perm (aN ps) from h.HD).length_eq];unfold aN;rw [afh];exact List.length_filter_le _ _
        have:¬ 6≤ps.length:=a1;omega))
       refine Gv.step (aa hpu) ?_;have af0:bZ aA (bY (ps++[mY nx p]) nx (pX (ud c 0 0))):=eA uM λ_ _ _=>rfl;have SB:p∈bY (ps++[mY nx p]) nx (pX (ud c 0 0)):=(bd uM JS).2 (.inr ⟨hpp,by have:=cf p hp;show p.1≠nx;omega⟩);exact b5 (u:=eJ (· ++[nx]) (cG nx c 0 (bu (cF (aE p)) (oE p (nx,tk,pg,ps,os,pi,fi,rd,ou,()))))) af0 SB hc (y:=nx) (dk) (l1:=l2++[eE 21 nx 0 0]) (by rw [bC];omega) (by rw [bC];omega)
theorem QQ {σ β γ:Type} {f:σ→Out (Round σ β γ)} (n:Nat) (R:Nat→σ→Prop) {Q:β→Prop} {Q':γ→Prop} (hs:∀ i,i<n→∀ s,R i s→(∃ s',(f s).eval=some (.again s')∧R (i+1) s')∨∃ z,(f s).eval=some (.ret z)∧Q' z) (hy:∀ s,R n s→∃ y,(f s).eval=some (.out y)∧Q y) (hn:n≤cj) {s:σ} (h0:R 0 s):
  (∃ y,iter f aI s=some (.inl y)∧Q y)∨∃ z,iter f aI s=some (.inr z)∧Q' z:=by
 have key:∀ (m i k:Nat) (s:σ),i+m=n→m<k→R i s→(∃ y,iter f k s=some (.inl y)∧Q y)∨∃ z,iter f k s=some (.inr z)∧Q' z:=by
  intro m
  induction m with
  |zero=>
   intro i k s hi hk hr;obtain rfl:i=n:=by omega
   obtain ⟨y,h1,h2⟩:=hy s hr;exact .inl ⟨y,jx h1 hk,h2⟩
  |succ m ih=>
   intro i k s hi hk hr;rcases hs i (by omega) s hr with ⟨s',h1,h2⟩|⟨z,h1,h2⟩
   . obtain ⟨k,rfl⟩:∃ k',k=k'+1:=⟨k - 1,by omega⟩
     rw [je h1];exact ih (i+1) k s' (by omega) (by omega) h2
   . exact .inr ⟨z,lu h1 (by omega),h2⟩
 exact key n 0 aI s (by omega) (ij hn) h0
def kO (v:Int) (k:af):Bool:=gQ k==v&&cU k==6
def rE (v:Int) (k:af):Bool:=gQ k==v
def BX (p:af) (c:ah) (u:UT):UT:=match (bE u).find? (kO p.1) with
 |some k=>iQ p.1 c k.1 (mb k) (gf (λps=>uN ps k.1) u)
 |none=>if (bE u).any (rE p.1)=true then rF p.1 3 0 u else cG p.1 c (-1) u
theorem vR {v:Int} {k:af}:kO v k=true↔gQ k=v∧cU k=6:=by unfold kO;simp
theorem af1 (h:aQ 0 tl u) (hp:p∈bE u) (h1:cU p=1) {c:ah} (hc:aU c.1 c.2.1=true):aQ 0 tl (BX p c u):=by
 unfold BX;cases e:(bE u).find? (kO p.1) with
 |some k=>
  have hk:=List.mem_of_find?_eq_some e;have h6:=(vR.1 (List.find?_some e)).2;have hR:aQ 0 tl (gf (λps=>uN ps k.1) u):=Inv.af2 h hk h6;have hpk:=(h.ctx k hk).pid;have hx:=h.OE;refine Bd hR (jy.2 ⟨hp,λe2=> ?_⟩) hc (dk) (h.loc k hk).code;have:=h.df.inj hp hk e2;subst this;omega
 |none=>
  simp only;split
  . exact Be h hp h1 (by omega) (by omega) (λ_=>rfl) (by omega)
  . exact cz h hp hc (by rfl)
theorem af3 (h:aQ 0 tl u) (hp:p∈bE u) (h1:cU p=1) {c:ah} (hc:aU c.1 c.2.1=true) (hl:l.length≤98000):Gv (SC (iB u l,pT p,c,())) (BX p c u) l 10:=by
 have hB:cj=9223372036854775807:=rfl;have QO:(bE u).length≤6:=h.np;have BV:=QQ (f:=sS) (bE u).length (λi s=>s=((!((bE u).take i).any (rE p.1),(i:Int),()),((u.1,u.2.1,()),pT p,c,z2,eN u l))∧((bE u).take i).all (λk=> !kO p.1 k)=true)
  (Q:=λy=>y=((!(bE u).any (rE p.1),()),((u.1,u.2.1,()),pT p,c,z2,eN u l))∧(bE u).find? (kO p.1)=none)
  (Q':=λz=>∃ k l',(bE u).find? (kO p.1)=some k∧l'.length≤l.length+2∧z=((),(((iQ p.1 c k.1 (mb k) (gf (λps=>uN ps k.1) u)).1,(iQ p.1 c k.1 (mb k) (gf (λps=>uN ps k.1) u)).2.1,()),(iQ p.1 c k.1 (mb k) (gf (λps=>uN ps k.1) u)).2.2.1,(iQ p.1 c k.1 (mb k) (gf (λps=>uN ps k.1) u)).2.2.2.1,(iQ p.1 c k.1 (mb k) (gf (λps=>uN ps k.1) u)).2.2.2.2.1,(iQ p.1 c k.1 (mb k) (gf (λps=>uN ps k.1) u)).2.2.2.2.2.1,(iQ p.1 c k.1 (mb k) (gf (λps=>uN ps k.1) u)).2.2.2.2.2.2.1,(iQ p.1 c k.1 (mb k) (gf (λps=>uN ps k.1) u)).2.2.2.2.2.2.2.1,(iQ p.1 c k.1 (mb k) (gf (λps=>uN ps k.1) u)).2.2.2.2.2.2.2.2.1,l',())))
  (λi hi s hs=> ?_) (λs hs=> ?_) (by omega) (s:=((true,0,()),((u.1,u.2.1,()),pT p,c,z2,eN u l))) ⟨rfl,rfl⟩
 . show Gv (Out.eval (HE _)) _ _ _
   dsimp only [HE,iB,pT];unfold BX;rcases BV with ⟨y,e1,rfl,e2⟩|⟨z,e1,k,l',e2,hl',rfl⟩
   . rw [e2]
     refine Gv.step (aa e1) ?_;refine Gv.step (bG _) ?_;simp only;by_cases q:(bE u).any (rE p.1)=true
     . rw [aaZ q]
       refine Gv.step (ae (by rw [q];rfl)) ?_;refine Gv.step (aa (Bf h hp h1)) ?_;exact Gv.ret (by rw [bC,bC];omega)
     . rw [aae q]
       refine Gv.step (ab (by rw [Bool.eq_false_iff.2 q];rfl)) ?_;exact b5 h.df hp hc (by rfl)
   . rw [e2]
     refine Gv.step (aa e1) ?_;refine Gv.step (pY _) ?_;exact Gv.ret (l':=l') (by omega)
 . obtain ⟨rfl,HF⟩:=hs
   have hn:nth (bE u) i=some (bE u)[i]:=aa7 hi;have hq:=ad9 hi;have hw:abs ((i:Int)+1)=((i+1:Nat):Int):=aq (by omega);have ht:(bE u).take (i+1)=(bE u).take i++[(bE u)[i]]:=List.take_succ_eq_append_getElem _;have mr:bE u=(bE u).take i++(bE u)[i]::(bE u).drop (i+1):=by
    conv=>lhs;rw [← List.take_append_drop i (bE u),aeC hi]
   have dh:i<u.2.2.2.1.length:=hi;generalize (bE u)[i]=q at hn hq ht mr;have qZ:nth u.2.2.2.1 i=some q:=hn;by_cases hk:gQ q=p.1
   . by_cases h6:cU q=6
     . right
       have hd:kO p.1 q=true:=vR.2 ⟨hk,h6⟩;have hf:(bE u).find? (kO p.1)=some q:=by
        rw [mr,List.find?_append,List.find?_eq_none.2 λz hz=>by have:=adG.1 HF z hz;simpa using this];rw [List.find?_cons_of_pos hd];rfl
       have hR:aQ 0 tl (gf (λps=>uN ps q.1) u):=Inv.af2 h hq h6;have hpk:=(h.ctx q hq).pid;have hx:=h.OE;have MM:p∈bE (gf (λps=>uN ps q.1) u):=jy.2 ⟨hp,λe2=>by
        have:=h.df.inj hp hq e2;subst this;omega⟩
       obtain ⟨l',e2,Zf⟩:=OD hR.df MM hc (y:=q.1) (z:=mb q) (dk) (h.loc q hq).code (l:=l++[eE 6 q.1 0 0]) (by rw [bC];omega);rw [bC] at Zf;refine ⟨_, ?_,q,l',hf,by omega,rfl⟩;have hre:=fJ (l:=l) (u:=u) (HG (b:=0) (c:=0) (l:=[]) h.df hq h.np);dsimp only [sS,eN,pT];simp only [adu,hw];refine zT ?_;refine zT ?_;refine zG ?_ qZ;refine zF ?_ (rD hk);refine zT ?_ (dE h6);refine zG ?_ rfl;refine zG ?_ hre;refine zG ?_ e2;rfl
     . left
       refine ⟨_, ?_,rfl, ?_⟩
       . dsimp only [sS,eN,pT]
         simp only [adu,hw];refine zT ?_;refine zT ?_;refine zG ?_ qZ;refine zF ?_ (rD hk);refine zF ?_ (fj h6);have:(!((bE u).take (i+1)).any (rE p.1))=false:=by
          rw [ht,List.any_append];have:rE p.1 q=true:=by unfold rE;simpa using hk
          simp [this]
         rw [this];rfl
       . rw [ht,akX,HF]
         have:kO p.1 q=false:=Bool.eq_false_iff.2 λe=>h6 (vR.1 e).2;simp [this]
   . left
     refine ⟨_, ?_,rfl, ?_⟩
     . dsimp only [sS,eN,pT]
       simp only [adu,hw];refine zT ?_;refine zT ?_;refine zG ?_ qZ;refine zT ?_ (FQ hk);have:(!((bE u).take (i+1)).any (rE p.1))= !((bE u).take i).any (rE p.1):=by
        rw [ht,List.any_append];have:rE p.1 q=false:=by unfold rE;simpa using hk
        simp [this]
       rw [this];rfl
     . rw [ht,akX,HF]
       have:kO p.1 q=false:=Bool.eq_false_iff.2 λe=>hk (vR.1 e).1;simp [this]
 . obtain ⟨rfl,HF⟩:=hs
   rw [List.take_length] at HF;refine ⟨_, ?_,rfl,List.find?_eq_none.2 λz hz=>by have:=adG.1 HF z hz;simpa using this⟩;dsimp only [sS,eN,pT];rw [List.take_length];exact zF rfl (adD (by show ¬ (((bE u).length:Nat):Int)<(((bE u).length:Nat):Int);omega))
end
section
variable {x tl:Int} {u u' v:UT} {p:af} {o:ai} {l l':List ET} {e:ET} {β:Type} {n m:Nat}
def kP (q:Nat→Bool):Nat→Nat→Option Nat
 |_,0=>none
 |i,n+1=>if q i=true then some i else kP q (i+1) n
theorem nV {q:Nat→Bool}:∀ {n i j:Nat},kP q i n=some j→i≤j∧j<i+n∧q j=true
 |0,i,j,h=>by cases h
 |n+1,i,j,h=>by
  unfold kP at h;by_cases e:q i=true
  . grind
  . rw [aae e] at h
    have:=nV h;grind
theorem pZ {σ β γ:Type} {f:σ→Out (Round σ β γ)} (q:Nat→Bool) (S:Nat→σ) {y:β} {z:Nat→γ}:∀ (n i:Nat),(∀ j,i≤j→j<i+n→(f (S j)).eval=some (if q j=true then .ret (z j) else .again (S (j+1))))→(f (S (i+n))).eval=some (.out y)→∀ k,n<k→iter f k (S i)=some (match kP q i n with|some j=> .inr (z j)|none=> .inl y)
 |0,i,_,hy,k,hk=>by rw [show i+0=i from rfl] at hy;rw [jx hy hk];rfl
 |n+1,i,hs,hy,k,hk=>by
  have h1:=hs i (adK _) (by omega);unfold kP;by_cases e:q i=true
  . rw [aaZ e] at h1 ⊢
    grind [lu]
  . rw [aae e] at h1 ⊢
    obtain ⟨k,rfl⟩:∃ k',k=k'+1:=⟨k - 1,by omega⟩
    rw [je h1];exact pZ q S n (i+1) (by grind) (by grind) k (by omega)
def cD (fds:List Int) (k:Nat):Int:=vS (kP (λi=>fds[i]? ==some (-1)) k (4 - k))
def bT (os:List ai) (k:Nat):Int:=vS (kP (λi=> !os.any λo=>o.1==(i:Int)) k (8 - k))
def iI (pi:List ah):Int:=vS (kP (λi=> !pi.any λy=>y.1==(i:Int)) 0 3)
theorem uO (o:Option Nat):vS o= -1∧o=none∨∃ j,o=some j∧vS o=(j:Int):=by
 cases o with
 |none=>exact .inl ⟨rfl,rfl⟩
 |some j=>exact .inr ⟨j,rfl,rfl⟩
theorem ik {fds:List Int} {k:Nat} (h4:fds.length=4) (_:k≤4):cD fds k= -1∨∃ j:Nat,cD fds k=(j:Int)∧k≤j∧j<4∧fds[j]? =some (-1):=by
 unfold cD;rcases uO (kP (λi=>fds[i]? ==some (-1)) k (4 - k)) with ⟨e,_⟩|⟨j,e1,e2⟩
 . exact .inl e
 . have:=nV e1
   grind
theorem jf {os:List ai} {k:Nat} (hk:k≤8):bT os k= -1∨∃ j:Nat,bT os k=(j:Int)∧k≤j∧j<8∧∀ o∈os,o.1≠(j:Int):=by
 unfold bT;rcases uO (kP (λi=> !os.any λo=>o.1==(i:Int)) k (8 - k)) with ⟨e,_⟩|⟨j,e1,e2⟩
 . exact .inl e
 . have h:=nV e1
   grind
theorem BY {pi:List ah}:iI pi= -1∨∃ j:Nat,iI pi=(j:Int)∧j<3∧∀ y∈pi,y.1≠(j:Int):=by
 unfold iI;rcases uO (kP (λi=> !pi.any λy=>y.1==(i:Int)) 0 3) with ⟨e,_⟩|⟨j,e1,e2⟩
 . exact .inl e
 . have h:=nV e1
   grind
theorem MR {n:Nat} (h:n≤10:=by omega):n<aI:=by grind
theorem vT (h4:(aE p).length=4) {k:Nat} (hk:k≤4:=by omega):BZ (pT p,((k:Int),()),())=some (((cD (aE p) k,()),()),((),(),())):=by
 have h4':p.2.2.2.2.2.2.1.length=4:=h4;have hB:cj=9223372036854775807:=rfl;have hl:=pZ (f:=Bg) (λi=>(aE p)[i]? ==some (-1)) (λi=>(((i:Int),()),(pT p,()))) (y:=((),())) (z:=λi=>(((i:Int),()),())) (4 - k) k (λj h1 h2=> ?_) ?_ aI (MR)
 . show Out.eval (HH _)=_
   dsimp only [HH,pT];refine zG ?_ hl;unfold cD;cases kP (λi=>(aE p)[i]? ==some (-1)) k (4 - k) with
   |none=>rfl
   |some j=>rfl
 . have hw:abs ((j:Int)+1)=((j+1:Nat):Int):=aq (by omega)
   have hg:(aE p)[j]? =some ((aE p)[j]'(by omega)):=by grind
   dsimp only [Bg,pT];simp only [adu,hw,hg];refine zT ?_;refine zT ?_;refine zG ?_ rfl;by_cases e:(aE p)[j]'(by omega)= -1
   . refine zT ?_ (dE e)
     rw [e];rfl
   . refine zF ?_ (fj e)
     rw [aae (by simpa using e)];rfl
 . dsimp only [Bg,pT]
   exact zF rfl (by grind)
theorem yz {α:Type} {key:α→Int} {a:List α} {v:Int}:decide (dM key a v<0)= !a.any λx=>key x==v:=by
 have:=lQ a λx=>key x==v;unfold dM iT;rw [← this];rw [aeA];simp
theorem uP {k:Nat} (hk:k≤8):HI (u,((k:Int),()),())=some (((bT (eY u) k,()),()),((),(),())):=by
 have hB:cj=9223372036854775807:=rfl;have hl:=pZ (f:=Bh) (λi=> !(eY u).any λo=>o.1==(i:Int)) (λi=>(((i:Int),()),(u,()))) (y:=((),())) (z:=λi=>(((i:Int),()),())) (8 - k) k (λj h1 h2=> ?_) ?_ aI (MR)
 . show Out.eval (HJ _)=_
   dsimp only [HJ];refine zG ?_ hl;unfold bT;cases kP (λi=> !(eY u).any λo=>o.1==(i:Int)) k (8 - k) with
   |none=>rfl
   |some j=>rfl
 . have hw:abs ((j:Int)+1)=((j+1:Nat):Int):=aq (by omega)
   obtain ⟨nx,tk,pg,ps,os,pi,fi,rd,ou,_⟩:=u;dsimp only [Bh];simp only [hw];refine zT ?_;have hp:decide (aM os (j:Int)<0)= !os.any λo=>o.1==(j:Int):=yz (key:=an);rw [hp];cases q:(!os.any λo=>o.1==(j:Int))
   . refine zF ?_
     rfl
   . refine zT ?_
     rfl
 . obtain ⟨nx,tk,pg,ps,os,pi,fi,rd,ou,_⟩:=u
   dsimp only [Bh];exact zF rfl (by grind)
theorem MS:SD (u,())=some (((iI (nW u),()),()),((),())):=by
 have hB:cj=9223372036854775807:=rfl;have hl:=pZ (f:=Bi) (λi=> !(nW u).any λy=>y.1==(i:Int)) (λi=>(((i:Int),()),(u,()))) (y:=((),())) (z:=λi=>(((i:Int),()),())) 3 0 (λj h1 h2=> ?_) ?_ aI (MR)
 . show Out.eval (HK _)=_
   dsimp only [HK];refine zG ?_ hl;unfold iI;cases kP (λi=> !(nW u).any λy=>y.1==(i:Int)) 0 3 with
   |none=>rfl
   |some j=>rfl
 . have hw:abs ((j:Int)+1)=((j+1:Nat):Int):=aq (by omega)
   obtain ⟨nx,tk,pg,ps,os,pi,fi,rd,ou,_⟩:=u;dsimp only [Bi];simp only [hw];refine zT ?_;have hp:decide (bq pi (j:Int)<0)= !pi.any λy=>y.1==(j:Int):=yz (key:=aG);rw [hp];cases q:(!pi.any λy=>y.1==(j:Int))
   . refine zF ?_
     rfl
   . refine zT ?_
     rfl
 . obtain ⟨nx,tk,pg,ps,os,pi,fi,rd,ou,_⟩:=u
   dsimp only [Bi];exact zF rfl (by grind)
theorem sT {α:Type} {key:α→Int} {y:α} {f:α→α}:∀ {a:List α},(∀ x∈a,key x≠key y)→(key (f y)=key y)→ca key (bS key y a) (key y) f=bS key (f y) a
 |[],_,_=>by simp [bS,ca]
 |x::r,h,hf=>by
  have hx:=h x (by simp);unfold bS;rw [hf];by_cases q:key y<key x
  . rw [aaZ q,aaZ q]
    show (if key y=key y then f y else y)::ca key (x::r) (key y) f=_;rw [aaZ rfl,sU h]
  . rw [aae q,aae q]
    show (if key x=key y then f x else x)::ca key (bS key y r) (key y) f=_;simp_all [sT]
def dH (c:ah) (k:Nat):Int:=c.2.1.getD k 0
theorem fk {c:ah} (hc:aU c.1 c.2.1=true) {k:Nat} (hk:k<4:=by omega):nth c.2.1 k=some (dH c k)∧b9 (dH c k)=true:=by
 obtain ⟨_,h4,hw⟩:=dt hc;have e:c.2.1[k]? =some (c.2.1[k]'(by omega)):=by grind
 have e2:dH c k=c.2.1[k]'(by omega):=by grind [dH]
 refine ⟨by grind, ?_⟩;rw [e2];exact adG.1 hw _ (ad9 _)
theorem SE {c:ah} (hc:aU c.1 c.2.1=true) {k:Nat} (hk:k<4): -1000000≤dH c k∧dH c k≤1000000:=eS.1 (fk hc hk).2
def lq (fi:List ah) (v:Int):Bool:=fi.any λy=>y.1==v
theorem sV {fi:List ah} {v:Int}:lq fi v=true↔∃ y∈fi,y.1=v:=by grind [lq,List.any_eq_true]
theorem JT (fi:List ah) (v:Int):decide (br fi v≥0)=lq fi v:=lQ fi λy=>y.1==v
def rG (p:af) (c:ah) (name fd id:Int) (u:UT):UT:=cG p.1 c fd (dJ p.1 (cp ((aE p).set fd.toNat id)) (bu (bS an (id,2,name,0,1,())) u))
def lv (p:af) (c:ah) (u:UT):UT:=
 if ¬ (0≤dH c 0∧dH c 0≤5)∨cD (aE p) 0<0∨bT (eY u) 0<0∨(lq (nT u) (dH c 0)=false∧dH c 1=0) then cG p.1 c (-1) u
 else rG p c (dH c 0) (cD (aE p) 0) (bT (eY u) 0) (if lq (nT u) (dH c 0)=true then u else lx (bS aW (dH c 0,[],())) u)
theorem JU {name:Int} (h:aQ 0 tl u) (hp:p∈bE u) (h1:cU p=1) {c:ah} (hc:aU c.1 c.2.1=true) {j k:Nat} (hj:j<4) (JF:(aE p)[j]? =some (-1)) (hk:k<8) (kQ:∀ o∈eY u,o.1≠(k:Int)) (hn:∃ y∈nT u,y.1=name):aQ 0 tl (rG p c name j k u):=by
 obtain ⟨y,hy,rfl⟩:=hn;have hA:aQ 0 tl (dJ p.1 (cp ((aE p).set j (k:Int))) (bu (bS an ((k:Int),2,y.1,0,1,())) u)):=Inv.af4 (o:=((k:Int),2,y.1,0,1,())) h hp h1 JF (by grind) kQ rfl
  (by grind) (λz hz=> .inl hz) (λz hz=>hz) h.Aj
 have MM:cp ((aE p).set j (k:Int)) p∈bE (dJ p.1 (cp ((aE p).set j (k:Int))) (bu (bS an ((k:Int),2,y.1,0,1,())) u)):=(bd h.df hp).2 (.inl rfl);have:=cz hA MM hc (y:=(j:Int)) (dk);unfold rG;rw [adu];exact this
theorem af5 {name:Int} (h:aQ x tl u) (hn:0≤name∧name≤5) (hno:¬ lq (nT u) name=true):aQ x tl (lx (bS aW (name,[],())) u):=Inv.make h hn (by grind [sV])
theorem MT (h:aQ 0 tl u) (hp:p∈bE u) (h1:cU p=1) {c:ah} (hc:aU c.1 c.2.1=true):aQ 0 tl (lv p c u):=by
 unfold lv;split
 . exact cz h hp hc (by rfl)
 . rename_i hno
   have a1:0≤dH c 0∧dH c 0≤5:=Classical.byContradiction λe=>hno (.inl e);rcases ik (k:=0) (h.loc p hp).fds (by omega) with e|⟨j,ej,_,hj4,hjf⟩
   . omega
   rcases jf (os:=eY u) (k:=0) (by omega) with e|⟨k,ek,_,hk8,JV⟩
   . omega
   rw [ej,ek];split
   . rename_i hf
     exact JU h hp h1 hc hj4 hjf hk8 JV (sV.1 hf)
   . rename_i hf
     exact JU (af5 h a1 hf) hp h1 hc hj4 hjf hk8 JV ⟨_,dK.2 (.inl rfl),rfl⟩
theorem OF {name:Int} (h:bZ aA (bE u)) (ho:bZ an (eY u)) (qa:(eY u).length≤8) (hp:p∈bE u) {c:ah} (hc:aU c.1 c.2.1=true) (h4:(aE p).length=4) {j k:Nat} (hj:j<4) (hk:k<8) (kQ:∀ o∈eY u,o.1≠(k:Int)) {l1:List ET} (hl:l1.length≤99000) (hm:l1.length+4≤l.length+m):
  Gv (Bj name j k u.1 u.2.1 p.1 c.1 c.2.1 u.2.2.1 u.2.2.2.1 u.2.2.2.2.1 u.2.2.2.2.2.1 u.2.2.2.2.2.2.1 u.2.2.2.2.2.2.2.1 u.2.2.2.2.2.2.2.2.1 l1).eval (rG p c name j k u) l m:=by
 obtain ⟨nx,tk,pg,ps,os,pi,fi,rd,ou,_⟩:=u;have E8:bZ an os:=ho;have aq9:os.length≤8:=qa;have h':bZ aA ps:=h;have MU:p∈ps:=hp;have SF:∀ o∈os,o.1≠(k:Int):=kQ;have d1:=fJ (l:=l1) (HL (nx:=nx) (tk:=tk) (pg:=pg) (ps:=ps) (pi:=pi) (fi:=fi) (rd:=rd) (ou:=ou) (b:=2) (c:=name) (k:=(k:Int)) (l:=[]) SF ⟨by omega,by omega⟩ (by omega));have ara:bZ an (bS an ((k:Int),2,name,0,0,()) os):=iJ E8 SF;have d2:=fJ (l:=l1++[eE 10 k 2 name]) (yx (o:=((k:Int),2,name,0,0,())) (nx:=nx) (tk:=tk) (pg:=pg) (ps:=ps) (pi:=pi) (fi:=fi) (rd:=rd) (ou:=ou) (b:=1) (c:=0) (l:=[]) ara (dK.2 (.inl rfl)) (by rw [jS];omega) (by grind)) (by grind);have e2:ca an (bS an ((k:Int),2,name,0,0,()) os) (k:Int) (dg (0+1))=bS an ((k:Int),2,name,0,1,()) os:=sT (f:=dg (0+1)) SF rfl;have d2':=d2.trans (congrArg (λz=>some ((iB (nx,tk,pg,ps,z,pi,fi,rd,ou,()) (l1++[eE 10 k 2 name]++[eE 11 k 1 0]),()),((),(),()))) e2);have d3:=fJ (l:=l1++[eE 10 k 2 name]++[eE 11 k 1 0]) (JW (nx:=nx) (tk:=tk) (pg:=pg) (os:=bS an ((k:Int),2,name,0,1,()) os) (pi:=pi) (fi:=fi) (rd:=rd) (ou:=ou) (b:=(j:Int)) (c:=(k:Int)) (l:=[]) h' MU (by grind)) (by grind);have SG:bZ aA (bY ps p.1 (cp ((aE p).set j (k:Int)))):=eA h' λ_ _ _=>rfl;have SB:cp ((aE p).set j (k:Int)) p∈bY ps p.1 (cp ((aE p).set j (k:Int))):=(bd h' MU).2 (.inl rfl);rw [adu] at d3;unfold rG;rw [adu];dsimp only [Bj];refine Gv.step (aa rfl) ?_;refine Gv.step (aa d1) ?_;refine Gv.step (aa rfl) ?_;refine Gv.step (aa d2') ?_;refine Gv.step (aa rfl) ?_;refine Gv.step (aa d3) ?_;exact b5 (u:=dJ p.1 (cp ((aE p).set j (k:Int))) (bu (bS an ((k:Int),2,name,0,1,())) (nx,tk,pg,ps,os,pi,fi,rd,ou,()))) SG SB hc (y:=(j:Int)) (dk) (l1:=l1++[eE 10 k 2 name]++[eE 11 k 1 0]++[eE 9 p.1 j k]) (by grind) (by grind)
theorem MV (h:aQ 0 tl u) (hp:p∈bE u) {c:ah} (hc:aU c.1 c.2.1=true) (hl:l.length≤98000):Gv (SH (iB u l,pT p,c,())) (lv p c u) l 10:=by
 have Bk:=(fk hc (k:=0)).1;have hn1:=(fk hc (k:=1)).1;have arb:nth c.2.1 (Int.toNat (0:Int))=some (dH c 0):=Bk;have amE:nth c.2.1 (Int.toNat (1:Int))=some (dH c 1):=hn1;have h4:=(h.loc p hp).fds;have JF:=vT (p:=p) h4 (k:=0);have Zg:=uP (u:=u) (k:=0) (by omega);have hfb:=JT (nT u) (dH c 0);have E9:(nT u).length≤6:=Ak h;have qa:=oY h;unfold lv;show Gv (Out.eval (HM _)) _ _ _;dsimp only [HM,iB];refine Gv.step (ab (by rfl)) ?_;refine Gv.step (aa arb) ?_;refine Gv.step (aa JF) ?_;refine Gv.step (aa Zg) ?_;by_cases a1:0≤dH c 0∧dH c 0≤5
 case neg=>
  rw [aaZ (.inl a1)];refine Gv.step (ae (by rw [Bool.eq_false_iff.2 λe=>a1 (eS.1 e)];rfl)) ?_;exact b5 h.df hp hc (by rfl)
 refine Gv.step (ab (by rw [eS.2 a1];rfl)) ?_;by_cases a2:cD (aE p) 0<0
 . rw [aaZ (.inr (.inl a2))]
   refine Gv.step (ae (jP a2)) ?_;exact b5 h.df hp hc (by rfl)
 refine Gv.step (ab (gP a2)) ?_;by_cases a3:bT (eY u) 0<0
 . rw [aaZ (.inr (.inr (.inl a3)))]
   refine Gv.step (ae (jP a3)) ?_;exact b5 h.df hp hc (by rfl)
 refine Gv.step (ab (gP a3)) ?_;rcases ik (k:=0) h4 (by omega) with e|⟨j,ej,_,hj4,hjf⟩
 . omega
 rcases jf (os:=eY u) (k:=0) (by omega) with e|⟨k,ek,_,hk8,JV⟩
 . omega
 have hJ1:Gv (Bl (dH c 0) (cD (aE p) 0) (bT (eY u) 0) (decide (br u.2.2.2.2.2.2.1 (dH c 0)≥0)) u.1 u.2.1 p.1 c.1 c.2.1 u.2.2.1 u.2.2.2.1 u.2.2.2.2.1 u.2.2.2.2.2.1 u.2.2.2.2.2.2.1 u.2.2.2.2.2.2.2.1 u.2.2.2.2.2.2.2.2.1 l).eval (rG p c (dH c 0) (cD (aE p) 0) (bT (eY u) 0) (if lq (nT u) (dH c 0)=true then u else lx (bS aW (dH c 0,[],())) u)) l 10:=by
  rw [ej,ek];dsimp only [Bl];rw [show decide (br u.2.2.2.2.2.2.1 (dH c 0)≥0)=lq (nT u) (dH c 0) from hfb];by_cases q:lq (nT u) (dH c 0)=true
  . rw [aaZ q]
    refine Gv.step (ae (by rw [q];rfl)) ?_;exact OF h.df h.rp qa hp hc h4 hj4 hk8 JV (by omega) (by omega)
  . rw [aae q]
    refine Gv.step (ab (by grind)) ?_;refine Gv.step (aa rfl) ?_;obtain ⟨nx,tk,pg,ps,os,pi,fi,rd,ou,_⟩:=u;have d1:=fJ (l:=l) (Zh (nx:=nx) (tk:=tk) (pg:=pg) (ps:=ps) (os:=os) (pi:=pi) (rd:=rd) (ou:=ou) (b:=0) (c:=0) (k:=dH c 0) (l:=[]) (λy hy e=>q (sV.2 ⟨y,hy,e⟩)) a1 (by grind));refine Gv.step (aa d1) ?_;exact OF (u:=lx (bS aW (dH c 0,[],())) (nx,tk,pg,ps,os,pi,fi,rd,ou,())) h.df h.rp qa hp hc h4 hj4 hk8 JV (l1:=l++[eE 18 (dH c 0) 0 0]) (by grind) (by grind)
 rw [show decide (br u.2.2.2.2.2.2.1 (dH c 0)≥0)=lq (nT u) (dH c 0) from hfb];rw [show decide (br u.2.2.2.2.2.2.1 (dH c 0)≥0)=lq (nT u) (dH c 0) from hfb] at hJ1;by_cases a4:lq (nT u) (dH c 0)=false∧dH c 1=0
 . rw [aaZ (.inr (.inr (.inr a4)))]
   refine Gv.step (ab (by rw [a4.1];rfl)) ?_;refine Gv.step (ab (by rfl)) ?_;refine Gv.step (aa amE) ?_;refine Gv.step (ab (dE a4.2)) ?_;exact b5 h.df hp hc (by rfl)
 . rw [aae (by rintro (q|q|q|q)<;>contradiction)]
   by_cases a5:lq (nT u) (dH c 0)=false
   . refine Gv.step (ab (by rw [a5];rfl)) ?_
     refine Gv.step (ab (by rfl)) ?_;refine Gv.step (aa amE) ?_;simp_all [Gv.step,ae,fj]
   . have a5:lq (nT u) (dH c 0)=true:=by simpa using a5
     refine Gv.step (ae (by rw [a5];rfl)) ?_;exact hJ1
end
section
variable {x tl:Int} {u u' v:UT} {p:af} {o:ai} {l l':List ET} {e:ET} {β:Type} {n m:Nat}
def YU (p:af) (k:Int) (u:UT):Option ai:=if 0≤k∧k<4 then (match (aE p)[k.toNat]? with|some f=>if f= -1 then none else eO an (eY u) f|none=>none) else none
abbrev of1 (r:ai×(Bool×Unit)×Unit):Option ((ai×(Bool×Unit)×Unit)×(Unit×XI)):=some (r,((),(),(),()))
theorem JX (h:aQ x tl u) (hp:p∈bE u) (k:Int):(YU p k u=none∧uQ (u,pT p,(k,()),())=of1 ((0,0,0,0,0,()),(false,()),()))∨∃ o∈eY u,∃ j:Nat,k=(j:Int)∧j<4∧(aE p)[j]? =some o.1∧YU p k u=some o∧uQ (u,pT p,(k,()),())=of1 (o,(true,()),()):=by
 have h4:=(h.loc p hp).fds;have h4':p.2.2.2.2.2.2.1.length=4:=h4;unfold YU;by_cases a1:0≤k∧k<4
 case neg=>
  rw [aae a1];refine .inl ⟨rfl, ?_⟩;show Out.eval (rH _)=_;dsimp only [rH,pT];by_cases a2:k<0
  . exact zF rfl (jP a2)
  . refine zT ?_ (gP a2)
    exact zF rfl (jP (by omega))
 rw [aaZ a1];obtain ⟨j,rfl⟩:∃ j:Nat,k=j:=⟨k.toNat,by omega⟩
 have hj:j<4:=by omega
 rw [adu,aa7 (show j<(aE p).length by omega)];have hg:(aE p)[j]? =some ((aE p)[j]'(by omega)):=aa7 _;have hf:=(h.ctx p hp).fds _ (ad9 (show j<(aE p).length by omega));generalize (aE p)[j]'(by omega)=f at hg hf;have hn:nth p.2.2.2.2.2.2.1 j=some f:=hg;by_cases e:f= -1
 . subst e
   refine .inl ⟨rfl, ?_⟩;show Out.eval (rH _)=_;dsimp only [rH,pT];simp only [adu];refine zT ?_ (gP (by omega));refine zT ?_ (gP (by omega));refine zT ?_;refine zG ?_;exact zT rfl (by rfl)
 . obtain ⟨o,ho,rfl⟩:=hf.resolve_left e
   refine .inr ⟨o,ho,j,rfl,hj,hg, ?_, ?_⟩
   . simp only [aae e]
     exact ee h.rp ho
   . obtain ⟨i,hi,ra,ln⟩:=bH h.rp ho
     have dh:aM (eY u) o.1=(i:Int):=hi;have ue:nth u.2.2.2.2.1 i=some o:=ln;show Out.eval (rH _)=_;dsimp only [rH,pT];simp only [adu];refine zT ?_ (gP (by omega));refine zT ?_ (gP (by omega));refine zT ?_;refine zG ?_;refine zF ?_ (fj e);refine zT ?_;refine zG ?_;rw [show aM u.2.2.2.2.1 o.1=(i:Int) from dh];simp only [adu];refine zT ?_;exact zG rfl ue
def dup2 (p:af) (c:ah) (o:ai) (fd:Int) (u:UT):UT:=cG p.1 c fd (dJ p.1 (cp ((aE p).set fd.toNat o.1)) (bu (λos=>ca an os o.1 (dg (bP o+1))) u))
def MW (p:af) (c:ah) (u:UT):UT:=match YU p (dH c 0) u with
 |none=>cG p.1 c (-1) u
 |some o=>if cD (aE p) 0<0 then cG p.1 c (-1) u else dup2 p c o (cD (aE p) 0) u
theorem amG (h:aQ 0 tl u) (hp:p∈bE u) (h1:cU p=1) {c:ah} (hc:aU c.1 c.2.1=true):aQ 0 tl (MW p c u):=by
 unfold MW;rcases JX h hp (dH c 0) with ⟨e,_⟩|⟨o,ho,j,_,_,_,e,_⟩
 . rw [e];exact cz h hp hc (by rfl)
 . rw [e]
   simp only;split
   . exact cz h hp hc (by rfl)
   . rename_i hf
     rcases ik (k:=0) (h.loc p hp).fds (by omega) with e|⟨j,ej,_,hj4,hjf⟩
     . omega
     rw [ej];unfold dup2;rw [adu];have fg:=(h.op o ho).id;have hA:aQ 0 tl (dJ p.1 (cp ((aE p).set j o.1)) (bu (λos=>ca an os o.1 (dg (bP o+1))) u)):=Inv.adH h hp h1 hjf ho (.inr ⟨rfl,rfl⟩) (by rw [aae]);exact cz (p:=cp ((aE p).set j o.1) p) hA ((bd h.df hp).2 (.inl rfl)) hc (dk)
theorem amH (h:aQ 0 tl u) (hp:p∈bE u) {c:ah} (hc:aU c.1 c.2.1=true) (hl:l.length≤98000):Gv (SI (iB u l,pT p,c,())) (MW p c u) l 10:=by
 have Bk:nth c.2.1 (Int.toNat (0:Int))=some (dH c 0):=(fk hc (k:=0)).1;have h4:=(h.loc p hp).fds;have JF:=vT (p:=p) h4 (k:=0);unfold MW;show Gv (Out.eval (HN _)) _ _ _;dsimp only [HN,iB];refine Gv.step (ab (by rfl)) ?_;refine Gv.step (aa Bk) ?_;rcases JX h hp (dH c 0) with ⟨e,ev⟩|⟨o,ho,_,_,_,_,e,ev⟩
 . rw [e]
   refine Gv.step (aa ev) ?_;refine Gv.step (aa JF) ?_;refine Gv.step (ae (by rfl)) ?_;exact b5 h.df hp hc (by rfl)
 . rw [e]
   simp only;refine Gv.step (aa ev) ?_;refine Gv.step (aa JF) ?_;refine Gv.step (ab (by rfl)) ?_;by_cases a2:cD (aE p) 0<0
   . rw [aaZ a2]
     refine Gv.step (ab (aac a2)) ?_;exact b5 h.df hp hc (by rfl)
   rw [aae a2];refine Gv.step (ae (adD a2)) ?_;rcases ik (k:=0) h4 (by omega) with e|⟨j,ej,_,hj4,hjf⟩
   . omega
   rw [ej];unfold dup2;rw [adu];have Sz:=HC h ho;have qa:=oY h;have uc:=h.df;have Zi:=h.rp;obtain ⟨nx,tk,pg,ps,os,pi,fi,rd,ou,_⟩:=u;have d1:=fJ (l:=l) (yx (nx:=nx) (tk:=tk) (pg:=pg) (ps:=ps) (pi:=pi) (fi:=fi) (rd:=rd) (ou:=ou) (b:=1) (c:=0) (l:=[]) Zi ho (adQ qa) (by omega));have d2:=fJ (l:=l++[eE 11 o.1 1 0]) (JW (nx:=nx) (tk:=tk) (pg:=pg) (os:=ca an os o.1 (dg (bP o+1))) (pi:=pi) (fi:=fi) (rd:=rd) (ou:=ou) (b:=(j:Int)) (c:=o.1) (l:=[]) uc hp ⟨by omega,by rw [h4];omega⟩) (by rw [bC];omega);rw [adu] at d2;refine Gv.step (aa rfl) ?_;refine Gv.step (aa d1) ?_;refine Gv.step (aa rfl) ?_;refine Gv.step (aa d2) ?_;have SG:bZ aA (bY ps p.1 (cp ((aE p).set j o.1))):=eA uc λ_ _ _=>rfl;have SB:cp ((aE p).set j o.1) p∈bY ps p.1 (cp ((aE p).set j o.1)):=(bd uc hp).2 (.inl rfl);exact b5 (u:=dJ p.1 (cp ((aE p).set j o.1)) (bu (λos=>ca an os o.1 (dg (bP o+1))) (nx,tk,pg,ps,os,pi,fi,rd,ou,()))) SG SB hc (y:=(j:Int)) (dk) (l1:=l++[eE 11 o.1 1 0]++[eE 9 p.1 j o.1]) (by rw [bC,bC];omega) (by rw [bC,bC];omega)
def B0 (p:af) (c:ah) (u:UT):UT:=if 12≤(ct p).length∨60<oV (bE u) then cG p.1 c (-1) u else cG p.1 c ((ct p).length:Nat) (dJ p.1 (ly (ct p++[0,0,0,0])) u)
theorem af8 (h:aQ 0 tl u) (hp:p∈bE u) (h1:cU p=1) {c:ah} (hc:aU c.1 c.2.1=true):aQ 0 tl (B0 p c u):=by
 unfold B0;split
 . exact cz h hp hc (by rfl)
 . rename_i hn
   have hm:=(h.loc p hp).mem;have hw:aH (ct p++[0,0,0,0])=true:=by
    have:=hm.2.2;unfold aH at this ⊢;rw [akX,this];rfl
   have hA:aQ 0 tl (dJ p.1 (ly (ct p++[0,0,0,0])) u):=Inv.mem h hp ⟨by rw [aaY];show _+4≤12;omega,by rw [aaY];show (_+4) % 4=0;omega,hw⟩ (by omega) (by rw [aaY];show 0<_+4;omega) (by rw [aaY];show oV (bE u)+(_+4)≤_;omega);exact cz (p:=ly (ct p++[0,0,0,0]) p) hA ((bd h.df hp).2 (.inl rfl)) hc (dk)
theorem af9 (h:aQ 0 tl u) (hp:p∈bE u) {c:ah} (hc:aU c.1 c.2.1=true) (hl:l.length≤98000):Gv (SJ (iB u l,pT p,c,())) (B0 p c u) l 10:=by
 have hm:=(h.loc p hp).mem;have pP:p.2.2.2.2.2.1.length≤12∧p.2.2.2.2.2.1.length % 4=0:=⟨hm.1,hm.2.1⟩
 have ea:(ct p).length=p.2.2.2.2.2.1.length:=rfl;unfold B0;show Gv (Out.eval (HO _)) _ _ _;dsimp only [HO,iB,pT];rw [adF _ (by omega)];refine Gv.step (ae (by rfl)) ?_;by_cases a1:12≤(ct p).length
 . rw [aaZ (.inl a1)]
   refine Gv.step (ae (jP (by omega))) ?_;exact b5 h.df hp hc (by rfl)
 refine Gv.step (ab (gP (by omega))) ?_;by_cases a2:60<oV (bE u)
 . rw [aaZ (.inr a2)]
   refine Gv.step (aa (HA h (n:=1) (by omega) (q:=false) (adD))) ?_;refine Gv.step (ab (by rfl)) ?_;exact b5 h.df hp hc (by rfl)
 . rw [aae (by rintro (e|e)<;>omega)]
   have hr:=HA h (n:=1) (by omega) (q:=true) (aac);refine Gv.step (aa hr) ?_;refine Gv.step (ae (by rfl)) ?_;have uc:=h.df;obtain ⟨nx,tk,pg,ps,os,pi,fi,rd,ou,_⟩:=u;have d1:=fJ (l:=l) (Zj (b:=0) (c:=0) (l:=[]) uc hp ⟨by omega,hm.2.1⟩ hr);refine Gv.step (aa rfl) ?_;refine Gv.step (aa d1) ?_;have SG:bZ aA (bY ps p.1 (ly (ct p++[0,0,0,0]))):=eA uc λ_ _ _=>rfl;have SB:ly (ct p++[0,0,0,0]) p∈bY ps p.1 (ly (ct p++[0,0,0,0])):=(bd uc hp).2 (.inl rfl);exact b5 (u:=dJ p.1 (ly (ct p++[0,0,0,0])) (nx,tk,pg,ps,os,pi,fi,rd,ou,())) SG SB hc (y:=((ct p).length:Nat)) (dk) (l1:=l++[eE 7 p.1 0 0]) (by rw [bC];omega) (by rw [bC];omega)
def B1 (p:af) (c:ah) (u:UT):UT:=if ¬ (0≤dH c 0∧dH c 0<(u.2.2.1.length:Nat)) then cG p.1 c (-1) u else B4 p.1 (0,[0,0,0,0],()) (dJ p.1 (rb (dH c 0)) u)
theorem aga (h:aQ 0 tl u) (hp:p∈bE u) (h1:cU p=1) {c:ah} (hc:aU c.1 c.2.1=true):aQ 0 tl (B1 p c u):=by
 unfold B1;split
 . exact cz h hp hc (by rfl)
 . rename_i hn
   have hl:=h.loc p hp;have hm:=hl.mem;have qb:=(hl.live (by omega)).2 (by have:=(h.ctx p hp).pid;omega);have hA:aQ 0 tl (dJ p.1 (rb (dH c 0)) u):=Inv.exec h hp (Classical.byContradiction hn) (by omega) (by omega);exact OG (p:=rb (dH c 0) p) hA ((bd h.df hp).2 (.inl rfl)) (c:=(0,[0,0,0,0],())) (by rfl)
theorem agb (h:aQ 0 tl u) (hp:p∈bE u) (h1:cU p=1) {c:ah} (hc:aU c.1 c.2.1=true) (hl:l.length≤98000):Gv (SK (iB u l,pT p,c,())) (B1 p c u) l 10:=by
 have Bk:nth c.2.1 (Int.toNat (0:Int))=some (dH c 0):=(fk hc (k:=0)).1;have OH:=h.loc p hp;have qb:=(OH.live (by omega)).2 (by have:=(h.ctx p hp).pid;omega);unfold B1;show Gv (Out.eval (HP _)) _ _ _;dsimp only [HP,iB];refine Gv.step (ab (by rfl)) ?_;refine Gv.step (aa Bk) ?_;by_cases a1:dH c 0<0
 . rw [aaZ]
   refine Gv.step (ae (jP a1)) ?_;exact b5 h.df hp hc (by rfl)
 refine Gv.step (ab (gP a1)) ?_;by_cases a2:dH c 0≥(u.2.2.1.length:Nat)
 . rw [aaZ]
   refine Gv.step (ab (aac a2)) ?_;exact b5 h.df hp hc (by rfl)
 rw [aae];refine Gv.step (ae (adD a2)) ?_;have uc:=h.df;obtain ⟨nx,tk,pg,ps,os,pi,fi,rd,ou,_⟩:=u;have d1:=fJ (l:=l) (Zk (nx:=nx) (tk:=tk) (pg:=pg) (os:=os) (pi:=pi) (fi:=fi) (rd:=rd) (ou:=ou) (b:=dH c 0) (c:=0) (l:=[]) uc hp ⟨by omega,Int.not_le.1 a2⟩ qb);refine Gv.step (aa rfl) ?_;refine Gv.step (aa d1) ?_;have hz:uu ((4,()),())=some ((([0,0,0,0],()),()),((),())):=rfl;refine Gv.step (aa hz) ?_;have SG:bZ aA (bY ps p.1 (rb (dH c 0))):=eA uc λ_ _ _=>rfl;have SB:rb (dH c 0) p∈bY ps p.1 (rb (dH c 0)):=(bd uc hp).2 (.inl rfl);have d2:=MX (u:=dJ p.1 (rb (dH c 0)) (nx,tk,pg,ps,os,pi,fi,rd,ou,())) SG SB (c:=(0,[0,0,0,0],())) (by rfl) (l:=l++[eE 8 p.1 (dH c 0) 0]) (by rw [bC];omega);refine Gv.step (aa d2) ?_;exact Gv.ret (by rw [bC,bC];omega)
def uR (p:af) (c:ah) (u:UT):UT:=if dH c 0≤0 then cG p.1 c 0 u else if 1000000<u.2.1+dH c 0 then cG p.1 c (-1) u else rF p.1 2 (u.2.1+dH c 0) (cG p.1 c 0 u)
theorem Zl (h:aQ 0 tl u) (ht:tl≤u.2.1) (hp:p∈bE u) (h1:cU p=1) {c:ah} (hc:aU c.1 c.2.1=true):aQ 0 tl (uR p c u):=by
 unfold uR;split
 . exact cz h hp hc (by rfl)
 . split
   . exact cz h hp hc (by rfl)
   . have hA:=cz h hp hc (y:=0) (by rfl)
     exact Be (p:=pX (ud c 0 0) p) hA ((bd h.df hp).2 (.inl rfl)) h1 (by omega) (λ_=>by omega) (by omega) (by omega)
theorem Zm (h:aQ 0 tl u) (hp:p∈bE u) (h1:cU p=1) {c:ah} (hc:aU c.1 c.2.1=true) (hl:l.length≤98000):Gv (SL (iB u l,pT p,c,())) (uR p c u) l 10:=by
 have Bk:nth c.2.1 (Int.toNat (0:Int))=some (dH c 0):=(fk hc (k:=0)).1;have hr:=SE hc (k:=0) (by omega);have B5:=h.B5;have hw:abs (u.2.1+dH c 0)=u.2.1+dH c 0:=bt (by omega) (by omega);unfold uR;show Gv (Out.eval (HQ _)) _ _ _;dsimp only [HQ,iB];refine Gv.step (ab (by rfl)) ?_;refine Gv.step (aa Bk) ?_;by_cases a1:dH c 0≤0
 . rw [aaZ a1]
   refine Gv.step (ab (aac a1)) ?_;exact b5 h.df hp hc (by rfl)
 rw [aae a1];refine Gv.step (ae (adD a1)) ?_;rw [hw];by_cases a2:1000000<u.2.1+dH c 0
 . rw [aaZ a2]
   refine Gv.step (ab (aac a2)) ?_;exact b5 h.df hp hc (by rfl)
 rw [aae a2];refine Gv.step (ae (adD a2)) ?_;obtain ⟨l1,e1,MP⟩:=Hy h.df hp hc (y:=0) (by rfl) (l:=l);refine Gv.step (aa e1) ?_;have hA:=cz h hp hc (y:=0) (by rfl);have d2:=Bf (p:=pX (ud c 0 0) p) (s:=2) (t:=u.2.1+dH c 0) hA ((bd h.df hp).2 (.inl rfl)) h1 (l:=l1);have hw2:abs ((cG p.1 c 0 u).2.1+dH c 0)=u.2.1+dH c 0:=hw;show Gv (Out.eval (Out.get (yA (iB (cG p.1 c 0 u) l1,(p.1,()),(2,()),(abs ((cG p.1 c 0 u).2.1+dH c 0),()),())) _)) _ _ _;rw [hw2];refine Gv.step (aa d2) ?_;exact Gv.ret (by rw [bC,bC];omega)
def JY (os:List ai) (v:Int):Bool:=os.any (oF 2 v)
theorem SM {os:List ai} {v:Int}:JY os v=true↔∃ o∈os,bN o=2∧cu o=v:=by
 unfold JY oF;rw [List.any_eq_true];constructor
 . intro ⟨o,ho,h⟩
   rw [aa6,afH,afH] at h;exact ⟨o,ho,h⟩
 . intro ⟨o,ho,h⟩
   exact ⟨o,ho,by rw [aa6,afH,afH];exact h⟩
theorem JZ {os:List ai} (h:os.length≤1000) (v k:Int):decide (jg os v k>0)=os.any (oF k v):=by
 have hB:cj=9223372036854775807:=rfl;rw [sW (by omega),aeA,ae4,List.any_eq_true];constructor
 . intro q
   obtain ⟨a,ha,e⟩:=List.countP_pos_iff.1 (show 0<os.countP (oF k v) by omega);exact ⟨a,ha,e⟩
 . intro ⟨a,ha,e⟩
   have:=List.countP_pos_iff.2 ⟨a,ha,e⟩;omega
theorem FR {os:List ai} (h:os.length≤1000) (v k:Int):(jg os v k==0)= !os.any (oF k v):=by
 have hB:cj=9223372036854775807:=rfl;rw [← JZ h,sW (by omega),aeA];simp
def qc (p:af) (c:ah) (u:UT):UT:=if lq (nT u) (dH c 0)=false∨JY (eY u) (dH c 0)=true then cG p.1 c (-1) u else cG p.1 c 0 (lx (λfi=>OI fi (dH c 0)) u)
theorem SN (h:aQ 0 tl u) (hp:p∈bE u) {c:ah} (hc:aU c.1 c.2.1=true):aQ 0 tl (qc p c u):=by
 unfold qc;split
 . exact cz h hp hc (by rfl)
 . rename_i hn
   have hA:aQ 0 tl (lx (λfi=>OI fi (dH c 0)) u):=Inv.unlink h λo ho k t=>hn (.inr (SM.2 ⟨o,ho,k,t⟩));exact cz hA hp hc (by rfl)
theorem SO (h:aQ 0 tl u) (hp:p∈bE u) {c:ah} (hc:aU c.1 c.2.1=true) (hl:l.length≤98000):Gv (SP (iB u l,pT p,c,())) (qc p c u) l 10:=by
 have Bk:nth c.2.1 (Int.toNat (0:Int))=some (dH c 0):=(fk hc (k:=0)).1;have qa:=oY h;have E9:=Ak h;have uc:=h.df;have Sz:=h.B6;obtain ⟨nx,tk,pg,ps,os,pi,fi,rd,ou,_⟩:=u;have Sf:decide (br fi (dH c 0)<0)= !lq fi (dH c 0):=yz (key:=aW);have hep:decide (jg os (dH c 0) 2>0)=JY os (dH c 0):=JZ (adQ qa) _ _;unfold qc;show Gv (Out.eval (HR _)) _ _ _;dsimp only [HR,iB,nT,eY];refine Gv.step (ab (by rfl)) ?_;refine Gv.step (aa Bk) ?_;rw [Sf];by_cases a1:lq fi (dH c 0)=false
 . rw [aaZ (.inl a1)]
   refine Gv.step (ae (by rw [a1];rfl)) ?_;exact b5 (u:=(nx,tk,pg,ps,os,pi,fi,rd,ou,())) uc hp hc (by rfl)
 have a1':lq fi (dH c 0)=true:=by simpa using a1
 refine Gv.step (ab (by rw [a1'];rfl)) ?_;rw [hep];by_cases a2:JY os (dH c 0)=true
 . rw [aaZ (.inr a2)]
   refine Gv.step (ab a2) ?_;exact b5 (u:=(nx,tk,pg,ps,os,pi,fi,rd,ou,())) uc hp hc (by rfl)
 rw [aae (by rintro (e|e)<;>contradiction)];refine Gv.step (ae (Bool.eq_false_iff.2 a2)) ?_;obtain ⟨y,hy,hyn⟩:=sV.1 a1';have d1:=fJ (l:=l) (Zn (nx:=nx) (tk:=tk) (pg:=pg) (ps:=ps) (os:=os) (pi:=pi) (rd:=rd) (ou:=ou) (b:=0) (c:=0) (l:=[]) Sz hy (adQ E9));rw [hyn] at d1;refine Gv.step (aa rfl) ?_;refine Gv.step (aa d1) ?_;exact b5 (u:=lx (λfi=>OI fi (dH c 0)) (nx,tk,pg,ps,os,pi,fi,rd,ou,())) uc hp hc (by rfl) (l1:=l++[eE 20 (dH c 0) 0 0]) (by rw [bC];omega) (by rw [bC];omega)
end
section
variable {x tl:Int} {u u' v:UT} {p:af} {o:ai} {l l':List ET} {e:ET} {β:Type} {n m:Nat}
theorem B7 {α:Type} {key:α→Int} {y:α} {f:α→α} {v:Int} (fE:key y≠v) (hf:∀ x,key (f x)=key x):∀ {a:List α},ca key (bS key y a) v f=bS key y (ca key a v f)
 |[]=>by
  show (if key y=v then f y else y)::[]=[y]
  rw [aae fE]
 |x::r=>by
  have ih:=B7 (y:=y) fE hf (a:=r);have hk:key (if key x=v then f x else x)=key x:=by split<;>simp [hf]
  unfold bS;show _=(match (if key x=v then f x else x)::ca key r v f with|[]=>[y]|x::r=>if key y<key x then y::x::r else x::bS key y r)
  simp only [hk];by_cases q:key y<key x
  . rw [aaZ q,aaZ q]
    show (if key y=v then f y else y)::(if key x=v then f x else x)::ca key r v f=_;rw [aae fE]
  . rw [aae q,aae q]
    show (if key x=v then f x else x)::ca key (bS key y r) v f=_;rw [ih]
def yB (p:af) (c:ah) (w f g a b:Int) (u:UT):UT:=iQ p.1 c f g (dJ p.1 (cp (((aE p).set f.toNat a).set g.toNat b)) (bu (λos=>bS an (b,4,w,0,1,()) (bS an (a,3,w,0,1,()) os)) (gR (bS aG (w,[],())) u)))
def lz (p:af) (c:ah) (u:UT):UT:=
 if iI (nW u)<0∨cD (aE p) 0<0∨cD (aE p) (cD (aE p) 0+1).toNat<0∨bT (eY u) 0<0∨bT (eY u) (bT (eY u) 0+1).toNat<0 then cG p.1 c (-1) u
 else yB p c (iI (nW u)) (cD (aE p) 0) (cD (aE p) (cD (aE p) 0+1).toNat) (bT (eY u) 0) (bT (eY u) (bT (eY u) 0+1).toNat) u
theorem SQ (h:aQ 0 tl u) (hp:p∈bE u) (h1:cU p=1) {c:ah} (hc:aU c.1 c.2.1=true) {w f g a b:Nat} (hw:w<3) (hwn:∀ y∈nW u,y.1≠(w:Int)) (hf:f<4) (hff:(aE p)[f]? =some (-1)) (hg:g<4) (AY:(aE p)[g]? =some (-1)) (hfg:f<g)
  (ha:a<8) (han:∀ o∈eY u,o.1≠(a:Int)) (hb:b<8) (hbn:∀ o∈eY u,o.1≠(b:Int)) (JG:a<b):aQ 0 tl (yB p c w f g a b u):=by
 have hA:aQ 0 tl (dJ p.1 (cp ((aE p).set f (a:Int))) (bu (bS an ((a:Int),3,(w:Int),0,1,())) (gR (bS aG ((w:Int),[],())) u))):=
  Inv.af4 (o:=((a:Int),3,(w:Int),0,1,())) (pi':=bS aG ((w:Int),[],()) (nW u)) h hp h1 hff ⟨by show (0:Int)≤a;omega,by show (a:Int)≤7;omega⟩ han rfl
   (.inr ⟨.inl rfl,⟨_,dK.2 (.inl rfl),rfl⟩,rfl⟩) (λz hz=>by
    rcases dK.1 hz with rfl|hz
    . exact .inr ⟨rfl, .inl rfl,⟨by show (0:Int)≤w;omega,by show (w:Int)≤2;omega⟩,rfl⟩
    . exact .inl hz) (λz hz=>dK.2 (.inr hz)) (iJ h.Aj hwn)
 have MM:cp ((aE p).set f (a:Int)) p∈bE (dJ p.1 (cp ((aE p).set f (a:Int))) (bu (bS an ((a:Int),3,(w:Int),0,1,())) (gR (bS aG ((w:Int),[],())) u))):=(bd h.df hp).2 (.inl rfl);have hg2:((aE p).set f (a:Int))[g]? =some (-1):=by rw [List.getElem?_set,aae];exact AY
 have hB0:aQ 0 tl (dJ p.1 (cp (((aE p).set f (a:Int)).set g (b:Int))) (bu (bS an ((b:Int),4,(w:Int),0,1,())) (dJ p.1 (cp ((aE p).set f (a:Int))) (bu (bS an ((a:Int),3,(w:Int),0,1,())) (gR (bS aG ((w:Int),[],())) u))))):=
  Inv.af4 (o:=((b:Int),4,(w:Int),0,1,())) (pi':=bS aG ((w:Int),[],()) (nW u)) (p:=cp ((aE p).set f (a:Int)) p) hA MM h1 hg2 ⟨by show (0:Int)≤b;omega,by show (b:Int)≤7;omega⟩ (λo ho=>by
    rcases dK.1 ho with rfl|ho
    . show (a:Int)≠(b:Int);omega
    . exact hbn o ho) rfl
   (.inr ⟨.inr rfl,⟨_,dK.2 (.inl rfl),rfl⟩,rfl⟩) (λz hz=> .inl hz) (λz hz=>hz) (iJ h.Aj hwn)
 have huu:bY (bY (bE u) p.1 (cp ((aE p).set f (a:Int)))) p.1 (cp (((aE p).set f (a:Int)).set g (b:Int)))=bY (bE u) p.1 (cp (((aE p).set f (a:Int)).set g (b:Int))):=yC (key:=aA) (f:=cp ((aE p).set f (a:Int))) (g:=cp (((aE p).set f (a:Int)).set g (b:Int))) (λ_=>rfl) _;have hB:aQ 0 tl (dJ p.1 (cp (((aE p).set f (a:Int)).set g (b:Int))) (bu (λos=>bS an ((b:Int),4,(w:Int),0,1,()) (bS an ((a:Int),3,(w:Int),0,1,()) os)) (gR (bS aG ((w:Int),[],())) u))):=by
  have e:(dJ p.1 (cp (((aE p).set f (a:Int)).set g (b:Int))) (bu (bS an ((b:Int),4,(w:Int),0,1,())) (dJ p.1 (cp ((aE p).set f (a:Int))) (bu (bS an ((a:Int),3,(w:Int),0,1,())) (gR (bS aG ((w:Int),[],())) u)))))=(dJ p.1 (cp (((aE p).set f (a:Int)).set g (b:Int))) (bu (λos=>bS an ((b:Int),4,(w:Int),0,1,()) (bS an ((a:Int),3,(w:Int),0,1,()) os)) (gR (bS aG ((w:Int),[],())) u))):=
   congrArg (λz=>((u.1,u.2.1,u.2.2.1,z,bS an ((b:Int),4,(w:Int),0,1,()) (bS an ((a:Int),3,(w:Int),0,1,()) (eY u)),bS aG ((w:Int),[],()) (nW u),u.2.2.2.2.2.2):UT)) huu
  rw [← e];exact hB0
 unfold yB;simp only [adu];exact Bd (p:=cp (((aE p).set f (a:Int)).set g (b:Int)) p) hB ((bd h.df hp).2 (.inl rfl)) hc (dk) (dk)
theorem rI (h:aQ x tl u) (hp:p∈bE u) {P:Prop} (SR:(iI (nW u)<0∨cD (aE p) 0<0∨cD (aE p) (cD (aE p) 0+1).toNat<0∨bT (eY u) 0<0∨bT (eY u) (bT (eY u) 0+1).toNat<0)→P)
  (qb:∀ w f g a b:Nat,iI (nW u)=w→cD (aE p) 0=f→cD (aE p) (f+1)=g→bT (eY u) 0=a→bT (eY u) (a+1)=b→w<3→(∀ y∈nW u,y.1≠(w:Int))→f<4→(aE p)[f]? =some (-1)→g<4→(aE p)[g]? =some (-1)→f<g→a<8→(∀ o∈eY u,o.1≠(a:Int))→b<8→(∀ o∈eY u,o.1≠(b:Int))→a<b→P):P:=by
 have h4:=(h.loc p hp).fds;rcases BY (pi:=nW u) with e|⟨w,ew,hw,hwn⟩
 . exact SR (.inl (by omega))
 rcases ik (k:=0) h4 (by omega) with e|⟨f,ef,_,hf,hff⟩
 . exact SR (.inr (.inl (by omega)))
 have ef1:(cD (aE p) 0+1).toNat=f+1:=by omega
 rcases ik (k:=f+1) h4 (by omega) with e|⟨g,eg,hg1,hg,AY⟩
 . exact SR (.inr (.inr (.inl (by rw [ef1];omega))))
 rcases jf (os:=eY u) (k:=0) (by omega) with e|⟨a,ea,_,ha,han⟩
 . exact SR (.inr (.inr (.inr (.inl (by omega)))))
 have ea1:(bT (eY u) 0+1).toNat=a+1:=by omega
 rcases jf (os:=eY u) (k:=a+1) (by omega) with e|⟨b,eb,MA,hb,hbn⟩
 . exact SR (.inr (.inr (.inr (.inr (by rw [ea1];omega)))))
 exact qb w f g a b ew ef eg ea eb hw hwn hf hff hg AY (by omega) ha han hb hbn (by omega)
theorem MY (h:aQ 0 tl u) (hp:p∈bE u) (h1:cU p=1) {c:ah} (hc:aU c.1 c.2.1=true):aQ 0 tl (lz p c u):=by
 unfold lz;refine rI h hp (λhn=> ?_) λw f g a b ew ef eg ea eb hw hwn hf hff hg AY hfg ha han hb hbn JG=> ?_
 . rw [aaZ hn];exact cz h hp hc (by rfl)
 . have ef1:(cD (aE p) 0+1).toNat=f+1:=by omega
   have ea1:(bT (eY u) 0+1).toNat=a+1:=by omega
   rw [ef1,ea1,ew,ef,eg,ea,eb,aae];exact SQ h hp h1 hc hw hwn hf hff hg AY hfg ha han hb hbn JG
theorem MZ (h:aQ 0 tl u) (hp:p∈bE u) {c:ah} (hc:aU c.1 c.2.1=true) (hl:l.length≤98000):Gv (SS (iB u l,pT p,c,())) (lz p c u) l 10:=by
 have h4:=(h.loc p hp).fds;have B8:=MS (u:=u);have Zo:=vT (p:=p) h4 (k:=0);have hv3:=uP (u:=u) (k:=0) (by omega);have hB:cj=9223372036854775807:=rfl;obtain ⟨f',ef',MB⟩:∃ f':Nat,abs (cD (aE p) 0+1)=(f':Int)∧f'≤4∧f'=(cD (aE p) 0+1).toNat:=by
  rcases ik (k:=0) h4 (by omega) with e|⟨f,ef,_,hf,_⟩
  . exact ⟨0,by rw [e];rfl,by omega,by omega⟩
  . exact ⟨f+1,by rw [ef];exact aq (by omega),by omega,by omega⟩
 obtain ⟨a',ea',QR⟩:∃ a':Nat,abs (bT (eY u) 0+1)=(a':Int)∧a'≤8∧a'=(bT (eY u) 0+1).toNat:=by
  rcases jf (os:=eY u) (k:=0) (by omega) with e|⟨f,ef,_,hf,_⟩
  . exact ⟨0,by rw [e];rfl,by omega,by omega⟩
  . exact ⟨f+1,by rw [ef];exact aq (by omega),by omega,by omega⟩
 have hv2:=vT (p:=p) h4 (k:=f') MB.1;have hv4:=uP (u:=u) (k:=a') QR.1;unfold lz;show Gv (Out.eval (HS _)) _ _ _;dsimp only [HS,iB];refine Gv.step (aa B8) ?_;refine Gv.step (aa Zo) ?_;dsimp only;rw [ef'];refine Gv.step (aa hv2) ?_;refine Gv.step (aa hv3) ?_;dsimp only;rw [ea'];refine Gv.step (aa hv4) ?_;rw [MB.2,QR.2];by_cases q0:iI (nW u)<0
 . rw [aaZ (.inl q0)]
   refine Gv.step (ae (jP q0)) ?_;exact b5 h.df hp hc (by rfl)
 refine Gv.step (ab (gP q0)) ?_;by_cases q1:cD (aE p) 0<0
 . rw [aaZ (.inr (.inl q1))]
   refine Gv.step (ae (jP q1)) ?_;exact b5 h.df hp hc (by rfl)
 refine Gv.step (ab (gP q1)) ?_;by_cases q2:cD (aE p) (cD (aE p) 0+1).toNat<0
 . rw [aaZ (.inr (.inr (.inl q2)))]
   refine Gv.step (ae (jP q2)) ?_;exact b5 h.df hp hc (by rfl)
 refine Gv.step (ab (gP q2)) ?_;by_cases q3:bT (eY u) 0<0
 . rw [aaZ (.inr (.inr (.inr (.inl q3))))]
   refine Gv.step (ae (jP q3)) ?_;exact b5 h.df hp hc (by rfl)
 refine Gv.step (ab (gP q3)) ?_;by_cases q4:bT (eY u) (bT (eY u) 0+1).toNat<0
 . rw [aaZ (.inr (.inr (.inr (.inr q4))))]
   refine Gv.step (ab (aac q4)) ?_;exact b5 h.df hp hc (by rfl)
 refine Gv.step (ae (adD q4)) ?_;rw [aae (by rintro (e|e|e|e|e)<;>contradiction)];refine rI h hp (λhn=>absurd hn (by rintro (e|e|e|e|e)<;>contradiction)) λw f g a b ew ef eg ea eb hw hwn hf hff hg AY hfg ha han hb hbn JG=> ?_;have ef1:(cD (aE p) 0+1).toNat=f+1:=by omega
 have ea1:(bT (eY u) 0+1).toNat=a+1:=by omega
 rw [ef1,ea1,ew,ef,eg,ea,eb];have qa:=oY h;have Sf:=vU h;have uc:=h.df;have Zi:=h.rp;clear B8 Zo hv2 hv3 hv4 q0 q1 q2 q3 q4;obtain ⟨nx,tk,pg,ps,os,pi,fi,rd,ou,_⟩:=u;have amL:bZ an os:=Zi;have SU:bZ aA ps:=uc;have MU:p∈ps:=hp;have Zp:∀ o∈os,o.1≠(a:Int):=han;have amM:∀ o∈os,o.1≠(b:Int):=hbn;have aq9:os.length≤8:=qa;have fE:((b:Int))≠(a:Int):=by omega
 have d1:=fJ (l:=l) (Zq (nx:=nx) (tk:=tk) (pg:=pg) (ps:=ps) (os:=os) (fi:=fi) (rd:=rd) (ou:=ou) (b:=0) (c:=0) (k:=(w:Int)) (l:=[]) hwn ⟨by omega,by omega⟩ (adQ Sf));have d2:=fJ (l:=l++[eE 14 w 0 0]) (HL (nx:=nx) (tk:=tk) (pg:=pg) (ps:=ps) (os:=os) (pi:=bS aG ((w:Int),[],()) pi) (fi:=fi) (rd:=rd) (ou:=ou) (b:=3) (c:=(w:Int)) (k:=(a:Int)) (l:=[]) Zp ⟨by omega,by omega⟩ (by omega)) (by rw [bC];omega);have amN:∀ z∈bS an ((a:Int),3,(w:Int),0,0,()) os,z.1≠(b:Int):=λz hz=>by
  rcases dK.1 hz with rfl|hz
  . exact λe=>fE e.symm
  . exact amM z hz
 have d3:=fJ (l:=l++[eE 14 w 0 0]++[eE 10 a 3 w]) (HL (nx:=nx) (tk:=tk) (pg:=pg) (ps:=ps) (os:=bS an ((a:Int),3,(w:Int),0,0,()) os) (pi:=bS aG ((w:Int),[],()) pi) (fi:=fi) (rd:=rd) (ou:=ou) (b:=4) (c:=(w:Int)) (k:=(b:Int)) (l:=[]) amN ⟨by omega,by omega⟩ (by rw [jS];omega)) (by rw [bC,bC];omega);have r1:bZ an (bS an ((a:Int),3,(w:Int),0,0,()) os):=iJ amL Zp;have r2:bZ an (bS an ((b:Int),4,(w:Int),0,0,()) (bS an ((a:Int),3,(w:Int),0,0,()) os)):=iJ r1 amN;have d4:=fJ (l:=l++[eE 14 w 0 0]++[eE 10 a 3 w]++[eE 10 b 4 w]) (yx (o:=((a:Int),3,(w:Int),0,0,())) (nx:=nx) (tk:=tk) (pg:=pg) (ps:=ps) (os:=bS an ((b:Int),4,(w:Int),0,0,()) (bS an ((a:Int),3,(w:Int),0,0,()) os)) (pi:=bS aG ((w:Int),[],()) pi) (fi:=fi) (rd:=rd) (ou:=ou) (b:=1) (c:=0) (l:=[]) r2 (dK.2 (.inr (dK.2 (.inl rfl)))) (by rw [jS,jS];omega) ⟨by show (-1000:Int)≤0+1;omega,by show (0:Int)+1≤1000;omega⟩) (by rw [bC,bC,bC];omega);have e4:ca an (bS an ((b:Int),4,(w:Int),0,0,()) (bS an ((a:Int),3,(w:Int),0,0,()) os)) (a:Int) (dg (0+1))=bS an ((b:Int),4,(w:Int),0,0,()) (bS an ((a:Int),3,(w:Int),0,1,()) os):=by
  rw [B7 (key:=an) (y:=((b:Int),4,(w:Int),0,0,())) (f:=dg (0+1)) (v:=(a:Int)) (by show (b:Int)≠a;omega) (λ_=>rfl)];congr 1;exact sT (y:=((a:Int),3,(w:Int),0,0,())) (f:=dg (0+1)) Zp rfl
 have d4':=d4.trans (congrArg (λz=>some ((iB (nx,tk,pg,ps,z,bS aG ((w:Int),[],()) pi,fi,rd,ou,()) (l++[eE 14 w 0 0]++[eE 10 a 3 w]++[eE 10 b 4 w]++[eE 11 a 1 0]),()),((),(),()))) e4);have amO:∀ z∈bS an ((a:Int),3,(w:Int),0,1,()) os,z.1≠(b:Int):=λz hz=>by
  rcases dK.1 hz with rfl|hz
  . exact λe=>fE e.symm
  . exact amM z hz
 have r3:bZ an (bS an ((a:Int),3,(w:Int),0,1,()) os):=iJ amL Zp;have r4:bZ an (bS an ((b:Int),4,(w:Int),0,0,()) (bS an ((a:Int),3,(w:Int),0,1,()) os)):=iJ r3 amO;have d5:=fJ (l:=l++[eE 14 w 0 0]++[eE 10 a 3 w]++[eE 10 b 4 w]++[eE 11 a 1 0]) (yx (o:=((b:Int),4,(w:Int),0,0,())) (nx:=nx) (tk:=tk) (pg:=pg) (ps:=ps) (os:=bS an ((b:Int),4,(w:Int),0,0,()) (bS an ((a:Int),3,(w:Int),0,1,()) os)) (pi:=bS aG ((w:Int),[],()) pi) (fi:=fi) (rd:=rd) (ou:=ou) (b:=1) (c:=0) (l:=[]) r4 (dK.2 (.inl rfl)) (by rw [jS,jS];omega) ⟨by show (-1000:Int)≤0+1;omega,by show (0:Int)+1≤1000;omega⟩) (by rw [bC,bC,bC,bC];omega);have e5:ca an (bS an ((b:Int),4,(w:Int),0,0,()) (bS an ((a:Int),3,(w:Int),0,1,()) os)) (b:Int) (dg (0+1))=bS an ((b:Int),4,(w:Int),0,1,()) (bS an ((a:Int),3,(w:Int),0,1,()) os):=sT (y:=((b:Int),4,(w:Int),0,0,())) (f:=dg (0+1)) amO rfl;have d5':=d5.trans (congrArg (λz=>some ((iB (nx,tk,pg,ps,z,bS aG ((w:Int),[],()) pi,fi,rd,ou,()) (l++[eE 14 w 0 0]++[eE 10 a 3 w]++[eE 10 b 4 w]++[eE 11 a 1 0]++[eE 11 b 1 0]),()),((),(),()))) e5);have d6:=fJ (l:=l++[eE 14 w 0 0]++[eE 10 a 3 w]++[eE 10 b 4 w]++[eE 11 a 1 0]++[eE 11 b 1 0]) (JW (nx:=nx) (tk:=tk) (pg:=pg) (os:=bS an ((b:Int),4,(w:Int),0,1,()) (bS an ((a:Int),3,(w:Int),0,1,()) os)) (pi:=bS aG ((w:Int),[],()) pi) (fi:=fi) (rd:=rd) (ou:=ou) (b:=(f:Int)) (c:=(a:Int)) (l:=[]) SU MU ⟨by omega,by rw [h4];omega⟩) (by rw [bC,bC,bC,bC,bC];omega);rw [adu] at d6;have SG:bZ aA (bY ps p.1 (cp ((aE p).set f (a:Int)))):=eA SU λ_ _ _=>rfl;have SB:cp ((aE p).set f (a:Int)) p∈bY ps p.1 (cp ((aE p).set f (a:Int))):=(bd SU MU).2 (.inl rfl);have d7:=fJ (l:=l++[eE 14 w 0 0]++[eE 10 a 3 w]++[eE 10 b 4 w]++[eE 11 a 1 0]++[eE 11 b 1 0]++[eE 9 p.1 f a]) (JW (nx:=nx) (tk:=tk) (pg:=pg) (os:=bS an ((b:Int),4,(w:Int),0,1,()) (bS an ((a:Int),3,(w:Int),0,1,()) os)) (pi:=bS aG ((w:Int),[],()) pi) (fi:=fi) (rd:=rd) (ou:=ou) (b:=(g:Int)) (c:=(b:Int)) (l:=[]) SG SB ⟨by omega,by show (g:Int)<((((aE p).set f (a:Int)).length:Nat):Int);rw [afC,h4];omega⟩) (by rw [bC,bC,bC,bC,bC,bC];omega);rw [adu] at d7;have huu:bY (bY ps p.1 (cp ((aE p).set f (a:Int)))) p.1 (cp (((aE p).set f (a:Int)).set g (b:Int)))=bY ps p.1 (cp (((aE p).set f (a:Int)).set g (b:Int))):=yC (key:=aA) (f:=cp ((aE p).set f (a:Int))) (g:=cp (((aE p).set f (a:Int)).set g (b:Int))) (λ_=>rfl) _;have d7':=d7.trans (congrArg (λz=>some ((iB (nx,tk,pg,z,bS an ((b:Int),4,(w:Int),0,1,()) (bS an ((a:Int),3,(w:Int),0,1,()) os),bS aG ((w:Int),[],()) pi,fi,rd,ou,()) (l++[eE 14 w 0 0]++[eE 10 a 3 w]++[eE 10 b 4 w]++[eE 11 a 1 0]++[eE 11 b 1 0]++[eE 9 p.1 f a]++[eE 9 p.1 g b]),()),((),(),()))) huu);refine Gv.step (aa rfl) ?_;refine Gv.step (aa d1) ?_;refine Gv.step (aa rfl) ?_;refine Gv.step (aa d2) ?_;refine Gv.step (aa rfl) ?_;refine Gv.step (aa d3) ?_;refine Gv.step (aa rfl) ?_;refine Gv.step (aa d4') ?_;refine Gv.step (aa rfl) ?_;refine Gv.step (aa d5') ?_;refine Gv.step (aa rfl) ?_;refine Gv.step (aa d6) ?_;refine Gv.step (aa rfl) ?_;refine Gv.step (aa d7') ?_;unfold yB;simp only [adu];have hr5:bZ aA (bY ps p.1 (cp (((aE p).set f (a:Int)).set g (b:Int)))):=eA SU λ_ _ _=>rfl;have hp5:cp (((aE p).set f (a:Int)).set g (b:Int)) p∈bY ps p.1 (cp (((aE p).set f (a:Int)).set g (b:Int))):=(bd SU MU).2 (.inl rfl);exact Hz (u:=dJ p.1 (cp (((aE p).set f (a:Int)).set g (b:Int))) (bu (λos=>bS an ((b:Int),4,(w:Int),0,1,()) (bS an ((a:Int),3,(w:Int),0,1,()) os)) (gR (bS aG ((w:Int),[],())) (nx,tk,pg,ps,os,pi,fi,rd,ou,())))) hr5 hp5 hc (y:=(f:Int)) (w:=(g:Int)) (dk) (dk) (l1:=l++[eE 14 w 0 0]++[eE 10 a 3 w]++[eE 10 b 4 w]++[eE 11 a 1 0]++[eE 11 b 1 0]++[eE 9 p.1 f a]++[eE 9 p.1 g b]) (by simp only [bC];omega) (by simp only [bC];omega)
end
section
variable {x tl:Int} {u u' v:UT} {p:af} {o:ai} {l l':List ET} {e:ET} {β:Type} {n m:Nat}
theorem kf {o:ai} {k:Int} (h:bN o≠k:=by omega):(o.2.1==k)=false:=fj h
def nX (os:List ai) (k t:Int):Bool:=os.any (oF k t)
def uS (p:af) (c:ah) (o:ai) (y:ah) (u:UT):UT:=if fK o≥(y.2.1.length:Nat) then cG p.1 c 0 u else iQ p.1 c 1 (y.2.1.getD (fK o).toNat 0) (bu (λos=>ca an os o.1 (yD (fK o+1))) u)
def mZ (p:af) (c:ah) (o:ai) (y:ah) (u:UT):UT:=if 0<y.2.1.length then iQ p.1 c 1 (y.2.1.getD 0 0) (fV (cu o) (gR (λpi=>ca aG pi (cu o) (gb (y.2.1.drop 1))) u))
 else if nX (eY u) 4 (cu o)=false then cG p.1 c 0 u else rF p.1 4 o.1 u
def B9 (p:af) (c:ah) (u:UT):UT:=match YU p (dH c 0) u with
 |none=>cG p.1 c (-1) u
 |some o=>if bN o=4 then cG p.1 c (-1) u else if bN o=1 then cG p.1 c 0 u else if bN o=2 then (match eO aW (nT u) (cu o) with|none=>u|some y=>uS p c o y u)
  else match eO aG (nW u) (cu o) with|none=>u|some y=>mZ p c o y u
def qd (p:af) (c:ah) (o:ai) (y:ah) (u:UT):UT:=if fK o≥8 then cG p.1 c (-1) u else cG p.1 c 1 (bu (λos=>ca an os o.1 (yD (fK o+1))) (lx (λfi=>ca aW fi y.1 (gb (jh y.2.1 (fK o) (dH c 1)))) u))
def lA (p:af) (c:ah) (o:ai) (y:ah) (u:UT):UT:=if nX (eY u) 3 (cu o)=false then cG p.1 c (-1) u else if 4≤y.2.1.length then rF p.1 5 o.1 u
 else cG p.1 c 1 (fV (cu o) (gR (λpi=>ca aG pi (cu o) (gb (y.2.1++[dH c 1]))) u))
def SV (v:Int) (u:UT):UT:=(u.1,u.2.1,u.2.2.1,u.2.2.2.1,u.2.2.2.2.1,u.2.2.2.2.2.1,u.2.2.2.2.2.2.1,u.2.2.2.2.2.2.2.1,u.2.2.2.2.2.2.2.2.1++[v],())
def uT (p:af) (c:ah) (u:UT):UT:=match YU p (dH c 0) u with
 |none=>cG p.1 c (-1) u
 |some o=>if bN o=3 then cG p.1 c (-1) u else if bN o=1 then (if 60≤(Ca u).length then cG p.1 c (-1) u else cG p.1 c 1 (SV (dH c 1) u)) else if bN o=2 then (match eO aW (nT u) (cu o) with|none=>u|some y=>qd p c o y u)
  else match eO aG (nW u) (cu o) with|none=>u|some y=>lA p c o y u
theorem HT (h:aQ x tl u) (ho:o∈eY u):bN o=1∨(bN o=2∧∃ y∈nT u,y.1=cu o∧0≤fK o∧fK o≤(y.2.1.length:Nat))∨((bN o=3∨bN o=4)∧∃ y∈nW u,y.1=cu o):=by
 rcases (h.op o ho).kind with ⟨e,_⟩|q|⟨e,q,_⟩
 . exact .inl e
 . exact .inr (.inl q)
 . exact .inr (.inr ⟨e,q⟩)
theorem lB (h:aQ x tl u) {y:ah} (hy:y∈nT u):y.2.1.length≤8∧aH y.2.1=true:=by
 have:=h.AZ y hy;unfold fA at this;simp only [aa6,adS] at this;exact this.2
theorem rJ {l:List Int} (h:aH l=true) {k:Nat}:b9 (l.getD k 0)=true:=by
 rw [aeq];cases e:l[k]? with
 |none=>rfl
 |some v=>exact adG.1 h v (afF e)
theorem Cb {l:List Int} (h:aH l=true) (k:Nat):aH (l.drop k)=true:=adG.2 λv hv=>adG.1 h v (akx hv)
theorem uU {l:List Int} (h:aH l=true) {v:Int} (hv:b9 v=true):aH (l++[v])=true:=by
 unfold aH at h ⊢;rw [akX,h];simp [hv]
theorem SW {l:List Int} (h:aH l=true) {v b:Int} (hv:b9 v=true):aH (jh l b v)=true:=by
 unfold jh;split
 . exact uU h hv
 . refine adG.2 λy hy=> ?_
   rcases List.mem_or_eq_of_mem_set hy with q|rfl
   . exact adG.1 h y q
   . exact hv
theorem SX (h:aQ 0 tl u) (hp:p∈bE u) {c:ah} (hc:aU c.1 c.2.1=true) (ho:o∈eY u) {y:ah} (hy:y∈nT u) (hk:bN o=2) (ht:y.1=cu o) (h0:0≤fK o):aQ 0 tl (uS p c o y u):=by
 unfold uS;split
 . exact cz h hp hc (by rfl)
 . have hA:aQ 0 tl (bu (λos=>ca an os o.1 (yD (fK o+1))) u):=Inv.cP h ho hk λz hz e=>by
    obtain rfl:=h.B6.inj hz hy (e.trans ht.symm);omega
   exact Bd hA hp hc (by rfl) (rJ (lB h hy).2)
theorem M0 (h:aQ 0 tl u) (hp:p∈bE u) (h1:cU p=1) {c:ah} (hc:aU c.1 c.2.1=true) {j:Nat} (ho:o∈eY u) (hf:(aE p)[j]? =some o.1) {y:ah} (hy:y∈nW u):aQ 0 tl (mZ p c o y u):=by
 have hd:=(h.uv y hy).data;unfold mZ;split
 . have hA:aQ 0 tl (gR (λpi=>ca aG pi (cu o) (gb (y.2.1.drop 1))) u):=Inv.OJ h (by rw [aec];omega) (Cb hd.2 1)
   have hB:=m0 hA (cu o);exact Bd hB (kR hA hp (by omega) _) hc (by rfl) (rJ hd.2)
 . split
   . exact cz h hp hc (by rfl)
   . exact Be h hp h1 (by omega) (by omega) (by omega) λ_=>⟨afF hf,o,ho,rfl⟩
theorem age (h:aQ 0 tl u) (hp:p∈bE u) (h1:cU p=1) {c:ah} (hc:aU c.1 c.2.1=true):aQ 0 tl (B9 p c u):=by
 unfold B9;rcases JX h hp (dH c 0) with ⟨e,_⟩|⟨o,ho,j,_,_,hf,e,_⟩
 . rw [e];exact cz h hp hc (by rfl)
 . rw [e]
   simp only;rcases HT h ho with k|⟨k,y,hy,ht,h0,_⟩|⟨k,y,hy,ht⟩
   . rw [aae,aaZ k];exact cz h hp hc (by rfl)
   . rw [aae,aae,aaZ k,show eO aW (nT u) (cu o)=some y by rw [← ht];exact ee h.B6 hy]
     exact SX h hp hc ho hy k ht h0
   . by_cases k4:bN o=4
     . rw [aaZ k4];exact cz h hp hc (by rfl)
     . rw [aae k4,aae,aae,show eO aG (nW u) (cu o)=some y by rw [← ht];exact ee h.Aj hy]
       exact M0 h hp h1 hc ho hf hy
theorem QS (h:aQ 0 tl u) (hp:p∈bE u) {c:ah} (hc:aU c.1 c.2.1=true) (ho:o∈eY u) {y:ah} (hy:y∈nT u) (hk:bN o=2) (ht:y.1=cu o) (h0:0≤fK o) (h2:fK o≤(y.2.1.length:Nat)):aQ 0 tl (qd p c o y u):=by
 unfold qd;split
 . exact cz h hp hc (by rfl)
 . have hd:=lB h hy
   have hw:=(fk hc (k:=1)).2;have hl:y.2.1.length≤(jh y.2.1 (fK o) (dH c 1)).length∧(jh y.2.1 (fK o) (dH c 1)).length≤8∧fK o+1≤((jh y.2.1 (fK o) (dH c 1)).length:Nat):=by
    unfold jh;split
    . rw [aaY];show _≤_+1∧_+1≤8∧_≤((_+1:Nat):Int);omega
    . rw [afC];omega
   have hA:aQ 0 tl (lx (λfi=>ca aW fi y.1 (gb (jh y.2.1 (fK o) (dH c 1)))) u):=Inv.file h hy hl.1 hl.2.1 (SW hd.2 hw);have hB:aQ 0 tl (bu (λos=>ca an os o.1 (yD (fK o+1))) (lx (λfi=>ca aW fi y.1 (gb (jh y.2.1 (fK o) (dH c 1)))) u)):=Inv.cP hA ho hk λz hz e=>by
    obtain ⟨z0,hz0,e0⟩:=gl.1 hz;by_cases q:aW z0=y.1
    . rw [aaZ q] at e0
      subst e0;exact ⟨by omega,hl.2.2⟩
    . rw [aae q] at e0
      subst e0;exact absurd (e.trans ht.symm) q
   exact cz hB hp hc (by rfl)
theorem J0 (h:aQ 0 tl u) (hp:p∈bE u) (h1:cU p=1) {c:ah} (hc:aU c.1 c.2.1=true) {j:Nat} (ho:o∈eY u) (hf:(aE p)[j]? =some o.1) {y:ah} (hy:y∈nW u):aQ 0 tl (lA p c o y u):=by
 have hd:=(h.uv y hy).data;unfold lA;split
 . exact cz h hp hc (by rfl)
 . split
   . exact Be h hp h1 (by omega) (by omega) (by omega) λ_=>⟨afF hf,o,ho,rfl⟩
   . have hA:aQ 0 tl (gR (λpi=>ca aG pi (cu o) (gb (y.2.1++[dH c 1]))) u):=Inv.OJ h (by rw [aaY];show _+1≤4;omega) (uU hd.2 (fk hc (k:=1)).2)
     have hB:=m0 hA (cu o);exact cz hB (kR hA hp (by omega) _) hc (by rfl)
theorem amP (h:aQ x tl u) {v:Int} (hl:(Ca u).length<60) (hv:b9 v=true):aQ x tl (SV v u):=Inv.out h hl hv
theorem Zr (h:aQ 0 tl u) (hp:p∈bE u) (h1:cU p=1) {c:ah} (hc:aU c.1 c.2.1=true):aQ 0 tl (uT p c u):=by
 unfold uT;rcases JX h hp (dH c 0) with ⟨e,_⟩|⟨o,ho,j,_,_,hf,e,_⟩
 . rw [e];exact cz h hp hc (by rfl)
 . rw [e]
   simp only;rcases HT h ho with k|⟨k,y,hy,ht,h0,h2⟩|⟨k,y,hy,ht⟩
   . rw [aae,aaZ k]
     split
     . exact cz h hp hc (by rfl)
     . exact cz (amP h (by omega) (fk hc (k:=1)).2) hp hc (by rfl)
   . rw [aae,aae,aaZ k,show eO aW (nT u) (cu o)=some y by rw [← ht];exact ee h.B6 hy]
     exact QS h hp hc ho hy k ht h0 h2
   . by_cases k3:bN o=3
     . rw [aaZ k3];exact cz h hp hc (by rfl)
     . rw [aae k3,aae,aae,show eO aG (nW u) (cu o)=some y by rw [← ht];exact ee h.Aj hy]
       exact J0 h hp h1 hc ho hf hy
theorem agf (h:aQ 0 tl u) (hp:p∈bE u) (h1:cU p=1) {c:ah} (hc:aU c.1 c.2.1=true) (hl:l.length≤98000):Gv (SY (iB u l,pT p,c,())) (B9 p c u) l 20:=by
 have Bk:nth c.2.1 (Int.toNat (0:Int))=some (dH c 0):=(fk hc (k:=0)).1;have qa:=oY h;unfold B9;show Gv (Out.eval (HU _)) _ _ _;dsimp only [HU,iB];refine Gv.step (ab (by rfl)) ?_;refine Gv.step (aa Bk) ?_;rcases JX h hp (dH c 0) with ⟨e,ev⟩|⟨o,ho,j,_,_,hf,e,ev⟩
 . rw [e]
   refine Gv.step (aa ev) ?_;refine Gv.step (ae (by rfl)) ?_;exact b5 h.df hp hc (by rfl)
 rw [e];simp only;refine Gv.step (aa ev) ?_;refine Gv.step (ab (by rfl)) ?_;rcases HT h ho with k|⟨k,y,hy,ht,h0,h2⟩|⟨k,y,hy,ht⟩
 . rw [aae,aaZ k]
   refine Gv.step (ae (kf (o:=o))) ?_;refine Gv.step (ab (dE k)) ?_;exact b5 h.df hp hc (by rfl)
 . rw [aae,aae,aaZ k,show eO aW (nT u) (cu o)=some y by rw [← ht];exact ee h.B6 hy]
   show Gv _ (uS p c o y u) _ _;have hd:=lB h hy;obtain ⟨i,hi,ra,ln⟩:=bH h.B6 hy;have dh:br u.2.2.2.2.2.2.1 o.2.2.1=(i:Int):=by rw [show o.2.2.1=aW y from ht.symm];exact hi
   have ue:nth u.2.2.2.2.2.2.1 i=some y:=ln;unfold uS;refine Gv.step (ae (kf (o:=o))) ?_;refine Gv.step (ae (kf (o:=o))) ?_;refine Gv.step (ab (dE k)) ?_;rw [dh];simp only [adu];refine Gv.step (ab (aac)) ?_;refine Gv.step (aa ue) ?_;by_cases q:fK o≥((y.2.1.length:Nat):Int)
   . rw [aaZ q]
     refine Gv.step (ab (aac q)) ?_;exact b5 h.df hp hc (by rfl)
   rw [aae q];refine Gv.step (ae (adD q)) ?_;have hw:abs (o.2.2.2.1+1)=fK o+1:=bt (by show _≤fK o+1;omega) (by show fK o+1≤_;omega);have uf:nth y.2.1 (Int.toNat o.2.2.2.1)=some (y.2.1.getD (fK o).toNat 0):=by
    have cf:(fK o).toNat<y.2.1.length:=by omega
    show y.2.1[(fK o).toNat]? =_;rw [aeq,aa7 cf];rfl
   rw [hw];have uc:=h.df;have Zi:=h.rp;obtain ⟨nx,tk,pg,ps,os,pi,fi,rd,ou,_⟩:=u;have d1:=fJ (l:=l) (SZ (nx:=nx) (tk:=tk) (pg:=pg) (ps:=ps) (pi:=pi) (fi:=fi) (rd:=rd) (ou:=ou) (b:=fK o+1) (c:=0) (l:=[]) Zi ho (adQ qa));refine Gv.step (aa rfl) ?_;refine Gv.step (aa d1) ?_;refine Gv.step (ab (aac h0)) ?_;refine Gv.step (aa uf) ?_;exact Hz (u:=bu (λos=>ca an os o.1 (yD (fK o+1))) (nx,tk,pg,ps,os,pi,fi,rd,ou,())) uc hp hc (y:=1) (by rfl) (rJ hd.2) (l1:=l++[eE 13 o.1 (fK o+1) 0]) (by rw [bC];omega) (by rw [bC];omega)
 . by_cases k4:bN o=4
   . rw [aaZ k4]
     refine Gv.step (ab (dE k4)) ?_;exact b5 h.df hp hc (by rfl)
   rw [aae k4,aae,aae,show eO aG (nW u) (cu o)=some y by rw [← ht];exact ee h.Aj hy];show Gv _ (mZ p c o y u) _ _;have hd:=(h.uv y hy).data;obtain ⟨i,hi,ra,ln⟩:=bH h.Aj hy;have dh:bq u.2.2.2.2.2.1 o.2.2.1=(i:Int):=by rw [show o.2.2.1=aG y from ht.symm];exact hi
   have ue:nth u.2.2.2.2.2.1 i=some y:=ln;unfold mZ;refine Gv.step (ae (kf (o:=o))) ?_;refine Gv.step (ae (kf (o:=o))) ?_;refine Gv.step (ae (kf (o:=o))) ?_;rw [dh];simp only [adu];refine Gv.step (ab (aac)) ?_;refine Gv.step (aa ue) ?_;by_cases q:0<y.2.1.length
   . rw [aaZ q]
     refine Gv.step (ab (aac)) ?_;have hA:aQ 0 tl (gR (λpi=>ca aG pi (cu o) (gb (y.2.1.drop 1))) u):=Inv.OJ h (by rw [aec];omega) (Cb hd.2 1);have hB:=m0 hA (cu o);have MM:p∈bE (fV (cu o) (gR (λpi=>ca aG pi (cu o) (gb (y.2.1.drop 1))) u)):=kR hA hp (by omega) _;have hrp:=h.Aj;have Sf:=vU h;have Bk:nth y.2.1 (Int.toNat (0:Int))=some (y.2.1.getD 0 0):=by
      show y.2.1[0]? =_;rw [aeq,aa7 q];rfl
     obtain ⟨l2,hv,Zf⟩:=uV hA (cu o) (l:=l++[eE 16 (cu o) 0 0]) (by rw [bC];omega);rw [bC] at Zf;obtain ⟨nx,tk,pg,ps,os,pi,fi,rd,ou,_⟩:=u;have d1:=fJ (l:=l) (Zs (nx:=nx) (tk:=tk) (pg:=pg) (ps:=ps) (os:=os) (fi:=fi) (rd:=rd) (ou:=ou) (b:=0) (c:=0) (l:=[]) hrp hy (adQ Sf) ⟨q,hd.1⟩);rw [ht] at d1;refine Gv.step (aa rfl) ?_;refine Gv.step (aa d1) ?_;refine Gv.step (aa hv) ?_;refine Gv.step (ab (by rfl)) ?_;refine Gv.step (aa Bk) ?_;exact Hz hB.df MM hc (y:=1) (by rfl) (rJ hd.2) (by omega) (by omega)
   rw [aae q];refine Gv.step (ae (adD)) ?_;have hez:(jg u.2.2.2.2.1 o.2.2.1 4==0)= !nX (eY u) 4 (cu o):=FR (adQ qa) _ _;rw [hez];by_cases q2:nX (eY u) 4 (cu o)=false
   . rw [aaZ q2]
     refine Gv.step (ab (by rw [q2];rfl)) ?_;exact b5 h.df hp hc (by rfl)
   rw [aae q2];refine Gv.step (ae (by rw [show nX (eY u) 4 (cu o)=true by simpa using q2];rfl)) ?_;refine Gv.step (aa (Bf h hp h1)) ?_;exact Gv.ret (by rw [bC,bC];omega)
theorem Zt (h:aQ 0 tl u) (hp:p∈bE u) (h1:cU p=1) {c:ah} (hc:aU c.1 c.2.1=true) (hl:l.length≤98000):Gv (S0 (iB u l,pT p,c,())) (uT p c u) l 20:=by
 have Bk:nth c.2.1 (Int.toNat (0:Int))=some (dH c 0):=(fk hc (k:=0)).1;have hn1:nth c.2.1 (Int.toNat (1:Int))=some (dH c 1):=(fk hc (k:=1)).1;have hw1:=(fk hc (k:=1)).2;have qa:=oY h;unfold uT;show Gv (Out.eval (HV _)) _ _ _;dsimp only [HV,iB];refine Gv.step (ab (by rfl)) ?_;refine Gv.step (aa Bk) ?_;rcases JX h hp (dH c 0) with ⟨e,ev⟩|⟨o,ho,j,_,_,hf,e,ev⟩
 . rw [e]
   refine Gv.step (aa ev) ?_;refine Gv.step (ab (by rfl)) ?_;refine Gv.step (aa hn1) ?_;refine Gv.step (ae (by rfl)) ?_;exact b5 h.df hp hc (by rfl)
 rw [e];simp only;refine Gv.step (aa ev) ?_;refine Gv.step (ab (by rfl)) ?_;refine Gv.step (aa hn1) ?_;refine Gv.step (ab (by rfl)) ?_;rcases HT h ho with k|⟨k,y,hy,ht,h0,h2⟩|⟨k,y,hy,ht⟩
 . rw [aae,aaZ k]
   refine Gv.step (ae (kf (o:=o))) ?_;refine Gv.step (ab (dE k)) ?_;by_cases q:60≤(Ca u).length
   . rw [aaZ q]
     refine Gv.step (ab (aac (by show (((Ca u).length:Nat):Int)≥60;omega))) ?_;exact b5 h.df hp hc (by rfl)
   rw [aae q];refine Gv.step (ae (adD (by show ¬ (((Ca u).length:Nat):Int)≥60;omega))) ?_;have uc:=h.df;obtain ⟨nx,tk,pg,ps,os,pi,fi,rd,ou,_⟩:=u;have d1:=fJ (l:=l) (agi (nx:=nx) (tk:=tk) (pg:=pg) (ps:=ps) (os:=os) (pi:=pi) (fi:=fi) (rd:=rd) (k:=dH c 1) (b:=0) (c:=0) (l:=[]) (Nat.not_le.1 q));refine Gv.step (aa rfl) ?_;refine Gv.step (aa d1) ?_;exact b5 (u:=SV (dH c 1) (nx,tk,pg,ps,os,pi,fi,rd,ou,())) uc hp hc (by rfl) (l1:=l++[eE 23 (dH c 1) 0 0]) (by rw [bC];omega) (by rw [bC];omega)
 . rw [aae,aae,aaZ k,show eO aW (nT u) (cu o)=some y by rw [← ht];exact ee h.B6 hy]
   show Gv _ (qd p c o y u) _ _;have hd:=lB h hy;unfold qd;refine Gv.step (ae (kf (o:=o))) ?_;refine Gv.step (ae (kf (o:=o))) ?_;refine Gv.step (ab (dE k)) ?_;by_cases q:fK o≥8
   . rw [aaZ q]
     refine Gv.step (ab (aac q)) ?_;exact b5 h.df hp hc (by rfl)
   rw [aae q];refine Gv.step (ae (adD q)) ?_;have hw:abs (o.2.2.2.1+1)=fK o+1:=bt (by show _≤fK o+1;omega) (by show fK o+1≤_;omega);rw [hw];have uc:=h.df;have Zi:=h.rp;have Sz:=h.B6;have E9:=Ak h;obtain ⟨nx,tk,pg,ps,os,pi,fi,rd,ou,_⟩:=u;have d1:=fJ (l:=l) (Zu (nx:=nx) (tk:=tk) (pg:=pg) (ps:=ps) (os:=os) (pi:=pi) (rd:=rd) (ou:=ou) (b:=fK o) (c:=dH c 1) (l:=[]) Sz hy (adQ E9) hd.1 ⟨h0,h2,by omega⟩);rw [show y.1=o.2.2.1 from ht] at d1 ⊢;have d2:=fJ (l:=l++[eE 19 o.2.2.1 (fK o) (dH c 1)]) (SZ (nx:=nx) (tk:=tk) (pg:=pg) (ps:=ps) (pi:=pi) (fi:=ca aW fi o.2.2.1 (gb (jh y.2.1 (fK o) (dH c 1)))) (rd:=rd) (ou:=ou) (b:=fK o+1) (c:=0) (l:=[]) Zi ho (adQ qa)) (by rw [bC];omega);refine Gv.step (aa rfl) ?_;refine Gv.step (aa d1) ?_;refine Gv.step (aa rfl) ?_;refine Gv.step (aa d2) ?_;exact b5 (u:=bu (λos=>ca an os o.1 (yD (fK o+1))) (lx (λfi=>ca aW fi o.2.2.1 (gb (jh y.2.1 (fK o) (dH c 1)))) (nx,tk,pg,ps,os,pi,fi,rd,ou,()))) uc hp hc (by rfl) (l1:=l++[eE 19 o.2.2.1 (fK o) (dH c 1)]++[eE 13 o.1 (fK o+1) 0]) (by rw [bC,bC];omega) (by rw [bC,bC];omega)
 . by_cases k3:bN o=3
   . rw [aaZ k3]
     refine Gv.step (ab (dE k3)) ?_;exact b5 h.df hp hc (by rfl)
   rw [aae k3,aae,aae,show eO aG (nW u) (cu o)=some y by rw [← ht];exact ee h.Aj hy];show Gv _ (lA p c o y u) _ _;have hd:=(h.uv y hy).data;obtain ⟨i,hi,ra,ln⟩:=bH h.Aj hy;have dh:bq u.2.2.2.2.2.1 o.2.2.1=(i:Int):=by rw [show o.2.2.1=aG y from ht.symm];exact hi
   have ue:nth u.2.2.2.2.2.1 i=some y:=ln;unfold lA;refine Gv.step (ae (kf (o:=o))) ?_;refine Gv.step (ae (kf (o:=o))) ?_;refine Gv.step (ae (kf (o:=o))) ?_;have hez:(jg u.2.2.2.2.1 o.2.2.1 3==0)= !nX (eY u) 3 (cu o):=FR (adQ qa) _ _;rw [hez];by_cases q2:nX (eY u) 3 (cu o)=false
   . rw [aaZ q2]
     refine Gv.step (ab (by rw [q2];rfl)) ?_;exact b5 h.df hp hc (by rfl)
   rw [aae q2];refine Gv.step (ae (by rw [show nX (eY u) 3 (cu o)=true by simpa using q2];rfl)) ?_;rw [dh];simp only [adu];refine Gv.step (ab (aac)) ?_;refine Gv.step (aa ue) ?_;by_cases q:4≤y.2.1.length
   . rw [aaZ q]
     refine Gv.step (ab (aac)) ?_;refine Gv.step (aa (Bf h hp h1)) ?_;exact Gv.ret (by rw [bC,bC];omega)
   rw [aae q];refine Gv.step (ae (adD)) ?_;have hA:aQ 0 tl (gR (λpi=>ca aG pi (cu o) (gb (y.2.1++[dH c 1]))) u):=Inv.OJ h (by rw [aaY];show _+1≤4;omega) (uU hd.2 hw1);have hB:=m0 hA (cu o);have MM:p∈bE (fV (cu o) (gR (λpi=>ca aG pi (cu o) (gb (y.2.1++[dH c 1]))) u)):=kR hA hp (by omega) _;have hrp:=h.Aj;have Sf:=vU h;obtain ⟨l2,hv,Zf⟩:=uV hA (cu o) (l:=l++[eE 15 (cu o) (dH c 1) 0]) (by rw [bC];omega);rw [bC] at Zf;obtain ⟨nx,tk,pg,ps,os,pi,fi,rd,ou,_⟩:=u;have d1:=fJ (l:=l) (agj (nx:=nx) (tk:=tk) (pg:=pg) (ps:=ps) (os:=os) (fi:=fi) (rd:=rd) (ou:=ou) (b:=dH c 1) (c:=0) (l:=[]) hrp hy (adQ Sf) (by omega));rw [ht] at d1;refine Gv.step (aa rfl) ?_;refine Gv.step (aa d1) ?_;refine Gv.step (aa hv) ?_;exact b5 hB.df MM hc (by rfl)
end
section
variable {x tl:Int} {u u':UT} {p:af} {l l':List ET} {β:Type} {n m:Nat} {v w code:Int}
def eZ (w:Int) (u:UT):Prop:=∃ q∈bE u,q.1=w∧cU q≠6
theorem eZ.set {f:af→af} (h:eZ w u) (hf:∀ q,(f q).1=q.1) (h6:v=w→∀ q,cU q≠6→cU (f q)≠6):eZ w (dJ v f u):=by
 obtain ⟨q,hq,rfl,q6⟩:=h;by_cases e:q.1=v
 . exact ⟨f q,gl.2 ⟨q,hq,aaZ e⟩,hf q,h6 e.symm q q6⟩
 . exact ⟨q,gl.2 ⟨q,hq,aae e⟩,rfl,q6⟩
theorem eZ.uW (h:eZ w u):eZ w (iU v u):=eZ.set (u:=u) (v:=v) (f:=nQ 1 0) h (λ_=>rfl) λ_ _ _=>by show (1:Int)≠6;omega
theorem eZ.fold {α:Type} {f:UT→α→UT}:∀ {a:List α} {u:UT},(∀ y∈a,∀ u,eZ w u→eZ w (f u y))→eZ w u→eZ w (a.foldl f u)
 |[],_,_,h=>h
 |y::a,u,hf,h=>eZ.fold (a:=a) (λz hz=>hf z (by simp [hz])) (hf y (by simp) u h)
theorem eZ.m2 {t:Int} (h:eZ w u):eZ w (fV t u):=eZ.fold (f:=λu v=>iU v u) (λ_ _ _ h=>h.uW) h
theorem eZ.fds {f:List Int} (h:eZ w u):eZ w (dJ v (cp f) u):=h.set (λ_=>rfl) λ_ _ q=>q
theorem eZ.close {k:Nat} (h:eZ w u):eZ w (kS v k u):=by
 unfold kS;split
 . exact h
 split
 . exact h
 split
 . exact h
 split
 . exact h.fds
 split
 . exact h.fds
 split
 . exact eZ.m2 (u:=bu _ (dJ v _ u)) h.fds
 . exact h.fds
theorem eZ.vV {k:Nat} (h:eZ w u):eZ w (cq v k u):=eZ.fold (f:=ke v) (λj _ u h=>by
 unfold ke;split
 . exact h
 . split
   . exact h
   . exact h.close) h
theorem eZ.kid {q:af} (hq:q.1=w→cU q≠6) (h:eZ w u):eZ w (qe v u q):=by
 unfold qe;split
 . split
   . rename_i e6
     obtain ⟨r,hr,rfl,r6⟩:=h;exact ⟨r,jy.2 ⟨hr,λe=>hq e.symm e6⟩,rfl,r6⟩
   . exact h.set (λ_=>rfl) λ_ _ q=>q
 . exact h
theorem eZ.kids {ks:List af} (hq:∀ q∈ks,q.1=w→cU q≠6) (h:eZ w u):eZ w (gE v ks u):=eZ.fold (f:=qe v) (λq hm _ h=>h.kid (hq q hm)) h
theorem eZ.last (h:eZ w u) (fE:w≠v):eZ w (Cc v code u):=by
 have hz:eZ w (dJ v (λp=>gN code (nQ 6 0 p)) (eJ (·.erase v) u)):=eZ.set (u:=eJ (·.erase v) u) h (λ_=>rfl) λe=>absurd e.symm fE;unfold Cc;split
 . exact h
 split
 . obtain ⟨r,hr,rfl,r6⟩:=h
   exact ⟨r,jy.2 ⟨hr,fE⟩,rfl,r6⟩
 split
 . exact hz
 split
 . exact hz.uW
 . exact hz
theorem eZ.ends (hI:aQ 0 tl u) (hp:p∈bE u) (h1:cU p=1) (h:eZ w u) (fE:w≠p.1):eZ w (iD p.1 code u):=by
 obtain ⟨_,_,_,_,_,_,_,hD,_⟩:=uX hI hp h1;have hd:eZ w (mB p.1 (cq p.1 4 u)):=h.vV.set (λ_=>rfl) λ_ _ q=>q;refine eZ.last (eZ.kids (λq hq e=> ?_) hd) fE;obtain ⟨r,hr,e2,r6⟩:=hd;rw [hD.df.inj hq hr (e.trans e2.symm)];exact r6
theorem eZ.exit (hI:aQ 0 tl u) (hp:p∈bE u) (h6:cU p≠6) (h:eZ w u) (fE:w≠p.1):eZ w (nY p.1 code u):=by
 unfold nY;rw [show eO aA (bE u) p.1=some p from ee hI.df hp];simp only;split
 . rename_i h1;exact eZ.ends hI hp h1 h fE
 . rename_i h1
   exact eZ.ends (p:=nQ 1 0 p) (Cd hI hp h6 h1) ((bd hI.df hp).2 (.inl rfl)) rfl h.uW fE
def Ce (p:af) (c:ah) (u:UT):UT:=match eO aA (bE u) (dH c 0) with
 |none=>cG p.1 c (-1) u
 |some q=>if cU q=6 then cG p.1 c (-1) u else if dH c 0=p.1 then nY p.1 (-1) u else cG p.1 c 0 (nY (dH c 0) (-1) u)
theorem agk (h:aQ 0 tl u) (hp:p∈bE u) (h1:cU p=1) {c:ah} (hc:aU c.1 c.2.1=true):aQ 0 tl (Ce p c u):=by
 unfold Ce;split
 . exact cz h hp hc (by rfl)
 . rename_i q e
   obtain ⟨hq,e⟩:=qf e;have e:q.1=dH c 0:=e;split
   . exact cz h hp hc (by rfl)
   . rename_i q6
     split
     . exact Cf h hp (by omega) (by rfl)
     . rename_i fE
       rw [← e] at fE ⊢;obtain ⟨r,hr,er,_⟩:=eZ.exit (code:= -1) h hq q6 ⟨p,hp,rfl,by omega⟩ (Ne.symm fE);rw [← er];exact cz (Cf h hq q6 (by rfl)) hr hc (by rfl)
theorem agl (h:aQ 0 tl u) (hp:p∈bE u) (h1:cU p=1) {c:ah} (hc:aU c.1 c.2.1=true) (hl:l.length≤96000):Gv (S1 (iB u l,pT p,c,())) (Ce p c u) l 100:=by
 have Bk:nth c.2.1 (Int.toNat (0:Int))=some (dH c 0):=(fk hc (k:=0)).1;unfold Ce;show Gv (Out.eval (HW _)) _ _ _;dsimp only [HW,iB];refine Gv.step (ab (by rfl)) ?_;refine Gv.step (aa Bk) ?_;cases e:eO aA (bE u) (dH c 0) with
 |none=>
  have hno:al u.2.2.2.1 (dH c 0)= -1:=by
   unfold al dM;rw [m3 λy hy ey=>by have:=List.find?_eq_none.1 e y hy;exact this (by simpa using ey)];rfl
  rw [hno];refine Gv.step (ae (by rfl)) ?_;exact b5 h.df hp hc (by rfl)
 |some q=>
  obtain ⟨hq,eq⟩:=qf e;have eq:q.1=dH c 0:=eq;obtain ⟨i,hi,ra,ln⟩:=bH h.df hq;have dh:al u.2.2.2.1 (dH c 0)=(i:Int):=by rw [← eq];exact hi
  have ue:nth u.2.2.2.1 i=some q:=ln;rw [dh];simp only [adu];refine Gv.step (ab (gP (by omega))) ?_;refine Gv.step (ab (aac)) ?_;refine Gv.step (aa ue) ?_;by_cases q6:cU q=6
  . rw [aaZ q6]
    refine Gv.step (ab (dE q6)) ?_;exact b5 h.df hp hc (by rfl)
  rw [aae q6];refine Gv.step (ae (fj q6)) ?_;refine Gv.step (ab (by rfl)) ?_;refine Gv.step (aa Bk) ?_;by_cases me:dH c 0=p.1
  . rw [aaZ me]
    refine Gv.step (ab (dE me)) ?_;obtain ⟨l1,e1,MP⟩:=HX (code:= -1) h hp (by omega) (by rfl) (l:=l) (by omega);exact Gv.step (aa e1) (Gv.ret (l':=l1) (by omega))
  rw [aae me];refine Gv.step (ae (fj me)) ?_;refine Gv.step (ab (by rfl)) ?_;refine Gv.step (aa Bk) ?_;rw [← eq] at me ⊢;obtain ⟨l1,e1,MP⟩:=HX (code:= -1) h hq q6 (by rfl) (l:=l) (by omega);refine Gv.step (aa e1) ?_;obtain ⟨r,hr,er,_⟩:=eZ.exit (code:= -1) h hq q6 ⟨p,hp,rfl,by omega⟩ (Ne.symm me);have hX:=Cf (code:= -1) h hq q6 (by rfl);rw [← er];exact b5 hX.df hr hc (by rfl) (l1:=l1)
def kj (p:af) (c:ah) (u:UT):UT:=match YU p (dH c 0) u with
 |none=>cG p.1 c (-1) u
 |some _=>cG p.1 c 0 (kS p.1 (dH c 0).toNat u)
def yE (p:af) (c:ah) (u:UT):UT:=eJ (λrd=>rd.erase p.1++[p.1]) (cG p.1 c 0 u)
def HY (p:af) (c:ah) (k:Int) (u:UT):UT:=
 if k=1 then nY p.1 (dH c 0) u else if k=2 then BU p c u else if k=3 then BX p c u else if k=4 then cG p.1 c p.1 u
 else if k=5 then B0 p c u else if k=6 then lv p c u else if k=7 then kj p c u else if k=8 then B9 p c u
 else if k=9 then uT p c u else if k=10 then lz p c u else if k=11 then MW p c u else if k=12 then uR p c u
 else if k=13 then Ce p c u else if k=14 then qc p c u else if k=15 then cG p.1 c u.2.1 u else if k=16 then B1 p c u
 else if k=17 then yE p c u else cG p.1 c (-1) u
theorem J1 (h:aQ 0 tl u) (hp:p∈bE u) (h1:cU p=1) {c:ah} (hc:aU c.1 c.2.1=true):aQ 0 tl (kj p c u):=by
 unfold kj;rcases JX h hp (dH c 0) with ⟨e,_⟩|⟨o,ho,j,hj,_,hf,e,_⟩
 . rw [e];exact cz h hp hc (by rfl)
 . rw [e]
   simp only;rw [hj,adu];exact cz (p:=cp ((aE p).set j (-1)) p) (HZ h hp h1 ho hf) (yF h hp h1 ho hf) hc (by rfl)
theorem Zv (h:aQ 0 tl u) (hp:p∈bE u) (h1:cU p=1) {c:ah} (hc:aU c.1 c.2.1=true):aQ 0 tl (yE p c u):=by
 have hT:=cz h hp hc (y:=0) (by rfl);have hm:p.1∈oZ (cG p.1 c 0 u):=h.ready hp h1;exact Inv.perm hT ((List.perm_append_comm (l₁:=(oZ (cG p.1 c 0 u)).erase p.1) (l₂:=[p.1])).trans (List.perm_cons_erase hm).symm)
theorem J2 (h:aQ x tl u) (hp:p∈bE u):b9 p.1=true:=dk (by have:=(h.ctx p hp).pid;have:=h.OE;omega)
theorem amQ (h:aQ 0 tl u) (ht:tl≤u.2.1) (hp:p∈bE u) (h1:cU p=1) {c:ah} (hc:aU c.1 c.2.1=true) (k:Int):aQ 0 tl (HY p c k u):=by
 unfold HY;have B5:=h.B5;by_cases e1:k=1
 . rw [aaZ e1];exact Cf h hp (by omega) (fk hc).2
 rw [aae e1];by_cases e2:k=2
 . rw [aaZ e2];exact afW h hp h1 hc
 rw [aae e2];by_cases e3:k=3
 . rw [aaZ e3];exact af1 h hp h1 hc
 rw [aae e3];by_cases e4:k=4
 . rw [aaZ e4];exact cz h hp hc (J2 h hp)
 rw [aae e4];by_cases e5:k=5
 . rw [aaZ e5];exact af8 h hp h1 hc
 rw [aae e5];by_cases e6:k=6
 . rw [aaZ e6];exact MT h hp h1 hc
 rw [aae e6];by_cases e7:k=7
 . rw [aaZ e7];exact J1 h hp h1 hc
 rw [aae e7];by_cases e8:k=8
 . rw [aaZ e8];exact age h hp h1 hc
 rw [aae e8];by_cases e9:k=9
 . rw [aaZ e9];exact Zr h hp h1 hc
 rw [aae e9];by_cases e10:k=10
 . rw [aaZ e10];exact MY h hp h1 hc
 rw [aae e10];by_cases e11:k=11
 . rw [aaZ e11];exact amG h hp h1 hc
 rw [aae e11];by_cases e12:k=12
 . rw [aaZ e12];exact Zl h ht hp h1 hc
 rw [aae e12];by_cases e13:k=13
 . rw [aaZ e13];exact agk h hp h1 hc
 rw [aae e13];by_cases e14:k=14
 . rw [aaZ e14];exact SN h hp hc
 rw [aae e14];by_cases e15:k=15
 . rw [aaZ e15];exact cz h hp hc (dk)
 rw [aae e15];by_cases e16:k=16
 . rw [aaZ e16];exact aga h hp h1 hc
 rw [aae e16];by_cases e17:k=17
 . rw [aaZ e17];exact Zv h hp h1 hc
 rw [aae e17];exact cz h hp hc (by rfl)
theorem Gv.hand {γ:Type} {r:Option ((WT×Unit)×γ)} {v:UT} {z:β} (h:Gv r v l n) (hn:n≤m):Gv (Out.get r λ((cC,_),_)=>Out.ret ((cC,()),z)).eval v l m:=by
 obtain ⟨l',y,e,hl⟩:=h;exact Gv.step (aa e) (Gv.ret (l':=l') (by omega))
theorem J3 {z:β} (h:aQ 0 tl u) (hp:p∈bE u) (h1:cU p=1) {c:ah} (hc:aU c.1 c.2.1=true) (hl:l.length≤96000):
  Gv (Out.get (uQ (u,pT p,(dH c 0,()),())) λ((_,y9b,_),_)=>
   .ite (!y9b.1) (.get (bF (iB u l,(p.1,()),c,(-1,()),())) λ((qg,_),_)=> .ret ((qg,()),z))
   (.ite (decide (0≤(0:Int))) (.get (nth c.2.1 (Int.toNat (0:Int))) λsX=>
    .get (yG (iB u l,(p.1,()),(sX,()),())) λ((qh,_),_)=>
    .get (bF (qh,(p.1,()),c,(0,()),())) λ((qi,_),_)=> .ret ((qi,()),z)) .fail)).eval (kj p c u) l 100:=by
 have Bk:nth c.2.1 (Int.toNat (0:Int))=some (dH c 0):=(fk hc (k:=0)).1;unfold kj;rcases JX h hp (dH c 0) with ⟨e,ev⟩|⟨o,ho,j,hj,_,hf,e,ev⟩
 . rw [e]
   refine Gv.step (aa ev) ?_;refine Gv.step (ab (by rfl)) ?_;exact b5 h.df hp hc (by rfl)
 . rw [e]
   simp only;refine Gv.step (aa ev) ?_;refine Gv.step (ae (by rfl)) ?_;refine Gv.step (ab (by rfl)) ?_;refine Gv.step (aa Bk) ?_;obtain ⟨l1,e1,MP⟩:=OK h hp h1 ho hf (l:=l) (by omega);rw [hj,adu];refine Gv.step (aa e1) ?_;exact b5 (p:=cp ((aE p).set j (-1)) p) (HZ h hp h1 ho hf).df (yF h hp h1 ho hf) hc (by rfl) (l1:=l1) (by omega) (by omega)
theorem Zw {z:β} (h:aQ 0 tl u) (hp:p∈bE u) (h1:cU p=1) {c:ah} (hc:aU c.1 c.2.1=true) (hl:l.length≤96000):
  Gv (Out.get (bF (iB u l,(p.1,()),c,(0,()),())) λ((S3,_),_)=>
   .get (b6 ((22,()),(p.1,()),(0,()),(0,()),())) λ((M1,_),_)=>
   .get (bz (S3,M1,())) λ((S4,_),_)=>
   .get (b6 ((21,()),(p.1,()),(0,()),(0,()),())) λ((S5,_),_)=>
   .get (bz (S4,S5,())) λ((agu,_),_)=> .ret ((agu,()),z)).eval (yE p c u) l 100:=by
 obtain ⟨l1,e1,MP⟩:=Hy h.df hp hc (y:=0) (by rfl) (l:=l);have hm:p.1∈oZ u:=h.ready hp h1;have S6:=uw h;obtain ⟨nx,tk,pg,ps,os,pi,fi,rd,ou,_⟩:=u;have cf:(rd.erase p.1).length<6:=by
  have:=List.length_erase_of_mem (show p.1∈rd from hm);have:rd.length≤6:=S6;have:0<rd.length:=List.length_pos_of_mem (show p.1∈rd from hm);omega
 have d1:=fJ (l:=l1) (Bm (nx:=nx) (tk:=tk) (pg:=pg) (ps:=bY ps p.1 (pX (ud c 0 0))) (os:=os) (pi:=pi) (fi:=fi) (ou:=ou) (b:=0) (c:=0) (l:=[]) (show p.1∈rd from hm) (adQ S6));have d2:=fJ (l:=l1++[eE 22 p.1 0 0]) (Bc (nx:=nx) (tk:=tk) (pg:=pg) (ps:=bY ps p.1 (pX (ud c 0 0))) (os:=os) (pi:=pi) (fi:=fi) (ou:=ou) (k:=p.1) (b:=0) (c:=0) (l:=[]) cf) (by rw [bC];omega);refine Gv.step (aa e1) ?_;refine Gv.step (aa rfl) ?_;refine Gv.step (aa d1) ?_;refine Gv.step (aa rfl) ?_;refine Gv.step (aa d2) ?_;exact Gv.ret (v:=yE p c (nx,tk,pg,ps,os,pi,fi,rd,ou,())) (l':=l1++[eE 22 p.1 0 0]++[eE 21 p.1 0 0]) (by rw [bC,bC];omega)
theorem amS (h:aQ 0 tl u) (hp:p∈bE u) (h1:cU p=1) {c:ah} (hc:aU c.1 c.2.1=true) (k:Int) (hl:l.length≤96000):Gv (S7 (iB u l,pT p,c,(k,()),())) (HY p c k u) l 100:=by
 have Bk:nth c.2.1 (Int.toNat (0:Int))=some (dH c 0):=(fk hc (k:=0)).1;have B5:=h.B5;unfold HY;show Gv (Out.eval (H0 _)) _ _ _;dsimp only [H0];by_cases e1:k=1
 . rw [aaZ e1]
   refine Gv.step (ab (dE e1)) ?_;refine Gv.step (ab (by rfl)) ?_;refine Gv.step (aa Bk) ?_;obtain ⟨l1,e1,MP⟩:=HX (code:=dH c 0) h hp (by omega) (fk hc).2 (l:=l) (by omega);exact Gv.step (aa e1) (Gv.ret (l':=l1) (by omega))
 rw [aae e1];refine Gv.step (ae (fj e1)) ?_;by_cases e2:k=2
 . rw [aaZ e2];exact Gv.step (ab (dE e2)) (Gv.hand (afZ h hp h1 hc (l:=l) (by omega)) (by omega))
 rw [aae e2];refine Gv.step (ae (fj e2)) ?_;by_cases e3:k=3
 . rw [aaZ e3];exact Gv.step (ab (dE e3)) (Gv.hand (af3 h hp h1 hc (l:=l) (by omega)) (by omega))
 rw [aae e3];refine Gv.step (ae (fj e3)) ?_;by_cases e4:k=4
 . rw [aaZ e4];exact Gv.step (ab (dE e4)) (b5 h.df hp hc (J2 h hp))
 rw [aae e4];refine Gv.step (ae (fj e4)) ?_;by_cases e5:k=5
 . rw [aaZ e5];exact Gv.step (ab (dE e5)) (Gv.hand (af9 h hp hc (l:=l) (by omega)) (by omega))
 rw [aae e5];refine Gv.step (ae (fj e5)) ?_;by_cases e6:k=6
 . rw [aaZ e6];exact Gv.step (ab (dE e6)) (Gv.hand (MV h hp hc (l:=l) (by omega)) (by omega))
 rw [aae e6];refine Gv.step (ae (fj e6)) ?_;by_cases e7:k=7
 . rw [aaZ e7]
   refine Gv.step (ab (dE e7)) ?_;refine Gv.step (ab (by rfl)) ?_;refine Gv.step (aa Bk) ?_;exact J3 h hp h1 hc hl
 rw [aae e7];refine Gv.step (ae (fj e7)) ?_;by_cases e8:k=8
 . rw [aaZ e8];exact Gv.step (ab (dE e8)) (Gv.hand (agf h hp h1 hc (l:=l) (by omega)) (by omega))
 rw [aae e8];refine Gv.step (ae (fj e8)) ?_;by_cases e9:k=9
 . rw [aaZ e9];exact Gv.step (ab (dE e9)) (Gv.hand (Zt h hp h1 hc (l:=l) (by omega)) (by omega))
 rw [aae e9];refine Gv.step (ae (fj e9)) ?_;by_cases e10:k=10
 . rw [aaZ e10];exact Gv.step (ab (dE e10)) (Gv.hand (MZ h hp hc (l:=l) (by omega)) (by omega))
 rw [aae e10];refine Gv.step (ae (fj e10)) ?_;by_cases e11:k=11
 . rw [aaZ e11];exact Gv.step (ab (dE e11)) (Gv.hand (amH h hp hc (l:=l) (by omega)) (by omega))
 rw [aae e11];refine Gv.step (ae (fj e11)) ?_;by_cases e12:k=12
 . rw [aaZ e12];exact Gv.step (ab (dE e12)) (Gv.hand (Zm h hp h1 hc (l:=l) (by omega)) (by omega))
 rw [aae e12];refine Gv.step (ae (fj e12)) ?_;by_cases e13:k=13
 . rw [aaZ e13];exact Gv.step (ab (dE e13)) (Gv.hand (agl h hp h1 hc (l:=l) (by omega)) (by omega))
 rw [aae e13];refine Gv.step (ae (fj e13)) ?_;by_cases e14:k=14
 . rw [aaZ e14];exact Gv.step (ab (dE e14)) (Gv.hand (SO h hp hc (l:=l) (by omega)) (by omega))
 rw [aae e14];refine Gv.step (ae (fj e14)) ?_;by_cases e15:k=15
 . rw [aaZ e15];exact Gv.step (ab (dE e15)) (b5 h.df hp hc (dk))
 rw [aae e15];refine Gv.step (ae (fj e15)) ?_;by_cases e16:k=16
 . rw [aaZ e16];exact Gv.step (ab (dE e16)) (Gv.hand (agb h hp h1 hc (l:=l) (by omega)) (by omega))
 rw [aae e16];refine Gv.step (ae (fj e16)) ?_;by_cases e17:k=17
 . rw [aaZ e17];exact Gv.step (ab (dE e17)) (Zw h hp h1 hc hl)
 rw [aae e17];refine Gv.step (ae (fj e17)) ?_;exact b5 h.df hp hc (by rfl)
end
section
abbrev YV:Type:=Int×Int×Int×Int×Unit
def lC (c:ah) (a:Int):Int:=dH c a.toNat
def M3 (c:ah) (a v:Int):ah:=(c.1+1,c.2.1.set a.toNat v,())
abbrev flt (c:ah):ah×YV:=(c,2, -1,0,0,())
abbrev H2:YV:=(0, -1,0,0,())
def agv (i:ar) (c:ah):Int:=if i.1=3 then lC c i.2.2.1 - lC c i.2.2.2.1 else lC c i.2.2.1+lC c i.2.2.2.1
def J4 (i:ar) (c:ah) (m:List Int):ah×YV:=
 if i.1=1 then (M3 c i.2.1 i.2.2.1,H2)
 else if i.1=2∨i.1=3 then (if b9 (agv i c)=true then (M3 c i.2.1 (agv i c),H2) else flt c)
 else if i.1=4∨i.1=5 then (if lC c i.2.2.1<0∨(m.length:Nat)≤lC c i.2.2.1 then flt c else if i.1=4 then (M3 c i.2.1 (m.getD (lC c i.2.2.1).toNat 0),H2) else ((c.1+1,c.2),(0,lC c i.2.2.1,lC c i.2.1,0,())))
 else if i.1=6 then ((i.2.1,c.2),H2)
 else if i.1=7 then ((if lC c i.2.1=0 then i.2.2.1 else c.1+1,c.2),H2)
 else ((c.1+1,c.2),(1, -1,0,i.2.1,()))
def Cg (pr:List ar) (c:ah) (m:List Int):ah×YV:=match nth pr c.1.toNat with
 |none=>flt c
 |some i=>J4 i c m
abbrev FT (a:Int):Prop:=0≤a∧a<4
theorem FU {i:ar} (h:du i=true):(i.1=1∧FT i.2.1∧b9 i.2.2.1=true)∨((i.1=2∨i.1=3)∧FT i.2.1∧FT i.2.2.1∧FT i.2.2.2.1)∨((i.1=4∨i.1=5)∧FT i.2.1∧FT i.2.2.1)∨
  (i.1=6∧0≤i.2.1∧i.2.1≤40)∨(i.1=7∧FT i.2.1∧0≤i.2.2.1∧i.2.2.1≤40)∨(i.1=8∧1≤i.2.1∧i.2.1≤20):=by
 obtain ⟨o,a,b,c,_⟩:=i;have h:gg o a b c=true:=h;unfold gg at h;by_cases e1:o=1
 . subst e1;simp [eT] at h;exact .inl ⟨rfl,h.1,h.2.1⟩
 by_cases e2:o=2
 . subst e2;simp [eT] at h;grind
 by_cases e3:o=3
 . subst e3;simp [eT] at h;grind
 by_cases e4:o=4
 . subst e4;simp [eT] at h;grind
 by_cases e5:o=5
 . subst e5;simp [eT] at h;grind
 by_cases e6:o=6
 . subst e6;simp [dL] at h;exact .inr (.inr (.inr (.inl ⟨rfl,h.1⟩)))
 by_cases e7:o=7
 . subst e7;simp [eT,dL] at h;grind
 by_cases e8:o=8
 . subst e8;simp [dL] at h;exact .inr (.inr (.inr (.inr (.inr ⟨rfl,h.1⟩))))
 . simp [e1,e2,e3,e4,e5,e6,e7,e8] at h
variable {c:ah} {i:ar} {m:List Int} {a v:Int} {pr:List ar}
theorem fF (hc:aU c.1 c.2.1=true) (ha:FT a):nth c.2.1 a.toNat=some (lC c a)∧b9 (lC c a)=true:=fk hc
theorem o5 {n:Int}:oG n=true↔0≤n∧n≤40:=eS
theorem H3 {pc:Int} (hc:aU c.1 c.2.1=true) (h:0≤pc∧pc≤40):aU pc c.2.1=true:=by
 grind [dt,aU,o5]
theorem M4 (hc:aU c.1 c.2.1=true) (h:c.1<40) (hv:b9 v=true):aU (M3 c a v).1 (M3 c a v).2.1=true:=by
 have:=o5.1 (dt hc).1;exact vW (pc:=c.1+1) (H3 hc (by omega)) hv
structure J5 (r:ah×YV) (m:List Int):Prop where
 kind:r.2.1=0∨r.2.1=1∨r.2.1=2
 pW:r.2.1≠2→aU r.1.1 r.1.2.1=true
 addr:0≤r.2.2.1→r.2.2.1<(m.length:Nat)∧b9 r.2.2.2.1=true
theorem M5:J5 (flt c) m:=⟨.inr (.inr rfl),λh=>absurd rfl h,by grind⟩
theorem vX (h:aU c.1 c.2.1=true):J5 (c,H2) m:=⟨.inl rfl,λ_=>h,by grind⟩
theorem S8 (hm:aH m=true) (k:Nat):b9 (m.getD k 0)=true:=rJ hm
theorem Zx (hi:du i=true) (hc:aU c.1 c.2.1=true) (h:c.1<40) (hm:aH m=true):J5 (J4 i c m) m:=by
 have hp:=o5.1 (dt hc).1;have hn:aU (c.1+1) c.2.1=true:=H3 hc (by omega);unfold J4;rcases FU hi with ⟨e,h1,h2⟩|⟨e,h1,h2,h3⟩|⟨e,h1,h2⟩|⟨e,h1⟩|⟨e,h1,h2⟩|⟨e,h1⟩
 . simp_all [vX,M4]
 . rw [aae,aaZ e]
   grind [vX,M4,M5]
 . rw [aae,aae,aaZ e]
   split
   . exact M5
   . rename_i hb
     split
     . grind [vX,M4,S8]
     . exact ⟨.inl rfl,λ_=>hn,λ_=>⟨by grind,(fF hc h1).2⟩⟩
 . simp_all [vX,H3]
 . rw [aae,aae,aae,aae,aaZ e]
   grind [vX,aU,H3]
 . rw [aae,aae,aae,aae,aae]
   exact ⟨.inr (.inl rfl),λ_=>hn,by grind⟩
theorem J6 (h:bm pr=true) {k:Nat} {i:ar} (hk:nth pr k=some i):du i=true∧k<40:=by
 unfold bm at h;grind
theorem OL (h:bm pr=true) (hc:aU c.1 c.2.1=true) (hm:aH m=true):J5 (Cg pr c m) m:=by
 have hp:=o5.1 (dt hc).1;unfold Cg;split
 . exact M5
 . rename_i i e
   obtain ⟨h1,h2⟩:=J6 h e;grind [Zx]
abbrev ex1 (r:ah×YV):Option ((ah×YV×Unit)×(Unit×XI)):=some ((r.1,r.2,()),((),(),(),()))
theorem agw:S9 ()=some ((H2,()),()):=rfl
theorem J_V {n:Int} (hc:aU c.1 c.2.1=true) (ha:FT a):(Bn (c.1+1) n c.1 a 0 (-1) 0 0 c.2.1).eval=ex1 (if b9 n=true then (M3 c a n,H2) else flt c):=by
 have hl:=(dt hc).2.1;dsimp only [Bn];by_cases hw:b9 n=true
 . rw [aaZ hw]
   refine zF ?_ (by rw [hw];rfl);refine zT ?_;exact zG rfl ((fF hc ha).1)
 . rw [aae hw]
   refine zT ?_ (by grind);exact zG rfl rfl
theorem arh {n:Int} (hc:aU c.1 c.2.1=true) (ha:FT a):(Bo (c.1+1) n c.1 a 0 (-1) 0 0 c.2.1).eval=ex1 (if b9 n=true then (M3 c a n,H2) else flt c):=by
 have hl:=(dt hc).2.1;dsimp only [Bo];by_cases hw:b9 n=true
 . rw [aaZ hw]
   refine zF ?_ (by rw [hw];rfl);refine zT ?_;exact zG rfl ((fF hc ha).1)
 . rw [aae hw]
   refine zT ?_ (by grind);exact zG rfl rfl
theorem yH (hc:aU c.1 c.2.1=true) (ha:FT a): -1000000≤lC c a∧lC c a≤1000000:=eS.1 (fF hc ha).2
theorem Zy (h:bm pr=true) (hc:aU c.1 c.2.1=true) (_:m.length≤1000):Ta ((pr,()),c,(m,()),())=ex1 (Cg pr c m):=by
 have hp:=o5.1 (dt hc).1;have hl:=(dt hc).2.1;have hw1:abs (c.1+1)=c.1+1:=by grind [bt]
 unfold Cg;show Out.eval (H4 _)=_;dsimp only [H4];by_cases cf:c.1≥(pr.length:Nat)
 . rw [show nth pr c.1.toNat=none from afA (by omega)]
   refine zT ?_ (aac cf);exact zG rfl rfl
 refine zF ?_ (adD cf);refine zT ?_ (aac hp.1);cases e:nth pr c.1.toNat with
 |none=>grind
 |some i=>
 refine zG ?_ rfl;refine zG ?_ agw;rw [hw1];show _=ex1 (J4 i c m);unfold J4;have hk:∀ {x y:Int},x≠y→(x==y)=false:=λh=>fj h;rcases FU (J6 h e).1 with ⟨e,h1,h2⟩|⟨e,h1,h2,h3⟩|⟨e,h1,h2⟩|⟨e,h1⟩|⟨e,h1,h2⟩|⟨e,h1⟩
 . rw [aaZ e]
   refine zT ?_ (dE e);refine zT ?_;exact zG rfl ((fF hc h1).1)
 . rw [aae,aaZ e]
   have r2:=yH hc h2;have r3:=yH hc h3;have hs:abs (lC c i.2.2.1 - lC c i.2.2.2.1)=lC c i.2.2.1 - lC c i.2.2.2.1:=by grind [bt]
   have ha:abs (lC c i.2.2.1+lC c i.2.2.2.1)=lC c i.2.2.1+lC c i.2.2.2.1:=by grind [bt]
   refine zF ?_ (hk (by omega));unfold agv;rcases e with e|e
   . rw [aae (show ¬ i.1=3 by omega)]
     refine zT ?_ (dE e);refine zT ?_;refine zG ?_ ((fF hc h2).1);refine zT ?_;refine zG ?_ ((fF hc h3).1);refine zF ?_ (hk (by omega));rw [ha];exact J_V hc h1
   . rw [aaZ e]
     refine zF ?_ (hk (by omega));refine zT ?_ (dE e);refine zT ?_;refine zG ?_ ((fF hc h2).1);refine zT ?_;refine zG ?_ ((fF hc h3).1);refine zT ?_ (dE e);refine zT ?_;refine zG ?_ ((fF hc h2).1);refine zT ?_;refine zG ?_ ((fF hc h3).1);rw [hs];exact arh hc h1
 . rw [aae,aae,aaZ e]
   have r2:=yH hc h2;refine zF ?_ (hk (by omega));refine zF ?_ (hk (by omega));refine zF ?_ (hk (by omega));have hg:∀ {k:Int},0≤k→k<(m.length:Nat)→nth m k.toNat=some (m.getD k.toNat 0):=by grind
   rcases e with e|e
   . refine zT ?_ (dE e)
     refine zT ?_;refine zG ?_ ((fF hc h2).1);by_cases q1:lC c i.2.2.1<0
     . rw [aaZ (.inl q1)]
       refine zF ?_ (jP q1);exact zG rfl rfl
     refine zT ?_ (gP q1);by_cases q2:(m.length:Nat)≤lC c i.2.2.1
     . rw [aaZ (.inr q2)]
       refine zT ?_ (aac q2);exact zG rfl rfl
     rw [aae,aaZ e];refine zF ?_ (adD q2);refine zT ?_ (dE e);refine zT ?_;refine zG ?_ (hg (by omega) (by omega));refine zT ?_;exact zG rfl ((fF hc h1).1)
   . refine zF ?_ (hk (by omega))
     refine zT ?_ (dE e);refine zT ?_;refine zG ?_ ((fF hc h2).1);by_cases q1:lC c i.2.2.1<0
     . rw [aaZ (.inl q1)]
       refine zF ?_ (jP q1);exact zG rfl rfl
     refine zT ?_ (gP q1);by_cases q2:(m.length:Nat)≤lC c i.2.2.1
     . rw [aaZ (.inr q2)]
       refine zT ?_ (aac q2);exact zG rfl rfl
     rw [aae,aae];refine zF ?_ (adD q2);refine zF ?_ (hk (by omega));refine zT ?_;exact zG rfl ((fF hc h1).1)
 . rw [aae,aae,aae,aaZ e]
   refine zF ?_ (hk (by omega));refine zF ?_ (hk (by omega));refine zF ?_ (hk (by omega));refine zF ?_ (hk (by omega));refine zF ?_ (hk (by omega));exact zT rfl (dE e)
 . rw [aae,aae,aae,aae,aaZ e]
   refine zF ?_ (hk (by omega));refine zF ?_ (hk (by omega));refine zF ?_ (hk (by omega));refine zF ?_ (hk (by omega));refine zF ?_ (hk (by omega));refine zF ?_ (hk (by omega));refine zT ?_ (dE e);refine zT ?_;refine zG ?_ ((fF hc h1).1);by_cases q:lC c i.2.1=0
   . rw [aaZ q];exact zT rfl (dE q)
   . rw [aae q];exact zF rfl (fj q)
 . rw [aae,aae,aae,aae,aae]
   refine zF ?_ (hk (by omega));refine zF ?_ (hk (by omega));refine zF ?_ (hk (by omega));refine zF ?_ (hk (by omega));refine zF ?_ (hk (by omega));refine zF ?_ (hk (by omega));exact zF rfl (hk (by omega))
end
section
variable {x tl:Int} {u u':UT} {p:af} {l l':List ET} {β:Type} {n m:Nat}
def Tb (p:af) (a v:Int) (u:UT):UT:=dJ p.1 (ly ((ct p).set a.toNat v)) u
def Fh (p:af) (r:ah×YV) (u:UT):UT:=if r.2.1=2 then nY p.1 (-1) u else if r.2.1=1 then HY p r.1 r.2.2.2.2.1 u
 else if 0≤r.2.2.1 then Tb p r.2.2.1 r.2.2.2.1 (B4 p.1 r.1 u) else B4 p.1 r.1 u
def yI (u:UT):UT:=match oZ u with
 |[]=>u
 |v::_=>match eO aA (bE u) v with
  |none=>u
  |some p=>match nth u.2.2.1 (Zz p).toNat with
   |none=>u
   |some pr=>Fh p (Cg pr (ug p) (ct p)) u
theorem Tc (h:aQ 0 tl u) {v:Int} {r:List Int} (e:oZ u=v::r):∃ p∈bE u,p.1=v∧cU p=1∧∃ pr,nth u.2.2.1 (Zz p).toNat=some pr∧bm pr=true∧yI u=Fh p (Cg pr (ug p) (ct p)) u:=by
 have hm:v∈aN (bE u):=h.HD.mem_iff.1 (show v∈oZ u by rw [e];simp);obtain ⟨p,hp,rfl,h1⟩:=Td.1 hm;have uY:=(h.loc p hp).pg;have hpo:=h.uY;unfold cH at hpo;simp only [aa6] at hpo;have hn:nth u.2.2.1 (Zz p).toNat=some (u.2.2.1[(Zz p).toNat]'(by omega)):=aa7 _;refine ⟨p,hp,rfl,h1,_,hn,adG.1 hpo.2 _ (ad9 _), ?_⟩;unfold yI;rw [e];simp only;rw [show eO aA (bE u) p.1=some p from ee h.df hp];simp only;rw [hn]
theorem QT {a:List Int} (h:aH a=true) {v:Int} (hv:b9 v=true) (k:Nat):aH (a.set k v)=true:=adG.2 λy hy=>by
 rcases List.mem_or_eq_of_mem_set hy with q|rfl
 . exact adG.1 h y q
 . exact hv
theorem agx (h:aQ 0 tl u) (hp:p∈bE u) (h1:cU p=1) {a v:Int} (ha:0≤a∧a<((ct p).length:Nat)) (hv:b9 v=true):aQ 0 tl (Tb p a v u):=by
 have hm:=(h.loc p hp).mem;refine Inv.mem h hp ?_ (by omega) ?_ ?_
 . rw [afC];exact ⟨hm.1,hm.2.1,QT hm.2.2 hv _⟩
 . rw [afC];omega
 . have ht:oV (bE u)≤64:=h.MQ
   rw [afC];show oV (bE u)+_≤_;omega
theorem agy {r:ah×YV} (h:aQ 0 tl u) (ht:tl≤u.2.1) (hp:p∈bE u) (h1:cU p=1) (hd:J5 r (ct p)):aQ 0 tl (Fh p r u):=by
 unfold Fh;by_cases k2:r.2.1=2
 . rw [aaZ k2];exact Cf h hp (by omega) (by rfl)
 rw [aae k2];have hc:=hd.pW k2;by_cases k1:r.2.1=1
 . rw [aaZ k1];exact amQ h ht hp h1 hc _
 rw [aae k1];have hA:=OG h hp hc;split
 . rename_i ha
   exact agx (p:=pX r.1 p) hA ((bd h.df hp).2 (.inl rfl)) h1 ⟨ha,(hd.addr ha).1⟩ (hd.addr ha).2
 . exact hA
theorem amT (h:aQ 0 tl u) (ht:tl≤u.2.1):aQ 0 tl (yI u):=by
 cases e:oZ u with
 |nil=>unfold yI;rw [e];exact h
 |cons v r=>
  obtain ⟨p,hp,rfl,h1,pr,_,eK,er⟩:=Tc h e;rw [er];exact agy h ht hp h1 (OL eK (h.loc p hp).pW (h.loc p hp).mem.2.2)
theorem amU (h:aQ 0 tl u):Gv (Te (u,())) (yI u) [] 110:=by
 have hL:bn=68719476736:=rfl;show Gv (Out.eval (H5 _)) _ _ _;dsimp only [H5];cases e:oZ u with
 |nil=>
  have e':u.2.2.2.2.2.2.2.1=[]:=e;refine Gv.step (ab (by rw [e'];rfl)) ?_;have er:yI u=u:=by unfold yI;rw [e]
  rw [er];exact Gv.ret (l':=[]) (by omega)
 |cons v r=>
  have e':u.2.2.2.2.2.2.2.1=v::r:=e;obtain ⟨p,hp,rfl,h1,pr,ZA,eK,er⟩:=Tc h e;rw [er];have OH:=h.loc p hp;have hcp:=dt OH.pW;have hm:=OH.mem;have hf:=OH.fds;have uY:=OH.pg;obtain ⟨i,hi,ra,ln⟩:=bH h.df hp;have dh:al u.2.2.2.1 p.1=(i:Int):=hi;have ue:nth u.2.2.2.1 i=some p:=ln;have ZB:i<u.2.2.2.1.length:=ra;have hd:=OL eK OH.pW hm.2.2;have hx:=Zy eK OH.pW (m:=ct p) (by omega);generalize Cg pr (ug p) (ct p)=r at hd hx;refine Gv.step (ae (by rw [e'];simp only [aay];exact fj (by omega))) ?_;refine Gv.step (ab (aac (by rw [e',aay];omega))) ?_;refine Gv.step (aa (by rw [e'];rfl)) ?_;rw [dh];simp only [adu];refine Gv.step (ab (aac)) ?_;refine Gv.step (aa ue) ?_;have amV:gS p.1 p.2.1 p.2.2.1 p.2.2.2.1 p.2.2.2.2.1.1 p.2.2.2.2.1.2.1 p.2.2.2.2.2.1 p.2.2.2.2.2.2.1 p.2.2.2.2.2.2.2.1 p.2.2.2.2.2.2.2.2.1=some (p.1,p.2.1,p.2.2.1,p.2.2.2.1,p.2.2.2.2.1.1,p.2.2.2.2.1.2.1,p.2.2.2.2.2.1,p.2.2.2.2.2.2.1,p.2.2.2.2.2.2.2.1,p.2.2.2.2.2.2.2.2.1):=aaZ (by
   have a1:p.2.2.2.2.1.2.1.length=4:=hcp.2.1;have a2:p.2.2.2.2.2.1.length≤12:=hm.1;have a3:p.2.2.2.2.2.2.1.length=4:=hf;omega)
  refine Gv.step (aa amV) ?_;refine Gv.step (ab (aac uY)) ?_;refine Gv.step (aa ZA) ?_;refine Gv.step (ab (aac (by
   have a1:p.2.2.2.2.1.2.1.length=4:=hcp.2.1;simp only [adC];omega))) ?_
  refine Gv.step (aa hx) ?_;rw [jT ln];dsimp only;unfold Fh;by_cases k2:r.2.1=2
  . rw [aaZ k2]
    refine Gv.step (ab (dE k2)) ?_;obtain ⟨l1,e1,MP⟩:=HX (code:= -1) h hp (by omega) (by rfl) (l:=[]) (by simp);exact Gv.step (aa e1) (Gv.ret (l':=l1) (by omega))
  rw [aae k2];refine Gv.step (ae (fj k2)) ?_;have hc:=hd.pW k2;by_cases k1:r.2.1=1
  . rw [aaZ k1]
    refine Gv.step (ab (dE k1)) ?_;exact Gv.hand (amS h hp h1 hc r.2.2.2.2.1 (l:=[]) (by simp)) (by omega)
  rw [aae k1];refine Gv.step (ae (fj k1)) ?_;have hcv:=amW h.df hp hc (l:=[]) (by simp);refine Gv.step (aa hcv) ?_;by_cases ha:0≤r.2.2.1
  . rw [aaZ ha]
    refine Gv.step (ab (aac ha)) ?_;have uc:bZ aA (bY u.2.2.2.1 p.1 (pX r.1)):=eA h.df λ_ _ _=>rfl;have MM:pX r.1 p∈bY u.2.2.2.1 p.1 (pX r.1):=(bd h.df hp).2 (.inl rfl);obtain ⟨nx,tk,pg,ps,os,pi,fi,rd,ou,_⟩:=u;have d1:=fJ (l:=[]++[(1,p.1,r.1.1,0,r.1.2.1,())]) (ZC (nx:=nx) (tk:=tk) (pg:=pg) (os:=os) (pi:=pi) (fi:=fi) (rd:=rd) (ou:=ou) (b:=r.2.2.1) (c:=r.2.2.2.1) (l:=[]) uc MM ⟨ha,(hd.addr ha).1⟩ (hd.addr ha).2) (by rw [bC];simp);refine Gv.step (aa rfl) ?_;refine Gv.step (aa d1) ?_;exact Gv.ret (v:=Tb p r.2.2.1 r.2.2.2.1 (B4 p.1 r.1 (nx,tk,pg,ps,os,pi,fi,rd,ou,()))) (l':=[]++[(1,p.1,r.1.1,0,r.1.2.1,())]++[eE 2 p.1 r.2.2.1 r.2.2.2.1]) (by rw [bC,bC];simp)
  . rw [aae ha]
    refine Gv.step (ae (adD ha)) ?_;exact Gv.ret (l':=[]++[(1,p.1,r.1.1,0,r.1.2.1,())]) (by rw [bC];simp)
end
section
variable {x tl:Int} {u u':UT} {p:af} {l l':List ET} {β:Type} {n m:Nat}
def uZ (tk:Int) (p:af):Bool:=cU p==2&&decide (mc p≤tk)
def jU (tk:Int) (ps:List af):List Int:=(ps.filter (uZ tk)).map aA
def M6 (u:UT):UT:=if 2≤(oZ u).length then eJ (λrd=>rd.erase (rd.headD 0)++[rd.headD 0]) u else u
def Ch (u:UT):UT:=(u.1,u.2.1+1,u.2.2)
def upU (u:UT):UT:=gT (jU u.2.1 (bE u)) u
def vY (u:UT):UT:=if 1000000≤u.2.1 then u else upU (M6 (Ch u))
theorem Ci {tk:Int}:uZ tk p=true↔cU p=2∧mc p≤tk:=by grind [uZ]
theorem re (h:aQ x tl u) (tk:Int):m4 (jU tk (bE u)) u:=by
 refine ⟨(show ((bE u).map aA).Nodup from h.df.nodup).sublist (List.filter_sublist.map aA),λv hv=> ?_⟩;obtain ⟨p,hp,rfl⟩:=List.mem_map.1 hv;have MU:=List.mem_filter.1 hp;have:=(Ci.1 MU.2).1;exact ⟨p,MU.1,rfl,by omega,by omega⟩
theorem vZ:∀ (vs:List Int) (u:UT),(gT vs u).2.1=u.2.1
 |[],_=>rfl
 |v::vs,u=>vZ vs (iU v u)
theorem ux {q:af}:∀ (vs:List Int) (u:UT),q∈bE (gT vs u)→cU q=1∨(q∈bE u∧q.1 ∉ vs)
 |[],_,h=> .inr ⟨h,by simp⟩
 |v::vs,u,h=>by
  rcases ux vs (iU v u) h with h1|⟨h1,h2⟩
  . exact .inl h1
  . obtain ⟨z,hz,e⟩:=gl.1 (show q∈bY (bE u) v (nQ 1 0) from h1)
    by_cases k:aA z=v
    . rw [aaZ k] at e;subst e;exact .inl rfl
    . rw [aae k] at e;subst e;exact .inr ⟨hz,by rw [adM];exact λh=>h.elim (λe=>k e) h2⟩
theorem adJ (h:aQ x tl u):aQ x tl (M6 u):=by
 unfold M6;split
 . rename_i h2
   obtain ⟨v,r,e⟩:∃ v r,oZ u=v::r:=by
    cases e:oZ u with
    |nil=>grind
    |cons v r=>grind
   refine Inv.perm h ?_;show ((oZ u).erase ((oZ u).headD 0)++[(oZ u).headD 0]).Perm (oZ u);simp_all
 . exact h
theorem Tf (h:aQ x tl u) (hl:¬ 1000000≤u.2.1):aQ x tl (Ch u):=Inv.tick h (by omega)
theorem ark (h:aQ x tl u):aQ x u.2.1 (upU u):=by
 refine Inv.amX (yJ h (re h u.2.1)) λq hq h2=> ?_;rcases ux _ _ hq with e|⟨e1,e2⟩
 . omega
 . refine Classical.byContradiction λhn=>e2 (List.mem_map.2 ⟨q,by grind [Ci],rfl⟩)
theorem agz (h:aQ 0 u.2.1 u):aQ 0 (vY u).2.1 (vY u):=by
 unfold vY;split
 . exact h
 . rename_i hl
   have:=ark (adJ (Tf h hl));simp_all [upU,M6,Ch,vZ]
theorem arl (h:aQ x tl u) (hl:l.length≤99900):Gv (Bp 0 0 u.1 u.2.1 [] [] [] [] [] [] [] [] u.2.2.1 u.2.2.2.1 u.2.2.2.2.1 u.2.2.2.2.2.1 u.2.2.2.2.2.2.1 u.2.2.2.2.2.2.2.1 u.2.2.2.2.2.2.2.2.1 l).eval (upU u) l 12:=by
 obtain ⟨nx,tk,pg,ps,os,pi,fi,rd,ou,_⟩:=u;have hL:bn=68719476736:=rfl;have hB:cj=9223372036854775807:=rfl;have QO:ps.length≤6:=h.np;have h1:=foldl_loop (f:=wa) (λ(acc:List Int) i=>acc.length≤i) (λacc (p:af)=>if uZ tk p=true then acc++[p.1] else acc) ps
  (λacc i=>(((i:Int),()),((0,0,()),(nx,tk,()),acc,([]:List (List ar)),([]:List af),([]:List ai),([]:List ah),([]:List ah),([]:List Int),([]:List Int),([]:List ET),pg,ps,os,pi,fi,rd,ou,l,())))
  (λacc=>((),((0,0,()),(nx,tk,()),acc,([]:List (List ar)),([]:List af),([]:List ai),([]:List ah),([]:List ah),([]:List Int),([]:List Int),([]:List ET),pg,ps,os,pi,fi,rd,ou,l,())))
  (λi hi acc ha=> ?_) (λacc _=> ?_) (λi hi acc ha=> ?_) (by omega) [] (adK 0)
 . have agA:∀ (a:List af) (acc:List Int),a.foldl (λacc (p:af)=>if uZ tk p=true then acc++[p.1] else acc) acc=acc++jU tk a:=by
    intro a
    induction a with
    |nil=>grind [jU]
    |cons p r ih=>
     intro acc;rw [ae5,ih];unfold jU;rw [akV];by_cases q:uZ tk p=true
     . simp_all [aA]
     grind
   rw [agA,ad0] at h1;have ha:=re h tk;have hlen:(jU tk ps).length≤6:=by
    grind [jU,List.length_map,Nat.le_trans,List.length_filter_le]
   have QR:m4 (jU tk ps) (nx,tk,pg,ps,os,pi,fi,rd,ou,()):=ha;unfold upU;show Gv _ (gT (jU tk ps) (nx,tk,pg,ps,os,pi,fi,rd,ou,())) _ _;generalize jU tk ps=vs at h1 QR hlen;have h2:=foldl_loop (f:=Bq) (λ(d:UT×List ET) i=>aQ x tl d.1∧m4 (vs.drop i) d.1∧d.2.length=l.length+2*i) (λ(d:UT×List ET) v=>(iU v d.1,Al v d.2)) vs
    (λd i=>(((i:Int),()),((0,0,()),(d.1.1,d.1.2.1,()),vs,([]:List (List ar)),([]:List af),([]:List ai),([]:List ah),([]:List ah),([]:List Int),([]:List Int),([]:List ET),d.1.2.2.1,d.1.2.2.2.1,d.1.2.2.2.2.1,d.1.2.2.2.2.2.1,d.1.2.2.2.2.2.2.1,d.1.2.2.2.2.2.2.2.1,d.1.2.2.2.2.2.2.2.2.1,d.2,())))
    (λd=>((),((0,0,()),(d.1.1,d.1.2.1,()),([]:List (List ar)),([]:List af),([]:List ai),([]:List ah),([]:List ah),([]:List Int),([]:List Int),([]:List ET),d.1.2.2.1,d.1.2.2.2.1,d.1.2.2.2.2.1,d.1.2.2.2.2.2.1,d.1.2.2.2.2.2.2.1,d.1.2.2.2.2.2.2.2.1,d.1.2.2.2.2.2.2.2.2.1,d.2,())))
    (λi hi d hd=> ?_) (λd _=> ?_) (λi hi d hd=> ?_) (by omega) ((nx,tk,pg,ps,os,pi,fi,rd,ou,()),l) ⟨h,QR,rfl⟩
   . have Tg:∀ (vs:List Int) (d:UT×List ET),vs.foldl (λ(d:UT×List ET) v=>(iU v d.1,Al v d.2)) d=(gT vs d.1,yK vs d.2):=by
      intro vs
      induction vs with
      |nil=>intro d;rfl
      |cons v r ih=>intro d;rw [ae5,ih];rfl
     rw [Tg] at h2;dsimp only [Bp];refine Gv.step (aa h1) ?_;refine Gv.step (aa h2) ?_;exact Gv.ret (v:=gT vs (nx,tk,pg,ps,os,pi,fi,rd,ou,())) (l':=yK vs l) (by rw [u0];omega)
   . obtain ⟨hI,hA,FV⟩:=hd
     have hn:nth vs i=some vs[i]:=by grind
     have hw:abs ((i:Int)+1)=((i+1:Nat):Int):=aq (by omega);rw [aeC hi] at hA;obtain ⟨q,hq,YW,q1,q6⟩:=hA.2 vs[i] List.mem_cons_self;have hv:=H6 hI hq q1 (l:=d.2);simp_all [Out.eval,Bq,zT]
   . simp_all [Out.eval,Bq,zF]
   . obtain ⟨hI,hA,FV⟩:=hd
     rw [aeC hi] at hA;have:=hA.tail hI;grind
 . have hn:nth ps i=some ps[i]:=by grind
   have hw:abs ((i:Int)+1)=((i+1:Nat):Int):=aq (by omega);have hll:acc.length+1≤bn:=by omega
   generalize ps[i]=p at hn;have hi0:(i:Int)<(ps.length:Int):=by omega
   show Out.eval (wa _)=_;dsimp only [wa,uZ,cU,mc];simp only [adu,hw];by_cases e2:p.2.2.1=2
   . by_cases e3:p.2.2.2.2.2.2.2.1≤tk
     . simp_all [Out.eval]
     . simp [Out.eval,cond_eq_ite,hi0,hn,e2,e3]
   grind [Out.eval]
 . simp_all [Out.eval,wa,zF]
 grind
theorem agC (h:aQ 0 u.2.1 u):Gv (Th (u,())) (vY u) [] 20:=by
 have B5:=h.B5;show Gv (Out.eval (H7 _)) _ _ _;dsimp only [H7];unfold vY;by_cases hl:1000000≤u.2.1
 . simp_all [Gv.step,ab,decide_eq_true,Gv.ret]
 rw [aae hl];refine Gv.step (ae (adD hl)) ?_;have hN:=Tf h hl;have S6:=uw hN;have hup:= @arl 0 u.2.1 (M6 (Ch u));have hR:=adJ hN;unfold M6 at hup hR ⊢;obtain ⟨nx,tk,pg,ps,os,pi,fi,rd,ou,_⟩:=u;have d0:=fJ (l:=[]) (ZD (nx:=nx) (tk:=tk) (pg:=pg) (ps:=ps) (os:=os) (pi:=pi) (fi:=fi) (rd:=rd) (ou:=ou) (k:=0) (b:=0) (c:=0) (l:=[]) B5.1 (Int.not_le.1 hl)) (by simp);refine Gv.step (aa rfl) ?_;refine Gv.step (aa d0) ?_;by_cases h2:2≤rd.length
 . rw [aaZ (show 2≤(oZ (Ch (nx,tk,pg,ps,os,pi,fi,rd,ou,()))).length from h2)] at hup hR ⊢
   obtain ⟨v,w,r,rfl⟩:∃ v w r,rd=v::w::r:=by
    match rd,h2 with
    |v::w::r,_=>grind
   have S6:(v::w::r).length≤6:=S6;have he:(v::w::r).erase v=w::r:=List.erase_cons_head v _;have d1:=fJ (l:=[]++[eE 24 0 0 0]) (Bm (nx:=nx) (tk:=tk+1) (pg:=pg) (ps:=ps) (os:=os) (pi:=pi) (fi:=fi) (ou:=ou) (b:=0) (c:=0) (l:=[]) (show v∈v::w::r by simp) (by omega)) (by grind);have d2:=fJ (l:=[]++[eE 24 0 0 0]++[eE 22 v 0 0]) (Bc (nx:=nx) (tk:=tk+1) (pg:=pg) (ps:=ps) (os:=os) (pi:=pi) (fi:=fi) (ou:=ou) (k:=v) (b:=0) (c:=0) (l:=[]) (rd:=(v::w::r).erase v) (by grind)) (by simp_all);refine Gv.step (ab (by grind)) ?_;refine Gv.step (ab (by grind)) ?_;refine Gv.step (aa (show nth (v::w::r) (Int.toNat 0)=some v from rfl)) ?_;refine Gv.step (aa rfl) ?_;refine Gv.step (aa d1) ?_;refine Gv.step (aa rfl) ?_;refine Gv.step (aa d2) ?_;exact (hup hR (l:=[]++[eE 24 0 0 0]++[eE 22 v 0 0]++[eE 21 v 0 0]) (by rw [bC,bC,bC];simp)).from (by simp_all)
 . rw [aae (show ¬ 2≤(oZ (Ch (nx,tk,pg,ps,os,pi,fi,rd,ou,()))).length from h2)] at hup hR ⊢
   refine Gv.step (ae (by grind)) ?_;exact (hup hR (l:=[]++[eE 24 0 0 0]) (by rw [bC];simp)).from (by grind)
end
section
variable {x tl:Int} {u u' w:UT} {p:af} {l l':List ET} {β:Type} {n m:Nat} {v code:Int}
structure dF (u u':UT):Prop where
 tick:u'.2.1=u.2.1
 next:u.1≤u'.1
 pg:u'.2.2.1=u.2.2.1
 out:Ca u <+: Ca u'
 pid:∀ q∈bE u',(∃ p∈bE u,p.1=q.1)∨u.1≤q.1
theorem dF.refl:dF u u:=⟨rfl,afK _,rfl,ag7,λq hq=> .inl ⟨q,hq,rfl⟩⟩
theorem dF.trans (h:dF u w) (k:dF w u'):dF u u':=⟨k.tick.trans h.tick,Int.le_trans h.next k.next,k.pg.trans h.pg,h.out.trans k.out,λq hq=>by
 rcases k.pid q hq with ⟨p,hp,e⟩|e
 . rw [← e];exact h.pid p hp
 . exact .inr (Int.le_trans h.next e)⟩
theorem dF.procs {f:List af→List af} (h:dF u w) (hf:∀ a,∀ q∈f a,∃ p∈a,p.1=q.1):dF u (gf f w):=h.trans ⟨rfl,afK _,rfl,ag7,λq hq=> .inl (hf _ q hq)⟩
theorem dF.set {f:af→af} (h:dF u w) (hf:∀ q,(f q).1=q.1):dF u (dJ v f w):=h.procs λa q hq=>by
 obtain ⟨z,hz,e⟩:=gl.1 hq;refine ⟨z,hz, ?_⟩;rw [← e];split
 . exact (hf z).symm
 . rfl
theorem dF.rm (h:dF u w):dF u (gf (λps=>uN ps v) w):=h.procs λ_ q hq=>⟨q,(jy.1 hq).1,rfl⟩
theorem dF.opens {f:List ai→List ai} (h:dF u w):dF u (bu f w):=h.trans ⟨rfl,afK _,rfl,ag7,λq hq=> .inl ⟨q,hq,rfl⟩⟩
theorem dF.cA {f:List ah→List ah} (h:dF u w):dF u (gR f w):=h.trans ⟨rfl,afK _,rfl,ag7,λq hq=> .inl ⟨q,hq,rfl⟩⟩
theorem dF.files {f:List ah→List ah} (h:dF u w):dF u (lx f w):=h.trans ⟨rfl,afK _,rfl,ag7,λq hq=> .inl ⟨q,hq,rfl⟩⟩
theorem dF.ready {f:List Int→List Int} (h:dF u w):dF u (eJ f w):=h.trans ⟨rfl,afK _,rfl,ag7,λq hq=> .inl ⟨q,hq,rfl⟩⟩
theorem dF.outs (h:dF u w):dF u (SV v w):=h.trans ⟨rfl,afK _,rfl,List.prefix_append _ _,λq hq=> .inl ⟨q,hq,rfl⟩⟩
theorem dF.spawn (h:dF u w):dF u (oE p w):=h.trans ⟨rfl,by show w.1≤w.1+1;omega,rfl,ag7,λq hq=>by
 rcases adE.1 hq with e|e
 . exact .inl ⟨q,e,rfl⟩
 . rw [aey.1 e];exact .inr (afK _)⟩
theorem dF.uW (h:dF u w):dF u (iU v w):=(h.set (f:=nQ 1 0) λ_=>rfl).ready
theorem dF.block {s t:Int} (h:dF u w):dF u (rF v s t w):=(h.set (f:=nQ s t) λ_=>rfl).ready
theorem dF.pW {c:ah} (h:dF u w):dF u (B4 v c w):=h.set (f:=pX c) λ_=>rfl
theorem dF.told {c:ah} {y:Int} (h:dF u w):dF u (cG v c y w):=h.pW
theorem dF.Ti {c:ah} {y z:Int} (h:dF u w):dF u (iQ v c y z w):=h.pW
theorem dF.fold {α:Type} {f:UT→α→UT} (hf:∀ w y,dF u w→dF u (f w y)):∀ {a:List α} {w:UT},dF u w→dF u (a.foldl f w)
 |[],_,h=>h
 |y::a,w,h=>dF.fold hf (a:=a) (hf w y h)
theorem dF.wb {vs:List Int} (h:dF u w):dF u (gT vs w):=dF.fold (f:=λu v=>iU v u) (λ_ _ h=>h.uW) h
theorem dF.m2 {t:Int} (h:dF u w):dF u (fV t w):=h.wb
theorem dF.ite {c:Prop} [Decidable c] {a b:UT} (h:dF u a) (k:dF u b):dF u (if c then a else b):=by split<;>assumption
theorem dF.close {k:Nat} (h:dF u w):dF u (kS v k w):=by unfold kS;(repeat' first|assumption|(intro _;rfl)|apply dF.m2|apply dF.set|apply dF.opens|apply dF.cA|apply dF.ite|split)
theorem dF.vV {k:Nat} (h:dF u w):dF u (cq v k w):=dF.fold (f:=ke v) (λw j h=>by
 unfold ke;split
 . exact h
 . split
   . exact h
   . exact h.close) h
theorem dF.kids {ks:List af} (h:dF u w):dF u (gE v ks w):=dF.fold (f:=qe v) (λw j h=>by unfold qe;(repeat' first|assumption|(intro _;rfl)|apply dF.set|apply dF.rm|apply dF.ite)) h
theorem dF.last (h:dF u w):dF u (Cc v code w):=by unfold Cc;(repeat' first|assumption|(intro _;rfl)|apply dF.uW|apply dF.set|apply dF.rm|apply dF.ready|apply dF.ite|split)
theorem dF.drop (h:dF u w):dF u (mB v w):=h.set (f:=ly []) λ_=>rfl
theorem dF.ends (h:dF u w):dF u (iD v code w):=by
 unfold iD;exact h.vV.drop.kids.last
theorem dF.exit (h:dF u w):dF u (nY v code w):=by
 unfold nY;split
 . exact h
 . split
   . exact h.ends
   . exact h.uW.ends
theorem dF.sys {c:ah} {k:Int}:dF u (HY p c k u):=by
 unfold HY BU BX B0 lv rG kj B9 uS mZ uT qd lA lz yB MW dup2 uR Ce qc B1 yE
 (repeat' first|assumption|exact dF.refl|(intro _;rfl)|apply dF.told|apply dF.Ti|apply dF.pW|apply dF.block|apply dF.uW|apply dF.m2|apply dF.set|apply dF.rm|apply dF.opens|apply dF.cA|apply dF.files|apply dF.ready|apply dF.outs|apply dF.spawn|apply dF.ite|apply dF.exit|apply dF.close|split)
theorem dF.Fh {r:ah×YV}:dF u (Fh p r u):=by
 unfold Dm.Fh;split
 . exact dF.refl.exit
 split
 . exact dF.sys
 split
 . exact dF.refl.pW.set λ_=>rfl
 . exact dF.refl.pW
theorem dF.run:dF u (yI u):=by
 unfold yI;split
 . exact dF.refl
 split
 . exact dF.refl
 split
 . exact dF.refl
 . exact dF.Fh
abbrev gU (u:UT):Prop:=aQ 0 u.2.1 u
theorem yL:cw u.1 u.2.1 u.2.2.1 u.2.2.2.1 u.2.2.2.2.1 u.2.2.2.2.2.1 u.2.2.2.2.2.2.1 u.2.2.2.2.2.2.2.1 u.2.2.2.2.2.2.2.2.1=true↔gU u:=M7
theorem amY (h:gU u):gU (yI u):=by
 have:=amT h (afK _);unfold gU;rw [(dF.run (u:=u)).tick];exact this
theorem agD (h:gU u):gU (vY u):=agz h
end
def o6 (x:ar):bs:=ay x.1++(ay x.2.1++(ay (if x.1=1 then il x.2.2.1 else x.2.2.1)++ay x.2.2.2.1))
def fa {α:Type} (f:α→bs) (a:List α):bs:=ay ((a.length:Nat):Int)++a.flatMap f
def jL (l:List ar):bs:=fa o6 l
def gh (more:Int) (l:List Int):bs:=fa (λn=>ay (abs (n+more))) l
def jM (p:af):bs:=ay p.1++(ay p.2.1++(ay p.2.2.1++(ay p.2.2.2.1++(ay p.2.2.2.2.1.1++(cQ p.2.2.2.2.1.2.1++(cQ p.2.2.2.2.2.1++(gh 1 p.2.2.2.2.2.2.1++(ay p.2.2.2.2.2.2.2.1++cQ [p.2.2.2.2.2.2.2.2.1]))))))))
def kx (o:ai):bs:=ay o.1++(ay o.2.1++(ay o.2.2.1++(ay o.2.2.2.1++ay o.2.2.2.2.1)))
def gV (x:cB):bs:=ay x.1++cQ x.2.1
def lr (next tick:Int) (dO:List (List ar)) (ps:List af) (os:List ai) (cA:List fq) (files:List cB) (rd out:List Int):bs:=
 117::(ay next++(ay tick++(fa jL dO++(fa jM ps++(fa kx os++(fa gV cA++(fa gV files++(gh 0 rd++cQ out))))))))
theorem yM {α:Type} {f:α→bs} {m:Nat} {a:List α} (h:∀ x∈a,(f x).length≤m):(fa f a).length≤7+m*a.length:=by
 have h1:=dR f m a h;grind [bQ,fa,List.length_append]
theorem Cj (x:ar):(o6 x).length≤28:=by
 grind [bQ,il,o6,List.length_append]
theorem QU {l:List ar} (h:l.length≤40):(jL l).length≤1127:=by
 have:=yM (f:=o6) (m:=28) (a:=l) λx _=>Cj x;grind [jL]
theorem jz (l:List Int):(cQ l).length≤7+7*l.length:=by
 have:=yM (f:=λn=>ay (il n)) (m:=7) (a:=l) λx _=>bQ _;exact this
theorem yN (more:Int) (l:List Int):(gh more l).length≤7+7*l.length:=yM λ_ _=>bQ _
theorem QV {p:af} (h1:p.2.2.2.2.1.2.1.length=4) (h2:p.2.2.2.2.2.1.length≤12) (h3:p.2.2.2.2.2.2.1.length=4):(jM p).length≤300:=by
 have v1:=bQ p.1;have v2:=bQ p.2.1;have v3:=bQ p.2.2.1;have v4:=bQ p.2.2.2.1;have v5:=bQ p.2.2.2.2.1.1;have v6:=jz p.2.2.2.2.1.2.1;have v7:=jz p.2.2.2.2.2.1;have v8:=yN 1 p.2.2.2.2.2.2.1;have v9:=bQ p.2.2.2.2.2.2.2.1;have v10:=jz [p.2.2.2.2.2.2.2.2.1];simp only [aay,adC] at v10;unfold jM;simp only [aaY];omega
theorem QW (o:ai):(kx o).length≤35:=by
 grind [bQ,kx,List.length_append]
theorem FW {x:cB} (h:x.2.1.length≤8):(gV x).length≤70:=by
 grind [bQ,jz,gV,List.length_append]
def kT {α:Type} (p:bs→Option (α×Nat)) (t:α→bs) (I:α→Prop):Prop:=∀ s a k,p s=some (a,k)→k≤s.length∧s.take k=t a∧I a
def wc (s:bs):Option (Int×Nat):=match sY s with
 |none=>none
 |some i=>some (((dN (s.take (i+1)):Nat):Int),i+1)
def fh {α β:Type} (p:bs→Option (α×Nat)) (q:bs→Option (β×Nat)) (s:bs):Option ((α×β)×Nat):=match p s with
 |none=>none
 |some (a,k)=>match q (s.drop k) with
  |none=>none
  |some (b,j)=>some ((a,b),k+j)
def jV {α:Type} (p:bs→Option (α×Nat)):Nat→bs→Option (List α×Nat)
 |0,_=>some ([],0)
 |n+1,s=>match p s with
  |none=>none
  |some (a,k)=>match jV p n (s.drop k) with
   |none=>none
   |some (l,j)=>some (a::l,k+j)
def uj (we:Nat) (s:bs):Option (Nat×Nat):=match sY s with
 |none=>none
 |some i=>if we<dN (s.take (i+1)) then none else some (dN (s.take (i+1)),i+1)
def dm {α:Type} (we:Nat) (p:bs→Option (α×Nat)) (s:bs):Option (List α×Nat):=match uj we s with
 |none=>none
 |some (n,k)=>match jV p n (s.drop k) with
  |none=>none
  |some (l,j)=>some (l,k+j)
def dS {α β:Type} (f:α→Option β) (p:bs→Option (α×Nat)) (s:bs):Option (β×Nat):=match p s with
 |none=>none
 |some (a,k)=>match f a with
  |none=>none
  |some b=>some (b,k)
def b7 (x:Int):Prop:=0≤x∧x≤562949953421311
theorem Ck:kT wc ay b7:=λs a k h=>by
 unfold wc at h;split at h
 . grind
 . rename_i i hi
   simp only [adI,ad3] at h;obtain ⟨rfl,rfl⟩:=h;have h2:=qj hi;grind [Br,jW,wg,b7]
theorem eP {α β:Type} {p:bs→Option (α×Nat)} {q:bs→Option (β×Nat)} {t:α→bs} {u:β→bs} {I:α→Prop} {J:β→Prop} (hp:kT p t I) (hq:kT q u J):
  kT (fh p q) (λx=>t x.1++u x.2) (λx=>I x.1∧J x.2):=λs x k h=>by
 unfold fh at h;split at h
 . grind
 . rename_i a i ha
   split at h
   . grind
   . rename_i b j hb
     simp only [adI,ad3] at h;obtain ⟨rfl,rfl⟩:=h;have h1:=hp _ _ _ ha;have h2:=hq _ _ _ hb;grind
theorem Cl {α:Type} {p:bs→Option (α×Nat)} {t:α→bs} {I:α→Prop} (hp:kT p t I):∀ {n:Nat} {s:bs} {l:List α} {k:Nat},jV p n s=some (l,k)→
  k≤s.length∧s.take k=l.flatMap t∧l.length=n∧∀ x∈l,I x
 |0,s,l,k,h=>by simp only [jV,adI,ad3] at h;grind
 |n+1,s,l,k,h=>by
  simp only [jV] at h;split at h
  . grind
  . rename_i a i ha
    split at h
    . grind
    . rename_i l' j hr
      simp only [adI,ad3] at h;obtain ⟨rfl,rfl⟩:=h;have h1:=hp _ _ _ ha;have h2:=Cl hp hr;grind
theorem OM {m:Nat} {s:bs} {n k:Nat} (h:uj m s=some (n,k)):n≤m∧n<562949953421312∧k≤s.length∧s.take k=ay ((n:Nat):Int):=by
 unfold uj at h;split at h
 . grind
 . rename_i i hi
   split at h
   . grind
   . simp only [adI,ad3] at h
     obtain ⟨rfl,rfl⟩:=h;have h2:=qj hi;grind [Br,jW,wg]
theorem ky {α:Type} {m:Nat} {p:bs→Option (α×Nat)} {t:α→bs} {I:α→Prop} (hp:kT p t I):kT (dm m p) (fa t) (λl=>l.length≤m∧∀ x∈l,I x):=λs l k h=>by
 unfold dm at h;split at h
 . grind
 . rename_i n i hn
   split at h
   . grind
   . rename_i l' j hr
     simp only [adI,ad3] at h;obtain ⟨rfl,rfl⟩:=h;have h1:=OM hn;have h2:=Cl hp hr;grind [List.length_drop,fa]
theorem ji {α β:Type} {f:α→Option β} {p:bs→Option (α×Nat)} {t:α→bs} {t':β→bs} {I:α→Prop} {J:β→Prop} (hp:kT p t I) (hf:∀ a b,I a→f a=some b→t a=t' b∧J b):kT (dS f p) t' J:=λs b k h=>by
 unfold dS at h;split at h
 . grind
 . rename_i a i ha
   split at h
   . grind
   . rename_i b' hb
     simp only [adI,ad3] at h;obtain ⟨rfl,rfl⟩:=h;have h1:=hp _ _ _ ha;grind
theorem nZ (n:Nat):kT (cW n) (λl=>l.flatMap ay) (λl=>l.length=n∧∀ x∈l,b7 x):=λs l k h=>by
 have h1:=fX h;exact ⟨h1.1,h1.2.2.2,h1.2.1,h1.2.2.1⟩
theorem rK (m:Nat):kT (gm m) (fa ay) (λl=>l.length≤m∧∀ x∈l,b7 x):=λs l k h=>by
 have h1:=gW h;exact ⟨h1.1,h1.2.2.2,h1.2.1,h1.2.2.1⟩
def uy (n:Int):Int:=abs (n - 1)
def ZE:List Int→Option ar
 |[a,b,c,d]=>some (Tj a b c d)
 |_=>none
def J7 (l:List ar):Option (List ar):=if bm l=true then some l else none
def wh:bs→Option (List ar×Nat):=dS J7 (dm 40 (dS ZE (cW 4)))
def m5 (m:Nat):bs→Option (List Int×Nat):=dS (λl=>some (l.map dA)) (gm m)
def Cn (m:Nat):bs→Option (List Int×Nat):=dS (λl=>some (l.map uy)) (gm m)
def agE:List Int→Option Int
 |[x]=>some x
 |_=>none
def ON:bs→Option (Int×Nat):=dS agE (m5 1)
def Tk:List Int×List Int×List Int×List Int×Int×Int→Option af
 |([a,b,c,d,e],iY,mem,fds,u,x)=>some (a,(b,(c,(d,((e,(iY,())),(mem,(fds,(u,(x,())))))))))
 |_=>none
def wi:bs→Option (af×Nat):=dS Tk (fh (cW 5) (fh (m5 4) (fh (m5 12) (fh (Cn 4) (fh wc ON)))))
def adL:List Int→Option ai
 |[a,b,c,d,e]=>some (a,(b,(c,(d,(e,())))))
 |_=>none
def wj:bs→Option (ai×Nat):=dS adL (cW 5)
def amZ (x:Int×List Int):Option cB:=some (x.1,(x.2,()))
def m6 (m:Nat):bs→Option (cB×Nat):=dS amZ (fh wc (m5 m))
abbrev OO:=(List Int×List (List ar)×List af×List ai×List fq×List cB×List Int×List Int)
def jX:bs→Option (OO×Nat):=fh (cW 2) (fh (dm 4 wh) (fh (dm 6 wi) (fh (dm 8 wj) (fh (dm 3 (m6 4)) (fh (dm 6 (m6 8)) (fh (gm 6) (m5 60)))))))
theorem QX {l:List Int} (h:∀ x∈l,b7 x):fa ay l=cQ (l.map dA):=by
 have:=Tl h;grind [cQ,fa,List.length_map]
theorem Tm {x:Int} (h:b7 x):abs (x+0)=x:=by
 unfold b7 at h;rw [Int.add_zero];grind [bt]
theorem FX {l:List Int} (h:∀ x∈l,b7 x):fa ay l=gh 1 (l.map uy):=by
 unfold gh fa;rw [afh];congr 1
 induction l with
 |nil=>rfl
 |cons x r ih=>
  have hx:=h x (by simp);grind [b7,uy,bt]
theorem yO {l:List Int} (h:∀ x∈l,b7 x):fa ay l=gh 0 l:=by
 unfold gh fa;congr 1
 induction l with
 |nil=>rfl
 |cons x r ih=>grind [Tm]
theorem M8:kT (dS ZE (cW 4)) o6 (λ_=>True):=ji (nZ 4) λl b hI hb=>by
 obtain ⟨hl,hv⟩:=hI;obtain ⟨a,b',c,d,rfl⟩:=Bs hl;obtain rfl:=ac2 hb;have hc:=hv c (by simp);refine ⟨?_,trivial⟩;unfold Tj o6;simp only [aez,List.flatMap_nil,aeX];by_cases h1:a=1
 . subst h1
   have e:(bif ((1:Int)==1) then dA c else c)=dA c:=rfl;rw [aaZ rfl,e,OP hc.1 hc.2]
 grind
theorem J8:kT wh jL (λl=>bm l=true):=ji (ky M8) λl b _ hb=>by
 unfold J7 at hb;split at hb
 . obtain rfl:=ac2 hb
   exact ⟨rfl, ‹_›⟩
 grind
theorem wq {l:List Int} (h:l.length=5):∃ a b c d e,l=[a,b,c,d,e]:=by
 rcases l with _|⟨a,r⟩
 . grind
 . obtain ⟨b,c,d,e,rfl⟩:=Bs (l:=r) (by simpa using h)
   exact ⟨a,b,c,d,e,rfl⟩
theorem mf (m:Nat):kT (m5 m) cQ (λ_=>True):=ji (rK m) λl b hI hb=>by
 obtain rfl:=ac2 hb;simp_all [QX]
theorem H8 (m:Nat):kT (Cn m) (gh 1) (λ_=>True):=ji (rK m) λl b hI hb=>by
 obtain rfl:=ac2 hb;simp_all [FX]
theorem J9:kT ON (λx=>cQ [x]) (λ_=>True):=ji (mf 1) λl b hI hb=>by
 rcases l with _|⟨x,_|⟨y,r⟩⟩
 . exact nomatch hb
 . obtain rfl:=ac2 hb
   grind
 . exact nomatch hb
theorem Ka:kT wi jM (λ_=>True):=
 ji (eP (nZ 5) (eP (mf 4) (eP (mf 12) (eP (H8 4) (eP Ck J9))))) λx b hI hb=>by
  obtain ⟨n,iY,mem,fds,u,c⟩:=x;obtain ⟨⟨hl,_⟩,_⟩:=hI;obtain ⟨a,b',c',d,e,rfl⟩:=wq hl;refine ⟨?_,trivial⟩;obtain rfl:=ac2 hb;simp_all [jM,List.flatMap_nil]
theorem Kb:kT wj kx (λ_=>True):=ji (nZ 5) λl b hI hb=>by
 obtain ⟨a,b',c,d,e,rfl⟩:=wq hI.1;obtain rfl:=ac2 hb;simp_all [kx]
theorem Am (m:Nat):kT (m6 m) gV (λ_=>True):=ji (eP Ck (mf m)) λx b hI hb=>by
 obtain rfl:=ac2 hb;exact ⟨rfl,trivial⟩
theorem Kc {s:bs} {n t:Int} {pg:List (List ar)} {ps:List af} {os:List ai} {pp:List fq} {fl:List cB} {rd ou:List Int} {k:Nat} (h:jX s=some (([n,t],pg,ps,os,pp,fl,rd,ou),k)):
  k≤s.length∧117::s.take k=lr n t pg ps os pp fl rd ou:=by
 have:=eP (nZ 2) (eP (ky (m:=4) J8) (eP (ky (m:=6) Ka) (eP (ky (m:=8) Kb) (eP (ky (m:=3) (Am 4)) (eP (ky (m:=6) (Am 8)) (eP (rK 6) (mf 60))))))) _ _ _ h;refine ⟨this.1, ?_⟩;have e:=this.2.1;have hr:∀ x∈rd,b7 x:=this.2.2.2.2.2.2.2.2.1.2;simp_all [yO,lr,List.flatMap_nil]
theorem yP {s:bs} {x:OO} {k:Nat} (h:jX s=some (x,k)):∃ n t,x.1=[n,t]:=by
 unfold jX fh at h;split at h
 . grind
 . rename_i a i ha
   split at h
   . grind
   . rename_i b j hb
     simp only [adI,ad3] at h;obtain ⟨rfl,rfl⟩:=h;have hl:=(fX ha).2.1;rcases a with _|⟨n,_|⟨t,_|⟨z,r⟩⟩⟩
     . grind
     . grind
     . grind
     . simp at hl
def wu (a0 a1:List UInt8):Out (((Bool×Unit)×Unit)×XI):= .ite ((decide (((List.length a0:Nat):Int)≥((List.length a1:Nat):Int)))==true) (.ite (decide (0≤(0:Int)∧(0:Int)≤((List.length a1:Nat):Int)∧((List.length a1:Nat):Int)≤((List.length a0:Nat):Int))) (.ret (((((List.drop (Int.toNat (0:Int)) (List.take (Int.toNat ((List.length a1:Nat):Int)) a0))==a1),()),()),((),(),()))) .fail) (.ret (((false,()),()),((),(),())))
def kk (a b:bs):Bool:=decide (b.length≤a.length)&&(a.take b.length==b)
def k89:bK:={ f:=89,lend:=true,aF:=[wr,wr],lay:=[none,none],rs:=[wn],F:=λx=> .ret ((((kk x.1.1 x.2.1.1),()),()),((),(),())) }
theorem agF (x:aw k89.aF):bo [] (λ_=>none) Tryz.f89 k89 [.tmp 4] x=wu x.1.1 x.2.1.1:=by kernel_rfl
theorem agG (hr:∀ x:(List UInt8×Unit)×(List UInt8×Unit)×Unit,aB k89.aF x→(wu x.1.1 x.2.1.1).eval=(k89.F x).eval):k89.Ok acl:=aD [] trivial agF λx hw _ hy=>(hr x hw).trans hy
theorem agH:k89.Ok acl:=by
 refine agG λx _=> ?_;obtain ⟨⟨a,_⟩,⟨b,_⟩,_⟩:=x;show (wu a b).eval=some (((kk a b,()),()),((),((),())));unfold wu kk;by_cases h:b.length≤a.length
 . have g:decide (((a.length:Nat):Int)≥((b.length:Nat):Int))=true:=aac
   rw [g,aac h];exact (ab rfl).trans ((ab (aac)).trans rfl)
 . have g:decide (((a.length:Nat):Int)≥((b.length:Nat):Int))=false:=adD
   rw [g,adD h];exact (ae rfl).trans rfl
def wv (a0 a1:List UInt8):Out (((List UInt8×Unit)×(Bool×Unit)×Unit)×XI):= .ite (!(kk a0 a1)) (.ret (((a0,()),(false,()),()),((),(),()))) (.ite (decide (0≤((List.length a1:Nat):Int)∧((List.length a1:Nat):Int)≤((List.length a0:Nat):Int))) (.ret ((((List.drop (Int.toNat ((List.length a1:Nat):Int)) a0),()),(true,()),()),((),(),()))) .fail)
def aJ (a b:bs):bs×Bool:=bif kk a b then (a.drop b.length,true) else (a,false)
def k49:bK:={ f:=49,lend:=true,aF:=[wr,wr],lay:=[none,none],rs:=[wr,wn],F:=λx=> .ret ((((aJ x.1.1 x.2.1.1).1,()),((aJ x.1.1 x.2.1.1).2,()),()),((),(),())) }
theorem agI (x:aw k49.aF):bo [k89] (λ_=>none) Tryz.f49 k49 [.tmp 4, .tmp 5] x=wv x.1.1 x.2.1.1:=by kernel_rfl
theorem agJ (hr:∀ x:(List UInt8×Unit)×(List UInt8×Unit)×Unit,aB k49.aF x→(wv x.1.1 x.2.1.1).eval=(k49.F x).eval):k49.Ok acl:=aD [k89] ⟨agH,trivial⟩ agI λx hw _ hy=>(hr x hw).trans hy
theorem agK:k49.Ok acl:=by
 refine agJ λx _=> ?_;obtain ⟨⟨a,_⟩,⟨b,_⟩,_⟩:=x;show (wv a b).eval=some ((((aJ a b).1,()),(((aJ a b).2,()),())),((),((),())));unfold wv aJ;cases h:kk a b
 . exact (ab rfl).trans rfl
 . have:b.length≤a.length:=adR (Bool.and_eq_true_iff.1 h).1
   exact (ae rfl).trans ((ab (aac)).trans rfl)
def Kd (a0 a1:List UInt8):Out (((List UInt8×Unit)×(Bool×Unit)×Unit)×XI):= .ret ((((aJ a0 a1).1,()),((aJ a0 a1).2,()),()),((),(),()))
def k15:bK:={ f:=15,lend:=true,aF:=[wr,wr],lay:=[none,none],rs:=[wr,wn],F:=λx=> .ret ((((aJ x.1.1 x.2.1.1).1,()),((aJ x.1.1 x.2.1.1).2,()),()),((),(),())) }
theorem agL (x:aw k15.aF):bo [k49] (λ_=>none) Tryz.f15 k15 [.tmp 4, .tmp 5] x=Kd x.1.1 x.2.1.1:=by kernel_rfl
theorem agM (hr:∀ x:(List UInt8×Unit)×(List UInt8×Unit)×Unit,aB k15.aF x→(Kd x.1.1 x.2.1.1).eval=(k15.F x).eval):k15.Ok acl:=aD [k49] ⟨agK,trivial⟩ agL λx hw _ hy=>(hr x hw).trans hy
theorem agN:k15.Ok acl:=agM λ_ _=>rfl
def wx (a0:List UInt8) (a1 a2:Int):Out (((List Int×Unit)×(Int×Unit)×Unit)×(Unit×XI)):= .get (cS a0 a1 (1:Int)) λy1=> .ite ((decide (y1.2<(0:Int)))==false) (.ite (decide (0≤(0:Int)∧(0:Int)<((List.length y1.1:Nat):Int))) (.get (nth y1.1 (Int.toNat (0:Int))) λy2=> .ite (decide (y2>a2)) (.ret (((([]:List (Int)),()),((-1:Int),()),()),((),(),(),()))) (.ite (decide (0≤(0:Int)∧(0:Int)<((List.length y1.1:Nat):Int))) (.get (nth y1.1 (Int.toNat (0:Int))) λy3=> .get (cS a0 y1.2 y3) λy4=> .ret (((y4.1,()),(y4.2,()),()),((),(),(),()))) .fail)) .fail) (.ret (((([]:List (Int)),()),((-1:Int),()),()),((),(),(),())))
def cY (s:bs) (p m:Int):Option (List Int×Int):=if m≤1000 then (if (cc s 1 p []).2<0 then some ([], -1) else match (cc s 1 p []).1 with
    |[]=>none
    |n::_=>if n>m then some ([], -1) else some (cc s n.toNat (cc s 1 p []).2 []))
 else none
def Sg:bK:={ f:=44,lend:=true,aF:=[wr,wl,wl],lay:=[none,none,none],rs:=[Fd,wl],F:=λx=> .get (cY x.1.1 x.2.1.1 x.2.2.1.1) λy=> .ret (((y.1,()),(y.2,()),()),((),(),(),())) }
theorem agO (x:aw Sg.aF):bo [JH] (λ_=>none) Tryz.f44 Sg [.tmp 6, .tmp 7] x=wx x.1.1 x.2.1.1 x.2.2.1.1:=by kernel_rfl
theorem ZF (hr:∀ x:(List UInt8×Unit)×(Int×Unit)×(Int×Unit)×Unit,aB Sg.aF x→∀ y,(Sg.F x).eval=some y→(wx x.1.1 x.2.1.1 x.2.2.1.1).eval=some y):Sg.Ok acl:=aD [JH] ⟨yQ,trivial⟩ agO hr
theorem M9:Sg.Ok acl:=by
 refine ZF λx _ y hy=> ?_;obtain ⟨⟨s,_⟩,⟨p,_⟩,⟨m,_⟩,_⟩:=x;change (Out.get (cY s p m) λy=>Out.ret (((y.1,()),((y.2,()),())),((),((),((),()))))).eval=some y at hy;show (wx s p m).eval=some y;unfold cY at hy;split at hy
 case isFalse=>exact nomatch hy
 rename_i hm;have v1:cS s p 1=some (cc s 1 p []):=mD s p (n:=1) (by decide);unfold wx;refine (aa v1).trans ?_;split at hy
 . rename_i h
   refine afk ?_ hy;exact (ae (by rw [aac h];rfl)).trans rfl
 . rename_i h
   split at hy
   . exact nomatch hy
   . rename_i n r hn
     rw [hn];refine (ab (by rw [adD h];rfl)).trans ((ab (aac (by simp only [aay];omega))).trans ((aa (x:=n) rfl).trans ?_));split at hy
     . rename_i h2
       refine afk ?_ hy;exact (ab (aac h2)).trans rfl
     . rename_i h2
       refine afk ?_ hy;have v2:cS s (cc s 1 p []).2 n=some (cc s n.toNat (cc s 1 p []).2 []):=aaZ;exact (ae (adD h2)).trans ((ab (aac (by simp only [aay];omega))).trans ((aa (x:=n) rfl).trans (by grind)))
abbrev Tn:=(List (Int)×Int×Unit)×(List (Int)×Unit)
def H9:Tn→Out (Round Tn ((Unit)×(List (Int)×Unit)) Empty)
|((p0,p1,_),p2,_)=> .ite (decide (p1<((List.length p0:Nat):Int))) (.ite (decide (0≤p1)) (.get (nth p0 (Int.toNat p1)) λy1=> .ite (decide (List.length p2+List.length ([(dA y1)]:List (Int))≤bn)) (.ret (.again ((p0,(abs (p1+(1:Int))),()),((p2++([(dA y1)]:List (Int))),())))) .fail) .fail) (.ret (.out ((),(p2,()))))
def wy (a0:List Int):Out (((List Int×Unit)×Unit)×(Unit×Unit)):= .get (aP H9 aI ((a0,(0:Int),()),(([]:List (Int)),()))) λy1=> .ret (((y1.2.1,()),()),((),()))
abbrev To:List (Nat×dT):=[(act, .arr (.int .i64))]
def am0:Nat→Option au:=λn=>bw [(0,⟨⟨[.ro (.int .i64) (some 0), .dead, .dead, .aR act, .i .i64]++dd 16,To⟩,⟨[.dead, .dead, .dead, .aR act]++dd 17,To⟩,none,false⟩)] n
def rL (l:List Int):Option (List Int):=lim l (l.map dA)
def Sh:bK:={ f:=45,lend:=true,aF:=[ww],lay:=[none],rs:=[Fd],F:=λx=> .get (rL x.1.1) λy=> .ret (((y,()),()),((),())) }
theorem agP (x:aw Sh.aF):bo [Si] am0 Tryz.f45 Sh [.tmp 2] x=wy x.1.1:=by kernel_rfl
theorem ZG (hr:∀ x:(List Int×Unit)×Unit,aB Sh.aF x→∀ y,(Sh.F x).eval=some y→(wy x.1.1).eval=some y):Sh.Ok acl:=aD [Si] ⟨Na,trivial⟩ agP hr
theorem rM {α β:Type} (f:α→β):∀ (l:List α),l.flatMap (λx=>[f x])=l.map f
 |[]=>rfl
 |x::r=>by rw [aez,rM f r];rfl
theorem Nb:Sh.Ok acl:=by
 refine ZG λx hw y hy=> ?_;obtain ⟨⟨a,_⟩,_⟩:=x;have ha:a.length≤cj:=hw.1.1.1;change (Out.get (rL a) λy=>Out.ret (((y,()),()),((),()))).eval=some y at hy;show (wy a).eval=some y;unfold wy;unfold rL at hy;by_cases hl:a.length≤bn
 . rw [jj hl] at hy
   refine afk ?_ hy;have:=di (f:=H9) (λn=>[dA n]) a (λs i=>((a,(((i:Nat):Int),())),(s,()))) (λs=>((),(s,()))) bn
    (λi hi s hs=>by
     have w1:=aq (i:=i) (by omega);simp_all [H9,Out.eval,decide_eq_true])
    (by grind [H9,Out.eval]) ha [] (by grind [rM])
   grind [aa,rM]
 . rw [wz hl] at hy;exact nomatch hy
abbrev Tp:=(Int×Int×Unit)×((List UInt8×Bool×Unit)×List (Int)×Unit)
def Tq:Tp→Out (Round Tp ((Unit)×(List (Int)×(List UInt8×Bool×Unit)×Unit)) Empty)
|((p0,p1,_),(p2,p3,_),p4,_)=> .ite (decide (p1<p0)) (.ite (decide (List.length p4+List.length ([(dA (ag p2 p3).1)]:List (Int))≤bn)) (.ret (.again ((p0,(abs (p1+(1:Int))),()),(((ag p2 p3).2.1,(ag p2 p3).2.2,()),(p4++([(dA (ag p2 p3).1)]:List (Int))),())))) .fail) (.ret (.out ((),(p4,(p2,p3,()),()))))
def wA (a0:List UInt8) (a1:Bool) (a2:Int):Out (((List Int×Unit)×Unit)×((List UInt8×Bool×Unit)×Unit×Unit)):= .get (aP Tq aI (((cm a0 a1 a2).1,(0:Int),()),(((cm a0 a1 a2).2.1,(cm a0 a1 a2).2.2,()),([]:List (Int)),()))) λy1=> .ret (((y1.2.1,()),()),((y1.2.2.1.1,y1.2.2.1.2.1,()),(),()))
def am1:Nat→Option au:=λn=>bw [(0,⟨⟨[.vptr 0 0]++dd 4++[.aR act, .dead, .dead, .i .i64, .i .i64]++dd 9,[(0, .var [.s, .b]),(act, .arr (.int .i64))]⟩,⟨[.vptr 0 0]++dd 4++[.aR act]++dd 13,[(act, .arr (.int .i64)),(0, .var [.s, .b])]⟩,none,false⟩)] n
def u9:Nat→bs→Bool→List Int→List Int×bs×Bool
 |0,s,b,p=>(p,s,b)
 |n+1,s,b,p=>u9 n (ag s b).2.1 (ag s b).2.2 (p++[dA (ag s b).1])
def kU (s:bs) (bad:Bool) (m:Int):Option (List Int×bs×Bool):=if 0≤m∧m≤1000 then some (u9 (cm s bad m).1.toNat (cm s bad m).2.1 (cm s bad m).2.2 []) else none
def YX:bK:={ f:=53,lend:=true,aF:=[EQ,wl],lay:=[none,none],rs:=[Fd],F:=λx=> .get (kU x.1.1 x.1.2.1 x.2.1.1) λy=> .ret (((y.1,()),()),((y.2.1,y.2.2,()),(),())) }
theorem agQ (x:aw YX.aF):bo [OQ,MC,YY] am1 Tryz.f53 YX [.tmp 4] x=wA x.1.1 x.1.2.1 x.2.1.1:=by kernel_rfl
theorem ZH (hr:∀ x:(List UInt8×Bool×Unit)×(Int×Unit)×Unit,aB YX.aF x→∀ y,(YX.F x).eval=some y→(wA x.1.1 x.1.2.1 x.2.1.1).eval=some y):YX.Ok acl:=aD [OQ,MC,YY] ⟨Ia,Co,Tr,trivial⟩ agQ hr
theorem Ts:YX.Ok acl:=by
 refine ZH λx _ y hy=> ?_;obtain ⟨⟨s,b,_⟩,⟨m,_⟩,_⟩:=x;change (Out.get (kU s b m) λy=>Out.ret (((y.1,()),()),((y.2.1,(y.2.2,())),((),())))).eval=some y at hy;show (wA s b m).eval=some y;unfold kU at hy;split at hy
 case isFalse=>exact nomatch hy
 rename_i hm;refine afk ?_ hy;unfold wA;have hb:=Cp s b m hm.1;obtain ⟨n,hn⟩:=aft hb.1;rw [hn] at hb ⊢;rw [adu];have key:∀ (m j N:Nat) (s:bs) (b:Bool) (p:List Int),j+m=n→m<N→p.length=j→aP Tq N ((((n:Nat):Int),(((j:Nat):Int),())),((s,(b,())),(p,())))=
   some ((),((u9 m s b p).1,(((u9 m s b p).2.1,((u9 m s b p).2.2,())),()))):=by
  intro m
  induction m with
  |zero=>
   intro j N s b p hj hN hp;have w3:decide (((j:Nat):Int)<((n:Nat):Int))=false:=by grind
   refine gF ?_ hN;exact (ae w3).trans rfl
  |succ m ih=>
   intro j N s b p hj hN hp;have w3:decide (((j:Nat):Int)<((n:Nat):Int))=true:=by grind
   have g6:=aq (i:=j) (by grind);have g8:∀ z:Int,decide (p.length+([z]:List Int).length≤bn)=true:=by grind
   obtain ⟨N,rfl⟩:∃ N',N=N'+1:=⟨N - 1,by omega⟩
   rw [ie (x':=((((n:Nat):Int),(((j+1:Nat):Int),())),(((ag s b).2.1,((ag s b).2.2,())),(p++[dA (ag s b).1],()))))]
   . exact ih (j+1) N _ _ _ (by omega) (by omega) (by simp;omega)
   . rw [← g6]
     exact (ab w3).trans ((ab (g8 _)).trans rfl)
 have hk:=key n 0 aI (cm s b m).2.1 (cm s b m).2.2 [] (by omega) (by grind) rfl;exact (aa hk).trans rfl
section
variable {α β:Type}
abbrev Rd (α:Type):=bs→Bool→α×bs×Bool
def Reads (R:Rd α) (P:bs→Option (α×Nat)):Prop:= (∀ s a k,P s=some (a,k)→R s false=(a,s.drop k,false))∧(∀ s,P s=none→(R s false).2.2=true)∧∀ s,(R s true).2.2=true
theorem Reads.Cq {R:Rd α} {P:bs→Option (α×Nat)} (h:Reads R P) {s:bs} {a:α} {k:Nat} (e:P s=some (a,k)):R s false=(a,s.drop k,false):=h.1 s a k e
theorem Reads.fail {R:Rd α} {P:bs→Option (α×Nat)} (h:Reads R P) {s:bs} (e:P s=none):(R s false).2.2=true:=h.2.1 s e
theorem Reads.stay {R:Rd α} {P:bs→Option (α×Nat)} (h:Reads R P) {s:bs} {b:Bool} (hb:b=true):(R s b).2.2=true:=by subst hb;exact h.2.2 s
def mg (R:Rd α) (Q:Rd β):Rd (α×β):=λs b=>(((R s b).1,(Q (R s b).2.1 (R s b).2.2).1),(Q (R s b).2.1 (R s b).2.2).2)
theorem gn {R:Rd α} {Q:Rd β} {P:bs→Option (α×Nat)} {P':bs→Option (β×Nat)} (hR:Reads R P) (hQ:Reads Q P'):Reads (mg R Q) (fh P P'):=by
 refine ⟨λs x k h=> ?_,λs h=> ?_,λs=>hQ.stay (hR.2.2 s)⟩
 . unfold fh at h
   split at h
   . grind
   . rename_i a i ha
     split at h
     . grind
     . rename_i b j hb
       simp only [adI,ad3] at h;obtain ⟨rfl,rfl⟩:=h;unfold mg;rw [hR.Cq ha];simp only;rw [hQ.Cq hb,aea]
 . unfold fh at h
   unfold mg;split at h
   . rename_i ha
     exact hQ.stay (hR.fail ha)
   . rename_i a i ha
     split at h
     . rename_i hb
       rw [hR.Cq ha];exact hQ.fail hb
     grind
def Cr (f:α→Option β) (z:β) (R:Rd α):Rd β:=λs b=>match f (R s b).1 with
 |some x=>(x,(R s b).2)
 |none=>(z,(R s b).2.1,true)
theorem Ke {f:α→Option β} {z:β} {R:Rd α} {s:bs} {b:Bool} (h:(R s b).2.2=true):(Cr f z R s b).2.2=true:=by
 grind [Cr]
theorem vb {f:α→Option β} {z:β} {R:Rd α} {P:bs→Option (α×Nat)} (hR:Reads R P):Reads (Cr f z R) (dS f P):=by
 refine ⟨λs x k h=> ?_,λs h=> ?_,λs=>Ke (hR.2.2 s)⟩
 . unfold dS at h
   split at h
   . grind
   . rename_i a i ha
     split at h
     . grind
     . rename_i b hb
       simp only [adI,ad3] at h;obtain ⟨rfl,rfl⟩:=h;unfold Cr;rw [hR.Cq ha];simp only [hb]
 . unfold dS at h
   split at h
   . rename_i ha
     exact Ke (hR.fail ha)
   . rename_i a i ha
     split at h
     . rename_i hb
       unfold Cr;rw [hR.Cq ha];simp only [hb]
     grind
def Ib (g:α→β) (R:Rd α):Rd β:=λs b=>(g (R s b).1,(R s b).2)
theorem m7 {g:α→β} {R:Rd α} {P:bs→Option (α×Nat)} (hR:Reads R P):Reads (Ib g R) (dS (λa=>some (g a)) P):=by
 refine ⟨λs x k h=> ?_,λs h=> ?_,λs=>hR.2.2 s⟩
 . unfold dS at h
   split at h
   . grind
   . rename_i a i ha
     simp only [adI,ad3] at h;obtain ⟨rfl,rfl⟩:=h;unfold Ib;rw [hR.Cq ha]
 . unfold dS at h
   split at h
   . rename_i ha
     exact hR.fail ha
   grind
def okR (ok:α→Bool) (R:Rd α):Rd α:=λs b=>((R s b).1,(R s b).2.1,(R s b).2.2|| !ok (R s b).1)
theorem QY {ok:α→Bool} {R:Rd α} {P:bs→Option (α×Nat)} (hR:Reads R P):Reads (okR ok R) (dS (λa=>if ok a=true then some a else none) P):=by
 refine ⟨λs x k h=> ?_,λs h=> ?_,λs=>by unfold okR;rw [hR.2.2 s];rfl⟩
 . unfold dS at h
   split at h
   . grind
   . rename_i a i ha
     split at h
     . grind
     . rename_i b hb
       simp only at hb;split at hb
       . rename_i hk
         simp only [adI,ad3] at h hb;obtain ⟨rfl,rfl⟩:=h;subst hb;unfold okR;rw [hR.Cq ha];simp [hk]
       grind
 . unfold dS at h
   unfold okR;split at h
   . rename_i ha
     rw [hR.fail ha];rfl
   . rename_i a i ha
     split at h
     . rename_i hb
       rw [hR.Cq ha];grind
     grind
def qk (R:Rd α):Nat→bs→Bool→List α→List α×bs×Bool
 |0,s,b,l=>(l,s,b)
 |n+1,s,b,l=>qk R n (R s b).2.1 (R s b).2.2 (l++[(R s b).1])
theorem wB {R:Rd α} {P:bs→Option (α×Nat)} (hR:Reads R P):∀ (n:Nat) (s:bs) (l:List α),(qk R n s true l).2.2=true
 |0,_,_=>rfl
 |n+1,s,l=>by
  unfold qk;rw [hR.2.2 s];exact wB hR n _ _
theorem FY {R:Rd α} {P:bs→Option (α×Nat)} (hR:Reads R P):∀ (n:Nat) (s:bs) (l a:List α) (k:Nat),jV P n s=some (a,k)→qk R n s false l=(l++a,s.drop k,false)
 |0,s,l,a,k,h=>by
  simp only [jV,adI,ad3] at h;obtain ⟨rfl,rfl⟩:=h;simp [qk]
 |n+1,s,l,a,k,h=>by
  simp only [jV] at h;split at h
  . grind
  . rename_i x i hx
    split at h
    . grind
    . rename_i r j hr
      simp only [adI,ad3] at h;obtain ⟨rfl,rfl⟩:=h;unfold qk;rw [hR.Cq hx];simp only;rw [FY hR n _ _ _ _ hr,aea];simp
theorem FZ {R:Rd α} {P:bs→Option (α×Nat)} (hR:Reads R P):∀ (n:Nat) (s:bs) (l:List α),jV P n s=none→(qk R n s false l).2.2=true
 |0,s,l,h=>nomatch h
 |n+1,s,l,h=>by
  simp only [jV] at h;unfold qk;split at h
  . rename_i hx
    rw [hR.fail hx];exact wB hR n _ _
  . rename_i x i hx
    split at h
    . rename_i hr
      rw [hR.Cq hx];exact FZ hR n _ _ hr
    . exact nomatch h
theorem Cs {m:Nat} {s:bs} {n k:Nat} (h:uj m s=some (n,k)):cm s false (m:Int)=(((n:Nat):Int),s.drop k,false):=by
 unfold uj at h;split at h
 . grind
 . rename_i i hi
   split at h
   . grind
   . simp only [adI,ad3] at h
     obtain ⟨rfl,rfl⟩:=h;simp_all [cm,sZ,if_neg]
theorem Nc {m:Nat} {s:bs} (h:uj m s=none):(cm s false (m:Int)).2.2=true:=by
 unfold uj at h;unfold cm;split at h
 . grind [yR]
 simp_all [sZ]
theorem QZ (m:Int) (s:bs):(cm s true m).2.2=true:=by
 grind [cm,Tt]
def mh (m:Int) (R:Rd α):Rd (List α):=λs b=>qk R (cm s b m).1.toNat (cm s b m).2.1 (cm s b m).2.2 []
theorem gq {R:Rd α} {P:bs→Option (α×Nat)} (m:Nat) (hR:Reads R P):Reads (mh (m:Int) R) (dm m P):=by
 refine ⟨λs x k h=> ?_,λs h=> ?_,λs=> ?_⟩
 . unfold dm at h
   split at h
   . grind
   . rename_i n i hn
     split at h
     . grind
     . rename_i l j hr
       simp only [adI,ad3] at h;obtain ⟨rfl,rfl⟩:=h;unfold mh;rw [Cs hn];simp only [adu];rw [FY hR _ _ _ _ _ hr,aea,ad0]
 . unfold dm at h
   unfold mh;split at h
   . grind [Nc,wB]
   . rename_i n i hn
     split at h
     . rename_i hr
       rw [Cs hn];grind [Int.toNat_natCast,FZ]
     grind
 grind [mh,QZ,wB]
theorem ZI {P:bs→Option (α×Nat)} {f:α→α} (h:∀ s a k,P s=some (a,k)→f a=a):dS (λa=>some (f a)) P=P:=by
 grind [dS]
theorem Kf {P:bs→Option (α×Nat)} {g:α→β}:∀ (n:Nat) (s:bs),jV (dS (λa=>some (g a)) P) n s=match jV P n s with
  |none=>none
  |some (l,k)=>some (l.map g,k)
 |0,_=>rfl
 |n+1,s=>by
  simp only [jV];have e:dS (λa=>some (g a)) P s=match P s with|none=>none|some (a,k)=>some (g a,k):=by
   grind [dS]
  rw [e];cases P s with
  |none=>rfl
  |some x=>
   obtain ⟨a,k⟩:=x;simp only;rw [Kf n (s.drop k)];grind
theorem lD {P:bs→Option (α×Nat)} {g:α→β} (m:Nat):dm m (dS (λa=>some (g a)) P)=dS (λl=>some (l.map g)) (dm m P):=by
 funext s;have e:dS (λl=>some (l.map g)) (dm m P) s=match dm m P s with|none=>none|some (l,k)=>some (l.map g,k):=by
  grind [dS,dm]
 rw [e];unfold dm;cases uj m s with
 |none=>rfl
 |some x=>
  obtain ⟨n,k⟩:=x;simp only;rw [Kf];grind
end
theorem Kg:∀ (n:Nat) (s:bs),jV wc n s=cW n s
 |0,_=>rfl
 |n+1,s=>by
  simp only [jV,cW,wc];cases sY s with
  |none=>rfl
  |some i=>
   simp only;rw [Kg n];cases cW n (s.drop (i+1)) with
   |none=>rfl
   |some y=>rfl
theorem vc (m:Nat):dm m wc=gm m:=by
 funext s;unfold dm gm uj;cases sY s with
 |none=>rfl
 |some i=>
  simp only;by_cases h:m<dN (s.take (i+1))
  . grind
  . simp only [aae h]
    grind [Kg,cW,dN]
theorem m8:Reads ag wc:=by
 refine ⟨λs a k h=> ?_,λs h=> ?_,λs=>rfl⟩
 . unfold wc at h
   split at h
   . grind
   . rename_i i hi
     simp only [adI,ad3] at h;obtain ⟨rfl,rfl⟩:=h;exact sZ hi
 grind [wc,yR]
theorem n0 (n:Nat):Reads (jN n) (cW n):=by
 refine ⟨λs a k h=> ?_,λs h=> ?_,λs=>by rw [yS]⟩
 . grind [Ct]
 grind [Ct]
def oH (m:Int):Rd (List Int):=mh m (Ib dA ag)
def vd (m less:Int):Rd (List Int):=mh m (Ib (λx=>abs (x - less)) ag)
theorem mE (m:Nat):Reads (oH m) (m5 m):=by
 have:=gq m (m7 (g:=dA) m8);rw [lD,vc] at this;exact this
theorem Ic (m:Nat):Reads (vd m 1) (Cn m):=by
 have:=gq m (m7 (g:=uy) m8);rw [lD,vc] at this;exact this
theorem Kh (m:Nat):Reads (vd m 0) (gm m):=by
 have:=gq m (m7 (g:=λx=>abs (x - 0)) m8);rw [lD,vc,ZI] at this
 . exact this
 . intro s l k h
   have h1:=(gW h).2.2.1;have:∀ x∈l,abs (x - 0)=x:=λx hx=>by
    have:=h1 x hx;rw [Int.sub_zero];grind [bt]
   rw [afp this,akU]
theorem Cu:∀ (n:Nat) (s:bs) (b:Bool) (l:List Int),u9 n s b l=qk (Ib dA ag) n s b l
 |0,_,_,_=>rfl
 |n+1,s,b,l=>by unfold u9 qk;exact Cu n _ _ _
theorem jA {m:Int} (h:0≤m∧m≤1000) (s:bs) (b:Bool):kU s b m=some (oH m s b):=by
 unfold kU;rw [aaZ h,Cu];rfl
def m9:Rd Int:=Cr agE 0 (oH 1)
theorem Ki:Reads m9 ON:=vb (mE 1)
def Tu:af:=(0,(0,(0,(0,((0,([],())),([],([],(0,(0,())))))))))
def Kj:Rd af:=Cr Tk Tu (mg (jN 5) (mg (oH 4) (mg (oH 12) (mg (vd 4 1) (mg ag m9)))))
theorem Kk:Reads Kj wi:=vb (by grind [gn,n0,mE,Ic,m8,Ki])
def Kl:Rd ai:=Cr adL (0,(0,(0,(0,(0,()))))) (jN 5)
theorem Km:Reads Kl wj:=vb (n0 5)
def Kn (m:Int):Rd cB:=Ib (λx=>(x.1,(x.2,()))) (mg ag (oH m))
theorem Ao (m:Nat):Reads (Kn m) (m6 m):=m7 (gn m8 (mE m))
theorem F1:dS ZE (cW 4)=dS (λl=>some (yT l)) (cW 4):=by
 funext s;unfold dS;cases h:cW 4 s with
 |none=>rfl
 |some x=>
  obtain ⟨l,k⟩:=x;obtain ⟨a,b,c,d,rfl⟩:=Bs (fX h).2.1;rfl
theorem F2:∀ (n:Nat) (s:bs) (b:Bool) (l:List ar),Ap n s b l=qk (Ib yT (jN 4)) n s b l
 |0,_,_,_=>rfl
 |n+1,s,b,l=>by unfold Ap qk;exact F2 n _ _ _
theorem Ko:Reads mC wh:=by
 have h:=QY (ok:=bm) (gq 40 (m7 (g:=yT) (n0 4)));rw [← F1] at h;have e:mC=okR bm (mh ((40:Nat):Int) (Ib yT (jN 4))):=by
  grind [mC,okR,mh,F2]
 rw [e];exact h
def jO:Rd OO:=mg (jN 2) (mg (mh 4 mC) (mg (mh 6 Kj) (mg (mh 8 Kl) (mg (mh 3 (Kn 4)) (mg (mh 6 (Kn 8)) (mg (vd 6 0) (oH 60)))))))
theorem rN:Reads jO jX:=
 gn (n0 2) (gn (gq 4 Ko) (gn (gq 6 Kk) (gn (gq 8 Km) (gn (gq 3 (Ao 4)) (gn (gq 6 (Ao 8)) (gn (Kh 6) (mE 60)))))))
theorem Q0 {α σ β:Type} {f:σ→Out (Round σ β Empty)} (R:Rd α) (S:Nat→bs→Bool→List α→σ) (y:bs→Bool→List α→β) (n:Nat) (hn:n≤1000)
  (hs:∀ i s b l,i<n→l.length=i→(f (S i s b l)).eval=some (.again (S (i+1) (R s b).2.1 (R s b).2.2 (l++[(R s b).1])))) (hy:∀ s b l,(f (S n s b l)).eval=some (.out (y s b l))) (s:bs) (b:Bool):
  aP f aI (S 0 s b [])=some (y (qk R n s b []).2.1 (qk R n s b []).2.2 (qk R n s b []).1):=by
 have key:∀ (m i N:Nat) (s:bs) (b:Bool) (l:List α),i+m=n→m<N→l.length=i→aP f N (S i s b l)=some (y (qk R m s b l).2.1 (qk R m s b l).2.2 (qk R m s b l).1):=by
  intro m
  induction m with
  |zero=>
   intro i N s b l hi hN hl;obtain rfl:i=n:=by omega
   exact gF (hy s b l) hN
  |succ m ih=>
   intro i N s b l hi hN hl;obtain ⟨N,rfl⟩:∃ N',N=N'+1:=⟨N - 1,by omega⟩
   rw [ie (hs i s b l (by omega) hl)];exact ih (i+1) N _ _ _ (by omega) (by omega) (by simp;omega)
 grind
section
open Go Go.RowKit
variable {z:Fz}
theorem ZJ {S:Nat→Prop} {w:World} {v:Value} {xs:List (List UInt8)} (h:(Ty.sl .str).aT S w [v] xs):
  ∃ a cap,v= .slice a xs.length cap∧xs.length≤cap∧xs.length≤cj∧(xs=[]∨∃ b o,a=some ⟨b,o,none⟩∧S b∧∀ (i:Nat) (y:List UInt8),xs[i]? =some y→w.cell? ⟨b,o+i,none⟩=some (.string ⟨y.toArray⟩)):=by
 simp only [Ty.aT] at h;obtain ⟨a,cap,hv,⟨hc,hb⟩,h⟩:=h;refine ⟨a,cap,(List.cons.inj hv).1,hc,hb,h.imp id ?_⟩
 rintro ⟨b,o,ha,hs,hi⟩
 refine ⟨b,o,ha,hs,λi y hy=> ?_⟩;have h1:=(hi i y hy).1;simp only [Ty.size,Nat.mul_one] at h1;unfold aK at h1;split at h1
 . rename_i c E fr hh
   have h2:=congrArg (λl=>l[0]?) h1;simp only [akW,ad5] at h2;simp at h2;simp [World.cell?, hh,h2]
 . simp at h1
theorem Q1:∀ xs:List (List UInt8),Lib.join xs []=xs.flatten
 |[]=>rfl
 |x::r=>by
  rw [Lib.join_cons];unfold Lib.joinTail;simp
def wC (xs:List (List UInt8)) (sep:List UInt8):Option (List UInt8):=if xs.length≤140737488355328∧(Lib.join xs sep).length≤140737488355328 then some (Lib.join xs sep) else none
theorem Q2 {α:Type} {xs:List (List UInt8)} {sep:List UInt8} {g:List UInt8→α} {y:α} (h:(Out.get (wC xs sep) λy=>Out.ret (g y)).eval=some y):(xs.length≤140737488355328∧(Lib.join xs sep).length≤140737488355328)∧y=g (Lib.join xs sep):=by
 unfold wC at h;by_cases hl:xs.length≤140737488355328∧(Lib.join xs sep).length≤140737488355328
 . rw [aaZ hl] at h;exact ⟨hl,(ac2 h).symm⟩
 . rw [aae hl] at h;cases h
theorem Cv (xs:List (List UInt8)):(xs.map λy=>(⟨y.toArray⟩:ByteArray)).map (·.data.toList)=xs:=by
 rw [agR];exact (afp λ_ _=>rfl).trans (akU xs)
theorem Tv {P:Program} {S:Nat→Prop} {w w':World} {hS:Ie S w} (h:Below w.heap.size w w'):Ev (rO P S w [] [] (λ_=>undef) default hS) w':=
 ⟨h.size,h.os,h.output,λb hb=>h.block b (hS.1 b hb),λb hb=> .inl (h.block b hb),λa ha=>by
  have:=h.block a.block ha;show w'.frozen? a=w.frozen? a;simp only [World.frozen?, this]⟩
theorem Tw {P:Program} {f:Nat} {lend:Bool} (hfn:adP P f)
  (h1:∀ (bk o c:Nat) (xs:List ByteArray) (sep:ByteArray) (w:World),(∀ (j:Nat) x,xs[j]? =some x→w.cell? ⟨bk,o+j,none⟩=some (.string x))→bk<w.heap.size→xs.length≤140737488355328→xs.length≤c→
   (Lib.join (xs.map (·.data.toList)) sep.data.toList).length≤140737488355328→
   Calls P f #[.slice (some ⟨bk,o,none⟩) xs.length c, .string sep] w λe w'=>e= .returned (.string ⟨(Lib.join (xs.map (·.data.toList)) sep.data.toList).toArray⟩)∧Below w.heap.size w w')
  (h0:∀ (a:Option Addr) (c:Nat) (sep:ByteArray) (w:World),Calls P f #[.slice a 0 c, .string sep] w λe w'=>e= .returned (.string ⟨#[]⟩)∧w'=w):
  bK.Ok P { f:=f,lend:=lend,aF:=[NE,wr],lay:=[none,none],rs:=[wr],F:=λx=> .get (wC x.1.1 x.2.1.1) λy=> .ret (((y,()),()),((),((),()))) }:=by
 intro x y hy S w hS ve fp g fc uf Q3;obtain ⟨⟨xs,u⟩,⟨sep,u1⟩,u'⟩:=x;revert xs;intro (xs:List (List UInt8)) hy fc;obtain ⟨hl,hy⟩:=Q2 (xs:=xs) (sep:=sep) (g:=λy=>(((y,()),()),((),((),())))) hy;subst hy;simp only [ba,cZ,aV] at fc;obtain ⟨v,_,f1,_,g1,_,rfl,rfl,rfl,⟨rfl,⟨v',_,hv,hr,rfl,rfl⟩,_,Fi⟩,⟨v2,_,f2,_,g2,_,rfl,rfl,rfl,⟨rfl,⟨_,hv2,OR,rfl,rfl⟩,_,am2⟩,rfl,rfl,rfl⟩⟩:=fc;obtain ⟨a,cap,rfl,hc,hb,hr⟩:=ZJ hr;have hvv:v= .slice a (List.length xs) cap:=by
  have ho:=Fi trivial;cases v<;>cases ho
  all_goals simp [Value.cells] at hv
  all_goals simpa [Value.cells] using hv
 have A0:v2= .string ⟨sep.toArray⟩:=by
  have ho:=am2 trivial;cases v2<;>cases ho
  all_goals simp [Value.cells] at hv2
  all_goals simpa [Value.cells] using hv2
 subst hvv;subst A0;refine ⟨hfn.ex, ?_⟩;have F3:(na [none,none] [Value.slice a (List.length xs) cap,Value.string ⟨sep.toArray⟩]).toArray= #[.slice a (List.length xs) cap, .string ⟨sep.toArray⟩]:=rfl;show Calls P f (na [none,none] [Value.slice a (List.length xs) cap,Value.string ⟨sep.toArray⟩]).toArray w _;rw [F3];have fin:∀ (t:List UInt8) (w':World),List.length t≤cj→Below w.heap.size w w'→agS P S w hS { f:=f,lend:=lend,aF:=[NE,wr],lay:=[none,none],rs:=[wr],F:=λx=> .get (wC x.1.1 x.2.1.1) λy=> .ret (((y,()),()),((),((),()))) }
   [Value.slice a (List.length xs) cap,Value.string ⟨sep.toArray⟩] [] [] (((t,()),()),((),((),()))) (.string ⟨t.toArray⟩) w':=λt w' ht hw'=>by
  refine ⟨⟨[.string ⟨t.toArray⟩],[],[],[],rfl,⟨S,λ_ h=>h,λb h=>⟨.inl h,aeh (hS.1 b h) hw'.size⟩,by simp, ?_, ?_⟩,by simp,by simp⟩,Tv hw'⟩
  . simp only [ba,cZ,aV]
    exact ⟨_,_,[],[],[],[],rfl,rfl,rfl,⟨rfl,⟨_,rfl,ht,rfl,rfl⟩,by simp,λ_=>rfl⟩,rfl,rfl,rfl⟩
  . simp only [eh,s7,aY]
    exact ⟨_,_,[],[],rfl,rfl,⟨.slice a (List.length xs) cap,[],by simp [Value.cells],rfl,rfl⟩,⟨_,_,[],[],rfl,rfl,⟨.string ⟨sep.toArray⟩,[],by simp [Value.cells],rfl,rfl⟩,rfl,rfl⟩⟩
 rcases hr with hx|⟨b,o,rfl,hs,hi⟩
 . subst hx
   refine (h0 a cap ⟨sep.toArray⟩ w).mono λe w' he=> ?_;obtain ⟨rfl,rfl⟩:=he;exact fin [] w' (afI _) (Below.refl _ _)
 . have h:=h1 b o cap (xs.map λy=>⟨y.toArray⟩) ⟨sep.toArray⟩ w (λj x hx=>by
    rw [ahU] at hx;cases hj:xs[j]? with
    |none=>rw [hj] at hx;exact nomatch hx
    |some y=>rw [hj] at hx;obtain rfl:=ac2 hx;exact hi j y hj) (hS.1 b hs) (by rw [afh];exact hl.1) (by rw [afh];exact hc) (by rw [Cv];exact hl.2)
   rw [afh,Cv] at h;refine h.mono λe w' he=> ?_;obtain ⟨rfl,hw'⟩:=he;exact fin _ w' (adQ hl.2 (by decide)) hw'
end
end Go.Proofs.YtkmhgofibfmjfaaGreat.Dm
