/- The data machine (a part). -/
import Derived.Test.YtkmhgofibfmjfaaGreatM3
import Derived.KernelRfl
import Derived.WalkKit
import Derived.ProofKit
import Derived.OpenShut
import Derived.JoinedCond
import Derived.Carry
import Derived.Laws.Runes
import Derived.Laws.BitsLemmas
import Derived.JoinedOf
import Derived.Lib.SliceRun
namespace Go.Proofs.YtkmhgofibfmjfaaGreat.Dm
section
open Go
def kI (μ:Nat→Loc):List Cm→List aj→Prop
 | .b::r,_::q=>kI μ r q
 | .i _::r,_::q=>kI μ r q
 | .s::r,_::q=>kI μ r q
 | .e::r,_::q=>kI μ r q
 | .k::r,_::q=>kI μ r q
 | .ro _::r,_::q=>kI μ r q
 | .own _::r,_::q=>kI μ r q
 | .mut e::r,d::q=>(d= .oR∨∃ id a len cap,d= .dn id none∧μ id= .tY a len cap e.size)∧kI μ r q
 |[],_=>True
 |_,[]=>False
section
variable {c c0:Ctx} {K0:Nat→Prop} {μ0:Nat→Loc} {fp0:Nat→List Nat} {v0:Env} {w0 w:World} {E EL:Env}
theorem YK (h:∀ id x,v0 id=some x→cR c0 μ0 w0 id (fp0 id) x) (hE:∀ id x,E id=some x→v0 id=some x) {e:Ty} {d:aj} {z:List e.D×List Nat} (hz:Ot E e d=some z):
  d= .oR∨∃ id a len cap,d= .dn id none∧μ0 id= .tY a len cap e.size:=by
 unfold Ot at hz;split at hz
 . exact .inl rfl
 . rename_i id
   right;replace hz:(E id).bind (λv=>(jr E v).bind λx=>(Ty.cast (.sl x.1) (.sl e) x.2).map λy=>(y,id::bW v))=some z:=hz;obtain ⟨y,hy,hz⟩:=WP.1 hz;obtain ⟨⟨e',ys⟩,hu,hz⟩:=WP.1 hz;obtain ⟨zs,hc,rfl⟩:=ST.1 hz;obtain ⟨he,JK⟩:=lf hc;clear hc hz;subst he;obtain ⟨a,cap,f,h1,_⟩:=Em h hE hy hu;exact ⟨id,a,_,cap,rfl,h1⟩
 . cases hz
theorem gA (h:∀ id x,v0 id=some x→cR c0 μ0 w0 id (fp0 id) x) (hE:∀ id x,E id=some x→v0 id=some x):(l:List Cm)→{ds:List aj}→{r:uK l×List Nat}→fU E EL l ds=some r→kI μ0 l ds
 |[],ds,r,_=>by simp [kI]
 | .b::l,ds,r,hf=>by
   cases ds with
   |nil=>cases hf
   |cons d q=>
    cases d<;>try (cases hf;done)
    rename_i x;obtain ⟨y,hy,rfl⟩:=ST.1 (show ((fU E EL l q).map λy=>((x,y.1),y.2))=some r from hf);exact gA h hE l hy
 | .i k::l,ds,r,hf=>by
   cases ds with
   |nil=>cases hf
   |cons d q=>
    cases d<;>try (cases hf;done)
    rename_i k' x;replace hf:(if k=k' then (fU E EL l q).map λy=>((x,y.1),y.2) else none)=some r:=hf;split at hf
    case isFalse=>cases hf
    obtain ⟨y,hy,rfl⟩:=ST.1 hf;exact gA h hE l hy
 | .s::l,ds,r,hf=>by
   cases ds with
   |nil=>cases hf
   |cons d q=>
    cases d<;>try (cases hf;done)
    rename_i x;obtain ⟨y,hy,rfl⟩:=ST.1 (show ((fU E EL l q).map λy=>((x,y.1),y.2))=some r from hf);exact gA h hE l hy
 | .e::l,ds,r,hf=>by
   cases ds with
   |nil=>cases hf
   |cons d q=>
    cases d<;>try (cases hf;done)
    rename_i x;obtain ⟨y,hy,rfl⟩:=ST.1 (show ((fU E EL l q).map λy=>((x,y.1),y.2))=some r from hf);exact gA h hE l hy
 | .k::l,ds,r,hf=>by
   cases ds with
   |nil=>cases hf
   |cons d q=>
    replace hf:(if d.bB=true then fU E EL l q else none)=some r:=hf;split at hf
    . exact gA h hE l hf
    . cases hf
 | .ro e::l,ds,r,hf=>by
   cases ds with
   |nil=>cases hf
   |cons d q=>
    replace hf:((zS EL e d).bind λx=>(fU E EL l q).map λy=>((x,y.1),y.2))=some r:=hf;obtain ⟨x,hx,hf⟩:=WP.1 hf;obtain ⟨y,hy,rfl⟩:=ST.1 hf;exact gA h hE l hy
 | .own e::l,ds,r,hf=>by
   cases ds with
   |nil=>cases hf
   |cons d q=>
    replace hf:((j7 E e d).bind λz=>(fU E EL l q).map λy=>((z.1,y.1),z.2++y.2))=some r:=hf;obtain ⟨z,hz,hf⟩:=WP.1 hf;obtain ⟨y,hy,rfl⟩:=ST.1 hf;exact gA h hE l hy
 | .mut e::l,ds,r,hf=>by
   cases ds with
   |nil=>cases hf
   |cons d q=>
    replace hf:((Ot E e d).bind λz=>(fU E EL l q).map λy=>((z.1,y.1),z.2++y.2))=some r:=hf;obtain ⟨z,hz,hf⟩:=WP.1 hf;obtain ⟨y,hy,rfl⟩:=ST.1 hf;exact ⟨YK h hE hz,gA h hE l hy⟩
theorem iP:(l:List Cm)→∀ {vs:List Value} {ds:List aj} {y:qX l} {f rest:List Nat} {K:Nat→Prop} {μ:Nat→Loc} {fp:Nat→List Nat} {v:Env},
  iS c K μ fp v w (f++rest)→ak c μ0 vs ds→(∀ id∈aj.bO ds,K0 id)→(∀ id,K0 id→K id∧μ id=μ0 id)→kI μ0 l ds→aY c.fz w l vs y f→(∀ b∈f,b<c.w0.heap.size→∀ j,c.M b j)→
  ∃ fp',iS c K μ fp' (cI v (news (sH l ds y))) w rest
 |[],vs,ds,y,f,rest,K,μ,fp,v,h,hr,_,_,_,hb,_=>by
  simp only [aY] at hb;obtain ⟨rfl,rfl⟩:=hb;exact ⟨fp,h⟩
 | .b::r,vs,ds,y,f,rest,K,μ,fp,v,h,hr,hi,hk,hm,hb,hM=>by
   simp only [aY] at hb;obtain ⟨v1,bg,rfl,hb⟩:=hb;cases ds with
   |nil=>simp [kI] at hm
   |cons d q=>
    simp only [ak] at hr;obtain ⟨_,_,e,hd,hr⟩:=hr;cases e;exact iP r h hr (λid dh=>hi id (by simp [aj.bO,dh])) hk hm hb hM
 | .i _::r,vs,ds,y,f,rest,K,μ,fp,v,h,hr,hi,hk,hm,hb,hM=>by
   simp only [aY] at hb;obtain ⟨v1,bg,rfl,hb⟩:=hb;cases ds with
   |nil=>simp [kI] at hm
   |cons d q=>
    simp only [ak] at hr;obtain ⟨_,_,e,hd,hr⟩:=hr;cases e;exact iP r h hr (λid dh=>hi id (by simp [aj.bO,dh])) hk hm hb hM
 | .s::r,vs,ds,y,f,rest,K,μ,fp,v,h,hr,hi,hk,hm,hb,hM=>by
   simp only [aY] at hb;obtain ⟨v1,bg,rfl,hb⟩:=hb;cases ds with
   |nil=>simp [kI] at hm
   |cons d q=>
    simp only [ak] at hr;obtain ⟨_,_,e,hd,hr⟩:=hr;cases e;exact iP r h hr (λid dh=>hi id (by simp [aj.bO,dh])) hk hm hb hM
 | .e::r,vs,ds,y,f,rest,K,μ,fp,v,h,hr,hi,hk,hm,hb,hM=>by
   simp only [aY] at hb;obtain ⟨v1,bg,rfl,hb⟩:=hb;cases ds with
   |nil=>simp [kI] at hm
   |cons d q=>
    simp only [ak] at hr;obtain ⟨_,_,e,hd,hr⟩:=hr;cases e;exact iP r h hr (λid dh=>hi id (by simp [aj.bO,dh])) hk hm hb hM
 | .k::r,vs,ds,y,f,rest,K,μ,fp,v,h,hr,hi,hk,hm,hb,hM=>by
   simp only [aY] at hb;obtain ⟨v1,bg,rfl,hb⟩:=hb;cases ds with
   |nil=>simp [kI] at hm
   |cons d q=>
    simp only [ak] at hr;obtain ⟨_,_,e,hd,hr⟩:=hr;cases e;exact iP r h hr (λid dh=>hi id (by simp [aj.bO,dh])) hk hm hb hM
 | .ro _::r,vs,ds,y,f,rest,K,μ,fp,v,h,hr,hi,hk,hm,hb,hM=>by
   simp only [aY] at hb;obtain ⟨v1,bg,rfl,hb⟩:=hb;cases ds with
   |nil=>simp [kI] at hm
   |cons d q=>
    simp only [ak] at hr;obtain ⟨_,_,e,hd,hr⟩:=hr;cases e;exact iP r h hr (λid dh=>hi id (by simp [aj.bO,dh])) hk hm hb hM
 | .own _::r,vs,ds,y,f,rest,K,μ,fp,v,h,hr,hi,hk,hm,hb,hM=>by
   simp only [aY] at hb;obtain ⟨v1,bg,rfl,hb⟩:=hb;cases ds with
   |nil=>simp [kI] at hm
   |cons d q=>
    simp only [ak] at hr;obtain ⟨_,_,e,hd,hr⟩:=hr;cases e;exact iP r h hr (λid dh=>hi id (by simp [aj.bO,dh])) hk hm hb hM
 | .mut e::r,vs,ds,y,f,rest,K,μ,fp,v,h,hr,hi,hk,hm,hb,hM=>by
   simp only [aY] at hb;obtain ⟨v1,bg,f1,f2,rfl,rfl,hx,hb⟩:=hb;cases ds with
   |nil=>simp [kI] at hm
   |cons d q=>
    simp only [ak] at hr;obtain ⟨_,_,e',hd,hr⟩:=hr;cases e';simp only [kI] at hm;have h':iS c K μ fp v w (f1++(f2++rest)):=by rw [← adO];exact h
    rcases hm.1 with rfl|⟨id,a,len,cap,rfl,GR⟩
    . exact iP r h'.drop hr (λid dh=>hi id (by simp [aj.bO,dh])) hk hm.2 hb (λb hb=>hM b (by simp [hb]))
    . simp only [az] at hd
      obtain ⟨a',qK,lJ,sz,g1,rfl⟩:=hd;rw [GR] at g1;cases g1;have fg:K0 id:=hi id (by simp [aj.bO,aj.ids]);have vn:=hx;simp only [Ty.aC] at vn;obtain ⟨a2,cap2,e2,_,_⟩:=vn;cases e2;have oU:cR c μ w id f1 (.arr e y.1):=⟨a,cap,(hk id fg).2.trans GR,hx,λb hb=>hM b (by simp [hb])⟩
      have h2:=h'.add (K':=K) (μ':=μ) (id0:=id) (λ_ _=>rfl) (λ_ hi=>hi) (hk id fg).1 (λ_ hi=>by cases hi) oU;obtain ⟨fp',h3⟩:=iP r h2 hr (λid dh=>hi id (by simp [aj.bO,dh])) hk hm.2 hb (λb hb=>hM b (by simp [hb]));exact ⟨fp',h3⟩
theorem Mt {l new:List aj} {off id:Nat} (h:id∈aj.bO (fP l off new)):id∈aj.bO l∨id∈aj.bO new:=by
 obtain ⟨d,hd,hi⟩:=hY.1 h;simp only [fP,adE] at hd;rcases hd with (hd|hd)|hd
 . exact .inl (hY.2 ⟨d,List.mem_of_mem_take hd,hi⟩)
 . exact .inr (hY.2 ⟨d,hd,hi⟩)
 . exact .inl (hY.2 ⟨d,akx hd,hi⟩)
def Oy (w0 w:World) (g:List (Nat×Nat×Nat)):Prop:=
 ∀ B o m,(B,o,m)∈g→∃ C C' T,w0.heap[B]? =some (.cells C T (0,0))∧w.heap[B]? =some (.cells C' T (0,0))∧C'.size=C.size∧∀ j,¬ (o≤j∧j<o+m)→C'[j]? =C[j]?
theorem FN {C C':Array Value} {o off n L:Nat} (hz:C'.size=C.size) (hC:o+L≤C.size) (hn:off+n≤L) (hj:∀ j,¬ (o+off≤j∧j<o+off+n)→C'[j]? =C[j]?):
  (C'.toList.drop o).take L=((C.toList.drop o).take L).take off++(C'.toList.drop (o+off)).take n++((C.toList.drop o).take L).drop (off+n):=by
 apply ae8;intro i;have h1:(List.take off (List.take L (List.drop o C.toList))).length=off:=by simp;omega
 have h2:(List.take n (List.drop (o+off) C'.toList)).length=n:=by simp;omega
 have hg:∀ j,C'.toList[j]? =C'[j]? :=λj=>aeD;have hg':∀ j,C.toList[j]? =C[j]? :=λj=>aeD;rw [List.getElem?_append,List.getElem?_append,aaY,h1,h2];by_cases hi:i<L
 . rw [aeb hi,ad5,hg]
   by_cases h3:i<off
   . rw [aaZ,aaZ h3,aeb h3,aeb hi,ad5,hg',hj _ (by omega)]
   . by_cases h4:i<off+n
     . rw [aaZ h4,aae h3,aeb (by omega),ad5,hg]
       congr 1;omega
     . rw [aae h4,ad5,aeb (by omega),ad5,hg',hj _ (by omega)]
       congr 1;omega
 . rw [afA (by simp;omega),aae,ad5,afA (by simp;omega)]
theorem R7 (B8:∀ id x,v0 id=some x→cR c0 μ0 w0 id (fp0 id) x) (GU:∀ (ds:List aj) {vs:List Value},ak c0 μ0 vs ds→ak c μ0 vs ds) (hM0:∀ b j,(b<c0.w0.heap.size→c0.M b j)→b<c.w0.heap.size→c.M b j) (hE:∀ id x,E id=some x→v0 id=some x) (hK0:∀ id x,v0 id=some x→K0 id∧∀ eD∈x.ids,K0 eD) {S':Nat→Prop}:
  (it:Item)→∀ {d:Value} {dd:aj} {r:uK it.cs×List Nat} {y:vL it} {f0 f rest:List Nat} {g:List (Nat×Nat×Nat)} {n:Nat} {K:Nat→Prop} {μ:Nat→Loc} {fp:Nat→List Nat} {v:Env},
  iS c K μ fp v w (f++g.map (·.1)++rest)→az c μ0 d dd→(∀ id∈dd.ids,K0 id)→(∀ id,K0 id→K id∧μ id=μ0 id)→Mo E EL it dd=some r→cZ S' w0 it d r.1 f0 g→s7 c.fz w0 w it d y f→
  (∀ b∈f,b<c.w0.heap.size→∀ j,c.M b j)→Oy w0 w g→(∀ id,n≤id→id<(oz E it dd y n).2→¬ K id)→
  n≤(oz E it dd y n).2∧ub c K μ v w rest n (oz E it dd y n).2 (oz E it dd y n).1 λ_=>True
 |⟨false,a,cs⟩,d,dd,r,y,f0,f,rest,g,n,K,μ,fp,v,h,hd,hi,hk,ht,hr,hb,hM,_,_=>by
  simp only [cZ] at hr;obtain ⟨rfl,_⟩:=hr;replace ht:(if isAgg dd=a∧dd.cells.all aj.bB=true then fU E EL cs dd.cells else none)=some r:=ht;split at ht
  case isFalse=>cases ht
  rename_i hc;have Ep:∀ id∈aj.bO dd.cells,K0 id:=by
   intro id fg;refine hi id ?_;by_cases ha:∃ ds,dd= .agg ds
   . obtain ⟨ds,rfl⟩:=ha;exact fg
   . have hdd:dd.cells=[dd]:=by cases dd<;>first|rfl|exact absurd ⟨_,rfl⟩ ha
     rw [hdd] at fg;simpa [aj.bO] using fg
  obtain ⟨fp',h1⟩:=iP cs (by simpa using h) (hd.cells hc.2) Ep hk (gA B8 hE cs ht) hb hM;exact ⟨adK n,μ,fp',trivial,h1.weaken λ_=> .inl,λ_ _=>rfl⟩
 |⟨true,a,cs⟩,d,dd,r,y,f0,f,rest,g,n,K,μ,fp,v,h,hd,hi,hk,ht,hr,hb,hM,hP,ku=>by
  cases dd<;>try (cases ht;done)
  rename_i id off;replace ht:(match E id with|some (.var l)=>if off+cs.length≤l.length then (fU E EL cs ((l.drop off).take cs.length)).map λy=>(y.1,id::y.2) else none|_=>none)=some r:=ht;split at ht
  case h_2=>cases ht
  rename_i l fg;split at ht
  case isFalse=>cases ht
  rename_i hl;have hv:=hE id _ fg;have YL:=hK0 id _ hv;obtain ⟨B,o,C,T,h1,h2,h3,h4,h5,h6,h7⟩:=B8 id _ hv;replace h5:=GU _ h5;simp only [az] at hd;obtain ⟨B',o',e1,rfl⟩:=hd;rw [h1] at e1;cases e1;simp only [cZ] at hr;obtain ⟨B2,o2,C2,T2,rfl,e2,_,_,hr⟩:=hr;simp only [Value.pointer.injEq,adI,Addr.mk.injEq,ahb] at e2;obtain ⟨rfl,rfl⟩:=e2;obtain ⟨B3,o3,e3,hb⟩:=hb;simp only [Value.pointer.injEq,adI,Addr.mk.injEq,ahb] at e3;obtain ⟨rfl,rfl⟩:=e3;obtain ⟨C1,C',T',p1,p2,p3,p4⟩:=hP B (o+off) cs.length (by simp);rw [h3] at p1;cases p1;have gu:aK w0 B (o+off) cs.length=((aK w0 B o l.length).drop off).take cs.length:=jt (by omega);have hbk:oz E ⟨true,a,cs⟩ (.vptr id off) y n=((cb cs ((l.drop off).take cs.length) y n).2.1++[(id, .var (fP l off (cb cs ((l.drop off).take cs.length) y n).1))],(cb cs ((l.drop off).take cs.length) y n).2.2):=by
   show (match E id with|some (.var l)=>_|_=>_)=_;rw [fg]
  rw [hbk] at ku ⊢;simp only at ku ⊢;have afP:∀ i∈aj.bO ((l.drop off).take cs.length),K0 i:=λi dh=>by
   obtain ⟨q,hq,hqi⟩:=hY.1 dh;exact YL.2 i (hY.2 ⟨q,akx (List.mem_of_mem_take hq),hqi⟩)
  have nI:((l.drop off).take cs.length).all aj.bB=true:=by
   rw [adG] at h6 ⊢;exact λq hq=>h6 q (akx (List.mem_of_mem_take hq))
  have hlen:(aK w B (o+off) cs.length).length=cs.length:=by
   rw [cM p2];simp;omega
  obtain ⟨Ba,MJ,g1,g2,g3⟩:=jK (K0:=K0) (μ0:=μ0) cs (rest:=[B]++rest) (by simpa using h) (by rw [gu];exact (h5.drop off).take cs.length) afP hk hb hM ku;have hle:=gz cs ((l.drop off).take cs.length) y n;have eK:=ll (K:=K0) cs ((l.drop off).take cs.length) y n nI afP;have hnl:(cb cs ((l.drop off).take cs.length) y n).1.length=cs.length:=by rw [← g1.length,hlen]
  have hag:∀ i,K0 i→Ba i=μ0 i:=λi dh=>(g3 i (hk i dh).1).trans (hk i dh).2;have oU:cR c Ba w id [B] (.var (fP l off (cb cs ((l.drop off).take cs.length) y n).1)):=by
   refine ⟨B,o,C',T,(hag id YL.1).trans h1,rfl,p2, ?_, ?_,nJ h6 eK.1, ?_⟩
   . rw [ju];omega
   . rw [ju,cM p2,FN p3 h4 hl p4]
     have:=ow (ak.mono l (λi dh=>hag i (YL.2 i dh)) h5) g1 off;rw [hlen] at this;rw [cM h3,cM p2] at this;exact this
   . intro cf j hj
     rw [ju] at hj;exact hM0 B (o+j) (λq=>h7 q j hj) cf
  refine ⟨hle,Ba,λk=>if k=id then [B] else MJ k,trivial, ?_,g3⟩;rw [kF,dV];refine g2.add (μ':=Ba) (λ_ _=>rfl) (λ_ dh=>dh) (.inl (hk id YL.1).1) (λi dh=> ?_) oU;rcases Mt dh with dh|dh
  . exact .inl (hk i (YL.2 i dh)).1
  . rcases eK.2 i dh with q|q
    . exact .inl (hk i q).1
    . exact .inr q
theorem YM {E:Env}:(it:Item)→(d:aj)→(y:vL it)→(n:Nat)→n≤(oz E it d y n).2
 |⟨false,_,cs⟩,d,y,n=>adK n
 |⟨true,a,cs⟩,d,y,n=>by
  cases d<;>try exact adK n
  rename_i id off;show n≤(match E id with|some (.var l)=>((cb cs ((l.drop off).take cs.length) y n).2.1++[(id,bV.var (fP l off (cb cs ((l.drop off).take cs.length) y n).1))],(cb cs ((l.drop off).take cs.length) y n).2.2)|_=>(([],n):List (Nat×bV)×Nat)).2;split
  . exact gz _ _ _ _
  . exact adK n
theorem Hm {E:Env}:(l:List Item)→(ds:List aj)→(y:iC l)→(n:Nat)→n≤(kv E l ds y n).2
 |[],_,_,n=>adK n
 |_::_,[],_,n=>adK n
 |it::l,d::q,y,n=>adQ (YM it d y.1 n) (Hm l q y.2 _)
theorem EY (B8:∀ id x,v0 id=some x→cR c0 μ0 w0 id (fp0 id) x) (GU:∀ (ds:List aj) {vs:List Value},ak c0 μ0 vs ds→ak c μ0 vs ds) (hM0:∀ b j,(b<c0.w0.heap.size→c0.M b j)→b<c.w0.heap.size→c.M b j) (hE:∀ id x,E id=some x→v0 id=some x) (hK0:∀ id x,v0 id=some x→K0 id∧∀ eD∈x.ids,K0 eD) {S':Nat→Prop}:
  (l:List Item)→∀ {vs:List Value} {ds:List aj} {r:aw l×List Nat} {y:iC l} {f0 f rest:List Nat} {g:List (Nat×Nat×Nat)} {n:Nat} {K:Nat→Prop} {μ:Nat→Loc} {fp:Nat→List Nat} {v:Env},
  iS c K μ fp v w (f++g.map (·.1)++rest)→ak c μ0 vs ds→(∀ id∈aj.bO ds,K0 id)→(∀ id,K0 id→K id∧μ id=μ0 id)→nM E EL l ds=some r→ba S' w0 l vs r.1 f0 g→eh c.fz w0 w l vs y f→
  (∀ b∈f,b<c.w0.heap.size→∀ j,c.M b j)→Oy w0 w g→(∀ id,n≤id→id<(kv E l ds y n).2→¬ K id)→
  n≤(kv E l ds y n).2∧ub c K μ v w rest n (kv E l ds y n).2 (kv E l ds y n).1 λ_=>True
 |[],vs,ds,r,y,f0,f,rest,g,n,K,μ,fp,v,h,hd,hi,hk,ht,hr,hb,hM,_,_=>by
  simp only [ba] at hr;obtain ⟨rfl,rfl,rfl⟩:=hr;simp only [eh] at hb;obtain ⟨_,rfl⟩:=hb;exact ⟨adK n,μ,fp,trivial,iS.weaken (show iS c K μ fp v w rest by simpa using h) λ_=> .inl,λ_ _=>rfl⟩
 |it::l,vs,ds,r,y,f0,f,rest,g,n,K,μ,fp,v,h,hd,hi,hk,ht,hr,hb,hM,hP,ku=>by
  cases ds with
  |nil=>cases ht
  |cons d q=>
   replace ht:((Mo E EL it d).bind λx=>(nM E EL l q).map λy=>((x.1,y.1),x.2++y.2))=some r:=ht;obtain ⟨z,hz,ht⟩:=WP.1 ht;obtain ⟨z2,Y1,rfl⟩:=ST.1 ht;simp only [ba] at hr;obtain ⟨d1,bg,f1,f2,g1,g2,rfl,rfl,rfl,hr1,hr⟩:=hr;simp only [eh] at hb;obtain ⟨d2,Y7,b1,b2,e,rfl,MA,hb⟩:=hb;cases e;simp only [ak] at hd;obtain ⟨d3,vs3,e,hd1,hd⟩:=hd;cases e;have hp:(b1++b2++(g1++g2).map (·.1)++rest).Perm (b1++g1.map (·.1)++(b2++g2.map (·.1)++rest)):=by
    rw [akY];refine (List.Perm.append_right rest (vN b1 b2 _ _)).trans ?_;rw [adO]
   have e1:(kv E (it::l) (d::q) y n).2=(kv E l q y.2 (oz E it d y.1 n).2).2:=rfl;have e2:(kv E (it::l) (d::q) y n).1=(oz E it d y.1 n).1++(kv E l q y.2 (oz E it d y.1 n).2).1:=rfl;rw [e1] at ku ⊢;rw [e2];have anc:(oz E it d y.1 n).2≤(kv E l q y.2 (oz E it d y.1 n).2).2:=Hm l q y.2 _;obtain ⟨l1,Ba,MJ,_,q2,q3⟩:=R7 B8 GU hM0 hE hK0 it (h.perm hp) hd1 (λid dh=>hi id (by simp [aj.bO,dh])) hk hz hr1 MA (λb hb=>hM b (by simp [hb])) (λB o m hm=>hP B o m (by simp [hm])) (λid p1 p2=>ku id p1 (by omega));obtain ⟨l2,μ2,fp2,_,p2,p3⟩:=EY B8 GU hM0 hE hK0 l q2 hd (λid dh=>hi id (by simp [aj.bO,dh])) (λid dh=>⟨.inl (hk id dh).1,(q3 id (hk id dh).1).trans (hk id dh).2⟩) Y1 hr hb (λb hb=>hM b (by simp [hb]))
    (λB o m hm=>hP B o m (by simp [hm])) (λid p1 p2 p3=>p3.elim (ku id (by omega) p2) (by omega))
   refine ⟨by omega,μ2,fp2,trivial, ?_,λid dh=>(p3 id (.inl dh)).trans (q3 id dh)⟩;rw [kF,dV];refine p2.weaken λid dh=> ?_;rcases dh with (dh|dh)|dh
   . exact .inl dh
   . right;omega
   . right;omega
end
end
section
open Go
variable {z:Fz}
theorem BP:∀ {g:List (Nat×Nat×Nat)},(g.map (·.1)).Nodup→∀ {B:Nat} {x y:Nat×Nat},(B,x)∈g→(B,y)∈g→x=y
 |[],_,_,_,_,h,_=>by cases h
 |a::g,hn,B,x,y,h1,h2=>by
  simp only [ael,aeP] at hn;rcases adM.1 h1 with e1|h1
  . rcases adM.1 h2 with e2|h2
    . rw [← e1] at e2;cases e2;rfl
    . exact absurd (List.mem_map.2 ⟨_,h2,by rw [← e1]⟩) hn.1
  . rcases adM.1 h2 with e2|h2
    . exact absurd (List.mem_map.2 ⟨_,h1,by rw [← e2]⟩) hn.1
    . exact BP hn.2 h1 h2
theorem YN {c:Ctx} {μ:Nat→Loc} {vs:List Value} {ds:List aj} (h:ak c μ vs ds):az c μ (Ms vs) (adp ds):=by
 match ds,h with
 |[],h=>simp only [ak] at h;subst h;simp only [Ms,adp,az];exact ⟨_,rfl,by simp [ak]⟩
 |[d],h=>
  simp only [ak] at h;obtain ⟨v,bg,rfl,h1,rfl⟩:=h;exact h1
 |d1::d2::ds,h=>
  have h':=h;simp only [ak] at h;obtain ⟨v,bg,rfl,_,v2,Y7,rfl,_,_⟩:=h;simp only [Ms,adp,az];exact ⟨_,rfl,h'⟩
theorem Mu {C C':Array Value} (h:∀ j:Nat,C'[j]? =C[j]?):C'=C:=by
 apply Array.ext_getElem?;exact h
theorem sK {S:Nat→Prop} {w:World}:(l:List Item)→{vs:List Value}→{x:aw l}→{f:List Nat}→{g:List (Nat×Nat×Nat)}→ba S w l vs x f g→∀ B o m,(B,o,m)∈g→∃ C T,w.heap[B]? =some (.cells C T (0,0))
 |[],_,_,_,_,h=>by simp only [ba] at h;obtain ⟨_,rfl,rfl⟩:=h;simp
 |it::r,_,_,_,_,h=>by
  simp only [ba] at h;obtain ⟨v,bg,f1,f2,g1,g2,rfl,rfl,rfl,h1,h⟩:=h;intro B o m hm;rcases adE.1 hm with hm|hm
  . obtain ⟨p,a,cs⟩:=it
    cases p with
    |false=>simp only [cZ] at h1;rw [h1.1] at hm;cases hm
    |true=>
     simp only [cZ] at h1;obtain ⟨B',o',C,T,rfl,_,hb,_⟩:=h1;simp only [aey,ad3] at hm;obtain ⟨rfl,_,_⟩:=hm;exact ⟨C,T,hb⟩
  . exact sK r h B o m hm
theorem gB {w:World}:(l:List Cm)→{vs:List Value}→{y:qX l}→{f:List Nat}→aY z w l vs y f→∀ b∈f,b<w.heap.size
 |[],_,_,_,h=>by simp only [aY] at h;rw [h.2];simp
 | .b::r,_,_,_,h=>by simp only [aY] at h;obtain ⟨_,bg,rfl,h⟩:=h;exact gB r h
 | .i _::r,_,_,_,h=>by simp only [aY] at h;obtain ⟨_,bg,rfl,h⟩:=h;exact gB r h
 | .s::r,_,_,_,h=>by simp only [aY] at h;obtain ⟨_,bg,rfl,h⟩:=h;exact gB r h
 | .e::r,_,_,_,h=>by simp only [aY] at h;obtain ⟨_,bg,rfl,h⟩:=h;exact gB r h
 | .k::r,_,_,_,h=>by simp only [aY] at h;obtain ⟨_,bg,rfl,h⟩:=h;exact gB r h
 | .ro e::r,_,_,_,h=>by simp only [aY] at h;obtain ⟨_,bg,rfl,h⟩:=h;exact gB r h
 | .own e::r,_,_,_,h=>by simp only [aY] at h;obtain ⟨_,bg,rfl,h⟩:=h;exact gB r h
 | .mut e::r,_,_,_,h=>by
   simp only [aY] at h;obtain ⟨_,bg,f1,f2,rfl,rfl,h1,h⟩:=h;intro b hb;rcases adE.1 hb with hb|hb
   . exact Ty.iW _ h1 b hb
   . exact gB r h b hb
theorem gC {w:World}:(l:List Cm)→{os vs:List Value}→{y:mA l}→{f:List Nat}→bc z w l os vs y f→∀ b∈f,b<w.heap.size
 |[],_,_,_,_,h=>by simp only [bc] at h;rw [h.2.2];simp
 | .b::r,_,_,_,_,h=>by simp only [bc] at h;obtain ⟨_,_,bg,rfl,rfl,h⟩:=h;exact gC r h
 | .i _::r,_,_,_,_,h=>by simp only [bc] at h;obtain ⟨_,_,bg,rfl,rfl,h⟩:=h;exact gC r h
 | .s::r,_,_,_,_,h=>by simp only [bc] at h;obtain ⟨_,_,bg,rfl,rfl,_,h⟩:=h;exact gC r h
 | .e::r,_,_,_,_,h=>by simp only [bc] at h;obtain ⟨_,_,_,bg,rfl,rfl,_,h⟩:=h;exact gC r h
 | .k::r,_,_,_,_,h=>by simp only [bc] at h;obtain ⟨_,_,bg,rfl,rfl,h⟩:=h;exact gC r h
 | .ro e::r,_,_,_,_,h=>by simp only [bc] at h;obtain ⟨_,_,bg,rfl,rfl,h⟩:=h;exact gC r h
 | .own e::r,_,_,_,_,h=>by
   simp only [bc] at h;obtain ⟨_,_,_,bg,f1,f2,rfl,rfl,rfl,h1,h⟩:=h;intro b hb;rcases adE.1 hb with hb|hb
   . exact Ty.iW _ h1 b hb
   . exact gC r h b hb
 | .mut e::r,_,_,_,_,h=>by
   simp only [bc] at h;obtain ⟨_,_,_,bg,f1,f2,rfl,rfl,rfl,h1,h⟩:=h;intro b hb;rcases adE.1 hb with hb|hb
   . exact Ty.iW _ h1 b hb
   . exact gC r h b hb
theorem AP {w w':World}:(l:List Item)→{vs:List Value}→{y:iC l}→{f:List Nat}→eh z w w' l vs y f→∀ b∈f,b<w'.heap.size
 |[],_,_,_,h=>by simp only [eh] at h;rw [h.2];simp
 |it::r,_,_,_,h=>by
  simp only [eh] at h;obtain ⟨v,bg,f1,f2,rfl,rfl,h1,h⟩:=h;intro b hb;rcases adE.1 hb with hb|hb
  . obtain ⟨p,a,cs⟩:=it
    cases p with
    |false=>exact gB cs h1 b hb
    |true=>obtain ⟨B,o,_,h1⟩:=h1;exact gC cs h1 b hb
  . exact AP r h b hb
theorem Hn (l:List Item):R2 (λ_=>true) l=true:=by
 unfold R2;rw [adG];intro it _;rw [adG];intro x _;cases x<;>rfl
theorem eW {p:Ty→Bool} {z z':Fz} {w:World} (H:∀ (e:Ty),p e=true→∀ (cs:List Value) (x:List e.D) (f:List Nat),(Ty.sl e).aC z w cs x f→(Ty.sl e).aC z' w cs x f):
  (l:List Cm)→l.all (Jx p)=true→{vs:List Value}→{y:qX l}→{f:List Nat}→aY z w l vs y f→aY z' w l vs y f
 |[],_,_,_,_,h=>by simp only [aY] at h ⊢; exact h
 | .b::r,hn,_,_,_,h=>by simp only [aY] at h ⊢; obtain ⟨a,bg,e,h⟩:=h;exact ⟨a,bg,e,eW H r (by simpa [Jx] using hn) h⟩
 | .i _::r,hn,_,_,_,h=>by simp only [aY] at h ⊢; obtain ⟨a,bg,e,h⟩:=h;exact ⟨a,bg,e,eW H r (by simpa [Jx] using hn) h⟩
 | .s::r,hn,_,_,_,h=>by simp only [aY] at h ⊢; obtain ⟨a,bg,e,h⟩:=h;exact ⟨a,bg,e,eW H r (by simpa [Jx] using hn) h⟩
 | .e::r,hn,_,_,_,h=>by simp only [aY] at h ⊢; obtain ⟨a,bg,e,h⟩:=h;exact ⟨a,bg,e,eW H r (by simpa [Jx] using hn) h⟩
 | .k::r,hn,_,_,_,h=>by simp only [aY] at h ⊢; obtain ⟨a,bg,e,h⟩:=h;exact ⟨a,bg,e,eW H r (by simpa [Jx] using hn) h⟩
 | .ro _::r,hn,_,_,_,h=>by simp only [aY] at h ⊢; obtain ⟨a,bg,e,h⟩:=h;exact ⟨a,bg,e,eW H r (by simpa [Jx] using hn) h⟩
 | .own _::r,hn,_,_,_,h=>by
   simp only [aeB,aa6] at hn;simp only [aY] at h ⊢; obtain ⟨a,bg,e,h⟩:=h;exact ⟨a,bg,e,eW H r hn.2 h⟩
 | .mut e::r,hn,_,_,_,h=>by
   simp only [aeB,aa6,Jx] at hn;simp only [aY] at h ⊢;obtain ⟨a,bg,f1,f2,e1,e2,h1,h⟩:=h;exact ⟨a,bg,f1,f2,e1,e2,H e hn.1 _ _ _ h1,eW H r hn.2 h⟩
theorem eX {p:Ty→Bool} {z z':Fz} {w:World} (H:∀ (e:Ty),p e=true→∀ (cs:List Value) (x:List e.D) (f:List Nat),(Ty.sl e).aC z w cs x f→(Ty.sl e).aC z' w cs x f):
  (l:List Cm)→l.all (Jx p)=true→{os vs:List Value}→{y:mA l}→{f:List Nat}→bc z w l os vs y f→bc z' w l os vs y f
 |[],_,_,_,_,_,h=>by simp only [bc] at h ⊢; exact h
 | .b::r,hn,_,_,_,_,h=>by simp only [bc] at h ⊢; obtain ⟨a,b,bg,e1,e2,h⟩:=h;exact ⟨a,b,bg,e1,e2,eX H r (by simpa [Jx] using hn) h⟩
 | .i _::r,hn,_,_,_,_,h=>by simp only [bc] at h ⊢; obtain ⟨a,b,bg,e1,e2,h⟩:=h;exact ⟨a,b,bg,e1,e2,eX H r (by simpa [Jx] using hn) h⟩
 | .s::r,hn,_,_,_,_,h=>by simp only [bc] at h ⊢; obtain ⟨a,b,bg,e1,e2,e3,h⟩:=h;exact ⟨a,b,bg,e1,e2,e3,eX H r (by simpa [Jx] using hn) h⟩
 | .e::r,hn,_,_,_,_,h=>by simp only [bc] at h ⊢; obtain ⟨a,b,v,bg,e1,e2,e3,h⟩:=h;exact ⟨a,b,v,bg,e1,e2,e3,eX H r (by simpa [Jx] using hn) h⟩
 | .k::r,hn,_,_,_,_,h=>by simp only [bc] at h ⊢; obtain ⟨a,b,bg,e1,e2,h⟩:=h;exact ⟨a,b,bg,e1,e2,eX H r (by simpa [Jx] using hn) h⟩
 | .ro _::r,hn,_,_,_,_,h=>by simp only [bc] at h ⊢; obtain ⟨a,b,bg,e1,e2,h⟩:=h;exact ⟨a,b,bg,e1,e2,eX H r (by simpa [Jx] using hn) h⟩
 | .own e::r,hn,_,_,_,_,h=>by
   simp only [aeB,aa6,Jx] at hn;simp only [bc] at h ⊢;obtain ⟨a,b,v,bg,f1,f2,e1,e2,e3,h1,h⟩:=h;exact ⟨a,b,v,bg,f1,f2,e1,e2,e3,H e hn.1 _ _ _ h1,eX H r hn.2 h⟩
 | .mut e::r,hn,_,_,_,_,h=>by
   simp only [aeB,aa6,Jx] at hn;simp only [bc] at h ⊢;obtain ⟨a,b,v,bg,f1,f2,e1,e2,e3,h1,h⟩:=h;exact ⟨a,b,v,bg,f1,f2,e1,e2,e3,H e hn.1 _ _ _ h1,eX H r hn.2 h⟩
theorem l9 {p:Ty→Bool} {z z':Fz} {w w':World} (H:∀ (e:Ty),p e=true→∀ (cs:List Value) (x:List e.D) (f:List Nat),(Ty.sl e).aC z w' cs x f→(Ty.sl e).aC z' w' cs x f):
  (l:List Item)→R2 p l=true→{vs:List Value}→{y:iC l}→{f:List Nat}→eh z w w' l vs y f→eh z' w w' l vs y f
 |[],_,_,_,_,h=>by simp only [eh] at h ⊢; exact h
 |it::r,hn,_,_,_,h=>by
  have qZ:it.cs.all (Jx p)=true∧R2 p r=true:=by simpa [R2] using hn
  simp only [eh] at h ⊢;obtain ⟨v,bg,f1,f2,e1,e2,h1,h⟩:=h;refine ⟨v,bg,f1,f2,e1,e2, ?_,l9 H r qZ.2 h⟩;obtain ⟨q,a,cs⟩:=it;cases q with
  |false=>exact eW H cs qZ.1 h1
  |true=>obtain ⟨B,o,e3,h1⟩:=h1;exact ⟨B,o,e3,eX H cs qZ.1 h1⟩
theorem YO {P:Program} {K:bK} (hK:K.Ok P) {ds:List aj} {E:Env} {fr:Nat} {o:Out jR} {r:jR} (AQ:K.call ds E fr=some o) (ho:o.eval=some r)
  (c:Ctx) (μ:Nat→Loc) (fp:Nat→List Nat) (s:mU) (w:World) (vs:List Value) (_:c.P=P) (hv:dq c μ fp s.v w) (JV:rj s) (ev:Ev c w) (A0:ak c μ vs ds) (Ep:∀ id∈aj.bO ds,s.k id)
  (hE:∀ id x,E id=some x→s.v id=some x) (ku:∀ id,fr≤id→id<fr+64→¬ s.k id):
  qR P K.f vs.toArray w λv' w'=>∃ c' μ' fp',Ext c c'∧LS c' μ s r v' w' μ' fp':=by
 unfold bK.Ok at hK;unfold bK.call at AQ;obtain ⟨is,his,AQ⟩:=WP.1 AQ;obtain ⟨x,hx,AQ⟩:=WP.1 AQ;split at AQ
 case isFalse=>cases AQ
 rename_i hc;obtain ⟨uf,QG⟩:=hc;obtain rfl:=ac2 AQ;obtain ⟨y,hy,hr⟩:=dj ho;obtain ⟨ve,hiv,rfl,gu⟩:=Ae K.lay his A0;have aqe:∀ id∈aj.bO is,s.k id:=λid hi=>Ep id (gu id hi);have hn:=nG _ uf
 -- what is lent
 generalize Hk:Mp K E is=EL at hx QG;have aqf:∀ id x,EL id=some x→s.v id=some x:=by
  intro id z hz;rw [← Hk] at hz;unfold Mp at hz;by_cases hl:K.lend=true
  . rw [aaZ hl] at hz
    cases h0:nM E E K.aF is with
    |none=>rw [h0] at hz;cases hz
    |some q=>
     rw [h0] at hz;replace hz:(if q.2.contains id=true then none else E id)=some z:=hz;split at hz
     . cases hz
     . exact hE id z hz
  . rw [aae hl] at hz
    cases hz
 have aqg:K.lend=false→∀ id,EL id=none:=by
  intro hl id;rw [← Hk];unfold Mp;rw [aae (by simp [hl])];rfl
 have Ol:∀ id∈x.2,EL id=none:=by
  intro id hi;rcases QG with hl|⟨_,hl⟩
  . exact aqg hl id
  . have:=adG.1 hl id hi
    cases he:EL id with
    |none=>rfl
    |some z=>rw [he] at this;cases this
 let S':Nat→Prop:=λb=>c.S b∨∃ id,EL id≠none∧b∈fp id
 have hvn:∀ id,EL id≠none→s.v id≠none:=λid hi=>by
  obtain ⟨z,hz⟩:=Option.ne_none_iff_exists'.1 hi;rw [aqf id z hz];simp
 have vB:Ie S' w:=by
  refine ⟨?_,c.hS.2.mono (λb hb=> .inl hb) ev.S⟩
  rintro b (hb|⟨id,hi,hb⟩)
  . exact aeh (c.hS.1 b hb) ev.size
  . exact hv.lt id (hvn id hi) b hb
 obtain ⟨f,g,fc,hg⟩:=vO hv ev hE aqf (S':=S') (λb hb=> .inl hb) (λid hi b hb=> .inr ⟨id,hi,hb⟩) K.aF hiv hx hn;have xX:∀ b∈f++g.map (·.1),∀ id,s.v id≠none→id ∉ x.2→b ∉ fp id:=by
  intro b hb id hi hni cE;obtain ⟨i,him,hm⟩:=hg.mem b hb;exact hv.sep i id (λe=>hni (e ▸ him)) (hg.there i him).1 hi b hm cE
 have afQ:∀ b∈f++g.map (·.1),¬ S' b:=by
  rintro b hb (hs|⟨id,hi,hm⟩)
  . obtain ⟨i,him,hm⟩:=hg.mem b hb
    exact hv.kL i (hg.there i him).1 b hm hs
  . refine xX b hb id (hvn id hi) (λhim=>hi (Ol id him)) hm
 have cf:=oA K.aF fc;refine (hK x.1 y hy S' w vB ve f g fc hg.nodup afQ).mono λv' w' hd=> ?_;obtain ⟨⟨rvs,f1,g1,f2,rfl,⟨S2,_,RC,hs3,hrs,hbk⟩,alE,EZ⟩,D5⟩:=hd;have sx:=D5.size;have sx:w.heap.size≤w'.heap.size:=sx;have hcw:c.w0.heap.size≤w.heap.size:=ev.size;have hgn:(g.map (·.1)).Nodup:=(ad1.1 hg.nodup).2.1
 -- the memory
 have aqh:Ev c w':=by
  refine ev.comp D5 rfl (λb hb=> .inl hb) λb j hb hm=> ?_;rcases hm with hm|⟨o,m,hm,h1,h2⟩
  . exact hg.may b hm hb j
  . have:=hg.ads b o m hm hb (j - o) (by omega)
    rwa [show o+(j - o)=j by omega] at this
 have xV:∀ id,s.v id≠none→id ∉ x.2→∀ b∈fp id,w'.heap[b]? =w.heap[b]? :=by
  intro id hi hni b hb;rcases D5.Fy b (hv.lt id hi b hb) with e|⟨C,C',T,h1,h2,h3,h4⟩|⟨hm,_⟩
  . exact e
  . have h1:w.heap[b]? =some (.cells C T (0,0)):=h1
    have:C'=C:=Mu λj=>h4 j λhm=>by
     rcases hm with hm|⟨o,m,hm,_,_⟩
     . exact xX b (by simp [hm]) id hi hni hb
     . exact xX b (adE.2 (.inr (List.mem_map.2 ⟨_,hm,rfl⟩))) id hi hni hb
    rw [h2,h1,this]
  . rcases hm with hm|⟨o,m,hm,_,_⟩
    . exact absurd (by simp [hm]) λq=>xX b q id hi hni hb
    . exact absurd (adE.2 (.inr (List.mem_map.2 ⟨_,hm,rfl⟩))) λq=>xX b q id hi hni hb
 have adv:Oy w w' g:=by
  intro B o m hm;have hB:B∈f++g.map (·.1):=adE.2 (.inr (List.mem_map.2 ⟨_,hm,rfl⟩));obtain ⟨C0,T0,hC0⟩:=sK K.aF fc B o m hm;rcases D5.Fy B (cf B hB) with e|⟨C,C',T,h1,h2,h3,h4⟩|⟨_,_,_,_,h1,_⟩
  . have e:w'.heap[B]? =w.heap[B]? :=e
    exact ⟨C0,C0,T0,hC0,by rw [e,hC0],rfl,λ_ _=>rfl⟩
  . refine ⟨C,C',T,h1,h2,h3,λj hj=>h4 j λpP=> ?_⟩
    rcases pP with pP|⟨o',m',pP,q1,q2⟩
    . exact (ad1.1 hg.nodup).2.2 B pP B (List.mem_map.2 ⟨_,hm,rfl⟩) rfl
    . have:=BP hgn hm pP
      cases this;exact hj ⟨q1,q2⟩
  . have h1:w.heap[B]? =some (.stringIter _ _):=h1
    rw [hC0] at h1;cases h1
 -- the variables that are left
 let v0:Env:=cI s.v (x.2.map λk=>(k,none))
 have B8:∀ id,v0 id=if id∈x.2 then none else s.v id:=λid=>lM s.v x.2 id
 have Oz:∀ id,v0 id≠none→id ∉ x.2∧s.v id≠none:=by
  intro id hi;rw [B8] at hi;split at hi
  . exact absurd rfl hi
  . exact ⟨‹_›, hi⟩
 have afR:dq c μ fp v0 w':=hv.less (λid=>by
  rw [B8];split
  . exact .inl rfl
  . exact .inr rfl) sx λid hi b hb=>xV id (Oz id hi).2 (Oz id hi).1 b hb
 have rk:(f1++g1.map (·.1)++(f2++g.map (·.1))).Perm (f2++g.map (·.1)++(f1++g1.map (·.1)++[])):=by
  rw [aeX];exact List.perm_append_comm
 have atO:=oA K.rs hrs;have ln:∀ b∈f2++g.map (·.1)++(f1++g1.map (·.1)++[]),(b∈f++g.map (·.1))∨w.heap.size≤b:=by
  intro b hb;simp only [aeX,adE] at hb;rcases hb with (hb|hb)|hb
  . exact (EZ b (by simp [hb])).imp (λh=>by simp [h]) id
  . left;simp only [adE];exact .inr hb
  . exact (EZ b (by simp only [adE];exact .inl hb)).imp (λh=>by simp [h]) id
 -- the context from here on
 let Sn:Nat→Prop:=λb=>c.S b∨(K.lend=false∧S2 b)
 have aqi:∀ b,Sn b→c.S b∨w.heap.size≤b∨b∈f:=by
  rintro b (hb|⟨hl,hb⟩)
  . exact .inl hb
  . rcases (RC b hb).1 with (h|⟨id,hi,_⟩)|h
    . exact .inl h
    . exact absurd (aqg hl id) hi
    . exact .inr h
 have hSn:Ie Sn w':=by
  refine ⟨?_,c.hS.2.mono (λb hb=> .inl hb) aqh.S⟩
  rintro b (hb|⟨_,hb⟩)
  . have:=c.hS.1 b hb;omega
  . exact (RC b hb).2
 have Mc:Ext c (c.next w' Sn hSn):=Ext.next aqh (λb hb=> .inl hb) λb hb=>by
  rcases aqi b hb with h|h|h
  . exact .inl h
  . exact .inr (.inl (adQ hcw h))
  . rcases afw b c.w0.heap.size with rv|MI
    . exact .inr (.inr (hg.may b h rv))
    . exact .inr (.inl MI)
 have Ho:iS (c.next w' Sn hSn) s.k μ fp v0 w' (f2++g.map (·.1)++(f1++g1.map (·.1)++[])):=by
  refine ⟨afR.next Mc λid hi b hb hs=> ?_,λid z hz=> ?_,rk.nodup_iff.1 alE,λid hi b hb cE=> ?_,λb hb=> ?_⟩
  . rcases aqi b hs with h|h|h
    . exact afR.kL id hi b hb h
    . have:=hv.lt id (Oz id hi).2 b hb;omega
    . exact xX b (adE.2 (.inl h)) id (Oz id hi).2 (Oz id hi).1 hb
  . have F7:s.v id=some z:=by
     have:=Oz id (by rw [hz];simp);rw [B8,aae this.1] at hz;exact hz
    exact JV.v id z F7
  . obtain ⟨h1,h2⟩:=Oz id hi
    rcases ln b cE with h|h
    . exact xX b h id h2 h1 hb
    . have:=hv.lt id h2 b hb;omega
  . constructor
    . rintro (hs|⟨_,hs⟩)
      . rcases ln b hb with h|h
        . exact afQ b h (.inl hs)
        . have:=c.hS.1 b hs;omega
      . exact hs3 b (rk.mem_iff.2 hb) hs
    . simp only [aeX,adE] at hb
      rcases hb with (hb|hb)|hb
      . exact AP K.aF hbk b hb
      . exact aeh (cf b (by simp only [adE];exact .inr hb)) sx
      . exact atO b (by simpa only [adE] using hb)
 have hMf:∀ b,(b∈f∨w.heap.size≤b)→b<c.w0.heap.size→∀ j,c.M b j:=by
  intro b hb rv j;rcases hb with hb|hb
  . exact hg.may b hb rv j
  . omega
 have hMn:∀ b,(b∈f∨w.heap.size≤b)→∀ j,(c.next w' Sn hSn).M b j:=by
  intro b hb j;rcases afw b c.w0.heap.size with cf|MI
  . exact .inl (hMf b hb cf j)
  . exact .inr MI
 -- what comes back, and what is new
 unfold after at hr;simp only at hr;split at hr
 case isFalse=>cases hr
 rename_i afY;obtain rfl:=ac2 hr;rw [Hj] at afY;have hle:=yl K.rs (kv E K.aF is y.2 fr).2;replace hbk:eh (c.next w' Sn hSn).fz w w' K.aF ve y.2 f2:=by
  rcases QG with hl|⟨hl,_⟩
  . exact l9 (p:=λ_=>true) (λe _ _ _ _ h=>Ty.dI (show Fz.le ⟨S2,w'⟩ ⟨Sn,w'⟩ from λb hb=>⟨.inr ⟨hl,hb⟩,rfl⟩) _ h) K.aF (Hn K.aF) hbk
  . exact l9 (p:=Ty.so) (λe he _ _ _ h=>Ty.kH (.sl e) he h) K.aF hl.2 hbk
 obtain ⟨anc,Ba,MJ,_,hp1,ha1⟩:=EY hv.rel (λds _ hr=>ak.ext Mc ds hr) (λb j hb _=>by
  rcases afw b c.w0.heap.size with rv|MI
  . exact .inl (hb rv)
  . exact .inr MI) hE JV.v K.aF Ho (ak.ext Mc _ hiv) aqe (λid hi=>⟨hi,rfl⟩) hx fc hbk (λb hb _=>hMn b (EZ b (by simp [hb]))) adv
  (λid q1 q2=>ku id q1 (by omega))
 have atQ:ba Sn w' K.rs rvs y.1 f1 g1:=by
  rcases QG with hl|⟨hl,_⟩
  . exact EX (λb hb=> .inr ⟨hl,hb⟩) K.rs hrs
  . exact rn K.rs hl.1 hrs
 obtain ⟨μ2,fp2,RY,MM,ha2⟩:=sJ false (λb hb=>⟨hb,rfl⟩) K.rs hp1 atQ (ym _ _ _) (λb hb _=>hMn b (EZ b (by simp [hb])))
  (λB o m hm _ j _=>hMn B (EZ B (by simp only [adE,List.mem_map];exact .inl (.inr ⟨_,hm,rfl⟩))) (o+j)) (n:=(kv E K.aF is y.2 fr).2)
  (λid q1 q2 q3=>q3.elim (ku id (by omega) (by omega)) (by omega))
 refine ⟨_,μ2,fp2,Mc,⟨λid hi=>(ha2 id (.inl hi)).trans (ha1 id hi),YN RY, ?_,Ev.start _⟩⟩;rw [dV,kF,dV];exact MM.rel
theorem BS {P:Program}:∀ (l:List bK),(∀ K∈l,K.Ok P)→∀ {C:Cx},(C.call=Mq l)→ki C P:=by
 intro l hl C hC f ds E fr r hr c μ fp s w vs hP hv JV ev A0 Ep hE ku;rw [hC] at hr;clear hC
 induction l with
 |nil=>cases hr
 |cons K l ih=>
  simp only [Mq] at hr;split at hr
  . rename_i e;subst e
    split at hr
    . rename_i o e
      exact YO (hl K (by simp)) e hr c μ fp s w vs hP hv JV ev A0 Ep hE ku
    . exact ih (λK hK=>hl K (by simp [hK])) hr
  . exact ih (λK hK=>hl K (by simp [hK])) hr
end
section
open Go
variable {z:Fz}
mutual
def Ty.WF:(t:Ty)→t.D→Prop
 | .str,x=>List.length x≤cj
 | .sl e,xs=>List.length xs≤cj∧∀ (i:Nat) (y:e.D),nth (α:=e.D) xs i=some y→e.WF y
 | .fz e,xs=>List.length xs≤cj∧∀ (i:Nat) (y:e.D),nth (α:=e.D) xs i=some y→e.WF y
 | .st fs,x=>fs.WF x
 | .bool,_=>True
 | .int _,_=>True
 | .hole,_=>True
def aO.WF:(ts:aO)→ts.D→Prop
 | .nil,_=>True
 | .cons t ts,x=>t.WF x.1∧ts.WF x.2
end
mutual
theorem Ty.oB {S:Nat→Prop} {w:World}:(t:Ty)→{cs:List Value}→{x:t.D}→t.aT S w cs x→t.WF x
 | .bool,_,_,_=>by simp [Ty.WF]
 | .int _,_,_,_=>by simp [Ty.WF]
 | .str,_,_,h=>by simp only [Ty.aT] at h;simp only [Ty.WF];exact h.2
 | .hole,_,_,_=>by simp [Ty.WF]
 | .sl e,_,xs,h=>by
   simp only [Ty.aT] at h;obtain ⟨a,cap,_,hc,h⟩:=h;simp only [Ty.WF];refine ⟨hc.2,λi y hy=> ?_⟩;rcases h with h|⟨b,o,_,_,hi⟩
   . subst h;simp [nth] at hy
   . exact Ty.oB e (hi i y hy)
 | .fz e,_,xs,h=>by
   simp only [Ty.aT] at h;obtain ⟨a,cap,_,hc,h⟩:=h;simp only [Ty.WF];refine ⟨hc.2,λi y hy=> ?_⟩;rcases h with h|⟨b,o,_,_,hi⟩
   . subst h;simp [nth] at hy
   . exact Ty.oB e (hi i y hy)
 | .st fs,_,_,h=>by simp only [Ty.aT] at h;simp only [Ty.WF];exact aO.oB fs h
theorem aO.oB {S:Nat→Prop} {w:World}:(t:aO)→{cs:List Value}→{x:t.D}→t.aT S w cs x→t.WF x
 | .nil,_,_,_=>by simp [aO.WF]
 | .cons t ts,_,_,h=>by
   simp only [aO.aT] at h;obtain ⟨c1,c2,_,h1,h2⟩:=h;simp only [aO.WF];exact ⟨Ty.oB t h1,aO.oB ts h2⟩
end
mutual
theorem Ty.mJ {w:World}:(t:Ty)→{cs:List Value}→{x:t.D}→{f:List Nat}→t.aC z w cs x f→t.WF x
 | .bool,_,_,_,_=>by simp [Ty.WF]
 | .int _,_,_,_,_=>by simp [Ty.WF]
 | .str,_,_,_,h=>by simp only [Ty.aC] at h;simp only [Ty.WF];exact h.2.2
 | .hole,_,_,_,_=>by simp [Ty.WF]
 | .sl e,_,xs,_,h=>by
   simp only [Ty.aC] at h;obtain ⟨a,cap,_,hc,h⟩:=h;simp only [Ty.WF];refine ⟨hc.2,λi y hy=> ?_⟩;have cf:i<List.length xs:=(So.1 hy).1;rcases h with ⟨h0,_⟩|⟨b,o,c,E,fps,_,_,_,hl,_,hi⟩
   . omega
   . exact Ty.mJ e (hi i y (fps[i]'(hl ▸ cf)) hy (aa7 _))
 | .fz e,_,_,_,h=>by simp only [Ty.aC] at h;exact Ty.oB (.fz e) h.1
 | .st fs,_,_,_,h=>by simp only [Ty.aC] at h;simp only [Ty.WF];exact aO.mJ fs h
theorem aO.mJ {w:World}:(t:aO)→{cs:List Value}→{x:t.D}→{f:List Nat}→t.aC z w cs x f→t.WF x
 | .nil,_,_,_,_=>by simp [aO.WF]
 | .cons t ts,_,_,_,h=>by
   simp only [aO.aC] at h;obtain ⟨c1,c2,f1,f2,_,_,h1,h2⟩:=h;simp only [aO.WF];exact ⟨Ty.mJ t h1,aO.mJ ts h2⟩
end
theorem mJ {w:World} {t:Ty} {cs:List Value} {x:t.D} {f:List Nat} (h:t.aC z w cs x f):t.WF x:=Ty.mJ t h
def E0:(l:List Cm)→uK l→Prop
 |[],_=>True
 | .b::r,x=>E0 r x.2
 | .i _::r,x=>E0 r x.2
 | .s::r,x=>List.length x.1≤cj∧E0 r x.2
 | .e::r,x=>E0 r x.2
 | .k::r,x=>E0 r x
 | .ro e::r,x=>(Ty.sl e).WF x.1∧E0 r x.2
 | .own e::r,x=>(Ty.sl e).WF x.1∧E0 r x.2
 | .mut e::r,x=>(Ty.sl e).WF x.1∧E0 r x.2
def aB:(l:List Item)→aw l→Prop
 |[],_=>True
 |it::r,x=>E0 it.cs x.1∧aB r x.2
theorem kc {S:Nat→Prop} {w:World}:(l:List Cm)→{vs:List Value}→{x:uK l}→{f:List Nat}→aV S w l vs x f→E0 l x
 |[],_,_,_,_=>by simp [E0]
 | .b::r,_,_,_,h=>by simp only [aV] at h;obtain ⟨bg,rfl,h⟩:=h;exact kc r h
 | .i _::r,_,_,_,h=>by simp only [aV] at h;obtain ⟨bg,rfl,h⟩:=h;exact kc r h
 | .s::r,_,_,_,h=>by simp only [aV] at h;obtain ⟨bg,rfl,hl,h⟩:=h;exact ⟨hl,kc r h⟩
 | .e::r,_,_,_,h=>by simp only [aV] at h;obtain ⟨_,bg,rfl,hl,h⟩:=h;exact kc r h
 | .k::r,_,_,_,h=>by simp only [aV] at h;obtain ⟨_,bg,rfl,hl,h⟩:=h;exact kc r h
 | .ro e::r,_,_,_,h=>by simp only [aV] at h;obtain ⟨v,bg,rfl,h1,h⟩:=h;exact ⟨Ty.oB _ h1,kc r h⟩
 | .own e::r,_,_,_,h=>by simp only [aV] at h;obtain ⟨v,bg,f1,f2,rfl,rfl,h1,h⟩:=h;exact ⟨mJ h1,kc r h⟩
 | .mut e::r,_,_,_,h=>by simp only [aV] at h;obtain ⟨v,bg,f1,f2,rfl,rfl,h1,h⟩:=h;exact ⟨mJ h1,kc r h⟩
theorem sL {S:Nat→Prop} {w:World}:(l:List Item)→{vs:List Value}→{x:aw l}→{f:List Nat}→{g:List (Nat×Nat×Nat)}→ba S w l vs x f g→aB l x
 |[],_,_,_,_,_=>by simp [aB]
 |it::r,_,_,_,_,h=>by
  simp only [ba] at h;obtain ⟨v,bg,f1,f2,g1,g2,rfl,rfl,rfl,h1,h⟩:=h;refine ⟨?_,sL r h⟩;obtain ⟨p,a,cs⟩:=it;cases p with
  |false=>simp only [cZ] at h1;exact kc cs h1.2.1
  |true=>simp only [cZ] at h1;obtain ⟨_,_,_,_,_,_,_,_,h1⟩:=h1;exact kc cs h1
theorem yn {c:Ctx} {μ:Nat→Loc}:(l:QL)→{vs:List Value}→{ds:List aj}→ak c μ vs ds→ak c μ (na l vs) (Ad l ds)
 |[],_,_,_=>by simp [na,Ad,ak]
 |none::l,vs,ds,h=>by
  cases ds with
  |nil=>simp only [ak] at h;subst h;exact yn l (by simp [ak])
  |cons d ds=>
   simp only [ak] at h;obtain ⟨v,bg,rfl,h1,h2⟩:=h;simp only [na,Ad,ak];exact ⟨v,_,rfl,h1,yn l h2⟩
 |some (g,k)::l,vs,ds,h=>by
  simp only [na,Ad,ak,az];exact ⟨_,_,rfl,⟨_,rfl,h.take k⟩,yn l (h.drop k)⟩
theorem yo:(l:QL)→{ds:List aj}→∀ id∈aj.bO (Ad l ds),id∈aj.bO ds
 |[],_=>by intro id h;cases h
 |none::l,[]=>λid h=>yo l id h
 |none::l,d::ds=>by
  intro id h;simp only [Ad,aj.bO,adE] at h ⊢;exact h.imp (λh=>h) (yo l id)
 |some (g,k)::l,ds=>by
  intro id h;simp only [Ad,aj.bO,aj.ids,adE] at h;rcases h with h|h
  . obtain ⟨d,hd,hi⟩:=hY.1 h
    exact hY.2 ⟨d,List.mem_of_mem_take hd,hi⟩
  . obtain ⟨d,hd,hi⟩:=hY.1 (yo l id h)
    exact hY.2 ⟨d,akx hd,hi⟩
def Af:List Cm→List Value→Nat→Nat→Value
 | .b::r,_::vs,n=>Af r vs n
 | .i _::r,_::vs,n=>Af r vs n
 | .s::r,_::vs,n=>Af r vs n
 | .e::r,_::vs,n=>Af r vs n
 | .k::r,v::vs,n=>λk=>if k=n then v else Af r vs (n+1) k
 | .ro _::r,v::vs,n=>λk=>if k=n then v else Af r vs (n+1) k
 | .own _::r,_::vs,n=>Af r vs (n+1)
 | .mut _::r,_::vs,n=>Af r vs (n+1)
 |_,_,_=>λ_=>Go.undef
def aqj (w:World):Item→Value→Nat→Nat→Value
 |⟨false,_,cs⟩,v,n=>Af cs v.cells.toList n
 |⟨true,_,cs⟩, .pointer (some a),n=>Af cs (aK w a.block a.off cs.length) (n+1)
 |⟨true,_,_⟩,_,_=>λ_=>Go.undef
def E2 (w:World):List Item→List Value→Nat→Nat→Value
 |it::r,v::vs,n=>λk=>if k<FM it n then aqj w it v n k else E2 w r vs (FM it n) k
 |_,_,_=>λ_=>Go.undef
theorem ma {c:Ctx} {tk:Bool}:(l:List Cm)→{vs:List Value}→{n:Nat}→(∀ k,n≤k→k<vM l n→c.tok k=Af l vs n k)→jb c tk l vs n
 |[],_,_,_=>by simp [jb]
 | .b::r,[],_,_=>by simp [jb]
 | .i _::r,[],_,_=>by simp [jb]
 | .s::r,[],_,_=>by simp [jb]
 | .e::r,[],_,_=>by simp [jb]
 | .k::r,[],_,_=>by simp [jb]
 | .ro _::r,[],_,_=>by simp [jb]
 | .own _::r,[],_,_=>by simp [jb]
 | .mut _::r,[],_,_=>by simp [jb]
 | .b::r,_::vs,n,h=>ma r h
 | .i _::r,_::vs,n,h=>ma r h
 | .s::r,_::vs,n,h=>ma r h
 | .e::r,_::vs,n,h=>ma r h
 | .k::r,v::vs,n,h=>by
   have l1:=ic r (n+1);have h:∀ k,n≤k→k<vM r (n+1)→c.tok k=if k=n then v else Af r vs (n+1) k:=h
   refine ⟨λ_=> ?_,ma r λk h1 h2=> ?_⟩
   . rw [h n (adK n) (by omega),aaZ rfl]
   . rw [h k (by omega) h2,aae]
 | .ro _::r,v::vs,n,h=>by
   have l1:=ic r (n+1);have h:∀ k,n≤k→k<vM r (n+1)→c.tok k=if k=n then v else Af r vs (n+1) k:=h
   refine ⟨λ_=> ?_,ma r λk h1 h2=> ?_⟩
   . rw [h n (adK n) (by omega),aaZ rfl]
   . rw [h k (by omega) h2,aae]
 | .own _::r,_::vs,n,h=>ma r λk h1 h2=>h k (by omega) h2
 | .mut _::r,_::vs,n,h=>ma r λk h1 h2=>h k (by omega) h2
theorem Ag {c:Ctx} {tk:Bool} {w:World}:(l:List Item)→{vs:List Value}→{n:Nat}→(∀ k,n≤k→k<oX l n→c.tok k=E2 w l vs n k)→nN c tk w l vs n
 |[],_,_,_=>by simp [nN]
 |it::r,[],_,_=>by simp [nN]
 |it::r,v::vs,n,h=>by
  have h:∀ k,n≤k→k<oX r (FM it n)→c.tok k=if k<FM it n then aqj w it v n k else E2 w r vs (FM it n) k:=h
  have l1:=Jy it n;have l2:=yl r (FM it n);refine ⟨?_,Ag r λk h1 h2=> ?_⟩
  . obtain ⟨p,a,cs⟩:=it
    cases p with
    |false=>
     refine ma cs λk h1 h2=> ?_;have h2:k<FM ⟨false,a,cs⟩ n:=h2;rw [h k h1 (by omega),aaZ h2];rfl
    |true=>
     intro B o e;subst e;refine ma cs λk h1 h2=> ?_;have h2:k<FM ⟨true,a,cs⟩ n:=h2;rw [h k (by omega) (by omega),aaZ h2];rfl
  . rw [h k (by omega) h2,aae]
def Ah (tmps:Array Value):ResultVar→Sem Value
 | .tmp t=>pure (tmps.getD t Go.undef)
 | .cell a t=>do loadVar t (← asAddr (tmps.getD a Go.undef))
theorem Jz {fn:Func} {rl:List ResultVar} (h:fn.results=rl.toArray) (hl:rl.length≤6) {tmps:Array Value} {P:Program} {w:World} {JA:List Value}
  (hv:rl.map (λr=>(Ah tmps r).run P w)=JA.map λv=> .ok v w):(results fn tmps).run P w= .ok (Ms JA) w:=by
 have he:results fn tmps=(do
   let vs ← fn.results.mapM (Ah tmps)
   pure (if h:vs.size=1 then vs[0] else .tuple vs)):=by
  unfold results;congr 1
 rw [he,h];clear he h;rcases rl with _|⟨a,_|⟨b,_|⟨c,_|⟨d,_|⟨e,_|⟨f,_|⟨g,l⟩⟩⟩⟩⟩⟩⟩<;>rcases JA with _|⟨u1,_|⟨u2,_|⟨u3,_|⟨u4,_|⟨u5,_|⟨u6,_|⟨u7,m⟩⟩⟩⟩⟩⟩⟩<;>
  first
   |(simp at hv;done)
   |(exfalso;simp only [aay] at hl;omega)
   |(simp at hv;simp [hv,Ms];done)
   |simp [Ms]
theorem Hp {c:Ctx} {C:Cx} (hC:kM C c.P) {μ:Nat→Loc} {fp:Nat→List Nat} {s:ed} {n:Nat} {a:Act} {w:World} (h:js c μ fp s.f n a w):
  ∀ (rl:List ResultVar) {ds:List aj},QF C s rl=some ds→∃ JA,ak c μ JA ds∧rl.map (λr=>(Ah a.tmps r).run c.P w)=JA.map λv=> .ok v w
 |[],ds,hd=>by
  cases hd;exact ⟨[],by simp [ak],rfl⟩
 |r::l,ds,hd=>by
  simp only [QF] at hd;obtain ⟨d,h1,hd⟩:=WP.1 hd;obtain ⟨q,h2,rfl⟩:=ST.1 hd;obtain ⟨JA,g1,g2⟩:=Hp hC h l h2;have Fi:∃ v,az c μ v d∧(Ah a.tmps r).run c.P w= .ok v w:=by
   cases r with
   |tmp j=>
    obtain rfl:=ac2 h1;exact ⟨_,h.tm j,by simp [Ah]⟩
   |cell j t=>
    simp only [aqd] at h1;split at h1
    case h_2=>cases h1
    rename_i id off hj;split at h1
    case h_2=>cases h1
    rename_i cs Ff;obtain ⟨ty,oT,h1⟩:=WP.1 h1;split at h1
    case isFalse=>cases h1
    rename_i hle;obtain rfl:=ac2 h1;have hv:=h.tm j;have hj:s.f.t j= .vptr id off:=hj;rw [hj] at hv;simp only [az] at hv;obtain ⟨B,o,e1,e2⟩:=hv;have Ff:s.f.v id=some (.var cs):=mq Ff;obtain ⟨B',o',D,T,e3,e4,e5,e6,e7,e8,_⟩:=h.vs.rel id _ Ff;rw [e1] at e3;cases e3;have gu:aK w B (o+off) ty.size=((aK w B o cs.length).drop off).take ty.size:=jt hle;have hr:ak c μ (aK w B (o+off) ty.size) ((cs.drop off).take ty.size):=by rw [gu];exact (e7.drop off).take ty.size
    have hlen:((cs.drop off).take ty.size).length=ty.size:=by simp;omega
    refine ⟨_,mW hr hlen, ?_⟩;simp only [Ah,e2];have:=AL (w:=w) (hC.ty t ty oT) (B:=B) (o':=o+off) rfl (hr.length.trans hlen);simpa [asAddr] using this
  obtain ⟨v,hv,lh⟩:=Fi;exact ⟨v::JA,by simp only [ak];exact ⟨v,JA,rfl,hv,g1⟩,by simp only [ael,lh,g2]⟩
theorem AR (tk:Bool):(l:List Item)→(x:aw l)→(n:Nat)→∀ id∈aj.bO (eu tk l x n).1,n≤id∧id<oX l n
 |[],_,_=>by intro id h;cases h
 |it::r,x,n=>by
  intro id h;have h:id∈(lP tk it x.1 n).1.ids++aj.bO (eu tk r x.2 (lP tk it x.1 n).2.2).1:=h;rw [sI] at h;have l1:=Jy it n;have l2:=yl r (FM it n);simp only [oX];rcases adE.1 h with h|h
  . have:=EU tk it x.1 n id h;omega
  . have:=AR tk r x.2 _ id h;omega
theorem aqk {S:Nat→Prop} {w:World}:(l:List Item)→{vs:List Value}→{x:aw l}→{f:List Nat}→{g:List (Nat×Nat×Nat)}→(l.all λit=>decide (0<it.cs.length))=true→ba S w l vs x f g→∀ B o m,(B,o,m)∈g→0<m
 |[],_,_,_,_,_,h=>by simp only [ba] at h;obtain ⟨_,rfl,rfl⟩:=h;simp
 |it::r,_,_,_,_,hp,h=>by
  simp only [ba] at h;obtain ⟨v,bg,f1,f2,g1,g2,rfl,rfl,rfl,h1,h⟩:=h;simp only [aeB,aa6,adS] at hp;intro B o m hm;rcases adE.1 hm with hm|hm
  . obtain ⟨p,a,cs⟩:=it
    cases p with
    |false=>simp only [cZ] at h1;rw [h1.1] at hm;cases hm
    |true=>
     simp only [cZ] at h1;obtain ⟨B',o',C,T,rfl,_,hb,_⟩:=h1;simp only [aey,ad3] at hm;obtain ⟨rfl,_,rfl⟩:=hm;exact hp.1
  . exact aqk r hp.2 h B o m hm
mutual
theorem az.nO {c:Ctx} {l μ:Nat→Loc}:{v:Value}→(d:aj)→az c μ v d→az { c with loc:=l } μ v d
 |_, .dead,h=>h
 |_, .kC,h=>h
 |_, .undef,h=>h
 |_, .b _,h=>h
 |_, .i _ _,h=>h
 |_, .s _,h=>h
 |_, .ro _ _ _,h=>h
 |_, .oR,h=>h
 |_, .dn id none,h=>h
 |_, .dn id (some (o,l)),h=>h
 |_, .vptr id off,h=>h
 |_, .kK id i off,h=>h
 |_, .Fe _ _ _,h=>h
 |_, .er _,h=>h
 |_, .kp _,h=>h
 |_, .agg ds,h=>by simp only [az] at h ⊢; obtain ⟨vs,e,h⟩:=h;exact ⟨vs,e,ak.nO ds h⟩
 |_, .MH ds,h=>by simp only [az] at h ⊢; obtain ⟨vs,e,h⟩:=h;exact ⟨vs,e,ak.nO ds h⟩
 |_, .fn f ds,h=>by simp only [az] at h ⊢; obtain ⟨vs,e,h⟩:=h;exact ⟨vs,e,ak.nO ds h⟩
theorem ak.nO {c:Ctx} {l μ:Nat→Loc}:{vs:List Value}→(ds:List aj)→ak c μ vs ds→ak { c with loc:=l } μ vs ds
 |_,[],h=>h
 |_,d::ds,h=>by
  simp only [ak] at h ⊢; obtain ⟨v,bg,e,h1,h2⟩:=h;exact ⟨v,bg,e,az.nO d h1,ak.nO ds h2⟩
end
theorem dq.nO {c:Ctx} {l μ:Nat→Loc} {fp:Nat→List Nat} {v:Env} {w:World} (h:dq c μ fp v w):dq { c with loc:=l } μ fp v w:=by
 refine ⟨λid x hx=> ?_,h.nodup,h.sep,h.kL,h.lt⟩;have:=h.rel id x hx;cases x with
 |var cs=>
  obtain ⟨B,o,C,E,h1,h2,h3,h4,h5,h6,h7⟩:=this;exact ⟨B,o,C,E,h1,h2,h3,h4,ak.nO cs h5,h6,h7⟩
 |arr e xs=>exact this
 |Ea e xs x i off u eD=>exact this
 |cut e ys k=>exact this
 |xN e xs i cs=>
  obtain ⟨a,cap,b,o,C,E,p,q,h1,h2,h3,h4,h5,h6,h7,h8,h9,h10⟩:=this;exact ⟨a,cap,b,o,C,E,p,q,h1,h2,h3,h4,h5,h6,h7,h8,ak.nO cs h9,h10⟩
 |it _ _=>exact this
structure St (P:Program) (C:Cx) (K:bK) (fn:Func) (code:Code) (rtm:List ResultVar) (A:Nat→Option au):Prop where
 func:P.funcs[K.f]? =some fn
 body:fn.body=some code
 name:(fn.name== "runtime.NumGoroutine")=false
 res:fn.results=rtm.toArray
 few:rtm.length≤6
 pR:oX K.aF 0≤64
 pos:(K.rs.all λit=>decide (0<it.cs.length))=true
 run:∀ x y,aB K.aF x→(K.F x).eval=some y→(Hv C A code K.aF K.lay fn.ntmps K.rs rtm x).eval=some y
structure adw (P:Program) (C:Cx) (K:bK) (fn:Func) (code:Code) (rtm:List ResultVar):Prop where
 func:P.funcs[K.f]? =some fn
 body:fn.body=some code
 name:(fn.name== "runtime.NumGoroutine")=false
 res:fn.results=rtm.toArray
 few:rtm.length≤6
 pR:oX K.aF 0≤64
 pos:(K.rs.all λit=>decide (0<it.cs.length))=true
 run:∀ x y,aB K.aF x→(K.F x).eval=some y→∀ (c:Ctx) (n:Nat) (a:Act) (w:World),c.P=P→ja c n (entry K.aF K.lay fn.ntmps x) a w→
  code.wp P (λe a' w'=>∃ ex s',e=YG ex∧ja c n s' a' w'∧(∀ m,ex≠ .exit m)∧leave C K.aF K.rs rtm s'=some y) a w
theorem E3 {P:Program} {C:Cx} {K:bK} {fn:Func} {code:Code} {rtm:List ResultVar} (hC:kM C P) (h:adw P C K fn code rtm):K.Ok P:=by
 unfold bK.Ok;intro x y hy S w hS ve f g fc uf Q3;refine ⟨⟨fn,h.func,h.name,by rw [h.body];rfl⟩,calls_of_wp h.func h.body ?_⟩;have atS:∀ tok loc,Ev (rO P S w f g tok loc hS) w:=λtok loc=>⟨adK _,rfl,rfl,λ_ _=>rfl,λ_ _=> .inl rfl,λ_ _=>rfl⟩
 have cf:=oA K.aF fc
 -- the variables at the start
 have hen:∃ μ fp,ak (rO P S w f g (E2 w K.aF ve 0) μ hS) μ ve (eu true K.aF x 0).1∧
   iS (rO P S w f g (E2 w K.aF ve 0) μ hS) (λid=>False∨(0≤id∧id<oX K.aF 0)) μ fp (cI (λ_=>none) (news (eu true K.aF x 0).2.1)) w []:=by
  let c0:=rO P S w f g (E2 w K.aF ve 0) default hS
  have Ho:iS c0 (λ_=>False) default (λ_=>[]) (λ_=>none) w (f++g.map (·.1)++[]):=by
   rw [aeX];refine ⟨⟨by simp,by simp,by simp,by simp,by simp⟩,by simp,uf,by simp,λb hb=>⟨Q3 b hb,cf b hb⟩⟩
  obtain ⟨μ,fp,h1,h2,_⟩:=sJ true (S:=S) (λb hb=>⟨hb,rfl⟩) K.aF Ho fc (Ag K.aF λk _ _=>rfl) (λb hb _ j=> .inl hb)
   (λB o m hb _ j hj=> .inr ⟨o,m,hb,by omega,by omega⟩) (λ_ _ _ h=>h)
  refine ⟨μ,fp,ak.nO (c:=c0) _ h1,⟨dq.nO (c:=c0) h2.rel,h2.known,h2.nodup,h2.far,h2.ok⟩⟩
 obtain ⟨μ,fp,A0,Ho⟩:=hen
 let c:=rO P S w f g (E2 w K.aF ve 0) μ hS
 have Ep:∀ id∈aj.bO (eu true K.aF x 0).1,id<64:=λid hi=>aeh (AR true K.aF x 0 id hi).2 h.pR;have aqm:=yn K.lay A0;have GW:(na K.lay ve).length=(Ad K.lay (eu true K.aF x 0).1).length:=aqm.length;have alY:∀ id,id<64→id / 64∈[0]:=λid hi=>by rw [Nat.div_eq_of_lt hi];simp
 have atT:∀ m,ak c μ (List.replicate m Go.undef) (List.replicate m .undef):=λm=>by
  induction m with
  |zero=>simp [ak]
  |succ m ih=>simp only [List.replicate_succ,ak];exact ⟨_,_,rfl,by simp [az],ih⟩
 let n:=(entry K.aF K.lay fn.ntmps x).t.length
 have htm:ak c μ ((na K.lay ve).toArray++Array.replicate (fn.ntmps - (na K.lay ve).toArray.size) Go.undef).toList (entry K.aF K.lay fn.ntmps x).t:=by
  simp only [Array.toList_append,Array.toList_replicate,List.size_toArray];rw [GW];exact aqm.append (atT _)
 have hD:ja c n (entry K.aF K.lay fn.ntmps x) { tmps:=(na K.lay ve).toArray++Array.replicate (fn.ntmps - (na K.lay ve).toArray.size) Go.undef,defers:=[] } w:=by
  refine ⟨⟨c,μ,fp,Ext.refl c, ?_, ?_,rfl, ?_,⟨?_, ?_⟩,atS _ _,λid hi=>⟨alY id hi,rfl⟩⟩,λd b hf=>(by cases hf),rfl⟩
  . intro j
    show az c μ _ ((entry K.aF K.lay fn.ntmps x).t.getD j .dead);rw [aeq];cases hj:(entry K.aF K.lay fn.ntmps x).t[j]? with
    |none=>simp [az]
    |some d=>
     obtain ⟨u,hu,hr⟩:=htm.get hj;rw [agB, ← aeD,hu];exact hr
  . show (entry K.aF K.lay fn.ntmps x).t.length≤Array.size _
    rw [← htm.length,Array.length_toList];exact adK _
  . show dq c μ fp (bp (Fx [] (news (eu true K.aF x 0).2.1)++[])) w
    rw [aeX,zZ];exact Ho.rel
  . intro j id hi
    have hi:id∈((entry K.aF K.lay fn.ntmps x).t.getD j .dead).ids:=hi;rw [aeq] at hi;cases hj:(entry K.aF K.lay fn.ntmps x).t[j]? with
    |none=>rw [hj] at hi;cases hi
    |some d=>
     rw [hj] at hi;have hm:=afF hj;simp only [entry,adE,List.mem_replicate] at hm;refine alY id (Ep id (yo K.lay id ?_));rcases hm with hm|⟨_,rfl⟩
     . exact hY.2 ⟨d,hm,hi⟩
     . cases hi
  . intro id z hz
    have hz:bp (Fx [] (news (eu true K.aF x 0).2.1)++[]) id=some z:=hz;rw [aeX,zZ] at hz;have:=Ho.known id z hz;have hh:∀ i,(False∨0≤i∧i<oX K.aF 0)→i / 64∈[0]:=λi hi=>alY i (by have:=h.pR;rcases hi with hi|hi;exact hi.elim;omega);exact ⟨hh id this.1,λi hi=>hh i (this.2 i hi)⟩
 -- the run
 refine wp_mono (h.run x y (sL K.aF fc) hy c n _ w rfl hD) λe a' w' he=> ?_;obtain ⟨ex,s',rfl,he,fE,hlv⟩:=he;have Fw:a'.defers=[]∧∃ v,(results fn a'.tmps).run P w'= .ok v w'∧agS P S w hS K ve f g y v w':=by
  have hz:=hlv;obtain ⟨⟨c1,μ',fp',Sr,hx⟩,_,_⟩:=he;have hP1:c1.P=P:=Sr.P;unfold leave at hz;obtain ⟨dr,tY,hz⟩:=WP.1 hz;obtain ⟨rvs,atU,afS⟩:=Hp (by rw [hP1];exact hC) hx rtm tY;rw [hP1] at afS;refine ⟨hx.defers,_,Jz h.res h.few afS, ?_⟩;obtain ⟨q,hq,hz⟩:=WP.1 hz;obtain ⟨p,hp,hz⟩:=WP.1 hz;split at hz
  case isFalse=>cases hz
  rename_i G1;obtain ⟨hn,Hk⟩:=G1;obtain rfl:=ac2 hz;have hn:=nG _ hn;have JL:=ad1.1 hn;generalize hEq:ES K.rs (bp s'.v) dr q.2=EL at hp Hk;have alZ:∀ id z,EL id=some z→bp s'.v id=some z∧(∀ (c:Ctx) μ w f,cR c μ w id f z→∀ b∈f,b<c.w0.heap.size→∀ j,c.M b j):=by
   intro id z hz;rw [← hEq] at hz;unfold ES at hz;split at hz
   case isFalse=>cases hz
   cases MK:nM (bp s'.v) (bp s'.v) K.rs dr with
   |none=>rw [MK] at hz;cases hz
   |some y2=>
    rw [MK] at hz;have hz:(match EP (bp s'.v) (y2.2++q.2) id with|some (.arr e xs)=>some (bV.arr e xs)|some (.Ea e xs x i off u k)=>some (bV.Ea e xs x i off u k)|some (.xN e xs i cs)=>some (bV.xN e xs i cs)|_=>none)=some z:=hz;cases Bb:EP (bp s'.v) (y2.2++q.2) id with
    |none=>rw [Bb] at hz;cases hz
    |some v=>
     rw [Bb] at hz;cases v with
     |var _=>cases hz
     |Ea _ _ _ _ _ _ _=>
      obtain rfl:=ac2 hz;unfold EP at Bb;split at Bb
      . cases Bb
      . exact ⟨Bb,λ_ _ _ _ h=>by obtain ⟨_,_,_,_,h,_⟩:=h;exact h⟩
     |xN _ _ _ _=>
      obtain rfl:=ac2 hz;unfold EP at Bb;split at Bb
      . cases Bb
      . exact ⟨Bb,λ_ _ _ _ h=>by obtain ⟨_,_,_,_,_,_,_,_,_,_,_,_,_,_,_,_,_,_,_,_,h⟩:=h;exact h⟩
     |cut _ _ _=>cases hz
     |it _ _=>cases hz
     |arr e xs=>
      obtain rfl:=ac2 hz;unfold EP at Bb;split at Bb
      . cases Bb
      . exact ⟨Bb,λ_ _ _ _ h=>by obtain ⟨_,_,_,_,h⟩:=h;exact h⟩
  have al0:∀ id∈p.2++q.2,EL id=none:=by
   intro id hi;rcases Hk with hr|hr
   . rw [← hEq]
     unfold ES;rw [aae (by simp [hr])];rfl
   . have:=adG.1 hr id hi
     cases he:EL id with
     |none=>rfl
     |some z=>rw [he] at this;cases this
  have hEn:∀ id,EL id≠none→s'.f.v id≠none:=λid hi=>by
   obtain ⟨z,hz⟩:=Option.ne_none_iff_exists'.1 hi;rw [show s'.f.v id=some z from mq (alZ id z hz).1];simp
  let S2:Nat→Prop:=λb=>c1.S b∨∃ id,EL id≠none∧b∈fp' id
  obtain ⟨f1,g1,h1,h2⟩:=vO (EL:=EL) hx.vs hx.ev (λ_ _ h=>mq h) (λid z hz=>mq (alZ id z hz).1) (S':=S2) (λ_ h=> .inl h) (λid hi b hb=> .inr ⟨id,hi,hb⟩) K.rs atU hp JL.1;have hag:∀ id,id<64→μ' id=μ id:=λid hi=>(hx.fix id hi).2.trans (congrFun Sr.loc id);have atV:ak c1 μ' ve (eu true K.aF x 0).1:=ak.ext Sr _ (ak.mono _ (λid hi=>hag id (Ep id hi)) A0);obtain ⟨f2,h3,h4⟩:=EV hx.vs (λ_ _ h=>mq h) K.aF fc (Ag K.aF λk _ _=>congrFun Sr.tok k) atV hq JL.2.1;have h5:=h2.toGoneB.append hx.vs h4 hn;have rk:(f1++f2++(g1++g).map (·.1)).Perm (f1++g1.map (·.1)++(f2++g.map (·.1))):=by rw [akY];exact vN _ _ _ _
  have RT:=rk.nodup_iff.1 h5.nodup;have adf:w.heap.size≤c1.w0.heap.size:=Sr.ev.size;refine ⟨⟨_,f1,g1,f2,rfl,⟨S2,λb hb=> .inl (Sr.S b hb), ?_, ?_,h1,l9 (p:=λ_=>true) (λe _ _ _ _ h=>Ty.dI (show Fz.le c1.fz ⟨S2,_⟩ from λb hb=>⟨.inl hb,hx.ev.S b hb⟩) _ h) K.aF (Hn K.aF) h3⟩,RT,λb hb=> ?_⟩, ?_⟩
  . rintro b (hb|⟨id,hi,hb⟩)
    . refine ⟨?_,aeh (c1.hS.1 b hb) hx.ev.size⟩
      rcases Sr.new b hb with q|q|q
      . exact .inl q
      . exact .inr (.inl q)
      . by_cases Er:b∈f
        . exact .inr (.inr Er)
        . exfalso
          have q:∀ j,b∈f∨∃ o m,(b,o,m)∈g∧o≤j∧j<o+m:=q;obtain ⟨o,m,hm,_,_⟩:=(q 0).resolve_left Er;obtain ⟨o',m',pP,_,h2⟩:=(q (o+m)).resolve_left Er;have:=BP (ad1.1 uf).2.1 hm pP;cases this;omega
    . refine ⟨.inr ?_,hx.vs.lt id (hEn id hi) b hb⟩
      obtain ⟨z,hz⟩:=Option.ne_none_iff_exists'.1 hi;obtain ⟨hz1,hM⟩:=alZ id z hz;have hM:=hM _ _ _ _ (hx.vs.rel id _ (mq hz1));rcases afw b w.heap.size with rv|MI
      . refine .inr ?_
        by_cases Er:b∈f
        . exact Er
        . exfalso
          have q:∀ j,b∈f∨∃ o m,(b,o,m)∈g∧o≤j∧j<o+m:=λj=>Sr.M b j rv (hM b hb (aeh rv adf) j);obtain ⟨o,m,hm,_,_⟩:=(q 0).resolve_left Er;obtain ⟨o',m',pP,_,h2⟩:=(q (o+m)).resolve_left Er;have:=BP (ad1.1 uf).2.1 hm pP;cases this;omega
      . exact .inl MI
  . intro b hb hs
    obtain ⟨id,hi,hm⟩:=h5.mem b (rk.mem_iff.2 hb);have ht:=(h5.there id hi).1;rcases hs with hs|⟨eD,dh,cE⟩
    . exact hx.vs.kL id ht b hm hs
    . exact hx.vs.sep id eD (λe=>dh (e ▸ al0 id hi)) ht (hEn eD dh) b hm cE
  . rcases afw b w.heap.size with rv|MI
    . left
      have al1:b<c1.w0.heap.size:=aeh rv adf;have hM:∀ j,c.M b j∨∃ o m,(b,o,m)∈g1:=by
       intro j;simp only [adE,List.mem_map] at hb;rcases hb with (hb|⟨⟨B,o,m⟩,hb,rfl⟩)|hb
       . exact .inl (Sr.M b j rv (h2.may b hb al1 j))
       . exact .inr ⟨o,m,hb⟩
       . exact .inl (Sr.M b j rv (h4.may b hb al1 j))
      have hng:b ∉ g.map (·.1):=λhg=>by
       simp only [ad1] at RT;simp only [adE] at hb;rcases hb with hb|hb
       . exact RT.2.2 b (by simpa using hb) b (by simp only [adE];exact .inr hg) rfl
       . exact RT.2.1.2.2 b hb b hg rfl
      have hnm:∀ j,c.M b j→b∈f:=λj hj=>by
       rcases hj with hj|⟨o,m,hj,_⟩
       . exact hj
       . exact absurd (List.mem_map.2 ⟨_,hj,rfl⟩) hng
      rcases hM 0 with hm|⟨o,m,hm⟩
      . exact hnm 0 hm
      . exact hnm _ (Sr.M _ _ rv (h2.ads b o m hm al1 0 (aqk K.rs h.pos h1 b o m hm)))
    . exact .inr MI
  . have:=Sr.back hx.ev
    exact ⟨this.size,this.os,this.output,this.S,this.Fy,this.frozen⟩
 cases ex with
 |normal=>exact Fw
 |ret=>exact Fw
 |exit m=>exact absurd rfl (fE m)
theorem Hq {c:Ctx} {n:Nat} {C:Cx} (hC:kM C c.P) (hF:ki C c.P) (hm:c.P.follows .mixedOrders=true) {An:Nat→Option au} {B:Code} {aF rs:List Item} {rtm:List ResultVar} {s:ed} {a:Act} {w:World} (h:ja c n s a w) {y:aw rs×iC aF}
  (hr:((dZ C An B s).bind λr=>match r.1 with| .exit _=>Out.fail|_=> .of (leave C aF rs rtm r.2) .ret).eval=some y):
  B.wp c.P (λe a' w'=>∃ ex s',e=YG ex∧ja c n s' a' w'∧(∀ m,ex≠ .exit m)∧leave C aF rs rtm s'=some y) a w:=by
 obtain ⟨⟨ex,s'⟩,hq,hr⟩:=dj hr;refine wp_mono (bX hC hF hm An B s _ a w hq h) λe a' w' he=> ?_;obtain ⟨rfl,he⟩:=he;cases ex with
 |exit m=>cases hr
 |normal=>
  obtain ⟨z,hz,hr⟩:=aZ hr;obtain rfl:=ac2 hr;exact ⟨.normal,s',rfl,he,λm=>by simp,hz⟩
 |ret=>
  obtain ⟨z,hz,hr⟩:=aZ hr;obtain rfl:=ac2 hr;exact ⟨.ret,s',rfl,he,λm=>by simp,hz⟩
theorem Ai {P:Program} {C:Cx} {K:bK} {fn:Func} {code:Code} {rtm:List ResultVar} {A:Nat→Option au} (hC:kM C P) (hF:ki C P) (hm:P.follows .mixedOrders=true) (h:St P C K fn code rtm A):K.Ok P:=
 E3 hC ⟨h.func,h.body,h.name,h.res,h.few,h.pR,h.pos,λx y hw hy c n a w hP hD=>by
  subst hP;exact Hq hC hF hm hD (h.run x y hw hy)⟩
end
section
open Go
mutual
def Ty.yp:Ty→List Value→Option (List Value)
 | .bool, .bool false::r=>some r
 | .int k, .int k' n::r=>if k=k'∧n=0 then some r else none
 | .str, .string s::r=>if s.data.toList.isEmpty=true then some r else none
 | .sl _, .slice none 0 0::r=>some r
 | .hole, .slice none 0 0::r=>some r
 | .fz _, .slice none 0 0::r=>some r
 | .st fs,cs=>fs.yp cs
 |_,_=>none
def aO.yp:aO→List Value→Option (List Value)
 | .nil,cs=>some cs
 | .cons t ts,cs=>(t.yp cs).bind λr=>ts.yp r
end
mutual
theorem Ty.sM:(t:Ty)→{cs r:List Value}→t.yp cs=some r→cs=t.zeroV++r
 | .bool,cs,r,h=>by
   cases cs with
   |nil=>cases h
   |cons v q=>
    cases v<;>try (cases h;done)
    rename_i b;cases b<;>cases h;rfl
 | .int k,cs,r,h=>by
   cases cs with
   |nil=>cases h
   |cons v q=>
    cases v<;>try (cases h;done)
    rename_i k' n;replace h:(if k=k'∧n=0 then some q else none)=some r:=h;split at h
    . rename_i hc;obtain ⟨rfl,rfl⟩:=hc;cases h;rfl
    . cases h
 | .str,cs,r,h=>by
   cases cs with
   |nil=>cases h
   |cons v q=>
    cases v<;>try (cases h;done)
    rename_i s;replace h:(if s.data.toList.isEmpty=true then some q else none)=some r:=h;split at h
    . rename_i hc
      cases h;have:s=⟨#[]⟩:=by
       have h1:=List.isEmpty_iff.1 hc;apply ByteArray.ext;grind
      rw [this];rfl
    . cases h
 | .hole,cs,r,h=>by
   cases cs with
   |nil=>cases h
   |cons v q=>
    cases v<;>try (cases h;done)
    rename_i a l c;cases a<;>cases l<;>cases c<;>cases h;rfl
 | .sl _,cs,r,h=>by
   cases cs with
   |nil=>cases h
   |cons v q=>
    cases v<;>try (cases h;done)
    rename_i a l c;cases a<;>cases l<;>cases c<;>cases h;rfl
 | .fz _,cs,r,h=>by
   cases cs with
   |nil=>cases h
   |cons v q=>
    cases v<;>try (cases h;done)
    rename_i a l c;cases a<;>cases l<;>cases c<;>cases h;rfl
 | .st fs,cs,r,h=>by
   simp only [Ty.zeroV];exact aO.sM fs h
theorem aO.sM:(t:aO)→{cs r:List Value}→t.yp cs=some r→cs=t.zeroV++r
 | .nil,cs,r,h=>by cases h;rfl
 | .cons t ts,cs,r,h=>by
   replace h:((t.yp cs).bind λr=>ts.yp r)=some r:=h;obtain ⟨q,h1,h2⟩:=WP.1 h;rw [Ty.sM t h1,aO.sM ts h2];simp [aO.zeroV]
end
def yq (P:Program) (t:Ty) (tid:TypeId):Bool:=
 match P.info? tid with
 |some i=>
  match i.zero with
  |some z=>
   match t.yp z.cells.toList with
   |some []=>decide (i.size=t.size)&&decide (i.bytes≤1024)&&decide (0<t.size)
   |_=>false
  |none=>false
 |none=>false
theorem nP {P:Program} {t:Ty} {tid:TypeId} (h:yq P t tid=true):qL P t tid:=by
 unfold yq at h;split at h
 . rename_i i hi
   split at h
   . rename_i z hz
     split at h
     . rename_i hzb
       simp only [aa6,adS] at h;exact ⟨i,z,hi,h.1.1,h.1.2,hz,by have:=Ty.sM t hzb;grind,h.2⟩
     . cases h
   . cases h
 . cases h
mutual
def Ty.okB (P:Program):Ty→TypeId→Bool
 | .bool,tid=>yq P .bool tid&&(match P.underlying tid with|some .bool=>true|_=>false)
 | .int k,tid=>yq P (.int k) tid&&(match P.underlying tid with|some (.int k')=>decide (k=k')|_=>false)
 | .str,tid=>yq P .str tid&&(match P.underlying tid with|some .string=>true|_=>false)
 | .hole,tid=>yq P .hole tid&&(match P.underlying tid with|some (.slice _)=>true|_=>false)
 | .sl e,tid=>yq P (.sl e) tid&&(match P.underlying tid with|some (.slice eid)=>e.okB P eid|_=>false)
 | .fz e,tid=>yq P (.fz e) tid&&(match P.underlying tid with|some (.slice eid)=>e.okB P eid|_=>false)
 | .st fs,tid=>yq P (.st fs) tid&&(match P.underlying tid with|some (.struct fields)=>fs.adx P fields.toList 0|_=>false)
def aO.adx (P:Program):aO→List Field→Nat→Bool
 | .nil,[],_=>true
 | .cons t ts,f::r,off=>decide (f.offset=off)&&t.okB P f.type&&ts.adx P r (off+t.size)
 |_,_,_=>false
end
mutual
theorem Ty.E4 {P:Program}:(t:Ty)→{tid:TypeId}→t.okB P tid=true→t.Ok P tid
 | .bool,tid,h=>by
   simp only [Ty.okB,aa6] at h;grind [Ty.Ok,nP]
 | .int k,tid,h=>by
   simp only [Ty.okB,aa6] at h;simp only [Ty.Ok];refine ⟨nP h.1, ?_⟩;grind
 | .str,tid,h=>by
   simp only [Ty.okB,aa6] at h;grind [Ty.Ok,nP]
 | .hole,tid,h=>by
   simp only [Ty.okB,aa6] at h;grind [Ty.Ok,nP]
 | .sl e,tid,h=>by
   simp only [Ty.okB,aa6] at h;simp only [Ty.Ok];refine ⟨nP h.1, ?_⟩;have h2:=h.2;split at h2
   . rename_i eid he;exact ⟨eid,he,Ty.E4 e h2⟩
   . cases h2
 | .fz e,tid,h=>by
   simp only [Ty.okB,aa6] at h;simp only [Ty.Ok];refine ⟨nP h.1, ?_⟩;have h2:=h.2;split at h2
   . rename_i eid he;exact ⟨eid,he,Ty.E4 e h2⟩
   . cases h2
 | .st fs,tid,h=>by
   simp only [Ty.okB,aa6] at h;simp only [Ty.Ok];refine ⟨nP h.1, ?_⟩;have h2:=h.2;split at h2
   . rename_i fields he;exact ⟨fields,he,aO.QH fs h2⟩
   . cases h2
theorem aO.QH {P:Program}:(t:aO)→{fs:List Field}→{off:Nat}→t.adx P fs off=true→t.FC P fs off
 | .nil,fs,off,h=>by
   cases fs with
   |nil=>simp [aO.FC]
   |cons f r=>cases h
 | .cons t ts,fs,off,h=>by
   cases fs with
   |nil=>cases h
   |cons f r=>
    simp only [aO.adx,aa6,adS] at h;simp only [aO.FC];exact ⟨f,r,rfl,h.1.1,Ty.E4 t h.1.2,aO.QH ts h.2⟩
end
def QI:List (Nat×Ty)→Nat→Option Ty
 |[],_=>none
 |(a,t)::r,n=>bif Nat.beq a n then some t else QI r n
theorem R8 {l:List (Nat×Ty)} {n:Nat} {t:Ty} (h:QI l n=some t):(n,t)∈l:=by
 induction l with
 |nil=>cases h
 |cons a l ih=>
  grind [QI,Nat.beq,Nat.eq_of_beq_eq_true]
def JN (P:Program) (Se:List (Nat×Ty)):Bool:=Se.all λx=>x.2.okB P x.1
def Y9 (P:Program) (tid:TypeId):Bool:=
 if tid<ERR then !P.stoodInHeld tid&& !P.eqGuardType P.depth tid&&(match P.underlying tid with|some (.struct fields)=>fields.toList.all λf=>f.name != "_" |_=>false)
 else match P.underlying (tid - ERR) with|some (.interface _)=>true|_=>false
theorem ady {P:Program} {tid:TypeId} (h:Y9 P tid=true):apx P tid:=by
 unfold Y9 at h;by_cases cf:tid<ERR
 . rw [aaZ cf] at h
   refine ⟨λ_=> ?_,by grind⟩;simp only [aa6,afq] at h;refine ⟨h.1.1,h.1.2, ?_⟩;grind
 . rw [aae cf] at h
   refine ⟨λq=>absurd q cf,λk hk=> ?_⟩;have e:tid - ERR=k:=by grind
   rw [e] at h;grind [Program.methodsAt]
def Ss (Se:List (Nat×Ty)) (eqT:List Nat) (l:List bK):Cx:={ ty:=QI Se,eqv:=λn=>eqT.any λm=>Nat.beq m n,call:=Mq l }
theorem vQ {P:Program} {Se:List (Nat×Ty)} {eqT:List Nat} (h1:JN P Se=true) (h2:eqT.all (Y9 P)=true) (l:List bK):kM (Ss Se eqT l) P where
 ty tid t h:=Ty.E4 t (adG.1 h1 _ (R8 h))
 eqv tid h:=by
  obtain ⟨m,hm,e⟩:=List.any_eq_true.1 h;grind [Nat.eq_of_beq_eq_true,ady,List.all_eq_true]
def bw:List (Nat×au)→Nat→Option au
 |[],_=>none
 |(a,t)::r,n=>bif Nat.beq a n then some t else bw r n
def pU (f:Func):Code:=f.body.getD .skip
theorem sQ {f:Func} (h:f.body.isSome=true):f.body=some (pU f):=by
 unfold pU;cases hb:f.body with
 |none=>grind
 |some c=>rfl
end
section
open Go Go.ChangeShapes Go.WideShapes Go.ChangeAt Go.RowKit
section
variable {H:Type} {enc:TypeId×Value→H} {P:Program} {w:World} {base:Nat} {sp:Nat→Bool} {held:Bool}
theorem FO {b o:Nat}:∀ (n:Nat) {cs:List Value},cs.length=n→(∀ i,i<n→w.cell? ⟨b,o+i,none⟩=cs[i]?)→0<n→aK w b o n=cs:=by
 intro n cs hl h hn;have h0:=h 0 hn;unfold World.cell? at h0;cases hb:w.heap[b]? with
 |none=>grind
 |some ob=>
  cases ob with
  |map _ _=>grind
  |cells C E fr=>
   simp only [aK,hb];apply ae8;grind [World.cell?, List.getElem?_take_of_lt,List.getElem?_eq_none]
  |_=>simp only [hb] at h0;rw [aa7 (by omega)] at h0;cases h0
theorem sN {a:Addr} {n:Nat} {cs:List Value} (h:w.cells? base a n=some cs) (hn:0<n):a.spot=none∧a.block<w.heap.size∧aK w a.block a.off n=cs:=by
 obtain ⟨_,hl,hc⟩:=World.cells?_some h;have h0:=hc 0 hn;have aqn:∃ v,w.cell? a=some v:=by grind [Addr.add,List.getElem?_eq_getElem]
 obtain ⟨v,hv⟩:=aqn;have QP:a.spot=none:=by
  unfold World.cell? at hv;cases hs:a.spot with
  |none=>rfl
  |some s=>
   grind
 have hbl:a.block<w.heap.size:=by grind [World.cell?, Array.getElem?_eq_some_iff]
 refine ⟨QP,hbl,FO n hl (λi hi=> ?_) hn⟩;rw [← hc i hi];congr 1;obtain ⟨b,o,s⟩:=a;grind [Addr.add]
theorem Ty.Ok.cellsOf {t:Ty} {tid:TypeId} (h:t.Ok P tid):P.cellsOf tid=t.size:=by
 obtain ⟨i,z,h1,h2,_⟩:=h.base;grind [Program.cellsOf]
theorem AS {α:Type} {n:Nat} {p:Nat→α→Prop} (h:∀ i,i<n→∃ x,p i x):∃ xs:List α,xs.length=n∧∀ i x,xs[i]? =some x→p i x:=by
 induction n with
 |zero=>simp_all
 |succ n ih=>
  obtain ⟨xs,h1,h2⟩:=ih λi hi=>h i (by omega);obtain ⟨y,hy⟩:=h n (by omega);refine ⟨xs++[y],by simp [h1],λi x hx=> ?_⟩;grind
mutual
theorem Ty.trod:(t:Ty)→{tid:TypeId}→{fuel:Nat}→{cs:List Value}→{y:DataW H×List MemPlace}→t.Ok P tid→DataW.trod enc P w base sp held fuel tid cs=some y→∃ x,t.aT (λb=>b<w.heap.size) w cs x
 | .bool,tid,fuel,cs,y,eK,h=>by
   simp only [Ty.Ok] at eK;obtain ⟨b,rfl,_⟩:=DataW.trod_bool eK.2 h;exact ⟨b,by simp [Ty.aT]⟩
 | .int k,tid,fuel,cs,y,eK,h=>by
   simp only [Ty.Ok] at eK;obtain ⟨n,rfl,_⟩:=DataW.trod_int eK.2 h;exact ⟨n,by simp [Ty.aT]⟩
 | .str,tid,fuel,cs,y,eK,h=>by
   simp only [Ty.Ok] at eK;obtain ⟨s,rfl,_,hs⟩:=DataW.trod_string eK.2 h;refine ⟨s.data.toList, ?_⟩;simp_all [Ty.aT,maxLen,cj]
 | .hole,tid,fuel,cs,y,eK,h=>by
   simp only [Ty.Ok] at eK;obtain ⟨_,eid,hu⟩:=eK;rcases DataW.trod_slice hu h with ⟨rfl,_⟩|⟨a,len,cap,elems,rest,n,_,rfl,_⟩
   . exact ⟨(),by simp only [Ty.aT];exact ⟨_,rfl,rfl⟩⟩
   . exact ⟨(),by simp only [Ty.aT];exact ⟨_,rfl,rfl⟩⟩
 | .sl e,tid,fuel,cs,y,eK,h=>by
   simp only [Ty.Ok] at eK;obtain ⟨_,eid,hu,FF⟩:=eK;rcases DataW.trod_slice hu h with ⟨rfl,_⟩|⟨a,len,cap,elems,rest,n,_,rfl,_,_,hl,hm,hel,hi,_⟩
   . exact ⟨[],sw _ w e none⟩
   have atW:maxLen=cj:=by grind [maxLen]
   rw [FF.cellsOf] at hi;have qb:=FF.pos;have hex:∀ i,i<len→∃ x:e.D,a.block<w.heap.size∧(a.add (i*e.size)).spot=none∧e.aT (λb=>b<w.heap.size) w (aK w (a.add (i*e.size)).block (a.add (i*e.size)).off e.size) x:=by
    intro i cf;have h1:=hi i cf;rw [aa7 (by omega)] at h1;obtain ⟨cs',hc,h2⟩:=WP.1 h1;obtain ⟨q1,q2,q3⟩:=sN hc qb;obtain ⟨x,hx⟩:=Ty.trod e FF h2;grind [Addr.add]
   obtain ⟨xs,hxl,JK⟩:=AS hex;refine ⟨xs, ?_⟩;simp only [Ty.aT];refine ⟨some a,cap,by rw [← hxl],by grind, ?_⟩;by_cases h0:xs=[]
   . exact .inl h0
   right;have hp:0<xs.length:=PP.2 h0;have hz:=JK 0 xs[0] (by grind);have QP:a.spot=none:=by grind [Addr.add]
   refine ⟨a.block,a.off,by obtain ⟨b,o,s⟩:=a;grind,hz.1,λi y hy=> ?_⟩;grind [Addr.add]
 | .fz e,tid,fuel,cs,y,eK,h=>by
   simp only [Ty.Ok] at eK;obtain ⟨_,eid,hu,FF⟩:=eK;rcases DataW.trod_slice hu h with ⟨rfl,_⟩|⟨a,len,cap,elems,rest,n,_,rfl,_,_,hl,hm,hel,hi,_⟩
   . exact ⟨[],kZ.2 (sw _ w e none)⟩
   have atW:maxLen=cj:=by grind [maxLen]
   rw [FF.cellsOf] at hi;have qb:=FF.pos;have hex:∀ i,i<len→∃ x:e.D,a.block<w.heap.size∧(a.add (i*e.size)).spot=none∧e.aT (λb=>b<w.heap.size) w (aK w (a.add (i*e.size)).block (a.add (i*e.size)).off e.size) x:=by
    intro i cf;have h1:=hi i cf;rw [aa7 (by omega)] at h1;obtain ⟨cs',hc,h2⟩:=WP.1 h1;obtain ⟨q1,q2,q3⟩:=sN hc qb;obtain ⟨x,hx⟩:=Ty.trod e FF h2;grind [Addr.add]
   obtain ⟨xs,hxl,JK⟩:=AS hex;refine ⟨xs, ?_⟩;simp only [Ty.aT];refine ⟨some a,cap,by rw [← hxl],by grind, ?_⟩;by_cases h0:xs=[]
   . exact .inl h0
   right;have hp:0<xs.length:=PP.2 h0;have hz:=JK 0 xs[0] (by grind);have QP:a.spot=none:=by grind [Addr.add]
   refine ⟨a.block,a.off,by obtain ⟨b,o,s⟩:=a;grind,hz.1,λi y hy=> ?_⟩;grind [Addr.add]
 | .st fs,tid,fuel,cs,y,eK,h=>by
   simp only [Ty.Ok] at eK;obtain ⟨aqo,fields,hu,hf⟩:=eK;obtain ⟨xs,n,_,_,hl,hxl,hi⟩:=DataW.trod_struct hu h;have Ff:P.cellsOf tid=(Ty.st fs).size:=by
    obtain ⟨i,z,h1,h2,_⟩:=aqo;grind [Program.cellsOf]
   have:=aO.trod (n:=n) (off:=0) (cs:=cs) fs hf (by grind [Ty.size]) (by grind);obtain ⟨x,hx⟩:=this;refine ⟨x, ?_⟩;grind [Ty.aT]
theorem aO.trod {n:Nat}:(ts:aO)→{fs:List Field}→{off:Nat}→{cs:List Value}→ts.FC P fs off→cs.length=off+ts.size→
  (∀ (i:Nat) (f:Field),fs[i]? =some f→∃ z,DataW.trod enc P w base sp held n f.type ((cs.drop f.offset).take (P.cellsOf f.type))=some z)→∃ x,ts.aT (λb=>b<w.heap.size) w (cs.drop off) x
 | .nil,fs,off,cs,eK,hl,h=>by
   refine ⟨(), ?_⟩;grind [aO.aT,aO.size,List.drop_of_length_le]
 | .cons t ts,fs,off,cs,eK,hl,h=>by
   simp only [aO.FC] at eK;obtain ⟨f,r,rfl,rfl,h1,h2⟩:=eK;obtain ⟨z,hz⟩:=h 0 f rfl;rw [h1.cellsOf] at hz;obtain ⟨x1,hx1⟩:=Ty.trod t h1 hz;simp only [aO.size] at hl;obtain ⟨x2,Sk⟩:=aO.trod (n:=n) ts h2 (by omega) (λi g hg=>h (i+1) g (by simpa using hg));refine ⟨(x1,x2), ?_⟩;grind [aO.aT,List.drop_drop,List.take_append_drop]
end
end
mutual
def Ty.jv:Ty→List Cm
 | .bool=>[.b]
 | .int k=>[.i k]
 | .str=>[.s]
 | .hole=>[.k]
 | .sl e=>[.ro e]
 | .fz e=>[.ro e]
 | .st fs=>fs.jv
def aO.jv:aO→List Cm
 | .nil=>[]
 | .cons t ts=>t.jv++ts.jv
end
def Ty.item (t:Ty):Item:=⟨false,t.lb,t.jv⟩
theorem fS {S:Nat→Prop} {w:World} {l':List Cm} {bg:List Value} {x':uK l'} {f':List Nat} (h':aV S w l' bg x' f'):(l:List Cm)→{vs:List Value}→{x:uK l}→{f:List Nat}→aV S w l vs x f→∃ z,aV S w (l++l') (vs++bg) z (f++f')
 |[],_,_,_,h=>by simp only [aV] at h;grind
 | .b::r,_,x,_,h=>by
   simp only [aV] at h;obtain ⟨bg,rfl,h⟩:=h;obtain ⟨z,hz⟩:=fS h' r h;exact ⟨(x.1,z),by simp only [List.cons_append,aV];exact ⟨_,rfl,hz⟩⟩
 | .i _::r,_,x,_,h=>by
   simp only [aV] at h;obtain ⟨bg,rfl,h⟩:=h;obtain ⟨z,hz⟩:=fS h' r h;exact ⟨(x.1,z),by simp only [List.cons_append,aV];exact ⟨_,rfl,hz⟩⟩
 | .s::r,_,x,_,h=>by
   simp only [aV] at h;obtain ⟨bg,rfl,hl,h⟩:=h;obtain ⟨z,hz⟩:=fS h' r h;exact ⟨(x.1,z),by simp only [List.cons_append,aV];exact ⟨_,rfl,hl,hz⟩⟩
 | .e::r,_,x,_,h=>by
   simp only [aV] at h;obtain ⟨_,bg,rfl,hl,h⟩:=h;obtain ⟨z,hz⟩:=fS h' r h;exact ⟨(x.1,z),by simp only [List.cons_append,aV];grind⟩
 | .k::r,_,x,_,h=>by
   simp only [aV] at h;obtain ⟨v,bg,rfl,h1,h⟩:=h;obtain ⟨z,hz⟩:=fS h' r h;exact ⟨z,by simp only [List.cons_append,aV];grind⟩
 | .ro e::r,_,x,_,h=>by
   simp only [aV] at h;obtain ⟨v,bg,rfl,h1,h⟩:=h;obtain ⟨z,hz⟩:=fS h' r h;exact ⟨(x.1,z),by simp only [List.cons_append,aV];grind⟩
 | .own e::r,_,x,_,h=>by
   simp only [aV] at h;obtain ⟨v,bg,f1,f2,rfl,rfl,h1,h⟩:=h;obtain ⟨z,hz⟩:=fS h' r h;exact ⟨(x.1,z),by simp only [List.cons_append,aV];grind⟩
 | .mut e::r,_,x,_,h=>by
   simp only [aV] at h;obtain ⟨v,bg,f1,f2,rfl,rfl,h1,h⟩:=h;obtain ⟨z,hz⟩:=fS h' r h;exact ⟨(x.1,z),by simp only [List.cons_append,aV];grind⟩
mutual
theorem Ty.pO {S:Nat→Prop} {w:World}:(t:Ty)→{cs:List Value}→{x:t.D}→t.aT S w cs x→∃ z,aV S w t.jv cs z []
 | .bool,cs,x,h=>by simp only [Ty.aT] at h;subst h;exact ⟨(x,()),by simp [Ty.jv,aV]⟩
 | .int _,cs,x,h=>by simp only [Ty.aT] at h;subst h;exact ⟨(x,()),by simp [Ty.jv,aV]⟩
 | .str,cs,x,h=>by simp only [Ty.aT] at h;obtain ⟨rfl,hl⟩:=h;exact ⟨(x,()),by simp only [Ty.jv,aV];exact ⟨_,rfl,hl,by simp⟩⟩
 | .hole,cs,x,h=>by simp only [Ty.aT] at h;obtain ⟨v,rfl,hv⟩:=h;exact ⟨(),by simp only [Ty.jv,aV];exact ⟨v,[],rfl,hv,by simp⟩⟩
 | .sl e,cs,x,h=>by
   have h':=h;simp only [Ty.aT] at h;obtain ⟨a,cap,rfl,_⟩:=h;exact ⟨(x,()),by simp only [Ty.jv,aV];exact ⟨_,_,rfl,h',by simp⟩⟩
 | .fz e,cs,x,h=>by
   have h':=kZ.1 h;simp only [Ty.aT] at h;obtain ⟨a,cap,rfl,_⟩:=h;exact ⟨(x,()),by simp only [Ty.jv,aV];exact ⟨_,_,rfl,h',by simp⟩⟩
 | .st fs,cs,x,h=>aO.pO fs (by simpa only [Ty.aT] using h)
theorem aO.pO {S:Nat→Prop} {w:World}:(t:aO)→{cs:List Value}→{x:t.D}→t.aT S w cs x→∃ z,aV S w t.jv cs z []
 | .nil,cs,x,h=>by simp only [aO.aT] at h;subst h;exact ⟨(),by simp [aO.jv,aV]⟩
 | .cons t ts,cs,x,h=>by
   simp only [aO.aT] at h;obtain ⟨c1,c2,rfl,h1,h2⟩:=h;obtain ⟨z1,g1⟩:=Ty.pO t h1;obtain ⟨z2,g2⟩:=aO.pO ts h2;obtain ⟨z,g⟩:=fS g2 t.jv g1;exact ⟨z,by simpa only [aO.jv,aeX] using g⟩
end
def JB (P:Program):List Ty→List TypeId→Prop
 |[],[]=>True
 |t::ts,i::is=>t.Ok P i∧JB P ts is
 |_,_=>False
def YP (P:Program):List Ty→List TypeId→Bool
 |[],[]=>true
 |t::ts,i::is=>t.okB P i&&YP P ts is
 |_,_=>false
theorem Mv {P:Program}:∀ {ts:List Ty} {is:List TypeId},YP P ts is=true→JB P ts is
 |[],[],_=>trivial
 |[],_::_,h=>by cases h
 |_::_,[],h=>by cases h
 |t::ts,i::is,h=>by
  simp only [YP,aa6] at h;exact ⟨Ty.E4 t h.1,Mv h.2⟩
section
variable {H:Type} {enc:TypeId×Value→H} {P:Program} {w:World} {base:Nat} {sp:Nat→Bool} {held:Bool}
theorem OA {t:Ty} {tid:TypeId} (eK:t.Ok P tid) {b0:Nat} {v:Value} (h:Value.okWide P w .any b0 tid v):(t.lb=true→∃ us,v= .agg us)∧(t.lb=false→v.oneCell'=true):=by
 cases t with
 |st fs=>
  simp only [Ty.Ok] at eK;obtain ⟨_,fields,hu,_⟩:=eK;obtain ⟨cs,Ff,_⟩:=okWide_struct hu h;exact ⟨λ_=>⟨cs,Ff⟩,λe=>(by cases e)⟩
 |bool=>
  simp only [Ty.Ok] at eK;refine ⟨λe=>(by cases e),λ_=> ?_⟩;simp only [Value.okWide,eK.2,Cell.okWide] at h;cases v<;>simp_all [Cell.ok,Value.oneCell']
 |int k=>
  simp only [Ty.Ok] at eK;refine ⟨λe=>(by cases e),λ_=> ?_⟩;simp only [Value.okWide,eK.2,Cell.okWide] at h;cases v<;>simp_all [Cell.ok,Value.oneCell']
 |str=>
  simp only [Ty.Ok] at eK;refine ⟨λe=>(by cases e),λ_=> ?_⟩;obtain ⟨s,rfl⟩:=okWide_string eK.2 h;rfl
 |hole=>
  simp only [Ty.Ok] at eK;obtain ⟨_,eid,hu⟩:=eK;refine ⟨λe=>(by cases e),λ_=> ?_⟩;obtain ⟨a,len,cap,rfl⟩:=okWide_slice hu h;rfl
 |sl e=>
  simp only [Ty.Ok] at eK;obtain ⟨_,eid,hu,_⟩:=eK;refine ⟨λe=>(by cases e),λ_=> ?_⟩;obtain ⟨a,len,cap,rfl⟩:=okWide_slice hu h;rfl
 |fz e=>
  simp only [Ty.Ok] at eK;obtain ⟨_,eid,hu,_⟩:=eK;refine ⟨λe=>(by cases e),λ_=> ?_⟩;obtain ⟨a,len,cap,rfl⟩:=okWide_slice hu h;rfl
theorem Mw {b0:Nat}:∀ {ts:List Ty} {tids:List TypeId} {vs:List Value} {ds:List (DataW H)} {p:List MemPlace},JB P ts tids→
  (∀ (j:Nat) t v,tids[j]? =some t→vs[j]? =some v→Value.okWide P w .any b0 t v)→DataW.TrodAll enc P w base sp held tids vs ds p→∃ x,ba (λb=>b<w.heap.size) w (ts.map Ty.item) vs x [] []
 |[],[],vs,ds,p,_,_,h=>by
  obtain ⟨rfl,_,_⟩:=trodAll_nil h;exact ⟨(),(⟨rfl,rfl,rfl⟩:ba (λb=>b<w.heap.size) w [] [] () [] [])⟩
 |[],_::_,_,_,_,hp,_,_=>hp.elim
 |_::_,[],_,_,_,hp,_,_=>hp.elim
 |t::ts,i::is,vs,ds,p,hp,hv,h=>by
  obtain ⟨v,bg,d,ds',p1,p2,rfl,rfl,rfl,h1,h2⟩:=trodAll_cons h;obtain ⟨fuel,h1⟩:=h1;obtain ⟨x,hx⟩:=Ty.trod t hp.1 h1;obtain ⟨z,hz⟩:=Ty.pO t hx;obtain ⟨y,hy⟩:=Mw (ts:=ts) hp.2 (λj t v ht hv'=>hv (j+1) t v (by simpa using ht) (by grind)) h2;have:=OA hp.1 (hv 0 i v rfl rfl);have Fi:cZ (λb=>b<w.heap.size) w ⟨false,t.lb,t.jv⟩ v z [] []:=⟨rfl,hz,this.1,this.2⟩
  have HF:ba (λb=>b<w.heap.size) w (t.item::ts.map Ty.item) (v::bg) (z,y) [] []:=by
   simp only [ba];exact ⟨v,bg,[],[],[],[],rfl,rfl,rfl,Fi,hy⟩
  grind
end
theorem Hr:∀ (ts:List Ty) (vs:List Value),vs.length=ts.length→na (ts.map λ_=>none) vs=vs
 |[],vs,h=>by simp at h;subst h;rfl
 |_::ts,[],h=>by simp at h
 |_::ts,v::vs,h=>by simp only [ael,na];rw [Hr ts vs (by simpa using h)]
theorem E5 {P:Program} {S:Nat→Prop} {w w':World} {tok:Nat→Value} {loc:Nat→Loc} {hS:Ie S w} (h:Ev (rO P S w [] [] tok loc hS) w'):∀ i,i<w.heap.size→w'.heap[i]? =w.heap[i]? :=by
 intro i hi;rcases h.Fy i hi with e|⟨C,C',E,h1,h2,h3,h4⟩|⟨hm,_⟩
 . exact e
 . have h1:w.heap[i]? =some (.cells C E (0,0)):=h1
   have:C'=C:=Mu λj=>h4 j λhm=>by
    rcases hm with hm|⟨_,_,hm,_⟩<;>cases hm
   grind
 . rcases hm with hm|⟨_,_,hm,_⟩<;>cases hm
structure Kept (W w':World):Prop where
 frame:W.keptBut w' (λ_=>False)
 atX:∀ a,a.block<W.heap.size→w'.frozen? a=W.frozen? a
theorem OB {P:Program} {S:Nat→Prop} {w w':World} {tok:Nat→Value} {loc:Nat→Loc} {hS:Ie S w} (h:Ev (rO P S w [] [] tok loc hS) w'):Kept w w':=by
 have xV:=E5 h;refine ⟨⟨h.os,h.output,λi hi=> ?_⟩,h.frozen⟩;grind
section
variable {P:Program} {H:Type} {enc:TypeId×Value→H}
theorem JC {f:Func} {s:ChangeSpec} {apart fresh handsOn again:Bool} {W W':World} {args:Array Value} {v:Value} {ds gs:List (DataW H)} {before pa pv:List MemPlace}
  (hW:DataW.Whole enc P f.params.toList s.vars apart W args.toList ds gs before)
  (RY:∀ (b:Nat) (sp:Nat→Bool) (hd:Bool),DataW.TrodAll enc P W' b sp hd f.resultTypes.toList (v.resultList f.resultTypes.size) (s.fn H (ds++gs)).results [])
  (F3:∀ sp:Nat→Bool,(∀ p∈before,sp p.block=true)→DataW.TrodAll enc P W' 0 sp true f.params.toList args.toList (s.fn H (ds++gs)).args pa)
  (afT:∀ sp:Nat→Bool,(∀ p∈before,sp p.block=true)→DataW.TrodVars enc P W' sp s.vars (s.fn H (ds++gs)).vars pv)
  (hps:before=pa++pv) (hk:Kept W W')
  (eK:∀ (j:Nat) (t:TypeId) (r:Value),f.resultTypes[j]? =some t→(v.resultList f.resultTypes.size)[j]? =some r→Value.okWide P W' .any 0 t r):
  s.post enc P f apart fresh handsOn again W args v W':=by
 have cf:=hW.lt;have hold:∀ p∈before,(λb=>decide (b<W.heap.size)) p.block=true:=by grind
 refine ⟨ds,gs,before,[],pa,pv,hW,RY _ _ _,F3 _ hold,afT _ hold,World.keptBut_mono (λ_ h=>h.elim) hk.frame,λ_=> ?_⟩;obtain ⟨_,_,_,_,_,hz,hn⟩:=hW;refine ⟨eK,_,_,([]++pa)++pv,⟨[]++pa,pv,trodAll_append (F3 _ (λ_ _=>rfl)) (RY _ _ _),afT _ (λ_ _=>rfl),rfl, ?_, ?_⟩, ?_⟩
 . intro b off hp
   have hm:MemPlace.cell b off∈before:=by grind
   rw [hk.atX _ (cf _ hm)];exact hz b off hm
 . grind
 grind
end
theorem R9 {P:Program} {f:Nat} {lend:Bool} {ts:List Ty} {tids:List TypeId} {F:aw (ts.map Ty.item)→Out (aw [⟨false,false,[.b]⟩]×iC (ts.map Ty.item))} {H:Type} {enc:TypeId×Value→H} {w:World} {base b0:Nat} {sp:Nat→Bool} {held:Bool}
  (hK:bK.Ok P { f:=f,lend:=lend,aF:=ts.map Ty.item,lay:=ts.map λ_=>none,rs:=[⟨false,false,[.b]⟩],F:=F }) (hp:JB P ts tids)
  (hF:∀ x,aB (ts.map Ty.item) x→∃ z,(F x).eval=some (((true,()),()),z)) {args:Array Value} {ds:List (DataW H)} {p:List MemPlace}
  (hv:∀ (j:Nat) t v,tids[j]? =some t→args[j]? =some v→Value.okWide P w .any b0 t v) (h:DataW.TrodAll enc P w base sp held tids args.toList ds p) (hT:Yc (λb=>b<w.heap.size) w:=by intro p hp;simp [apu] at hp):
  Calls P f args w λe w'=>e= .returned (.bool true)∧Kept w w'∧∀ b,b<w.heap.size→w'.heap[b]? =w.heap[b]? :=by
 obtain ⟨x,hx⟩:=Mw hp (λj t v ht hv'=>hv j t v ht (by simpa using hv')) h;obtain ⟨z,hz⟩:=hF x (sL _ hx);have hc:=(hK x _ hz (λb=>b<w.heap.size) w ⟨λb hb=>hb,hT⟩ args.toList [] [] hx (by simp) (by simp)).2;have hl:args.toList.length=ts.length:=by
  have:=ba.length _ hx;grind
 have atY:(na (ts.map λ_=>none) args.toList).toArray=args:=by grind [Hr]
 have hc:Calls P f (na (ts.map λ_=>none) args.toList).toArray w _:=hc;rw [atY] at hc;refine Calls.mono hc λe w' he=> ?_;cases e with
 |panicked _=>exact he.elim
 |outgrown=>exact he.elim
 |returned v=>
  obtain ⟨⟨rvs,f1,g1,f2,rfl,⟨_,_,_,_,hr,_⟩,_⟩,D5⟩:=he;refine ⟨?_,OB D5,E5 D5⟩;simp only [ba,cZ] at hr;obtain ⟨v,bg,_,_,_,_,rfl,_,_,⟨_,hr,_,ho⟩,rfl,_⟩:=hr;simp only [aV] at hr;obtain ⟨q,hq,rfl,_⟩:=hr;simp_all [ib,Ms,List.cons.injEq]
end
section
open Go Go.ChangeShapes Go.WideShapes Go.ChangeAt Go.RowKit
section
variable {α β γ:Type} {f:α→Out (Round α β γ)}
theorem je {n:Nat} {x x':α} (h:(f x).eval=some (.again x')):iter f (n+1) x=iter f n x':=by simp only [iter,h]
theorem jx {n:Nat} {x:α} {y:β} (h:(f x).eval=some (.out y)) (hn:0<n):iter f n x=some (.inl y):=by
 cases n with
 |zero=>omega
 |succ n=>simp only [iter,h]
theorem lu {n:Nat} {x:α} {z:γ} (h:(f x).eval=some (.ret z)) (hn:0<n):iter f n x=some (.inr z):=by
 cases n with
 |zero=>omega
 |succ n=>simp only [iter,h]
theorem E6 (s:Nat→α):∀ (m n:Nat),(∀ i,i<m→(f (s i)).eval=some (.again (s (i+1))))→iter f (m+n) (s 0)=iter f n (s m)
 |0,n,_=>by rw [aeS]
 |m+1,n,h=>by
  have h1:=E6 s m (1+n) λi hi=>h i (by omega);rw [show m+1+n=m+(1+n) by omega,h1,show 1+n=n+1 by omega,je (h m (by omega))]
theorem AU (s:Nat→α) (m n:Nat) (hm:m≤n) (h:∀ i,i<m→(f (s i)).eval=some (.again (s (i+1)))):iter f n (s 0)=iter f (n - m) (s m):=by
 have:=E6 s m (n - m) h;rwa [show m+(n - m)=n by omega] at this
theorem ml (s:Nat→α) (m:Nat) {n:Nat} {y:β} (hm:m<n) (h:∀ i,i<m→(f (s i)).eval=some (.again (s (i+1)))) (hy:(f (s m)).eval=some (.out y)):iter f n (s 0)=some (.inl y):=by
 rw [AU s m n (by omega) h,jx hy (by omega)]
theorem KS (s:Nat→α) (m:Nat) {n:Nat} {z:γ} (hm:m<n) (h:∀ i,i<m→(f (s i)).eval=some (.again (s (i+1)))) (hz:(f (s m)).eval=some (.ret z)):iter f n (s 0)=some (.inr z):=by
 rw [AU s m n (by omega) h,lu hz (by omega)]
theorem Gt (s:Nat→α) (p:Nat→Bool) (m:Nat) {n:Nat} {y:β} {z:γ} (hm:m<n) (h:∀ i,i<m→p i=true→(f (s i)).eval=some (.again (s (i+1)))) (hz:∀ i,i<m→p i=false→(f (s i)).eval=some (.ret z))
  (hy:(f (s m)).eval=some (.out y)):iter f n (s 0)=some (if (List.range m).all p=true then .inl y else .inr z):=by
 by_cases ha:(List.range m).all p=true
 . rw [aaZ ha]
   rw [adG] at ha;exact ml s m hm (λi hi=>h i hi (ha i (List.mem_range.2 hi))) hy
 . rw [aae ha]
   have hex:∃ i,i<m∧p i=false:=by
    rw [adG] at ha;simp only [Classical.not_forall] at ha;obtain ⟨i,hi,hp⟩:=ha;exact ⟨i,List.mem_range.1 hi,by simpa using hp⟩
   obtain ⟨i,⟨hi,hp⟩,aap⟩:=exists_least hex;exact KS s i (by omega) (λj hj=>h j (by omega) (by
    cases hpj:p j with
    |true=>rfl
    |false=>have:=aap j ⟨by omega,hpj⟩;omega)) (hz i hi hp)
end
theorem Gu {α β:Type} {f:α→Out (Round α β Empty)} (s:Nat→α) (m:Nat) {n:Nat} {y:β} (hm:m<n) (h:∀ i,i<m→(f (s i)).eval=some (.again (s (i+1)))) (hy:(f (s m)).eval=some (.out y)):aP f n (s 0)=some y:=by
 unfold aP;rw [ml s m hm h hy];rfl
theorem ij {m:Nat} (h:m≤cj):m<aI:=afb h (by decide)
theorem eval_ite {ρ:Type} (c:Bool) (a b:Out ρ):(Out.ite c a b).eval=if c=true then a.eval else b.eval:=by cases c<;>rfl
theorem ab {ρ:Type} {c:Bool} {a b:Out ρ} (h:c=true):(Out.ite c a b).eval=a.eval:=by subst h;rfl
theorem ae {ρ:Type} {c:Bool} {a b:Out ρ} (h:c=false):(Out.ite c a b).eval=b.eval:=by subst h;rfl
theorem aa {ρ α:Type} {o:Option α} {k:α→Out ρ} {x:α} (h:o=some x):(Out.get o k).eval=(k x).eval:=by subst h;rfl
theorem bG {ρ α β:Type} {k:α→Out ρ} {h:β→Out ρ} (x:α):(Out.alt (.inl x) k h).eval=(k x).eval:=rfl
theorem pY {ρ α β:Type} {k:α→Out ρ} {h:β→Out ρ} (x:β):(Out.alt (.inr x) k h).eval=(h x).eval:=rfl
theorem aq {i:Nat} (h:i<cj):abs ((i:Int)+1)=((i+1:Nat):Int):=by
 unfold cj at h;rw [abs,IntKind.wrap_i64];omega
theorem bt {n:Int} (h0: -9223372036854775808≤n) (h1:n≤9223372036854775807):abs n=n:=by
 rw [abs,IntKind.wrap_i64];omega
theorem bD {α:Type} {l:List α} {i:Nat} (h:i<l.length):nth l (Int.toNat (i:Int))=some l[i]:=by
 show l[_]? =_;rw [adu,aa7 h]
section
variable {H:Type} {enc:TypeId×Value→H} {P:Program} {base:Nat} {sp:Nat→Bool}
theorem uL {W W':World} (hl:laidOutB P=true) (hs:∀ b,b<W.heap.size→W'.heap[b]? =W.heap[b]?):∀ {ts:List TypeId} {vs:List Value} {ds:List (DataW H)} {ps:List MemPlace},(ts.all λt=>P.readableRec t&&decide (t<P.types.size))=true→
  DataW.TrodAll enc P W base (λ_=>true) true ts vs ds ps→(∀ p∈ps,p.block<W.heap.size)→(∀ p∈ps,sp p.block=true)→DataW.TrodAll enc P W' base sp true ts vs ds ps
 |[],_,_,_,_,h,_,_=>by
  obtain ⟨rfl,rfl,rfl⟩:=trodAll_nil h;exact trodAll_mk0
 |t::ts,vs,ds,ps,ht,h,cf,QP=>by
  obtain ⟨v,bg,d,ds',p1,p2,rfl,rfl,rfl,h1,h2⟩:=trodAll_cons h;simp only [aeB,aa6,adS] at ht;refine trodAll_cons_mk ?_ (uL hl hs ht.2 h2 (λp hp=>cf p (by simp [hp])) (λp hp=>QP p (by simp [hp])));refine WideElems.Trod_stays hl ht.1.1 ht.1.2 h1 (λp hp=> ?_) (λp hp=>QP p (by simp [hp]));have:=hs p.block (cf p (by simp [hp]));cases p with
  |cell b off=>simp only [World.sameAt,World.cell?];rw [show W'.heap[b]? =W.heap[b]? from this]
  |map b=>exact this
end
end
section
open Go
abbrev sp:Char:=Char.ofNat 32
theorem oC:∀ (w:List Char) (r:List Char),(∀ c∈w,c≠sp)→wordsSigns (w++sp::r)=w::wordsSigns r
 |[],r,_=>rfl
 |c::w,r,h=>by
  have hc:c≠sp:=h c (by simp);have ih:=oC w r λd hd=>h d (by simp [hd]);rw [List.cons_append];unfold wordsSigns;split
  . grind
  . simp_all
  . rename_i c' r' _ e
    obtain ⟨rfl,rfl⟩:=List.cons.inj e;rw [ih];exact congrArg (λl=>(c::w)::l) (wordsSigns.eq_def r)
def ML (w:List Char):Bool:=w.all λc=> !decide (c=sp)
theorem JD {w:List Char} (h:ML w=true):∀ c∈w,c≠sp:=λc hc e=>by
 have:=adG.1 h c hc;grind
theorem Hw {s:String} {a b d r:List Char} (hs:s=String.ofList (a++sp::(b++sp::(d++sp::r)))) (ha:ML a=true) (hb:ML b=true) (hd:ML d=true) (hm:(a== "harness".toList)=true) (aw9:isSumSigns b=true):
  behindMainWord (wordsSigns s.toList)=d::wordsSigns r:=by
 rw [hs,String.toList_ofList,oC a _ (JD ha),oC b _ (JD hb),oC d _ (JD hd)];show (if ((a== "harness".toList||a== "ownmain".toList)&&isSumSigns b)=true then d::wordsSigns r else _)=_;grind
def ch (l:List Nat):List Char:=l.map Char.ofNat
section
variable {P:Program} {q:List (List Char)}
theorem Sw (hr:behindMainWord (wordsSigns P.initOrder.toList)=ch [99,117,116]::q):P.make=some .cut:=by simp_all [Program.make,ch]
theorem Hs:stripLifts liftWords (ch [99,117,116]::q)=([],ch [99,117,116]::q):=by kernel_rfl
theorem QM (hr:behindMainWord (wordsSigns P.initOrder.toList)=ch [99,117,116]::q):P.liftsFinal=false:=by
 unfold Program.liftsFinal Program.headLifts;simp only [hr,Hs]
 kernel_rfl
theorem Hx (hr:behindMainWord (wordsSigns P.initOrder.toList)=ch [99,117,116]::q) (h1:P.laysLater=false) (h2:P.bearsReflect=false) (h3:P.doorFits []=true):P.mayEnter=true:=by
 unfold Program.mayEnter;rw [hr];simp only [Hs,h1,h2,h3]
 kernel_rfl
end
end
section
open Go
def ed.sO (s:ed) (i j:Nat):ed:={ s with t:=(s.t.set i .dead).set j .dead,kn:=[] }
theorem ja.sO {c:Ctx} {n:Nat} {s:ed} {a:Act} {w:World} (h:ja c n s a w) {i j:Nat} (hi:i<n) (hj:j<n) (u v:Value):ja c n (s.sO i j) ((a.put (some i) u).put (some j) v) w:=by
 obtain ⟨⟨c1,μ,fp,he,hx⟩,_,hl⟩:=h;have hs:∀ k,(s.sO i j).t.getD k .dead=if j=k∨i=k then .dead else s.t.getD k .dead:=by grind [ed.sO,EJ]
 refine ⟨⟨c1,μ,fp,he,⟨λk=> ?_, ?_,by rw [put_defers,put_defers];exact hx.defers,hx.vs,⟨λk id fg=> ?_,hx.known.2⟩,hx.ev,hx.fix⟩⟩, ?_,by simp [ed.sO,hl]⟩
 . show az c1 μ _ ((s.sO i j).t.getD k .dead)
   rw [hs];by_cases e:j=k∨i=k
   . rw [aaZ e];simp [az]
   . rw [aae e,yi (n:=n) (by rw [sF];exact hx.n) (by grind),aae (λq=>e (.inl (ac2 q))),yi (n:=n) hx.n (by grind),aae (λq=>e (.inr (ac2 q)))]
     exact hx.tm k
 . rw [sF,sF];exact hx.n
 . have fg:id∈((s.sO i j).t.getD k .dead).ids:=fg
   rw [hs] at fg;split at fg
   . cases fg
   . exact hx.known.1 k id fg
 . intro d b hf;cases hf
theorem E7 {P:Program} {ops:Array Oper} {Q:Exit→Act→World→Prop} {i:Nat} {K:Act→World→Prop} {a:Act} {w:World} {o:Oper} {v:Value} (ho:ops[i]? =some o) (hg:o.guard=none)
  (hr:(execOp a.eval o).run P w= .ok (.value v) w) (h:K (a.put o.dst v) w):wpOp P ops Q i K a w:=by
 unfold wpOp;have hw:Region.wanted o (yielded ops a.tmps)=true:=by simp [Region.wanted,hg]
 simp only [ho,hw,agm];left;unfold Oper.wp;rw [hr];exact h
theorem adz {c:Ctx} {n:Nat} {s:ed} {a:Act} {w:World} (h:ja c n s a w) (hn:5≤n) {e:Ty} {x:List e.D} {tk:Option Nat} (h0:s.t.getD 0 .dead= .ro e x tk) {tid te:TypeId} (hU:c.P.underlying tid=some (.slice te)) {rid:Nat} {o3 o4:Oper} {A:Code} {Q:Exit→Act→World→Prop}
  (h3:o3.op= .move (.tmp 0)) (g3:o3.guard=none) (d3:o3.dst=some 3) (h4:o4.op= .binOp .eql tid (.tmp 3) (.const (.slice none 0 0)) tid) (g4:o4.guard=none) (d4:o4.dst=some 4)
  (hA:x=[]→∀ a',ja c n (s.sO 3 4) a' w→A.wp c.P Q a' w) (hB:∀ a',ja c n (s.sO 3 4) a' w→Q .normal a' w):
  (Code.seq (.region rid #[o3,o4] false) (.cond (.tmp 4) A .skip)).wp c.P Q a w:=by
 obtain ⟨⟨c1,μ,fp,he,hx⟩,hk,hl⟩:=h;have h:ja c n s a w:=⟨⟨c1,μ,fp,he,hx⟩,hk,hl⟩
 have hv:=hx.tm 0;rw [show s.f.t 0=s.t.getD 0 .dead from rfl,h0] at hv;simp only [az,Ty.aT] at hv;obtain ⟨⟨ad,cap,hv,hc,hd⟩,_⟩:=hv;generalize hva:a.tmps.getD 0 Go.undef=v at hv;have hv:v= .slice ad x.length cap:=by simpa using hv
 subst hv;have axa:ad.isNone=true→x=[]:=by grind
 have hD:=h.sO (i:=3) (j:=4) (by omega) (by omega) (.slice ad x.length cap) (.bool ad.isNone);have he4:((a.put (some 3) (.slice ad x.length cap)).put (some 4) (.bool ad.isNone)).eval (.tmp 4)= .bool ad.isNone:=by
  show Array.getD _ 4 Go.undef=_;rw [yi (n:=n) (dst:=some 4) (by rw [sF];exact hx.n) (by grind),aaZ rfl]
 refine wp_seq (wp_region ?_);show wpOps c.P #[o3,o4] _ [0,1] a w;rw [wpOps_cons];refine E7 (o:=o3) (v:= .slice ad x.length cap) rfl g3 (by
  have:a.eval (.tmp 0)= .slice ad x.length cap:=hva;simp_all [execOp]) ?_
 rw [wpOps_cons,d3];refine E7 (o:=o4) (v:= .bool ad.isNone) rfl g4 (by
  have:(a.put (some 3) (.slice ad x.length cap)).eval (.tmp 3)= .slice ad x.length cap:=by
   show Array.getD _ 3 Go.undef=_;rw [yi (n:=n) (dst:=some 3) hx.n (by grind),aaZ rfl]
  have e2:(a.put (some 3) (.slice ad x.length cap)).eval (.const (.slice none 0 0))= .slice none 0 0:=rfl;simp_all [eqGuard,execOp,Go.Lib.run_eql_slice_nil]) ?_
 rw [d4];show Code.wp _ _ _ _ _;cases hb:ad.isNone with
 |true=>
  grind [wp_cond_true]
 |false=>
  grind [wp_cond_false,wp_skip]
def r7 (C:Cx) (An:Nat→Option au) (R B:Code) (aF:List Item) (lay:QL) (ntmps:Nat) (rs:List Item) (rtm:List ResultVar) (x:aw aF):Out (aw rs×iC aF):=
 (dZ C An R (entry aF lay ntmps x)).bind λr=>
  match r.1 with
  | .normal=>(dZ C An B (r.2.sO 3 4)).bind λr=>
    match r.1 with
    | .exit _=> .fail
    |_=> .of (leave C aF rs rtm r.2) .ret
  |_=> .fail
theorem adA {C:Cx} {c:Ctx} {n:Nat} (hC:kM C c.P) (hF:ki C c.P) (hm:c.P.follows .mixedOrders=true) {An:Nat→Option au} {R A B:Code} {aF rs:List Item} {lay:QL} {ntmps:Nat} {rtm:List ResultVar} {x:aw aF} {e:Ty} {l:List e.D} {tk:Option Nat}
  {tid te:TypeId} (hU:c.P.underlying tid=some (.slice te)) {rid:Nat} {o3 o4:Oper}
  (h3:o3.op= .move (.tmp 0)) (g3:o3.guard=none) (d3:o3.dst=some 3) (h4:o4.op= .binOp .eql tid (.tmp 3) (.const (.slice none 0 0)) tid) (g4:o4.guard=none) (d4:o4.dst=some 4)
  (hs0:∀ s1,(dZ C An R (entry aF lay ntmps x)).eval=some (.normal,s1)→s1.t.getD 0 .dead= .ro e l tk) (h5:5≤n) {y:aw rs×iC aF}
  (hB:(r7 C An R B aF lay ntmps rs rtm x).eval=some y) (hA:l=[]→(r7 C An R A aF lay ntmps rs rtm x).eval=some y) {a:Act} {w:World} (h:ja c n (entry aF lay ntmps x) a w)
  (alU:∀ s r,(dZ C An A s).eval=some r→r.1= .ret):
  (Code.seq R (.seq (.seq (.region rid #[o3,o4] false) (.cond (.tmp 4) A .skip)) B)).wp c.P (λe a' w'=>∃ ex s',e=YG ex∧ja c n s' a' w'∧(∀ m,ex≠ .exit m)∧leave C aF rs rtm s'=some y) a w:=by
 unfold r7 at hB;obtain ⟨⟨ex,s1⟩,hq,hB⟩:=dj hB;refine wp_seq (wp_mono (bX hC hF hm An R _ _ a w hq h) λe a1 w1 he=> ?_);obtain ⟨rfl,he⟩:=he;cases ex with
 |exit m=>cases hB
 |ret=>cases hB
 |normal=>
  refine wp_seq (adz he h5 (hs0 s1 hq) hU h3 g3 d3 h4 g4 d4 (λhl a2 h2=> ?_) (λa2 h2=>Hq hC hF hm h2 hB));have hA:=hA hl;unfold r7 at hA;obtain ⟨r2,hq2,hA⟩:=dj hA;rw [hq] at hq2;obtain rfl:=ac2 hq2;obtain ⟨r3,hq3,hA⟩:=dj hA;have SG:=alU _ _ hq3;obtain ⟨ex3,s3⟩:=r3;obtain rfl:ex3= .ret:=SG;obtain ⟨z,hz,hA⟩:=aZ hA;obtain rfl:=ac2 hA;refine wp_mono (bX hC hF hm An A _ _ a2 w1 hq3 h2) λe a' w' he=> ?_;obtain ⟨rfl,he⟩:=he;exact ⟨.ret,s3,rfl,he,λm=>by simp,hz⟩
theorem YQ {C:Cx} {An:Nat→Option au} {id:Nat} {ops:Array Oper} {d:Bool} {s:ed} {r:Ex×ed} (h:(dZ C An (.seq (.region id ops d) .ret) s).eval=some r):r.1= .ret:=by
 simp only [dZ] at h;obtain ⟨q,hq,h⟩:=dj h;obtain ⟨s',_,hq⟩:=dj hq;obtain rfl:=ac2 hq;obtain rfl:=ac2 h;rfl
def at0:Out (Ex×ed)→aj
 | .ret r=>r.2.t.getD 0 .dead
 |_=> .dead
theorem Ny {P:Program} {C:Cx} {K:bK} {fn:Func} {code:Code} {rtm:List ResultVar} {An:Nat→Option au} (hC:kM C P) (hF:ki C P) (hm:P.follows .mixedOrders=true)
  {R B:Code} {rid ia:Nat} {oa:Array Oper} {da:Bool} {o3 o4:Oper} {tid te:TypeId} {e:Ty} {tk:Option Nat} (l:aw K.aF→List e.D) (func:P.funcs[K.f]? =some fn) (body:fn.body=some code) (name:(fn.name== "runtime.NumGoroutine")=false) (res:fn.results=rtm.toArray)
  (few:rtm.length≤6) (pR:oX K.aF 0≤64) (pos:(K.rs.all λit=>decide (0<it.cs.length))=true)
  (aqq:code= .seq R (.seq (.seq (.region rid #[o3,o4] false) (.cond (.tmp 4) (.seq (.region ia oa da) .ret) .skip)) B)) (hU:P.underlying tid=some (.slice te))
  (h3:o3.op= .move (.tmp 0)) (g3:o3.guard=none) (d3:o3.dst=some 3) (h4:o4.op= .binOp .eql tid (.tmp 3) (.const (.slice none 0 0)) tid) (g4:o4.guard=none) (d4:o4.dst=some 4)
  (hs0:∀ x,at0 (dZ C An R (entry K.aF K.lay fn.ntmps x))= .ro e (l x) tk) (h5:∀ x,5≤(entry K.aF K.lay fn.ntmps x).t.length)
  (hB:∀ x y,aB K.aF x→(K.F x).eval=some y→(r7 C An R B K.aF K.lay fn.ntmps K.rs rtm x).eval=some y)
  (hA:∀ x y,aB K.aF x→l x=[]→(K.F x).eval=some y→(r7 C An R (.seq (.region ia oa da) .ret) K.aF K.lay fn.ntmps K.rs rtm x).eval=some y):K.Ok P:=by
 refine E3 hC ⟨func,body,name,res,few,pR,pos,λx y hw hy c n a w hP hD=> ?_⟩;subst hP;rw [aqq];refine adA (tk:=tk) hC hF hm hU h3 g3 d3 h4 g4 d4 (λs1 hs=> ?_) (hD.len ▸ h5 x) (hB x y hw hy) (λhl=>hA x y hw hl hy) hD λs r h=>YQ h;have:=hs0 x;revert hs this;generalize dZ C An R (entry K.aF K.lay fn.ntmps x)=o;intro hs this;cases o with
 |ret r=>obtain rfl:=ac2 hs;exact this
 |_=>cases this
def Au:Code→Code
 | .seq a _=>a
 |_=> .skip
def Pn:Code→Code
 | .seq _ b=>b
 |_=> .skip
def an8:Code→Code
 | .cond _ a _=>a
 |_=> .skip
def aie:Code→Array Oper
 | .region _ ops _=>ops
 |_=> #[]
def cOp (c:Code) (i:Nat):Oper:=(aie c).getD i ⟨none, .move (.tmp 0),0, "", #[],none⟩
end
end Go.Proofs.YtkmhgofibfmjfaaGreat.Dm
