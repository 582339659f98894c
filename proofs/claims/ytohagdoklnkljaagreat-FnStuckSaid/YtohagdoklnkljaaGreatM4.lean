/- The data machine (a part). -/
import Derived.Test.YtohagdoklnkljaaGreatM3
import Derived.KernelRfl
import Derived.WalkKit
import Derived.ProofKit
import Derived.OpenShut
import Derived.JoinedCond
import Derived.Carry
import Derived.Laws.Runes
import Derived.Laws.BitsLemmas
import Derived.JoinedOf
import Derived.Lib.SliceRun
namespace Go.Proofs.YtohagdoklnkljaaGreat.Dm
section
open Go
def jK (μ:Nat→Loc):List Cm→List ai→Prop
 | .b::r,_::q=>jK μ r q
 | .i _::r,_::q=>jK μ r q
 | .s::r,_::q=>jK μ r q
 | .e::r,_::q=>jK μ r q
 | .k::r,_::q=>jK μ r q
 | .ro _::r,_::q=>jK μ r q
 | .own _::r,_::q=>jK μ r q
 | .mut e::r,d::q=>(d= .ni∨∃ id a len cap,d= .cN id none∧μ id= .sS a len cap e.size)∧jK μ r q
 |[],_=>True
 |_,[]=>False
section
variable {c c0:Ctx} {K0:Nat→Prop} {μ0:Nat→Loc} {fp0:Nat→List Nat} {v0:Env} {w0 w:World} {E EL:Env}
theorem TT (h:∀ id x,v0 id=some x→cL c0 μ0 w0 id (fp0 id) x) (hE:∀ id x,E id=some x→v0 id=some x) {e:Ty} {d:ai} {z:List e.D×List Nat} (hz:KK E e d=some z):
  d= .ni∨∃ id a len cap,d= .cN id none∧μ0 id= .sS a len cap e.size:=by
 unfold KK at hz;split at hz
 . exact .inl rfl
 . rename_i id
   right;replace hz:(E id).bind (fun v=>(ik E v).bind fun x=>(Ty.cast (.sl x.1) (.sl e) x.2).map fun y=>(y,id::bG v))=some z:=hz;obtain ⟨y,hy,hz⟩:=Option.bind_eq_some_iff.1 hz;obtain ⟨⟨e',ys⟩,hu,hz⟩:=Option.bind_eq_some_iff.1 hz;obtain ⟨zs,hc,rfl⟩:=Option.map_eq_some_iff.1 hz;obtain ⟨he,Cf⟩:=jn hc;clear hc hz;subst he;obtain ⟨a,cap,f,h1,_⟩:=A9 h hE hy hu;exact ⟨id,a,_,cap,rfl,h1⟩
 . cases hz
theorem fO (h:∀ id x,v0 id=some x→cL c0 μ0 w0 id (fp0 id) x) (hE:∀ id x,E id=some x→v0 id=some x):(l:List Cm)→{ds:List ai}→{r:tt l×List Nat}→fe E EL l ds=some r→jK μ0 l ds
 |[],ds,r,_=>by simp [jK]
 | .b::l,ds,r,hf=>by
   cases ds with
   |nil=>cases hf
   |cons d q=>
    cases d<;>try (cases hf;done)
    rename_i x;obtain ⟨y,hy,rfl⟩:=Option.map_eq_some_iff.1 (show ((fe E EL l q).map fun y=>((x,y.1),y.2))=some r from hf);exact fO h hE l hy
 | .i k::l,ds,r,hf=>by
   cases ds with
   |nil=>cases hf
   |cons d q=>
    cases d<;>try (cases hf;done)
    rename_i k' x;replace hf:(if k=k' then (fe E EL l q).map fun y=>((x,y.1),y.2) else none)=some r:=hf;split at hf
    case isFalse=>cases hf
    obtain ⟨y,hy,rfl⟩:=Option.map_eq_some_iff.1 hf;exact fO h hE l hy
 | .s::l,ds,r,hf=>by
   cases ds with
   |nil=>cases hf
   |cons d q=>
    cases d<;>try (cases hf;done)
    rename_i x;obtain ⟨y,hy,rfl⟩:=Option.map_eq_some_iff.1 (show ((fe E EL l q).map fun y=>((x,y.1),y.2))=some r from hf);exact fO h hE l hy
 | .e::l,ds,r,hf=>by
   cases ds with
   |nil=>cases hf
   |cons d q=>
    cases d<;>try (cases hf;done)
    rename_i x;obtain ⟨y,hy,rfl⟩:=Option.map_eq_some_iff.1 (show ((fe E EL l q).map fun y=>((x,y.1),y.2))=some r from hf);exact fO h hE l hy
 | .k::l,ds,r,hf=>by
   cases ds with
   |nil=>cases hf
   |cons d q=>
    replace hf:(if d.bC=true then fe E EL l q else none)=some r:=hf;split at hf
    . exact fO h hE l hf
    . cases hf
 | .ro e::l,ds,r,hf=>by
   cases ds with
   |nil=>cases hf
   |cons d q=>
    replace hf:((tU EL e d).bind fun x=>(fe E EL l q).map fun y=>((x,y.1),y.2))=some r:=hf;obtain ⟨x,hx,hf⟩:=Option.bind_eq_some_iff.1 hf;obtain ⟨y,hy,rfl⟩:=Option.map_eq_some_iff.1 hf;exact fO h hE l hy
 | .own e::l,ds,r,hf=>by
   cases ds with
   |nil=>cases hf
   |cons d q=>
    replace hf:((iS E e d).bind fun z=>(fe E EL l q).map fun y=>((z.1,y.1),z.2++y.2))=some r:=hf;obtain ⟨z,hz,hf⟩:=Option.bind_eq_some_iff.1 hf;obtain ⟨y,hy,rfl⟩:=Option.map_eq_some_iff.1 hf;exact fO h hE l hy
 | .mut e::l,ds,r,hf=>by
   cases ds with
   |nil=>cases hf
   |cons d q=>
    replace hf:((KK E e d).bind fun z=>(fe E EL l q).map fun y=>((z.1,y.1),z.2++y.2))=some r:=hf;obtain ⟨z,hz,hf⟩:=Option.bind_eq_some_iff.1 hf;obtain ⟨y,hy,rfl⟩:=Option.map_eq_some_iff.1 hf;exact ⟨TT h hE hz,fO h hE l hy⟩
theorem hY:(l:List Cm)→∀ {vs:List Value} {ds:List ai} {y:pf l} {f rest:List Nat} {K:Nat→Prop} {μ:Nat→Loc} {fp:Nat→List Nat} {v:Env},
  ic c K μ fp v w (f++rest)→aj c μ0 vs ds→(∀ id∈ai.bI ds,K0 id)→(∀ id,K0 id→K id∧μ id=μ0 id)→jK μ0 l ds→aW c.fz w l vs y f→(∀ b∈f,b<c.w0.heap.size→∀ j,c.M b j)→
  ∃ fp',ic c K μ fp' (cC v (news (qH l ds y))) w rest
 |[],vs,ds,y,f,rest,K,μ,fp,v,h,hr,_,_,_,hb,_=>by
  simp only [aW] at hb;obtain ⟨rfl,rfl⟩:=hb;exact ⟨fp,h⟩
 | .b::r,vs,ds,y,f,rest,K,μ,fp,v,h,hr,hi,hk,hm,hb,hM=>by
   simp only [aW] at hb;obtain ⟨v1,bm,rfl,hb⟩:=hb;cases ds with
   |nil=>simp [jK] at hm
   |cons d q=>
    simp only [aj] at hr;obtain ⟨_,_,e,hd,hr⟩:=hr;cases e;exact hY r h hr (fun id cU=>hi id (by simp [ai.bI,cU])) hk hm hb hM
 | .i _::r,vs,ds,y,f,rest,K,μ,fp,v,h,hr,hi,hk,hm,hb,hM=>by
   simp only [aW] at hb;obtain ⟨v1,bm,rfl,hb⟩:=hb;cases ds with
   |nil=>simp [jK] at hm
   |cons d q=>
    simp only [aj] at hr;obtain ⟨_,_,e,hd,hr⟩:=hr;cases e;exact hY r h hr (fun id cU=>hi id (by simp [ai.bI,cU])) hk hm hb hM
 | .s::r,vs,ds,y,f,rest,K,μ,fp,v,h,hr,hi,hk,hm,hb,hM=>by
   simp only [aW] at hb;obtain ⟨v1,bm,rfl,hb⟩:=hb;cases ds with
   |nil=>simp [jK] at hm
   |cons d q=>
    simp only [aj] at hr;obtain ⟨_,_,e,hd,hr⟩:=hr;cases e;exact hY r h hr (fun id cU=>hi id (by simp [ai.bI,cU])) hk hm hb hM
 | .e::r,vs,ds,y,f,rest,K,μ,fp,v,h,hr,hi,hk,hm,hb,hM=>by
   simp only [aW] at hb;obtain ⟨v1,bm,rfl,hb⟩:=hb;cases ds with
   |nil=>simp [jK] at hm
   |cons d q=>
    simp only [aj] at hr;obtain ⟨_,_,e,hd,hr⟩:=hr;cases e;exact hY r h hr (fun id cU=>hi id (by simp [ai.bI,cU])) hk hm hb hM
 | .k::r,vs,ds,y,f,rest,K,μ,fp,v,h,hr,hi,hk,hm,hb,hM=>by
   simp only [aW] at hb;obtain ⟨v1,bm,rfl,hb⟩:=hb;cases ds with
   |nil=>simp [jK] at hm
   |cons d q=>
    simp only [aj] at hr;obtain ⟨_,_,e,hd,hr⟩:=hr;cases e;exact hY r h hr (fun id cU=>hi id (by simp [ai.bI,cU])) hk hm hb hM
 | .ro _::r,vs,ds,y,f,rest,K,μ,fp,v,h,hr,hi,hk,hm,hb,hM=>by
   simp only [aW] at hb;obtain ⟨v1,bm,rfl,hb⟩:=hb;cases ds with
   |nil=>simp [jK] at hm
   |cons d q=>
    simp only [aj] at hr;obtain ⟨_,_,e,hd,hr⟩:=hr;cases e;exact hY r h hr (fun id cU=>hi id (by simp [ai.bI,cU])) hk hm hb hM
 | .own _::r,vs,ds,y,f,rest,K,μ,fp,v,h,hr,hi,hk,hm,hb,hM=>by
   simp only [aW] at hb;obtain ⟨v1,bm,rfl,hb⟩:=hb;cases ds with
   |nil=>simp [jK] at hm
   |cons d q=>
    simp only [aj] at hr;obtain ⟨_,_,e,hd,hr⟩:=hr;cases e;exact hY r h hr (fun id cU=>hi id (by simp [ai.bI,cU])) hk hm hb hM
 | .mut e::r,vs,ds,y,f,rest,K,μ,fp,v,h,hr,hi,hk,hm,hb,hM=>by
   simp only [aW] at hb;obtain ⟨v1,bm,f1,f2,rfl,rfl,hx,hb⟩:=hb;cases ds with
   |nil=>simp [jK] at hm
   |cons d q=>
    simp only [aj] at hr;obtain ⟨_,_,e',hd,hr⟩:=hr;cases e';simp only [jK] at hm;have h':ic c K μ fp v w (f1++(f2++rest)):=by rw [← aez];exact h
    rcases hm.1 with rfl|⟨id,a,len,cap,rfl,A7⟩
    . exact hY r h'.drop hr (fun id cU=>hi id (by simp [ai.bI,cU])) hk hm.2 hb (fun b hb=>hM b (by simp [hb]))
    . simp only [an] at hd
      obtain ⟨a',nV,j7,sz,g1,rfl⟩:=hd;rw [A7] at g1;cases g1;have eI:K0 id:=hi id (by simp [ai.bI,ai.ids]);have sY:=hx;simp only [Ty.au] at sY;obtain ⟨a2,cap2,e2,_,_⟩:=sY;cases e2;have nk:cL c μ w id f1 (.arr e y.1):=⟨a,cap,(hk id eI).2.trans A7,hx,fun b hb=>hM b (by simp [hb])⟩
      have h2:=h'.add (K':=K) (μ':=μ) (id0:=id) (fun _ _=>rfl) (fun _ hi=>hi) (hk id eI).1 (fun _ hi=>by cases hi) nk;obtain ⟨fp',h3⟩:=hY r h2 hr (fun id cU=>hi id (by simp [ai.bI,cU])) hk hm.2 hb (fun b hb=>hM b (by simp [hb]));exact ⟨fp',h3⟩
theorem IS {l new:List ai} {off id:Nat} (h:id∈ai.bI (eV l off new)):id∈ai.bI l∨id∈ai.bI new:=by
 obtain ⟨d,hd,hi⟩:=gv.1 h;simp only [eV,aaN] at hd;rcases hd with (hd|hd)|hd
 . exact .inl (gv.2 ⟨d,age hd,hi⟩)
 . exact .inr (gv.2 ⟨d,hd,hi⟩)
 . exact .inl (gv.2 ⟨d,agh hd,hi⟩)
def KP (w0 w:World) (g:List (Nat×Nat×Nat)):Prop:=
 ∀ B o m,(B,o,m)∈g→∃ C C' T,w0.heap[B]? =some (.cells C T (0,0))∧w.heap[B]? =some (.cells C' T (0,0))∧C'.size=C.size∧∀ j,¬ (o≤j∧j<o+m)→C'[j]? =C[j]?
theorem Ct {C C':Array Value} {o off n L:Nat} (hz:C'.size=C.size) (hC:o+L≤C.size) (hn:off+n≤L) (hj:∀ j,¬ (o+off≤j∧j<o+off+n)→C'[j]? =C[j]?):
  (C'.toList.drop o).take L=((C.toList.drop o).take L).take off++(C'.toList.drop (o+off)).take n++((C.toList.drop o).take L).drop (off+n):=by
 apply adQ;intro i;have h1:(List.take off (List.take L (List.drop o C.toList))).length=off:=by simp;omega
 have h2:(List.take n (List.drop (o+off) C'.toList)).length=n:=by simp;omega
 have hg:∀ j,C'.toList[j]? =C'[j]? :=fun j=>acL;have hg':∀ j,C.toList[j]? =C[j]? :=fun j=>acL;rw [List.getElem?_append,List.getElem?_append,aao,h1,h2];by_cases hi:i<L
 . rw [aca hi,acb,hg]
   by_cases h3:i<off
   . rw [aaK (by omega),aaK h3,aca h3,aca hi,acb,hg',hj _ (by omega)]
   . by_cases h4:i<off+n
     . rw [aaK h4,aap h3,aca (by omega),acb,hg]
       congr 1;omega
     . rw [aap h4,acb,aca (by omega),acb,hg',hj _ (by omega)]
       congr 1;omega
 . rw [aeH (by simp;omega),aap (by omega),acb,aeH (by simp;omega)]
theorem OX (yD:∀ id x,v0 id=some x→cL c0 μ0 w0 id (fp0 id) x) (zA:∀ (ds:List ai) {vs:List Value},aj c0 μ0 vs ds→aj c μ0 vs ds) (hM0:∀ b j,(b<c0.w0.heap.size→c0.M b j)→b<c.w0.heap.size→c.M b j) (hE:∀ id x,E id=some x→v0 id=some x) (hK0:∀ id x,v0 id=some x→K0 id∧∀ dS∈x.ids,K0 dS) {S':Nat→Prop}:
  (it:Item)→∀ {d:Value} {dd:ai} {r:tt it.cs×List Nat} {y:uk it} {f0 f rest:List Nat} {g:List (Nat×Nat×Nat)} {n:Nat} {K:Nat→Prop} {μ:Nat→Loc} {fp:Nat→List Nat} {v:Env},
  ic c K μ fp v w (f++g.map (·.1)++rest)→an c μ0 d dd→(∀ id∈dd.ids,K0 id)→(∀ id,K0 id→K id∧μ id=μ0 id)→IK E EL it dd=some r→cR S' w0 it d r.1 f0 g→qR c.fz w0 w it d y f→
  (∀ b∈f,b<c.w0.heap.size→∀ j,c.M b j)→KP w0 w g→(∀ id,n≤id→id<(mS E it dd y n).2→¬ K id)→
  n≤(mS E it dd y n).2∧sV c K μ v w rest n (mS E it dd y n).2 (mS E it dd y n).1 fun _=>True
 |⟨false,a,cs⟩,d,dd,r,y,f0,f,rest,g,n,K,μ,fp,v,h,hd,hi,hk,ht,hr,hb,hM,_,_=>by
  simp only [cR] at hr;obtain ⟨rfl,_⟩:=hr;replace ht:(if isAgg dd=a∧dd.cells.all ai.bC=true then fe E EL cs dd.cells else none)=some r:=ht;split at ht
  case isFalse=>cases ht
  rename_i hc;have Bc:∀ id∈ai.bI dd.cells,K0 id:=by
   intro id eI;refine hi id ?_;by_cases ha:∃ ds,dd= .agg ds
   . obtain ⟨ds,rfl⟩:=ha;exact eI
   . have hdd:dd.cells=[dd]:=by cases dd<;>first|rfl|exact absurd ⟨_,rfl⟩ ha
     rw [hdd] at eI;simpa [ai.bI] using eI
  obtain ⟨fp',h1⟩:=hY cs (by simpa using h) (hd.cells hc.2) Bc hk (fO yD hE cs ht) hb hM;exact ⟨abD n,μ,fp',trivial,h1.weaken fun _=> .inl,fun _ _=>rfl⟩
 |⟨true,a,cs⟩,d,dd,r,y,f0,f,rest,g,n,K,μ,fp,v,h,hd,hi,hk,ht,hr,hb,hM,hP,iX=>by
  cases dd<;>try (cases ht;done)
  rename_i id off;replace ht:(match E id with|some (.var l)=>if off+cs.length≤l.length then (fe E EL cs ((l.drop off).take cs.length)).map fun y=>(y.1,id::y.2) else none|_=>none)=some r:=ht;split at ht
  case h_2=>cases ht
  rename_i l eI;split at ht
  case isFalse=>cases ht
  rename_i hl;have hv:=hE id _ eI;have TU:=hK0 id _ hv;obtain ⟨B,o,C,T,h1,h2,h3,h4,h5,h6,h7⟩:=yD id _ hv;replace h5:=zA _ h5;simp only [an] at hd;obtain ⟨B',o',e1,rfl⟩:=hd;rw [h1] at e1;cases e1;simp only [cR] at hr;obtain ⟨B2,o2,C2,T2,rfl,e2,_,_,hr⟩:=hr;simp only [Value.pointer.injEq,adh,Addr.mk.injEq,agG] at e2;obtain ⟨rfl,rfl⟩:=e2;obtain ⟨B3,o3,e3,hb⟩:=hb;simp only [Value.pointer.injEq,adh,Addr.mk.injEq,agG] at e3;obtain ⟨rfl,rfl⟩:=e3;obtain ⟨C1,C',T',p1,p2,p3,p4⟩:=hP B (o+off) cs.length (by simp);rw [h3] at p1;cases p1;have fH:aE w0 B (o+off) cs.length=((aE w0 B o l.length).drop off).take cs.length:=iF (by omega);have hbk:mS E ⟨true,a,cs⟩ (.vptr id off) y n=((cc cs ((l.drop off).take cs.length) y n).2.1++[(id, .var (eV l off (cc cs ((l.drop off).take cs.length) y n).1))],(cc cs ((l.drop off).take cs.length) y n).2.2):=by
   show (match E id with|some (.var l)=>_|_=>_)=_;rw [eI]
  rw [hbk] at iX ⊢;simp only at iX ⊢;have aaS:∀ i∈ai.bI ((l.drop off).take cs.length),K0 i:=fun i cU=>by
   obtain ⟨q,hq,hqi⟩:=gv.1 cU;exact TU.2 i (gv.2 ⟨q,agh (age hq),hqi⟩)
  have iZ:((l.drop off).take cs.length).all ai.bC=true:=by
   rw [aa1] at h6 ⊢;exact fun q hq=>h6 q (agh (age hq))
  have hlen:(aE w B (o+off) cs.length).length=cs.length:=by
   rw [cj p2];simp;omega
  obtain ⟨yG,I6,g1,g2,g3⟩:=iR (K0:=K0) (μ0:=μ0) cs (rest:=[B]++rest) (by simpa using h) (by rw [fH];exact (h5.drop off).take cs.length) aaS hk hb hM iX;have hle:=fN cs ((l.drop off).take cs.length) y n;have dB:=j5 (K:=K0) cs ((l.drop off).take cs.length) y n iZ aaS;have Uk:(cc cs ((l.drop off).take cs.length) y n).1.length=cs.length:=by rw [← g1.length,hlen]
  have hag:∀ i,K0 i→yG i=μ0 i:=fun i cU=>(g3 i (hk i cU).1).trans (hk i cU).2;have nk:cL c yG w id [B] (.var (eV l off (cc cs ((l.drop off).take cs.length) y n).1)):=by
   refine ⟨B,o,C',T,(hag id TU.1).trans h1,rfl,p2, ?_, ?_,mo h6 dB.1, ?_⟩
   . rw [iG (by omega)];omega
   . rw [iG (by omega),cj p2,Ct p3 h4 hl p4]
     have:=mQ (aj.mono l (fun i cU=>hag i (TU.2 i cU)) h5) g1 off;rw [hlen] at this;rw [cj h3,cj p2] at this;exact this
   . intro bZ j hj
     rw [iG (by omega)] at hj;exact hM0 B (o+j) (fun q=>h7 q j hj) bZ
  refine ⟨hle,yG,fun k=>if k=id then [B] else I6 k,trivial, ?_,g3⟩;rw [jH,dE];refine g2.add (μ':=yG) (fun _ _=>rfl) (fun _ cU=>cU) (.inl (hk id TU.1).1) (fun i cU=> ?_) nk;rcases IS cU with cU|cU
  . exact .inl (hk i (TU.2 i cU)).1
  . rcases dB.2 i cU with q|q
    . exact .inl (hk i q).1
    . exact .inr q
theorem TV {E:Env}:(it:Item)→(d:ai)→(y:uk it)→(n:Nat)→n≤(mS E it d y n).2
 |⟨false,_,cs⟩,d,y,n=>abD n
 |⟨true,a,cs⟩,d,y,n=>by
  cases d<;>try exact abD n
  rename_i id off;show n≤(match E id with|some (.var l)=>((cc cs ((l.drop off).take cs.length) y n).2.1++[(id,bQ.var (eV l off (cc cs ((l.drop off).take cs.length) y n).1))],(cc cs ((l.drop off).take cs.length) y n).2.2)|_=>(([],n):List (Nat×bQ)×Nat)).2;split
  . exact fN _ _ _ _
  . exact abD n
theorem DM {E:Env}:(l:List Item)→(ds:List ai)→(y:gN l)→(n:Nat)→n≤(jx E l ds y n).2
 |[],_,_,n=>abD n
 |_::_,[],_,n=>abD n
 |it::l,d::q,y,n=>aa3 (TV it d y.1 n) (DM l q y.2 _)
theorem BC (yD:∀ id x,v0 id=some x→cL c0 μ0 w0 id (fp0 id) x) (zA:∀ (ds:List ai) {vs:List Value},aj c0 μ0 vs ds→aj c μ0 vs ds) (hM0:∀ b j,(b<c0.w0.heap.size→c0.M b j)→b<c.w0.heap.size→c.M b j) (hE:∀ id x,E id=some x→v0 id=some x) (hK0:∀ id x,v0 id=some x→K0 id∧∀ dS∈x.ids,K0 dS) {S':Nat→Prop}:
  (l:List Item)→∀ {vs:List Value} {ds:List ai} {r:az l×List Nat} {y:gN l} {f0 f rest:List Nat} {g:List (Nat×Nat×Nat)} {n:Nat} {K:Nat→Prop} {μ:Nat→Loc} {fp:Nat→List Nat} {v:Env},
  ic c K μ fp v w (f++g.map (·.1)++rest)→aj c μ0 vs ds→(∀ id∈ai.bI ds,K0 id)→(∀ id,K0 id→K id∧μ id=μ0 id)→mu E EL l ds=some r→ba S' w0 l vs r.1 f0 g→dM c.fz w0 w l vs y f→
  (∀ b∈f,b<c.w0.heap.size→∀ j,c.M b j)→KP w0 w g→(∀ id,n≤id→id<(jx E l ds y n).2→¬ K id)→
  n≤(jx E l ds y n).2∧sV c K μ v w rest n (jx E l ds y n).2 (jx E l ds y n).1 fun _=>True
 |[],vs,ds,r,y,f0,f,rest,g,n,K,μ,fp,v,h,hd,hi,hk,ht,hr,hb,hM,_,_=>by
  simp only [ba] at hr;obtain ⟨rfl,rfl,rfl⟩:=hr;simp only [dM] at hb;obtain ⟨_,rfl⟩:=hb;exact ⟨abD n,μ,fp,trivial,ic.weaken (show ic c K μ fp v w rest by simpa using h) fun _=> .inl,fun _ _=>rfl⟩
 |it::l,vs,ds,r,y,f0,f,rest,g,n,K,μ,fp,v,h,hd,hi,hk,ht,hr,hb,hM,hP,iX=>by
  cases ds with
  |nil=>cases ht
  |cons d q=>
   replace ht:((IK E EL it d).bind fun x=>(mu E EL l q).map fun y=>((x.1,y.1),x.2++y.2))=some r:=ht;obtain ⟨z,hz,ht⟩:=Option.bind_eq_some_iff.1 ht;obtain ⟨z2,hz2,rfl⟩:=Option.map_eq_some_iff.1 ht;simp only [ba] at hr;obtain ⟨d1,bm,f1,f2,g1,g2,rfl,rfl,rfl,hr1,hr⟩:=hr;simp only [dM] at hb;obtain ⟨d2,Uy,b1,b2,e,rfl,Cw,hb⟩:=hb;cases e;simp only [aj] at hd;obtain ⟨d3,vs3,e,hd1,hd⟩:=hd;cases e;have hp:(b1++b2++(g1++g2).map (·.1)++rest).Perm (b1++g1.map (·.1)++(b2++g2.map (·.1)++rest)):=by
    rw [ag5];refine (List.Perm.append_right rest (uq b1 b2 _ _)).trans ?_;rw [aez]
   have e1:(jx E (it::l) (d::q) y n).2=(jx E l q y.2 (mS E it d y.1 n).2).2:=rfl;have e2:(jx E (it::l) (d::q) y n).1=(mS E it d y.1 n).1++(jx E l q y.2 (mS E it d y.1 n).2).1:=rfl;rw [e1] at iX ⊢;rw [e2];have amN:(mS E it d y.1 n).2≤(jx E l q y.2 (mS E it d y.1 n).2).2:=DM l q y.2 _;obtain ⟨l1,yG,I6,_,q2,q3⟩:=OX yD zA hM0 hE hK0 it (h.perm hp) hd1 (fun id cU=>hi id (by simp [ai.bI,cU])) hk hz hr1 Cw (fun b hb=>hM b (by simp [hb])) (fun B o m hm=>hP B o m (by simp [hm])) (fun id p1 p2=>iX id p1 (by omega));obtain ⟨l2,μ2,fp2,_,p2,p3⟩:=BC yD zA hM0 hE hK0 l q2 hd (fun id cU=>hi id (by simp [ai.bI,cU])) (fun id cU=>⟨.inl (hk id cU).1,(q3 id (hk id cU).1).trans (hk id cU).2⟩) hz2 hr hb (fun b hb=>hM b (by simp [hb]))
    (fun B o m hm=>hP B o m (by simp [hm])) (fun id p1 p2 p3=>p3.elim (iX id (by omega) p2) (by omega))
   refine ⟨by omega,μ2,fp2,trivial, ?_,fun id cU=>(p3 id (.inl cU)).trans (q3 id cU)⟩;rw [jH,dE];refine p2.weaken fun id cU=> ?_;rcases cU with (cU|cU)|cU
   . exact .inl cU
   . right;omega
   . right;omega
end
end
section
open Go
variable {z:Fz}
theorem zD:∀ {g:List (Nat×Nat×Nat)},(g.map (·.1)).Nodup→∀ {B:Nat} {x y:Nat×Nat},(B,x)∈g→(B,y)∈g→x=y
 |[],_,_,_,_,h,_=>by cases h
 |a::g,hn,B,x,y,h1,h2=>by
  simp only [acX,ac9] at hn;rcases abE.1 h1 with e1|h1
  . rcases abE.1 h2 with e2|h2
    . rw [← e1] at e2;cases e2;rfl
    . exact absurd (List.mem_map.2 ⟨_,h2,by rw [← e1]⟩) hn.1
  . rcases abE.1 h2 with e2|h2
    . exact absurd (List.mem_map.2 ⟨_,h1,by rw [← e2]⟩) hn.1
    . exact zD hn.2 h1 h2
theorem TW {c:Ctx} {μ:Nat→Loc} {vs:List Value} {ds:List ai} (h:aj c μ vs ds):an c μ (IQ vs) (Zt ds):=by
 match ds,h with
 |[],h=>simp only [aj] at h;subst h;simp only [IQ,Zt,an];exact ⟨_,rfl,by simp [aj]⟩
 |[d],h=>
  simp only [aj] at h;obtain ⟨v,bm,rfl,h1,rfl⟩:=h;exact h1
 |d1::d2::ds,h=>
  have h':=h;simp only [aj] at h;obtain ⟨v,bm,rfl,_,v2,Uy,rfl,_,_⟩:=h;simp only [IQ,Zt,an];exact ⟨_,rfl,h'⟩
theorem IT {C C':Array Value} (h:∀ j:Nat,C'[j]? =C[j]?):C'=C:=by
 apply Array.ext_getElem?;exact h
theorem qK {S:Nat→Prop} {w:World}:(l:List Item)→{vs:List Value}→{x:az l}→{f:List Nat}→{g:List (Nat×Nat×Nat)}→ba S w l vs x f g→∀ B o m,(B,o,m)∈g→∃ C T,w.heap[B]? =some (.cells C T (0,0))
 |[],_,_,_,_,h=>by simp only [ba] at h;obtain ⟨_,rfl,rfl⟩:=h;simp
 |it::r,_,_,_,_,h=>by
  simp only [ba] at h;obtain ⟨v,bm,f1,f2,g1,g2,rfl,rfl,rfl,h1,h⟩:=h;intro B o m hm;rcases aaN.1 hm with hm|hm
  . obtain ⟨p,a,cs⟩:=it
    cases p with
    |false=>simp only [cR] at h1;rw [h1.1] at hm;cases hm
    |true=>
     simp only [cR] at h1;obtain ⟨B',o',C,T,rfl,_,hb,_⟩:=h1;simp only [adi,Prod.mk.injEq] at hm;obtain ⟨rfl,_,_⟩:=hm;exact ⟨C,T,hb⟩
  . exact qK r h B o m hm
theorem fP {w:World}:(l:List Cm)→{vs:List Value}→{y:pf l}→{f:List Nat}→aW z w l vs y f→∀ b∈f,b<w.heap.size
 |[],_,_,_,h=>by simp only [aW] at h;rw [h.2];simp
 | .b::r,_,_,_,h=>by simp only [aW] at h;obtain ⟨_,bm,rfl,h⟩:=h;exact fP r h
 | .i _::r,_,_,_,h=>by simp only [aW] at h;obtain ⟨_,bm,rfl,h⟩:=h;exact fP r h
 | .s::r,_,_,_,h=>by simp only [aW] at h;obtain ⟨_,bm,rfl,h⟩:=h;exact fP r h
 | .e::r,_,_,_,h=>by simp only [aW] at h;obtain ⟨_,bm,rfl,h⟩:=h;exact fP r h
 | .k::r,_,_,_,h=>by simp only [aW] at h;obtain ⟨_,bm,rfl,h⟩:=h;exact fP r h
 | .ro e::r,_,_,_,h=>by simp only [aW] at h;obtain ⟨_,bm,rfl,h⟩:=h;exact fP r h
 | .own e::r,_,_,_,h=>by simp only [aW] at h;obtain ⟨_,bm,rfl,h⟩:=h;exact fP r h
 | .mut e::r,_,_,_,h=>by
   simp only [aW] at h;obtain ⟨_,bm,f1,f2,rfl,rfl,h1,h⟩:=h;intro b hb;rcases aaN.1 hb with hb|hb
   . exact Ty.ij _ h1 b hb
   . exact fP r h b hb
theorem fQ {w:World}:(l:List Cm)→{os vs:List Value}→{y:lb l}→{f:List Nat}→bd z w l os vs y f→∀ b∈f,b<w.heap.size
 |[],_,_,_,_,h=>by simp only [bd] at h;rw [h.2.2];simp
 | .b::r,_,_,_,_,h=>by simp only [bd] at h;obtain ⟨_,_,bm,rfl,rfl,h⟩:=h;exact fQ r h
 | .i _::r,_,_,_,_,h=>by simp only [bd] at h;obtain ⟨_,_,bm,rfl,rfl,h⟩:=h;exact fQ r h
 | .s::r,_,_,_,_,h=>by simp only [bd] at h;obtain ⟨_,_,bm,rfl,rfl,_,h⟩:=h;exact fQ r h
 | .e::r,_,_,_,_,h=>by simp only [bd] at h;obtain ⟨_,_,_,bm,rfl,rfl,_,h⟩:=h;exact fQ r h
 | .k::r,_,_,_,_,h=>by simp only [bd] at h;obtain ⟨_,_,bm,rfl,rfl,h⟩:=h;exact fQ r h
 | .ro e::r,_,_,_,_,h=>by simp only [bd] at h;obtain ⟨_,_,bm,rfl,rfl,h⟩:=h;exact fQ r h
 | .own e::r,_,_,_,_,h=>by
   simp only [bd] at h;obtain ⟨_,_,_,bm,f1,f2,rfl,rfl,rfl,h1,h⟩:=h;intro b hb;rcases aaN.1 hb with hb|hb
   . exact Ty.ij _ h1 b hb
   . exact fQ r h b hb
 | .mut e::r,_,_,_,_,h=>by
   simp only [bd] at h;obtain ⟨_,_,_,bm,f1,f2,rfl,rfl,rfl,h1,h⟩:=h;intro b hb;rcases aaN.1 hb with hb|hb
   . exact Ty.ij _ h1 b hb
   . exact fQ r h b hb
theorem yl {w w':World}:(l:List Item)→{vs:List Value}→{y:gN l}→{f:List Nat}→dM z w w' l vs y f→∀ b∈f,b<w'.heap.size
 |[],_,_,_,h=>by simp only [dM] at h;rw [h.2];simp
 |it::r,_,_,_,h=>by
  simp only [dM] at h;obtain ⟨v,bm,f1,f2,rfl,rfl,h1,h⟩:=h;intro b hb;rcases aaN.1 hb with hb|hb
  . obtain ⟨p,a,cs⟩:=it
    cases p with
    |false=>exact fP cs h1 b hb
    |true=>obtain ⟨B,o,_,h1⟩:=h1;exact fQ cs h1 b hb
  . exact yl r h b hb
theorem DN (l:List Item):OS (fun _=>true) l=true:=by
 unfold OS;rw [aa1];intro it _;rw [aa1];intro x _;cases x<;>rfl
theorem eF {p:Ty→Bool} {z z':Fz} {w:World} (H:∀ (e:Ty),p e=true→∀ (cs:List Value) (x:List e.D) (f:List Nat),(Ty.sl e).au z w cs x f→(Ty.sl e).au z' w cs x f):
  (l:List Cm)→l.all (Ge p)=true→{vs:List Value}→{y:pf l}→{f:List Nat}→aW z w l vs y f→aW z' w l vs y f
 |[],_,_,_,_,h=>by simp only [aW] at h ⊢; exact h
 | .b::r,hn,_,_,_,h=>by simp only [aW] at h ⊢; obtain ⟨a,bm,e,h⟩:=h;exact ⟨a,bm,e,eF H r (by simpa [Ge] using hn) h⟩
 | .i _::r,hn,_,_,_,h=>by simp only [aW] at h ⊢; obtain ⟨a,bm,e,h⟩:=h;exact ⟨a,bm,e,eF H r (by simpa [Ge] using hn) h⟩
 | .s::r,hn,_,_,_,h=>by simp only [aW] at h ⊢; obtain ⟨a,bm,e,h⟩:=h;exact ⟨a,bm,e,eF H r (by simpa [Ge] using hn) h⟩
 | .e::r,hn,_,_,_,h=>by simp only [aW] at h ⊢; obtain ⟨a,bm,e,h⟩:=h;exact ⟨a,bm,e,eF H r (by simpa [Ge] using hn) h⟩
 | .k::r,hn,_,_,_,h=>by simp only [aW] at h ⊢; obtain ⟨a,bm,e,h⟩:=h;exact ⟨a,bm,e,eF H r (by simpa [Ge] using hn) h⟩
 | .ro _::r,hn,_,_,_,h=>by simp only [aW] at h ⊢; obtain ⟨a,bm,e,h⟩:=h;exact ⟨a,bm,e,eF H r (by simpa [Ge] using hn) h⟩
 | .own _::r,hn,_,_,_,h=>by
   simp only [acY,aaE] at hn;simp only [aW] at h ⊢; obtain ⟨a,bm,e,h⟩:=h;exact ⟨a,bm,e,eF H r hn.2 h⟩
 | .mut e::r,hn,_,_,_,h=>by
   simp only [acY,aaE,Ge] at hn;simp only [aW] at h ⊢;obtain ⟨a,bm,f1,f2,e1,e2,h1,h⟩:=h;exact ⟨a,bm,f1,f2,e1,e2,H e hn.1 _ _ _ h1,eF H r hn.2 h⟩
theorem eG {p:Ty→Bool} {z z':Fz} {w:World} (H:∀ (e:Ty),p e=true→∀ (cs:List Value) (x:List e.D) (f:List Nat),(Ty.sl e).au z w cs x f→(Ty.sl e).au z' w cs x f):
  (l:List Cm)→l.all (Ge p)=true→{os vs:List Value}→{y:lb l}→{f:List Nat}→bd z w l os vs y f→bd z' w l os vs y f
 |[],_,_,_,_,_,h=>by simp only [bd] at h ⊢; exact h
 | .b::r,hn,_,_,_,_,h=>by simp only [bd] at h ⊢; obtain ⟨a,b,bm,e1,e2,h⟩:=h;exact ⟨a,b,bm,e1,e2,eG H r (by simpa [Ge] using hn) h⟩
 | .i _::r,hn,_,_,_,_,h=>by simp only [bd] at h ⊢; obtain ⟨a,b,bm,e1,e2,h⟩:=h;exact ⟨a,b,bm,e1,e2,eG H r (by simpa [Ge] using hn) h⟩
 | .s::r,hn,_,_,_,_,h=>by simp only [bd] at h ⊢; obtain ⟨a,b,bm,e1,e2,e3,h⟩:=h;exact ⟨a,b,bm,e1,e2,e3,eG H r (by simpa [Ge] using hn) h⟩
 | .e::r,hn,_,_,_,_,h=>by simp only [bd] at h ⊢; obtain ⟨a,b,v,bm,e1,e2,e3,h⟩:=h;exact ⟨a,b,v,bm,e1,e2,e3,eG H r (by simpa [Ge] using hn) h⟩
 | .k::r,hn,_,_,_,_,h=>by simp only [bd] at h ⊢; obtain ⟨a,b,bm,e1,e2,h⟩:=h;exact ⟨a,b,bm,e1,e2,eG H r (by simpa [Ge] using hn) h⟩
 | .ro _::r,hn,_,_,_,_,h=>by simp only [bd] at h ⊢; obtain ⟨a,b,bm,e1,e2,h⟩:=h;exact ⟨a,b,bm,e1,e2,eG H r (by simpa [Ge] using hn) h⟩
 | .own e::r,hn,_,_,_,_,h=>by
   simp only [acY,aaE,Ge] at hn;simp only [bd] at h ⊢;obtain ⟨a,b,v,bm,f1,f2,e1,e2,e3,h1,h⟩:=h;exact ⟨a,b,v,bm,f1,f2,e1,e2,e3,H e hn.1 _ _ _ h1,eG H r hn.2 h⟩
 | .mut e::r,hn,_,_,_,_,h=>by
   simp only [acY,aaE,Ge] at hn;simp only [bd] at h ⊢;obtain ⟨a,b,v,bm,f1,f2,e1,e2,e3,h1,h⟩:=h;exact ⟨a,b,v,bm,f1,f2,e1,e2,e3,H e hn.1 _ _ _ h1,eG H r hn.2 h⟩
theorem kE {p:Ty→Bool} {z z':Fz} {w w':World} (H:∀ (e:Ty),p e=true→∀ (cs:List Value) (x:List e.D) (f:List Nat),(Ty.sl e).au z w' cs x f→(Ty.sl e).au z' w' cs x f):
  (l:List Item)→OS p l=true→{vs:List Value}→{y:gN l}→{f:List Nat}→dM z w w' l vs y f→dM z' w w' l vs y f
 |[],_,_,_,_,h=>by simp only [dM] at h ⊢; exact h
 |it::r,hn,_,_,_,h=>by
  have nz:it.cs.all (Ge p)=true∧OS p r=true:=by simpa [OS] using hn
  simp only [dM] at h ⊢;obtain ⟨v,bm,f1,f2,e1,e2,h1,h⟩:=h;refine ⟨v,bm,f1,f2,e1,e2, ?_,kE H r nz.2 h⟩;obtain ⟨q,a,cs⟩:=it;cases q with
  |false=>exact eF H cs nz.1 h1
  |true=>obtain ⟨B,o,e3,h1⟩:=h1;exact ⟨B,o,e3,eG H cs nz.1 h1⟩
theorem TX {P:Program} {K:bM} (hK:K.Ok P) {u:Nat×(Int→Int×Int)} (hu:K.vw=some u) {ds:List ai} {E:Env} {r:iv} (ho:(TR E u.1 u.2 ds).eval=some r)
  (c:Ctx) (μ:Nat→Loc) (fp:Nat→List Nat) (s:lx) (w:World) (vs:List Value) (hv:cX c μ fp s.v w) (ev:Ev c w) (vW:aj c μ vs ds)
  (hE:∀ id x,E id=some x→s.v id=some x):
  la P K.f vs.toArray w fun v' w'=>∃ c' μ' fp',Ext c c'∧FV c' μ s r v' w' μ' fp':=by
 unfold bM.Ok at hK;rw [hu] at hK;replace hK:∀ (ad:Option Addr) (len cap:Nat) (n:Int) (w:World),len≤cap→0≤(u.2 n).1→(u.2 n).1≤(u.2 n).2→(u.2 n).2≤(len:Int)→
  la P K.f #[.slice ad len cap, .int .i64 n] w fun v' w'=>v'= .slice (if cap=(u.2 n).1.toNat then ad else ad.map (·.add ((u.2 n).1.toNat*u.1))) ((u.2 n).2.toNat - (u.2 n).1.toNat) (cap - (u.2 n).1.toNat)∧w'=w:=hK
 unfold TR at ho;split at ho
 . rename_i id n
   obtain ⟨m,hm,hr⟩:=aM ho;split at hr
   . rename_i sW
     rcases cb hr with ⟨h0,hr⟩|⟨_,hr⟩
     . have h0:=abH h0
       rw [aX hr];obtain ⟨ad,len,cap,g1,g2,g3,g4⟩:=lz hv hE sW;simp only [aj,an] at vW;obtain ⟨v1,_,rfl,⟨ad',nV,j7,sz,q1,rfl⟩,v2,_,rfl,rfl,rfl⟩:=vW;rw [g1] at q1;cases q1;obtain rfl:len=m:=aaG (g4.symm.trans hm);refine (hK ad len cap n w g2 h0.1 h0.2.1 h0.2.2).mono fun v' w' ⟨Pb,hw'⟩=> ?_;subst hw';refine ⟨c,μ,fp,Ext.refl c,⟨fun _ _=>rfl, ?_,hv,ev⟩⟩;rw [Pb];simp only [an,ada];refine ⟨ad,len,cap,u.1,_,g1,by omega,g2,rfl, ?_⟩;by_cases Zc:cap=(u.2 n).1.toNat
       . left;omega
       . right
         obtain ⟨b,o',rfl⟩:=g3 (by omega);refine ⟨b,o',rfl, ?_⟩;rw [aap Zc];simp only [afJ,Addr.add];split<;>simp_all
     . cases hr
   . cases hr
 . rename_i e xs tk n
   split at ho
   . rename_i sW
     rcases cb ho with ⟨h0,hr⟩|⟨_,hr⟩
     . have h0:=abH h0
       rw [aX hr];simp only [aj,an] at vW;obtain ⟨v1,_,rfl,⟨dI,_⟩,v2,_,rfl,rfl,rfl⟩:=vW;have yD:∃ ad cap,v1= .slice ad xs.length cap∧xs.length≤cap∧(xs=[]∨∃ b o',ad=some ⟨b,o',none⟩):=by
        simp only [Ty.aQ] at dI;obtain ⟨ad,cap,e1,hc,h3⟩:=dI;refine ⟨ad,cap,(List.cons.inj e1).1,hc.1, ?_⟩;rcases h3 with h3|⟨b,o',h3,_⟩
        . exact .inl h3
        . exact .inr ⟨b,o',h3⟩
       obtain ⟨ad,cap,rfl,hc,had⟩:=yD;refine (hK ad xs.length cap n w hc h0.1 h0.2.1 h0.2.2).mono fun v' w' ⟨Pb,hw'⟩=> ?_;subst hw';refine ⟨c,μ,fp,Ext.refl c,⟨fun _ _=>rfl, ?_,hv,ev⟩⟩;rw [Pb];simp only [an];refine ⟨?_,by simp⟩;by_cases zA:xs=[]
       . subst zA
         simp only [aat] at h0 ⊢;have e1:(u.2 n).2.toNat - (u.2 n).1.toNat=0:=by omega
         rw [e1];simp only [ahI];simp only [Ty.aQ];exact ⟨_,_,rfl,⟨afO _,afO _⟩, .inl rfl⟩
       . obtain ⟨b,o',rfl⟩:=had.resolve_left zA
         refine A8 dI (by omega) ?_;by_cases Zc:cap=(u.2 n).1.toNat
         . left;omega
         . right;refine ⟨b,o',rfl, ?_⟩
           rw [aap Zc];simp only [afJ,Addr.add,sW];split<;>simp_all
     . cases hr
   . cases ho
 . cases ho
theorem TZ {P:Program} {K:bM} (hK:K.Ok P) (NF:K.vw=none) {ds:List ai} {E:Env} {fr:Nat} {o:Out iv} {r:iv} (ym:K.call ds E fr=some o) (ho:o.eval=some r)
  (c:Ctx) (μ:Nat→Loc) (fp:Nat→List Nat) (s:lx) (w:World) (vs:List Value) (hP:c.P=P) (hv:cX c μ fp s.v w) (Fc:pt s) (ev:Ev c w) (vW:aj c μ vs ds) (Bc:∀ id∈ai.bI ds,s.k id)
  (hE:∀ id x,E id=some x→s.v id=some x) (iX:∀ id,fr≤id→id<fr+64→¬ s.k id):
  la P K.f vs.toArray w fun v' w'=>∃ c' μ' fp',Ext c c'∧FV c' μ s r v' w' μ' fp':=by
 unfold bM.Ok at hK;rw [NF] at hK;unfold bM.call at ym;obtain ⟨is,his,ym⟩:=Option.bind_eq_some_iff.1 ym;obtain ⟨x,hx,ym⟩:=Option.bind_eq_some_iff.1 ym;split at ym
 case isFalse=>cases ym
 rename_i hc;obtain ⟨pG,Nl⟩:=hc;obtain rfl:=aaG ym;obtain ⟨y,hy,hr⟩:=cW ho;obtain ⟨tw,hiv,rfl,fH⟩:=xH K.lay his vW;have ai9:∀ id∈ai.bI is,s.k id:=fun id hi=>Bc id (fH id hi);have hn:=mm _ pG
 -- what is lent
 generalize DK:IL K E is=EL at hx Nl;have aja:∀ id x,EL id=some x→s.v id=some x:=by
  intro id z hz;rw [← DK] at hz;unfold IL at hz;by_cases hl:K.lend=true
  . rw [aaK hl] at hz
    cases h0:mu E E K.aK is with
    |none=>rw [h0] at hz;cases hz
    |some q=>
     rw [h0] at hz;replace hz:(if q.2.contains id=true then none else E id)=some z:=hz;split at hz
     . cases hz
     . exact hE id z hz
  . rw [aap hl] at hz
    cases hz
 have ajb:K.lend=false→∀ id,EL id=none:=by
  intro hl id;rw [← DK];unfold IL;rw [aap (by simp [hl])];rfl
 have KF:∀ id∈x.2,EL id=none:=by
  intro id hi;rcases Nl with hl|⟨_,hl⟩
  . exact ajb hl id
  . have:=aa1.1 hl id hi
    cases he:EL id with
    |none=>rfl
    |some z=>rw [he] at this;cases this
 let S':Nat→Prop:=fun b=>c.S b∨∃ id,EL id≠none∧b∈fp id
 have hvn:∀ id,EL id≠none→s.v id≠none:=fun id hi=>by
  obtain ⟨z,hz⟩:=Option.ne_none_iff_exists'.1 hi;rw [aja id z hz];simp
 have tX:Gw S' w:=by
  refine ⟨?_,c.hS.2.mono (fun b hb=> .inl hb) ev.S⟩
  rintro b (hb|⟨id,hi,hb⟩)
  . exact acO (c.hS.1 b hb) ev.size
  . exact hv.lt id (hvn id hi) b hb
 obtain ⟨f,g,dI,hg⟩:=ur hv ev hE aja (S':=S') (fun b hb=> .inl hb) (fun id hi b hb=> .inr ⟨id,hi,hb⟩) K.aK hiv hx hn;have vQ:∀ b∈f++g.map (·.1),∀ id,s.v id≠none→id ∉ x.2→b ∉ fp id:=by
  intro b hb id hi hni cf;obtain ⟨i,him,hm⟩:=hg.mem b hb;exact hv.sep i id (fun e=>hni (e ▸ him)) (hg.there i him).1 hi b hm cf
 have aaT:∀ b∈f++g.map (·.1),¬ S' b:=by
  rintro b hb (hs|⟨id,hi,hm⟩)
  . obtain ⟨i,him,hm⟩:=hg.mem b hb
    exact hv.jg i (hg.there i him).1 b hm hs
  . refine vQ b hb id (hvn id hi) (fun him=>hi (KF id him)) hm
 have bZ:=mT K.aK dI;refine (hK x.1 y hy S' w tX tw f g dI hg.nodup aaT).mono fun v' w' hd=> ?_;obtain ⟨⟨rvs,f1,g1,f2,rfl,⟨S2,_,I1,hs3,hrs,hbk⟩,aeK,BD⟩,Af⟩:=hd;have qw:=Af.size;have qw:w.heap.size≤w'.heap.size:=qw;have hcw:c.w0.heap.size≤w.heap.size:=ev.size;have hgn:(g.map (·.1)).Nodup:=(acd.1 hg.nodup).2.1
 -- the memory
 have ajc:Ev c w':=by
  refine ev.comp Af rfl (fun b hb=> .inl hb) fun b j hb hm=> ?_;rcases hm with hm|⟨o,m,hm,h1,h2⟩
  . exact hg.may b hm hb j
  . have:=hg.Zw b o m hm hb (j - o) (by omega)
    rwa [show o+(j - o)=j by omega] at this
 have vO:∀ id,s.v id≠none→id ∉ x.2→∀ b∈fp id,w'.heap[b]? =w.heap[b]? :=by
  intro id hi hni b hb;rcases Af.yd b (hv.lt id hi b hb) with e|⟨C,C',T,h1,h2,h3,h4⟩|⟨hm,_⟩
  . exact e
  . have h1:w.heap[b]? =some (.cells C T (0,0)):=h1
    have:C'=C:=IT fun j=>h4 j fun hm=>by
     rcases hm with hm|⟨o,m,hm,_,_⟩
     . exact vQ b (by simp [hm]) id hi hni hb
     . exact vQ b (aaN.2 (.inr (List.mem_map.2 ⟨_,hm,rfl⟩))) id hi hni hb
    rw [h2,h1,this]
  . rcases hm with hm|⟨o,m,hm,_,_⟩
    . exact absurd (by simp [hm]) fun q=>vQ b q id hi hni hb
    . exact absurd (aaN.2 (.inr (List.mem_map.2 ⟨_,hm,rfl⟩))) fun q=>vQ b q id hi hni hb
 have Zy:KP w w' g:=by
  intro B o m hm;have hB:B∈f++g.map (·.1):=aaN.2 (.inr (List.mem_map.2 ⟨_,hm,rfl⟩));obtain ⟨C0,T0,hC0⟩:=qK K.aK dI B o m hm;rcases Af.yd B (bZ B hB) with e|⟨C,C',T,h1,h2,h3,h4⟩|⟨_,_,_,_,h1,_⟩
  . have e:w'.heap[B]? =w.heap[B]? :=e
    exact ⟨C0,C0,T0,hC0,by rw [e,hC0],rfl,fun _ _=>rfl⟩
  . refine ⟨C,C',T,h1,h2,h3,fun j hj=>h4 j fun pI=> ?_⟩
    rcases pI with pI|⟨o',m',pI,q1,q2⟩
    . exact (acd.1 hg.nodup).2.2 B pI B (List.mem_map.2 ⟨_,hm,rfl⟩) rfl
    . have:=zD hgn hm pI
      cases this;exact hj ⟨q1,q2⟩
  . have h1:w.heap[B]? =some (.stringIter _ _):=h1
    rw [hC0] at h1;cases h1
 -- the variables that are left
 let v0:Env:=cC s.v (x.2.map fun k=>(k,none))
 have yD:∀ id,v0 id=if id∈x.2 then none else s.v id:=fun id=>kj s.v x.2 id
 have KQ:∀ id,v0 id≠none→id ∉ x.2∧s.v id≠none:=by
  intro id hi;rw [yD] at hi;split at hi
  . exact absurd rfl hi
  . exact ⟨‹_›, hi⟩
 have aaU:cX c μ fp v0 w':=hv.less (fun id=>by
  rw [yD];split
  . exact .inl rfl
  . exact .inr rfl) qw fun id hi b hb=>vO id (KQ id hi).2 (KQ id hi).1 b hb
 have pw:(f1++g1.map (·.1)++(f2++g.map (·.1))).Perm (f2++g.map (·.1)++(f1++g1.map (·.1)++[])):=by
  rw [aeI];exact List.perm_append_comm
 have amQ:=mT K.rs hrs;have iU:∀ b∈f2++g.map (·.1)++(f1++g1.map (·.1)++[]),(b∈f++g.map (·.1))∨w.heap.size≤b:=by
  intro b hb;simp only [aeI,aaN] at hb;rcases hb with (hb|hb)|hb
  . exact (BD b (by simp [hb])).imp (fun h=>by simp [h]) id
  . left;simp only [aaN];exact .inr hb
  . exact (BD b (by simp only [aaN];exact .inl hb)).imp (fun h=>by simp [h]) id
 -- the context from here on
 let Sn:Nat→Prop:=fun b=>c.S b∨(K.lend=false∧S2 b)
 have ajd:∀ b,Sn b→c.S b∨w.heap.size≤b∨b∈f:=by
  rintro b (hb|⟨hl,hb⟩)
  . exact .inl hb
  . rcases (I1 b hb).1 with (h|⟨id,hi,_⟩)|h
    . exact .inl h
    . exact absurd (ajb hl id) hi
    . exact .inr h
 have hSn:Gw Sn w':=by
  refine ⟨?_,c.hS.2.mono (fun b hb=> .inl hb) ajc.S⟩
  rintro b (hb|⟨_,hb⟩)
  . have:=c.hS.1 b hb;omega
  . exact (I1 b hb).2
 have Iy:Ext c (c.next w' Sn hSn):=Ext.next ajc (fun b hb=> .inl hb) fun b hb=>by
  rcases ajd b hb with h|h|h
  . exact .inl h
  . exact .inr (.inl (aa3 hcw h))
  . rcases ae0 b c.w0.heap.size with pC|I5
    . exact .inr (.inr (hg.may b h pC))
    . exact .inr (.inl I5)
 have DO:ic (c.next w' Sn hSn) s.k μ fp v0 w' (f2++g.map (·.1)++(f1++g1.map (·.1)++[])):=by
  refine ⟨aaU.next Iy fun id hi b hb hs=> ?_,fun id z hz=> ?_,pw.nodup_iff.1 aeK,fun id hi b hb cf=> ?_,fun b hb=> ?_⟩
  . rcases ajd b hs with h|h|h
    . exact aaU.jg id hi b hb h
    . have:=hv.lt id (KQ id hi).2 b hb;omega
    . exact vQ b (aaN.2 (.inl h)) id (KQ id hi).2 (KQ id hi).1 hb
  . have CU:s.v id=some z:=by
     have:=KQ id (by rw [hz];simp);rw [yD,aap this.1] at hz;exact hz
    exact Fc.v id z CU
  . obtain ⟨h1,h2⟩:=KQ id hi
    rcases iU b cf with h|h
    . exact vQ b h id h2 h1 hb
    . have:=hv.lt id h2 b hb;omega
  . constructor
    . rintro (hs|⟨_,hs⟩)
      . rcases iU b hb with h|h
        . exact aaT b h (.inl hs)
        . have:=c.hS.1 b hs;omega
      . exact hs3 b (pw.mem_iff.2 hb) hs
    . simp only [aeI,aaN] at hb
      rcases hb with (hb|hb)|hb
      . exact yl K.aK hbk b hb
      . exact acO (bZ b (by simp only [aaN];exact .inr hb)) qw
      . exact amQ b (by simpa only [aaN] using hb)
 have hMf:∀ b,(b∈f∨w.heap.size≤b)→b<c.w0.heap.size→∀ j,c.M b j:=by
  intro b hb pC j;rcases hb with hb|hb
  . exact hg.may b hb pC j
  . omega
 have hMn:∀ b,(b∈f∨w.heap.size≤b)→∀ j,(c.next w' Sn hSn).M b j:=by
  intro b hb j;rcases ae0 b c.w0.heap.size with bZ|I5
  . exact .inl (hMf b hb bZ j)
  . exact .inr I5
 -- what comes back, and what is new
 unfold after at hr;simp only at hr;split at hr
 case isFalse=>cases hr
 rename_i acR;obtain rfl:=aaG hr;rw [DJ] at acR;have hle:=wj K.rs (jx E K.aK is y.2 fr).2;replace hbk:dM (c.next w' Sn hSn).fz w w' K.aK tw y.2 f2:=by
  rcases Nl with hl|⟨hl,_⟩
  . exact kE (p:=fun _=>true) (fun e _ _ _ _ h=>Ty.dc (show Fz.le ⟨S2,w'⟩ ⟨Sn,w'⟩ from fun b hb=>⟨.inr ⟨hl,hb⟩,rfl⟩) _ h) K.aK (DN K.aK) hbk
  . exact kE (p:=Ty.qp) (fun e he _ _ _ h=>Ty.jJ (.sl e) he h) K.aK hl.2 hbk
 obtain ⟨amN,yG,I6,_,hp1,ha1⟩:=BC hv.rel (fun ds _ hr=>aj.ext Iy ds hr) (fun b j hb _=>by
  rcases ae0 b c.w0.heap.size with pC|I5
  . exact .inl (hb pC)
  . exact .inr I5) hE Fc.v K.aK DO (aj.ext Iy _ hiv) ai9 (fun id hi=>⟨hi,rfl⟩) hx dI hbk (fun b hb _=>hMn b (BD b (by simp [hb]))) Zy
  (fun id q1 q2=>iX id q1 (by omega))
 have amS:ba Sn w' K.rs rvs y.1 f1 g1:=by
  rcases Nl with hl|⟨hl,_⟩
  . exact BB (fun b hb=> .inr ⟨hl,hb⟩) K.rs hrs
  . exact px K.rs hl.1 hrs
 obtain ⟨μ2,fp2,OP,Gr,ha2⟩:=qJ false (fun b hb=>⟨hb,rfl⟩) K.rs hp1 amS (wq _ _ _) (fun b hb _=>hMn b (BD b (by simp [hb])))
  (fun B o m hm _ j _=>hMn B (BD B (by simp only [aaN,List.mem_map];exact .inl (.inr ⟨_,hm,rfl⟩))) (o+j)) (n:=(jx E K.aK is y.2 fr).2)
  (fun id q1 q2 q3=>q3.elim (iX id (by omega) (by omega)) (by omega))
 refine ⟨_,μ2,fp2,Iy,⟨fun id hi=>(ha2 id (.inl hi)).trans (ha1 id hi),TW OP, ?_,Ev.start _⟩⟩;rw [dE,jH,dE];exact Gr.rel
theorem nq {P:Program}:∀ (l:List bM),(∀ K∈l,K.Ok P)→∀ {C:Cx},(C.call=IM l)→jq C P:=by
 intro l hl C hC f ds E fr r hr c μ fp s w vs hP hv Fc ev vW Bc hE iX;rw [hC] at hr;clear hC
 induction l with
 |nil=>cases hr
 |cons K l ih=>
  simp only [IM] at hr;split at hr
  . rename_i e;subst e
    split at hr
    . rename_i v e
      exact TX (hl K (by simp)) e hr c μ fp s w vs hv ev vW hE
    . rename_i e0
      split at hr
      . rename_i o e
        exact TZ (hl K (by simp)) e0 e hr c μ fp s w vs hP hv Fc ev vW Bc hE iX
      . exact ih (fun K hK=>hl K (by simp [hK])) hr
  . exact ih (fun K hK=>hl K (by simp [hK])) hr
end
section
open Go
variable {z:Fz}
mutual
def Ty.WF:(t:Ty)→t.D→Prop
 | .str,x=>List.length x≤aS
 | .sl e,xs=>List.length xs≤aS∧∀ (i:Nat) (y:e.D),nth (α:=e.D) xs i=some y→e.WF y
 | .fz e,xs=>List.length xs≤aS∧∀ (i:Nat) (y:e.D),nth (α:=e.D) xs i=some y→e.WF y
 | .st fs,x=>fs.WF x
 | .bool,_=>True
 | .int _,_=>True
 | .hole,_=>True
def aI.WF:(ts:aI)→ts.D→Prop
 | .nil,_=>True
 | .cons t ts,x=>t.WF x.1∧ts.WF x.2
end
mutual
theorem Ty.mU {S:Nat→Prop} {w:World}:(t:Ty)→{cs:List Value}→{x:t.D}→t.aQ S w cs x→t.WF x
 | .bool,_,_,_=>by simp [Ty.WF]
 | .int _,_,_,_=>by simp [Ty.WF]
 | .str,_,_,h=>by simp only [Ty.aQ] at h;simp only [Ty.WF];exact h.2
 | .hole,_,_,_=>by simp [Ty.WF]
 | .sl e,_,xs,h=>by
   simp only [Ty.aQ] at h;obtain ⟨a,cap,_,hc,h⟩:=h;simp only [Ty.WF];refine ⟨hc.2,fun i y hy=> ?_⟩;rcases h with h|⟨b,o,_,_,hi⟩
   . subst h;simp [nth] at hy
   . exact Ty.mU e (hi i y hy)
 | .fz e,_,xs,h=>by
   simp only [Ty.aQ] at h;obtain ⟨a,cap,_,hc,h⟩:=h;simp only [Ty.WF];refine ⟨hc.2,fun i y hy=> ?_⟩;rcases h with h|⟨b,o,_,_,hi⟩
   . subst h;simp [nth] at hy
   . exact Ty.mU e (hi i y hy)
 | .st fs,_,_,h=>by simp only [Ty.aQ] at h;simp only [Ty.WF];exact aI.mU fs h
theorem aI.mU {S:Nat→Prop} {w:World}:(t:aI)→{cs:List Value}→{x:t.D}→t.aQ S w cs x→t.WF x
 | .nil,_,_,_=>by simp [aI.WF]
 | .cons t ts,_,_,h=>by
   simp only [aI.aQ] at h;obtain ⟨c1,c2,_,h1,h2⟩:=h;simp only [aI.WF];exact ⟨Ty.mU t h1,aI.mU ts h2⟩
end
mutual
theorem Ty.lB {w:World}:(t:Ty)→{cs:List Value}→{x:t.D}→{f:List Nat}→t.au z w cs x f→t.WF x
 | .bool,_,_,_,_=>by simp [Ty.WF]
 | .int _,_,_,_,_=>by simp [Ty.WF]
 | .str,_,_,_,h=>by simp only [Ty.au] at h;simp only [Ty.WF];exact h.2.2
 | .hole,_,_,_,_=>by simp [Ty.WF]
 | .sl e,_,xs,_,h=>by
   simp only [Ty.au] at h;obtain ⟨a,cap,_,hc,h⟩:=h;simp only [Ty.WF];refine ⟨hc.2,fun i y hy=> ?_⟩;have bZ:i<List.length xs:=(List.getElem?_eq_some_iff.1 hy).1;rcases h with ⟨h0,_⟩|⟨b,o,c,E,fps,_,_,_,hl,_,hi⟩
   . omega
   . exact Ty.lB e (hi i y (fps[i]'(hl ▸ bZ)) hy (aaf _))
 | .fz e,_,_,_,h=>by simp only [Ty.au] at h;exact Ty.mU (.fz e) h.1
 | .st fs,_,_,_,h=>by simp only [Ty.au] at h;simp only [Ty.WF];exact aI.lB fs h
theorem aI.lB {w:World}:(t:aI)→{cs:List Value}→{x:t.D}→{f:List Nat}→t.au z w cs x f→t.WF x
 | .nil,_,_,_,_=>by simp [aI.WF]
 | .cons t ts,_,_,_,h=>by
   simp only [aI.au] at h;obtain ⟨c1,c2,f1,f2,_,_,h1,h2⟩:=h;simp only [aI.WF];exact ⟨Ty.lB t h1,aI.lB ts h2⟩
end
theorem lB {w:World} {t:Ty} {cs:List Value} {x:t.D} {f:List Nat} (h:t.au z w cs x f):t.WF x:=Ty.lB t h
def BE:(l:List Cm)→tt l→Prop
 |[],_=>True
 | .b::r,x=>BE r x.2
 | .i _::r,x=>BE r x.2
 | .s::r,x=>List.length x.1≤aS∧BE r x.2
 | .e::r,x=>BE r x.2
 | .k::r,x=>BE r x
 | .ro e::r,x=>(Ty.sl e).WF x.1∧BE r x.2
 | .own e::r,x=>(Ty.sl e).WF x.1∧BE r x.2
 | .mut e::r,x=>(Ty.sl e).WF x.1∧BE r x.2
def aD:(l:List Item)→az l→Prop
 |[],_=>True
 |it::r,x=>BE it.cs x.1∧aD r x.2
theorem jl {S:Nat→Prop} {w:World}:(l:List Cm)→{vs:List Value}→{x:tt l}→{f:List Nat}→aT S w l vs x f→BE l x
 |[],_,_,_,_=>by simp [BE]
 | .b::r,_,_,_,h=>by simp only [aT] at h;obtain ⟨bm,rfl,h⟩:=h;exact jl r h
 | .i _::r,_,_,_,h=>by simp only [aT] at h;obtain ⟨bm,rfl,h⟩:=h;exact jl r h
 | .s::r,_,_,_,h=>by simp only [aT] at h;obtain ⟨bm,rfl,hl,h⟩:=h;exact ⟨hl,jl r h⟩
 | .e::r,_,_,_,h=>by simp only [aT] at h;obtain ⟨_,bm,rfl,hl,h⟩:=h;exact jl r h
 | .k::r,_,_,_,h=>by simp only [aT] at h;obtain ⟨_,bm,rfl,hl,h⟩:=h;exact jl r h
 | .ro e::r,_,_,_,h=>by simp only [aT] at h;obtain ⟨v,bm,rfl,h1,h⟩:=h;exact ⟨Ty.mU _ h1,jl r h⟩
 | .own e::r,_,_,_,h=>by simp only [aT] at h;obtain ⟨v,bm,f1,f2,rfl,rfl,h1,h⟩:=h;exact ⟨lB h1,jl r h⟩
 | .mut e::r,_,_,_,h=>by simp only [aT] at h;obtain ⟨v,bm,f1,f2,rfl,rfl,h1,h⟩:=h;exact ⟨lB h1,jl r h⟩
theorem qL {S:Nat→Prop} {w:World}:(l:List Item)→{vs:List Value}→{x:az l}→{f:List Nat}→{g:List (Nat×Nat×Nat)}→ba S w l vs x f g→aD l x
 |[],_,_,_,_,_=>by simp [aD]
 |it::r,_,_,_,_,h=>by
  simp only [ba] at h;obtain ⟨v,bm,f1,f2,g1,g2,rfl,rfl,rfl,h1,h⟩:=h;refine ⟨?_,qL r h⟩;obtain ⟨p,a,cs⟩:=it;cases p with
  |false=>simp only [cR] at h1;exact jl cs h1.2.1
  |true=>simp only [cR] at h1;obtain ⟨_,_,_,_,_,_,_,_,h1⟩:=h1;exact jl cs h1
theorem wu {c:Ctx} {μ:Nat→Loc}:(l:NG)→{vs:List Value}→{ds:List ai}→aj c μ vs ds→aj c μ (lK l vs) (xG l ds)
 |[],_,_,_=>by simp [lK,xG,aj]
 |none::l,vs,ds,h=>by
  cases ds with
  |nil=>simp only [aj] at h;subst h;exact wu l (by simp [aj])
  |cons d ds=>
   simp only [aj] at h;obtain ⟨v,bm,rfl,h1,h2⟩:=h;simp only [lK,xG,aj];exact ⟨v,_,rfl,h1,wu l h2⟩
 |some (g,k)::l,vs,ds,h=>by
  simp only [lK,xG,aj,an];exact ⟨_,_,rfl,⟨_,rfl,h.take k⟩,wu l (h.drop k)⟩
theorem wv:(l:NG)→{ds:List ai}→∀ id∈ai.bI (xG l ds),id∈ai.bI ds
 |[],_=>by intro id h;cases h
 |none::l,[]=>fun id h=>wv l id h
 |none::l,d::ds=>by
  intro id h;simp only [xG,ai.bI,aaN] at h ⊢;exact h.imp (fun h=>h) (wv l id)
 |some (g,k)::l,ds=>by
  intro id h;simp only [xG,ai.bI,ai.ids,aaN] at h;rcases h with h|h
  . obtain ⟨d,hd,hi⟩:=gv.1 h
    exact gv.2 ⟨d,age hd,hi⟩
  . obtain ⟨d,hd,hi⟩:=gv.1 (wv l id h)
    exact gv.2 ⟨d,agh hd,hi⟩
def xI:List Cm→List Value→Nat→Nat→Value
 | .b::r,_::vs,n=>xI r vs n
 | .i _::r,_::vs,n=>xI r vs n
 | .s::r,_::vs,n=>xI r vs n
 | .e::r,_::vs,n=>xI r vs n
 | .k::r,v::vs,n=>fun k=>if k=n then v else xI r vs (n+1) k
 | .ro _::r,v::vs,n=>fun k=>if k=n then v else xI r vs (n+1) k
 | .own _::r,_::vs,n=>xI r vs (n+1)
 | .mut _::r,_::vs,n=>xI r vs (n+1)
 |_,_,_=>fun _=>Go.undef
def aje (w:World):Item→Value→Nat→Nat→Value
 |⟨false,_,cs⟩,v,n=>xI cs v.cells.toList n
 |⟨true,_,cs⟩, .pointer (some a),n=>xI cs (aE w a.block a.off cs.length) (n+1)
 |⟨true,_,_⟩,_,_=>fun _=>Go.undef
def BF (w:World):List Item→List Value→Nat→Nat→Value
 |it::r,v::vs,n=>fun k=>if k<Cs it n then aje w it v n k else BF w r vs (Cs it n) k
 |_,_,_=>fun _=>Go.undef
theorem kF {c:Ctx} {tk:Bool}:(l:List Cm)→{vs:List Value}→{n:Nat}→(∀ k,n≤k→k<um l n→c.tok k=xI l vs n k)→iu c tk l vs n
 |[],_,_,_=>by simp [iu]
 | .b::r,[],_,_=>by simp [iu]
 | .i _::r,[],_,_=>by simp [iu]
 | .s::r,[],_,_=>by simp [iu]
 | .e::r,[],_,_=>by simp [iu]
 | .k::r,[],_,_=>by simp [iu]
 | .ro _::r,[],_,_=>by simp [iu]
 | .own _::r,[],_,_=>by simp [iu]
 | .mut _::r,[],_,_=>by simp [iu]
 | .b::r,_::vs,n,h=>kF r h
 | .i _::r,_::vs,n,h=>kF r h
 | .s::r,_::vs,n,h=>kF r h
 | .e::r,_::vs,n,h=>kF r h
 | .k::r,v::vs,n,h=>by
   have l1:=gz r (n+1);have h:∀ k,n≤k→k<um r (n+1)→c.tok k=if k=n then v else xI r vs (n+1) k:=h
   refine ⟨fun _=> ?_,kF r fun k h1 h2=> ?_⟩
   . rw [h n (abD n) (by omega),aaK rfl]
   . rw [h k (by omega) h2,aap (by omega)]
 | .ro _::r,v::vs,n,h=>by
   have l1:=gz r (n+1);have h:∀ k,n≤k→k<um r (n+1)→c.tok k=if k=n then v else xI r vs (n+1) k:=h
   refine ⟨fun _=> ?_,kF r fun k h1 h2=> ?_⟩
   . rw [h n (abD n) (by omega),aaK rfl]
   . rw [h k (by omega) h2,aap (by omega)]
 | .own _::r,_::vs,n,h=>kF r fun k h1 h2=>h k (by omega) h2
 | .mut _::r,_::vs,n,h=>kF r fun k h1 h2=>h k (by omega) h2
theorem xJ {c:Ctx} {tk:Bool} {w:World}:(l:List Item)→{vs:List Value}→{n:Nat}→(∀ k,n≤k→k<nr l n→c.tok k=BF w l vs n k)→mv c tk w l vs n
 |[],_,_,_=>by simp [mv]
 |it::r,[],_,_=>by simp [mv]
 |it::r,v::vs,n,h=>by
  have h:∀ k,n≤k→k<nr r (Cs it n)→c.tok k=if k<Cs it n then aje w it v n k else BF w r vs (Cs it n) k:=h
  have l1:=Gf it n;have l2:=wj r (Cs it n);refine ⟨?_,xJ r fun k h1 h2=> ?_⟩
  . obtain ⟨p,a,cs⟩:=it
    cases p with
    |false=>
     refine kF cs fun k h1 h2=> ?_;have h2:k<Cs ⟨false,a,cs⟩ n:=h2;rw [h k h1 (by omega),aaK h2];rfl
    |true=>
     intro B o e;subst e;refine kF cs fun k h1 h2=> ?_;have h2:k<Cs ⟨true,a,cs⟩ n:=h2;rw [h k (by omega) (by omega),aaK h2];rfl
  . rw [h k (by omega) h2,aap (by omega)]
def xK (tmps:Array Value):ResultVar→Sem Value
 | .tmp t=>pure (tmps.getD t Go.undef)
 | .cell a t=>do loadVar t (← asAddr (tmps.getD a Go.undef))
theorem Gg {fn:Func} {rl:List ResultVar} (h:fn.results=rl.toArray) (hl:rl.length≤6) {tmps:Array Value} {P:Program} {w:World} {Gh:List Value}
  (hv:rl.map (fun r=>(xK tmps r).run P w)=Gh.map fun v=> .ok v w):(results fn tmps).run P w= .ok (IQ Gh) w:=by
 have he:results fn tmps=(do
   let vs ← fn.results.mapM (xK tmps)
   pure (if h:vs.size=1 then vs[0] else .tuple vs)):=by
  unfold results;congr 1
 rw [he,h];clear he h;rcases rl with _|⟨a,_|⟨b,_|⟨c,_|⟨d,_|⟨e,_|⟨f,_|⟨g,l⟩⟩⟩⟩⟩⟩⟩<;>rcases Gh with _|⟨u1,_|⟨u2,_|⟨u3,_|⟨u4,_|⟨u5,_|⟨u6,_|⟨u7,m⟩⟩⟩⟩⟩⟩⟩<;>
  first
   |(simp at hv;done)
   |(exfalso;simp only [aai] at hl;omega)
   |(simp at hv;simp [hv,IQ];done)
   |simp [IQ]
theorem DP {c:Ctx} {C:Cx} (hC:iT C c.P) {μ:Nat→Loc} {fp:Nat→List Nat} {s:dL} {n:Nat} {a:Act} {w:World} (h:iE c μ fp s.f n a w):
  ∀ (rl:List ResultVar) {ds:List ai},Nk C s rl=some ds→∃ Gh,aj c μ Gh ds∧rl.map (fun r=>(xK a.tmps r).run c.P w)=Gh.map fun v=> .ok v w
 |[],ds,hd=>by
  cases hd;exact ⟨[],by simp [aj],rfl⟩
 |r::l,ds,hd=>by
  simp only [Nk] at hd;obtain ⟨d,h1,hd⟩:=Option.bind_eq_some_iff.1 hd;obtain ⟨q,h2,rfl⟩:=Option.map_eq_some_iff.1 hd;obtain ⟨Gh,g1,g2⟩:=DP hC h l h2;have BV:∃ v,an c μ v d∧(xK a.tmps r).run c.P w= .ok v w:=by
   cases r with
   |tmp j=>
    obtain rfl:=aaG h1;exact ⟨_,h.tm j,by simp [xK]⟩
   |cell j t=>
    simp only [ai7] at h1;split at h1
    case h_2=>cases h1
    rename_i id off hj;split at h1
    case h_2=>cases h1
    rename_i cs BS;obtain ⟨ty,kN,h1⟩:=Option.bind_eq_some_iff.1 h1;split at h1
    case isFalse=>cases h1
    rename_i hle;obtain rfl:=aaG h1;have hv:=h.tm j;have hj:s.f.t j= .vptr id off:=hj;rw [hj] at hv;simp only [an] at hv;obtain ⟨B,o,e1,e2⟩:=hv;have BS:s.f.v id=some (.var cs):=kO BS;obtain ⟨B',o',D,T,e3,e4,e5,e6,e7,e8,_⟩:=h.vs.rel id _ BS;rw [e1] at e3;cases e3;have fH:aE w B (o+off) ty.size=((aE w B o cs.length).drop off).take ty.size:=iF hle;have hr:aj c μ (aE w B (o+off) ty.size) ((cs.drop off).take ty.size):=by rw [fH];exact (e7.drop off).take ty.size
    have hlen:((cs.drop off).take ty.size).length=ty.size:=by simp;omega
    refine ⟨_,lJ hr hlen, ?_⟩;simp only [xK,e2];have:=yf (w:=w) (hC.ty t ty kN) (B:=B) (o':=o+off) rfl (hr.length.trans hlen);simpa [asAddr] using this
  obtain ⟨v,hv,ib⟩:=BV;exact ⟨v::Gh,by simp only [aj];exact ⟨v,Gh,rfl,hv,g1⟩,by simp only [acX,ib,g2]⟩
theorem yn (tk:Bool):(l:List Item)→(x:az l)→(n:Nat)→∀ id∈ai.bI (dQ tk l x n).1,n≤id∧id<nr l n
 |[],_,_=>by intro id h;cases h
 |it::r,x,n=>by
  intro id h;have h:id∈(kk tk it x.1 n).1.ids++ai.bI (dQ tk r x.2 (kk tk it x.1 n).2.2).1:=h;rw [qI] at h;have l1:=Gf it n;have l2:=wj r (Cs it n);simp only [nr];rcases aaN.1 h with h|h
  . have:=By tk it x.1 n id h;omega
  . have:=yn tk r x.2 _ id h;omega
theorem ajf {S:Nat→Prop} {w:World}:(l:List Item)→{vs:List Value}→{x:az l}→{f:List Nat}→{g:List (Nat×Nat×Nat)}→(l.all fun it=>decide (0<it.cs.length))=true→ba S w l vs x f g→∀ B o m,(B,o,m)∈g→0<m
 |[],_,_,_,_,_,h=>by simp only [ba] at h;obtain ⟨_,rfl,rfl⟩:=h;simp
 |it::r,_,_,_,_,hp,h=>by
  simp only [ba] at h;obtain ⟨v,bm,f1,f2,g1,g2,rfl,rfl,rfl,h1,h⟩:=h;simp only [acY,aaE,ack] at hp;intro B o m hm;rcases aaN.1 hm with hm|hm
  . obtain ⟨p,a,cs⟩:=it
    cases p with
    |false=>simp only [cR] at h1;rw [h1.1] at hm;cases hm
    |true=>
     simp only [cR] at h1;obtain ⟨B',o',C,T,rfl,_,hb,_⟩:=h1;simp only [adi,Prod.mk.injEq] at hm;obtain ⟨rfl,_,rfl⟩:=hm;exact hp.1
  . exact ajf r hp.2 h B o m hm
mutual
theorem an.mw {c:Ctx} {l μ:Nat→Loc}:{v:Value}→(d:ai)→an c μ v d→an { c with loc:=l } μ v d
 |_, .dead,h=>h
 |_, .jD,h=>h
 |_, .undef,h=>h
 |_, .b _,h=>h
 |_, .i _ _,h=>h
 |_, .s _,h=>h
 |_, .ro _ _ _,h=>h
 |_, .ni,h=>h
 |_, .cN id none,h=>h
 |_, .cN id (some (o,l)),h=>h
 |_, .vptr id off,h=>h
 |_, .jL id i off,h=>h
 |_, .BR _ _ _,h=>h
 |_, .er _,h=>h
 |_, .kp _,h=>h
 |_, .agg ds,h=>by simp only [an] at h ⊢; obtain ⟨vs,e,h⟩:=h;exact ⟨vs,e,aj.mw ds h⟩
 |_, .H5 ds,h=>by simp only [an] at h ⊢; obtain ⟨vs,e,h⟩:=h;exact ⟨vs,e,aj.mw ds h⟩
 |_, .fn f ds,h=>by simp only [an] at h ⊢; obtain ⟨vs,e,h⟩:=h;exact ⟨vs,e,aj.mw ds h⟩
theorem aj.mw {c:Ctx} {l μ:Nat→Loc}:{vs:List Value}→(ds:List ai)→aj c μ vs ds→aj { c with loc:=l } μ vs ds
 |_,[],h=>h
 |_,d::ds,h=>by
  simp only [aj] at h ⊢; obtain ⟨v,bm,e,h1,h2⟩:=h;exact ⟨v,bm,e,an.mw d h1,aj.mw ds h2⟩
end
theorem cX.mw {c:Ctx} {l μ:Nat→Loc} {fp:Nat→List Nat} {v:Env} {w:World} (h:cX c μ fp v w):cX { c with loc:=l } μ fp v w:=by
 refine ⟨fun id x hx=> ?_,h.nodup,h.sep,h.jg,h.lt⟩;have:=h.rel id x hx;cases x with
 |var cs=>
  obtain ⟨B,o,C,E,h1,h2,h3,h4,h5,h6,h7⟩:=this;exact ⟨B,o,C,E,h1,h2,h3,h4,aj.mw cs h5,h6,h7⟩
 |arr e xs=>exact this
 |AW e xs x i off u dS=>exact this
 |cut e ys k=>exact this
 |vG e xs i cs=>
  obtain ⟨a,cap,b,o,C,E,p,q,h1,h2,h3,h4,h5,h6,h7,h8,h9,UZ⟩:=this;exact ⟨a,cap,b,o,C,E,p,q,h1,h2,h3,h4,h5,h6,h7,h8,aj.mw cs h9,UZ⟩
 |it _ _=>exact this
structure Pd (P:Program) (C:Cx) (K:bM) (fn:Func) (code:Code) (rtm:List ResultVar) (A:Nat→Option aq):Prop where
 func:P.funcs[K.f]? =some fn
 body:fn.body=some code
 name:(fn.name== "runtime.NumGoroutine")=false
 res:fn.results=rtm.toArray
 few:rtm.length≤6
 mY:nr K.aK 0≤64
 pos:(K.rs.all fun it=>decide (0<it.cs.length))=true
 run:∀ x y,aD K.aK x→(K.F x).eval=some y→(DU C A code K.aK K.lay fn.ntmps K.rs rtm x).eval=some y
structure Zz (P:Program) (C:Cx) (K:bM) (fn:Func) (code:Code) (rtm:List ResultVar):Prop where
 func:P.funcs[K.f]? =some fn
 body:fn.body=some code
 name:(fn.name== "runtime.NumGoroutine")=false
 res:fn.results=rtm.toArray
 few:rtm.length≤6
 mY:nr K.aK 0≤64
 pos:(K.rs.all fun it=>decide (0<it.cs.length))=true
 run:∀ x y,aD K.aK x→(K.F x).eval=some y→∀ (c:Ctx) (n:Nat) (a:Act) (w:World),c.P=P→ir c n (entry K.aK K.lay fn.ntmps x) a w→
  code.wp P (fun e a' w'=>∃ ex s',e=TO ex∧ir c n s' a' w'∧(∀ m,ex≠ .exit m)∧leave C K.aK K.rs rtm s'=some y) a w
theorem BG {P:Program} {C:Cx} {K:bM} {fn:Func} {code:Code} {rtm:List ResultVar} (hC:iT C P) (h:Zz P C K fn code rtm) (NF:K.vw=none:=by rfl):K.Ok P:=by
 unfold bM.Ok;rw [NF];intro x y hy S w hS tw f g dI pG DX;refine ⟨⟨fn,h.func,h.name,by rw [h.body];rfl⟩,calls_of_wp h.func h.body ?_⟩;have amT:∀ tok loc,Ev (tu P S w f g tok loc hS) w:=fun tok loc=>⟨abD _,rfl,rfl,fun _ _=>rfl,fun _ _=> .inl rfl,fun _ _=>rfl⟩
 have bZ:=mT K.aK dI
 -- the variables at the start
 have hen:∃ μ fp,aj (tu P S w f g (BF w K.aK tw 0) μ hS) μ tw (dQ true K.aK x 0).1∧
   ic (tu P S w f g (BF w K.aK tw 0) μ hS) (fun id=>False∨(0≤id∧id<nr K.aK 0)) μ fp (cC (fun _=>none) (news (dQ true K.aK x 0).2.1)) w []:=by
  let c0:=tu P S w f g (BF w K.aK tw 0) default hS
  have DO:ic c0 (fun _=>False) default (fun _=>[]) (fun _=>none) w (f++g.map (·.1)++[]):=by
   rw [aeI];refine ⟨⟨by simp,by simp,by simp,by simp,by simp⟩,by simp,pG,by simp,fun b hb=>⟨DX b hb,bZ b hb⟩⟩
  obtain ⟨μ,fp,h1,h2,_⟩:=qJ true (S:=S) (fun b hb=>⟨hb,rfl⟩) K.aK DO dI (xJ K.aK fun k _ _=>rfl) (fun b hb _ j=> .inl hb)
   (fun B o m hb _ j hj=> .inr ⟨o,m,hb,by omega,by omega⟩) (fun _ _ _ h=>h)
  refine ⟨μ,fp,aj.mw (c:=c0) _ h1,⟨cX.mw (c:=c0) h2.rel,h2.known,h2.nodup,h2.far,h2.ok⟩⟩
 obtain ⟨μ,fp,vW,DO⟩:=hen
 let c:=tu P S w f g (BF w K.aK tw 0) μ hS
 have Bc:∀ id∈ai.bI (dQ true K.aK x 0).1,id<64:=fun id hi=>acO (yn true K.aK x 0 id hi).2 h.mY;have ajh:=wu K.lay vW;have sW:(lK K.lay tw).length=(xG K.lay (dQ true K.aK x 0).1).length:=ajh.length;have ae9:∀ id,id<64→id / 64∈[0]:=fun id hi=>by rw [Nat.div_eq_of_lt hi];simp
 have amU:∀ m,aj c μ (List.replicate m Go.undef) (List.replicate m .undef):=fun m=>by
  induction m with
  |zero=>simp [aj]
  |succ m ih=>simp only [List.replicate_succ,aj];exact ⟨_,_,rfl,by simp [an],ih⟩
 let n:=(entry K.aK K.lay fn.ntmps x).t.length
 have htm:aj c μ ((lK K.lay tw).toArray++Array.replicate (fn.ntmps - (lK K.lay tw).toArray.size) Go.undef).toList (entry K.aK K.lay fn.ntmps x).t:=by
  simp only [Array.toList_append,Array.toList_replicate,List.size_toArray];rw [sW];exact ajh.append (amU _)
 have hD:ir c n (entry K.aK K.lay fn.ntmps x) { tmps:=(lK K.lay tw).toArray++Array.replicate (fn.ntmps - (lK K.lay tw).toArray.size) Go.undef,defers:=[] } w:=by
  refine ⟨⟨c,μ,fp,Ext.refl c, ?_, ?_,rfl, ?_,⟨?_, ?_⟩,amT _ _,fun id hi=>⟨ae9 id hi,rfl⟩⟩,fun d b hf=>(by cases hf),rfl⟩
  . intro j
    show an c μ _ ((entry K.aK K.lay fn.ntmps x).t.getD j .dead);rw [adg];cases hj:(entry K.aK K.lay fn.ntmps x).t[j]? with
    |none=>simp [an]
    |some d=>
     obtain ⟨u,hu,hr⟩:=htm.get hj;rw [af9, ← acL,hu];exact hr
  . show (entry K.aK K.lay fn.ntmps x).t.length≤Array.size _
    rw [← htm.length,Array.length_toList];exact abD _
  . show cX c μ fp (bs (Cc [] (news (dQ true K.aK x 0).2.1)++[])) w
    rw [aeI,xz];exact DO.rel
  . intro j id hi
    have hi:id∈((entry K.aK K.lay fn.ntmps x).t.getD j .dead).ids:=hi;rw [adg] at hi;cases hj:(entry K.aK K.lay fn.ntmps x).t[j]? with
    |none=>rw [hj] at hi;cases hi
    |some d=>
     rw [hj] at hi;have hm:=aeJ hj;simp only [entry,aaN,List.mem_replicate] at hm;refine ae9 id (Bc id (wv K.lay id ?_));rcases hm with hm|⟨_,rfl⟩
     . exact gv.2 ⟨d,hm,hi⟩
     . cases hi
  . intro id z hz
    have hz:bs (Cc [] (news (dQ true K.aK x 0).2.1)++[]) id=some z:=hz;rw [aeI,xz] at hz;have:=DO.known id z hz;have hh:∀ i,(False∨0≤i∧i<nr K.aK 0)→i / 64∈[0]:=fun i hi=>ae9 i (by have:=h.mY;rcases hi with hi|hi;exact hi.elim;omega);exact ⟨hh id this.1,fun i hi=>hh i (this.2 i hi)⟩
 -- the run
 refine wp_mono (h.run x y (qL K.aK dI) hy c n _ w rfl hD) fun e a' w' he=> ?_;obtain ⟨ex,s',rfl,he,dW,hlv⟩:=he;have wV:a'.defers=[]∧∃ v,(results fn a'.tmps).run P w'= .ok v w'∧ai8 P S w hS K tw f g y v w':=by
  have hz:=hlv;obtain ⟨⟨c1,μ',fp',Pc,hx⟩,_,_⟩:=he;have hP1:c1.P=P:=Pc.P;unfold leave at hz;obtain ⟨dr,sS,hz⟩:=Option.bind_eq_some_iff.1 hz;obtain ⟨rvs,amV,aaV⟩:=DP (by rw [hP1];exact hC) hx rtm sS;rw [hP1] at aaV;refine ⟨hx.defers,_,Gg h.res h.few aaV, ?_⟩;obtain ⟨q,hq,hz⟩:=Option.bind_eq_some_iff.1 hz;obtain ⟨p,hp,hz⟩:=Option.bind_eq_some_iff.1 hz;split at hz
  case isFalse=>cases hz
  rename_i Dr;obtain ⟨hn,DK⟩:=Dr;obtain rfl:=aaG hz;have hn:=mm _ hn;have Gx:=acd.1 hn;generalize hEq:Bx K.rs (bs s'.v) dr q.2=EL at hp DK;have afa:∀ id z,EL id=some z→bs s'.v id=some z∧(∀ (c:Ctx) μ w f,cL c μ w id f z→∀ b∈f,b<c.w0.heap.size→∀ j,c.M b j):=by
   intro id z hz;rw [← hEq] at hz;unfold Bx at hz;split at hz
   case isFalse=>cases hz
   cases I7:mu (bs s'.v) (bs s'.v) K.rs dr with
   |none=>rw [I7] at hz;cases hz
   |some y2=>
    rw [I7] at hz;have hz:(match Bv (bs s'.v) (y2.2++q.2) id with|some (.arr e xs)=>some (bQ.arr e xs)|some (.AW e xs x i off u k)=>some (bQ.AW e xs x i off u k)|some (.vG e xs i cs)=>some (bQ.vG e xs i cs)|_=>none)=some z:=hz;cases yI:Bv (bs s'.v) (y2.2++q.2) id with
    |none=>rw [yI] at hz;cases hz
    |some v=>
     rw [yI] at hz;cases v with
     |var _=>cases hz
     |AW _ _ _ _ _ _ _=>
      obtain rfl:=aaG hz;unfold Bv at yI;split at yI
      . cases yI
      . exact ⟨yI,fun _ _ _ _ h=>by obtain ⟨_,_,_,_,h,_⟩:=h;exact h⟩
     |vG _ _ _ _=>
      obtain rfl:=aaG hz;unfold Bv at yI;split at yI
      . cases yI
      . exact ⟨yI,fun _ _ _ _ h=>by obtain ⟨_,_,_,_,_,_,_,_,_,_,_,_,_,_,_,_,_,_,_,_,h⟩:=h;exact h⟩
     |cut _ _ _=>cases hz
     |it _ _=>cases hz
     |arr e xs=>
      obtain rfl:=aaG hz;unfold Bv at yI;split at yI
      . cases yI
      . exact ⟨yI,fun _ _ _ _ h=>by obtain ⟨_,_,_,_,h⟩:=h;exact h⟩
  have afb:∀ id∈p.2++q.2,EL id=none:=by
   intro id hi;rcases DK with hr|hr
   . rw [← hEq]
     unfold Bx;rw [aap (by simp [hr])];rfl
   . have:=aa1.1 hr id hi
     cases he:EL id with
     |none=>rfl
     |some z=>rw [he] at this;cases this
  have hEn:∀ id,EL id≠none→s'.f.v id≠none:=fun id hi=>by
   obtain ⟨z,hz⟩:=Option.ne_none_iff_exists'.1 hi;rw [show s'.f.v id=some z from kO (afa id z hz).1];simp
  let S2:Nat→Prop:=fun b=>c1.S b∨∃ id,EL id≠none∧b∈fp' id
  obtain ⟨f1,g1,h1,h2⟩:=ur (EL:=EL) hx.vs hx.ev (fun _ _ h=>kO h) (fun id z hz=>kO (afa id z hz).1) (S':=S2) (fun _ h=> .inl h) (fun id hi b hb=> .inr ⟨id,hi,hb⟩) K.rs amV hp Gx.1;have hag:∀ id,id<64→μ' id=μ id:=fun id hi=>(hx.fix id hi).2.trans (congrFun Pc.loc id);have amW:aj c1 μ' tw (dQ true K.aK x 0).1:=aj.ext Pc _ (aj.mono _ (fun id hi=>hag id (Bc id hi)) vW);obtain ⟨f2,h3,h4⟩:=Bz hx.vs (fun _ _ h=>kO h) K.aK dI (xJ K.aK fun k _ _=>congrFun Pc.tok k) amW hq Gx.2.1;have h5:=h2.toGoneB.append hx.vs h4 hn;have pw:(f1++f2++(g1++g).map (·.1)).Perm (f1++g1.map (·.1)++(f2++g.map (·.1))):=by rw [ag5];exact uq _ _ _ _
  have OF:=pw.nodup_iff.1 h5.nodup;have Zi:w.heap.size≤c1.w0.heap.size:=Pc.ev.size;refine ⟨⟨_,f1,g1,f2,rfl,⟨S2,fun b hb=> .inl (Pc.S b hb), ?_, ?_,h1,kE (p:=fun _=>true) (fun e _ _ _ _ h=>Ty.dc (show Fz.le c1.fz ⟨S2,_⟩ from fun b hb=>⟨.inl hb,hx.ev.S b hb⟩) _ h) K.aK (DN K.aK) h3⟩,OF,fun b hb=> ?_⟩, ?_⟩
  . rintro b (hb|⟨id,hi,hb⟩)
    . refine ⟨?_,acO (c1.hS.1 b hb) hx.ev.size⟩
      rcases Pc.new b hb with q|q|q
      . exact .inl q
      . exact .inr (.inl q)
      . by_cases xM:b∈f
        . exact .inr (.inr xM)
        . exfalso
          have q:∀ j,b∈f∨∃ o m,(b,o,m)∈g∧o≤j∧j<o+m:=q;obtain ⟨o,m,hm,_,_⟩:=(q 0).resolve_left xM;obtain ⟨o',m',pI,_,h2⟩:=(q (o+m)).resolve_left xM;have:=zD (acd.1 pG).2.1 hm pI;cases this;omega
    . refine ⟨.inr ?_,hx.vs.lt id (hEn id hi) b hb⟩
      obtain ⟨z,hz⟩:=Option.ne_none_iff_exists'.1 hi;obtain ⟨hz1,hM⟩:=afa id z hz;have hM:=hM _ _ _ _ (hx.vs.rel id _ (kO hz1));rcases ae0 b w.heap.size with pC|I5
      . refine .inr ?_
        by_cases xM:b∈f
        . exact xM
        . exfalso
          have q:∀ j,b∈f∨∃ o m,(b,o,m)∈g∧o≤j∧j<o+m:=fun j=>Pc.M b j pC (hM b hb (acO pC Zi) j);obtain ⟨o,m,hm,_,_⟩:=(q 0).resolve_left xM;obtain ⟨o',m',pI,_,h2⟩:=(q (o+m)).resolve_left xM;have:=zD (acd.1 pG).2.1 hm pI;cases this;omega
      . exact .inl I5
  . intro b hb hs
    obtain ⟨id,hi,hm⟩:=h5.mem b (pw.mem_iff.2 hb);have ht:=(h5.there id hi).1;rcases hs with hs|⟨dS,cU,cf⟩
    . exact hx.vs.jg id ht b hm hs
    . exact hx.vs.sep id dS (fun e=>cU (e ▸ afb id hi)) ht (hEn dS cU) b hm cf
  . rcases ae0 b w.heap.size with pC|I5
    . left
      have afc:b<c1.w0.heap.size:=acO pC Zi;have hM:∀ j,c.M b j∨∃ o m,(b,o,m)∈g1:=by
       intro j;simp only [aaN,List.mem_map] at hb;rcases hb with (hb|⟨⟨B,o,m⟩,hb,rfl⟩)|hb
       . exact .inl (Pc.M b j pC (h2.may b hb afc j))
       . exact .inr ⟨o,m,hb⟩
       . exact .inl (Pc.M b j pC (h4.may b hb afc j))
      have hng:b ∉ g.map (·.1):=fun hg=>by
       simp only [acd] at OF;simp only [aaN] at hb;rcases hb with hb|hb
       . exact OF.2.2 b (by simpa using hb) b (by simp only [aaN];exact .inr hg) rfl
       . exact OF.2.1.2.2 b hb b hg rfl
      have hnm:∀ j,c.M b j→b∈f:=fun j hj=>by
       rcases hj with hj|⟨o,m,hj,_⟩
       . exact hj
       . exact absurd (List.mem_map.2 ⟨_,hj,rfl⟩) hng
      rcases hM 0 with hm|⟨o,m,hm⟩
      . exact hnm 0 hm
      . exact hnm _ (Pc.M _ _ pC (h2.Zw b o m hm afc 0 (ajf K.rs h.pos h1 b o m hm)))
    . exact .inr I5
  . have:=Pc.back hx.ev
    exact ⟨this.size,this.os,this.output,this.S,this.yd,this.frozen⟩
 cases ex with
 |normal=>exact wV
 |ret=>exact wV
 |exit m=>exact absurd rfl (dW m)
theorem DQ {c:Ctx} {n:Nat} {C:Cx} (hC:iT C c.P) (hF:jq C c.P) (hm:c.P.follows .mixedOrders=true) {An:Nat→Option aq} {B:Code} {aK rs:List Item} {rtm:List ResultVar} {s:dL} {a:Act} {w:World} (h:ir c n s a w) {y:az rs×gN aK}
  (hr:((dK C An B s).bind fun r=>match r.1 with| .exit _=>Out.fail|_=> .of (leave C aK rs rtm r.2) .ret).eval=some y):
  B.wp c.P (fun e a' w'=>∃ ex s',e=TO ex∧ir c n s' a' w'∧(∀ m,ex≠ .exit m)∧leave C aK rs rtm s'=some y) a w:=by
 obtain ⟨⟨ex,s'⟩,hq,hr⟩:=cW hr;refine wp_mono (bR hC hF hm An B s _ a w hq h) fun e a' w' he=> ?_;obtain ⟨rfl,he⟩:=he;cases ex with
 |exit m=>cases hr
 |normal=>
  obtain ⟨z,hz,hr⟩:=aM hr;obtain rfl:=aaG hr;exact ⟨.normal,s',rfl,he,fun m=>by simp,hz⟩
 |ret=>
  obtain ⟨z,hz,hr⟩:=aM hr;obtain rfl:=aaG hr;exact ⟨.ret,s',rfl,he,fun m=>by simp,hz⟩
theorem xL {P:Program} {C:Cx} {K:bM} {fn:Func} {code:Code} {rtm:List ResultVar} {A:Nat→Option aq} (hC:iT C P) (hF:jq C P) (hm:P.follows .mixedOrders=true) (h:Pd P C K fn code rtm A) (NF:K.vw=none:=by rfl):K.Ok P:=
 BG hC ⟨h.func,h.body,h.name,h.res,h.few,h.mY,h.pos,fun x y hw hy c n a w hP hD=>by
  subst hP;exact DQ hC hF hm hD (h.run x y hw hy)⟩ NF
end
section
open Go
mutual
def Ty.wx:Ty→List Value→Option (List Value)
 | .bool, .bool false::r=>some r
 | .int k, .int k' n::r=>if k=k'∧n=0 then some r else none
 | .str, .string s::r=>if s.data.toList.isEmpty=true then some r else none
 | .sl _, .slice none 0 0::r=>some r
 | .hole, .slice none 0 0::r=>some r
 | .fz _, .slice none 0 0::r=>some r
 | .st fs,cs=>fs.wx cs
 |_,_=>none
def aI.wx:aI→List Value→Option (List Value)
 | .nil,cs=>some cs
 | .cons t ts,cs=>(t.wx cs).bind fun r=>ts.wx r
end
mutual
theorem Ty.qM:(t:Ty)→{cs r:List Value}→t.wx cs=some r→cs=t.zeroV++r
 | .bool,cs,r,h=>by
   cases cs with
   |nil=>cases h
   |cons v q=>
    cases v<;>try (cases h;done)
    rename_i b;cases b<;>cases h;rfl
 | .int k,cs,r,h=>by
   cases cs with
   |nil=>cases h
   |cons v q=>
    cases v<;>try (cases h;done)
    rename_i k' n;replace h:(if k=k'∧n=0 then some q else none)=some r:=h;split at h
    . rename_i hc;obtain ⟨rfl,rfl⟩:=hc;cases h;rfl
    . cases h
 | .str,cs,r,h=>by
   cases cs with
   |nil=>cases h
   |cons v q=>
    cases v<;>try (cases h;done)
    rename_i s;replace h:(if s.data.toList.isEmpty=true then some q else none)=some r:=h;split at h
    . rename_i hc
      cases h;have:s=⟨#[]⟩:=by
       have h1:=List.isEmpty_iff.1 hc;apply ByteArray.ext;grind
      rw [this];rfl
    . cases h
 | .hole,cs,r,h=>by
   cases cs with
   |nil=>cases h
   |cons v q=>
    cases v<;>try (cases h;done)
    rename_i a l c;cases a<;>cases l<;>cases c<;>cases h;rfl
 | .sl _,cs,r,h=>by
   cases cs with
   |nil=>cases h
   |cons v q=>
    cases v<;>try (cases h;done)
    rename_i a l c;cases a<;>cases l<;>cases c<;>cases h;rfl
 | .fz _,cs,r,h=>by
   cases cs with
   |nil=>cases h
   |cons v q=>
    cases v<;>try (cases h;done)
    rename_i a l c;cases a<;>cases l<;>cases c<;>cases h;rfl
 | .st fs,cs,r,h=>by
   simp only [Ty.zeroV];exact aI.qM fs h
theorem aI.qM:(t:aI)→{cs r:List Value}→t.wx cs=some r→cs=t.zeroV++r
 | .nil,cs,r,h=>by cases h;rfl
 | .cons t ts,cs,r,h=>by
   replace h:((t.wx cs).bind fun r=>ts.wx r)=some r:=h;obtain ⟨q,h1,h2⟩:=Option.bind_eq_some_iff.1 h;rw [Ty.qM t h1,aI.qM ts h2];simp [aI.zeroV]
end
def wy (P:Program) (t:Ty) (tid:TypeId):Bool:=
 match P.info? tid with
 |some i=>
  match i.zero with
  |some z=>
   match t.wx z.cells.toList with
   |some []=>decide (i.size=t.size)&&decide (i.bytes≤1024)&&decide (0<t.size)
   |_=>false
  |none=>false
 |none=>false
theorem mx {P:Program} {t:Ty} {tid:TypeId} (h:wy P t tid=true):o5 P t tid:=by
 unfold wy at h;split at h
 . rename_i i hi
   split at h
   . rename_i z hz
     split at h
     . rename_i hzb
       simp only [aaE,ack] at h;exact ⟨i,z,hi,h.1.1,h.1.2,hz,by have:=Ty.qM t hzb;grind,h.2⟩
     . cases h
   . cases h
 . cases h
mutual
def Ty.okB (P:Program):Ty→TypeId→Bool
 | .bool,tid=>wy P .bool tid&&(match P.underlying tid with|some .bool=>true|_=>false)
 | .int k,tid=>wy P (.int k) tid&&(match P.underlying tid with|some (.int k')=>decide (k=k')|_=>false)
 | .str,tid=>wy P .str tid&&(match P.underlying tid with|some .string=>true|_=>false)
 | .hole,tid=>wy P .hole tid&&(match P.underlying tid with|some (.slice _)=>true|_=>false)
 | .sl e,tid=>wy P (.sl e) tid&&(match P.underlying tid with|some (.slice eid)=>e.okB P eid|_=>false)
 | .fz e,tid=>wy P (.fz e) tid&&(match P.underlying tid with|some (.slice eid)=>e.okB P eid|_=>false)
 | .st fs,tid=>wy P (.st fs) tid&&(match P.underlying tid with|some (.struct fields)=>fs.ZA P fields.toList 0|_=>false)
def aI.ZA (P:Program):aI→List Field→Nat→Bool
 | .nil,[],_=>true
 | .cons t ts,f::r,off=>decide (f.offset=off)&&t.okB P f.type&&ts.ZA P r (off+t.size)
 |_,_,_=>false
end
mutual
theorem Ty.BH {P:Program}:(t:Ty)→{tid:TypeId}→t.okB P tid=true→t.Ok P tid
 | .bool,tid,h=>by
   simp only [Ty.okB,aaE] at h;grind [Ty.Ok,mx]
 | .int k,tid,h=>by
   simp only [Ty.okB,aaE] at h;simp only [Ty.Ok];refine ⟨mx h.1, ?_⟩;grind
 | .str,tid,h=>by
   simp only [Ty.okB,aaE] at h;grind [Ty.Ok,mx]
 | .hole,tid,h=>by
   simp only [Ty.okB,aaE] at h;grind [Ty.Ok,mx]
 | .sl e,tid,h=>by
   simp only [Ty.okB,aaE] at h;simp only [Ty.Ok];refine ⟨mx h.1, ?_⟩;have h2:=h.2;split at h2
   . rename_i eid he;exact ⟨eid,he,Ty.BH e h2⟩
   . cases h2
 | .fz e,tid,h=>by
   simp only [Ty.okB,aaE] at h;simp only [Ty.Ok];refine ⟨mx h.1, ?_⟩;have h2:=h.2;split at h2
   . rename_i eid he;exact ⟨eid,he,Ty.BH e h2⟩
   . cases h2
 | .st fs,tid,h=>by
   simp only [Ty.okB,aaE] at h;simp only [Ty.Ok];refine ⟨mx h.1, ?_⟩;have h2:=h.2;split at h2
   . rename_i fields he;exact ⟨fields,he,aI.Nn fs h2⟩
   . cases h2
theorem aI.Nn {P:Program}:(t:aI)→{fs:List Field}→{off:Nat}→t.ZA P fs off=true→t.Cg P fs off
 | .nil,fs,off,h=>by
   cases fs with
   |nil=>simp [aI.Cg]
   |cons f r=>cases h
 | .cons t ts,fs,off,h=>by
   cases fs with
   |nil=>cases h
   |cons f r=>
    simp only [aI.ZA,aaE,ack] at h;simp only [aI.Cg];exact ⟨f,r,rfl,h.1.1,Ty.BH t h.1.2,aI.Nn ts h.2⟩
end
def No:List (Nat×Ty)→Nat→Option Ty
 |[],_=>none
 |(a,t)::r,n=>bif Nat.beq a n then some t else No r n
theorem OY {l:List (Nat×Ty)} {n:Nat} {t:Ty} (h:No l n=some t):(n,t)∈l:=by
 induction l with
 |nil=>cases h
 |cons a l ih=>
  grind [No,Nat.beq,Nat.eq_of_beq_eq_true]
def BU (P:Program) (KV:List (Nat×Ty)):Bool:=KV.all fun x=>x.2.okB P x.1
def UA (P:Program) (tid:TypeId):Bool:=
 if tid<Uv then !P.stoodInHeld tid&& !P.eqGuardType P.depth tid&&(match P.underlying tid with|some (.struct fields)=>fields.toList.all fun f=>f.name != "_" |_=>false)
 else match P.underlying (tid - Uv) with|some (.interface _)=>true|_=>false
theorem ZB {P:Program} {tid:TypeId} (h:UA P tid=true):ait P tid:=by
 unfold UA at h;by_cases bZ:tid<Uv
 . rw [aaK bZ] at h
   refine ⟨fun _=> ?_,by grind⟩;simp only [aaE,aeO] at h;refine ⟨h.1.1,h.1.2, ?_⟩;grind
 . rw [aap bZ] at h
   refine ⟨fun q=>absurd q bZ,fun k hk=> ?_⟩;have e:tid - Uv=k:=by grind
   rw [e] at h;grind [Program.methodsAt]
def GA (KV:List (Nat×Ty)) (Ui:List Nat) (l:List bM):Cx:={ ty:=No KV,eqv:=fun n=>Ui.any fun m=>Nat.beq m n,call:=IM l }
theorem kG {P:Program} {KV:List (Nat×Ty)} {Ui:List Nat} (h1:BU P KV=true) (h2:Ui.all (UA P)=true) (l:List bM):iT (GA KV Ui l) P where
 ty tid t h:=Ty.BH t (aa1.1 h1 _ (OY h))
 eqv tid h:=by
  obtain ⟨m,hm,e⟩:=List.any_eq_true.1 h;grind [Nat.eq_of_beq_eq_true,ZB,List.all_eq_true]
def bU:List (Nat×aq)→Nat→Option aq
 |[],_=>none
 |(a,t)::r,n=>bif Nat.beq a n then some t else bU r n
def js (f:Func):Code:=f.body.getD .skip
theorem ka {f:Func} (h:f.body.isSome=true):f.body=some (js f):=by
 unfold js;cases hb:f.body with
 |none=>grind
 |some c=>rfl
end
section
open Go Go.ChangeShapes Go.WideShapes Go.ChangeAt Go.RowKit
section
variable {H:Type} {enc:TypeId×Value→H} {P:Program} {w:World} {base:Nat} {sp:Nat→Bool} {held:Bool}
theorem Cu {b o:Nat}:∀ (n:Nat) {cs:List Value},cs.length=n→(∀ i,i<n→w.cell? ⟨b,o+i,none⟩=cs[i]?)→0<n→aE w b o n=cs:=by
 intro n cs hl h hn;have h0:=h 0 hn;unfold World.cell? at h0;cases hb:w.heap[b]? with
 |none=>grind
 |some ob=>
  cases ob with
  |map _ _=>grind
  |cells C E fr=>
   simp only [aE,hb];apply adQ;grind [World.cell?, List.getElem?_take_of_lt,List.getElem?_eq_none]
  |_=>simp only [hb] at h0;rw [aaf (by omega)] at h0;cases h0
theorem qN {a:Addr} {n:Nat} {cs:List Value} (h:w.cells? base a n=some cs) (hn:0<n):a.spot=none∧a.block<w.heap.size∧aE w a.block a.off n=cs:=by
 obtain ⟨_,hl,hc⟩:=World.cells?_some h;have h0:=hc 0 hn;have aji:∃ v,w.cell? a=some v:=by grind [Addr.add,List.getElem?_eq_getElem]
 obtain ⟨v,hv⟩:=aji;have NY:a.spot=none:=by
  unfold World.cell? at hv;cases hs:a.spot with
  |none=>rfl
  |some s=>
   grind
 have hbl:a.block<w.heap.size:=by grind [World.cell?, Array.getElem?_eq_some_iff]
 refine ⟨NY,hbl,Cu n hl (fun i hi=> ?_) hn⟩;rw [← hc i hi];congr 1;obtain ⟨b,o,s⟩:=a;grind [Addr.add]
theorem Ty.Ok.cellsOf {t:Ty} {tid:TypeId} (h:t.Ok P tid):P.cellsOf tid=t.size:=by
 obtain ⟨i,z,h1,h2,_⟩:=h.base;grind [Program.cellsOf]
theorem yo {α:Type} {n:Nat} {p:Nat→α→Prop} (h:∀ i,i<n→∃ x,p i x):∃ xs:List α,xs.length=n∧∀ i x,xs[i]? =some x→p i x:=by
 induction n with
 |zero=>simp_all
 |succ n ih=>
  obtain ⟨xs,h1,h2⟩:=ih fun i hi=>h i (by omega);obtain ⟨y,hy⟩:=h n (by omega);refine ⟨xs++[y],by simp [h1],fun i x hx=> ?_⟩;grind
mutual
theorem Ty.trod:(t:Ty)→{tid:TypeId}→{fuel:Nat}→{cs:List Value}→{y:DataW H×List MemPlace}→t.Ok P tid→DataW.trod enc P w base sp held fuel tid cs=some y→∃ x,t.aQ (fun b=>b<w.heap.size) w cs x
 | .bool,tid,fuel,cs,y,dB,h=>by
   simp only [Ty.Ok] at dB;obtain ⟨b,rfl,_⟩:=DataW.trod_bool dB.2 h;exact ⟨b,by simp [Ty.aQ]⟩
 | .int k,tid,fuel,cs,y,dB,h=>by
   simp only [Ty.Ok] at dB;obtain ⟨n,rfl,_⟩:=DataW.trod_int dB.2 h;exact ⟨n,by simp [Ty.aQ]⟩
 | .str,tid,fuel,cs,y,dB,h=>by
   simp only [Ty.Ok] at dB;obtain ⟨s,rfl,_,hs⟩:=DataW.trod_string dB.2 h;refine ⟨s.data.toList, ?_⟩;simp_all [Ty.aQ,maxLen,aS]
 | .hole,tid,fuel,cs,y,dB,h=>by
   simp only [Ty.Ok] at dB;obtain ⟨_,eid,hu⟩:=dB;rcases DataW.trod_slice hu h with ⟨rfl,_⟩|⟨a,len,cap,elems,rest,n,_,rfl,_⟩
   . exact ⟨(),by simp only [Ty.aQ];exact ⟨_,rfl,rfl⟩⟩
   . exact ⟨(),by simp only [Ty.aQ];exact ⟨_,rfl,rfl⟩⟩
 | .sl e,tid,fuel,cs,y,dB,h=>by
   simp only [Ty.Ok] at dB;obtain ⟨_,eid,hu,Ck⟩:=dB;rcases DataW.trod_slice hu h with ⟨rfl,_⟩|⟨a,len,cap,elems,rest,n,_,rfl,_,_,hl,hm,hel,hi,_⟩
   . exact ⟨[],qv _ w e none⟩
   have amX:maxLen=aS:=by grind [maxLen]
   rw [Ck.cellsOf] at hi;have ln:=Ck.pos;have hex:∀ i,i<len→∃ x:e.D,a.block<w.heap.size∧(a.add (i*e.size)).spot=none∧e.aQ (fun b=>b<w.heap.size) w (aE w (a.add (i*e.size)).block (a.add (i*e.size)).off e.size) x:=by
    intro i bZ;have h1:=hi i bZ;rw [aaf (by omega)] at h1;obtain ⟨cs',hc,h2⟩:=Option.bind_eq_some_iff.1 h1;obtain ⟨q1,q2,q3⟩:=qN hc ln;obtain ⟨x,hx⟩:=Ty.trod e Ck h2;grind [Addr.add]
   obtain ⟨xs,hxl,Cf⟩:=yo hex;refine ⟨xs, ?_⟩;simp only [Ty.aQ];refine ⟨some a,cap,by rw [← hxl],by grind, ?_⟩;by_cases h0:xs=[]
   . exact .inl h0
   right;have hp:0<xs.length:=List.length_pos_iff.2 h0;have hz:=Cf 0 xs[0] (by grind);have NY:a.spot=none:=by grind [Addr.add]
   refine ⟨a.block,a.off,by obtain ⟨b,o,s⟩:=a;grind,hz.1,fun i y hy=> ?_⟩;grind [Addr.add]
 | .fz e,tid,fuel,cs,y,dB,h=>by
   simp only [Ty.Ok] at dB;obtain ⟨_,eid,hu,Ck⟩:=dB;rcases DataW.trod_slice hu h with ⟨rfl,_⟩|⟨a,len,cap,elems,rest,n,_,rfl,_,_,hl,hm,hel,hi,_⟩
   . exact ⟨[],j0.2 (qv _ w e none)⟩
   have amX:maxLen=aS:=by grind [maxLen]
   rw [Ck.cellsOf] at hi;have ln:=Ck.pos;have hex:∀ i,i<len→∃ x:e.D,a.block<w.heap.size∧(a.add (i*e.size)).spot=none∧e.aQ (fun b=>b<w.heap.size) w (aE w (a.add (i*e.size)).block (a.add (i*e.size)).off e.size) x:=by
    intro i bZ;have h1:=hi i bZ;rw [aaf (by omega)] at h1;obtain ⟨cs',hc,h2⟩:=Option.bind_eq_some_iff.1 h1;obtain ⟨q1,q2,q3⟩:=qN hc ln;obtain ⟨x,hx⟩:=Ty.trod e Ck h2;grind [Addr.add]
   obtain ⟨xs,hxl,Cf⟩:=yo hex;refine ⟨xs, ?_⟩;simp only [Ty.aQ];refine ⟨some a,cap,by rw [← hxl],by grind, ?_⟩;by_cases h0:xs=[]
   . exact .inl h0
   right;have hp:0<xs.length:=List.length_pos_iff.2 h0;have hz:=Cf 0 xs[0] (by grind);have NY:a.spot=none:=by grind [Addr.add]
   refine ⟨a.block,a.off,by obtain ⟨b,o,s⟩:=a;grind,hz.1,fun i y hy=> ?_⟩;grind [Addr.add]
 | .st fs,tid,fuel,cs,y,dB,h=>by
   simp only [Ty.Ok] at dB;obtain ⟨ajj,fields,hu,hf⟩:=dB;obtain ⟨xs,n,_,_,hl,hxl,hi⟩:=DataW.trod_struct hu h;have BS:P.cellsOf tid=(Ty.st fs).size:=by
    obtain ⟨i,z,h1,h2,_⟩:=ajj;grind [Program.cellsOf]
   have:=aI.trod (n:=n) (off:=0) (cs:=cs) fs hf (by grind [Ty.size]) (by grind);obtain ⟨x,hx⟩:=this;refine ⟨x, ?_⟩;grind [Ty.aQ]
theorem aI.trod {n:Nat}:(ts:aI)→{fs:List Field}→{off:Nat}→{cs:List Value}→ts.Cg P fs off→cs.length=off+ts.size→
  (∀ (i:Nat) (f:Field),fs[i]? =some f→∃ z,DataW.trod enc P w base sp held n f.type ((cs.drop f.offset).take (P.cellsOf f.type))=some z)→∃ x,ts.aQ (fun b=>b<w.heap.size) w (cs.drop off) x
 | .nil,fs,off,cs,dB,hl,h=>by
   refine ⟨(), ?_⟩;grind [aI.aQ,aI.size,List.drop_of_length_le]
 | .cons t ts,fs,off,cs,dB,hl,h=>by
   simp only [aI.Cg] at dB;obtain ⟨f,r,rfl,rfl,h1,h2⟩:=dB;obtain ⟨z,hz⟩:=h 0 f rfl;rw [h1.cellsOf] at hz;obtain ⟨x1,hx1⟩:=Ty.trod t h1 hz;simp only [aI.size] at hl;obtain ⟨x2,Zg⟩:=aI.trod (n:=n) ts h2 (by omega) (fun i g hg=>h (i+1) g (by simpa using hg));refine ⟨(x1,x2), ?_⟩;grind [aI.aQ,List.drop_drop,List.take_append_drop]
end
end
mutual
def Ty.iH:Ty→List Cm
 | .bool=>[.b]
 | .int k=>[.i k]
 | .str=>[.s]
 | .hole=>[.k]
 | .sl e=>[.ro e]
 | .fz e=>[.ro e]
 | .st fs=>fs.iH
def aI.iH:aI→List Cm
 | .nil=>[]
 | .cons t ts=>t.iH++ts.iH
end
def Ty.item (t:Ty):Item:=⟨false,t.j2,t.iH⟩
theorem eX {S:Nat→Prop} {w:World} {l':List Cm} {bm:List Value} {x':tt l'} {f':List Nat} (h':aT S w l' bm x' f'):(l:List Cm)→{vs:List Value}→{x:tt l}→{f:List Nat}→aT S w l vs x f→∃ z,aT S w (l++l') (vs++bm) z (f++f')
 |[],_,_,_,h=>by simp only [aT] at h;grind
 | .b::r,_,x,_,h=>by
   simp only [aT] at h;obtain ⟨bm,rfl,h⟩:=h;obtain ⟨z,hz⟩:=eX h' r h;exact ⟨(x.1,z),by simp only [List.cons_append,aT];exact ⟨_,rfl,hz⟩⟩
 | .i _::r,_,x,_,h=>by
   simp only [aT] at h;obtain ⟨bm,rfl,h⟩:=h;obtain ⟨z,hz⟩:=eX h' r h;exact ⟨(x.1,z),by simp only [List.cons_append,aT];exact ⟨_,rfl,hz⟩⟩
 | .s::r,_,x,_,h=>by
   simp only [aT] at h;obtain ⟨bm,rfl,hl,h⟩:=h;obtain ⟨z,hz⟩:=eX h' r h;exact ⟨(x.1,z),by simp only [List.cons_append,aT];exact ⟨_,rfl,hl,hz⟩⟩
 | .e::r,_,x,_,h=>by
   simp only [aT] at h;obtain ⟨_,bm,rfl,hl,h⟩:=h;obtain ⟨z,hz⟩:=eX h' r h;exact ⟨(x.1,z),by simp only [List.cons_append,aT];grind⟩
 | .k::r,_,x,_,h=>by
   simp only [aT] at h;obtain ⟨v,bm,rfl,h1,h⟩:=h;obtain ⟨z,hz⟩:=eX h' r h;exact ⟨z,by simp only [List.cons_append,aT];grind⟩
 | .ro e::r,_,x,_,h=>by
   simp only [aT] at h;obtain ⟨v,bm,rfl,h1,h⟩:=h;obtain ⟨z,hz⟩:=eX h' r h;exact ⟨(x.1,z),by simp only [List.cons_append,aT];grind⟩
 | .own e::r,_,x,_,h=>by
   simp only [aT] at h;obtain ⟨v,bm,f1,f2,rfl,rfl,h1,h⟩:=h;obtain ⟨z,hz⟩:=eX h' r h;exact ⟨(x.1,z),by simp only [List.cons_append,aT];grind⟩
 | .mut e::r,_,x,_,h=>by
   simp only [aT] at h;obtain ⟨v,bm,f1,f2,rfl,rfl,h1,h⟩:=h;obtain ⟨z,hz⟩:=eX h' r h;exact ⟨(x.1,z),by simp only [List.cons_append,aT];grind⟩
mutual
theorem Ty.oc {S:Nat→Prop} {w:World}:(t:Ty)→{cs:List Value}→{x:t.D}→t.aQ S w cs x→∃ z,aT S w t.iH cs z []
 | .bool,cs,x,h=>by simp only [Ty.aQ] at h;subst h;exact ⟨(x,()),by simp [Ty.iH,aT]⟩
 | .int _,cs,x,h=>by simp only [Ty.aQ] at h;subst h;exact ⟨(x,()),by simp [Ty.iH,aT]⟩
 | .str,cs,x,h=>by simp only [Ty.aQ] at h;obtain ⟨rfl,hl⟩:=h;exact ⟨(x,()),by simp only [Ty.iH,aT];exact ⟨_,rfl,hl,by simp⟩⟩
 | .hole,cs,x,h=>by simp only [Ty.aQ] at h;obtain ⟨v,rfl,hv⟩:=h;exact ⟨(),by simp only [Ty.iH,aT];exact ⟨v,[],rfl,hv,by simp⟩⟩
 | .sl e,cs,x,h=>by
   have h':=h;simp only [Ty.aQ] at h;obtain ⟨a,cap,rfl,_⟩:=h;exact ⟨(x,()),by simp only [Ty.iH,aT];exact ⟨_,_,rfl,h',by simp⟩⟩
 | .fz e,cs,x,h=>by
   have h':=j0.1 h;simp only [Ty.aQ] at h;obtain ⟨a,cap,rfl,_⟩:=h;exact ⟨(x,()),by simp only [Ty.iH,aT];exact ⟨_,_,rfl,h',by simp⟩⟩
 | .st fs,cs,x,h=>aI.oc fs (by simpa only [Ty.aQ] using h)
theorem aI.oc {S:Nat→Prop} {w:World}:(t:aI)→{cs:List Value}→{x:t.D}→t.aQ S w cs x→∃ z,aT S w t.iH cs z []
 | .nil,cs,x,h=>by simp only [aI.aQ] at h;subst h;exact ⟨(),by simp [aI.iH,aT]⟩
 | .cons t ts,cs,x,h=>by
   simp only [aI.aQ] at h;obtain ⟨c1,c2,rfl,h1,h2⟩:=h;obtain ⟨z1,g1⟩:=Ty.oc t h1;obtain ⟨z2,g2⟩:=aI.oc ts h2;obtain ⟨z,g⟩:=eX g2 t.iH g1;exact ⟨z,by simpa only [aI.iH,aeI] using g⟩
end
def Gi (P:Program):List Ty→List TypeId→Prop
 |[],[]=>True
 |t::ts,i::is=>t.Ok P i∧Gi P ts is
 |_,_=>False
def T1 (P:Program):List Ty→List TypeId→Bool
 |[],[]=>true
 |t::ts,i::is=>t.okB P i&&T1 P ts is
 |_,_=>false
theorem IU {P:Program}:∀ {ts:List Ty} {is:List TypeId},T1 P ts is=true→Gi P ts is
 |[],[],_=>trivial
 |[],_::_,h=>by cases h
 |_::_,[],h=>by cases h
 |t::ts,i::is,h=>by
  simp only [T1,aaE] at h;exact ⟨Ty.BH t h.1,IU h.2⟩
section
variable {H:Type} {enc:TypeId×Value→H} {P:Program} {w:World} {base:Nat} {sp:Nat→Bool} {held:Bool}
theorem KR {t:Ty} {tid:TypeId} (dB:t.Ok P tid) {b0:Nat} {v:Value} (h:Value.okWide P w .any b0 tid v):(t.j2=true→∃ us,v= .agg us)∧(t.j2=false→v.oneCell'=true):=by
 cases t with
 |st fs=>
  simp only [Ty.Ok] at dB;obtain ⟨_,fields,hu,_⟩:=dB;obtain ⟨cs,BS,_⟩:=okWide_struct hu h;exact ⟨fun _=>⟨cs,BS⟩,fun e=>(by cases e)⟩
 |bool=>
  simp only [Ty.Ok] at dB;refine ⟨fun e=>(by cases e),fun _=> ?_⟩;simp only [Value.okWide,dB.2,Cell.okWide] at h;cases v<;>simp_all [Cell.ok,Value.oneCell']
 |int k=>
  simp only [Ty.Ok] at dB;refine ⟨fun e=>(by cases e),fun _=> ?_⟩;simp only [Value.okWide,dB.2,Cell.okWide] at h;cases v<;>simp_all [Cell.ok,Value.oneCell']
 |str=>
  simp only [Ty.Ok] at dB;refine ⟨fun e=>(by cases e),fun _=> ?_⟩;obtain ⟨s,rfl⟩:=okWide_string dB.2 h;rfl
 |hole=>
  simp only [Ty.Ok] at dB;obtain ⟨_,eid,hu⟩:=dB;refine ⟨fun e=>(by cases e),fun _=> ?_⟩;obtain ⟨a,len,cap,rfl⟩:=okWide_slice hu h;rfl
 |sl e=>
  simp only [Ty.Ok] at dB;obtain ⟨_,eid,hu,_⟩:=dB;refine ⟨fun e=>(by cases e),fun _=> ?_⟩;obtain ⟨a,len,cap,rfl⟩:=okWide_slice hu h;rfl
 |fz e=>
  simp only [Ty.Ok] at dB;obtain ⟨_,eid,hu,_⟩:=dB;refine ⟨fun e=>(by cases e),fun _=> ?_⟩;obtain ⟨a,len,cap,rfl⟩:=okWide_slice hu h;rfl
theorem IV {b0:Nat}:∀ {ts:List Ty} {tids:List TypeId} {vs:List Value} {ds:List (DataW H)} {p:List MemPlace},Gi P ts tids→
  (∀ (j:Nat) t v,tids[j]? =some t→vs[j]? =some v→Value.okWide P w .any b0 t v)→DataW.TrodAll enc P w base sp held tids vs ds p→∃ x,ba (fun b=>b<w.heap.size) w (ts.map Ty.item) vs x [] []
 |[],[],vs,ds,p,_,_,h=>by
  obtain ⟨rfl,_,_⟩:=trodAll_nil h;exact ⟨(),(⟨rfl,rfl,rfl⟩:ba (fun b=>b<w.heap.size) w [] [] () [] [])⟩
 |[],_::_,_,_,_,hp,_,_=>hp.elim
 |_::_,[],_,_,_,hp,_,_=>hp.elim
 |t::ts,i::is,vs,ds,p,hp,hv,h=>by
  obtain ⟨v,bm,d,ds',p1,p2,rfl,rfl,rfl,h1,h2⟩:=trodAll_cons h;obtain ⟨fuel,h1⟩:=h1;obtain ⟨x,hx⟩:=Ty.trod t hp.1 h1;obtain ⟨z,hz⟩:=Ty.oc t hx;obtain ⟨y,hy⟩:=IV (ts:=ts) hp.2 (fun j t v ht Pb=>hv (j+1) t v (by simpa using ht) (by grind)) h2;have:=KR hp.1 (hv 0 i v rfl rfl);have BV:cR (fun b=>b<w.heap.size) w ⟨false,t.j2,t.iH⟩ v z [] []:=⟨rfl,hz,this.1,this.2⟩
  have Fj:ba (fun b=>b<w.heap.size) w (t.item::ts.map Ty.item) (v::bm) (z,y) [] []:=by
   simp only [ba];exact ⟨v,bm,[],[],[],[],rfl,rfl,rfl,BV,hy⟩
  grind
end
theorem DR:∀ (ts:List Ty) (vs:List Value),vs.length=ts.length→lK (ts.map fun _=>none) vs=vs
 |[],vs,h=>by simp at h;subst h;rfl
 |_::ts,[],h=>by simp at h
 |_::ts,v::vs,h=>by simp only [acX,lK];rw [DR ts vs (by simpa using h)]
theorem BI {P:Program} {S:Nat→Prop} {w w':World} {tok:Nat→Value} {loc:Nat→Loc} {hS:Gw S w} (h:Ev (tu P S w [] [] tok loc hS) w'):∀ i,i<w.heap.size→w'.heap[i]? =w.heap[i]? :=by
 intro i hi;rcases h.yd i hi with e|⟨C,C',E,h1,h2,h3,h4⟩|⟨hm,_⟩
 . exact e
 . have h1:w.heap[i]? =some (.cells C E (0,0)):=h1
   have:C'=C:=IT fun j=>h4 j fun hm=>by
    rcases hm with hm|⟨_,_,hm,_⟩<;>cases hm
   grind
 . rcases hm with hm|⟨_,_,hm,_⟩<;>cases hm
structure Kept (W w':World):Prop where
 frame:W.keptBut w' (fun _=>False)
 amY:∀ a,a.block<W.heap.size→w'.frozen? a=W.frozen? a
theorem KS {P:Program} {S:Nat→Prop} {w w':World} {tok:Nat→Value} {loc:Nat→Loc} {hS:Gw S w} (h:Ev (tu P S w [] [] tok loc hS) w'):Kept w w':=by
 have vO:=BI h;refine ⟨⟨h.os,h.output,fun i hi=> ?_⟩,h.frozen⟩;grind
section
variable {P:Program} {H:Type} {enc:TypeId×Value→H}
theorem Gj {f:Func} {s:ChangeSpec} {apart fresh handsOn again:Bool} {W W':World} {args:Array Value} {v:Value} {ds gs:List (DataW H)} {before pa pv:List MemPlace}
  (hW:DataW.Whole enc P f.params.toList s.vars apart W args.toList ds gs before)
  (OP:∀ (b:Nat) (sp:Nat→Bool) (hd:Bool),DataW.TrodAll enc P W' b sp hd f.resultTypes.toList (v.resultList f.resultTypes.size) (s.fn H (ds++gs)).results [])
  (Cv:∀ sp:Nat→Bool,(∀ p∈before,sp p.block=true)→DataW.TrodAll enc P W' 0 sp true f.params.toList args.toList (s.fn H (ds++gs)).args pa)
  (aaW:∀ sp:Nat→Bool,(∀ p∈before,sp p.block=true)→DataW.TrodVars enc P W' sp s.vars (s.fn H (ds++gs)).vars pv)
  (hps:before=pa++pv) (hk:Kept W W')
  (dB:∀ (j:Nat) (t:TypeId) (r:Value),f.resultTypes[j]? =some t→(v.resultList f.resultTypes.size)[j]? =some r→Value.okWide P W' .any 0 t r):
  s.post enc P f apart fresh handsOn again W args v W':=by
 have bZ:=hW.lt;have hold:∀ p∈before,(fun b=>decide (b<W.heap.size)) p.block=true:=by grind
 refine ⟨ds,gs,before,[],pa,pv,hW,OP _ _ _,Cv _ hold,aaW _ hold,World.keptBut_mono (fun _ h=>h.elim) hk.frame,fun _=> ?_⟩;obtain ⟨_,_,_,_,_,hz,hn⟩:=hW;refine ⟨dB,_,_,([]++pa)++pv,⟨[]++pa,pv,trodAll_append (Cv _ (fun _ _=>rfl)) (OP _ _ _),aaW _ (fun _ _=>rfl),rfl, ?_, ?_⟩, ?_⟩
 . intro b off hp
   have hm:MemPlace.cell b off∈before:=by grind
   rw [hk.amY _ (bZ _ hm)];exact hz b off hm
 . grind
 grind
end
theorem OZ {P:Program} {f:Nat} {lend:Bool} {ts:List Ty} {tids:List TypeId} {F:az (ts.map Ty.item)→Out (az [⟨false,false,[.b]⟩]×gN (ts.map Ty.item))} {H:Type} {enc:TypeId×Value→H} {w:World} {base b0:Nat} {sp:Nat→Bool} {held:Bool}
  (hK:bM.Ok P { f:=f,lend:=lend,aK:=ts.map Ty.item,lay:=ts.map fun _=>none,rs:=[⟨false,false,[.b]⟩],F:=F }) (hp:Gi P ts tids)
  (hF:∀ x,aD (ts.map Ty.item) x→∃ z,(F x).eval=some (((true,()),()),z)) {args:Array Value} {ds:List (DataW H)} {p:List MemPlace}
  (hv:∀ (j:Nat) t v,tids[j]? =some t→args[j]? =some v→Value.okWide P w .any b0 t v) (h:DataW.TrodAll enc P w base sp held tids args.toList ds p) (hT:Tg (fun b=>b<w.heap.size) w:=by intro p hp;simp [aiq] at hp):
  Calls P f args w fun e w'=>e= .returned (.bool true)∧Kept w w'∧∀ b,b<w.heap.size→w'.heap[b]? =w.heap[b]? :=by
 obtain ⟨x,hx⟩:=IV hp (fun j t v ht Pb=>hv j t v ht (by simpa using Pb)) h;obtain ⟨z,hz⟩:=hF x (qL _ hx);have hc:=(hK x _ hz (fun b=>b<w.heap.size) w ⟨fun b hb=>hb,hT⟩ args.toList [] [] hx (by simp) (by simp)).2;have hl:args.toList.length=ts.length:=by
  have:=ba.length _ hx;grind
 have amZ:(lK (ts.map fun _=>none) args.toList).toArray=args:=by grind [DR]
 have hc:Calls P f (lK (ts.map fun _=>none) args.toList).toArray w _:=hc;rw [amZ] at hc;refine Calls.mono hc fun e w' he=> ?_;cases e with
 |panicked _=>exact he.elim
 |outgrown=>exact he.elim
 |returned v=>
  obtain ⟨⟨rvs,f1,g1,f2,rfl,⟨_,_,_,_,hr,_⟩,_⟩,Af⟩:=he;refine ⟨?_,KS Af,BI Af⟩;simp only [ba,cR] at hr;obtain ⟨v,bm,_,_,_,_,rfl,_,_,⟨_,hr,_,ho⟩,rfl,_⟩:=hr;simp only [aT] at hr;obtain ⟨q,hq,rfl,_⟩:=hr;simp_all [gw,IQ]
end
section
open Go Go.ChangeShapes Go.WideShapes Go.ChangeAt Go.RowKit
section
variable {α β γ:Type} {f:α→Out (Round α β γ)}
theorem ke {n:Nat} {x x':α} (h:(f x).eval=some (.again x')):iter f (n+1) x=iter f n x':=by simp only [iter,h]
theorem lD {n:Nat} {x:α} {y:β} (h:(f x).eval=some (.out y)) (hn:0<n):iter f n x=some (.inl y):=by
 cases n with
 |zero=>omega
 |succ n=>simp only [iter,h]
theorem nC {n:Nat} {x:α} {z:γ} (h:(f x).eval=some (.ret z)) (hn:0<n):iter f n x=some (.inr z):=by
 cases n with
 |zero=>omega
 |succ n=>simp only [iter,h]
theorem BJ (s:Nat→α):∀ (m n:Nat),(∀ i,i<m→(f (s i)).eval=some (.again (s (i+1))))→iter f (m+n) (s 0)=iter f n (s m)
 |0,n,_=>by rw [ada]
 |m+1,n,h=>by
  have h1:=BJ s m (1+n) fun i hi=>h i (by omega);rw [show m+1+n=m+(1+n) by omega,h1,show 1+n=n+1 by omega,ke (h m (by omega))]
theorem yp (s:Nat→α) (m n:Nat) (hm:m≤n) (h:∀ i,i<m→(f (s i)).eval=some (.again (s (i+1)))):iter f n (s 0)=iter f (n - m) (s m):=by
 have:=BJ s m (n - m) h;rwa [show m+(n - m)=n by omega] at this
theorem kK (s:Nat→α) (m:Nat) {n:Nat} {y:β} (hm:m<n) (h:∀ i,i<m→(f (s i)).eval=some (.again (s (i+1)))) (hy:(f (s m)).eval=some (.out y)):iter f n (s 0)=some (.inl y):=by
 rw [yp s m n (by omega) h,lD hy (by omega)]
theorem Hj (s:Nat→α) (m:Nat) {n:Nat} {z:γ} (hm:m<n) (h:∀ i,i<m→(f (s i)).eval=some (.again (s (i+1)))) (hz:(f (s m)).eval=some (.ret z)):iter f n (s 0)=some (.inr z):=by
 rw [yp s m n (by omega) h,nC hz (by omega)]
theorem C5 (s:Nat→α) (p:Nat→Bool) (m:Nat) {n:Nat} {y:β} {z:γ} (hm:m<n) (h:∀ i,i<m→p i=true→(f (s i)).eval=some (.again (s (i+1)))) (hz:∀ i,i<m→p i=false→(f (s i)).eval=some (.ret z))
  (hy:(f (s m)).eval=some (.out y)):iter f n (s 0)=some (if (List.range m).all p=true then .inl y else .inr z):=by
 by_cases ha:(List.range m).all p=true
 . rw [aaK ha]
   rw [aa1] at ha;exact kK s m hm (fun i hi=>h i hi (ha i (List.mem_range.2 hi))) hy
 . rw [aap ha]
   have hex:∃ i,i<m∧p i=false:=by
    rw [aa1] at ha;simp only [Classical.not_forall] at ha;obtain ⟨i,hi,hp⟩:=ha;exact ⟨i,List.mem_range.1 hi,by simpa using hp⟩
   obtain ⟨i,⟨hi,hp⟩,ad5⟩:=exists_least hex;exact Hj s i (by omega) (fun j hj=>h j (by omega) (by
    cases hpj:p j with
    |true=>rfl
    |false=>have:=ad5 j ⟨by omega,hpj⟩;omega)) (hz i hi hp)
end
theorem Oe {α β:Type} {f:α→Out (Round α β Empty)} (s:Nat→α) (m:Nat) {n:Nat} {y:β} (hm:m<n) (h:∀ i,i<m→(f (s i)).eval=some (.again (s (i+1)))) (hy:(f (s m)).eval=some (.out y)):b5 f n (s 0)=some y:=by
 unfold b5;rw [kK s m hm h hy];rfl
theorem fL {m:Nat} (h:m≤aS):m<bn:=af3 h (by decide)
theorem eval_ite {ρ:Type} (c:Bool) (a b:Out ρ):(Out.ite c a b).eval=if c=true then a.eval else b.eval:=by cases c<;>rfl
theorem ab {ρ:Type} {c:Bool} {a b:Out ρ} (h:c=true):(Out.ite c a b).eval=a.eval:=by subst h;rfl
theorem ae {ρ:Type} {c:Bool} {a b:Out ρ} (h:c=false):(Out.ite c a b).eval=b.eval:=by subst h;rfl
theorem aa {ρ α:Type} {o:Option α} {k:α→Out ρ} {x:α} (h:o=some x):(Out.get o k).eval=(k x).eval:=by subst h;rfl
theorem gF {ρ α β:Type} {k:α→Out ρ} {h:β→Out ρ} (x:α):(Out.alt (.inl x) k h).eval=(k x).eval:=rfl
theorem JI {ρ α β:Type} {k:α→Out ρ} {h:β→Out ρ} (x:β):(Out.alt (.inr x) k h).eval=(h x).eval:=rfl
theorem ar {i:Nat} (h:i<aS):IntKind.i64.wrap ((i:Int)+1)=((i+1:Nat):Int):=by
 unfold aS at h;rw [IntKind.wrap_i64];omega
theorem cS {n:Int} (h0: -9223372036854775808≤n) (h1:n≤9223372036854775807):IntKind.i64.wrap n=n:=by
 rw [IntKind.wrap_i64];omega
theorem dH {α:Type} {l:List α} {i:Nat} (h:i<l.length):nth l (Int.toNat (i:Int))=some l[i]:=by
 show l[_]? =_;rw [aaH,aaf h]
section
variable {H:Type} {enc:TypeId×Value→H} {P:Program} {base:Nat} {sp:Nat→Bool}
theorem tv {W W':World} (hl:laidOutB P=true) (hs:∀ b,b<W.heap.size→W'.heap[b]? =W.heap[b]?):∀ {ts:List TypeId} {vs:List Value} {ds:List (DataW H)} {ps:List MemPlace},(ts.all fun t=>P.readableRec t&&decide (t<P.types.size))=true→
  DataW.TrodAll enc P W base (fun _=>true) true ts vs ds ps→(∀ p∈ps,p.block<W.heap.size)→(∀ p∈ps,sp p.block=true)→DataW.TrodAll enc P W' base sp true ts vs ds ps
 |[],_,_,_,_,h,_,_=>by
  obtain ⟨rfl,rfl,rfl⟩:=trodAll_nil h;exact trodAll_mk0
 |t::ts,vs,ds,ps,ht,h,bZ,NY=>by
  obtain ⟨v,bm,d,ds',p1,p2,rfl,rfl,rfl,h1,h2⟩:=trodAll_cons h;simp only [acY,aaE,ack] at ht;refine trodAll_cons_mk ?_ (tv hl hs ht.2 h2 (fun p hp=>bZ p (by simp [hp])) (fun p hp=>NY p (by simp [hp])));refine WideElems.Trod_stays hl ht.1.1 ht.1.2 h1 (fun p hp=> ?_) (fun p hp=>NY p (by simp [hp]));have:=hs p.block (bZ p (by simp [hp]));cases p with
  |cell b off=>simp only [World.sameAt,World.cell?];rw [show W'.heap[b]? =W.heap[b]? from this]
  |map b=>exact this
end
end
section
open Go
abbrev sp:Char:=Char.ofNat 32
theorem mV:∀ (w:List Char) (r:List Char),(∀ c∈w,c≠sp)→wordsSigns (w++sp::r)=w::wordsSigns r
 |[],r,_=>rfl
 |c::w,r,h=>by
  have hc:c≠sp:=h c (by simp);have ih:=mV w r fun d hd=>h d (by simp [hd]);rw [List.cons_append];unfold wordsSigns;split
  . grind
  . simp_all
  . rename_i c' r' _ e
    obtain ⟨rfl,rfl⟩:=List.cons.inj e;rw [ih];exact congrArg (fun l=>(c::w)::l) (wordsSigns.eq_def r)
def I8 (w:List Char):Bool:=w.all fun c=> !decide (c=sp)
theorem Gk {w:List Char} (h:I8 w=true):∀ c∈w,c≠sp:=fun c hc e=>by
 have:=aa1.1 h c hc;grind
theorem DV {s:String} {a b d r:List Char} (hs:s=String.ofList (a++sp::(b++sp::(d++sp::r)))) (ha:I8 a=true) (hb:I8 b=true) (hd:I8 d=true) (hm:(a== "harness".toList)=true) (aqp:isSumSigns b=true):
  behindMainWord (wordsSigns s.toList)=d::wordsSigns r:=by
 rw [hs,String.toList_ofList,mV a _ (Gk ha),mV b _ (Gk hb),mV d _ (Gk hd)];show (if ((a== "harness".toList||a== "ownmain".toList)&&isSumSigns b)=true then d::wordsSigns r else _)=_;grind
def ch (l:List Nat):List Char:=l.map Char.ofNat
section
variable {P:Program} {q:List (List Char)}
theorem Pg (hr:behindMainWord (wordsSigns P.initOrder.toList)=ch [99,117,116]::q):P.make=some .cut:=by simp_all [Program.make,ch]
theorem DS:stripLifts liftWords (ch [99,117,116]::q)=([],ch [99,117,116]::q):=by kernel_rfl
theorem NH (hr:behindMainWord (wordsSigns P.initOrder.toList)=ch [99,117,116]::q):P.liftsFinal=false:=by
 unfold Program.liftsFinal Program.headLifts;simp only [hr,DS]
 kernel_rfl
theorem DW (hr:behindMainWord (wordsSigns P.initOrder.toList)=ch [99,117,116]::q) (h1:P.laysLater=false) (h2:P.bearsReflect=false) (h3:P.doorFits []=true):P.mayEnter=true:=by
 unfold Program.mayEnter;rw [hr];simp only [DS,h1,h2,h3]
 kernel_rfl
end
end
section
open Go
def dL.qO (s:dL) (i j:Nat):dL:={ s with t:=(s.t.set i .dead).set j .dead,kn:=[] }
theorem ir.qO {c:Ctx} {n:Nat} {s:dL} {a:Act} {w:World} (h:ir c n s a w) {i j:Nat} (hi:i<n) (hj:j<n) (u v:Value):ir c n (s.qO i j) ((a.put (some i) u).put (some j) v) w:=by
 obtain ⟨⟨c1,μ,fp,he,hx⟩,_,hl⟩:=h;have hs:∀ k,(s.qO i j).t.getD k .dead=if j=k∨i=k then .dead else s.t.getD k .dead:=by grind [dL.qO,Bq]
 refine ⟨⟨c1,μ,fp,he,⟨fun k=> ?_, ?_,by rw [put_defers,put_defers];exact hx.defers,hx.vs,⟨fun k id eI=> ?_,hx.known.2⟩,hx.ev,hx.fix⟩⟩, ?_,by simp [dL.qO,hl]⟩
 . show an c1 μ _ ((s.qO i j).t.getD k .dead)
   rw [hs];by_cases e:j=k∨i=k
   . rw [aaK e];simp [an]
   . rw [aap e,wg (n:=n) (by rw [qF];exact hx.n) (by grind),aap (fun q=>e (.inl (aaG q))),wg (n:=n) hx.n (by grind),aap (fun q=>e (.inr (aaG q)))]
     exact hx.tm k
 . rw [qF,qF];exact hx.n
 . have eI:id∈((s.qO i j).t.getD k .dead).ids:=eI
   rw [hs] at eI;split at eI
   . cases eI
   . exact hx.known.1 k id eI
 . intro d b hf;cases hf
theorem BK {P:Program} {ops:Array Oper} {Q:Exit→Act→World→Prop} {i:Nat} {K:Act→World→Prop} {a:Act} {w:World} {o:Oper} {v:Value} (ho:ops[i]? =some o) (hg:o.guard=none)
  (hr:(execOp a.eval o).run P w= .ok (.value v) w) (h:K (a.put o.dst v) w):wpOp P ops Q i K a w:=by
 unfold wpOp;have hw:Region.wanted o (yielded ops a.tmps)=true:=by simp [Region.wanted,hg]
 simp only [ho,hw,af7];left;unfold Oper.wp;rw [hr];exact h
theorem ZC {c:Ctx} {n:Nat} {s:dL} {a:Act} {w:World} (h:ir c n s a w) (hn:5≤n) {e:Ty} {x:List e.D} {tk:Option Nat} (h0:s.t.getD 0 .dead= .ro e x tk) {tid te:TypeId} (hU:c.P.underlying tid=some (.slice te)) {rid:Nat} {o3 o4:Oper} {A:Code} {Q:Exit→Act→World→Prop}
  (h3:o3.op= .move (.tmp 0)) (g3:o3.guard=none) (d3:o3.dst=some 3) (h4:o4.op= .binOp .eql tid (.tmp 3) (.const (.slice none 0 0)) tid) (g4:o4.guard=none) (d4:o4.dst=some 4)
  (hA:x=[]→∀ a',ir c n (s.qO 3 4) a' w→A.wp c.P Q a' w) (hB:∀ a',ir c n (s.qO 3 4) a' w→Q .normal a' w):
  (Code.seq (.region rid #[o3,o4] false) (.cond (.tmp 4) A .skip)).wp c.P Q a w:=by
 obtain ⟨⟨c1,μ,fp,he,hx⟩,hk,hl⟩:=h;have h:ir c n s a w:=⟨⟨c1,μ,fp,he,hx⟩,hk,hl⟩
 have hv:=hx.tm 0;rw [show s.f.t 0=s.t.getD 0 .dead from rfl,h0] at hv;simp only [an,Ty.aQ] at hv;obtain ⟨⟨ad,cap,hv,hc,hd⟩,_⟩:=hv;generalize hva:a.tmps.getD 0 Go.undef=v at hv;have hv:v= .slice ad x.length cap:=by simpa using hv
 subst hv;have aqq:ad.isNone=true→x=[]:=by grind
 have hD:=h.qO (i:=3) (j:=4) (by omega) (by omega) (.slice ad x.length cap) (.bool ad.isNone);have he4:((a.put (some 3) (.slice ad x.length cap)).put (some 4) (.bool ad.isNone)).eval (.tmp 4)= .bool ad.isNone:=by
  show Array.getD _ 4 Go.undef=_;rw [wg (n:=n) (dst:=some 4) (by rw [qF];exact hx.n) (by grind),aaK rfl]
 refine wp_seq (wp_region ?_);show wpOps c.P #[o3,o4] _ [0,1] a w;rw [wpOps_cons];refine BK (o:=o3) (v:= .slice ad x.length cap) rfl g3 (by
  have:a.eval (.tmp 0)= .slice ad x.length cap:=hva;simp_all [execOp]) ?_
 rw [wpOps_cons,d3];refine BK (o:=o4) (v:= .bool ad.isNone) rfl g4 (by
  have:(a.put (some 3) (.slice ad x.length cap)).eval (.tmp 3)= .slice ad x.length cap:=by
   show Array.getD _ 3 Go.undef=_;rw [wg (n:=n) (dst:=some 3) hx.n (by grind),aaK rfl]
  have e2:(a.put (some 3) (.slice ad x.length cap)).eval (.const (.slice none 0 0))= .slice none 0 0:=rfl;simp_all [eqGuard,execOp,Go.Lib.run_eql_slice_nil]) ?_
 rw [d4];show Code.wp _ _ _ _ _;cases hb:ad.isNone with
 |true=>
  grind [wp_cond_true]
 |false=>
  grind [wp_cond_false,wp_skip]
def jN (C:Cx) (An:Nat→Option aq) (R B:Code) (aK:List Item) (lay:NG) (ntmps:Nat) (rs:List Item) (rtm:List ResultVar) (x:az aK):Out (az rs×gN aK):=
 (dK C An R (entry aK lay ntmps x)).bind fun r=>
  match r.1 with
  | .normal=>(dK C An B (r.2.qO 3 4)).bind fun r=>
    match r.1 with
    | .exit _=> .fail
    |_=> .of (leave C aK rs rtm r.2) .ret
  |_=> .fail
theorem ZD {C:Cx} {c:Ctx} {n:Nat} (hC:iT C c.P) (hF:jq C c.P) (hm:c.P.follows .mixedOrders=true) {An:Nat→Option aq} {R A B:Code} {aK rs:List Item} {lay:NG} {ntmps:Nat} {rtm:List ResultVar} {x:az aK} {e:Ty} {l:List e.D} {tk:Option Nat}
  {tid te:TypeId} (hU:c.P.underlying tid=some (.slice te)) {rid:Nat} {o3 o4:Oper}
  (h3:o3.op= .move (.tmp 0)) (g3:o3.guard=none) (d3:o3.dst=some 3) (h4:o4.op= .binOp .eql tid (.tmp 3) (.const (.slice none 0 0)) tid) (g4:o4.guard=none) (d4:o4.dst=some 4)
  (hs0:∀ s1,(dK C An R (entry aK lay ntmps x)).eval=some (.normal,s1)→s1.t.getD 0 .dead= .ro e l tk) (h5:5≤n) {y:az rs×gN aK}
  (hB:(jN C An R B aK lay ntmps rs rtm x).eval=some y) (hA:l=[]→(jN C An R A aK lay ntmps rs rtm x).eval=some y) {a:Act} {w:World} (h:ir c n (entry aK lay ntmps x) a w)
  (ae4:∀ s r,(dK C An A s).eval=some r→r.1= .ret):
  (Code.seq R (.seq (.seq (.region rid #[o3,o4] false) (.cond (.tmp 4) A .skip)) B)).wp c.P (fun e a' w'=>∃ ex s',e=TO ex∧ir c n s' a' w'∧(∀ m,ex≠ .exit m)∧leave C aK rs rtm s'=some y) a w:=by
 unfold jN at hB;obtain ⟨⟨ex,s1⟩,hq,hB⟩:=cW hB;refine wp_seq (wp_mono (bR hC hF hm An R _ _ a w hq h) fun e a1 w1 he=> ?_);obtain ⟨rfl,he⟩:=he;cases ex with
 |exit m=>cases hB
 |ret=>cases hB
 |normal=>
  refine wp_seq (ZC he h5 (hs0 s1 hq) hU h3 g3 d3 h4 g4 d4 (fun hl a2 h2=> ?_) (fun a2 h2=>DQ hC hF hm h2 hB));have hA:=hA hl;unfold jN at hA;obtain ⟨r2,hq2,hA⟩:=cW hA;rw [hq] at hq2;obtain rfl:=aaG hq2;obtain ⟨r3,hq3,hA⟩:=cW hA;have QX:=ae4 _ _ hq3;obtain ⟨ex3,s3⟩:=r3;obtain rfl:ex3= .ret:=QX;obtain ⟨z,hz,hA⟩:=aM hA;obtain rfl:=aaG hA;refine wp_mono (bR hC hF hm An A _ _ a2 w1 hq3 h2) fun e a' w' he=> ?_;obtain ⟨rfl,he⟩:=he;exact ⟨.ret,s3,rfl,he,fun m=>by simp,hz⟩
theorem T3 {C:Cx} {An:Nat→Option aq} {id:Nat} {ops:Array Oper} {d:Bool} {s:dL} {r:Ex×dL} (h:(dK C An (.seq (.region id ops d) .ret) s).eval=some r):r.1= .ret:=by
 simp only [dK] at h;obtain ⟨q,hq,h⟩:=cW h;obtain ⟨s',_,hq⟩:=cW hq;obtain rfl:=aaG hq;obtain rfl:=aaG h;rfl
def am0:Out (Ex×dL)→ai
 | .ret r=>r.2.t.getD 0 .dead
 |_=> .dead
theorem oj {P:Program} {C:Cx} {K:bM} {fn:Func} {code:Code} {rtm:List ResultVar} {An:Nat→Option aq} (hC:iT C P) (hF:jq C P) (hm:P.follows .mixedOrders=true)
  {R B:Code} {rid ia:Nat} {oa:Array Oper} {da:Bool} {o3 o4:Oper} {tid te:TypeId} {e:Ty} {tk:Option Nat} (l:az K.aK→List e.D) (func:P.funcs[K.f]? =some fn) (body:fn.body=some code) (name:(fn.name== "runtime.NumGoroutine")=false) (res:fn.results=rtm.toArray)
  (few:rtm.length≤6) (mY:nr K.aK 0≤64) (pos:(K.rs.all fun it=>decide (0<it.cs.length))=true)
  (ajl:code= .seq R (.seq (.seq (.region rid #[o3,o4] false) (.cond (.tmp 4) (.seq (.region ia oa da) .ret) .skip)) B)) (hU:P.underlying tid=some (.slice te))
  (h3:o3.op= .move (.tmp 0)) (g3:o3.guard=none) (d3:o3.dst=some 3) (h4:o4.op= .binOp .eql tid (.tmp 3) (.const (.slice none 0 0)) tid) (g4:o4.guard=none) (d4:o4.dst=some 4)
  (hs0:∀ x,am0 (dK C An R (entry K.aK K.lay fn.ntmps x))= .ro e (l x) tk) (h5:∀ x,5≤(entry K.aK K.lay fn.ntmps x).t.length)
  (hB:∀ x y,aD K.aK x→(K.F x).eval=some y→(jN C An R B K.aK K.lay fn.ntmps K.rs rtm x).eval=some y)
  (hA:∀ x y,aD K.aK x→l x=[]→(K.F x).eval=some y→(jN C An R (.seq (.region ia oa da) .ret) K.aK K.lay fn.ntmps K.rs rtm x).eval=some y) (NF:K.vw=none:=by rfl):K.Ok P:=by
 refine BG hC ⟨func,body,name,res,few,mY,pos,fun x y hw hy c n a w hP hD=> ?_⟩ NF;subst hP;rw [ajl];refine ZD (tk:=tk) hC hF hm hU h3 g3 d3 h4 g4 d4 (fun s1 hs=> ?_) (hD.len ▸ h5 x) (hB x y hw hy) (fun hl=>hA x y hw hl hy) hD fun s r h=>T3 h;have:=hs0 x;revert hs this;generalize dK C An R (entry K.aK K.lay fn.ntmps x)=o;intro hs this;cases o with
 |ret r=>obtain rfl:=aaG hs;exact this
 |_=>cases this
def eY:Code→Code
 | .seq a _=>a
 |_=> .skip
def lf:Code→Code
 | .seq _ b=>b
 |_=> .skip
def KW:Code→Code
 | .cond _ a _=>a
 |_=> .skip
def D1:Code→Array Oper
 | .region _ ops _=>ops
 |_=> #[]
def ZU (c:Code) (i:Nat):Oper:=(D1 c).getD i ⟨none, .move (.tmp 0),0, "", #[],none⟩
end
end Go.Proofs.YtohagdoklnkljaaGreat.Dm
