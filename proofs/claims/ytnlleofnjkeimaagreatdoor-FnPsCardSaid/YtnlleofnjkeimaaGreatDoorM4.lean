/- The data machine (a part). -/
import Derived.Test.YtnlleofnjkeimaaGreatDoorM3
import Derived.KernelRfl
import Derived.WalkKit
import Derived.ProofKit
import Derived.OpenShut
import Derived.JoinedCond
import Derived.Carry
import Derived.Laws.Runes
import Derived.Laws.BitsLemmas
import Derived.JoinedOf
import Derived.Lib.SliceRun
namespace Go.Proofs.YtnlleofnjkeimaaGreatDoor.Dm
section
open Go
def js (μ:Nat→Loc):List Cm→List ah→Prop
 | .b::r,_::q=>js μ r q
 | .i _::r,_::q=>js μ r q
 | .s::r,_::q=>js μ r q
 | .e::r,_::q=>js μ r q
 | .k::r,_::q=>js μ r q
 | .ro _::r,_::q=>js μ r q
 | .own _::r,_::q=>js μ r q
 | .mut e::r,d::q=>(d= .mD∨∃ id a len cap,d= .cB id none∧μ id= .qQ a len cap e.size)∧js μ r q
 |[],_=>True
 |_,[]=>False
section
variable {c c0:Ctx} {K0:Nat→Prop} {μ0:Nat→Loc} {fp0:Nat→List Nat} {v0:Env} {w0 w:World} {E EL:Env}
theorem Qk (h:∀ id x,v0 id=some x→cz c0 μ0 w0 id (fp0 id) x) (hE:∀ id x,E id=some x→v0 id=some x) {e:Ty} {d:ah} {z:List e.D×List Nat} (hz:Im E e d=some z):
  d= .mD∨∃ id a len cap,d= .cB id none∧μ0 id= .qQ a len cap e.size:=by
 unfold Im at hz;split at hz
 . exact .inl rfl
 . rename_i id
   right;replace hz:(E id).bind (λv=>(gT E v).bind λx=>(Ty.cast (.sl x.1) (.sl e) x.2).map λy=>(y,id::bz v))=some z:=hz;obtain ⟨y,hy,hz⟩:=Option.bind_eq_some_iff.1 hz;obtain ⟨⟨e',ys⟩,hu,hz⟩:=Option.bind_eq_some_iff.1 hz;obtain ⟨zs,hc,rfl⟩:=Option.map_eq_some_iff.1 hz;obtain ⟨he,AQ⟩:=iX hc;clear hc hz;subst he;obtain ⟨a,cap,f,h1,_⟩:=zK h hE hy hu;exact ⟨id,a,_,cap,rfl,h1⟩
 . cases hz
theorem fA (h:∀ id x,v0 id=some x→cz c0 μ0 w0 id (fp0 id) x) (hE:∀ id x,E id=some x→v0 id=some x):(l:List Cm)→{ds:List ah}→{r:rA l×List Nat}→eO E EL l ds=some r→js μ0 l ds
 |[],ds,r,_=>by simp [js]
 | .b::l,ds,r,hf=>by
   cases ds with
   |nil=>cases hf
   |cons d q=>
    cases d<;>try (cases hf;done)
    rename_i x;obtain ⟨y,hy,rfl⟩:=Option.map_eq_some_iff.1 (show ((eO E EL l q).map λy=>((x,y.1),y.2))=some r from hf);exact fA h hE l hy
 | .i k::l,ds,r,hf=>by
   cases ds with
   |nil=>cases hf
   |cons d q=>
    cases d<;>try (cases hf;done)
    rename_i k' x;replace hf:(if k=k' then (eO E EL l q).map λy=>((x,y.1),y.2) else none)=some r:=hf;split at hf
    case isFalse=>cases hf
    obtain ⟨y,hy,rfl⟩:=Option.map_eq_some_iff.1 hf;exact fA h hE l hy
 | .s::l,ds,r,hf=>by
   cases ds with
   |nil=>cases hf
   |cons d q=>
    cases d<;>try (cases hf;done)
    rename_i x;obtain ⟨y,hy,rfl⟩:=Option.map_eq_some_iff.1 (show ((eO E EL l q).map λy=>((x,y.1),y.2))=some r from hf);exact fA h hE l hy
 | .e::l,ds,r,hf=>by
   cases ds with
   |nil=>cases hf
   |cons d q=>
    cases d<;>try (cases hf;done)
    rename_i x;obtain ⟨y,hy,rfl⟩:=Option.map_eq_some_iff.1 (show ((eO E EL l q).map λy=>((x,y.1),y.2))=some r from hf);exact fA h hE l hy
 | .k::l,ds,r,hf=>by
   cases ds with
   |nil=>cases hf
   |cons d q=>
    replace hf:(if d.bs=true then eO E EL l q else none)=some r:=hf;split at hf
    . exact fA h hE l hf
    . cases hf
 | .ro e::l,ds,r,hf=>by
   cases ds with
   |nil=>cases hf
   |cons d q=>
    replace hf:((rY EL e d).bind λx=>(eO E EL l q).map λy=>((x,y.1),y.2))=some r:=hf;obtain ⟨x,hx,hf⟩:=Option.bind_eq_some_iff.1 hf;obtain ⟨y,hy,rfl⟩:=Option.map_eq_some_iff.1 hf;exact fA h hE l hy
 | .own e::l,ds,r,hf=>by
   cases ds with
   |nil=>cases hf
   |cons d q=>
    replace hf:((iE E e d).bind λz=>(eO E EL l q).map λy=>((z.1,y.1),z.2++y.2))=some r:=hf;obtain ⟨z,hz,hf⟩:=Option.bind_eq_some_iff.1 hf;obtain ⟨y,hy,rfl⟩:=Option.map_eq_some_iff.1 hf;exact fA h hE l hy
 | .mut e::l,ds,r,hf=>by
   cases ds with
   |nil=>cases hf
   |cons d q=>
    replace hf:((Im E e d).bind λz=>(eO E EL l q).map λy=>((z.1,y.1),z.2++y.2))=some r:=hf;obtain ⟨z,hz,hf⟩:=Option.bind_eq_some_iff.1 hf;obtain ⟨y,hy,rfl⟩:=Option.map_eq_some_iff.1 hf;exact ⟨Qk h hE hz,fA h hE l hy⟩
theorem gO:(l:List Cm)→∀ {vs:List Value} {ds:List ah} {y:n8 l} {f rest:List Nat} {K:Nat→Prop} {μ:Nat→Loc} {fp:Nat→List Nat} {v:Env},
  gQ c K μ fp v w (f++rest)→ai c μ0 vs ds→(∀ id∈ah.bC ds,K0 id)→(∀ id,K0 id→K id∧μ id=μ0 id)→js μ0 l ds→aS c.fz w l vs y f→(∀ b∈f,b<c.w0.heap.size→∀ j,c.M b j)→
  ∃ fp',gQ c K μ fp' (cp v (news (pI l ds y))) w rest
 |[],vs,ds,y,f,rest,K,μ,fp,v,h,hr,_,_,_,hb,_=>by
  simp only [aS] at hb;obtain ⟨rfl,rfl⟩:=hb;exact ⟨fp,h⟩
 | .b::r,vs,ds,y,f,rest,K,μ,fp,v,h,hr,hi,hk,hm,hb,hM=>by
   simp only [aS] at hb;obtain ⟨v1,aZ,rfl,hb⟩:=hb;cases ds with
   |nil=>simp [js] at hm
   |cons d q=>
    simp only [ai] at hr;obtain ⟨_,_,e,hd,hr⟩:=hr;cases e;exact gO r h hr (λid cQ=>hi id (by simp [ah.bC,cQ])) hk hm hb hM
 | .i _::r,vs,ds,y,f,rest,K,μ,fp,v,h,hr,hi,hk,hm,hb,hM=>by
   simp only [aS] at hb;obtain ⟨v1,aZ,rfl,hb⟩:=hb;cases ds with
   |nil=>simp [js] at hm
   |cons d q=>
    simp only [ai] at hr;obtain ⟨_,_,e,hd,hr⟩:=hr;cases e;exact gO r h hr (λid cQ=>hi id (by simp [ah.bC,cQ])) hk hm hb hM
 | .s::r,vs,ds,y,f,rest,K,μ,fp,v,h,hr,hi,hk,hm,hb,hM=>by
   simp only [aS] at hb;obtain ⟨v1,aZ,rfl,hb⟩:=hb;cases ds with
   |nil=>simp [js] at hm
   |cons d q=>
    simp only [ai] at hr;obtain ⟨_,_,e,hd,hr⟩:=hr;cases e;exact gO r h hr (λid cQ=>hi id (by simp [ah.bC,cQ])) hk hm hb hM
 | .e::r,vs,ds,y,f,rest,K,μ,fp,v,h,hr,hi,hk,hm,hb,hM=>by
   simp only [aS] at hb;obtain ⟨v1,aZ,rfl,hb⟩:=hb;cases ds with
   |nil=>simp [js] at hm
   |cons d q=>
    simp only [ai] at hr;obtain ⟨_,_,e,hd,hr⟩:=hr;cases e;exact gO r h hr (λid cQ=>hi id (by simp [ah.bC,cQ])) hk hm hb hM
 | .k::r,vs,ds,y,f,rest,K,μ,fp,v,h,hr,hi,hk,hm,hb,hM=>by
   simp only [aS] at hb;obtain ⟨v1,aZ,rfl,hb⟩:=hb;cases ds with
   |nil=>simp [js] at hm
   |cons d q=>
    simp only [ai] at hr;obtain ⟨_,_,e,hd,hr⟩:=hr;cases e;exact gO r h hr (λid cQ=>hi id (by simp [ah.bC,cQ])) hk hm hb hM
 | .ro _::r,vs,ds,y,f,rest,K,μ,fp,v,h,hr,hi,hk,hm,hb,hM=>by
   simp only [aS] at hb;obtain ⟨v1,aZ,rfl,hb⟩:=hb;cases ds with
   |nil=>simp [js] at hm
   |cons d q=>
    simp only [ai] at hr;obtain ⟨_,_,e,hd,hr⟩:=hr;cases e;exact gO r h hr (λid cQ=>hi id (by simp [ah.bC,cQ])) hk hm hb hM
 | .own _::r,vs,ds,y,f,rest,K,μ,fp,v,h,hr,hi,hk,hm,hb,hM=>by
   simp only [aS] at hb;obtain ⟨v1,aZ,rfl,hb⟩:=hb;cases ds with
   |nil=>simp [js] at hm
   |cons d q=>
    simp only [ai] at hr;obtain ⟨_,_,e,hd,hr⟩:=hr;cases e;exact gO r h hr (λid cQ=>hi id (by simp [ah.bC,cQ])) hk hm hb hM
 | .mut e::r,vs,ds,y,f,rest,K,μ,fp,v,h,hr,hi,hk,hm,hb,hM=>by
   simp only [aS] at hb;obtain ⟨v1,aZ,f1,f2,rfl,rfl,hx,hb⟩:=hb;cases ds with
   |nil=>simp [js] at hm
   |cons d q=>
    simp only [ai] at hr;obtain ⟨_,_,e',hd,hr⟩:=hr;cases e';simp only [js] at hm;have h':gQ c K μ fp v w (f1++(f2++rest)):=by rw [← acj];exact h
    rcases hm.1 with rfl|⟨id,a,len,cap,rfl,zI⟩
    . exact gO r h'.drop hr (λid cQ=>hi id (by simp [ah.bC,cQ])) hk hm.2 hb (λb hb=>hM b (by simp [hb]))
    . simp only [an] at hd
      obtain ⟨a',mY,jP,sz,g1,rfl⟩:=hd;rw [zI] at g1;cases g1;have hid:K0 id:=hi id (by simp [ah.bC,ah.ids]);have qZ:=hx;simp only [Ty.ar] at qZ;obtain ⟨a2,cap2,e2,_,_⟩:=qZ;cases e2;have mF:cz c μ w id f1 (.arr e y.1):=⟨a,cap,(hk id hid).2.trans zI,hx,λb hb=>hM b (by simp [hb])⟩
      have h2:=h'.add (K':=K) (μ':=μ) (id0:=id) (λ_ _=>rfl) (λ_ hi=>hi) (hk id hid).1 (λ_ hi=>by cases hi) mF;obtain ⟨fp',h3⟩:=gO r h2 hr (λid cQ=>hi id (by simp [ah.bC,cQ])) hk hm.2 hb (λb hb=>hM b (by simp [hb]));exact ⟨fp',h3⟩
theorem GC {l new:List ah} {off id:Nat} (h:id∈ah.bC (eK l off new)):id∈ah.bC l∨id∈ah.bC new:=by
 obtain ⟨d,hd,hi⟩:=gb.1 h;simp only [eK,abp] at hd;rcases hd with (hd|hd)|hd
 . exact .inl (gb.2 ⟨d,afn hd,hi⟩)
 . exact .inr (gb.2 ⟨d,hd,hi⟩)
 . exact .inl (gb.2 ⟨d,afk hd,hi⟩)
def Is (w0 w:World) (g:List (Nat×Nat×Nat)):Prop:=
 ∀ B o m,(B,o,m)∈g→∃ C C' T,w0.heap[B]? =some (.cells C T (0,0))∧w.heap[B]? =some (.cells C' T (0,0))∧C'.size=C.size∧∀ j,¬ (o≤j∧j<o+m)→C'[j]? =C[j]?
theorem A3 {C C':Array Value} {o off n L:Nat} (hz:C'.size=C.size) (hC:o+L≤C.size) (hn:off+n≤L) (hj:∀ j,¬ (o+off≤j∧j<o+off+n)→C'[j]? =C[j]?):
  (C'.toList.drop o).take L=((C.toList.drop o).take L).take off++(C'.toList.drop (o+off)).take n++((C.toList.drop o).take L).drop (off+n):=by
 apply acB;intro i;have h1:(List.take off (List.take L (List.drop o C.toList))).length=off:=by simp;omega
 have h2:(List.take n (List.drop (o+off) C'.toList)).length=n:=by simp;omega
 have hg:∀ j,C'.toList[j]? =C'[j]? :=λj=>acm;have hg':∀ j,C.toList[j]? =C[j]? :=λj=>acm;rw [List.getElem?_append,List.getElem?_append,abz,h1,h2];by_cases hi:i<L
 . rw [ab9 hi,ab8,hg]
   by_cases h3:i<off
   . rw [aa5 (by omega),aa5 h3,ab9 h3,ab9 hi,ab8,hg',hj _ (by omega)]
   . by_cases h4:i<off+n
     . rw [aa5 h4,aa3 h3,ab9 (by omega),ab8,hg]
       congr 1;omega
     . rw [aa3 h4,ab8,ab9 (by omega),ab8,hg',hj _ (by omega)]
       congr 1;omega
 . rw [acI (by simp;omega),aa3 (by omega),ab8,acI (by simp;omega)]
theorem LB (wX:∀ id x,v0 id=some x→cz c0 μ0 w0 id (fp0 id) x) (xM:∀ (ds:List ah) {vs:List Value},ai c0 μ0 vs ds→ai c μ0 vs ds) (hM0:∀ b j,(b<c0.w0.heap.size→c0.M b j)→b<c.w0.heap.size→c.M b j) (hE:∀ id x,E id=some x→v0 id=some x) (hK0:∀ id x,v0 id=some x→K0 id∧∀ dC∈x.ids,K0 dC) {S':Nat→Prop}:
  (it:Item)→∀ {d:Value} {dd:ah} {r:rA it.cs×List Nat} {y:si it} {f0 f rest:List Nat} {g:List (Nat×Nat×Nat)} {n:Nat} {K:Nat→Prop} {μ:Nat→Loc} {fp:Nat→List Nat} {v:Env},
  gQ c K μ fp v w (f++g.map (·.1)++rest)→an c μ0 d dd→(∀ id∈dd.ids,K0 id)→(∀ id,K0 id→K id∧μ id=μ0 id)→Gx E EL it dd=some r→cC S' w0 it d r.1 f0 g→qf c.fz w0 w it d y f→
  (∀ b∈f,b<c.w0.heap.size→∀ j,c.M b j)→Is w0 w g→(∀ id,n≤id→id<(ml E it dd y n).2→¬ K id)→
  n≤(ml E it dd y n).2∧qT c K μ v w rest n (ml E it dd y n).2 (ml E it dd y n).1 λ_=>True
 |⟨false,a,cs⟩,d,dd,r,y,f0,f,rest,g,n,K,μ,fp,v,h,hd,hi,hk,ht,hr,hb,hM,_,_=>by
  simp only [cC] at hr;obtain ⟨rfl,_⟩:=hr;replace ht:(if isAgg dd=a∧dd.cells.all ah.bs=true then eO E EL cs dd.cells else none)=some r:=ht;split at ht
  case isFalse=>cases ht
  rename_i hc;have zN:∀ id∈ah.bC dd.cells,K0 id:=by
   intro id hid;refine hi id ?_;by_cases ha:∃ ds,dd= .agg ds
   . obtain ⟨ds,rfl⟩:=ha;exact hid
   . have hdd:dd.cells=[dd]:=by cases dd<;>first|rfl|exact absurd ⟨_,rfl⟩ ha
     rw [hdd] at hid;simpa [ah.bC] using hid
  obtain ⟨fp',h1⟩:=gO cs (by simpa using h) (hd.cells hc.2) zN hk (fA wX hE cs ht) hb hM;exact ⟨abE n,μ,fp',trivial,h1.weaken λ_=> .inl,λ_ _=>rfl⟩
 |⟨true,a,cs⟩,d,dd,r,y,f0,f,rest,g,n,K,μ,fp,v,h,hd,hi,hk,ht,hr,hb,hM,hP,iI=>by
  cases dd<;>try (cases ht;done)
  rename_i id off;replace ht:(match E id with|some (.var l)=>if off+cs.length≤l.length then (eO E EL cs ((l.drop off).take cs.length)).map λy=>(y.1,id::y.2) else none|_=>none)=some r:=ht;split at ht
  case h_2=>cases ht
  rename_i l hid;split at ht
  case isFalse=>cases ht
  rename_i hl;have hv:=hE id _ hid;have Ql:=hK0 id _ hv;obtain ⟨B,o,C,T,h1,h2,h3,h4,h5,h6,h7⟩:=wX id _ hv;replace h5:=xM _ h5;simp only [an] at hd;obtain ⟨B',o',e1,rfl⟩:=hd;rw [h1] at e1;cases e1;simp only [cC] at hr;obtain ⟨B2,o2,C2,T2,rfl,e2,_,_,hr⟩:=hr;simp only [Value.pointer.injEq,acv,Addr.mk.injEq,afr] at e2;obtain ⟨rfl,rfl⟩:=e2;obtain ⟨B3,o3,e3,hb⟩:=hb;simp only [Value.pointer.injEq,acv,Addr.mk.injEq,afr] at e3;obtain ⟨rfl,rfl⟩:=e3;obtain ⟨C1,C',T',p1,p2,p3,p4⟩:=hP B (o+off) cs.length (by simp);rw [h3] at p1;cases p1;have fq:aE w0 B (o+off) cs.length=((aE w0 B o l.length).drop off).take cs.length:=im (by omega);have hbk:ml E ⟨true,a,cs⟩ (.vptr id off) y n=((bY cs ((l.drop off).take cs.length) y n).2.1++[(id, .var (eK l off (bY cs ((l.drop off).take cs.length) y n).1))],(bY cs ((l.drop off).take cs.length) y n).2.2):=by
   show (match E id with|some (.var l)=>_|_=>_)=_;rw [hid]
  rw [hbk] at iI ⊢;simp only at iI ⊢;have VM:∀ i∈ah.bC ((l.drop off).take cs.length),K0 i:=λi cQ=>by
   obtain ⟨q,hq,hqi⟩:=gb.1 cQ;exact Ql.2 i (gb.2 ⟨q,afk (afn hq),hqi⟩)
  have jS:((l.drop off).take cs.length).all ah.bs=true:=by
   rw [abD] at h6 ⊢;exact λq hq=>h6 q (afk (afn hq))
  have hlen:(aE w B (o+off) cs.length).length=cs.length:=by
   rw [ck p2];simp;omega
  obtain ⟨xb,GQ,g1,g2,g3⟩:=iC (K0:=K0) (μ0:=μ0) cs (rest:=[B]++rest) (by simpa using h) (by rw [fq];exact (h5.drop off).take cs.length) VM hk hb hM iI;have hle:=fw cs ((l.drop off).take cs.length) y n;have dF:=jL (K:=K0) cs ((l.drop off).take cs.length) y n jS VM;have Tu:(bY cs ((l.drop off).take cs.length) y n).1.length=cs.length:=by rw [← g1.length,hlen]
  have hag:∀ i,K0 i→xb i=μ0 i:=λi cQ=>(g3 i (hk i cQ).1).trans (hk i cQ).2;have mF:cz c xb w id [B] (.var (eK l off (bY cs ((l.drop off).take cs.length) y n).1)):=by
   refine ⟨B,o,C',T,(hag id Ql.1).trans h1,rfl,p2, ?_, ?_,lL h6 dF.1, ?_⟩
   . rw [iq (by omega)];omega
   . rw [iq (by omega),ck p2,A3 p3 h4 hl p4]
     have:=mi (ai.mono l (λi cQ=>hag i (Ql.2 i cQ)) h5) g1 off;rw [hlen] at this;rw [ck h3,ck p2] at this;exact this
   . intro bS j hj
     rw [iq (by omega)] at hj;exact hM0 B (o+j) (λq=>h7 q j hj) bS
  refine ⟨hle,xb,λk=>if k=id then [B] else GQ k,trivial, ?_,g3⟩;rw [jo,dn];refine g2.add (μ':=xb) (λ_ _=>rfl) (λ_ cQ=>cQ) (.inl (hk id Ql.1).1) (λi cQ=> ?_) mF;rcases GC cQ with cQ|cQ
  . exact .inl (hk i (Ql.2 i cQ)).1
  . rcases dF.2 i cQ with q|q
    . exact .inl (hk i q).1
    . exact .inr q
theorem Qm {E:Env}:(it:Item)→(d:ah)→(y:si it)→(n:Nat)→n≤(ml E it d y n).2
 |⟨false,_,cs⟩,d,y,n=>abE n
 |⟨true,a,cs⟩,d,y,n=>by
  cases d<;>try exact abE n
  rename_i id off;show n≤(match E id with|some (.var l)=>((bY cs ((l.drop off).take cs.length) y n).2.1++[(id,bK.var (eK l off (bY cs ((l.drop off).take cs.length) y n).1))],(bY cs ((l.drop off).take cs.length) y n).2.2)|_=>(([],n):List (Nat×bK)×Nat)).2;split
  . exact fw _ _ _ _
  . exact abE n
theorem B9 {E:Env}:(l:List Item)→(ds:List ah)→(y:gA l)→(n:Nat)→n≤(je E l ds y n).2
 |[],_,_,n=>abE n
 |_::_,[],_,n=>abE n
 |it::l,d::q,y,n=>abG (Qm it d y.1 n) (B9 l q y.2 _)
theorem Am (wX:∀ id x,v0 id=some x→cz c0 μ0 w0 id (fp0 id) x) (xM:∀ (ds:List ah) {vs:List Value},ai c0 μ0 vs ds→ai c μ0 vs ds) (hM0:∀ b j,(b<c0.w0.heap.size→c0.M b j)→b<c.w0.heap.size→c.M b j) (hE:∀ id x,E id=some x→v0 id=some x) (hK0:∀ id x,v0 id=some x→K0 id∧∀ dC∈x.ids,K0 dC) {S':Nat→Prop}:
  (l:List Item)→∀ {vs:List Value} {ds:List ah} {r:au l×List Nat} {y:gA l} {f0 f rest:List Nat} {g:List (Nat×Nat×Nat)} {n:Nat} {K:Nat→Prop} {μ:Nat→Loc} {fp:Nat→List Nat} {v:Env},
  gQ c K μ fp v w (f++g.map (·.1)++rest)→ai c μ0 vs ds→(∀ id∈ah.bC ds,K0 id)→(∀ id,K0 id→K id∧μ id=μ0 id)→lO E EL l ds=some r→aU S' w0 l vs r.1 f0 g→dz c.fz w0 w l vs y f→
  (∀ b∈f,b<c.w0.heap.size→∀ j,c.M b j)→Is w0 w g→(∀ id,n≤id→id<(je E l ds y n).2→¬ K id)→
  n≤(je E l ds y n).2∧qT c K μ v w rest n (je E l ds y n).2 (je E l ds y n).1 λ_=>True
 |[],vs,ds,r,y,f0,f,rest,g,n,K,μ,fp,v,h,hd,hi,hk,ht,hr,hb,hM,_,_=>by
  simp only [aU] at hr;obtain ⟨rfl,rfl,rfl⟩:=hr;simp only [dz] at hb;obtain ⟨_,rfl⟩:=hb;exact ⟨abE n,μ,fp,trivial,gQ.weaken (show gQ c K μ fp v w rest by simpa using h) λ_=> .inl,λ_ _=>rfl⟩
 |it::l,vs,ds,r,y,f0,f,rest,g,n,K,μ,fp,v,h,hd,hi,hk,ht,hr,hb,hM,hP,iI=>by
  cases ds with
  |nil=>cases ht
  |cons d q=>
   replace ht:((Gx E EL it d).bind λx=>(lO E EL l q).map λy=>((x.1,y.1),x.2++y.2))=some r:=ht;obtain ⟨z,hz,ht⟩:=Option.bind_eq_some_iff.1 ht;obtain ⟨z2,hz2,rfl⟩:=Option.map_eq_some_iff.1 ht;simp only [aU] at hr;obtain ⟨d1,aZ,f1,f2,g1,g2,rfl,rfl,rfl,hr1,hr⟩:=hr;simp only [dz] at hb;obtain ⟨d2,QL,b1,b2,e,rfl,GK,hb⟩:=hb;cases e;simp only [ai] at hd;obtain ⟨d3,vs3,e,hd1,hd⟩:=hd;cases e;have hp:(b1++b2++(g1++g2).map (·.1)++rest).Perm (b1++g1.map (·.1)++(b2++g2.map (·.1)++rest)):=by
    rw [afz];refine (List.Perm.append_right rest (sk b1 b2 _ _)).trans ?_;rw [acj]
   have e1:(je E (it::l) (d::q) y n).2=(je E l q y.2 (ml E it d y.1 n).2).2:=rfl;have e2:(je E (it::l) (d::q) y n).1=(ml E it d y.1 n).1++(je E l q y.2 (ml E it d y.1 n).2).1:=rfl;rw [e1] at iI ⊢;rw [e2];have aju:(ml E it d y.1 n).2≤(je E l q y.2 (ml E it d y.1 n).2).2:=B9 l q y.2 _;obtain ⟨l1,xb,GQ,_,q2,q3⟩:=LB wX xM hM0 hE hK0 it (h.perm hp) hd1 (λid cQ=>hi id (by simp [ah.bC,cQ])) hk hz hr1 GK (λb hb=>hM b (by simp [hb])) (λB o m hm=>hP B o m (by simp [hm])) (λid p1 p2=>iI id p1 (by omega));obtain ⟨l2,μ2,fp2,_,p2,p3⟩:=Am wX xM hM0 hE hK0 l q2 hd (λid cQ=>hi id (by simp [ah.bC,cQ])) (λid cQ=>⟨.inl (hk id cQ).1,(q3 id (hk id cQ).1).trans (hk id cQ).2⟩) hz2 hr hb (λb hb=>hM b (by simp [hb]))
    (λB o m hm=>hP B o m (by simp [hm])) (λid p1 p2 p3=>p3.elim (iI id (by omega) p2) (by omega))
   refine ⟨by omega,μ2,fp2,trivial, ?_,λid cQ=>(p3 id (.inl cQ)).trans (q3 id cQ)⟩;rw [jo,dn];refine p2.weaken λid cQ=> ?_;rcases cQ with (cQ|cQ)|cQ
   . exact .inl cQ
   . right;omega
   . right;omega
end
end
section
open Go
variable {z:Fz}
theorem xP:∀ {g:List (Nat×Nat×Nat)},(g.map (·.1)).Nodup→∀ {B:Nat} {x y:Nat×Nat},(B,x)∈g→(B,y)∈g→x=y
 |[],_,_,_,_,h,_=>by cases h
 |a::g,hn,B,x,y,h1,h2=>by
  simp only [acd,acu] at hn;rcases abF.1 h1 with e1|h1
  . rcases abF.1 h2 with e2|h2
    . rw [← e1] at e2;cases e2;rfl
    . exact absurd (List.mem_map.2 ⟨_,h2,by rw [← e1]⟩) hn.1
  . rcases abF.1 h2 with e2|h2
    . exact absurd (List.mem_map.2 ⟨_,h1,by rw [← e2]⟩) hn.1
    . exact xP hn.2 h1 h2
theorem Qn {c:Ctx} {μ:Nat→Loc} {vs:List Value} {ds:List ah} (h:ai c μ vs ds):an c μ (GB vs) (TO ds):=by
 match ds,h with
 |[],h=>simp only [ai] at h;subst h;simp only [GB,TO,an];exact ⟨_,rfl,by simp [ai]⟩
 |[d],h=>
  simp only [ai] at h;obtain ⟨v,aZ,rfl,h1,rfl⟩:=h;exact h1
 |d1::d2::ds,h=>
  have h':=h;simp only [ai] at h;obtain ⟨v,aZ,rfl,_,v2,QL,rfl,_,_⟩:=h;simp only [GB,TO,an];exact ⟨_,rfl,h'⟩
theorem GD {C C':Array Value} (h:∀ j:Nat,C'[j]? =C[j]?):C'=C:=by
 apply Array.ext_getElem?;exact h
theorem pL {S:Nat→Prop} {w:World}:(l:List Item)→{vs:List Value}→{x:au l}→{f:List Nat}→{g:List (Nat×Nat×Nat)}→aU S w l vs x f g→∀ B o m,(B,o,m)∈g→∃ C T,w.heap[B]? =some (.cells C T (0,0))
 |[],_,_,_,_,h=>by simp only [aU] at h;obtain ⟨_,rfl,rfl⟩:=h;simp
 |it::r,_,_,_,_,h=>by
  simp only [aU] at h;obtain ⟨v,aZ,f1,f2,g1,g2,rfl,rfl,rfl,h1,h⟩:=h;intro B o m hm;rcases abp.1 hm with hm|hm
  . obtain ⟨p,a,cs⟩:=it
    cases p with
    |false=>simp only [cC] at h1;rw [h1.1] at hm;cases hm
    |true=>
     simp only [cC] at h1;obtain ⟨B',o',C,T,rfl,_,hb,_⟩:=h1;simp only [acq,Prod.mk.injEq] at hm;obtain ⟨rfl,_,_⟩:=hm;exact ⟨C,T,hb⟩
  . exact pL r h B o m hm
theorem fB {w:World}:(l:List Cm)→{vs:List Value}→{y:n8 l}→{f:List Nat}→aS z w l vs y f→∀ b∈f,b<w.heap.size
 |[],_,_,_,h=>by simp only [aS] at h;rw [h.2];simp
 | .b::r,_,_,_,h=>by simp only [aS] at h;obtain ⟨_,aZ,rfl,h⟩:=h;exact fB r h
 | .i _::r,_,_,_,h=>by simp only [aS] at h;obtain ⟨_,aZ,rfl,h⟩:=h;exact fB r h
 | .s::r,_,_,_,h=>by simp only [aS] at h;obtain ⟨_,aZ,rfl,h⟩:=h;exact fB r h
 | .e::r,_,_,_,h=>by simp only [aS] at h;obtain ⟨_,aZ,rfl,h⟩:=h;exact fB r h
 | .k::r,_,_,_,h=>by simp only [aS] at h;obtain ⟨_,aZ,rfl,h⟩:=h;exact fB r h
 | .ro e::r,_,_,_,h=>by simp only [aS] at h;obtain ⟨_,aZ,rfl,h⟩:=h;exact fB r h
 | .own e::r,_,_,_,h=>by simp only [aS] at h;obtain ⟨_,aZ,rfl,h⟩:=h;exact fB r h
 | .mut e::r,_,_,_,h=>by
   simp only [aS] at h;obtain ⟨_,aZ,f1,f2,rfl,rfl,h1,h⟩:=h;intro b hb;rcases abp.1 hb with hb|hb
   . exact Ty.gS _ h1 b hb
   . exact fB r h b hb
theorem fC {w:World}:(l:List Cm)→{os vs:List Value}→{y:kF l}→{f:List Nat}→aV z w l os vs y f→∀ b∈f,b<w.heap.size
 |[],_,_,_,_,h=>by simp only [aV] at h;rw [h.2.2];simp
 | .b::r,_,_,_,_,h=>by simp only [aV] at h;obtain ⟨_,_,aZ,rfl,rfl,h⟩:=h;exact fC r h
 | .i _::r,_,_,_,_,h=>by simp only [aV] at h;obtain ⟨_,_,aZ,rfl,rfl,h⟩:=h;exact fC r h
 | .s::r,_,_,_,_,h=>by simp only [aV] at h;obtain ⟨_,_,aZ,rfl,rfl,_,h⟩:=h;exact fC r h
 | .e::r,_,_,_,_,h=>by simp only [aV] at h;obtain ⟨_,_,_,aZ,rfl,rfl,_,h⟩:=h;exact fC r h
 | .k::r,_,_,_,_,h=>by simp only [aV] at h;obtain ⟨_,_,aZ,rfl,rfl,h⟩:=h;exact fC r h
 | .ro e::r,_,_,_,_,h=>by simp only [aV] at h;obtain ⟨_,_,aZ,rfl,rfl,h⟩:=h;exact fC r h
 | .own e::r,_,_,_,_,h=>by
   simp only [aV] at h;obtain ⟨_,_,_,aZ,f1,f2,rfl,rfl,rfl,h1,h⟩:=h;intro b hb;rcases abp.1 hb with hb|hb
   . exact Ty.gS _ h1 b hb
   . exact fC r h b hb
 | .mut e::r,_,_,_,_,h=>by
   simp only [aV] at h;obtain ⟨_,_,_,aZ,f1,f2,rfl,rfl,rfl,h1,h⟩:=h;intro b hb;rcases abp.1 hb with hb|hb
   . exact Ty.gS _ h1 b hb
   . exact fC r h b hb
theorem wP {w w':World}:(l:List Item)→{vs:List Value}→{y:gA l}→{f:List Nat}→dz z w w' l vs y f→∀ b∈f,b<w'.heap.size
 |[],_,_,_,h=>by simp only [dz] at h;rw [h.2];simp
 |it::r,_,_,_,h=>by
  simp only [dz] at h;obtain ⟨v,aZ,f1,f2,rfl,rfl,h1,h⟩:=h;intro b hb;rcases abp.1 hb with hb|hb
  . obtain ⟨p,a,cs⟩:=it
    cases p with
    |false=>exact fB cs h1 b hb
    |true=>obtain ⟨B,o,_,h1⟩:=h1;exact fC cs h1 b hb
  . exact wP r h b hb
theorem Ca (l:List Item):Lw (λ_=>true) l=true:=by
 unfold Lw;rw [abD];intro it _;rw [abD];intro x _;cases x<;>rfl
theorem dR {p:Ty→Bool} {z z':Fz} {w:World} (H:∀ (e:Ty),p e=true→∀ (cs:List Value) (x:List e.D) (f:List Nat),(Ty.sl e).ar z w cs x f→(Ty.sl e).ar z' w cs x f):
  (l:List Cm)→l.all (Eh p)=true→{vs:List Value}→{y:n8 l}→{f:List Nat}→aS z w l vs y f→aS z' w l vs y f
 |[],_,_,_,_,h=>by simp only [aS] at h ⊢; exact h
 | .b::r,hn,_,_,_,h=>by simp only [aS] at h ⊢; obtain ⟨a,aZ,e,h⟩:=h;exact ⟨a,aZ,e,dR H r (by simpa [Eh] using hn) h⟩
 | .i _::r,hn,_,_,_,h=>by simp only [aS] at h ⊢; obtain ⟨a,aZ,e,h⟩:=h;exact ⟨a,aZ,e,dR H r (by simpa [Eh] using hn) h⟩
 | .s::r,hn,_,_,_,h=>by simp only [aS] at h ⊢; obtain ⟨a,aZ,e,h⟩:=h;exact ⟨a,aZ,e,dR H r (by simpa [Eh] using hn) h⟩
 | .e::r,hn,_,_,_,h=>by simp only [aS] at h ⊢; obtain ⟨a,aZ,e,h⟩:=h;exact ⟨a,aZ,e,dR H r (by simpa [Eh] using hn) h⟩
 | .k::r,hn,_,_,_,h=>by simp only [aS] at h ⊢; obtain ⟨a,aZ,e,h⟩:=h;exact ⟨a,aZ,e,dR H r (by simpa [Eh] using hn) h⟩
 | .ro _::r,hn,_,_,_,h=>by simp only [aS] at h ⊢; obtain ⟨a,aZ,e,h⟩:=h;exact ⟨a,aZ,e,dR H r (by simpa [Eh] using hn) h⟩
 | .own _::r,hn,_,_,_,h=>by
   simp only [ack,aa4] at hn;simp only [aS] at h ⊢; obtain ⟨a,aZ,e,h⟩:=h;exact ⟨a,aZ,e,dR H r hn.2 h⟩
 | .mut e::r,hn,_,_,_,h=>by
   simp only [ack,aa4,Eh] at hn;simp only [aS] at h ⊢;obtain ⟨a,aZ,f1,f2,e1,e2,h1,h⟩:=h;exact ⟨a,aZ,f1,f2,e1,e2,H e hn.1 _ _ _ h1,dR H r hn.2 h⟩
theorem dS {p:Ty→Bool} {z z':Fz} {w:World} (H:∀ (e:Ty),p e=true→∀ (cs:List Value) (x:List e.D) (f:List Nat),(Ty.sl e).ar z w cs x f→(Ty.sl e).ar z' w cs x f):
  (l:List Cm)→l.all (Eh p)=true→{os vs:List Value}→{y:kF l}→{f:List Nat}→aV z w l os vs y f→aV z' w l os vs y f
 |[],_,_,_,_,_,h=>by simp only [aV] at h ⊢; exact h
 | .b::r,hn,_,_,_,_,h=>by simp only [aV] at h ⊢; obtain ⟨a,b,aZ,e1,e2,h⟩:=h;exact ⟨a,b,aZ,e1,e2,dS H r (by simpa [Eh] using hn) h⟩
 | .i _::r,hn,_,_,_,_,h=>by simp only [aV] at h ⊢; obtain ⟨a,b,aZ,e1,e2,h⟩:=h;exact ⟨a,b,aZ,e1,e2,dS H r (by simpa [Eh] using hn) h⟩
 | .s::r,hn,_,_,_,_,h=>by simp only [aV] at h ⊢; obtain ⟨a,b,aZ,e1,e2,e3,h⟩:=h;exact ⟨a,b,aZ,e1,e2,e3,dS H r (by simpa [Eh] using hn) h⟩
 | .e::r,hn,_,_,_,_,h=>by simp only [aV] at h ⊢; obtain ⟨a,b,v,aZ,e1,e2,e3,h⟩:=h;exact ⟨a,b,v,aZ,e1,e2,e3,dS H r (by simpa [Eh] using hn) h⟩
 | .k::r,hn,_,_,_,_,h=>by simp only [aV] at h ⊢; obtain ⟨a,b,aZ,e1,e2,h⟩:=h;exact ⟨a,b,aZ,e1,e2,dS H r (by simpa [Eh] using hn) h⟩
 | .ro _::r,hn,_,_,_,_,h=>by simp only [aV] at h ⊢; obtain ⟨a,b,aZ,e1,e2,h⟩:=h;exact ⟨a,b,aZ,e1,e2,dS H r (by simpa [Eh] using hn) h⟩
 | .own e::r,hn,_,_,_,_,h=>by
   simp only [ack,aa4,Eh] at hn;simp only [aV] at h ⊢;obtain ⟨a,b,v,aZ,f1,f2,e1,e2,e3,h1,h⟩:=h;exact ⟨a,b,v,aZ,f1,f2,e1,e2,e3,H e hn.1 _ _ _ h1,dS H r hn.2 h⟩
 | .mut e::r,hn,_,_,_,_,h=>by
   simp only [ack,aa4,Eh] at hn;simp only [aV] at h ⊢;obtain ⟨a,b,v,aZ,f1,f2,e1,e2,e3,h1,h⟩:=h;exact ⟨a,b,v,aZ,f1,f2,e1,e2,e3,H e hn.1 _ _ _ h1,dS H r hn.2 h⟩
theorem kc {p:Ty→Bool} {z z':Fz} {w w':World} (H:∀ (e:Ty),p e=true→∀ (cs:List Value) (x:List e.D) (f:List Nat),(Ty.sl e).ar z w' cs x f→(Ty.sl e).ar z' w' cs x f):
  (l:List Item)→Lw p l=true→{vs:List Value}→{y:gA l}→{f:List Nat}→dz z w w' l vs y f→dz z' w w' l vs y f
 |[],_,_,_,_,h=>by simp only [dz] at h ⊢; exact h
 |it::r,hn,_,_,_,h=>by
  have nv:it.cs.all (Eh p)=true∧Lw p r=true:=by simpa [Lw] using hn
  simp only [dz] at h ⊢;obtain ⟨v,aZ,f1,f2,e1,e2,h1,h⟩:=h;refine ⟨v,aZ,f1,f2,e1,e2, ?_,kc H r nv.2 h⟩;obtain ⟨q,a,cs⟩:=it;cases q with
  |false=>exact dR H cs nv.1 h1
  |true=>obtain ⟨B,o,e3,h1⟩:=h1;exact ⟨B,o,e3,dS H cs nv.1 h1⟩
theorem Qo {P:Program} {K:bZ} (hK:K.Ok P) {u:Nat×(Int→Int×Int)} (hu:K.vw=some u) {ds:List ah} {E:Env} {r:gY} (ho:(Qi E u.1 u.2 ds).eval=some r)
  (c:Ctx) (μ:Nat→Loc) (fp:Nat→List Nat) (s:kM) (w:World) (vs:List Value) (hv:cJ c μ fp s.v w) (ev:Ev c w) (uj:ai c μ vs ds)
  (hE:∀ id x,E id=some x→s.v id=some x):
  kE P K.f vs.toArray w λv' w'=>∃ c' μ' fp',Ext c c'∧DZ c' μ s r v' w' μ' fp':=by
 unfold bZ.Ok at hK;rw [hu] at hK;replace hK:∀ (ad:Option Addr) (len cap:Nat) (n:Int) (w:World),len≤cap→0≤(u.2 n).1→(u.2 n).1≤(u.2 n).2→(u.2 n).2≤(len:Int)→
  kE P K.f #[.slice ad len cap, .int .i64 n] w λv' w'=>v'= .slice (if cap=(u.2 n).1.toNat then ad else ad.map (·.add ((u.2 n).1.toNat*u.1))) ((u.2 n).2.toNat - (u.2 n).1.toNat) (cap - (u.2 n).1.toNat)∧w'=w:=hK
 unfold Qi at ho;split at ho
 . rename_i id n
   obtain ⟨m,hm,hr⟩:=aK ho;split at hr
   . rename_i ue
     rcases bX hr with ⟨h0,hr⟩|⟨_,hr⟩
     . have h0:=abJ h0
       rw [aT hr];obtain ⟨ad,len,cap,g1,g2,g3,g4⟩:=kO hv hE ue;simp only [ai,an] at uj;obtain ⟨v1,_,rfl,⟨ad',mY,jP,sz,q1,rfl⟩,v2,_,rfl,rfl,rfl⟩:=uj;rw [g1] at q1;cases q1;obtain rfl:len=m:=aa6 (g4.symm.trans hm);refine (hK ad len cap n w g2 h0.1 h0.2.1 h0.2.2).mono λv' w' ⟨LX,hw'⟩=> ?_;subst hw';refine ⟨c,μ,fp,Ext.refl c,⟨λ_ _=>rfl, ?_,hv,ev⟩⟩;rw [LX];simp only [an,acw];refine ⟨ad,len,cap,u.1,_,g1,by omega,g2,rfl, ?_⟩;by_cases Tv:cap=(u.2 n).1.toNat
       . left;omega
       . right
         obtain ⟨b,o',rfl⟩:=g3 (by omega);refine ⟨b,o',rfl, ?_⟩;rw [aa3 Tv];simp only [adu,Addr.add];split<;>simp_all
     . cases hr
   . cases hr
 . rename_i e xs tk n
   split at ho
   . rename_i ue
     rcases bX ho with ⟨h0,hr⟩|⟨_,hr⟩
     . have h0:=abJ h0
       rw [aT hr];simp only [ai,an] at uj;obtain ⟨v1,_,rfl,⟨dp,_⟩,v2,_,rfl,rfl,rfl⟩:=uj;have wX:∃ ad cap,v1= .slice ad xs.length cap∧xs.length≤cap∧(xs=[]∨∃ b o',ad=some ⟨b,o',none⟩):=by
        simp only [Ty.aN] at dp;obtain ⟨ad,cap,e1,hc,h3⟩:=dp;refine ⟨ad,cap,(List.cons.inj e1).1,hc.1, ?_⟩;rcases h3 with h3|⟨b,o',h3,_⟩
        . exact .inl h3
        . exact .inr ⟨b,o',h3⟩
       obtain ⟨ad,cap,rfl,hc,VB⟩:=wX;refine (hK ad xs.length cap n w hc h0.1 h0.2.1 h0.2.2).mono λv' w' ⟨LX,hw'⟩=> ?_;subst hw';refine ⟨c,μ,fp,Ext.refl c,⟨λ_ _=>rfl, ?_,hv,ev⟩⟩;rw [LX];simp only [an];refine ⟨?_,by simp⟩;by_cases xM:xs=[]
       . subst xM
         simp only [abA] at h0 ⊢;have e1:(u.2 n).2.toNat - (u.2 n).1.toNat=0:=by omega
         rw [e1];simp only [afO];simp only [Ty.aN];exact ⟨_,_,rfl,⟨ac0 _,ac0 _⟩, .inl rfl⟩
       . obtain ⟨b,o',rfl⟩:=VB.resolve_left xM
         refine zJ dp (by omega) ?_;by_cases Tv:cap=(u.2 n).1.toNat
         . left;omega
         . right;refine ⟨b,o',rfl, ?_⟩
           rw [aa3 Tv];simp only [adu,Addr.add,ue];split<;>simp_all
     . cases hr
   . cases ho
 . cases ho
theorem Qp {P:Program} {K:bZ} (hK:K.Ok P) (Kl:K.vw=none) {ds:List ah} {E:Env} {fr:Nat} {o:Out gY} {r:gY} (wQ:K.call ds E fr=some o) (ho:o.eval=some r)
  (c:Ctx) (μ:Nat→Loc) (fp:Nat→List Nat) (s:kM) (w:World) (vs:List Value) (_:c.P=P) (hv:cJ c μ fp s.v w) (Ct:om s) (ev:Ev c w) (uj:ai c μ vs ds) (zN:∀ id∈ah.bC ds,s.k id)
  (hE:∀ id x,E id=some x→s.v id=some x) (iI:∀ id,fr≤id→id<fr+64→¬ s.k id):
  kE P K.f vs.toArray w λv' w'=>∃ c' μ' fp',Ext c c'∧DZ c' μ s r v' w' μ' fp':=by
 unfold bZ.Ok at hK;rw [Kl] at hK;unfold bZ.call at wQ;obtain ⟨is,his,wQ⟩:=Option.bind_eq_some_iff.1 wQ;obtain ⟨x,hx,wQ⟩:=Option.bind_eq_some_iff.1 wQ;split at wQ
 case isFalse=>cases wQ
 rename_i hc;obtain ⟨oS,Kg⟩:=hc;obtain rfl:=aa6 wQ;obtain ⟨y,hy,hr⟩:=cI ho;obtain ⟨rP,hiv,rfl,fq⟩:=wc K.lay his uj;have afZ:∀ id∈ah.bC is,s.k id:=λid hi=>zN id (fq id hi);have hn:=lJ _ oS
 -- what is lent
 generalize B7:Gy K E is=EL at hx Kg;have af0:∀ id x,EL id=some x→s.v id=some x:=by
  intro id z hz;rw [← B7] at hz;unfold Gy at hz;by_cases hl:K.lend=true
  . rw [aa5 hl] at hz
    cases h0:lO E E K.aJ is with
    |none=>rw [h0] at hz;cases hz
    |some q=>
     rw [h0] at hz;replace hz:(if q.2.contains id=true then none else E id)=some z:=hz;split at hz
     . cases hz
     . exact hE id z hz
  . rw [aa3 hl] at hz
    cases hz
 have af1:K.lend=false→∀ id,EL id=none:=by
  intro hl id;rw [← B7];unfold Gy;rw [aa3 (by simp [hl])];rfl
 have Ih:∀ id∈x.2,EL id=none:=by
  intro id hi;rcases Kg with hl|⟨_,hl⟩
  . exact af1 hl id
  . have:=abD.1 hl id hi
    cases he:EL id with
    |none=>rfl
    |some z=>rw [he] at this;cases this
 let S':Nat→Prop:=λb=>c.S b∨∃ id,EL id≠none∧b∈fp id
 have hvn:∀ id,EL id≠none→s.v id≠none:=λid hi=>by
  obtain ⟨z,hz⟩:=Option.ne_none_iff_exists'.1 hi;rw [af0 id z hz];simp
 have r8:Dd S' w:=by
  refine ⟨?_,c.hS.2.mono (λb hb=> .inl hb) ev.S⟩
  rintro b (hb|⟨id,hi,hb⟩)
  . exact aci (c.hS.1 b hb) ev.size
  . exact hv.lt id (hvn id hi) b hb
 obtain ⟨f,g,dp,hg⟩:=sn hv ev hE af0 (S':=S') (λb hb=> .inl hb) (λid hi b hb=> .inr ⟨id,hi,hb⟩) K.aJ hiv hx hn;have tZ:∀ b∈f++g.map (·.1),∀ id,s.v id≠none→id ∉ x.2→b ∉ fp id:=by
  intro b hb id hi VF b8;obtain ⟨i,him,hm⟩:=hg.mem b hb;exact hv.sep i id (λe=>VF (e ▸ him)) (hg.there i him).1 hi b hm b8
 have VN:∀ b∈f++g.map (·.1),¬ S' b:=by
  rintro b hb (hs|⟨id,hi,hm⟩)
  . obtain ⟨i,him,hm⟩:=hg.mem b hb
    exact hv.iQ i (hg.there i him).1 b hm hs
  . refine tZ b hb id (hvn id hi) (λhim=>hi (Ih id him)) hm
 have bS:=mm K.aJ dp;refine (hK x.1 y hy S' w r8 rP f g dp hg.nodup VN).mono λv' w' hd=> ?_;obtain ⟨⟨rvs,f1,g1,f2,rfl,⟨S2,_,Kr,hs3,hrs,hbk⟩,abB,Ao⟩,x4⟩:=hd;have pw:=x4.size;have pw:w.heap.size≤w'.heap.size:=pw;have hcw:c.w0.heap.size≤w.heap.size:=ev.size;have hgn:(g.map (·.1)).Nodup:=(aca.1 hg.nodup).2.1
 -- the memory
 have af2:Ev c w':=by
  refine ev.comp x4 rfl (λb hb=> .inl hb) λb j hb hm=> ?_;rcases hm with hm|⟨o,m,hm,h1,h2⟩
  . exact hg.may b hm hb j
  . have:=hg.TR b o m hm hb (j - o) (by omega)
    rwa [show o+(j - o)=j by omega] at this
 have tX:∀ id,s.v id≠none→id ∉ x.2→∀ b∈fp id,w'.heap[b]? =w.heap[b]? :=by
  intro id hi VF b hb;rcases x4.wH b (hv.lt id hi b hb) with e|⟨C,C',T,h1,h2,h3,h4⟩|⟨hm,_⟩
  . exact e
  . have h1:w.heap[b]? =some (.cells C T (0,0)):=h1
    have:C'=C:=GD λj=>h4 j λhm=>by
     rcases hm with hm|⟨o,m,hm,_,_⟩
     . exact tZ b (by simp [hm]) id hi VF hb
     . exact tZ b (abp.2 (.inr (List.mem_map.2 ⟨_,hm,rfl⟩))) id hi VF hb
    rw [h2,h1,this]
  . rcases hm with hm|⟨o,m,hm,_,_⟩
    . exact absurd (by simp [hm]) λq=>tZ b q id hi VF hb
    . exact absurd (abp.2 (.inr (List.mem_map.2 ⟨_,hm,rfl⟩))) λq=>tZ b q id hi VF hb
 have TT:Is w w' g:=by
  intro B o m hm;have hB:B∈f++g.map (·.1):=abp.2 (.inr (List.mem_map.2 ⟨_,hm,rfl⟩));obtain ⟨C0,T0,hC0⟩:=pL K.aJ dp B o m hm;rcases x4.wH B (bS B hB) with e|⟨C,C',T,h1,h2,h3,h4⟩|⟨_,_,_,_,h1,_⟩
  . have e:w'.heap[B]? =w.heap[B]? :=e
    exact ⟨C0,C0,T0,hC0,by rw [e,hC0],rfl,λ_ _=>rfl⟩
  . refine ⟨C,C',T,h1,h2,h3,λj hj=>h4 j λoH=> ?_⟩
    rcases oH with oH|⟨o',m',oH,q1,q2⟩
    . exact (aca.1 hg.nodup).2.2 B oH B (List.mem_map.2 ⟨_,hm,rfl⟩) rfl
    . have:=xP hgn hm oH
      cases this;exact hj ⟨q1,q2⟩
  . have h1:w.heap[B]? =some (.stringIter _ _):=h1
    rw [hC0] at h1;cases h1
 -- the variables that are left
 let v0:Env:=cp s.v (x.2.map λk=>(k,none))
 have wX:∀ id,v0 id=if id∈x.2 then none else s.v id:=λid=>j0 s.v x.2 id
 have It:∀ id,v0 id≠none→id ∉ x.2∧s.v id≠none:=by
  intro id hi;rw [wX] at hi;split at hi
  . exact absurd rfl hi
  . exact ⟨‹_›, hi⟩
 have VO:cJ c μ fp v0 w':=hv.less (λid=>by
  rw [wX];split
  . exact .inl rfl
  . exact .inr rfl) pw λid hi b hb=>tX id (It id hi).2 (It id hi).1 b hb
 have oq:(f1++g1.map (·.1)++(f2++g.map (·.1))).Perm (f2++g.map (·.1)++(f1++g1.map (·.1)++[])):=by
  rw [acG];exact List.perm_append_comm
 have ajy:=mm K.rs hrs;have jN:∀ b∈f2++g.map (·.1)++(f1++g1.map (·.1)++[]),(b∈f++g.map (·.1))∨w.heap.size≤b:=by
  intro b hb;simp only [acG,abp] at hb;rcases hb with (hb|hb)|hb
  . exact (Ao b (by simp [hb])).imp (λh=>by simp [h]) id
  . left;simp only [abp];exact .inr hb
  . exact (Ao b (by simp only [abp];exact .inl hb)).imp (λh=>by simp [h]) id
 -- the context from here on
 let Sn:Nat→Prop:=λb=>c.S b∨(K.lend=false∧S2 b)
 have af3:∀ b,Sn b→c.S b∨w.heap.size≤b∨b∈f:=by
  rintro b (hb|⟨hl,hb⟩)
  . exact .inl hb
  . rcases (Kr b hb).1 with (h|⟨id,hi,_⟩)|h
    . exact .inl h
    . exact absurd (af1 hl id) hi
    . exact .inr h
 have hSn:Dd Sn w':=by
  refine ⟨?_,c.hS.2.mono (λb hb=> .inl hb) af2.S⟩
  rintro b (hb|⟨_,hb⟩)
  . have:=c.hS.1 b hb;omega
  . exact (Kr b hb).2
 have Gj:Ext c (c.next w' Sn hSn):=Ext.next af2 (λb hb=> .inl hb) λb hb=>by
  rcases af3 b hb with h|h|h
  . exact .inl h
  . exact .inr (.inl (abG hcw h))
  . rcases acH b c.w0.heap.size with ox|GP
    . exact .inr (.inr (hg.may b h ox))
    . exact .inr (.inl GP)
 have Cb:gQ (c.next w' Sn hSn) s.k μ fp v0 w' (f2++g.map (·.1)++(f1++g1.map (·.1)++[])):=by
  refine ⟨VO.next Gj λid hi b hb hs=> ?_,λid z hz=> ?_,oq.nodup_iff.1 abB,λid hi b hb b8=> ?_,λb hb=> ?_⟩
  . rcases af3 b hs with h|h|h
    . exact VO.iQ id hi b hb h
    . have:=hv.lt id (It id hi).2 b hb;omega
    . exact tZ b (abp.2 (.inl h)) id (It id hi).2 (It id hi).1 hb
  . have Br:s.v id=some z:=by
     have:=It id (by rw [hz];simp);rw [wX,aa3 this.1] at hz;exact hz
    exact Ct.v id z Br
  . obtain ⟨h1,h2⟩:=It id hi
    rcases jN b b8 with h|h
    . exact tZ b h id h2 h1 hb
    . have:=hv.lt id h2 b hb;omega
  . constructor
    . rintro (hs|⟨_,hs⟩)
      . rcases jN b hb with h|h
        . exact VN b h (.inl hs)
        . have:=c.hS.1 b hs;omega
      . exact hs3 b (oq.mem_iff.2 hb) hs
    . simp only [acG,abp] at hb
      rcases hb with (hb|hb)|hb
      . exact wP K.aJ hbk b hb
      . exact aci (bS b (by simp only [abp];exact .inr hb)) pw
      . exact ajy b (by simpa only [abp] using hb)
 have hMf:∀ b,(b∈f∨w.heap.size≤b)→b<c.w0.heap.size→∀ j,c.M b j:=by
  intro b hb ox j;rcases hb with hb|hb
  . exact hg.may b hb ox j
  . omega
 have hMn:∀ b,(b∈f∨w.heap.size≤b)→∀ j,(c.next w' Sn hSn).M b j:=by
  intro b hb j;rcases acH b c.w0.heap.size with bS|GP
  . exact .inl (hMf b hb bS j)
  . exact .inr GP
 -- what comes back, and what is new
 unfold after at hr;simp only at hr;split at hr
 case isFalse=>cases hr
 rename_i V6;obtain rfl:=aa6 hr;rw [B6] at V6;have hle:=uB K.rs (je E K.aJ is y.2 fr).2;replace hbk:dz (c.next w' Sn hSn).fz w w' K.aJ rP y.2 f2:=by
  rcases Kg with hl|⟨hl,_⟩
  . exact kc (p:=λ_=>true) (λe _ _ _ _ h=>Ty.cZ (show Fz.le ⟨S2,w'⟩ ⟨Sn,w'⟩ from λb hb=>⟨.inr ⟨hl,hb⟩,rfl⟩) _ h) K.aJ (Ca K.aJ) hbk
  . exact kc (p:=Ty.ph) (λe he _ _ _ h=>Ty.jr (.sl e) he h) K.aJ hl.2 hbk
 obtain ⟨aju,xb,GQ,_,hp1,ha1⟩:=Am hv.rel (λds _ hr=>ai.ext Gj ds hr) (λb j hb _=>by
  rcases acH b c.w0.heap.size with ox|GP
  . exact .inl (hb ox)
  . exact .inr GP) hE Ct.v K.aJ Cb (ai.ext Gj _ hiv) afZ (λid hi=>⟨hi,rfl⟩) hx dp hbk (λb hb _=>hMn b (Ao b (by simp [hb]))) TT
  (λid q1 q2=>iI id q1 (by omega))
 have ajA:aU Sn w' K.rs rvs y.1 f1 g1:=by
  rcases Kg with hl|⟨hl,_⟩
  . exact Al (λb hb=> .inr ⟨hl,hb⟩) K.rs hrs
  . exact ov K.rs hl.1 hrs
 obtain ⟨μ2,fp2,Lt,yb,ha2⟩:=pK false (λb hb=>⟨hb,rfl⟩) K.rs hp1 ajA (uC _ _ _) (λb hb _=>hMn b (Ao b (by simp [hb])))
  (λB o m hm _ j _=>hMn B (Ao B (by simp only [abp,List.mem_map];exact .inl (.inr ⟨_,hm,rfl⟩))) (o+j)) (n:=(je E K.aJ is y.2 fr).2)
  (λid q1 q2 q3=>q3.elim (iI id (by omega) (by omega)) (by omega))
 refine ⟨_,μ2,fp2,Gj,⟨λid hi=>(ha2 id (.inl hi)).trans (ha1 id hi),Qn Lt, ?_,Ev.start _⟩⟩;rw [dn,jo,dn];exact yb.rel
theorem xS {P:Program}:∀ (l:List bZ),(∀ K∈l,K.Ok P)→∀ {C:Cx},(C.call=Gz l)→iZ C P:=by
 intro l hl C hC f ds E fr r hr c μ fp s w vs hP hv Ct ev uj zN hE iI;rw [hC] at hr;clear hC
 induction l with
 |nil=>cases hr
 |cons K l ih=>
  simp only [Gz] at hr;split at hr
  . rename_i e;subst e
    split at hr
    . rename_i v e
      exact Qo (hl K (by simp)) e hr c μ fp s w vs hv ev uj hE
    . rename_i e0
      split at hr
      . rename_i o e
        exact Qp (hl K (by simp)) e0 e hr c μ fp s w vs hP hv Ct ev uj zN hE iI
      . exact ih (λK hK=>hl K (by simp [hK])) hr
  . exact ih (λK hK=>hl K (by simp [hK])) hr
end
section
open Go
variable {z:Fz}
mutual
def Ty.WF:(t:Ty)→t.D→Prop
 | .str,x=>List.length x≤aM
 | .sl e,xs=>List.length xs≤aM∧∀ (i:Nat) (y:e.D),nth (α:=e.D) xs i=some y→e.WF y
 | .fz e,xs=>List.length xs≤aM∧∀ (i:Nat) (y:e.D),nth (α:=e.D) xs i=some y→e.WF y
 | .st fs,x=>fs.WF x
 | .bool,_=>True
 | .int _,_=>True
 | .hole,_=>True
def aI.WF:(ts:aI)→ts.D→Prop
 | .nil,_=>True
 | .cons t ts,x=>t.WF x.1∧ts.WF x.2
end
mutual
theorem Ty.mn {S:Nat→Prop} {w:World}:(t:Ty)→{cs:List Value}→{x:t.D}→t.aN S w cs x→t.WF x
 | .bool,_,_,_=>by simp [Ty.WF]
 | .int _,_,_,_=>by simp [Ty.WF]
 | .str,_,_,h=>by simp only [Ty.aN] at h;simp only [Ty.WF];exact h.2
 | .hole,_,_,_=>by simp [Ty.WF]
 | .sl e,_,xs,h=>by
   simp only [Ty.aN] at h;obtain ⟨a,cap,_,hc,h⟩:=h;simp only [Ty.WF];refine ⟨hc.2,λi y hy=> ?_⟩;rcases h with h|⟨b,o,_,_,hi⟩
   . subst h;simp [nth] at hy
   . exact Ty.mn e (hi i y hy)
 | .fz e,_,xs,h=>by
   simp only [Ty.aN] at h;obtain ⟨a,cap,_,hc,h⟩:=h;simp only [Ty.WF];refine ⟨hc.2,λi y hy=> ?_⟩;rcases h with h|⟨b,o,_,_,hi⟩
   . subst h;simp [nth] at hy
   . exact Ty.mn e (hi i y hy)
 | .st fs,_,_,h=>by simp only [Ty.aN] at h;simp only [Ty.WF];exact aI.mn fs h
theorem aI.mn {S:Nat→Prop} {w:World}:(t:aI)→{cs:List Value}→{x:t.D}→t.aN S w cs x→t.WF x
 | .nil,_,_,_=>by simp [aI.WF]
 | .cons t ts,_,_,h=>by
   simp only [aI.aN] at h;obtain ⟨c1,c2,_,h1,h2⟩:=h;simp only [aI.WF];exact ⟨Ty.mn t h1,aI.mn ts h2⟩
end
mutual
theorem Ty.kQ {w:World}:(t:Ty)→{cs:List Value}→{x:t.D}→{f:List Nat}→t.ar z w cs x f→t.WF x
 | .bool,_,_,_,_=>by simp [Ty.WF]
 | .int _,_,_,_,_=>by simp [Ty.WF]
 | .str,_,_,_,h=>by simp only [Ty.ar] at h;simp only [Ty.WF];exact h.2.2
 | .hole,_,_,_,_=>by simp [Ty.WF]
 | .sl e,_,xs,_,h=>by
   simp only [Ty.ar] at h;obtain ⟨a,cap,_,hc,h⟩:=h;simp only [Ty.WF];refine ⟨hc.2,λi y hy=> ?_⟩;have bS:i<List.length xs:=(List.getElem?_eq_some_iff.1 hy).1;rcases h with ⟨h0,_⟩|⟨b,o,c,E,fps,_,_,_,hl,_,hi⟩
   . omega
   . exact Ty.kQ e (hi i y (fps[i]'(hl ▸ bS)) hy (aa2 _))
 | .fz e,_,_,_,h=>by simp only [Ty.ar] at h;exact Ty.mn (.fz e) h.1
 | .st fs,_,_,_,h=>by simp only [Ty.ar] at h;simp only [Ty.WF];exact aI.kQ fs h
theorem aI.kQ {w:World}:(t:aI)→{cs:List Value}→{x:t.D}→{f:List Nat}→t.ar z w cs x f→t.WF x
 | .nil,_,_,_,_=>by simp [aI.WF]
 | .cons t ts,_,_,_,h=>by
   simp only [aI.ar] at h;obtain ⟨c1,c2,f1,f2,_,_,h1,h2⟩:=h;simp only [aI.WF];exact ⟨Ty.kQ t h1,aI.kQ ts h2⟩
end
theorem kQ {w:World} {t:Ty} {cs:List Value} {x:t.D} {f:List Nat} (h:t.ar z w cs x f):t.WF x:=Ty.kQ t h
def Ap:(l:List Cm)→rA l→Prop
 |[],_=>True
 | .b::r,x=>Ap r x.2
 | .i _::r,x=>Ap r x.2
 | .s::r,x=>List.length x.1≤aM∧Ap r x.2
 | .e::r,x=>Ap r x.2
 | .k::r,x=>Ap r x
 | .ro e::r,x=>(Ty.sl e).WF x.1∧Ap r x.2
 | .own e::r,x=>(Ty.sl e).WF x.1∧Ap r x.2
 | .mut e::r,x=>(Ty.sl e).WF x.1∧Ap r x.2
def aD:(l:List Item)→au l→Prop
 |[],_=>True
 |it::r,x=>Ap it.cs x.1∧aD r x.2
theorem iV {S:Nat→Prop} {w:World}:(l:List Cm)→{vs:List Value}→{x:rA l}→{f:List Nat}→aQ S w l vs x f→Ap l x
 |[],_,_,_,_=>by simp [Ap]
 | .b::r,_,_,_,h=>by simp only [aQ] at h;obtain ⟨aZ,rfl,h⟩:=h;exact iV r h
 | .i _::r,_,_,_,h=>by simp only [aQ] at h;obtain ⟨aZ,rfl,h⟩:=h;exact iV r h
 | .s::r,_,_,_,h=>by simp only [aQ] at h;obtain ⟨aZ,rfl,hl,h⟩:=h;exact ⟨hl,iV r h⟩
 | .e::r,_,_,_,h=>by simp only [aQ] at h;obtain ⟨_,aZ,rfl,hl,h⟩:=h;exact iV r h
 | .k::r,_,_,_,h=>by simp only [aQ] at h;obtain ⟨_,aZ,rfl,hl,h⟩:=h;exact iV r h
 | .ro e::r,_,_,_,h=>by simp only [aQ] at h;obtain ⟨v,aZ,rfl,h1,h⟩:=h;exact ⟨Ty.mn _ h1,iV r h⟩
 | .own e::r,_,_,_,h=>by simp only [aQ] at h;obtain ⟨v,aZ,f1,f2,rfl,rfl,h1,h⟩:=h;exact ⟨kQ h1,iV r h⟩
 | .mut e::r,_,_,_,h=>by simp only [aQ] at h;obtain ⟨v,aZ,f1,f2,rfl,rfl,h1,h⟩:=h;exact ⟨kQ h1,iV r h⟩
theorem pM {S:Nat→Prop} {w:World}:(l:List Item)→{vs:List Value}→{x:au l}→{f:List Nat}→{g:List (Nat×Nat×Nat)}→aU S w l vs x f g→aD l x
 |[],_,_,_,_,_=>by simp [aD]
 |it::r,_,_,_,_,h=>by
  simp only [aU] at h;obtain ⟨v,aZ,f1,f2,g1,g2,rfl,rfl,rfl,h1,h⟩:=h;refine ⟨?_,pM r h⟩;obtain ⟨p,a,cs⟩:=it;cases p with
  |false=>simp only [cC] at h1;exact iV cs h1.2.1
  |true=>simp only [cC] at h1;obtain ⟨_,_,_,_,_,_,_,_,h1⟩:=h1;exact iV cs h1
theorem uD {c:Ctx} {μ:Nat→Loc}:(l:Km)→{vs:List Value}→{ds:List ah}→ai c μ vs ds→ai c μ (lp l vs) (wb l ds)
 |[],_,_,_=>by simp [lp,wb,ai]
 |none::l,vs,ds,h=>by
  cases ds with
  |nil=>simp only [ai] at h;subst h;exact uD l (by simp [ai])
  |cons d ds=>
   simp only [ai] at h;obtain ⟨v,aZ,rfl,h1,h2⟩:=h;simp only [lp,wb,ai];exact ⟨v,_,rfl,h1,uD l h2⟩
 |some (g,k)::l,vs,ds,h=>by
  simp only [lp,wb,ai,an];exact ⟨_,_,rfl,⟨_,rfl,h.take k⟩,uD l (h.drop k)⟩
theorem uE:(l:Km)→{ds:List ah}→∀ id∈ah.bC (wb l ds),id∈ah.bC ds
 |[],_=>by intro id h;cases h
 |none::l,[]=>λid h=>uE l id h
 |none::l,d::ds=>by
  intro id h;simp only [wb,ah.bC,abp] at h ⊢;exact h.imp (λh=>h) (uE l id)
 |some (g,k)::l,ds=>by
  intro id h;simp only [wb,ah.bC,ah.ids,abp] at h;rcases h with h|h
  . obtain ⟨d,hd,hi⟩:=gb.1 h
    exact gb.2 ⟨d,afn hd,hi⟩
  . obtain ⟨d,hd,hi⟩:=gb.1 (uE l id h)
    exact gb.2 ⟨d,afk hd,hi⟩
def we:List Cm→List Value→Nat→Nat→Value
 | .b::r,_::vs,n=>we r vs n
 | .i _::r,_::vs,n=>we r vs n
 | .s::r,_::vs,n=>we r vs n
 | .e::r,_::vs,n=>we r vs n
 | .k::r,v::vs,n=>λk=>if k=n then v else we r vs (n+1) k
 | .ro _::r,v::vs,n=>λk=>if k=n then v else we r vs (n+1) k
 | .own _::r,_::vs,n=>we r vs (n+1)
 | .mut _::r,_::vs,n=>we r vs (n+1)
 |_,_,_=>λ_=>Go.undef
def af4 (w:World):Item→Value→Nat→Nat→Value
 |⟨false,_,cs⟩,v,n=>we cs v.cells.toList n
 |⟨true,_,cs⟩, .pointer (some a),n=>we cs (aE w a.block a.off cs.length) (n+1)
 |⟨true,_,_⟩,_,_=>λ_=>Go.undef
def Aq (w:World):List Item→List Value→Nat→Nat→Value
 |it::r,v::vs,n=>λk=>if k<A2 it n then af4 w it v n k else Aq w r vs (A2 it n) k
 |_,_,_=>λ_=>Go.undef
theorem ke {c:Ctx} {tk:Bool}:(l:List Cm)→{vs:List Value}→{n:Nat}→(∀ k,n≤k→k<sj l n→c.tok k=we l vs n k)→gX c tk l vs n
 |[],_,_,_=>by simp [gX]
 | .b::r,[],_,_=>by simp [gX]
 | .i _::r,[],_,_=>by simp [gX]
 | .s::r,[],_,_=>by simp [gX]
 | .e::r,[],_,_=>by simp [gX]
 | .k::r,[],_,_=>by simp [gX]
 | .ro _::r,[],_,_=>by simp [gX]
 | .own _::r,[],_,_=>by simp [gX]
 | .mut _::r,[],_,_=>by simp [gX]
 | .b::r,_::vs,n,h=>ke r h
 | .i _::r,_::vs,n,h=>ke r h
 | .s::r,_::vs,n,h=>ke r h
 | .e::r,_::vs,n,h=>ke r h
 | .k::r,v::vs,n,h=>by
   have l1:=gg r (n+1);have h:∀ k,n≤k→k<sj r (n+1)→c.tok k=if k=n then v else we r vs (n+1) k:=h
   refine ⟨λ_=> ?_,ke r λk h1 h2=> ?_⟩
   . rw [h n (abE n) (by omega),aa5 rfl]
   . rw [h k (by omega) h2,aa3 (by omega)]
 | .ro _::r,v::vs,n,h=>by
   have l1:=gg r (n+1);have h:∀ k,n≤k→k<sj r (n+1)→c.tok k=if k=n then v else we r vs (n+1) k:=h
   refine ⟨λ_=> ?_,ke r λk h1 h2=> ?_⟩
   . rw [h n (abE n) (by omega),aa5 rfl]
   . rw [h k (by omega) h2,aa3 (by omega)]
 | .own _::r,_::vs,n,h=>ke r λk h1 h2=>h k (by omega) h2
 | .mut _::r,_::vs,n,h=>ke r λk h1 h2=>h k (by omega) h2
theorem wg {c:Ctx} {tk:Bool} {w:World}:(l:List Item)→{vs:List Value}→{n:Nat}→(∀ k,n≤k→k<mH l n→c.tok k=Aq w l vs n k)→lP c tk w l vs n
 |[],_,_,_=>by simp [lP]
 |it::r,[],_,_=>by simp [lP]
 |it::r,v::vs,n,h=>by
  have h:∀ k,n≤k→k<mH r (A2 it n)→c.tok k=if k<A2 it n then af4 w it v n k else Aq w r vs (A2 it n) k:=h
  have l1:=Ei it n;have l2:=uB r (A2 it n);refine ⟨?_,wg r λk h1 h2=> ?_⟩
  . obtain ⟨p,a,cs⟩:=it
    cases p with
    |false=>
     refine ke cs λk h1 h2=> ?_;have h2:k<A2 ⟨false,a,cs⟩ n:=h2;rw [h k h1 (by omega),aa5 h2];rfl
    |true=>
     intro B o e;subst e;refine ke cs λk h1 h2=> ?_;have h2:k<A2 ⟨true,a,cs⟩ n:=h2;rw [h k (by omega) (by omega),aa5 h2];rfl
  . rw [h k (by omega) h2,aa3 (by omega)]
def wh (tmps:Array Value):ResultVar→Sem Value
 | .tmp t=>pure (tmps.getD t Go.undef)
 | .cell a t=>do loadVar t (← asAddr (tmps.getD a Go.undef))
theorem Ej {fn:Func} {rl:List ResultVar} (h:fn.results=rl.toArray) (hl:rl.length≤6) {tmps:Array Value} {P:Program} {w:World} {Ek:List Value}
  (hv:rl.map (λr=>(wh tmps r).run P w)=Ek.map λv=> .ok v w):(results fn tmps).run P w= .ok (GB Ek) w:=by
 have he:results fn tmps=(do
   let vs ← fn.results.mapM (wh tmps)
   pure (if h:vs.size=1 then vs[0] else .tuple vs)):=by
  unfold results;congr 1
 rw [he,h];clear he h;rcases rl with _|⟨a,_|⟨b,_|⟨c,_|⟨d,_|⟨e,_|⟨f,_|⟨g,l⟩⟩⟩⟩⟩⟩⟩<;>rcases Ek with _|⟨u1,_|⟨u2,_|⟨u3,_|⟨u4,_|⟨u5,_|⟨u6,_|⟨u7,m⟩⟩⟩⟩⟩⟩⟩<;>
  first
   |(simp at hv;done)
   |(exfalso;simp only [aby] at hl;omega)
   |(simp at hv;simp [hv,GB];done)
   |simp [GB]
theorem Cc {c:Ctx} {C:Cx} (hC:iF C c.P) {μ:Nat→Loc} {fp:Nat→List Nat} {s:du} {n:Nat} {a:Act} {w:World} (h:il c μ fp s.f n a w):
  ∀ (rl:List ResultVar) {ds:List ah},Kf C s rl=some ds→∃ Ek,ai c μ Ek ds∧rl.map (λr=>(wh a.tmps r).run c.P w)=Ek.map λv=> .ok v w
 |[],ds,hd=>by
  cases hd;exact ⟨[],by simp [ai],rfl⟩
 |r::l,ds,hd=>by
  simp only [Kf] at hd;obtain ⟨d,h1,hd⟩:=Option.bind_eq_some_iff.1 hd;obtain ⟨q,h2,rfl⟩:=Option.map_eq_some_iff.1 hd;obtain ⟨Ek,g1,g2⟩:=Cc hC h l h2;have AH:∃ v,an c μ v d∧(wh a.tmps r).run c.P w= .ok v w:=by
   cases r with
   |tmp j=>
    obtain rfl:=aa6 h1;exact ⟨_,h.tm j,by simp [wh]⟩
   |cell j t=>
    simp only [afX] at h1;split at h1
    case h_2=>cases h1
    rename_i id off hj;split at h1
    case h_2=>cases h1
    rename_i cs AB;obtain ⟨ty,ko,h1⟩:=Option.bind_eq_some_iff.1 h1;split at h1
    case isFalse=>cases h1
    rename_i hle;obtain rfl:=aa6 h1;have hv:=h.tm j;have hj:s.f.t j= .vptr id off:=hj;rw [hj] at hv;simp only [an] at hv;obtain ⟨B,o,e1,e2⟩:=hv;have AB:s.f.v id=some (.var cs):=kr AB;obtain ⟨B',o',D,T,e3,e4,e5,e6,e7,e8,_⟩:=h.vs.rel id _ AB;rw [e1] at e3;cases e3;have fq:aE w B (o+off) ty.size=((aE w B o cs.length).drop off).take ty.size:=im hle;have hr:ai c μ (aE w B (o+off) ty.size) ((cs.drop off).take ty.size):=by rw [fq];exact (e7.drop off).take ty.size
    have hlen:((cs.drop off).take ty.size).length=ty.size:=by simp;omega
    refine ⟨_,kY hr hlen, ?_⟩;simp only [wh,e2];have:=wJ (w:=w) (hC.ty t ty ko) (B:=B) (o':=o+off) rfl (hr.length.trans hlen);simpa [asAddr] using this
  obtain ⟨v,hv,gP⟩:=AH;exact ⟨v::Ek,by simp only [ai];exact ⟨v,Ek,rfl,hv,g1⟩,by simp only [acd,gP,g2]⟩
theorem wR (tk:Bool):(l:List Item)→(x:au l)→(n:Nat)→∀ id∈ah.bC (dA tk l x n).1,n≤id∧id<mH l n
 |[],_,_=>by intro id h;cases h
 |it::r,x,n=>by
  intro id h;have h:id∈(j1 tk it x.1 n).1.ids++ah.bC (dA tk r x.2 (j1 tk it x.1 n).2.2).1:=h;rw [pJ] at h;have l1:=Ei it n;have l2:=uB r (A2 it n);simp only [mH];rcases abp.1 h with h|h
  . have:=Ai tk it x.1 n id h;omega
  . have:=wR tk r x.2 _ id h;omega
theorem af5 {S:Nat→Prop} {w:World}:(l:List Item)→{vs:List Value}→{x:au l}→{f:List Nat}→{g:List (Nat×Nat×Nat)}→(l.all λit=>decide (0<it.cs.length))=true→aU S w l vs x f g→∀ B o m,(B,o,m)∈g→0<m
 |[],_,_,_,_,_,h=>by simp only [aU] at h;obtain ⟨_,rfl,rfl⟩:=h;simp
 |it::r,_,_,_,_,hp,h=>by
  simp only [aU] at h;obtain ⟨v,aZ,f1,f2,g1,g2,rfl,rfl,rfl,h1,h⟩:=h;simp only [ack,aa4,abS] at hp;intro B o m hm;rcases abp.1 hm with hm|hm
  . obtain ⟨p,a,cs⟩:=it
    cases p with
    |false=>simp only [cC] at h1;rw [h1.1] at hm;cases hm
    |true=>
     simp only [cC] at h1;obtain ⟨B',o',C,T,rfl,_,hb,_⟩:=h1;simp only [acq,Prod.mk.injEq] at hm;obtain ⟨rfl,_,rfl⟩:=hm;exact hp.1
  . exact af5 r hp.2 h B o m hm
mutual
theorem an.lQ {c:Ctx} {l μ:Nat→Loc}:{v:Value}→(d:ah)→an c μ v d→an { c with loc:=l } μ v d
 |_, .dead,h=>h
 |_, .jj,h=>h
 |_, .undef,h=>h
 |_, .b _,h=>h
 |_, .i _ _,h=>h
 |_, .s _,h=>h
 |_, .ro _ _ _,h=>h
 |_, .mD,h=>h
 |_, .cB id none,h=>h
 |_, .cB id (some (o,l)),h=>h
 |_, .vptr id off,h=>h
 |_, .jv id i off,h=>h
 |_, .AA _ _ _,h=>h
 |_, .er _,h=>h
 |_, .kp _,h=>h
 |_, .agg ds,h=>by simp only [an] at h ⊢; obtain ⟨vs,e,h⟩:=h;exact ⟨vs,e,ai.lQ ds h⟩
 |_, .FQ ds,h=>by simp only [an] at h ⊢; obtain ⟨vs,e,h⟩:=h;exact ⟨vs,e,ai.lQ ds h⟩
 |_, .fn f ds,h=>by simp only [an] at h ⊢; obtain ⟨vs,e,h⟩:=h;exact ⟨vs,e,ai.lQ ds h⟩
theorem ai.lQ {c:Ctx} {l μ:Nat→Loc}:{vs:List Value}→(ds:List ah)→ai c μ vs ds→ai { c with loc:=l } μ vs ds
 |_,[],h=>h
 |_,d::ds,h=>by
  simp only [ai] at h ⊢; obtain ⟨v,aZ,e,h1,h2⟩:=h;exact ⟨v,aZ,e,an.lQ d h1,ai.lQ ds h2⟩
end
theorem cJ.lQ {c:Ctx} {l μ:Nat→Loc} {fp:Nat→List Nat} {v:Env} {w:World} (h:cJ c μ fp v w):cJ { c with loc:=l } μ fp v w:=by
 refine ⟨λid x hx=> ?_,h.nodup,h.sep,h.iQ,h.lt⟩;have:=h.rel id x hx;cases x with
 |var cs=>
  obtain ⟨B,o,C,E,h1,h2,h3,h4,h5,h6,h7⟩:=this;exact ⟨B,o,C,E,h1,h2,h3,h4,ai.lQ cs h5,h6,h7⟩
 |arr e xs=>exact this
 |zv e xs x i off u dC=>exact this
 |cut e ys k=>exact this
 |tP e xs i cs=>
  obtain ⟨a,cap,b,o,C,E,p,q,h1,h2,h3,h4,h5,h6,h7,h8,h9,RR⟩:=this;exact ⟨a,cap,b,o,C,E,p,q,h1,h2,h3,h4,h5,h6,h7,h8,ai.lQ cs h9,RR⟩
 |it _ _=>exact this
structure L0 (P:Program) (C:Cx) (K:bZ) (fn:Func) (code:Code) (rtm:List ResultVar) (A:Nat→Option aq):Prop where
 func:P.funcs[K.f]? =some fn
 body:fn.body=some code
 name:(fn.name== "runtime.NumGoroutine")=false
 res:fn.results=rtm.toArray
 few:rtm.length≤6
 mr:mH K.aJ 0≤64
 pos:(K.rs.all λit=>decide (0<it.cs.length))=true
 run:∀ x y,aD K.aJ x→(K.F x).eval=some y→(Cl C A code K.aJ K.lay fn.ntmps K.rs rtm x).eval=some y
structure TU (P:Program) (C:Cx) (K:bZ) (fn:Func) (code:Code) (rtm:List ResultVar):Prop where
 func:P.funcs[K.f]? =some fn
 body:fn.body=some code
 name:(fn.name== "runtime.NumGoroutine")=false
 res:fn.results=rtm.toArray
 few:rtm.length≤6
 mr:mH K.aJ 0≤64
 pos:(K.rs.all λit=>decide (0<it.cs.length))=true
 run:∀ x y,aD K.aJ x→(K.F x).eval=some y→∀ (c:Ctx) (n:Nat) (a:Act) (w:World),c.P=P→gW c n (entry K.aJ K.lay fn.ntmps x) a w→
  code.wp P (λe a' w'=>∃ ex s',e=Qf ex∧gW c n s' a' w'∧(∀ m,ex≠ .exit m)∧leave C K.aJ K.rs rtm s'=some y) a w
theorem Ar {P:Program} {C:Cx} {K:bZ} {fn:Func} {code:Code} {rtm:List ResultVar} (hC:iF C P) (h:TU P C K fn code rtm) (Kl:K.vw=none:=by rfl):K.Ok P:=by
 unfold bZ.Ok;rw [Kl];intro x y hy S w hS rP f g dp oS EY;refine ⟨⟨fn,h.func,h.name,by rw [h.body];rfl⟩,calls_of_wp h.func h.body ?_⟩;have ajB:∀ tok loc,Ev (oW P S w f g tok loc hS) w:=λtok loc=>⟨abE _,rfl,rfl,λ_ _=>rfl,λ_ _=> .inl rfl,λ_ _=>rfl⟩
 have bS:=mm K.aJ dp
 -- the variables at the start
 have hen:∃ μ fp,ai (oW P S w f g (Aq w K.aJ rP 0) μ hS) μ rP (dA true K.aJ x 0).1∧
   gQ (oW P S w f g (Aq w K.aJ rP 0) μ hS) (λid=>False∨(0≤id∧id<mH K.aJ 0)) μ fp (cp (λ_=>none) (news (dA true K.aJ x 0).2.1)) w []:=by
  let c0:=oW P S w f g (Aq w K.aJ rP 0) default hS
  have Cb:gQ c0 (λ_=>False) default (λ_=>[]) (λ_=>none) w (f++g.map (·.1)++[]):=by
   rw [acG];refine ⟨⟨by simp,by simp,by simp,by simp,by simp⟩,by simp,oS,by simp,λb hb=>⟨EY b hb,bS b hb⟩⟩
  obtain ⟨μ,fp,h1,h2,_⟩:=pK true (S:=S) (λb hb=>⟨hb,rfl⟩) K.aJ Cb dp (wg K.aJ λk _ _=>rfl) (λb hb _ j=> .inl hb)
   (λB o m hb _ j hj=> .inr ⟨o,m,hb,by omega,by omega⟩) (λ_ _ _ h=>h)
  refine ⟨μ,fp,ai.lQ (c:=c0) _ h1,⟨cJ.lQ (c:=c0) h2.rel,h2.known,h2.nodup,h2.far,h2.ok⟩⟩
 obtain ⟨μ,fp,uj,Cb⟩:=hen
 let c:=oW P S w f g (Aq w K.aJ rP 0) μ hS
 have zN:∀ id∈ah.bC (dA true K.aJ x 0).1,id<64:=λid hi=>aci (wR true K.aJ x 0 id hi).2 h.mr;have af7:=uD K.lay uj;have ue:(lp K.lay rP).length=(wb K.lay (dA true K.aJ x 0).1).length:=af7.length;have ab1:∀ id,id<64→id / 64∈[0]:=λid hi=>by rw [Nat.div_eq_of_lt hi];simp
 have ajC:∀ m,ai c μ (List.replicate m Go.undef) (List.replicate m .undef):=λm=>by
  induction m with
  |zero=>simp [ai]
  |succ m ih=>simp only [List.replicate_succ,ai];exact ⟨_,_,rfl,by simp [an],ih⟩
 let n:=(entry K.aJ K.lay fn.ntmps x).t.length
 have htm:ai c μ ((lp K.lay rP).toArray++Array.replicate (fn.ntmps - (lp K.lay rP).toArray.size) Go.undef).toList (entry K.aJ K.lay fn.ntmps x).t:=by
  simp only [Array.toList_append,Array.toList_replicate,List.size_toArray];rw [ue];exact af7.append (ajC _)
 have hD:gW c n (entry K.aJ K.lay fn.ntmps x) { tmps:=(lp K.lay rP).toArray++Array.replicate (fn.ntmps - (lp K.lay rP).toArray.size) Go.undef,defers:=[] } w:=by
  refine ⟨⟨c,μ,fp,Ext.refl c, ?_, ?_,rfl, ?_,⟨?_, ?_⟩,ajB _ _,λid hi=>⟨ab1 id hi,rfl⟩⟩,λd b hf=>(by cases hf),rfl⟩
  . intro j
    show an c μ _ ((entry K.aJ K.lay fn.ntmps x).t.getD j .dead);rw [ach];cases hj:(entry K.aJ K.lay fn.ntmps x).t[j]? with
    |none=>simp [an]
    |some d=>
     obtain ⟨u,hu,hr⟩:=htm.get hj;rw [afb, ← acm,hu];exact hr
  . show (entry K.aJ K.lay fn.ntmps x).t.length≤Array.size _
    rw [← htm.length,Array.length_toList];exact abE _
  . show cJ c μ fp (bf (AN [] (news (dA true K.aJ x 0).2.1)++[])) w
    rw [acG,vU];exact Cb.rel
  . intro j id hi
    have hi:id∈((entry K.aJ K.lay fn.ntmps x).t.getD j .dead).ids:=hi;rw [ach] at hi;cases hj:(entry K.aJ K.lay fn.ntmps x).t[j]? with
    |none=>rw [hj] at hi;cases hi
    |some d=>
     rw [hj] at hi;have hm:=acx hj;simp only [entry,abp,List.mem_replicate] at hm;refine ab1 id (zN id (uE K.lay id ?_));rcases hm with hm|⟨_,rfl⟩
     . exact gb.2 ⟨d,hm,hi⟩
     . cases hi
  . intro id z hz
    have hz:bf (AN [] (news (dA true K.aJ x 0).2.1)++[]) id=some z:=hz;rw [acG,vU] at hz;have:=Cb.known id z hz;have hh:∀ i,(False∨0≤i∧i<mH K.aJ 0)→i / 64∈[0]:=λi hi=>ab1 i (by have:=h.mr;rcases hi with hi|hi;exact hi.elim;omega);exact ⟨hh id this.1,λi hi=>hh i (this.2 i hi)⟩
 -- the run
 refine wp_mono (h.run x y (pM K.aJ dp) hy c n _ w rfl hD) λe a' w' he=> ?_;obtain ⟨ex,s',rfl,he,dV,hlv⟩:=he;have uQ:a'.defers=[]∧∃ v,(results fn a'.tmps).run P w'= .ok v w'∧afY P S w hS K rP f g y v w':=by
  have hz:=hlv;obtain ⟨⟨c1,μ',fp',LY,hx⟩,_,_⟩:=he;have hP1:c1.P=P:=LY.P;unfold leave at hz;obtain ⟨dr,qQ,hz⟩:=Option.bind_eq_some_iff.1 hz;obtain ⟨rvs,ajD,VP⟩:=Cc (by rw [hP1];exact hC) hx rtm qQ;rw [hP1] at VP;refine ⟨hx.defers,_,Ej h.res h.few VP, ?_⟩;obtain ⟨q,hq,hz⟩:=Option.bind_eq_some_iff.1 hz;obtain ⟨p,hp,hz⟩:=Option.bind_eq_some_iff.1 hz;split at hz
  case isFalse=>cases hz
  rename_i BL;obtain ⟨hn,B7⟩:=BL;obtain rfl:=aa6 hz;have hn:=lJ _ hn;have Ew:=aca.1 hn;generalize hEq:Ah K.rs (bf s'.v) dr q.2=EL at hp B7;have ab2:∀ id z,EL id=some z→bf s'.v id=some z∧(∀ (c:Ctx) μ w f,cz c μ w id f z→∀ b∈f,b<c.w0.heap.size→∀ j,c.M b j):=by
   intro id z hz;rw [← hEq] at hz;unfold Ah at hz;split at hz
   case isFalse=>cases hz
   cases GR:lO (bf s'.v) (bf s'.v) K.rs dr with
   |none=>rw [GR] at hz;cases hz
   |some y2=>
    rw [GR] at hz;have hz:(match Af (bf s'.v) (y2.2++q.2) id with|some (.arr e xs)=>some (bK.arr e xs)|some (.zv e xs x i off u k)=>some (bK.zv e xs x i off u k)|some (.tP e xs i cs)=>some (bK.tP e xs i cs)|_=>none)=some z:=hz;cases xd:Af (bf s'.v) (y2.2++q.2) id with
    |none=>rw [xd] at hz;cases hz
    |some v=>
     rw [xd] at hz;cases v with
     |var _=>cases hz
     |zv _ _ _ _ _ _ _=>
      obtain rfl:=aa6 hz;unfold Af at xd;split at xd
      . cases xd
      . exact ⟨xd,λ_ _ _ _ h=>by obtain ⟨_,_,_,_,h,_⟩:=h;exact h⟩
     |tP _ _ _ _=>
      obtain rfl:=aa6 hz;unfold Af at xd;split at xd
      . cases xd
      . exact ⟨xd,λ_ _ _ _ h=>by obtain ⟨_,_,_,_,_,_,_,_,_,_,_,_,_,_,_,_,_,_,_,_,h⟩:=h;exact h⟩
     |cut _ _ _=>cases hz
     |it _ _=>cases hz
     |arr e xs=>
      obtain rfl:=aa6 hz;unfold Af at xd;split at xd
      . cases xd
      . exact ⟨xd,λ_ _ _ _ h=>by obtain ⟨_,_,_,_,h⟩:=h;exact h⟩
  have ab3:∀ id∈p.2++q.2,EL id=none:=by
   intro id hi;rcases B7 with hr|hr
   . rw [← hEq]
     unfold Ah;rw [aa3 (by simp [hr])];rfl
   . have:=abD.1 hr id hi
     cases he:EL id with
     |none=>rfl
     |some z=>rw [he] at this;cases this
  have hEn:∀ id,EL id≠none→s'.f.v id≠none:=λid hi=>by
   obtain ⟨z,hz⟩:=Option.ne_none_iff_exists'.1 hi;rw [show s'.f.v id=some z from kr (ab2 id z hz).1];simp
  let S2:Nat→Prop:=λb=>c1.S b∨∃ id,EL id≠none∧b∈fp' id
  obtain ⟨f1,g1,h1,h2⟩:=sn (EL:=EL) hx.vs hx.ev (λ_ _ h=>kr h) (λid z hz=>kr (ab2 id z hz).1) (S':=S2) (λ_ h=> .inl h) (λid hi b hb=> .inr ⟨id,hi,hb⟩) K.rs ajD hp Ew.1;have hag:∀ id,id<64→μ' id=μ id:=λid hi=>(hx.fix id hi).2.trans (congrFun LY.loc id);have ajE:ai c1 μ' rP (dA true K.aJ x 0).1:=ai.ext LY _ (ai.mono _ (λid hi=>hag id (zN id hi)) uj);obtain ⟨f2,h3,h4⟩:=Aj hx.vs (λ_ _ h=>kr h) K.aJ dp (wg K.aJ λk _ _=>congrFun LY.tok k) ajE hq Ew.2.1;have h5:=h2.toGoneB.append hx.vs h4 hn;have oq:(f1++f2++(g1++g).map (·.1)).Perm (f1++g1.map (·.1)++(f2++g.map (·.1))):=by rw [afz];exact sk _ _ _ _
  have Lj:=oq.nodup_iff.1 h5.nodup;have TD:w.heap.size≤c1.w0.heap.size:=LY.ev.size;refine ⟨⟨_,f1,g1,f2,rfl,⟨S2,λb hb=> .inl (LY.S b hb), ?_, ?_,h1,kc (p:=λ_=>true) (λe _ _ _ _ h=>Ty.cZ (show Fz.le c1.fz ⟨S2,_⟩ from λb hb=>⟨.inl hb,hx.ev.S b hb⟩) _ h) K.aJ (Ca K.aJ) h3⟩,Lj,λb hb=> ?_⟩, ?_⟩
  . rintro b (hb|⟨id,hi,hb⟩)
    . refine ⟨?_,aci (c1.hS.1 b hb) hx.ev.size⟩
      rcases LY.new b hb with q|q|q
      . exact .inl q
      . exact .inr (.inl q)
      . by_cases zO:b∈f
        . exact .inr (.inr zO)
        . exfalso
          have q:∀ j,b∈f∨∃ o m,(b,o,m)∈g∧o≤j∧j<o+m:=q;obtain ⟨o,m,hm,_,_⟩:=(q 0).resolve_left zO;obtain ⟨o',m',oH,_,h2⟩:=(q (o+m)).resolve_left zO;have:=xP (aca.1 oS).2.1 hm oH;cases this;omega
    . refine ⟨.inr ?_,hx.vs.lt id (hEn id hi) b hb⟩
      obtain ⟨z,hz⟩:=Option.ne_none_iff_exists'.1 hi;obtain ⟨hz1,hM⟩:=ab2 id z hz;have hM:=hM _ _ _ _ (hx.vs.rel id _ (kr hz1));rcases acH b w.heap.size with ox|GP
      . refine .inr ?_
        by_cases zO:b∈f
        . exact zO
        . exfalso
          have q:∀ j,b∈f∨∃ o m,(b,o,m)∈g∧o≤j∧j<o+m:=λj=>LY.M b j ox (hM b hb (aci ox TD) j);obtain ⟨o,m,hm,_,_⟩:=(q 0).resolve_left zO;obtain ⟨o',m',oH,_,h2⟩:=(q (o+m)).resolve_left zO;have:=xP (aca.1 oS).2.1 hm oH;cases this;omega
      . exact .inl GP
  . intro b hb hs
    obtain ⟨id,hi,hm⟩:=h5.mem b (oq.mem_iff.2 hb);have ht:=(h5.there id hi).1;rcases hs with hs|⟨dC,cQ,b8⟩
    . exact hx.vs.iQ id ht b hm hs
    . exact hx.vs.sep id dC (λe=>cQ (e ▸ ab3 id hi)) ht (hEn dC cQ) b hm b8
  . rcases acH b w.heap.size with ox|GP
    . left
      have ab4:b<c1.w0.heap.size:=aci ox TD;have hM:∀ j,c.M b j∨∃ o m,(b,o,m)∈g1:=by
       intro j;simp only [abp,List.mem_map] at hb;rcases hb with (hb|⟨⟨B,o,m⟩,hb,rfl⟩)|hb
       . exact .inl (LY.M b j ox (h2.may b hb ab4 j))
       . exact .inr ⟨o,m,hb⟩
       . exact .inl (LY.M b j ox (h4.may b hb ab4 j))
      have hng:b ∉ g.map (·.1):=λhg=>by
       simp only [aca] at Lj;simp only [abp] at hb;rcases hb with hb|hb
       . exact Lj.2.2 b (by simpa using hb) b (by simp only [abp];exact .inr hg) rfl
       . exact Lj.2.1.2.2 b hb b hg rfl
      have hnm:∀ j,c.M b j→b∈f:=λj hj=>by
       rcases hj with hj|⟨o,m,hj,_⟩
       . exact hj
       . exact absurd (List.mem_map.2 ⟨_,hj,rfl⟩) hng
      rcases hM 0 with hm|⟨o,m,hm⟩
      . exact hnm 0 hm
      . exact hnm _ (LY.M _ _ ox (h2.TR b o m hm ab4 0 (af5 K.rs h.pos h1 b o m hm)))
    . exact .inr GP
  . have:=LY.back hx.ev
    exact ⟨this.size,this.os,this.output,this.S,this.wH,this.frozen⟩
 cases ex with
 |normal=>exact uQ
 |ret=>exact uQ
 |exit m=>exact absurd rfl (dV m)
theorem Cd {c:Ctx} {n:Nat} {C:Cx} (hC:iF C c.P) (hF:iZ C c.P) (hm:c.P.follows .mixedOrders=true) {An:Nat→Option aq} {B:Code} {aJ rs:List Item} {rtm:List ResultVar} {s:du} {a:Act} {w:World} (h:gW c n s a w) {y:au rs×gA aJ}
  (hr:((dt C An B s).bind λr=>match r.1 with| .exit _=>Out.fail|_=> .of (leave C aJ rs rtm r.2) .ret).eval=some y):
  B.wp c.P (λe a' w'=>∃ ex s',e=Qf ex∧gW c n s' a' w'∧(∀ m,ex≠ .exit m)∧leave C aJ rs rtm s'=some y) a w:=by
 obtain ⟨⟨ex,s'⟩,hq,hr⟩:=cI hr;refine wp_mono (bL hC hF hm An B s _ a w hq h) λe a' w' he=> ?_;obtain ⟨rfl,he⟩:=he;cases ex with
 |exit m=>cases hr
 |normal=>
  obtain ⟨z,hz,hr⟩:=aK hr;obtain rfl:=aa6 hr;exact ⟨.normal,s',rfl,he,λm=>by simp,hz⟩
 |ret=>
  obtain ⟨z,hz,hr⟩:=aK hr;obtain rfl:=aa6 hr;exact ⟨.ret,s',rfl,he,λm=>by simp,hz⟩
theorem wi {P:Program} {C:Cx} {K:bZ} {fn:Func} {code:Code} {rtm:List ResultVar} {A:Nat→Option aq} (hC:iF C P) (hF:iZ C P) (hm:P.follows .mixedOrders=true) (h:L0 P C K fn code rtm A) (Kl:K.vw=none:=by rfl):K.Ok P:=
 Ar hC ⟨h.func,h.body,h.name,h.res,h.few,h.mr,h.pos,λx y hw hy c n a w hP hD=>by
  subst hP;exact Cd hC hF hm hD (h.run x y hw hy)⟩ Kl
end
section
open Go
mutual
def Ty.uF:Ty→List Value→Option (List Value)
 | .bool, .bool false::r=>some r
 | .int k, .int k' n::r=>if k=k'∧n=0 then some r else none
 | .str, .string s::r=>if s.data.toList.isEmpty=true then some r else none
 | .sl _, .slice none 0 0::r=>some r
 | .hole, .slice none 0 0::r=>some r
 | .fz _, .slice none 0 0::r=>some r
 | .st fs,cs=>fs.uF cs
 |_,_=>none
def aI.uF:aI→List Value→Option (List Value)
 | .nil,cs=>some cs
 | .cons t ts,cs=>(t.uF cs).bind λr=>ts.uF r
end
mutual
theorem Ty.pN:(t:Ty)→{cs r:List Value}→t.uF cs=some r→cs=t.zeroV++r
 | .bool,cs,r,h=>by
   cases cs with
   |nil=>cases h
   |cons v q=>
    cases v<;>try (cases h;done)
    rename_i b;cases b<;>cases h;rfl
 | .int k,cs,r,h=>by
   cases cs with
   |nil=>cases h
   |cons v q=>
    cases v<;>try (cases h;done)
    rename_i k' n;replace h:(if k=k'∧n=0 then some q else none)=some r:=h;split at h
    . rename_i hc;obtain ⟨rfl,rfl⟩:=hc;cases h;rfl
    . cases h
 | .str,cs,r,h=>by
   cases cs with
   |nil=>cases h
   |cons v q=>
    cases v<;>try (cases h;done)
    rename_i s;replace h:(if s.data.toList.isEmpty=true then some q else none)=some r:=h;split at h
    . rename_i hc
      cases h;have:s=⟨#[]⟩:=by
       have h1:=List.isEmpty_iff.1 hc;apply ByteArray.ext;grind
      rw [this];rfl
    . cases h
 | .hole,cs,r,h=>by
   cases cs with
   |nil=>cases h
   |cons v q=>
    cases v<;>try (cases h;done)
    rename_i a l c;cases a<;>cases l<;>cases c<;>cases h;rfl
 | .sl _,cs,r,h=>by
   cases cs with
   |nil=>cases h
   |cons v q=>
    cases v<;>try (cases h;done)
    rename_i a l c;cases a<;>cases l<;>cases c<;>cases h;rfl
 | .fz _,cs,r,h=>by
   cases cs with
   |nil=>cases h
   |cons v q=>
    cases v<;>try (cases h;done)
    rename_i a l c;cases a<;>cases l<;>cases c<;>cases h;rfl
 | .st fs,cs,r,h=>by
   simp only [Ty.zeroV];exact aI.pN fs h
theorem aI.pN:(t:aI)→{cs r:List Value}→t.uF cs=some r→cs=t.zeroV++r
 | .nil,cs,r,h=>by cases h;rfl
 | .cons t ts,cs,r,h=>by
   replace h:((t.uF cs).bind λr=>ts.uF r)=some r:=h;obtain ⟨q,h1,h2⟩:=Option.bind_eq_some_iff.1 h;rw [Ty.pN t h1,aI.pN ts h2];simp [aI.zeroV]
end
def uG (P:Program) (t:Ty) (tid:TypeId):Bool:=
 match P.info? tid with
 |some i=>
  match i.zero with
  |some z=>
   match t.uF z.cells.toList with
   |some []=>decide (i.size=t.size)&&decide (i.bytes≤1024)&&decide (0<t.size)
   |_=>false
  |none=>false
 |none=>false
theorem lR {P:Program} {t:Ty} {tid:TypeId} (h:uG P t tid=true):nY P t tid:=by
 unfold uG at h;split at h
 . rename_i i hi
   split at h
   . rename_i z hz
     split at h
     . rename_i hzb
       simp only [aa4,abS] at h;exact ⟨i,z,hi,h.1.1,h.1.2,hz,by have:=Ty.pN t hzb;grind,h.2⟩
     . cases h
   . cases h
 . cases h
mutual
def Ty.okB (P:Program):Ty→TypeId→Bool
 | .bool,tid=>uG P .bool tid&&(match P.underlying tid with|some .bool=>true|_=>false)
 | .int k,tid=>uG P (.int k) tid&&(match P.underlying tid with|some (.int k')=>decide (k=k')|_=>false)
 | .str,tid=>uG P .str tid&&(match P.underlying tid with|some .string=>true|_=>false)
 | .hole,tid=>uG P .hole tid&&(match P.underlying tid with|some (.slice _)=>true|_=>false)
 | .sl e,tid=>uG P (.sl e) tid&&(match P.underlying tid with|some (.slice eid)=>e.okB P eid|_=>false)
 | .fz e,tid=>uG P (.fz e) tid&&(match P.underlying tid with|some (.slice eid)=>e.okB P eid|_=>false)
 | .st fs,tid=>uG P (.st fs) tid&&(match P.underlying tid with|some (.struct fields)=>fs.TV P fields.toList 0|_=>false)
def aI.TV (P:Program):aI→List Field→Nat→Bool
 | .nil,[],_=>true
 | .cons t ts,f::r,off=>decide (f.offset=off)&&t.okB P f.type&&ts.TV P r (off+t.size)
 |_,_,_=>false
end
mutual
theorem Ty.As {P:Program}:(t:Ty)→{tid:TypeId}→t.okB P tid=true→t.Ok P tid
 | .bool,tid,h=>by
   simp only [Ty.okB,aa4] at h;grind [Ty.Ok,lR]
 | .int k,tid,h=>by
   simp only [Ty.okB,aa4] at h;simp only [Ty.Ok];refine ⟨lR h.1, ?_⟩;grind
 | .str,tid,h=>by
   simp only [Ty.okB,aa4] at h;grind [Ty.Ok,lR]
 | .hole,tid,h=>by
   simp only [Ty.okB,aa4] at h;grind [Ty.Ok,lR]
 | .sl e,tid,h=>by
   simp only [Ty.okB,aa4] at h;simp only [Ty.Ok];refine ⟨lR h.1, ?_⟩;have h2:=h.2;split at h2
   . rename_i eid he;exact ⟨eid,he,Ty.As e h2⟩
   . cases h2
 | .fz e,tid,h=>by
   simp only [Ty.okB,aa4] at h;simp only [Ty.Ok];refine ⟨lR h.1, ?_⟩;have h2:=h.2;split at h2
   . rename_i eid he;exact ⟨eid,he,Ty.As e h2⟩
   . cases h2
 | .st fs,tid,h=>by
   simp only [Ty.okB,aa4] at h;simp only [Ty.Ok];refine ⟨lR h.1, ?_⟩;have h2:=h.2;split at h2
   . rename_i fields he;exact ⟨fields,he,aI.Kh fs h2⟩
   . cases h2
theorem aI.Kh {P:Program}:(t:aI)→{fs:List Field}→{off:Nat}→t.TV P fs off=true→t.AR P fs off
 | .nil,fs,off,h=>by
   cases fs with
   |nil=>simp [aI.AR]
   |cons f r=>cases h
 | .cons t ts,fs,off,h=>by
   cases fs with
   |nil=>cases h
   |cons f r=>
    simp only [aI.TV,aa4,abS] at h;simp only [aI.AR];exact ⟨f,r,rfl,h.1.1,Ty.As t h.1.2,aI.Kh ts h.2⟩
end
def Ki:List (Nat×Ty)→Nat→Option Ty
 |[],_=>none
 |(a,t)::r,n=>bif Nat.beq a n then some t else Ki r n
theorem LC {l:List (Nat×Ty)} {n:Nat} {t:Ty} (h:Ki l n=some t):(n,t)∈l:=by
 induction l with
 |nil=>cases h
 |cons a l ih=>
  grind [Ki,Nat.beq,Nat.eq_of_beq_eq_true]
def Ez (P:Program) (LJ:List (Nat×Ty)):Bool:=LJ.all λx=>x.2.okB P x.1
def QN (P:Program) (tid:TypeId):Bool:=
 if tid<QH then !P.stoodInHeld tid&& !P.eqGuardType P.depth tid&&(match P.underlying tid with|some (.struct fields)=>fields.toList.all λf=>f.name != "_" |_=>false)
 else match P.underlying (tid - QH) with|some (.interface _)=>true|_=>false
theorem TW {P:Program} {tid:TypeId} (h:QN P tid=true):afg P tid:=by
 unfold QN at h;by_cases bS:tid<QH
 . rw [aa5 bS] at h
   refine ⟨λ_=> ?_,by grind⟩;simp only [aa4,acJ] at h;refine ⟨h.1.1,h.1.2, ?_⟩;grind
 . rw [aa3 bS] at h
   refine ⟨λq=>absurd q bS,λk hk=> ?_⟩;have e:tid - QH=k:=by grind
   rw [e] at h;grind [Program.methodsAt]
def LZ (LJ:List (Nat×Ty)) (T4:List Nat) (l:List bZ):Cx:={ ty:=Ki LJ,eqv:=λn=>T4.any λm=>Nat.beq m n,call:=Gz l }
theorem sq {P:Program} {LJ:List (Nat×Ty)} {T4:List Nat} (h1:Ez P LJ=true) (h2:T4.all (QN P)=true) (l:List bZ):iF (LZ LJ T4 l) P where
 ty tid t h:=Ty.As t (abD.1 h1 _ (LC h))
 eqv tid h:=by
  obtain ⟨m,hm,e⟩:=List.any_eq_true.1 h;grind [Nat.eq_of_beq_eq_true,TW,List.all_eq_true]
def b6:List (Nat×aq)→Nat→Option aq
 |[],_=>none
 |(a,t)::r,n=>bif Nat.beq a n then some t else b6 r n
def codeOf (f:Func):Code:=f.body.getD .skip
theorem pR {f:Func} (h:f.body.isSome=true):f.body=some (codeOf f):=by
 unfold codeOf;cases hb:f.body with
 |none=>grind
 |some c=>rfl
end
section
open Go Go.ChangeShapes Go.WideShapes Go.ChangeAt Go.RowKit
section
variable {H:Type} {enc:TypeId×Value→H} {P:Program} {w:World} {base:Nat} {sp:Nat→Bool} {held:Bool}
theorem A4 {b o:Nat}:∀ (n:Nat) {cs:List Value},cs.length=n→(∀ i,i<n→w.cell? ⟨b,o+i,none⟩=cs[i]?)→0<n→aE w b o n=cs:=by
 intro n cs hl h hn;have h0:=h 0 hn;unfold World.cell? at h0;cases hb:w.heap[b]? with
 |none=>grind
 |some ob=>
  cases ob with
  |map _ _=>grind
  |cells C E fr=>
   simp only [aE,hb];apply acB;grind [World.cell?, List.getElem?_take_of_lt,List.getElem?_eq_none]
  |_=>simp only [hb] at h0;rw [aa2 (by omega)] at h0;cases h0
theorem pO {a:Addr} {n:Nat} {cs:List Value} (h:w.cells? base a n=some cs) (hn:0<n):a.spot=none∧a.block<w.heap.size∧aE w a.block a.off n=cs:=by
 obtain ⟨_,hl,hc⟩:=World.cells?_some h;have h0:=hc 0 hn;have af8:∃ v,w.cell? a=some v:=by grind [Addr.add,List.getElem?_eq_getElem]
 obtain ⟨v,hv⟩:=af8;have Kv:a.spot=none:=by
  unfold World.cell? at hv;cases hs:a.spot with
  |none=>rfl
  |some s=>
   grind
 have hbl:a.block<w.heap.size:=by grind [World.cell?, Array.getElem?_eq_some_iff]
 refine ⟨Kv,hbl,A4 n hl (λi hi=> ?_) hn⟩;rw [← hc i hi];congr 1;obtain ⟨b,o,s⟩:=a;grind [Addr.add]
theorem Ty.Ok.cellsOf {t:Ty} {tid:TypeId} (h:t.Ok P tid):P.cellsOf tid=t.size:=by
 obtain ⟨i,z,h1,h2,_⟩:=h.base;grind [Program.cellsOf]
theorem wS {α:Type} {n:Nat} {p:Nat→α→Prop} (h:∀ i,i<n→∃ x,p i x):∃ xs:List α,xs.length=n∧∀ i x,xs[i]? =some x→p i x:=by
 induction n with
 |zero=>simp_all
 |succ n ih=>
  obtain ⟨xs,h1,h2⟩:=ih λi hi=>h i (by omega);obtain ⟨y,hy⟩:=h n (by omega);refine ⟨xs++[y],by simp [h1],λi x hx=> ?_⟩;grind
mutual
theorem Ty.trod:(t:Ty)→{tid:TypeId}→{fuel:Nat}→{cs:List Value}→{y:DataW H×List MemPlace}→t.Ok P tid→DataW.trod enc P w base sp held fuel tid cs=some y→∃ x,t.aN (λb=>b<w.heap.size) w cs x
 | .bool,tid,fuel,cs,y,dF,h=>by
   simp only [Ty.Ok] at dF;obtain ⟨b,rfl,_⟩:=DataW.trod_bool dF.2 h;exact ⟨b,by simp [Ty.aN]⟩
 | .int k,tid,fuel,cs,y,dF,h=>by
   simp only [Ty.Ok] at dF;obtain ⟨n,rfl,_⟩:=DataW.trod_int dF.2 h;exact ⟨n,by simp [Ty.aN]⟩
 | .str,tid,fuel,cs,y,dF,h=>by
   simp only [Ty.Ok] at dF;obtain ⟨s,rfl,_,hs⟩:=DataW.trod_string dF.2 h;refine ⟨s.data.toList, ?_⟩;simp_all [Ty.aN,maxLen,aM]
 | .hole,tid,fuel,cs,y,dF,h=>by
   simp only [Ty.Ok] at dF;obtain ⟨_,eid,hu⟩:=dF;rcases DataW.trod_slice hu h with ⟨rfl,_⟩|⟨a,len,cap,elems,rest,n,_,rfl,_⟩
   . exact ⟨(),by simp only [Ty.aN];exact ⟨_,rfl,rfl⟩⟩
   . exact ⟨(),by simp only [Ty.aN];exact ⟨_,rfl,rfl⟩⟩
 | .sl e,tid,fuel,cs,y,dF,h=>by
   simp only [Ty.Ok] at dF;obtain ⟨_,eid,hu,AV⟩:=dF;rcases DataW.trod_slice hu h with ⟨rfl,_⟩|⟨a,len,cap,elems,rest,n,_,rfl,_,_,hl,hm,hel,hi,_⟩
   . exact ⟨[],pt _ w e none⟩
   have ajF:maxLen=aM:=by grind [maxLen]
   rw [AV.cellsOf] at hi;have mv:=AV.pos;have hex:∀ i,i<len→∃ x:e.D,a.block<w.heap.size∧(a.add (i*e.size)).spot=none∧e.aN (λb=>b<w.heap.size) w (aE w (a.add (i*e.size)).block (a.add (i*e.size)).off e.size) x:=by
    intro i bS;have h1:=hi i bS;rw [aa2 (by omega)] at h1;obtain ⟨cs',hc,h2⟩:=Option.bind_eq_some_iff.1 h1;obtain ⟨q1,q2,q3⟩:=pO hc mv;obtain ⟨x,hx⟩:=Ty.trod e AV h2;grind [Addr.add]
   obtain ⟨xs,hxl,AQ⟩:=wS hex;refine ⟨xs, ?_⟩;simp only [Ty.aN];refine ⟨some a,cap,by rw [← hxl],by grind, ?_⟩;by_cases h0:xs=[]
   . exact .inl h0
   right;have hp:0<xs.length:=List.length_pos_iff.2 h0;have hz:=AQ 0 xs[0] (by grind);have Kv:a.spot=none:=by grind [Addr.add]
   refine ⟨a.block,a.off,by obtain ⟨b,o,s⟩:=a;grind,hz.1,λi y hy=> ?_⟩;grind [Addr.add]
 | .fz e,tid,fuel,cs,y,dF,h=>by
   simp only [Ty.Ok] at dF;obtain ⟨_,eid,hu,AV⟩:=dF;rcases DataW.trod_slice hu h with ⟨rfl,_⟩|⟨a,len,cap,elems,rest,n,_,rfl,_,_,hl,hm,hel,hi,_⟩
   . exact ⟨[],jG.2 (pt _ w e none)⟩
   have ajF:maxLen=aM:=by grind [maxLen]
   rw [AV.cellsOf] at hi;have mv:=AV.pos;have hex:∀ i,i<len→∃ x:e.D,a.block<w.heap.size∧(a.add (i*e.size)).spot=none∧e.aN (λb=>b<w.heap.size) w (aE w (a.add (i*e.size)).block (a.add (i*e.size)).off e.size) x:=by
    intro i bS;have h1:=hi i bS;rw [aa2 (by omega)] at h1;obtain ⟨cs',hc,h2⟩:=Option.bind_eq_some_iff.1 h1;obtain ⟨q1,q2,q3⟩:=pO hc mv;obtain ⟨x,hx⟩:=Ty.trod e AV h2;grind [Addr.add]
   obtain ⟨xs,hxl,AQ⟩:=wS hex;refine ⟨xs, ?_⟩;simp only [Ty.aN];refine ⟨some a,cap,by rw [← hxl],by grind, ?_⟩;by_cases h0:xs=[]
   . exact .inl h0
   right;have hp:0<xs.length:=List.length_pos_iff.2 h0;have hz:=AQ 0 xs[0] (by grind);have Kv:a.spot=none:=by grind [Addr.add]
   refine ⟨a.block,a.off,by obtain ⟨b,o,s⟩:=a;grind,hz.1,λi y hy=> ?_⟩;grind [Addr.add]
 | .st fs,tid,fuel,cs,y,dF,h=>by
   simp only [Ty.Ok] at dF;obtain ⟨af9,fields,hu,hf⟩:=dF;obtain ⟨xs,n,_,_,hl,hxl,hi⟩:=DataW.trod_struct hu h;have AB:P.cellsOf tid=(Ty.st fs).size:=by
    obtain ⟨i,z,h1,h2,_⟩:=af9;grind [Program.cellsOf]
   have:=aI.trod (n:=n) (off:=0) (cs:=cs) fs hf (by grind [Ty.size]) (by grind);obtain ⟨x,hx⟩:=this;refine ⟨x, ?_⟩;grind [Ty.aN]
theorem aI.trod {n:Nat}:(ts:aI)→{fs:List Field}→{off:Nat}→{cs:List Value}→ts.AR P fs off→cs.length=off+ts.size→
  (∀ (i:Nat) (f:Field),fs[i]? =some f→∃ z,DataW.trod enc P w base sp held n f.type ((cs.drop f.offset).take (P.cellsOf f.type))=some z)→∃ x,ts.aN (λb=>b<w.heap.size) w (cs.drop off) x
 | .nil,fs,off,cs,dF,hl,h=>by
   refine ⟨(), ?_⟩;grind [aI.aN,aI.size,List.drop_of_length_le]
 | .cons t ts,fs,off,cs,dF,hl,h=>by
   simp only [aI.AR] at dF;obtain ⟨f,r,rfl,rfl,h1,h2⟩:=dF;obtain ⟨z,hz⟩:=h 0 f rfl;rw [h1.cellsOf] at hz;obtain ⟨x1,hx1⟩:=Ty.trod t h1 hz;simp only [aI.size] at hl;obtain ⟨x2,LM⟩:=aI.trod (n:=n) ts h2 (by omega) (λi g hg=>h (i+1) g (by simpa using hg));refine ⟨(x1,x2), ?_⟩;grind [aI.aN,List.drop_drop,List.take_append_drop]
end
end
mutual
def Ty.ir:Ty→List Cm
 | .bool=>[.b]
 | .int k=>[.i k]
 | .str=>[.s]
 | .hole=>[.k]
 | .sl e=>[.ro e]
 | .fz e=>[.ro e]
 | .st fs=>fs.ir
def aI.ir:aI→List Cm
 | .nil=>[]
 | .cons t ts=>t.ir++ts.ir
end
def Ty.item (t:Ty):Item:=⟨false,t.jI,t.ir⟩
theorem eM {S:Nat→Prop} {w:World} {l':List Cm} {aZ:List Value} {x':rA l'} {f':List Nat} (h':aQ S w l' aZ x' f'):(l:List Cm)→{vs:List Value}→{x:rA l}→{f:List Nat}→aQ S w l vs x f→∃ z,aQ S w (l++l') (vs++aZ) z (f++f')
 |[],_,_,_,h=>by simp only [aQ] at h;grind
 | .b::r,_,x,_,h=>by
   simp only [aQ] at h;obtain ⟨aZ,rfl,h⟩:=h;obtain ⟨z,hz⟩:=eM h' r h;exact ⟨(x.1,z),by simp only [List.cons_append,aQ];exact ⟨_,rfl,hz⟩⟩
 | .i _::r,_,x,_,h=>by
   simp only [aQ] at h;obtain ⟨aZ,rfl,h⟩:=h;obtain ⟨z,hz⟩:=eM h' r h;exact ⟨(x.1,z),by simp only [List.cons_append,aQ];exact ⟨_,rfl,hz⟩⟩
 | .s::r,_,x,_,h=>by
   simp only [aQ] at h;obtain ⟨aZ,rfl,hl,h⟩:=h;obtain ⟨z,hz⟩:=eM h' r h;exact ⟨(x.1,z),by simp only [List.cons_append,aQ];exact ⟨_,rfl,hl,hz⟩⟩
 | .e::r,_,x,_,h=>by
   simp only [aQ] at h;obtain ⟨_,aZ,rfl,hl,h⟩:=h;obtain ⟨z,hz⟩:=eM h' r h;exact ⟨(x.1,z),by simp only [List.cons_append,aQ];grind⟩
 | .k::r,_,x,_,h=>by
   simp only [aQ] at h;obtain ⟨v,aZ,rfl,h1,h⟩:=h;obtain ⟨z,hz⟩:=eM h' r h;exact ⟨z,by simp only [List.cons_append,aQ];grind⟩
 | .ro e::r,_,x,_,h=>by
   simp only [aQ] at h;obtain ⟨v,aZ,rfl,h1,h⟩:=h;obtain ⟨z,hz⟩:=eM h' r h;exact ⟨(x.1,z),by simp only [List.cons_append,aQ];grind⟩
 | .own e::r,_,x,_,h=>by
   simp only [aQ] at h;obtain ⟨v,aZ,f1,f2,rfl,rfl,h1,h⟩:=h;obtain ⟨z,hz⟩:=eM h' r h;exact ⟨(x.1,z),by simp only [List.cons_append,aQ];grind⟩
 | .mut e::r,_,x,_,h=>by
   simp only [aQ] at h;obtain ⟨v,aZ,f1,f2,rfl,rfl,h1,h⟩:=h;obtain ⟨z,hz⟩:=eM h' r h;exact ⟨(x.1,z),by simp only [List.cons_append,aQ];grind⟩
mutual
theorem Ty.nu {S:Nat→Prop} {w:World}:(t:Ty)→{cs:List Value}→{x:t.D}→t.aN S w cs x→∃ z,aQ S w t.ir cs z []
 | .bool,cs,x,h=>by simp only [Ty.aN] at h;subst h;exact ⟨(x,()),by simp [Ty.ir,aQ]⟩
 | .int _,cs,x,h=>by simp only [Ty.aN] at h;subst h;exact ⟨(x,()),by simp [Ty.ir,aQ]⟩
 | .str,cs,x,h=>by simp only [Ty.aN] at h;obtain ⟨rfl,hl⟩:=h;exact ⟨(x,()),by simp only [Ty.ir,aQ];exact ⟨_,rfl,hl,by simp⟩⟩
 | .hole,cs,x,h=>by simp only [Ty.aN] at h;obtain ⟨v,rfl,hv⟩:=h;exact ⟨(),by simp only [Ty.ir,aQ];exact ⟨v,[],rfl,hv,by simp⟩⟩
 | .sl e,cs,x,h=>by
   have h':=h;simp only [Ty.aN] at h;obtain ⟨a,cap,rfl,_⟩:=h;exact ⟨(x,()),by simp only [Ty.ir,aQ];exact ⟨_,_,rfl,h',by simp⟩⟩
 | .fz e,cs,x,h=>by
   have h':=jG.1 h;simp only [Ty.aN] at h;obtain ⟨a,cap,rfl,_⟩:=h;exact ⟨(x,()),by simp only [Ty.ir,aQ];exact ⟨_,_,rfl,h',by simp⟩⟩
 | .st fs,cs,x,h=>aI.nu fs (by simpa only [Ty.aN] using h)
theorem aI.nu {S:Nat→Prop} {w:World}:(t:aI)→{cs:List Value}→{x:t.D}→t.aN S w cs x→∃ z,aQ S w t.ir cs z []
 | .nil,cs,x,h=>by simp only [aI.aN] at h;subst h;exact ⟨(),by simp [aI.ir,aQ]⟩
 | .cons t ts,cs,x,h=>by
   simp only [aI.aN] at h;obtain ⟨c1,c2,rfl,h1,h2⟩:=h;obtain ⟨z1,g1⟩:=Ty.nu t h1;obtain ⟨z2,g2⟩:=aI.nu ts h2;obtain ⟨z,g⟩:=eM g2 t.ir g1;exact ⟨z,by simpa only [aI.ir,acG] using g⟩
end
def El (P:Program):List Ty→List TypeId→Prop
 |[],[]=>True
 |t::ts,i::is=>t.Ok P i∧El P ts is
 |_,_=>False
def Qq (P:Program):List Ty→List TypeId→Bool
 |[],[]=>true
 |t::ts,i::is=>t.okB P i&&Qq P ts is
 |_,_=>false
theorem GF {P:Program}:∀ {ts:List Ty} {is:List TypeId},Qq P ts is=true→El P ts is
 |[],[],_=>trivial
 |[],_::_,h=>by cases h
 |_::_,[],h=>by cases h
 |t::ts,i::is,h=>by
  simp only [Qq,aa4] at h;exact ⟨Ty.As t h.1,GF h.2⟩
section
variable {H:Type} {enc:TypeId×Value→H} {P:Program} {w:World} {base:Nat} {sp:Nat→Bool} {held:Bool}
theorem Iu {t:Ty} {tid:TypeId} (dF:t.Ok P tid) {b0:Nat} {v:Value} (h:Value.okWide P w .any b0 tid v):(t.jI=true→∃ us,v= .agg us)∧(t.jI=false→v.oneCell'=true):=by
 cases t with
 |st fs=>
  simp only [Ty.Ok] at dF;obtain ⟨_,fields,hu,_⟩:=dF;obtain ⟨cs,AB,_⟩:=okWide_struct hu h;exact ⟨λ_=>⟨cs,AB⟩,λe=>(by cases e)⟩
 |bool=>
  simp only [Ty.Ok] at dF;refine ⟨λe=>(by cases e),λ_=> ?_⟩;simp only [Value.okWide,dF.2,Cell.okWide] at h;cases v<;>simp_all [Cell.ok,Value.oneCell']
 |int k=>
  simp only [Ty.Ok] at dF;refine ⟨λe=>(by cases e),λ_=> ?_⟩;simp only [Value.okWide,dF.2,Cell.okWide] at h;cases v<;>simp_all [Cell.ok,Value.oneCell']
 |str=>
  simp only [Ty.Ok] at dF;refine ⟨λe=>(by cases e),λ_=> ?_⟩;obtain ⟨s,rfl⟩:=okWide_string dF.2 h;rfl
 |hole=>
  simp only [Ty.Ok] at dF;obtain ⟨_,eid,hu⟩:=dF;refine ⟨λe=>(by cases e),λ_=> ?_⟩;obtain ⟨a,len,cap,rfl⟩:=okWide_slice hu h;rfl
 |sl e=>
  simp only [Ty.Ok] at dF;obtain ⟨_,eid,hu,_⟩:=dF;refine ⟨λe=>(by cases e),λ_=> ?_⟩;obtain ⟨a,len,cap,rfl⟩:=okWide_slice hu h;rfl
 |fz e=>
  simp only [Ty.Ok] at dF;obtain ⟨_,eid,hu,_⟩:=dF;refine ⟨λe=>(by cases e),λ_=> ?_⟩;obtain ⟨a,len,cap,rfl⟩:=okWide_slice hu h;rfl
theorem GG {b0:Nat}:∀ {ts:List Ty} {tids:List TypeId} {vs:List Value} {ds:List (DataW H)} {p:List MemPlace},El P ts tids→
  (∀ (j:Nat) t v,tids[j]? =some t→vs[j]? =some v→Value.okWide P w .any b0 t v)→DataW.TrodAll enc P w base sp held tids vs ds p→∃ x,aU (λb=>b<w.heap.size) w (ts.map Ty.item) vs x [] []
 |[],[],vs,ds,p,_,_,h=>by
  obtain ⟨rfl,_,_⟩:=trodAll_nil h;exact ⟨(),(⟨rfl,rfl,rfl⟩:aU (λb=>b<w.heap.size) w [] [] () [] [])⟩
 |[],_::_,_,_,_,hp,_,_=>hp.elim
 |_::_,[],_,_,_,hp,_,_=>hp.elim
 |t::ts,i::is,vs,ds,p,hp,hv,h=>by
  obtain ⟨v,aZ,d,ds',p1,p2,rfl,rfl,rfl,h1,h2⟩:=trodAll_cons h;obtain ⟨fuel,h1⟩:=h1;obtain ⟨x,hx⟩:=Ty.trod t hp.1 h1;obtain ⟨z,hz⟩:=Ty.nu t hx;obtain ⟨y,hy⟩:=GG (ts:=ts) hp.2 (λj t v ht LX=>hv (j+1) t v (by simpa using ht) (by grind)) h2;have:=Iu hp.1 (hv 0 i v rfl rfl);have AH:cC (λb=>b<w.heap.size) w ⟨false,t.jI,t.ir⟩ v z [] []:=⟨rfl,hz,this.1,this.2⟩
  have CJ:aU (λb=>b<w.heap.size) w (t.item::ts.map Ty.item) (v::aZ) (z,y) [] []:=by
   simp only [aU];exact ⟨v,aZ,[],[],[],[],rfl,rfl,rfl,AH,hy⟩
  grind
end
theorem Ce:∀ (ts:List Ty) (vs:List Value),vs.length=ts.length→lp (ts.map λ_=>none) vs=vs
 |[],vs,h=>by simp at h;subst h;rfl
 |_::ts,[],h=>by simp at h
 |_::ts,v::vs,h=>by simp only [acd,lp];rw [Ce ts vs (by simpa using h)]
theorem Au {P:Program} {S:Nat→Prop} {w w':World} {tok:Nat→Value} {loc:Nat→Loc} {hS:Dd S w} (h:Ev (oW P S w [] [] tok loc hS) w'):∀ i,i<w.heap.size→w'.heap[i]? =w.heap[i]? :=by
 intro i hi;rcases h.wH i hi with e|⟨C,C',E,h1,h2,h3,h4⟩|⟨hm,_⟩
 . exact e
 . have h1:w.heap[i]? =some (.cells C E (0,0)):=h1
   have:C'=C:=GD λj=>h4 j λhm=>by
    rcases hm with hm|⟨_,_,hm,_⟩<;>cases hm
   grind
 . rcases hm with hm|⟨_,_,hm,_⟩<;>cases hm
structure Kept (W w':World):Prop where
 frame:W.keptBut w' (λ_=>False)
 ajG:∀ a,a.block<W.heap.size→w'.frozen? a=W.frozen? a
theorem Iv {P:Program} {S:Nat→Prop} {w w':World} {tok:Nat→Value} {loc:Nat→Loc} {hS:Dd S w} (h:Ev (oW P S w [] [] tok loc hS) w'):Kept w w':=by
 have tX:=Au h;refine ⟨⟨h.os,h.output,λi hi=> ?_⟩,h.frozen⟩;grind
section
variable {P:Program} {H:Type} {enc:TypeId×Value→H}
theorem Em {f:Func} {s:ChangeSpec} {apart fresh handsOn again:Bool} {W W':World} {args:Array Value} {v:Value} {ds gs:List (DataW H)} {before pa pv:List MemPlace}
  (hW:DataW.Whole enc P f.params.toList s.vars apart W args.toList ds gs before)
  (Lt:∀ (b:Nat) (sp:Nat→Bool) (hd:Bool),DataW.TrodAll enc P W' b sp hd f.resultTypes.toList (v.resultList f.resultTypes.size) (s.fn H (ds++gs)).results [])
  (Bo:∀ sp:Nat→Bool,(∀ p∈before,sp p.block=true)→DataW.TrodAll enc P W' 0 sp true f.params.toList args.toList (s.fn H (ds++gs)).args pa)
  (VQ:∀ sp:Nat→Bool,(∀ p∈before,sp p.block=true)→DataW.TrodVars enc P W' sp s.vars (s.fn H (ds++gs)).vars pv)
  (hps:before=pa++pv) (hk:Kept W W')
  (dF:∀ (j:Nat) (t:TypeId) (r:Value),f.resultTypes[j]? =some t→(v.resultList f.resultTypes.size)[j]? =some r→Value.okWide P W' .any 0 t r):
  s.post enc P f apart fresh handsOn again W args v W':=by
 have bS:=hW.lt;have hold:∀ p∈before,(λb=>decide (b<W.heap.size)) p.block=true:=by grind
 refine ⟨ds,gs,before,[],pa,pv,hW,Lt _ _ _,Bo _ hold,VQ _ hold,World.keptBut_mono (λ_ h=>h.elim) hk.frame,λ_=> ?_⟩;obtain ⟨_,_,_,_,_,hz,hn⟩:=hW;refine ⟨dF,_,_,([]++pa)++pv,⟨[]++pa,pv,trodAll_append (Bo _ (λ_ _=>rfl)) (Lt _ _ _),VQ _ (λ_ _=>rfl),rfl, ?_, ?_⟩, ?_⟩
 . intro b off hp
   have hm:MemPlace.cell b off∈before:=by grind
   rw [hk.ajG _ (bS _ hm)];exact hz b off hm
 . grind
 grind
end
theorem LD {P:Program} {f:Nat} {lend:Bool} {ts:List Ty} {tids:List TypeId} {F:au (ts.map Ty.item)→Out (au [⟨false,false,[.b]⟩]×gA (ts.map Ty.item))} {H:Type} {enc:TypeId×Value→H} {w:World} {base b0:Nat} {sp:Nat→Bool} {held:Bool}
  (hK:bZ.Ok P { f:=f,lend:=lend,aJ:=ts.map Ty.item,lay:=ts.map λ_=>none,rs:=[⟨false,false,[.b]⟩],F:=F }) (hp:El P ts tids)
  (hF:∀ x,aD (ts.map Ty.item) x→∃ z,(F x).eval=some (((true,()),()),z)) {args:Array Value} {ds:List (DataW H)} {p:List MemPlace}
  (hv:∀ (j:Nat) t v,tids[j]? =some t→args[j]? =some v→Value.okWide P w .any b0 t v) (h:DataW.TrodAll enc P w base sp held tids args.toList ds p) (hT:K2 (λb=>b<w.heap.size) w:=by intro p hp;simp [MR] at hp):
  Calls P f args w λe w'=>e= .returned (.bool true)∧Kept w w'∧∀ b,b<w.heap.size→w'.heap[b]? =w.heap[b]? :=by
 obtain ⟨x,hx⟩:=GG hp (λj t v ht LX=>hv j t v ht (by simpa using LX)) h;obtain ⟨z,hz⟩:=hF x (pM _ hx);have hc:=(hK x _ hz (λb=>b<w.heap.size) w ⟨λb hb=>hb,hT⟩ args.toList [] [] hx (by simp) (by simp)).2;have hl:args.toList.length=ts.length:=by
  have:=aU.length _ hx;grind
 have ajH:(lp (ts.map λ_=>none) args.toList).toArray=args:=by grind [Ce]
 have hc:Calls P f (lp (ts.map λ_=>none) args.toList).toArray w _:=hc;rw [ajH] at hc;refine Calls.mono hc λe w' he=> ?_;cases e with
 |panicked _=>exact he.elim
 |outgrown=>exact he.elim
 |returned v=>
  obtain ⟨⟨rvs,f1,g1,f2,rfl,⟨_,_,_,_,hr,_⟩,_⟩,x4⟩:=he;refine ⟨?_,Iv x4,Au x4⟩;simp only [aU,cC] at hr;obtain ⟨v,aZ,_,_,_,_,rfl,_,_,⟨_,hr,_,ho⟩,rfl,_⟩:=hr;simp only [aQ] at hr;obtain ⟨q,hq,rfl,_⟩:=hr;simp_all [gf,GB]
end
section
open Go Go.ChangeShapes Go.WideShapes Go.ChangeAt Go.RowKit
section
variable {α β γ:Type} {f:α→Out (Round α β γ)}
theorem jT {n:Nat} {x x':α} (h:(f x).eval=some (.again x')):iter f (n+1) x=iter f n x':=by simp only [iter,h]
theorem kT {n:Nat} {x:α} {y:β} (h:(f x).eval=some (.out y)) (hn:0<n):iter f n x=some (.inl y):=by
 cases n with
 |zero=>omega
 |succ n=>simp only [iter,h]
theorem mK {n:Nat} {x:α} {z:γ} (h:(f x).eval=some (.ret z)) (hn:0<n):iter f n x=some (.inr z):=by
 cases n with
 |zero=>omega
 |succ n=>simp only [iter,h]
theorem Av (s:Nat→α):∀ (m n:Nat),(∀ i,i<m→(f (s i)).eval=some (.again (s (i+1))))→iter f (m+n) (s 0)=iter f n (s m)
 |0,n,_=>by rw [acw]
 |m+1,n,h=>by
  have h1:=Av s m (1+n) λi hi=>h i (by omega);rw [show m+1+n=m+(1+n) by omega,h1,show 1+n=n+1 by omega,jT (h m (by omega))]
theorem wT (s:Nat→α) (m n:Nat) (hm:m≤n) (h:∀ i,i<m→(f (s i)).eval=some (.again (s (i+1)))):iter f n (s 0)=iter f (n - m) (s m):=by
 have:=Av s m (n - m) h;rwa [show m+(n - m)=n by omega] at this
theorem yI (s:Nat→α) (m:Nat) {n:Nat} {y:β} (hm:m<n) (h:∀ i,i<m→(f (s i)).eval=some (.again (s (i+1)))) (hy:(f (s m)).eval=some (.out y)):iter f n (s 0)=some (.inl y):=by
 rw [wT s m n (by omega) h,kT hy (by omega)]
theorem Fi (s:Nat→α) (m:Nat) {n:Nat} {z:γ} (hm:m<n) (h:∀ i,i<m→(f (s i)).eval=some (.again (s (i+1)))) (hz:(f (s m)).eval=some (.ret z)):iter f n (s 0)=some (.inr z):=by
 rw [wT s m n (by omega) h,mK hz (by omega)]
theorem Bu (s:Nat→α) (p:Nat→Bool) (m:Nat) {n:Nat} {y:β} {z:γ} (hm:m<n) (h:∀ i,i<m→p i=true→(f (s i)).eval=some (.again (s (i+1)))) (hz:∀ i,i<m→p i=false→(f (s i)).eval=some (.ret z))
  (hy:(f (s m)).eval=some (.out y)):iter f n (s 0)=some (if (List.range m).all p=true then .inl y else .inr z):=by
 by_cases ha:(List.range m).all p=true
 . rw [aa5 ha]
   rw [abD] at ha;exact yI s m hm (λi hi=>h i hi (ha i (List.mem_range.2 hi))) hy
 . rw [aa3 ha]
   have hex:∃ i,i<m∧p i=false:=by
    rw [abD] at ha;simp only [Classical.not_forall] at ha;obtain ⟨i,hi,hp⟩:=ha;exact ⟨i,List.mem_range.1 hi,by simpa using hp⟩
   obtain ⟨i,⟨hi,hp⟩,Xp⟩:=exists_least hex;exact Fi s i (by omega) (λj hj=>h j (by omega) (by
    cases hpj:p j with
    |true=>rfl
    |false=>have:=Xp j ⟨by omega,hpj⟩;omega)) (hz i hi hp)
end
theorem KM {α β:Type} {f:α→Out (Round α β Empty)} (s:Nat→α) (m:Nat) {n:Nat} {y:β} (hm:m<n) (h:∀ i,i<m→(f (s i)).eval=some (.again (s (i+1)))) (hy:(f (s m)).eval=some (.out y)):bx f n (s 0)=some y:=by
 unfold bx;rw [yI s m hm h hy];rfl
theorem jx {m:Nat} (h:m≤aM):m<bc:=adP h (by decide)
theorem eval_ite {ρ:Type} (c:Bool) (a b:Out ρ):(Out.ite c a b).eval=if c=true then a.eval else b.eval:=by cases c<;>rfl
theorem ab {ρ:Type} {c:Bool} {a b:Out ρ} (h:c=true):(Out.ite c a b).eval=a.eval:=by subst h;rfl
theorem ae {ρ:Type} {c:Bool} {a b:Out ρ} (h:c=false):(Out.ite c a b).eval=b.eval:=by subst h;rfl
theorem aa {ρ α:Type} {o:Option α} {k:α→Out ρ} {x:α} (h:o=some x):(Out.get o k).eval=(k x).eval:=by subst h;rfl
theorem gk {ρ α β:Type} {k:α→Out ρ} {h:β→Out ρ} (x:α):(Out.alt (.inl x) k h).eval=(k x).eval:=rfl
theorem G4 {ρ α β:Type} {k:α→Out ρ} {h:β→Out ρ} (x:β):(Out.alt (.inr x) k h).eval=(h x).eval:=rfl
theorem aw {i:Nat} (h:i<aM):IntKind.i64.wrap ((i:Int)+1)=((i+1:Nat):Int):=by
 unfold aM at h;rw [IntKind.wrap_i64];omega
theorem b7 {n:Int} (h0: -9223372036854775808≤n) (h1:n≤9223372036854775807):IntKind.i64.wrap n=n:=by
 rw [IntKind.wrap_i64];omega
theorem cL {α:Type} {l:List α} {i:Nat} (h:i<l.length):nth l (Int.toNat (i:Int))=some l[i]:=by
 show l[_]? =_;rw [abo,aa2 h]
section
variable {H:Type} {enc:TypeId×Value→H} {P:Program} {base:Nat} {sp:Nat→Bool}
theorem rB {W W':World} (hl:laidOutB P=true) (hs:∀ b,b<W.heap.size→W'.heap[b]? =W.heap[b]?):∀ {ts:List TypeId} {vs:List Value} {ds:List (DataW H)} {ps:List MemPlace},(ts.all λt=>P.readableRec t&&decide (t<P.types.size))=true→
  DataW.TrodAll enc P W base (λ_=>true) true ts vs ds ps→(∀ p∈ps,p.block<W.heap.size)→(∀ p∈ps,sp p.block=true)→DataW.TrodAll enc P W' base sp true ts vs ds ps
 |[],_,_,_,_,h,_,_=>by
  obtain ⟨rfl,rfl,rfl⟩:=trodAll_nil h;exact trodAll_mk0
 |t::ts,vs,ds,ps,ht,h,bS,Kv=>by
  obtain ⟨v,aZ,d,ds',p1,p2,rfl,rfl,rfl,h1,h2⟩:=trodAll_cons h;simp only [ack,aa4,abS] at ht;refine trodAll_cons_mk ?_ (rB hl hs ht.2 h2 (λp hp=>bS p (by simp [hp])) (λp hp=>Kv p (by simp [hp])));refine WideElems.Trod_stays hl ht.1.1 ht.1.2 h1 (λp hp=> ?_) (λp hp=>Kv p (by simp [hp]));have:=hs p.block (bS p (by simp [hp]));cases p with
  |cell b off=>simp only [World.sameAt,World.cell?];rw [show W'.heap[b]? =W.heap[b]? from this]
  |map b=>exact this
end
end
section
open Go
abbrev sp:Char:=Char.ofNat 32
theorem mo:∀ (w:List Char) (r:List Char),(∀ c∈w,c≠sp)→wordsSigns (w++sp::r)=w::wordsSigns r
 |[],r,_=>rfl
 |c::w,r,h=>by
  have hc:c≠sp:=h c (by simp);have ih:=mo w r λd hd=>h d (by simp [hd]);rw [List.cons_append];unfold wordsSigns;split
  . grind
  . simp_all
  . rename_i c' r' _ e
    obtain ⟨rfl,rfl⟩:=List.cons.inj e;rw [ih];exact congrArg (λl=>(c::w)::l) (wordsSigns.eq_def r)
def GS (w:List Char):Bool:=w.all λc=> !decide (c=sp)
theorem En {w:List Char} (h:GS w=true):∀ c∈w,c≠sp:=λc hc e=>by
 have:=abD.1 h c hc;grind
theorem Cn {s:String} {a b d r:List Char} (hs:s=String.ofList (a++sp::(b++sp::(d++sp::r)))) (ha:GS a=true) (hb:GS b=true) (hd:GS d=true) (hm:(a== "harness".toList)=true) (amM:isSumSigns b=true):
  behindMainWord (wordsSigns s.toList)=d::wordsSigns r:=by
 rw [hs,String.toList_ofList,mo a _ (En ha),mo b _ (En hb),mo d _ (En hd)];show (if ((a== "harness".toList||a== "ownmain".toList)&&isSumSigns b)=true then d::wordsSigns r else _)=_;grind
def ch (l:List Nat):List Char:=l.map Char.ofNat
section
variable {P:Program} {q:List (List Char)}
theorem L3 (hr:behindMainWord (wordsSigns P.initOrder.toList)=ch [99,117,116]::q):P.make=some .cut:=by simp_all [Program.make,ch]
theorem Cf:stripLifts liftWords (ch [99,117,116]::q)=([],ch [99,117,116]::q):=by kernel_rfl
theorem Kn (hr:behindMainWord (wordsSigns P.initOrder.toList)=ch [99,117,116]::q):P.liftsFinal=false:=by
 unfold Program.liftsFinal Program.headLifts;simp only [hr,Cf]
 kernel_rfl
theorem Co (hr:behindMainWord (wordsSigns P.initOrder.toList)=ch [99,117,116]::q) (h1:P.laysLater=false) (h2:P.bearsReflect=false) (h3:P.doorFits []=true):P.mayEnter=true:=by
 unfold Program.mayEnter;rw [hr];simp only [Cf,h1,h2,h3]
 kernel_rfl
end
end
section
open Go
def du.pP (s:du) (i j:Nat):du:={ s with t:=(s.t.set i .dead).set j .dead,kn:=[] }
theorem gW.pP {c:Ctx} {n:Nat} {s:du} {a:Act} {w:World} (h:gW c n s a w) {i j:Nat} (hi:i<n) (hj:j<n) (u v:Value):gW c n (s.pP i j) ((a.put (some i) u).put (some j) v) w:=by
 obtain ⟨⟨c1,μ,fp,he,hx⟩,_,hl⟩:=h;have hs:∀ k,(s.pP i j).t.getD k .dead=if j=k∨i=k then .dead else s.t.getD k .dead:=by grind [du.pP,Aa]
 refine ⟨⟨c1,μ,fp,he,⟨λk=> ?_, ?_,by rw [put_defers,put_defers];exact hx.defers,hx.vs,⟨λk id hid=> ?_,hx.known.2⟩,hx.ev,hx.fix⟩⟩, ?_,by simp [du.pP,hl]⟩
 . show an c1 μ _ ((s.pP i j).t.getD k .dead)
   rw [hs];by_cases e:j=k∨i=k
   . rw [aa5 e];simp [an]
   . rw [aa3 e,uy (n:=n) (by rw [pG];exact hx.n) (by grind),aa3 (λq=>e (.inl (aa6 q))),uy (n:=n) hx.n (by grind),aa3 (λq=>e (.inr (aa6 q)))]
     exact hx.tm k
 . rw [pG,pG];exact hx.n
 . have hid:id∈((s.pP i j).t.getD k .dead).ids:=hid
   rw [hs] at hid;split at hid
   . cases hid
   . exact hx.known.1 k id hid
 . intro d b hf;cases hf
theorem Aw {P:Program} {ops:Array Oper} {Q:Exit→Act→World→Prop} {i:Nat} {K:Act→World→Prop} {a:Act} {w:World} {o:Oper} {v:Value} (ho:ops[i]? =some o) (hg:o.guard=none)
  (hr:(execOp a.eval o).run P w= .ok (.value v) w) (h:K (a.put o.dst v) w):wpOp P ops Q i K a w:=by
 unfold wpOp;have hw:Region.wanted o (yielded ops a.tmps)=true:=by simp [Region.wanted,hg]
 simp only [ho,hw,ae4];left;unfold Oper.wp;rw [hr];exact h
theorem TX {c:Ctx} {n:Nat} {s:du} {a:Act} {w:World} (h:gW c n s a w) (hn:5≤n) {e:Ty} {x:List e.D} {tk:Option Nat} (h0:s.t.getD 0 .dead= .ro e x tk) {tid te:TypeId} (hU:c.P.underlying tid=some (.slice te)) {rid:Nat} {o3 o4:Oper} {A:Code} {Q:Exit→Act→World→Prop}
  (h3:o3.op= .move (.tmp 0)) (g3:o3.guard=none) (d3:o3.dst=some 3) (h4:o4.op= .binOp .eql tid (.tmp 3) (.const (.slice none 0 0)) tid) (g4:o4.guard=none) (d4:o4.dst=some 4)
  (hA:x=[]→∀ a',gW c n (s.pP 3 4) a' w→A.wp c.P Q a' w) (hB:∀ a',gW c n (s.pP 3 4) a' w→Q .normal a' w):
  (Code.seq (.region rid #[o3,o4] false) (.cond (.tmp 4) A .skip)).wp c.P Q a w:=by
 obtain ⟨⟨c1,μ,fp,he,hx⟩,hk,hl⟩:=h;have h:gW c n s a w:=⟨⟨c1,μ,fp,he,hx⟩,hk,hl⟩
 have hv:=hx.tm 0;rw [show s.f.t 0=s.t.getD 0 .dead from rfl,h0] at hv;simp only [an,Ty.aN] at hv;obtain ⟨⟨ad,cap,hv,hc,hd⟩,_⟩:=hv;generalize VJ:a.tmps.getD 0 Go.undef=v at hv;have hv:v= .slice ad x.length cap:=by simpa using hv
 subst hv;have amN:ad.isNone=true→x=[]:=by grind
 have hD:=h.pP (i:=3) (j:=4) (by omega) (by omega) (.slice ad x.length cap) (.bool ad.isNone);have he4:((a.put (some 3) (.slice ad x.length cap)).put (some 4) (.bool ad.isNone)).eval (.tmp 4)= .bool ad.isNone:=by
  show Array.getD _ 4 Go.undef=_;rw [uy (n:=n) (dst:=some 4) (by rw [pG];exact hx.n) (by grind),aa5 rfl]
 refine wp_seq (wp_region ?_);show wpOps c.P #[o3,o4] _ [0,1] a w;rw [wpOps_cons];refine Aw (o:=o3) (v:= .slice ad x.length cap) rfl g3 (by
  have:a.eval (.tmp 0)= .slice ad x.length cap:=VJ;simp_all [execOp]) ?_
 rw [wpOps_cons,d3];refine Aw (o:=o4) (v:= .bool ad.isNone) rfl g4 (by
  have:(a.put (some 3) (.slice ad x.length cap)).eval (.tmp 3)= .slice ad x.length cap:=by
   show Array.getD _ 3 Go.undef=_;rw [uy (n:=n) (dst:=some 3) hx.n (by grind),aa5 rfl]
  have e2:(a.put (some 3) (.slice ad x.length cap)).eval (.const (.slice none 0 0))= .slice none 0 0:=rfl;simp_all [eqGuard,execOp,Go.Lib.run_eql_slice_nil]) ?_
 rw [d4];show Code.wp _ _ _ _ _;cases hb:ad.isNone with
 |true=>
  grind [wp_cond_true]
 |false=>
  grind [wp_cond_false,wp_skip]
def o5 (C:Cx) (An:Nat→Option aq) (R B:Code) (aJ:List Item) (lay:Km) (ntmps:Nat) (rs:List Item) (rtm:List ResultVar) (x:au aJ):Out (au rs×gA aJ):=
 (dt C An R (entry aJ lay ntmps x)).bind λr=>
  match r.1 with
  | .normal=>(dt C An B (r.2.pP 3 4)).bind λr=>
    match r.1 with
    | .exit _=> .fail
    |_=> .of (leave C aJ rs rtm r.2) .ret
  |_=> .fail
theorem TZ {C:Cx} {c:Ctx} {n:Nat} (hC:iF C c.P) (hF:iZ C c.P) (hm:c.P.follows .mixedOrders=true) {An:Nat→Option aq} {R A B:Code} {aJ rs:List Item} {lay:Km} {ntmps:Nat} {rtm:List ResultVar} {x:au aJ} {e:Ty} {l:List e.D} {tk:Option Nat}
  {tid te:TypeId} (hU:c.P.underlying tid=some (.slice te)) {rid:Nat} {o3 o4:Oper}
  (h3:o3.op= .move (.tmp 0)) (g3:o3.guard=none) (d3:o3.dst=some 3) (h4:o4.op= .binOp .eql tid (.tmp 3) (.const (.slice none 0 0)) tid) (g4:o4.guard=none) (d4:o4.dst=some 4)
  (hs0:∀ s1,(dt C An R (entry aJ lay ntmps x)).eval=some (.normal,s1)→s1.t.getD 0 .dead= .ro e l tk) (h5:5≤n) {y:au rs×gA aJ}
  (hB:(o5 C An R B aJ lay ntmps rs rtm x).eval=some y) (hA:l=[]→(o5 C An R A aJ lay ntmps rs rtm x).eval=some y) {a:Act} {w:World} (h:gW c n (entry aJ lay ntmps x) a w)
  (abW:∀ s r,(dt C An A s).eval=some r→r.1= .ret):
  (Code.seq R (.seq (.seq (.region rid #[o3,o4] false) (.cond (.tmp 4) A .skip)) B)).wp c.P (λe a' w'=>∃ ex s',e=Qf ex∧gW c n s' a' w'∧(∀ m,ex≠ .exit m)∧leave C aJ rs rtm s'=some y) a w:=by
 unfold o5 at hB;obtain ⟨⟨ex,s1⟩,hq,hB⟩:=cI hB;refine wp_seq (wp_mono (bL hC hF hm An R _ _ a w hq h) λe a1 w1 he=> ?_);obtain ⟨rfl,he⟩:=he;cases ex with
 |exit m=>cases hB
 |ret=>cases hB
 |normal=>
  refine wp_seq (TX he h5 (hs0 s1 hq) hU h3 g3 d3 h4 g4 d4 (λhl a2 h2=> ?_) (λa2 h2=>Cd hC hF hm h2 hB));have hA:=hA hl;unfold o5 at hA;obtain ⟨r2,hq2,hA⟩:=cI hA;rw [hq] at hq2;obtain rfl:=aa6 hq2;obtain ⟨r3,hq3,hA⟩:=cI hA;have Mk:=abW _ _ hq3;obtain ⟨ex3,s3⟩:=r3;obtain rfl:ex3= .ret:=Mk;obtain ⟨z,hz,hA⟩:=aK hA;obtain rfl:=aa6 hA;refine wp_mono (bL hC hF hm An A _ _ a2 w1 hq3 h2) λe a' w' he=> ?_;obtain ⟨rfl,he⟩:=he;exact ⟨.ret,s3,rfl,he,λm=>by simp,hz⟩
theorem Qr {C:Cx} {An:Nat→Option aq} {id:Nat} {ops:Array Oper} {d:Bool} {s:du} {r:Ex×du} (h:(dt C An (.seq (.region id ops d) .ret) s).eval=some r):r.1= .ret:=by
 simp only [dt] at h;obtain ⟨q,hq,h⟩:=cI h;obtain ⟨s',_,hq⟩:=cI hq;obtain rfl:=aa6 hq;obtain rfl:=aa6 h;rfl
def ajI:Out (Ex×du)→ah
 | .ret r=>r.2.t.getD 0 .dead
 |_=> .dead
theorem Hw {P:Program} {C:Cx} {K:bZ} {fn:Func} {code:Code} {rtm:List ResultVar} {An:Nat→Option aq} (hC:iF C P) (hF:iZ C P) (hm:P.follows .mixedOrders=true)
  {R B:Code} {rid ia:Nat} {oa:Array Oper} {da:Bool} {o3 o4:Oper} {tid te:TypeId} {e:Ty} {tk:Option Nat} (l:au K.aJ→List e.D) (func:P.funcs[K.f]? =some fn) (body:fn.body=some code) (name:(fn.name== "runtime.NumGoroutine")=false) (res:fn.results=rtm.toArray)
  (few:rtm.length≤6) (mr:mH K.aJ 0≤64) (pos:(K.rs.all λit=>decide (0<it.cs.length))=true)
  (agb:code= .seq R (.seq (.seq (.region rid #[o3,o4] false) (.cond (.tmp 4) (.seq (.region ia oa da) .ret) .skip)) B)) (hU:P.underlying tid=some (.slice te))
  (h3:o3.op= .move (.tmp 0)) (g3:o3.guard=none) (d3:o3.dst=some 3) (h4:o4.op= .binOp .eql tid (.tmp 3) (.const (.slice none 0 0)) tid) (g4:o4.guard=none) (d4:o4.dst=some 4)
  (hs0:∀ x,ajI (dt C An R (entry K.aJ K.lay fn.ntmps x))= .ro e (l x) tk) (h5:∀ x,5≤(entry K.aJ K.lay fn.ntmps x).t.length)
  (hB:∀ x y,aD K.aJ x→(K.F x).eval=some y→(o5 C An R B K.aJ K.lay fn.ntmps K.rs rtm x).eval=some y)
  (hA:∀ x y,aD K.aJ x→l x=[]→(K.F x).eval=some y→(o5 C An R (.seq (.region ia oa da) .ret) K.aJ K.lay fn.ntmps K.rs rtm x).eval=some y) (Kl:K.vw=none:=by rfl):K.Ok P:=by
 refine Ar hC ⟨func,body,name,res,few,mr,pos,λx y hw hy c n a w hP hD=> ?_⟩ Kl;subst hP;rw [agb];refine TZ (tk:=tk) hC hF hm hU h3 g3 d3 h4 g4 d4 (λs1 hs=> ?_) (hD.len ▸ h5 x) (hB x y hw hy) (λhl=>hA x y hw hl hy) hD λs r h=>Qr h;have:=hs0 x;revert hs this;generalize dt C An R (entry K.aJ K.lay fn.ntmps x)=o;intro hs this;cases o with
 |ret r=>obtain rfl:=aa6 hs;exact this
 |_=>cases this
def wC:Code→Code
 | .seq a _=>a
 |_=> .skip
def I2:Code→Code
 | .seq _ b=>b
 |_=> .skip
def ad0:Code→Code
 | .cond _ a _=>a
 |_=> .skip
def Xu:Code→Array Oper
 | .region _ ops _=>ops
 |_=> #[]
def cOp (c:Code) (i:Nat):Oper:=(Xu c).getD i ⟨none, .move (.tmp 0),0, "", #[],none⟩
end
end Go.Proofs.YtnlleofnjkeimaaGreatDoor.Dm
