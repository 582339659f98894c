/- The data machine (a part). -/
import Derived.Test.YtohagdoklnkljaaGreatM1
import Derived.Laws.Tables
import Derived.Lib.OthersKept
import Derived.Orders
namespace Go.Proofs.YtohagdoklnkljaaGreat.Dm
section
open Go
section
variable {c:Ctx} {μ:Nat→Loc} {fp:Nat→List Nat} {s:lx} {n:Nat} {o:Oper} {a:Act} {w:World} {r:iv} {C:Cx} {E:Env}
theorem aj.iP:{vs:List Value}→{ds:List ai}→aj c μ vs ds→ds.all ai.bC=true→∀ v∈vs,v.oneCell'=true
 |_,[],h,_=>by grind [aj]
 |_,d::ds,h,hc=>by
  simp only [aj] at h;obtain ⟨v,bm,rfl,h1,h⟩:=h;simp only [acY,aaE] at hc;intro u hu;rcases abE.1 hu with rfl|hu
  . exact h1.iP hc.1
  . exact aj.iP h hc.2 u hu
def spliced (D:Array Value) (pos:Nat) (vs:List Value):Array Value:=(D.toList.take pos++vs++D.toList.drop (pos+vs.length)).toArray
theorem cd {D:Array Value} {pos:Nat} {vs:List Value} (h:pos+vs.length≤D.size):(spliced D pos vs).size=D.size:=by grind [spliced]
theorem eH {D:Array Value} {pos:Nat} {vs:List Value} (h:pos+vs.length≤D.size) (j:Nat):
  (spliced D pos vs)[j]? =if pos≤j∧j<pos+vs.length then vs[j - pos]? else D[j]? :=by
 have hl:(D.toList.take pos).length=pos:=by simp;omega
 simp only [spliced,List.getElem?_toArray];grind
theorem F3 {P:Program} {t:Ty} {tid:TypeId} (dB:t.Ok P tid) {B pos:Nat} {D:Array Value} {T:TypeId} (hb:w.heap[B]? =some (.cells D T (0,0))) {v:Value} (hl:v.cells.toList.length=t.size)
  (yH:pos+t.size≤D.size) (h1:∀ u∈v.cells.toList,u.oneCell'=true):
  (storeVar tid ⟨B,pos,none⟩ v).run P w= .ok () (w.setRow B (spliced D pos v.cells.toList)):=by
 have py:=run_storeCells_at (P:=P) B pos T v.cells.toList 0 D w hb (by omega) h1;have hs:v.cells.size=t.size:=by rw [← hl];simp
 simp only [af0] at py;simp [storeVar,dB.kM,hs,py,spliced]
theorem jo {w:World} {B o' k n:Nat} {D:Array Value} {T:TypeId} (hb:w.heap[B]? =some (.cells D T (0,0))) {vs:List Value} (hk:k+vs.length≤n) (hn:o'+n≤D.size):
  aE (w.setRow B (spliced D (o'+k) vs)) B o' n=(aE w B o' n).take k++vs++(aE w B o' n).drop (k+vs.length):=by
 rw [cj (setRow_heap w B D _ T _ hb),cj hb];apply adQ;intro j;have hl:((D.toList.drop o').take n).length=n:=by simp;omega
 rcases ae0 j n with hj|hj
 . rw [aca hj,acb,acL,eH (by omega),aez]
   rcases ae0 j k with h1|h1
   . grind
   grind
 grind
theorem mQ {vs us:List Value} {ds es:List ai} (h:aj c μ vs ds) (h':aj c μ us es) (off:Nat):aj c μ (vs.take off++us++vs.drop (off+us.length)) (eV ds off es):=by
 unfold eV;rw [h'.length];exact ((h.take off).append h').append (h.drop _)
theorem iG {ds es:List ai} {off:Nat} (h:off+es.length≤ds.length):(eV ds off es).length=ds.length:=by grind [eV]
theorem mo {ds es:List ai} {off:Nat} (h:ds.all ai.bC=true) (h':es.all ai.bC=true):(eV ds off es).all ai.bC=true:=by
 simp only [eV,afW,aaE,aa1] at*;grind
theorem Bd {b:Bool} (h:¬ b=false):b=true:=by grind
variable (h:iE c μ fp s n a w)
include h
theorem Dq (hC:iT C c.P) (hE:∀ id x,E id=some x→s.v id=some x) {t:TypeId} {x y:Operand} (ho:o.op= .store t x y)
  {kd:Nat} (hr:(Out.of (C.ty t) fun t=>AY E kd t (fj s.t x) (fj s.t y)).eval=some r):pF c μ s o a w r:=by
 have hx:=h.cn x;have hy:=h.cn y;replace hr:=aM hr;obtain ⟨ty,kN,hr⟩:=hr;have dB:=hC.ty t ty kN;have run:∀ (B pos:Nat) (D:Array Value) (T:TypeId),a.eval x= .pointer (some ⟨B,pos,none⟩)→w.heap[B]? =some (.cells D T (0,0))→(a.eval y).cells.toList.length=ty.size→pos+ty.size≤D.size→
   (∀ u∈(a.eval y).cells.toList,u.oneCell'=true)→(execOp a.eval o).run c.P w= .ok .skip (w.setRow B (spliced D pos (a.eval y).cells.toList)):=by
  intro B pos D T hv hb hl hf h1;simp [execOp,ho,hv,Instr.storeAt,Instr.sureAddr,F3 dB hb hl hf h1]
 unfold AY at hr;split at hr
 . rename_i id off e
   rw [e] at hx;simp only [an] at hx;obtain ⟨B,o',hm,hv⟩:=hx;split at hr
   . rename_i cs eI
     split at hr
     . rename_i hc
       obtain ⟨hc1,hc2,hc3⟩:=hc;have hr:=aaG hr;subst hr;have ov:=hy.cells hc3;have hvl:=ov.length;obtain ⟨B2,o2,D,T,q1,q2,q3,q4,q5,q6,q7⟩:=h.vs.rel id _ (hE _ _ eI);rw [hm] at q1;cases q1;have ib:=run B (o'+off) D T hv q3 (by omega) (by omega) (ov.iP hc3);have hlen:(eV cs off (fj s.t y).cells).length=cs.length:=iG (by omega);have nk:cL c μ (w.setRow B (spliced D (o'+off) (a.eval y).cells.toList)) id [B] (.var (eV cs off (fj s.t y).cells)):=by
        refine ⟨B,o',_,T,hm,rfl,setRow_heap w B D _ T _ q3, ?_, ?_,mo q6 hc3, ?_⟩
        . rw [cd (by omega),hlen];exact q4
        . rw [hlen,jo q3 (by omega) q4]
          exact mQ q5 ov off
        . rw [hlen];exact q7
       have qy:=h.vs.ly (μ':=μ) (w':=w.setRow B (spliced D (o'+off) (a.eval y).cells.toList)) h.ev [] id _ [B] (fun _ _ _ _ _=>⟨rfl,fun _ _=>rfl⟩)
        (fun k hk dW _ b hb=>setRow_other w B b _ (fun e=>by
         subst e;exact h.vs.sep k id dW hk (by rw [hE _ _ eI];simp) b hb (by rw [q2];simp))) (by simp) nk (by simp)
        (fun b hb=> .inr ⟨id, .inl rfl,by rw [hE _ _ eI];simp,by rw [q2];exact hb⟩)
       refine vR ib ⟨fun _ _=>rfl,by simp [an],qy, ?_⟩;refine h.ev.setRow q3 (fun hs=>h.vs.jg id (by rw [hE _ _ eI];simp) B (by rw [q2];simp) hs) (cd (by omega)) (fun bZ j hj=> ?_);rw [eH (by omega)];rw [aap]
       rintro ⟨h1,h2⟩
       refine hj ?_;have:=q7 bZ (j - o') (by omega);rwa [show o'+(j - o')=j by omega] at this
     . cases hr
   . cases hr
 . rename_i id i off e
   rw [e] at hx;simp only [an] at hx;obtain ⟨b,o',len,cap,sz,hm,hi,hv⟩:=hx;replace hr:=aM hr;obtain ⟨vr,Gy,hr⟩:=hr;unfold SX at hr;split at hr
   . rename_i e' xs j cs
     split at hr
     case isFalse=>cases hr
     rename_i hc;obtain ⟨hc1,hc2,hc3⟩:=hc;rcases cb hr with ⟨yJ,h2⟩|⟨_,h2⟩
     case inr=>cases h2
     have yJ:i=j:=by simpa using yJ
     subst yJ;have h2:=aaG h2;subst h2;have ov:=hy.cells hc3;have hvl:=ov.length;obtain ⟨ad,cap2,b2,o2,D,T,p,q,q1,q2,q3,q4,q5,q6,q7,q8,q9,q10,q11,q13,q12⟩:=h.vs.rel id _ (hE _ _ Gy);rw [hm] at q1;cases q1;cases q2;have iU:o'+(i+1)*e'.size≤D.size:=by
      have:(i+1)*e'.size≤cap*e'.size:=ab9 _ (by omega);omega
     rw [acF] at iU;have ib:=run b (o'+i*e'.size+off) D T hv q4 (by omega) (by omega) (ov.iP hc3);have hlen:(eV cs off (fj s.t y).cells).length=cs.length:=iG (by omega);have k9:∀ b',b'≠b→(w.setRow b (spliced D (o'+i*e'.size+off) (a.eval y).cells.toList)).heap[b']? =w.heap[b']? :=fun b' dW=>setRow_other w b b' _ dW;have F4:s.v id≠none:=by rw [hE _ _ Gy];simp
     have xM:b∈fp id:=by rw [q3];simp
     have nk:cL c μ (w.setRow b (spliced D (o'+i*e'.size+off) (a.eval y).cells.toList)) id (b::(p++q)) (.vG e' xs i (eV cs off (fj s.t y).cells)):=by
      refine ⟨_,cap,b,o',_,T,p,q,hm,rfl,rfl,setRow_heap w b D _ T _ q4, ?_,q6,q7,q8.frame (Fz.le_refl _) (fun b' cf=>k9 b' fun e=>q13 (e ▸ cf)) (cd (by omega)) (fun j hj=> ?_), ?_,by rw [hlen];exact q10,mo q11 hc3,q13,fun b' cf=>q12 b' (q3 ▸ cf)⟩
      . rw [cd (by omega)];exact q5
      . rw [eH (by omega),aap]
        rw [acF] at hj;omega
      . rw [jo q4 (by omega) (by omega)]
        exact mQ q9 ov off
     have qy:=h.vs.ly (μ':=μ) (w':=w.setRow b (spliced D (o'+i*e'.size+off) (a.eval y).cells.toList)) h.ev [] id _ (b::(p++q)) (fun _ _ _ _ _=>⟨rfl,fun _ _=>rfl⟩)
      (fun k hk dW _ b' cf=>k9 b' (fun e=>by subst e;exact h.vs.sep k id dW hk F4 b' cf xM)) (by simp) nk (q3 ▸ h.vs.nodup id _ (hE _ _ Gy))
      (fun b' cf=> .inr ⟨id, .inl rfl,F4,q3 ▸ cf⟩)
     refine vR ib ⟨fun _ _=>rfl,by simp [an],qy, ?_⟩;exact h.ev.setRow q4 (fun hs=>h.vs.jg id F4 b xM hs) (cd (by omega)) (fun bZ j hj=>absurd (q12 b xM bZ j) hj)
   rename_i QM;clear QM;have Uw:(vr.dg off ty).size=ty.size:=by
    cases vr with
    |arr e' _=>exact (n8 (Ty.iQ e' off ty)).1
    |AW e' _ _ _ _ _ _=>exact (n8 (Ty.iQ e' off ty)).1
    |vG e' _ _ _=>exact (n8 (Ty.iQ e' off ty)).1
    |_=>rfl
   have run:∀ (B pos:Nat) (D:Array Value) (T:TypeId),a.eval x= .pointer (some ⟨B,pos,none⟩)→w.heap[B]? =some (.cells D T (0,0))→(a.eval y).cells.toList.length=(vr.dg off ty).size→pos+(vr.dg off ty).size≤D.size→
     (∀ u∈(a.eval y).cells.toList,u.oneCell'=true)→(execOp a.eval o).run c.P w= .ok .skip (w.setRow B (spliced D pos (a.eval y).cells.toList)):=by
    rw [Uw];exact run
   clear dB kN Uw;generalize vr.dg off ty=ty at hr run;unfold SW at hr;replace hr:=aM hr;obtain ⟨yy,hyy,hr⟩:=hr;split at hr
   . cases hr
   rename_i OE;simp only [not_or] at OE;obtain ⟨Kp,iZ⟩:=OE;have iZ:(fj s.t y).cells.all ai.bC=true:=by cases hq:(fj s.t y).cells.all ai.bC<;>simp_all
   have Kp:id ∉ yy.2:=by simpa using Kp
   have ov:=hy.cells iZ;obtain ⟨fy,hfy,mq⟩:=ye h.vs hE ov hyy;have hvl:=Ty.fh ty hfy;have F4:s.v id≠none:=by rw [hE _ _ Gy];simp
   split at hr
   . -- the list that is held beside goes back, changed
     split at hr
     . rename_i e' xs x0 j vJ u dS _
       split at hr
       . rename_i hq
         obtain ⟨rfl,ami⟩:=hq;have htu:=Ty.beq_eq _ _ ami;subst htu;replace hr:=cb hr;rcases hr with ⟨yJ,hr⟩|⟨_,hr⟩
         . have yJ:i=j:=by simpa using yJ
           subst yJ;replace hr:=ji hr;obtain ⟨z,hz,hr⟩:=hr;replace hr:=aM hr;obtain ⟨z',CU,hr⟩:=hr;have hr:=aaG hr;subst hr;obtain ⟨ad,cap2,g1,⟨a',nV,j7,e3,bb,ob,CC,EE,w1,w2,w3,w4,w5,w6,w7⟩,g3,g4,g5⟩:=h.vs.rel id _ (hE _ _ Gy);rw [hm] at g1;cases g1;cases w3;have Zi:ty.size=1:=by rw [w2];rfl
           have amj:o'+i*e'.size+off<CC.size:=(Array.getElem?_eq_some_iff.1 w6).1;have ib:=run b (o'+i*e'.size+off) CC EE hv w5 hvl (by omega) (ov.iP iZ);rw [Zi] at hvl;obtain ⟨hd,hhd⟩:=List.length_eq_one_iff.1 hvl;rw [hhd] at ib hfy;have amk:b ∉ fy:=fun xM=>by
            obtain ⟨k,hk,pD⟩:=mq.mem b xM;exact h.vs.sep id k (fun e=>Kp (e ▸ hk)) F4 (mq.there k hk).1 b w4 pD
           have k9:∀ b',b'≠b→(w.setRow b (spliced CC (o'+i*e'.size+off) [hd])).heap[b']? =w.heap[b']? :=fun b' dW=>setRow_other w b b' _ dW;have NY:=eH (D:=CC) (pos:=o'+i*e'.size+off) (vs:=[hd]) (by simp;omega);obtain ⟨z0,z1,f'',k1,k2,k3,k4⟩:=w7 c.fz (w.setRow b (spliced CC (o'+i*e'.size+off) [hd])) _ hd yy.1 fy (Fz.le_refl _) (setRow_heap w b CC _ EE _ w5) (cd (by simp;omega))
            (fun j hj=>by rw [NY,aap];simp;omega) (by rw [NY,aaK (by simp)];simp) (fun b' _ dW=>k9 b' dW) (Ty.df ty hfy fun b' cf=>k9 b' fun e=>amk (e ▸ cf))
           have hz:xs[i]? =some z:=hz;rw [hz] at k1;cases k1;rw [CU] at k2;cases k2;have pG:f''.Nodup:=k4.nodup_iff.2 (by
            rw [acd];refine ⟨h.vs.nodup id _ (hE _ _ Gy),mq.nodup,fun b1 h1 b2 h2 e=> ?_⟩;subst e;obtain ⟨k,hk,pD⟩:=mq.mem b1 h2;exact h.vs.sep id k (fun e=>Kp (e ▸ hk)) F4 (mq.there k hk).1 b1 h1 pD)
           have qy:=h.vs.ly (μ':=μ) (w':=w.setRow b (spliced CC (o'+i*e'.size+off) [hd])) h.ev yy.2 id (.arr e' (xs.set i z')) f'' (fun _ _ _ _ _=>⟨rfl,fun _ _=>rfl⟩)
            (fun k hk dW _ b' cf=>k9 b' (fun e=>by subst e;exact h.vs.sep k id dW hk F4 b' cf w4)) (by simp)
            ⟨some ⟨b,o',none⟩,cap,by simpa using hm,by simpa using k3,fun b' cf bZ=>by
             rcases aaN.1 (k4.mem_iff.1 cf) with h1|h1
             . exact g3 b' h1 bZ
             . exact mq.may b' h1 bZ⟩ pG
            (fun b' cf=>by
             rcases aaN.1 (k4.mem_iff.1 cf) with h1|h1
             . exact .inr ⟨id, .inl rfl,F4,h1⟩
             . obtain ⟨k,hk,pD⟩:=mq.mem b' h1
               exact .inr ⟨k, .inr hk,(mq.there k hk).1,pD⟩)
           refine vR ib ⟨fun _ _=>rfl,by simp [an],qy, ?_⟩;exact h.ev.setRow w5 (fun hs=>h.vs.jg id F4 b w4 hs) (cd (by simp;omega)) (fun bZ j hj=>absurd (g3 b w4 bZ j) hj)
         . cases hr
       . cases hr
     . cases hr
   . rename_i hnf
     have hnf:∀ k∈yy.2,k ∉ bG vr:=fun k hk mA=>hnf (.inl (List.any_eq_true.2 ⟨k,hk,by simpa using mA⟩));replace hr:=aM hr;obtain ⟨⟨e',xs⟩,hu,hr⟩:=hr;replace hr:=ji hr;obtain ⟨z,hz,hr⟩:=hr;replace hr:=aM hr;obtain ⟨z',CU,hr⟩:=hr;have hr:=aaG hr;subst hr;obtain ⟨ad,j7,f,g1,g2,g3,g4,g5,g6⟩:=gZ h.vs hE Gy hu;rw [hm] at g1;cases g1;obtain ⟨b2,o2,D,T,p,fi,q,k1,k2,k3,k4,k5,k6,k7⟩:=xx g2 hz;cases k1;obtain ⟨y0,Gq⟩:=Ty.jh e' CU;obtain ⟨pre,wA,post,f1,fm,f2,l1,l2,l3,l4,l5⟩:=Ty.lI e' k6 Gq;have hml:=Ty.fh ty l4;have hel:=Ty.fh e' k6;have aob:pre.length+ty.size+post.length=e'.size:=by rw [← hel,l1];simp [hml];omega
     have pG:f.Nodup:=g3.nodup_iff.2 (h.vs.jG _ g4 fun k hk=>(g5 k hk).1);have iU:o'+(i+1)*e'.size≤D.size:=by
      have:(i+1)*e'.size≤cap*e'.size:=ab9 _ (by omega);omega
     rw [acF] at iU;have ib:=run b (o'+i*e'.size+off) D T hv k2 hvl (by omega) (ov.iP iZ);have xM:b∈f:=by rw [k5];simp
     -- the blocks of what comes are not the list's
     have vQ:∀ b'∈fy,b' ∉ f:=fun b' h1 h2=>by
      obtain ⟨k,hk,pD⟩:=mq.mem b' h1;obtain ⟨k',mA,F5⟩:=List.mem_flatMap.1 (g3.mem_iff.1 h2);refine h.vs.sep k k' ?_ (mq.there k hk).1 (g5 k' mA).1 b' pD F5
      rintro rfl
      rcases abE.1 mA with e|e
      . exact Kp (e ▸ hk)
      . exact hnf k hk e
     have k9:∀ b',b'≠b→(w.setRow b (spliced D (o'+i*e'.size+off) (a.eval y).cells.toList)).heap[b']? =w.heap[b']? :=fun b' dW=>setRow_other w b b' _ dW;rw [k5,l3] at pG vQ;have hnb:b ∉ p++(f1++fm++f2)++q:=(ac9.1 pG).1;have vO:∀ b'∈p++(f1++fm++f2)++q,(w.setRow b (spliced D (o'+i*e'.size+off) (a.eval y).cells.toList)).heap[b']? =w.heap[b']? :=fun b' cf=>k9 b' fun e=>hnb (e ▸ cf);obtain ⟨x',hx1,Zg⟩:=l5 c.fz (w.setRow b (spliced D (o'+i*e'.size+off) (a.eval y).cells.toList)) (a.eval y).cells.toList yy.1 fy (Fz.le_refl _)
      (fun b' cf=>vO b' (by simp at cf ⊢; rcases cf with h|h<;>simp [h])) (Ty.df ty hfy fun b' cf=>k9 b' fun e=>vQ b' cf (by simp [e]))
     rw [CU] at hx1;cases hx1;have hcw:aE (w.setRow b (spliced D (o'+i*e'.size+off) (a.eval y).cells.toList)) b (o'+i*e'.size) e'.size=pre++(a.eval y).cells.toList++post:=by
      rw [jo k2 (by omega) (by omega),l1,hvl, ← l2];simp [← hml,aez]
     have dI:=k7 c.fz (w.setRow b (spliced D (o'+i*e'.size+off) (a.eval y).cells.toList)) z' (f1++fy++f2) _ (Fz.le_refl _) (setRow_heap w b D _ T _ k2) (cd (by omega))
      (fun j hj=>by rw [eH (by omega),aap];rw [acF] at hj;omega)
      (fun b' cf=>vO b' (by simp at cf ⊢; rcases cf with h|h<;>simp [h])) (fun cf=>hnb (by simp at cf ⊢; rcases cf with h|h<;>simp [h])) (by rw [hcw];exact Zg)
     have Kq:(b::(p++(f1++fy++f2)++q)).Perm ((b::(p++f1++f2++q))++fy):=vV b p f1 fy f2 q;have Ts:(b::(p++(f1++fm++f2)++q)).Perm ((b::(p++f1++f2++q))++fm):=vV b p f1 fm f2 q;have fH:∀ b'∈b::(p++f1++f2++q),b'∈b::(p++(f1++fm++f2)++q):=fun b' cf=>Ts.mem_iff.2 (aaN.2 (.inl cf));have OF:(b::(p++(f1++fy++f2)++q)).Nodup:=Kq.nodup_iff.2 (by
      rw [acd];refine ⟨(acd.1 (Ts.nodup_iff.1 pG)).1,mq.nodup,fun b1 h1 b2 h2 e=> ?_⟩;subst e;exact vQ b1 h2 (fH b1 h1))
     have Ib:∀ b'∈b::(p++(f1++fy++f2)++q),(∃ k∈id::bG vr,s.v k≠none∧b'∈fp k)∨b'∈fy:=by
      intro b' cf;rcases aaN.1 (Kq.mem_iff.1 cf) with h1|h1
      . left
        have:b'∈f:=by rw [k5,l3];exact fH b' h1
        obtain ⟨k,hk,pD⟩:=List.mem_flatMap.1 (g3.mem_iff.1 this);exact ⟨k,hk,(g5 k hk).1,pD⟩
      . exact .inr h1
     have Tl:∀ b'∈b::(p++(f1++fy++f2)++q),b'<c.w0.heap.size→∀ j,c.M b' j:=by
      intro b' cf bZ;rcases aaN.1 (Kq.mem_iff.1 cf) with h1|h1
      . exact g6 b' (by rw [k5,l3];exact fH b' h1) bZ
      . exact mq.may b' h1 bZ
     have qy:=h.vs.ly (μ':=μ) (w':=w.setRow b (spliced D (o'+i*e'.size+off) (a.eval y).cells.toList)) h.ev (bG vr++yy.2) id (.arr e' (xs.set i z')) _ (fun _ _ _ _ _=>⟨rfl,fun _ _=>rfl⟩)
      (fun k hk dW hnr b' cf=>k9 b' (fun e=>by
       subst e;obtain ⟨k',mA,F5⟩:=List.mem_flatMap.1 (g3.mem_iff.1 xM);refine h.vs.sep k k' ?_ hk (g5 k' mA).1 b' cf F5
       rintro rfl
       rcases abE.1 mA with e|e
       . exact dW e
       . exact hnr (aaN.2 (.inl e)))) (by simp)
      ⟨some ⟨b,o',none⟩,cap,by simpa using hm,by simpa using dI,Tl⟩ OF
      (fun b' cf=>by
       rcases Ib b' cf with ⟨k,hk,h1,h2⟩|h1
       . rcases abE.1 hk with e|e
         . exact .inr ⟨k, .inl e,h1,h2⟩
         . exact .inr ⟨k, .inr (aaN.2 (.inl e)),h1,h2⟩
       . obtain ⟨k,hk,pD⟩:=mq.mem b' h1
         exact .inr ⟨k,by grind,(mq.there k hk).1,pD⟩)
     refine vR ib ⟨fun _ _=>rfl,by simp [an],qy, ?_⟩;refine h.ev.setRow k2 (fun hs=> ?_) (cd (by omega)) (by grind);obtain ⟨k',mA,F5⟩:=List.mem_flatMap.1 (g3.mem_iff.1 xM);exact h.vs.jg k' (g5 k' mA).1 b F5 hs
 . cases hr
end
end
section
open Go
theorem Be (off:Nat):∀ (l:List Value) (k:Nat) (A:Array Value),off+k+l.length≤A.size→
  (l.zipIdx k).foldl (fun cs (x:Value×Nat)=>cs.setIfInBounds (off+x.2) x.1) A=spliced A (off+k) l
 |[],k,A,_=>by
  simp [spliced]
 |x::l,k,A,h=>by
  simp only [aai] at h;rw [List.zipIdx_cons,ade,show k+1=k+1 from rfl,Be off l (k+1) _ (by simp;omega)];apply Array.ext_getElem?;intro j;rw [eH (by simp;omega),eH (by simp;omega)];grind
theorem Ip (off:Nat) (v:Array Value) (A:Array Value) (h:off+v.size≤A.size):
  v.zipIdx.foldl (fun cs (x:Value×Nat)=>cs.setIfInBounds (off+x.2) x.1) A=spliced A off v.toList:=by
 have:=Be off v.toList 0 A (by simpa using h);rw [af0] at this;grind [Array.toList_zipIdx]
theorem Iq {place:Nat→Option (Nat×Nat)} {A:Array Value} {i:Nat} {v:Value} {r:List (Nat×Value)} {off size:Nat} (hp:place i=some (off,size)) (hv:v.cells.size=size) (h:off+size≤A.size):
  Instr.fill place A ((i,v)::r)=Instr.fill place (spliced A off v.cells.toList) r:=by
 rw [Instr.fill];simp only [hp];rw [aap (by simp [hv];omega), ← Ip off v.cells A (by omega)]
theorem aI.Cg.nb {P:Program}:(ts:aI)→∀ {fs:List Field} {o:Nat},ts.Cg P fs o→
  ∃ nb,fs.mapM (fun f=>(P.info? f.type).map fun i=>(f.offset,i.size))=some nb∧∀ k r,ts.offset k=some r→nb[k]? =some (o+r.1,r.2.size)
 | .nil,fs,o,h=>by
   simp only [aI.Cg] at h;subst h;exact ⟨[],by simp,fun k r hk=>by simp [aI.offset] at hk⟩
 | .cons t ts,fs,o,h=>by
   simp only [aI.Cg] at h;obtain ⟨f,q,rfl,h1,h2,h3⟩:=h;obtain ⟨nb,hp,hk⟩:=aI.Cg.nb ts h3;obtain ⟨i,z,hi,hs,_⟩:=h2.base;refine ⟨(f.offset,i.size)::nb,by simp [List.mapM_cons,hi,hp], ?_⟩;intro k r hr;cases k with
   |zero=>
    simp only [aI.offset,adh] at hr;subst hr;simp [h1,hs]
   |succ k=>
    simp only [aI.offset] at hr;obtain ⟨r',GQ,rfl⟩:=Option.map_eq_some_iff.1 hr;grind
section
variable {c:Ctx} {μ:Nat→Loc} {fp:Nat→List Nat} {s:lx} {n:Nat} {o:Oper} {a:Act} {w:World} {r:iv} {C:Cx} {E:Env}
theorem Ty.Tt {P:Program} {t:Ty} {tid:TypeId} (h:t.Ok P tid) {k:Nat} {r:Nat×Ty} (hk:t.field k=some r):r.1+r.2.size≤t.size:=by
 obtain ⟨_,_,_,_,_,_,h⟩:=h.field hk;exact h
theorem Ir {P:Program} {t:Ty} {tid:TypeId} (dB:t.Ok P tid) {place:Nat→Option (Nat×Nat)} (hp:∀ k r,t.field k=some r→place k=some (r.1,r.2.size)) {ev:Operand→ai} {av:Operand→Value}:
  ∀ (ps:List (Nat×Operand)) (A:Array Value) (cs cs':List ai),(∀ x∈ps,an c μ (av x.2) (ev x.2))→A.size=t.size→aj c μ A.toList cs→oV t ev ps cs=some cs'→
    ∃ A',Instr.fill place A (ps.map fun x=>(x.1,av x.2))=some A'∧aj c μ A'.toList cs'
 |[],A,cs,cs',_,_,hr,h=>by
  simp only [oV,adh] at h;subst h;exact ⟨A,rfl,hr⟩
 |(k,x)::ps,A,cs,cs',Af,hz,hr,h=>by
  simp only [oV] at h;split at h
  . rename_i off u hf
    split at h
    . rename_i hc
      have hx:=(Af (k,x) (by simp)).cells hc.2;have hl:=hx.length;have hle:=Ty.Tt dB hf;have vW:(av x).cells.size=u.size:=by grind
      simp only at hle;rw [acX,Iq (hp k _ hf) vW (by simp only;omega)];refine Ir dB hp ps _ _ _ (by grind) ?_ ?_ h
      . grind [cd]
      grind [mQ,spliced]
    . cases h
  . cases h
variable (h:iE c μ fp s n a w)
include h
theorem iE.Bf (x:Operand):∀ id∈(fj s.t x).ids,s.k id:=by
 intro id hi;cases x with
 |tmp j=>exact h.known.t j id hi
 |const v=>simp only [fj,ofValue] at hi;grind [ai.ids]
 |func f=>grind [fj,ai.ids,ai.bI]
 |global g=>grind [fj,ai.ids]
theorem OG (hC:iT C c.P) {t:TypeId} {ps:Array (Nat×Operand)} (ho:o.op= .build t ps) {fr:Nat}
  (iX:∀ id,fr≤id→id<fr+64→¬ s.k id)
  (hr:(Out.of (C.ty t) fun t=>if t.j2=true∧(t.bP t.zero fr).2.2≤fr+64 then
   .of (oV t (fj s.t) ps.toList (t.bP t.zero fr).1) fun cs=> .ret (.agg cs,news (t.bP t.zero fr).2.1) else .fail).eval=some r):pF c μ s o a w r:=by
 replace hr:=aM hr;obtain ⟨ty,kN,hr⟩:=hr;have dB:=hC.ty t ty kN;split at hr
 case isFalse=>cases hr
 rename_i py;obtain ⟨py,h64⟩:=py;replace hr:=aM hr;obtain ⟨cs,BS,hr⟩:=hr;have hr:=aaG hr;subst hr;obtain ⟨yG,I6,r1,ch⟩:=h.Dn ty (k:=fr) (by grind);obtain ⟨i,z,hi,hs,_,hz,Jb,ln⟩:=dB.base;have Af:∀ x:Operand,an c yG (a.eval x) (fj s.t x):=fun x=>an.mono _ (fun id eI=>ch.agree id (h.Bf x id eI)) (h.cn x);cases ty with
 |st fs=>
  have Tu:=dB;simp only [Ty.Ok] at Tu;obtain ⟨_,fields,hu,hf⟩:=Tu;obtain ⟨nb,hp,hk⟩:=aI.Cg.nb fs hf;have F2:z.cells.size=(Ty.st fs).size:=by grind [Ty.dN]
  obtain ⟨A',hA,ta⟩:=Ir (c:=c) (μ:=yG) dB (place:=fun i=>nb.toArray[i]?) (by grind [Ty.field]) (ev:=fj s.t) (av:=a.eval) ps.toList z.cells _ cs (fun x _=>Af x.2) F2 (by grind) BS;have hb:c.P.built t ((ps.map fun (i,x)=>(i,a.eval x)).toList)=some A':=by grind [Program.built,Array.toList_map]
  have ib:=run_build (P:=c.P) w t _ A' hb;refine dn (v':= .agg A') (by simp [execOp,ho,ib]) ⟨ch.agree, ?_,ch.rel,h.ev⟩;simp only [an];exact ⟨A',rfl,ta⟩
 |_=>grind [Ty.j2]
end
end
section
open Go
variable {z:Fz}
def Items (z:Fz) (w:World) (e:Ty) (cs:List Value) (xs:List e.D) (fps:List (List Nat)):Prop:=
 fps.length=xs.length∧∀ (i:Nat) (y:e.D) (f:List Nat),xs[i]? =some y→fps[i]? =some f→e.au z w ((cs.drop (i*e.size)).take e.size) y f
theorem Is {fps:List (List Nat)} {k:Nat} {f:List Nat} (hk:k<fps.length) (h:fps.flatten.Nodup) (hf:f.Nodup) (hd:∀ b∈f,b ∉ fps.flatten):
  (fps.set k f).flatten.Nodup∧∀ b∈(fps.set k f).flatten,b∈fps.flatten∨b∈f:=by
 have e1:=Ce fps k hk;have e2:(fps.set k f).flatten=(fps.take k).flatten++f++(fps.drop (k+1)).flatten:=by
  rw [List.set_eq_take_append_cons_drop,aaK hk];simp
 rw [e1] at h hd;rw [e2,e1];constructor
 . rw [acd] at h ⊢
   grind
 grind
theorem Cp {A:Array Value} {sz k i n:Nat} {vs:List Value} (hv:vs.length=sz) (hA:A.size=n*sz) (hk:k<n) (hi:i<n):
  ((spliced A (k*sz) vs).toList.drop (i*sz)).take sz=if i=k then vs else (A.toList.drop (i*sz)).take sz:=by
 have Fc:(k+1)*sz≤n*sz:=ab9 _ hk;have iU:(i+1)*sz≤n*sz:=ab9 _ hi;rw [acF] at Fc iU;apply adQ;intro j;by_cases hj:j<sz
 . rw [aca hj,acb,acL,eH (by omega)]
   by_cases e:i=k
   . grind
   . rw [aap e,aca hj,acb,acL,acL]
     refine aap ?_;intro ⟨h1,h2⟩;rcases ae0 i k with h|h
     . have:=ab9 sz (show i+1≤k from h)
       grind
     . have:=ab9 sz (show k+1≤i by omega)
       grind
 grind
section
variable {c:Ctx} {μ:Nat→Loc} {fp:Nat→List Nat} {s:lx} {n:Nat} {o:Oper} {a:Act} {w:World} {r:iv} {C:Cx} {E:Env}
theorem Bg {e:Ty} {xs:List e.D} {fps:List (List Nat)} {A:Array Value} {T:TypeId} {cap:Nat} (hi:Items z w e A.toList xs fps) (hc:xs.length≤cap∧xs.length≤aS) (hA:cap*e.size≤A.size) (bZ:∀ b∈fps.flatten,b<w.heap.size):
  (Ty.sl e).au z (w.alloc (.cells A T)) [.slice (some ⟨w.heap.size,0,none⟩) xs.length cap] xs (w.heap.size::fps.flatten):=by
 simp only [Ty.au];refine ⟨_,cap,rfl,hc, .inr ⟨w.heap.size,0,A,T,fps,rfl,heap_alloc_new w _,by omega,hi.1,rfl, ?_⟩⟩;intro i y f hy hf;have hy:xs[i]? =some y:=hy;have hf:fps[i]? =some f:=hf;have h1:=hi.2 i y f hy hf;rw [cj (heap_alloc_new w _),ada];grind [Ty.df,heap_alloc_old,List.mem_flatten,List.mem_of_getElem?]
theorem vX (hv:cX c μ fp s.v w) (hE:∀ id x,E id=some x→s.v id=some x) {e:Ty} {ev:Operand→ai} {av:Operand→Value}:
  ∀ (ps:List (Nat×Operand)) (A:Array Value) (xs:List e.D) (fps:List (List Nat)) (g:List Nat) (r:List e.D×List Nat),(∀ x∈ps,an c μ (av x.2) (ev x.2))→A.size=xs.length*e.size→
    Items c.fz w e A.toList xs fps→k8 c fp s.v E g fps.flatten→j3 E e ev ps xs g=some r→
    ∃ A' aiI,Instr.fill (fun i=>some (i*e.size,e.size)) A (ps.map fun x=>(x.1,av x.2))=some A'∧A'.size=xs.length*e.size∧r.1.length=xs.length∧Items c.fz w e A'.toList r.1 aiI∧k8 c fp s.v E r.2 aiI.flatten
 |[],A,xs,fps,g,r,_,hz,hi,hg,h=>by
  simp only [j3,adh] at h;subst h;exact ⟨A,fps,rfl,hz,rfl,hi,hg⟩
 |(k,x)::ps,A,xs,fps,g,r,Af,hz,hi,hg,h=>by
  simp only [j3] at h;split at h
  . cases h
  rename_i Dr;simp only [not_or] at Dr;obtain ⟨hkl,iZ⟩:=Dr;have hk:k<xs.length:=by omega
  have iZ:(ev x).cells.all ai.bC=true:=Bd iZ;obtain ⟨y,hy,h⟩:=Option.bind_eq_some_iff.1 h;split at h
  . cases h
  rename_i OH;have hvx:=(Af (k,x) (by simp)).cells iZ;obtain ⟨f,hf,yC⟩:=ye hv hE hvx hy;have hl:=Ty.fh e hf;have iU:(k+1)*e.size≤xs.length*e.size:=ab9 _ hk;rw [acF] at iU;have aoc:∀ i∈y.2,i ∉ g:=by grind
  have vQ:∀ b∈f,b ∉ fps.flatten:=fun b h1 h2=>by
   obtain ⟨i1,hi1,Cw⟩:=yC.mem b h1;obtain ⟨i2,hi2,I9⟩:=hg.mem b h2;exact hv.sep i1 i2 (by grind) (yC.there i1 hi1).1 (hg.there i2 hi2).1 b Cw I9
  obtain ⟨n1,n2⟩:=Is (f:=f) (by rw [hi.1];exact hk) hg.nodup yC.nodup vQ;rw [acX,Iq (off:=k*e.size) (size:=e.size) rfl (by grind) (by omega)];have:=vX hv hE ps (spliced A (k*e.size) (av x).cells.toList) (xs.set k y.1) (fps.set k f) (g++y.2) r (fun z hz=>Af z (by simp [hz]))
   (by grind [cd,List.length_set])
   ⟨by simp [hi.1],fun i z f' CU B5=>by
    have Ff:i<xs.length:=by grind
    rw [Cp hl hz hk Ff];by_cases e:i=k
    . grind
    . rw [aap e]
      rw [List.getElem?_set_ne (Ne.symm e)] at CU B5;exact hi.2 i z f' CU B5⟩
   ⟨fun b hb=>by
    rcases n2 b hb with hb|hb
    . obtain ⟨i,hi,hb⟩:=hg.mem b hb;grind
    . obtain ⟨i,hi,hb⟩:=yC.mem b hb;grind,n1,
    fun i hi=>by
     rcases aaN.1 hi with hi|hi
     . exact hg.there i hi
     . exact yC.there i hi,
    fun b hb bZ j=>by
     rcases n2 b hb with hb|hb
     . exact hg.may b hb bZ j
     . exact yC.may b hb bZ j⟩ h
  grind
theorem yg {zf:Fz} {e:Ty} {z:Array Value} (hz:z.toList=e.zeroV) (n:Nat):Items zf w e (madeCells z (n*e.size)).toList (List.replicate n e.zero) (List.replicate n []):=by
 refine ⟨by simp,fun i y f hy hf=> ?_⟩;have hi:i<n:=by grind
 rw [ae8,aaK hi] at hy hf;cases hy;cases hf;have Ph:e.zeroV.length=e.size:=Ty.dN e;have F2:z.size=e.size:=by grind
 have iU:(i+1)*e.size≤n*e.size:=ab9 _ hi;rw [acF] at iU;have:((madeCells z (n*e.size)).toList.drop (i*e.size)).take e.size=e.zeroV:=by
  apply adQ;intro k;by_cases hk:k<e.size
  . rw [aca hk,acb,acL]
    have ame:(i*e.size+k) % z.size=k:=by grind [Nat.add_comm,Nat.add_mul_mod_self_right,Nat.mod_eq_of_lt]
    rw [← hz,acL];simp only [madeCells];grind
  grind
 grind [Ty.iJ]
variable (h:iE c μ fp s n a w)
include h
theorem Bh (hC:iT C c.P) (hE:∀ id x,E id=some x→s.v id=some x) {t:TypeId} {m:Nat} {ps:Array (Nat×Operand)} (ho:o.op= .buildSlice t m ps) {fr:Nat} (iX:¬ s.k fr)
  (hr:(Out.of (C.ty t) fun t=> .of (tV t) fun e=>if m*e.size≤16777216 then
   .of (j3 E e (fj s.t) ps.toList (List.replicate m e.zero) []) fun y=> .ret (.cN fr none,(y.2.map fun k=>(k,none))++[(fr,some (.arr e y.1))]) else .fail).eval=some r):pF c μ s o a w r:=by
 replace hr:=aM hr;obtain ⟨ty,kN,hr⟩:=hr;replace hr:=aM hr;obtain ⟨e,he,hr⟩:=hr;have kN:C.ty t=some (.sl e):=sT he ▸ kN;obtain ⟨eid,hu,dB⟩:=(hC.ty t _ kN).sl;split at hr
 case isFalse=>cases hr
 rename_i hm;replace hr:=aM hr;obtain ⟨y,hy,hr⟩:=hr;have hr:=aaG hr;subst hr;obtain ⟨i,z,hi,hs,hb,hz,Jb,ln⟩:=dB.base;have Ph:e.zeroV.length=e.size:=Ty.dN e;obtain ⟨A',fps,hA,hAs,hyl,Ul,hg⟩:=vX (av:=a.eval) h.vs hE ps.toList (madeCells z.cells (m*e.size)) _ (List.replicate m []) [] y (fun x _=>h.cn x.2) (by rw [size_madeCells,ahE]) (yg Jb m)
  ⟨by simp,by simp,by simp,by simp⟩ hy
 simp only [ahE] at hAs hyl;have bZ:∀ b∈fps.flatten,b<w.heap.size:=fun b hb=>by
  obtain ⟨k,hk,hb⟩:=hg.mem b hb;exact h.vs.lt k (hg.there k hk).1 b hb
 have ib:(execOp a.eval o).run c.P w= .ok (.value (.slice (some ⟨w.heap.size,0,none⟩) m m)) (w.alloc (.cells A' eid)):=by
  have hzr:(zeroValue eid).run c.P w= .ok z w:=by simp [zeroValue,typeInfo,hi,hz]
  have Tv:Instr.fill (fun i=>some (i*e.size,e.size)) ((Array.range (m*e.size)).map (z.cells[· % z.cells.size]!)) (ps.toList.map fun x=>(x.1,a.eval x.2))=some A':=hA;by_cases h0:m*e.size=0
  . have hm0:m=0:=by grind [Nat.mul_eq_zero]
    subst hm0;have Tv:Instr.fill (fun i=>some (i*e.size,e.size)) ((Array.range 0).map fun _=>default) (ps.toList.map fun x=>(x.1,a.eval x.2))=some A':=by grind
    simp [execOp,ho,Instr.buildSlice,run_underlying hu,dB.kM,Tv,newRow]
  . have:¬ (16777216<m*e.size):=by omega
    simp [execOp,ho,Instr.buildSlice,run_underlying hu,dB.kM,this,h0,hzr,Tv,newRow]
 have ta:=Bg (T:=eid) (cap:=m) Ul ⟨by omega,by unfold aS;have:m*1≤m*e.size:=Nat.mul_le_mul_left _ (by omega);omega⟩ (by omega) bZ;rw [hyl] at ta;have nk:cL c (fun id=>if id=fr then .sS (some ⟨w.heap.size,0,none⟩) y.1.length m e.size else μ id) (w.alloc (.cells A' eid)) fr (w.heap.size::fps.flatten) (.arr e y.1):=by
  refine ⟨some ⟨w.heap.size,0,none⟩,m,by simp,by grind,fun b hb pC=> ?_⟩;rcases abE.1 hb with rfl|hb
  . have:=h.ev.size;omega
  . exact hg.may b hb pC
 obtain ⟨q1,q2⟩:=h.new iX y.2 _ _ _ (fun id hn _ b cf=>heap_alloc_old w _ b (h.vs.lt id hn b cf)) (by simp) nk
  (ac9.2 ⟨by grind,hg.nodup⟩) (fun b hb=>by
   rcases abE.1 hb with rfl|hb
   . simp_all
   . obtain ⟨k,hk,hb⟩:=hg.mem b hb
     exact .inr ⟨k,hk,(hg.there k hk).1,hb⟩)
 refine dn ib ⟨q1, ?_,q2,h.ev.alloc _ _⟩;grind [an]
end
end
section
open Go
variable {z:Fz}
mutual
theorem Ty.lL {w:World}:(t:Ty)→{cs:List Value}→{x:t.D}→{f:List Nat}→t.au z w cs x f→∀ v∈cs,v.oneCell'=true
 | .bool,_,_,_,h=>by simp only [Ty.au] at h;obtain ⟨rfl,_⟩:=h;simp [Value.oneCell']
 | .int _,_,_,_,h=>by simp only [Ty.au] at h;obtain ⟨rfl,_⟩:=h;simp [Value.oneCell']
 | .str,_,_,_,h=>by simp only [Ty.au] at h;obtain ⟨rfl,_⟩:=h;simp [Value.oneCell']
 | .hole,_,_,_,h=>by simp only [Ty.au] at h;grind
 | .sl _,_,_,_,h=>by simp only [Ty.au] at h;obtain ⟨a,cap,rfl,_⟩:=h;simp [Value.oneCell']
 | .fz _,_,_,_,h=>by simp only [Ty.au,Ty.aQ] at h;obtain ⟨⟨a,cap,rfl,_⟩,_⟩:=h;simp [Value.oneCell']
 | .st fs,_,_,_,h=>aI.lL fs (by simpa only [Ty.au] using h)
theorem aI.lL {w:World}:(t:aI)→{cs:List Value}→{x:t.D}→{f:List Nat}→t.au z w cs x f→∀ v∈cs,v.oneCell'=true
 | .nil,_,_,_,h=>by simp only [aI.au] at h;obtain ⟨rfl,_⟩:=h;simp
 | .cons t ts,_,_,_,h=>by
   simp only [aI.au] at h;obtain ⟨c1,c2,f1,f2,rfl,_,h1,h2⟩:=h;intro v hv;rcases aaN.1 hv with hv|hv
   . exact Ty.lL t h1 v hv
   . exact aI.lL ts h2 v hv
end
mutual
theorem Ty.qz {S:Nat→Prop} {w w':World}:(t:Ty)→{cs:List Value}→{x:t.D}→t.flat=true→t.aQ S w cs x→t.au z w' cs x []
 | .bool,_,_,_,h=>by simp only [Ty.aQ] at h;simp [Ty.au,h]
 | .int _,_,_,_,h=>by simp only [Ty.aQ] at h;simp [Ty.au,h]
 | .str,_,_,_,h=>by simp only [Ty.aQ] at h;simp [Ty.au,h]
 | .hole,_,_,_,h=>by simp only [Ty.aQ] at h;simp only [Ty.au];exact ⟨h,trivial⟩
 | .sl _,_,_,hf,_=>by simp [Ty.flat] at hf
 | .fz _,_,_,hf,_=>by simp [Ty.flat] at hf
 | .st fs,_,_,hf,h=>by simp only [Ty.au];exact aI.qz fs hf (by simpa only [Ty.aQ] using h)
theorem aI.qz {S:Nat→Prop} {w w':World}:(t:aI)→{cs:List Value}→{x:t.D}→t.flat=true→t.aQ S w cs x→t.au z w' cs x []
 | .nil,_,_,_,h=>by simp only [aI.aQ] at h;simp [aI.au,h]
 | .cons t ts,_,_,hf,h=>by
   simp only [aI.flat,aaE] at hf;simp only [aI.aQ] at h;obtain ⟨c1,c2,rfl,h1,h2⟩:=h;simp only [aI.au];exact ⟨c1,c2,[],[],rfl,rfl,Ty.qz t hf.1 h1,aI.qz ts hf.2 h2⟩
end
mutual
theorem Ty.n9 {c:Ctx} {w':World}:(t:Ty)→{cs:List Value}→{x:t.D}→t.ng=true→t.aQ c.S c.w0 cs x→t.au c.fz w' cs x []
 | .bool,_,_,_,h=>by grind [Ty.aQ,Ty.au]
 | .int _,_,_,_,h=>by grind [Ty.aQ,Ty.au]
 | .str,_,_,_,h=>by grind [Ty.aQ,Ty.au]
 | .hole,_,_,_,h=>by simp_all [Ty.aQ,Ty.au,trivial]
 | .sl _,_,_,hf,_=>by grind [Ty.ng]
 | .fz e,_,_,_,h=>by simp only [Ty.au];exact ⟨h,trivial⟩
 | .st fs,_,_,hf,h=>by simp only [Ty.au];exact aI.n9 fs (by simpa only [Ty.ng] using hf) (by simpa only [Ty.aQ] using h)
theorem aI.n9 {c:Ctx} {w':World}:(t:aI)→{cs:List Value}→{x:t.D}→t.ng=true→t.aQ c.S c.w0 cs x→t.au c.fz w' cs x []
 | .nil,_,_,_,h=>by grind [aI.aQ,aI.au]
 | .cons t ts,_,_,hf,h=>by
   simp only [aI.ng,aaE] at hf;simp only [aI.aQ] at h;obtain ⟨c1,c2,rfl,h1,h2⟩:=h;simp only [aI.au];exact ⟨c1,c2,[],[],rfl,rfl,Ty.n9 t hf.1 h1,aI.n9 ts hf.2 h2⟩
end
mutual
theorem Ty.qA {z:Fz} {w:World}:(t:Ty)→{cs:List Value}→{x:t.D}→{f:List Nat}→t.ng=true→t.au z w cs x f→f=[]
 | .bool,_,_,_,_,h=>by grind [Ty.au]
 | .int _,_,_,_,_,h=>by grind [Ty.au]
 | .str,_,_,_,_,h=>by grind [Ty.au]
 | .hole,_,_,_,_,h=>by grind [Ty.au]
 | .sl _,_,_,_,hf,_=>by grind [Ty.ng]
 | .fz _,_,_,_,_,h=>by grind [Ty.au]
 | .st fs,_,_,_,hf,h=>aI.qA fs (by simpa only [Ty.ng] using hf) (by simpa only [Ty.au] using h)
theorem aI.qA {z:Fz} {w:World}:(t:aI)→{cs:List Value}→{x:t.D}→{f:List Nat}→t.ng=true→t.au z w cs x f→f=[]
 | .nil,_,_,_,_,h=>by grind [aI.au]
 | .cons t ts,_,_,_,hf,h=>by
   simp only [aI.ng,aaE] at hf;simp only [aI.au] at h;obtain ⟨c1,c2,f1,f2,rfl,rfl,h1,h2⟩:=h;rw [Ty.qA t hf.1 h1,aI.qA ts hf.2 h2];rfl
end
def Src (z:Fz) (w:World) (e:Ty) (v:Value) (ys:List e.D) (gps:List (List Nat)):Prop:=
 ∃ a cap,v= .slice a ys.length cap∧gps.length=ys.length∧(ys=[]∨∃ b o,a=some ⟨b,o,none⟩∧
   ∀ (i:Nat) (y:e.D) (f:List Nat),ys[i]? =some y→gps[i]? =some f→e.au z w (aE w b (o+i*e.size) e.size) y f)
theorem It {w:World} {b o n:Nat} (h:(aE w b o n).length=n) (hn:0<n):∃ C E fr,w.heap[b]? =some (.cells C E fr)∧o+n≤C.size:=by grind [aE]
theorem iY {w:World} {b o n sz i:Nat} (hi:i<n):((aE w b o (n*sz)).drop (i*sz)).take sz=aE w b (o+i*sz) sz:=by
 have iU:(i+1)*sz≤n*sz:=ab9 _ hi;rw [acF] at iU;unfold aE;split
 . grind [List.drop_take,List.drop_drop]
 . simp
theorem Src.cells {w:World} {e:Ty} {b o:Nat} {ys:List e.D} {gps:List (List Nat)} (hl:gps.length=ys.length) (ln:0<e.size) (dW:ys≠[])
  (h:∀ (i:Nat) (y:e.D) (f:List Nat),ys[i]? =some y→gps[i]? =some f→e.au z w (aE w b (o+i*e.size) e.size) y f):
  ∃ C E fr,w.heap[b]? =some (.cells C E fr)∧o+ys.length*e.size≤C.size∧(aE w b o (ys.length*e.size)).length=ys.length*e.size∧
    Items z w e (aE w b o (ys.length*e.size)) ys gps∧∀ v∈aE w b o (ys.length*e.size),v.oneCell'=true:=by
 have hn:0<ys.length:=List.length_pos_iff.2 dW;have aiJ:=h (ys.length - 1) _ _ (aaf (by omega)) (aaf (by omega));have Z9:=Ty.fh e aiJ;obtain ⟨C,E,fr,hb,iU⟩:=It Z9 ln;have hmul:(ys.length - 1+1)*e.size=ys.length*e.size:=by rw [Nat.sub_add_cancel hn]
 rw [acF] at hmul;have hlen:(aE w b o (ys.length*e.size)).length=ys.length*e.size:=by rw [cj hb];simp;omega
 refine ⟨C,E,fr,hb,by omega,hlen,⟨hl,fun i y f hy hf=> ?_⟩,fun v hv=> ?_⟩
 . rw [iY (List.getElem?_eq_some_iff.1 hy).1];exact h i y f hy hf
 . obtain ⟨j,hj,hvj⟩:=afQ hv
   rw [hlen] at hj;have hi:j / e.size<ys.length:=(Nat.div_lt_iff_lt_mul ln).2 hj;have hr:=h (j / e.size) _ _ (aaf hi) (aaf (by omega));refine Ty.lL e hr v ?_;rw [← iY (n:=ys.length) hi,List.mem_iff_getElem?];refine ⟨j % e.size, ?_⟩;rw [aca (Nat.mod_lt _ ln),acb,Nat.div_add_mod', ← hvj];exact aaf _
theorem oi {w:World} {e:Ty} {cs ds:List Value} {xs ys:List e.D} {fps gps:List (List Nat)} (h:Items z w e cs xs fps) (h':Items z w e ds ys gps) (hl:cs.length=xs.length*e.size) (hl':ds.length=ys.length*e.size) (rest:List Value):
  Items z w e (cs++ds++rest) (xs++ys) (fps++gps):=by
 refine ⟨by simp [h.1,h'.1],fun i y f hy hf=> ?_⟩;rcases ae0 i xs.length with hi|hi
 . rw [afH hi] at hy
   rw [afH (by rw [h.1];exact hi)] at hf;have iU:(i+1)*e.size≤xs.length*e.size:=ab9 _ hi;rw [acF] at iU;have:=h.2 i y f hy hf;rw [aez,List.drop_append_of_le_length (by omega),List.take_append_of_le_length (by simp;omega)];exact this
 . rw [afG hi] at hy
   rw [afG (by rw [h.1];exact hi),h.1] at hf;have hj:i - xs.length<ys.length:=(List.getElem?_eq_some_iff.1 hy).1;have iU:(i - xs.length+1)*e.size≤ys.length*e.size:=ab9 _ hj;rw [acF] at iU;have:=h'.2 (i - xs.length) y f hy hf;have e1:i*e.size=cs.length+(i - xs.length)*e.size:=by rw [hl, ← acF];congr 1;omega
   rw [aez,e1,List.drop_append,ahi (by omega),aaL,show cs.length+(i - xs.length)*e.size - cs.length=(i - xs.length)*e.size by omega,
    List.drop_append_of_le_length (by omega),List.take_append_of_le_length (by simp;omega)]
   exact this
theorem Items.congr {w w':World} {e:Ty} {cs:List Value} {xs:List e.D} {fps:List (List Nat)} (h:Items z w e cs xs fps) (hs:∀ b∈fps.flatten,w'.heap[b]? =w.heap[b]?):Items z w' e cs xs fps:=
 ⟨h.1,fun i y f hy hf=>Ty.df e (h.2 i y f hy hf) fun b hb=>hs b (ahU.2 ⟨f,aeJ hf,hb⟩)⟩
theorem zJ {w:World} {e:Ty} {xs:List e.D} {fps:List (List Nat)} {C:Array Value} {T:TypeId} {b o cap:Nat} (hb:w.heap[b]? =some (.cells C T (0,0))) (hc:xs.length≤cap∧xs.length≤aS) (hC:o+cap*e.size≤C.size)
  (hi:Items z w e ((C.toList.drop o).take (xs.length*e.size)) xs fps):(Ty.sl e).au z w [.slice (some ⟨b,o,none⟩) xs.length cap] xs (b::fps.flatten):=by
 simp only [Ty.au];refine ⟨_,cap,rfl,hc, .inr ⟨b,o,C,T,fps,rfl,hb,hC,hi.1,rfl, ?_⟩⟩;intro i y f hy hf;have hy:xs[i]? =some y:=hy;have hf:fps[i]? =some f:=hf;have Ff:i<xs.length:=(List.getElem?_eq_some_iff.1 hy).1;have:=hi.2 i y f hy hf;rw [← cj hb,iY Ff] at this;exact this
end
section
open Go
variable {z:Fz}
section
variable {P:Program} {w:World}
theorem Iu (t ty e:TypeId) (i:TypeInfo) (ht:P.underlying t=some (.slice e)) (hi:P.info? e=some i)
  (g o dk fC:Nat) (cur:Array Value) (T:TypeId) (hg:w.heap[g]? =some (.cells cur T (0,0)))
  (a:Addr) (m c:Nat) (news:List Value) (hl:news.length=m*i.size) (uz:∀ j u,news[j]? =some u→w.cell? (a.add j)=some u) (h1:∀ u∈news,u.oneCell'=true)
  (tr:dk+m≤fC) (yH:o+dk*i.size+news.length≤cur.size):
  (Builtin.append_ #[t,t] ty #[.slice (some ⟨g,o,none⟩) dk fC, .slice (some a) m c]).run P w=
   .ok (.slice (some ⟨g,o,none⟩) (dk+m) fC) (w.setRow g (spliced cur (o+dk*i.size) news)):=by
 have hf:=run_firstCells_some (P:=P) w i.size m a m c news hl uz;have py:=run_storeCells_at P g (o+dk*i.size) T news 0 cur w hg (by simpa using yH) h1;simp only [af0] at py;simp [Builtin.append_,run_underlying ht,sizeOf,typeInfo,hi,Builtin.lenOf,tr,hf,Addr.add_lit,py,spliced]
theorem Iv (t ty e:TypeId) (i:TypeInfo) (ht:P.underlying t=some (.slice e)) (hi:P.info? e=some i) (s a:Option Addr) (dk fC c:Nat) (h:dk≤fC):
  (Builtin.append_ #[t,t] ty #[.slice s dk fC, .slice a 0 c]).run P w= .ok (.slice s dk fC) w:=by
 cases s<;>cases a<;>simp [Builtin.append_,run_underlying ht,sizeOf,typeInfo,hi,Builtin.lenOf,h,Builtin.firstCells,loadCells,loadCellsFrom,storeCells]
theorem F6 (t ty e:TypeId) (i:TypeInfo) (z:Value) (ht:P.underlying t=some (.slice e)) (hi:P.info? e=some i) (hz:i.zero=some z) (s:Option Addr)
  (a:Addr) (n c:Nat) (news:List Value) (hl:news.length=n*i.size) (uz:∀ j v,news[j]? =some v→w.cell? (a.add j)=some v)
  (h0:0<n) (h63:(n:Int)≤9223372036854775807) (h48:n*i.bytes≤281474976710656):
  (Builtin.append_ #[t,t] ty #[.slice s 0 0, .slice (some a) n c]).run P w=
   .ok (.slice (some ⟨w.heap.size,0,none⟩) n (grownCap w n 0 e)) (w.drew.alloc (.cells (news.toArray++Builtin.zeroCells z.cells (grownCap w n 0 e - n)) e)):=by
 have hn:n≠0:=by omega
 have aeP:¬ (9223372036854775807<(n:Int)):=by omega
 have aeQ:¬ (281474976710656<Builtin.nextslicecap n 0*i.bytes):=by grind [nextslicecap_zero]
 have hf:=run_firstCells_some (P:=P) w.drew i.size n a n c news hl (by simp_all);have hs:(Builtin.firstCells i.size 0 (.slice s 0 0)).run P w.drew= .ok #[] w.drew:=by
  cases s<;>simp [Builtin.firstCells,loadCells,loadCellsFrom]
 simp [Builtin.append_,run_underlying ht,sizeOf,typeInfo,zeroValue,hi,hz,Builtin.lenOf,hn,aeP,aeQ,Question.forced,hs,hf,newRow,grownCap]
structure qB (c:Ctx) (w:World) (e:Ty) (zs:List e.D) (fx gp:List Nat) (v':Value) (w':World) (f:List Nat):Prop where
 rep:(Ty.sl e).au c.fz w' [v'] zs f
 nodup:f.Nodup
 from_:∀ b∈f,(w.heap.size≤b∧b<w'.heap.size)∨b∈fx∨b∈gp
 size:w.heap.size≤w'.heap.size
 heap:∀ b,b ∉ fx→b<w.heap.size→w'.heap[b]? =w.heap[b]?
 ev:Ev c w→(∀ b∈fx,¬ c.S b)→(∀ b∈fx,b<c.w0.heap.size→∀ j,c.M b j)→Ev c w'
theorem iw (z:Array Value) (n:Nat):(Builtin.zeroCells z n).size=n*z.size:=by simp [Builtin.zeroCells]
theorem yh (c:Ctx) {eid:TypeId} {e:Ty} {i:TypeInfo} {z:Value} (hb:i.bytes≤1024) (F2:z.cells.size=e.size) {vx:Value} {xs ys:List e.D} {fx:List Nat} {gps:List (List Nat)}
  (hx:(Ty.sl e).au c.fz w [vx] xs fx) (Tw:fx.Nodup) (hg:gps.flatten.Nodup) (hd:∀ b∈gps.flatten,b ∉ fx) (hgl:∀ b∈gps.flatten,b<w.heap.size) (hn:xs.length+ys.length≤bV)
  {news:List Value} (q3:news.length=ys.length*e.size) (q4:Items c.fz w e news ys gps) {R:Value→Value→World→Prop}
  (R0:∀ s:Option Addr,(ys.length:Int)≤9223372036854775807→ys.length*i.bytes≤281474976710656→R (.slice s 0 0) (.slice (some ⟨w.heap.size,0,none⟩) ys.length (grownCap w ys.length 0 eid)) (w.drew.alloc (.cells (news.toArray++Builtin.zeroCells z.cells (grownCap w ys.length 0 eid - ys.length)) eid)))
  (aiM:∀ (g o dk fC:Nat) (cur:Array Value) (T:TypeId),w.heap[g]? =some (.cells cur T (0,0))→dk+ys.length≤fC→o+dk*e.size+news.length≤cur.size→
   R (.slice (some ⟨g,o,none⟩) dk fC) (.slice (some ⟨g,o,none⟩) (dk+ys.length) fC) (w.setRow g (spliced cur (o+dk*e.size) news)))
  (aiN:∀ (b:Addr) (dk fC:Nat) (Cq:List Value),Cq.length=dk*e.size→(∀ j v,Cq[j]? =some v→w.cell? (b.add j)=some v)→fC<dk+ys.length→((dk+ys.length:Nat):Int)≤9223372036854775807→
   Builtin.nextslicecap (dk+ys.length) fC*i.bytes≤281474976710656→R (.slice (some b) dk fC) (.slice (some ⟨w.heap.size,0,none⟩) (dk+ys.length) (grownCap w (dk+ys.length) fC eid))
    (w.drew.alloc (.cells (Cq.toArray++news.toArray++Builtin.zeroCells z.cells (grownCap w (dk+ys.length) fC eid - (dk+ys.length))) eid))):
  ∃ v' w' f,R vx v' w'∧qB c w e (xs++ys) fx gps.flatten v' w' f:=by
 simp only [Ty.au] at hx;have zA:(Ty.sl e).au c.fz w [vx] xs fx:=by simp only [Ty.au];exact hx
 obtain ⟨ax,cap,ex,⟨mW,_⟩,hx⟩:=hx;obtain rfl:vx= .slice ax xs.length cap:=by simpa using ex
 have aiO:∀ b∈fx,b<w.heap.size:=Ty.ij _ zA;unfold bV at hn;have F1:∀ k,k≤xs.length+ys.length→k*i.bytes≤140737488355328:=fun k hk=>by
  have:k*i.bytes≤68719476736*1024:=Nat.mul_le_mul (by omega) hb;omega
 -- what a new row is
 have grown:∀ (yd:List Value) (fps:List (List Nat)) (C0:Nat),yd.length=xs.length*e.size→Items c.fz w e yd xs fps→fps.flatten.Nodup→(∀ b∈fps.flatten,b∈fx)→
   qB c w e (xs++ys) fx gps.flatten (.slice (some ⟨w.heap.size,0,none⟩) (xs.length+ys.length) (grownCap w (xs.length+ys.length) C0 eid))
    (w.drew.alloc (.cells (yd.toArray++news.toArray++Builtin.zeroCells z.cells (grownCap w (xs.length+ys.length) C0 eid - (xs.length+ys.length))) eid)) (w.heap.size::(fps++gps).flatten):=by
  intro yd fps C0 ho hio hfn fH;have I5:=grownCap_ge w (xs.length+ys.length) C0 eid;have Ul:=oi hio q4 ho q3 (Builtin.zeroCells z.cells (grownCap w (xs.length+ys.length) C0 eid - (xs.length+ys.length))).toList;have bZ:∀ b∈(fps++gps).flatten,b<w.heap.size:=fun b hb=>by
   rw [afX,aaN] at hb;rcases hb with hb|hb
   . exact aiO b (fH b hb)
   . exact hgl b hb
  refine ⟨?_, ?_, ?_,by simp, ?_,fun h _ _=>h.drew.alloc _ _⟩
  . have:=Bg (w:=w.drew) (T:=eid) (cap:=grownCap w (xs.length+ys.length) C0 eid) (A:=yd.toArray++news.toArray++Builtin.zeroCells z.cells (grownCap w (xs.length+ys.length) C0 eid - (xs.length+ys.length)))
     (xs:=xs++ys) (fps:=fps++gps) (e:=e) (Items.congr (w:=w) (by simpa using Ul) (fun _ _=>rfl)) ⟨by simpa using I5,by rw [aao];exact aa3 hn (by decide)⟩ (by
      simp only [Array.size_append,List.size_toArray,iw,F2,ho,q3, ← acF];exact ab9 _ (by omega)) bZ
    simpa using this
  . rw [ac9,afX,acd]
    refine ⟨fun h=>Nat.lt_irrefl _ (bZ _ (by rw [afX];exact h)),hfn,hg,fun x h1 y h2 e=>hd y h2 (fH y (e ▸ h1))⟩
  . intro b hb
    rcases abE.1 hb with rfl|hb
    . exact .inl ⟨abD _,by simp⟩
    . rw [afX,aaN] at hb
      rcases hb with hb|hb
      . exact .inr (.inl (fH b hb))
      . exact .inr (.inr hb)
  . intro b _ hb
    exact heap_alloc_old w.drew _ b hb
 rcases hx with ⟨rfl,rfl⟩|⟨b,o,C,T,fps,rfl,OI,hC,qQ,rfl,hxi⟩
 . have hxn:xs=[]:=ac4 (by simpa using mW)
   subst hxn;have hr:=R0 ax (by simp at hn;omega) (by have:=F1 ys.length (by simp);omega);have:=grown [] [] 0 (by simp) ⟨rfl,by simp⟩ (by simp) (by simp);simp only [aat,ada,aaL,Array.empty_append] at this;exact ⟨_,_,_,hr,this⟩
 . have hTe:Items c.fz w e ((C.toList.drop o).take (xs.length*e.size)) xs fps:=by
    refine ⟨qQ,fun k y f hy hf=> ?_⟩;have:=hxi k y f hy hf;rwa [← cj OI,iY (List.getElem?_eq_some_iff.1 hy).1]
   have hxc:xs.length*e.size≤cap*e.size:=ab9 _ mW;have hxl:((C.toList.drop o).take (xs.length*e.size)).length=xs.length*e.size:=by simp;omega
   have xM:b ∉ fps.flatten:=(ac9.1 Tw).1;by_cases tr:xs.length+ys.length≤cap
   . have hrc:(xs.length+ys.length)*e.size≤cap*e.size:=ab9 _ tr
     rw [acF] at hrc;have hr:=aiM b o xs.length cap C T OI tr (by omega);have k9:∀ b',b'≠b→(w.setRow b (spliced C (o+xs.length*e.size) news)).heap[b']? =w.heap[b']? :=fun b' dW=>setRow_other w b b' _ dW;have hgb:∀ b'∈gps.flatten,b'≠b:=fun b' cf e=>hd b' cf (by simp [e]);have hfb:∀ b'∈fps.flatten,b'≠b:=fun b' cf e=>xM (e ▸ cf);have Ul:=oi hTe q4 hxl q3 [];have aa2:(((spliced C (o+xs.length*e.size) news).toList.drop o).take ((xs++ys).length*e.size))=(C.toList.drop o).take (xs.length*e.size)++news++[]:=by
      have:=jo (w:=w) (B:=b) (o':=o) (k:=xs.length*e.size) (n:=(xs.length+ys.length)*e.size) (vs:=news) OI (by rw [q3,acF];omega) (by rw [acF];omega);rw [cj (setRow_heap w b C _ T _ OI),cj OI] at this;rw [aao,this,aeI,q3,ahi (aa3 (List.length_take_le _ _) (by rw [acF];exact abD _)),aeI,List.take_take,Nat.min_eq_left (by rw [acF];omega)]
     refine ⟨_,_,b::(fps++gps).flatten,hr,⟨?_, ?_, ?_,by simp, ?_, ?_⟩⟩
     . have:=zJ (w:=w.setRow b (spliced C (o+xs.length*e.size) news)) (e:=e) (xs:=xs++ys) (fps:=fps++gps) (cap:=cap) (o:=o) (setRow_heap w b C _ T _ OI) (by grind)
        (by grind [cd]) (by
         rw [aa2];refine Items.congr (w:=w) Ul fun b' cf=>k9 b' ?_;rw [afX,aaN] at cf;rcases cf with cf|cf
         . exact hfb b' cf
         . exact hgb b' cf)
       grind
     . grind
     . grind
     . grind
     . intro Af hS hM
       exact Af.setRow OI (hS b (by simp)) (cd (by omega)) (by grind)
   . have aeS:∀ j u,((C.toList.drop o).take (xs.length*e.size))[j]? =some u→w.cell? ((⟨b,o,none⟩:Addr).add j)=some u:=fun j u hu=>by
      rw [Addr.add_lit];rw [← cj OI] at hu;exact gQ hu
     have hr:=aiN ⟨b,o,none⟩ xs.length cap _ hxl aeS (by omega) (by omega) (growslice_fits (by omega) (F1 _ (abD _)));grind
theorem o7 (c:Ctx) {t ty eid:TypeId} {e:Ty} (hu:P.underlying t=some (.slice eid)) (dB:e.Ok P eid) {vx vy:Value} {xs ys:List e.D} {fx:List Nat} {gps:List (List Nat)}
  (hx:(Ty.sl e).au c.fz w [vx] xs fx) (hy:Src c.fz w e vy ys gps) (Tw:fx.Nodup) (hg:gps.flatten.Nodup) (hd:∀ b∈gps.flatten,b ∉ fx) (hgl:∀ b∈gps.flatten,b<w.heap.size) (hn:xs.length+ys.length≤bV):
  ∃ v' w' f,(Builtin.append_ #[t,t] ty #[vx,vy]).run P w= .ok v' w'∧qB c w e (xs++ys) fx gps.flatten v' w' f:=by
 obtain ⟨i,z,hi,hs,hb,hz,Jb,ln⟩:=dB.base;obtain ⟨a,cy,rfl,amn,hy⟩:=hy;have zA:=hx;simp only [Ty.au] at hx;obtain ⟨ax,cap,ex,⟨mW,_⟩,hx⟩:=hx;obtain rfl:vx= .slice ax xs.length cap:=by simpa using ex
 have aiO:∀ b∈fx,b<w.heap.size:=Ty.ij _ zA;by_cases dW:ys=[]
 . subst dW
   refine ⟨.slice ax xs.length cap,w,fx,by grind [Iv],by grind,Tw,by grind,abD _,fun _ _ _=>rfl,fun h _ _=>h⟩
 . have hy:∃ b o,a=some ⟨b,o,none⟩∧∀ (i:Nat) (y:e.D) (f:List Nat),ys[i]? =some y→gps[i]? =some f→e.au c.fz w (aE w b (o+i*e.size) e.size) y f:=by grind
   obtain ⟨Zj,oy,ha,I7⟩:=hy;subst ha;have hm:0<ys.length:=by grind
   obtain ⟨CY,TY,frY,q1,q2,q3,q4,q5⟩:=Src.cells amn ln dW I7;have iZ:∀ j u,(aE w Zj oy (ys.length*e.size))[j]? =some u→w.cell? ((⟨Zj,oy,none⟩:Addr).add j)=some u:=by grind [Addr.add_lit,gQ]
   generalize aE w Zj oy (ys.length*e.size)=news at q3 q4 q5 iZ;have F2:z.cells.size=e.size:=by grind [Ty.dN]
   refine yh c (i:=i) (z:=z) (eid:=eid) hb F2 zA Tw hg hd hgl hn q3 q4 (R:=fun vx v' w'=>(Builtin.append_ #[t,t] ty #[vx, .slice (some ⟨Zj,oy,none⟩) ys.length cy]).run P w= .ok v' w')
    (by grind [F6,news])
    (fun g o dk fC cur T hg tr yH=> ?_)
    (by grind [run_append_grow,news])
   grind [Iu,news]
theorem F7 (t tn ty e:TypeId) (i:TypeInfo) (kq kn:IntKind) (ht:P.underlying t=some (.slice e)) (OJ:P.underlying tn=some (.int kn)) (hi:P.info? e=some i) (s:Option Addr) (dk fC:Nat) (h:dk≤fC):
  (Builtin.append_ #[t,tn] ty #[.slice s dk fC, .int kq 0]).run P w= .ok (.slice s dk fC) w:=by
 have hw:IntKind.i64.wrap 0=0:=by decide
 cases s<;>simp [Builtin.append_,run_underlying ht,run_underlying OJ,sizeOf,typeInfo,hi,asInt,asIntOf,hw,h,storeCells]
theorem F8 (t tn ty e:TypeId) (i:TypeInfo) (z:Value) (kq kn:IntKind) (ht:P.underlying t=some (.slice e)) (OJ:P.underlying tn=some (.int kn)) (hi:P.info? e=some i) (hz:i.zero=some z)
  (g o dk fC:Nat) (cur:Array Value) (T:TypeId) (hg:w.heap[g]? =some (.cells cur T (0,0))) (n:Nat) (h0:0<n) (hs:0<i.size) (h63:(n:Int)≤9223372036854775807) (h48:n*i.bytes≤281474976710656)
  (h1:∀ u∈(Builtin.zeroCells z.cells n).toList,u.oneCell'=true) (tr:dk+n≤fC) (yH:o+dk*i.size+(Builtin.zeroCells z.cells n).toList.length≤cur.size):
  (Builtin.append_ #[t,tn] ty #[.slice (some ⟨g,o,none⟩) dk fC, .int kq n]).run P w=
   .ok (.slice (some ⟨g,o,none⟩) (dk+n) fC) (w.setRow g (spliced cur (o+dk*i.size) (Builtin.zeroCells z.cells n).toList)):=by
 have py:=run_storeCells_at P g (o+dk*i.size) T (Builtin.zeroCells z.cells n).toList 0 cur w hg (by simpa using yH) h1;simp only [af0] at py;have hk:n≠0:=by omega
 have hw:IntKind.i64.wrap (n:Int)=n:=by rw [IntKind.wrap_i64];omega
 have aeT:¬ (281474976710656<(n:Int)*(i.bytes:Int)):=by grind
 have Ao:¬ ((n:Int)<0):=by omega
 have DX:¬ (n*i.size=0):=Nat.mul_ne_zero hk (by omega);simp [Builtin.append_,run_underlying ht,run_underlying OJ,sizeOf,typeInfo,zeroValue,hi,hz,asInt,asIntOf,hw,Ao,DX,aeT,hk,tr,Addr.add_lit,py,spliced]
theorem vY (t tn ty e:TypeId) (i:TypeInfo) (z:Value) (kq kn:IntKind) (ht:P.underlying t=some (.slice e)) (OJ:P.underlying tn=some (.int kn)) (hi:P.info? e=some i) (hz:i.zero=some z)
  (base:Option Addr) (dk fC:Nat) (Cq:List Value) (hold:(Builtin.firstCells i.size dk (.slice base dk fC)).run P w.drew= .ok Cq.toArray w.drew)
  (k:Nat) (h0:0<k) (hs:0<i.size) (hg:fC<dk+k) (h63:((dk+k:Nat):Int)≤9223372036854775807) (h48:k*i.bytes≤281474976710656) (yH:Builtin.nextslicecap (dk+k) fC*i.bytes≤281474976710656):
  (Builtin.append_ #[t,tn] ty #[.slice base dk fC, .int kq k]).run P w=
   .ok (.slice (some ⟨w.heap.size,0,none⟩) (dk+k) (grownCap w (dk+k) fC e))
    (w.drew.alloc (.cells (Cq.toArray++Builtin.zeroCells z.cells k++Builtin.zeroCells z.cells (grownCap w (dk+k) fC e - (dk+k))) e)):=by
 have hk:k≠0:=by omega
 have hw:IntKind.i64.wrap (k:Int)=k:=by rw [IntKind.wrap_i64];omega
 have hn:¬ (dk+k≤fC):=by omega
 have aeP:¬ (9223372036854775807<((dk:Int)+(k:Int))):=by omega
 have aeQ:¬ (281474976710656<Builtin.nextslicecap (dk+k) fC*i.bytes):=by omega
 have aeT:¬ (281474976710656<(k:Int)*(i.bytes:Int)):=by grind
 have Ao:¬ ((k:Int)<0):=by omega
 have DX:¬ (k*i.size=0):=Nat.mul_ne_zero hk (by omega);simp [Builtin.append_,run_underlying ht,run_underlying OJ,sizeOf,typeInfo,zeroValue,hi,hz,asInt,asIntOf,hw,hn,Ao,DX,aeP,aeQ,aeT,Question.forced,hold,newRow,grownCap]
theorem Iw (c:Ctx) {t tn ty eid:TypeId} {e:Ty} {kq kn:IntKind} (hu:P.underlying t=some (.slice eid)) (OJ:P.underlying tn=some (.int kn)) (dB:e.Ok P eid) {vx:Value} {xs:List e.D} {fx:List Nat} {n:Nat}
  (hx:(Ty.sl e).au c.fz w [vx] xs fx) (Tw:fx.Nodup) (hn:xs.length+n≤bV):
  ∃ v' w' f,(Builtin.append_ #[t,tn] ty #[vx, .int kq n]).run P w= .ok v' w'∧qB c w e (xs++List.replicate n e.zero) fx [] v' w' f:=by
 obtain ⟨i,z,hi,hs,hb,hz,Jb,ln⟩:=dB.base;by_cases s6:n=0
 . subst s6
   have zA:=hx;simp only [Ty.au] at hx;obtain ⟨ax,cap,ex,⟨mW,_⟩,_⟩:=hx;obtain rfl:vx= .slice ax xs.length cap:=by simpa using ex
   refine ⟨.slice ax xs.length cap,w,fx,by grind [F7],by grind,Tw,by grind,abD _,fun _ _ _=>rfl,fun h _ _=>h⟩
 have F2:z.cells.size=e.size:=by grind [Ty.dN]
 have hlen:(List.replicate n e.zero).length=n:=ahE;have apP:(Builtin.zeroCells z.cells n).toList=(madeCells z.cells (n*e.size)).toList:=by rw [← F2];rfl
 have Ul:Items c.fz w e (Builtin.zeroCells z.cells n).toList (List.replicate n e.zero) (List.replicate n []):=by grind [yg]
 have h1:∀ u∈(Builtin.zeroCells z.cells n).toList,u.oneCell'=true:=fun u zP=>by
  have hzo:∀ v∈z.cells.toList,v.oneCell'=true:=by
   rw [Jb];exact Ty.lL (z:=c.fz) (w:=w) e (Ty.iJ _ e)
  simp only [Builtin.zeroCells,Array.toList_map,List.mem_map] at zP;obtain ⟨j,_,rfl⟩:=zP;grind [Nat.mod_lt]
 have hq3:(Builtin.zeroCells z.cells n).toList.length=n*e.size:=by rw [Array.length_toList,iw,F2]
 have aeU:n*i.bytes≤281474976710656:=by
  have:n*i.bytes≤68719476736*1024:=Nat.mul_le_mul (by grind) hb;omega
 have:=yh (w:=w) c (i:=i) (z:=z) (eid:=eid) (ys:=List.replicate n e.zero) (gps:=List.replicate n []) hb F2 hx Tw (by simp) (by simp) (by simp) (by grind) (news:=(Builtin.zeroCells z.cells n).toList) (by grind) Ul
  (R:=fun vx v' w'=>(Builtin.append_ #[t,tn] ty #[vx, .int kq n]).run P w= .ok v' w')
  (fun s h63 h48=>by
   rw [hlen] at h63 h48 ⊢;have hs0:(Builtin.firstCells i.size 0 (.slice s 0 0)).run P w.drew= .ok ([]:List Value).toArray w.drew:=by
    cases s<;>simp [Builtin.firstCells,loadCells,loadCellsFrom]
   have:=vY (w:=w) t tn ty eid i z kq kn hu OJ hi hz s 0 0 [] hs0 n (by omega) (by omega) (by omega) (by grind) aeU (by rw [ada,nextslicecap_zero (by omega)];exact h48);simp_all)
  (fun g o dk fC cur T hg tr yH=>by
   rw [hlen] at tr ⊢;have:=F8 (w:=w) t tn ty eid i z kq kn hu OJ hi hz g o dk fC cur T hg n (by omega) (by omega) (by grind) aeU h1 tr (by grind);grind)
  (fun b dk fC Cq ho lU hgr h63 yH=>by
   rw [hlen] at hgr h63 yH ⊢;have hold:(Builtin.firstCells i.size dk (.slice (some b) dk fC)).run P w.drew= .ok Cq.toArray w.drew:=run_firstCells_some (P:=P) w.drew i.size dk b dk fC Cq (by grind) (by simp_all);have:=vY (w:=w) t tn ty eid i z kq kn hu OJ hi hz (some b) dk fC Cq hold n (by omega) (by omega) hgr h63 aeU yH;simp_all)
 simp_all
end
end
section
open Go
variable {z:Fz}
mutual
theorem Ty.qC {w:World}:(t:Ty)→{cs:List Value}→{x:t.D}→{f:List Nat}→t.flat=true→t.au z w cs x f→f=[]
 | .bool,_,_,_,_,h=>by simp only [Ty.au] at h;exact h.2
 | .int _,_,_,_,_,h=>by simp only [Ty.au] at h;exact h.2
 | .str,_,_,_,_,h=>by simp only [Ty.au] at h;exact h.2.1
 | .hole,_,_,_,_,h=>by simp only [Ty.au] at h;exact h.2
 | .sl _,_,_,_,hf,_=>by simp [Ty.flat] at hf
 | .st fs,_,_,_,hf,h=>aI.qC fs hf (by simpa only [Ty.au] using h)
theorem aI.qC {w:World}:(t:aI)→{cs:List Value}→{x:t.D}→{f:List Nat}→t.flat=true→t.au z w cs x f→f=[]
 | .nil,_,_,_,_,h=>by simp only [aI.au] at h;exact h.2
 | .cons t ts,_,_,_,hf,h=>by
   simp only [aI.flat,aaE] at hf;simp only [aI.au] at h;obtain ⟨c1,c2,f1,f2,rfl,rfl,h1,h2⟩:=h;rw [Ty.qC t hf.1 h1,aI.qC ts hf.2 h2];rfl
end
theorem Bi {S:Nat→Prop} {w:World} {t t':Ty} {cs:List Value} {x:t.D} {y:t'.D} (h:Ty.AV t t' x=some y) (hr:t.aQ S w cs x):t'.aQ S w cs y:=by
 obtain ⟨hz,rfl⟩:=Ty.oT h;exact Ty.iD _ _ hz _ _ hr
theorem Src.Nb {S:Nat→Prop} {w:World} {e:Ty} {v:Value} {ys:List e.D} (hf:e.flat=true) (h:(Ty.sl e).aQ S w [v] ys):Src z w e v ys (List.replicate ys.length []):=by
 simp only [Ty.aQ] at h;obtain ⟨a,cap,ev,hc,h⟩:=h;obtain rfl:v= .slice a ys.length cap:=by simpa using ev
 refine ⟨a,cap,rfl,by simp, ?_⟩;rcases h with h|⟨b,o,rfl,_,h⟩
 . exact .inl h
 . refine .inr ⟨b,o,rfl,fun i y f hy B5=> ?_⟩
   have:f=[]:=by rw [ae8] at B5;split at B5<;>simp_all
   subst this;exact Ty.qz e hf (h i y hy)
theorem Src.Zk {w:World} {e:Ty} {v:Value} {ys:List e.D} {f:List Nat} (h:(Ty.sl e).au z w [v] ys f):∃ gps,Src z w e v ys gps∧gps.flatten.Sublist f:=by
 simp only [Ty.au] at h;obtain ⟨a,cap,ev,hc,h⟩:=h;obtain rfl:v= .slice a ys.length cap:=by simpa using ev
 rcases h with ⟨h0,h1⟩|⟨b,o,C,E,fps,rfl,h1,h2,h3,h4,h5⟩
 . have:ys=[]:=ac4 (by omega)
   subst this;exact ⟨[],⟨a,cap,rfl,rfl, .inl rfl⟩,by simp⟩
 . refine ⟨fps,⟨_,cap,rfl,h3, .inr ⟨b,o,rfl,fun i y f hy hf=>h5 i y f hy hf⟩⟩, ?_⟩
   rw [h4];exact List.sublist_cons_self _ _
section
variable {c:Ctx} {μ:Nat→Loc} {fp:Nat→List Nat} {s:lx} {n:Nat} {o:Oper} {a:Act} {w:World} {r:iv} {C:Cx} {E:Env}
variable (h:iE c μ fp s n a w)
include h
theorem lA {e:Ty} {zs:List e.D} {fx gp:List Nat} {v':Value} {w':World} {f:List Nat} {fr:Nat} (iX:¬ s.k fr) (ap:qB c w e zs fx gp v' w' f) {gx gy:List Nat}
  (hx:k8 c fp s.v E gx fx) (hy:∀ b∈gp,(∃ id∈gy,s.v id≠none∧b∈fp id)∧(b<c.w0.heap.size→∀ j,c.M b j)) (ib:(execOp a.eval o).run c.P w= .ok (.value v') w'):
  pF c μ s o a w (.cN fr none,((gx++gy).map fun k=>(k,none))++[(fr,some (.arr e zs))]):=by
 have dI:=ap.rep;simp only [Ty.au] at dI;obtain ⟨ad,cap,ev,mW,_⟩:=dI;obtain rfl:v'= .slice ad zs.length cap:=by simpa using ev
 have nk:cL c (fun id=>if id=fr then .sS ad zs.length cap e.size else μ id) w' fr f (.arr e zs):=by
  refine ⟨ad,cap,by simp,ap.rep,fun b hb bZ=> ?_⟩;rcases ap.from_ b hb with ⟨h1,_⟩|h1|h1
  . have:=h.ev.size;omega
  . exact hx.may b h1 bZ
  . exact (hy b h1).2 bZ
 obtain ⟨q1,q2⟩:=h.new iX (gx++gy) _ _ _ (fun id hn hr b cf=>ap.heap b (fun hbx=>by
  obtain ⟨k,hk,pD⟩:=hx.mem b hbx;exact h.vs.sep id k (fun e=>hr (by simp [e,hk])) hn (hx.there k hk).1 b cf pD) (h.vs.lt id hn b cf)) ap.size nk ap.nodup (fun b hb=>by
  rcases ap.from_ b hb with h1|h1|h1
  . exact .inl h1
  . obtain ⟨k,hk,pD⟩:=hx.mem b h1
    exact .inr ⟨k,by simp [hk],(hx.there k hk).1,pD⟩
  . obtain ⟨⟨k,hk,hn,pD⟩,_⟩:=hy b h1
    exact .inr ⟨k,by simp [hk],hn,pD⟩)
 refine dn ib ⟨q1, ?_,q2,ap.ev h.ev (fun b hb=> ?_) hx.may⟩
 . simp only [an]
   exact ⟨ad,zs.length,cap,e.size,by simp,rfl⟩
 . obtain ⟨k,hk,pD⟩:=hx.mem b hb
   exact h.vs.jg k (hx.there k hk).1 b pD
omit h in
theorem Src.take {z:Fz} {w:World} {e:Ty} {a:Option Addr} {n cap:Nat} {ys:List e.D} {gps:List (List Nat)} (hs:Src z w e (.slice a n cap) ys gps) {o l:Nat} (hl:o+l≤ys.length) {a2:Option Addr} {cap2:Nat}
  (ha:l=0∨∃ b o',a=some ⟨b,o',none⟩∧a2=some ⟨b,o'+o*e.size,none⟩):Src z w e (.slice a2 l cap2) ((ys.drop o).take l) ((gps.drop o).take l):=by
 obtain ⟨a0,Oq,e0,hg,hi⟩:=hs;have hlen:((ys.drop o).take l).length=l:=by simp;omega
 refine ⟨a2,cap2,by rw [hlen],by simp [hg], ?_⟩;rcases ha with rfl|⟨b,o',rfl,rfl⟩
 . exact .inl (ahI)
 simp only [Value.slice.injEq] at e0;obtain ⟨rfl,_,_⟩:=e0;rcases hi with rfl|⟨b2,o2,e2,hi⟩
 . left;simp at hl;simp [hl]
 . simp only [adh,Addr.mk.injEq,agG] at e2
   obtain ⟨rfl,rfl⟩:=e2;refine .inr ⟨b,o'+o*e.size,rfl,fun i y f hy hf=> ?_⟩;have Ff:i<l:=by have:=(List.getElem?_eq_some_iff.1 hy).1;omega
   rw [aca Ff,acb] at hy hf;rw [show o'+o*e.size+i*e.size=o'+(o+i)*e.size by rw [acF];omega];exact hi (o+i) y f hy hf
omit h in
theorem Kr (hE:∀ id x,E id=some x→s.v id=some x) (hv:cX c μ fp s.v w) (ev:Ev c w) {e:Ty} (DX:e.ng=true) {d:ai} {x:Value} {ys:List e.D} (hx:an c μ x d) (hl:S0 E e d=some ys):Src c.fz w e x ys (List.replicate ys.length []):=by
 have whole:∀ {id:Nat} {e':Ty} {xs:List e'.D} {zs:List e.D},E id=some (.arr e' xs)→Ty.cast (.sl e') (.sl e) xs=some zs→∃ a cap,μ id= .sS a zs.length cap e.size∧Src c.fz w e (.slice a zs.length cap) zs (List.replicate zs.length []):=by
  intro id e' xs zs eI hc;obtain ⟨he,Cf⟩:=jn hc;subst he;obtain ⟨a,cap,h1,h2,_⟩:=hv.rel id _ (hE _ _ eI);obtain rfl:zs=xs:=Cf;refine ⟨a,cap,h1, ?_⟩;simp only [Ty.au] at h2;obtain ⟨a',j7,e1,mW,hi⟩:=h2;cases e1;refine ⟨a,cap,rfl,by simp, ?_⟩;rcases hi with ⟨h0,_⟩|⟨b,o,C,T,fps,ha,hb,_,qQ,_,hi⟩
  . exact .inl (ac4 (by omega))
  . refine .inr ⟨b,o,ha,fun i y f hy hf=> ?_⟩
    have hf0:f=[]:=by rw [ae8] at hf;split at hf<;>simp_all
    subst hf0;have bZ:i<fps.length:=by rw [qQ];exact (List.getElem?_eq_some_iff.1 hy).1
    have hr:=hi i y fps[i] hy (aaf bZ);rwa [Ty.qA e' DX hr] at hr
 cases d with
 |ni=>
  obtain rfl:([]:List e.D)=ys:=aaG hl;simp only [an] at hx;obtain ⟨a,rfl⟩:=hx;exact ⟨a,0,rfl,rfl, .inl rfl⟩
 |ro e' xs tk=>
  have hl:Ty.AV (.sl e') (.sl e) xs=some ys:=hl;simp only [an] at hx;have hr:=Bi hl hx.1;clear hl;simp only [Ty.aQ] at hr;obtain ⟨a,cap,e1,mW,hi⟩:=hr;obtain rfl:x= .slice a (List.length ys) cap:=by simpa using e1
  refine ⟨a,cap,rfl,by simp, ?_⟩;rcases hi with hi|⟨b,o,ha,hb,hi⟩
  . exact .inl hi
  . refine .inr ⟨b,o,ha,fun i y f hy hf=> ?_⟩
    have hf0:f=[]:=by rw [ae8] at hf;split at hf<;>simp_all
    subst hf0;rw [fc (ev.S b hb)];exact Ty.n9 e DX (hi i y hy)
 |cN id vw=>
  cases vw with
  |none=>
   have hl:(match E id with
    |some (.arr e' xs)=>Ty.cast (.sl e') (.sl e) xs
    |_=>none)=some ys:=hl
   rcases eI:E id with _|v<;>rw [eI] at hl
   . exact absurd hl (by simp)
   cases v with
   |arr e' xs=>
    obtain ⟨a,cap,h1,h2⟩:=whole eI (show Ty.cast (.sl e') (.sl e) xs=some ys from hl);simp only [an] at hx;obtain ⟨a',len,j7,sz,g1,rfl⟩:=hx;rw [h1] at g1;cases g1;exact h2
   |_=>exact absurd (show (none:Option (List e.D))=some ys from hl) (by simp)
  |some p=>
   obtain ⟨o,l⟩:=p;have hl:(match E id with
    |some (.arr e' xs)=>(Ty.cast (.sl e') (.sl e) xs).map fun (ys:List e.D)=>(ys.drop o).take l
    |_=>none)=some ys:=hl
   rcases eI:E id with _|v<;>rw [eI] at hl
   . exact absurd hl (by simp)
   cases v with
   |arr e' xs=>
    obtain ⟨zs,hc,F2⟩:=Option.map_eq_some_iff.1 (show (Ty.cast (.sl e') (.sl e) xs).map (fun (ys:List e.D)=>(ys.drop o).take l)=some ys from hl);subst F2;obtain ⟨a,cap,h1,h2⟩:=whole eI hc;simp only [an] at hx;obtain ⟨a',len,j7,sz,a2,g1,g2,g3,rfl,g4⟩:=hx;rw [h1] at g1;cases g1;have h3:=Src.take h2 (o:=o) (l:=l) g2 (a2:=a2) (cap2:=cap - o) (by
     by_cases Lz:l=0
     . exact .inl Lz
     . exact g4.elim (fun q=>by omega) .inr)
    have e1:((List.replicate zs.length ([]:List Nat)).drop o).take l=List.replicate ((zs.drop o).take l).length []:=by
     rw [List.drop_replicate,List.take_replicate];congr 1;simp
    rwa [e1] at h3
   |_=>exact absurd (show (none:Option (List e.D))=some ys from hl) (by simp)
 |_=>exact absurd (show (none:Option (List e.D))=some ys from hl) (by simp)
omit h in
theorem Tx {z:Fz} {w:World} {e:Ty} {a a' a2:Option Addr} {k o l cap:Nat} {ys:List e.D} {f:List Nat} (h1:k+ys.length≤cap) (h3:cap - k=0∨∃ b o,a=some ⟨b,o,none⟩∧a'=some ⟨b,o+k*e.size,none⟩)
  (hr:(Ty.sl e).au z w [.slice a' ys.length (cap - k)] ys f) (pG:f.Nodup) (hk:k≤o) (lU:o+l≤k+ys.length) (ha:cap - o=0∨∃ b o',a=some ⟨b,o',none⟩∧a2=some ⟨b,o'+o*e.size,none⟩):
  ∃ gps f',Src z w e (.slice a2 l (cap - o)) ((ys.drop (o - k)).take l) gps∧gps.flatten.Nodup∧f'.Nodup∧(∀ b∈gps.flatten,b∈f)∧(∀ b∈f',b∈f)∧(∀ b∈gps.flatten,b ∉ f')∧
    ∃ a3,(cap - (o+l)=0∨∃ b o',a=some ⟨b,o',none⟩∧a3=some ⟨b,o'+(o+l)*e.size,none⟩)∧(Ty.sl e).au z w [.slice a3 (ys.drop (o - k+l)).length (cap - (o+l))] (ys.drop (o - k+l)) f':=by
 simp only [Ty.au] at hr;obtain ⟨a0,Oq,e0,⟨_,UE⟩,hr⟩:=hr;simp only [ahb,Value.slice.injEq,agG] at e0;obtain ⟨e0,_,e2⟩:=e0;subst e0 e2;have bZ:((ys.drop (o - k)).take l).length=l:=by simp;omega
 have hld:(ys.drop (o - k+l)).length=k+ys.length - (o+l):=by simp;omega
 rcases hr with ⟨h0,rfl⟩|⟨b,oo,C,T,fps,rfl,hb,hC,qQ,rfl,hi⟩
 . have Lz:l=0:=by omega
   have Gq:ys=[]:=ac4 (by omega);subst Lz Gq;refine ⟨[],[],⟨a2,cap - o,by simp,by simp, .inl (by simp)⟩,by simp,by simp,by simp,by simp,by simp,none, .inl (by omega), ?_⟩;simp only [Ty.au];exact ⟨none,cap - (o+0),rfl,⟨by simp,by simp⟩, .inl ⟨by omega,trivial⟩⟩
 have hnf:fps.flatten.Nodup:=(ac9.1 pG).2;have xM:b ∉ fps.flatten:=(ac9.1 pG).1;have jt:fps.flatten=(fps.take (o - k)).flatten++(((fps.drop (o - k)).take l).flatten++(fps.drop (o - k+l)).flatten):=by
  conv=>lhs;rw [← af1 (o - k) fps, ← af1 l (fps.drop (o - k)),ahB]
  simp
 rw [jt] at hnf;have UH:=(acd.1 hnf).2.1;have hn3:=acd.1 UH;have iU:∀ x,x∈((fps.drop (o - k)).take l).flatten→x∈fps.flatten:=fun x hx=>by rw [jt];simp [hx]
 have aiQ:∀ x,x∈(fps.drop (o - k+l)).flatten→x∈fps.flatten:=fun x hx=>by
  rw [jt];exact ae5 _ (ae5 _ hx)
 have nt:Src z w e (.slice a2 l (cap - o)) ((ys.drop (o - k)).take l) ((fps.drop (o - k)).take l):=by
  refine ⟨a2,cap - o,by rw [bZ],by simp [qQ], ?_⟩;by_cases Lz:l=0
  . subst Lz;exact .inl (by simp)
  rcases ha with h0|⟨b1,o1,rfl,rfl⟩
  . omega
  rcases h3 with h0|⟨b2,o2,e1,e2⟩
  . omega
  simp only [adh,Addr.mk.injEq,agG] at e1 e2;obtain ⟨rfl,rfl⟩:=e1;obtain ⟨rfl,rfl⟩:=e2;refine .inr ⟨b,o1+o*e.size,rfl,fun i y f hy hf=> ?_⟩;have Ff:i<l:=by have:=(List.getElem?_eq_some_iff.1 hy).1;omega
  rw [aca Ff,acb] at hy hf;have hmul:k*e.size+(o - k+i)*e.size=o*e.size+i*e.size:=by rw [← acF, ← acF];congr 1;omega
  rw [show o1+o*e.size+i*e.size=o1+k*e.size+(o - k+i)*e.size by omega];exact hi (o - k+i) y f hy hf
 by_cases hc0:cap - (o+l)=0
 . refine ⟨(fps.drop (o - k)).take l,[],nt,hn3.1,by simp,fun x hx=>afV _ (iU x hx),by simp,by simp,none, .inl hc0, ?_⟩
   simp only [Ty.au];have:ys.drop (o - k+l)=[]:=ac4 (by omega);rw [this];exact ⟨none,cap - (o+l),rfl,⟨by simp,by simp⟩, .inl ⟨hc0,trivial⟩⟩
 . rcases h3 with h0|⟨b2,o2,rfl,e2⟩
   . omega
   simp only [adh,Addr.mk.injEq,agG] at e2;obtain ⟨rfl,rfl⟩:=e2;refine ⟨(fps.drop (o - k)).take l,b::(fps.drop (o - k+l)).flatten,nt,hn3.1,ac9.2 ⟨fun hx=>xM (aiQ b hx),hn3.2.1⟩,fun x hx=>afV _ (iU x hx),fun x hx=> ?_,fun x hx Zg=> ?_,some ⟨b,o2+(o+l)*e.size,none⟩, .inr ⟨b,o2,rfl,rfl⟩, ?_⟩
   . rcases abE.1 hx with rfl|hx
     . exact afS
     . exact afV _ (aiQ x hx)
   . rcases abE.1 Zg with rfl|Zg
     . exact xM (iU _ hx)
     . exact hn3.2.2 x hx x Zg rfl
   . simp only [Ty.au]
     have hmul:k*e.size+(o+l - k)*e.size=(o+l)*e.size:=by rw [← acF];congr 1;omega
     have aog:(cap - k)*e.size=(o+l - k)*e.size+(cap - (o+l))*e.size:=by rw [← acF];congr 1;omega
     refine ⟨_,cap - (o+l),rfl,⟨by omega,by omega⟩, .inr ⟨b,o2+(o+l)*e.size,C,T,fps.drop (o - k+l),rfl,hb,by omega,by simp [qQ],rfl,fun i y f hy hf=> ?_⟩⟩;have ov:ys[o - k+l+i]? =some y:=by rw [← acb];exact hy
     have B5:fps[o - k+l+i]? =some f:=by rw [← acb];exact hf
     have:=hi (o - k+l+i) y f ov B5;have aoh:k*e.size+(o - k+l+i)*e.size=(o+l)*e.size+i*e.size:=by rw [← acF, ← acF];congr 1;omega
     rwa [show o2+(o+l)*e.size+i*e.size=o2+k*e.size+(o - k+l+i)*e.size by omega]
omit h in
theorem Ks (hv:cX c μ fp s.v w) (hE:∀ id x,E id=some x→s.v id=some x) {e:Ty} {d:ai} {x:Value} {F:List Nat} {id o l k:Nat} {ys:List e.D} (hx:an c μ x d) (hl:FP E e d=some (F,id,o,l,k,ys)) (hk:k≤o):
  ∃ f gps f',k8 c fp s.v E (id::F) f∧Src c.fz w e x ((ys.drop (o - k)).take l) gps∧gps.flatten.Nodup∧f'.Nodup∧(∀ b∈gps.flatten,b∈f)∧(∀ b∈f',b∈f)∧(∀ b∈gps.flatten,b ∉ f')∧
    cL c μ w id f' (.cut e (ys.drop (o - k+l)) (o+l)):=by
 unfold FP at hl;split at hl
 case h_2=>cases hl
 rename_i id0 o0 l0;simp only [an] at hx;obtain ⟨ax,len,amq,sz,a2,g1,g2,g3,rfl,g4⟩:=hx;have fin:∀ {a a':Option Addr} {cap k0:Nat} {zs:List e.D} {F0 f:List Nat},k8 c fp s.v E (id0::F0) f→(F0,id0,o0,l0,k0,zs)=(F,id,o,l,k,ys)→μ id0= .sS a (k0+zs.length) cap e.size→k0+zs.length≤cap→(0<cap→∃ b o,a=some ⟨b,o,none⟩)→(cap - k0=0∨∃ b o,a=some ⟨b,o,none⟩∧a'=some ⟨b,o+k0*e.size,none⟩)→
   (Ty.sl e).au c.fz w [.slice a' zs.length (cap - k0)] zs f→
   ∃ f gps f',k8 c fp s.v E (id::F) f∧Src c.fz w e (.slice a2 l0 (amq - o0)) ((ys.drop (o - k)).take l) gps∧gps.flatten.Nodup∧f'.Nodup∧(∀ b∈gps.flatten,b∈f)∧(∀ b∈f',b∈f)∧(∀ b∈gps.flatten,b ∉ f')∧
     cL c μ w id f' (.cut e (ys.drop (o - k+l)) (o+l)):=by
  intro a a' cap k0 zs F0 f hg heq h1 h2 h2' h3 h4;simp only [Prod.mk.injEq] at heq;obtain ⟨rfl,rfl,rfl,rfl,rfl,rfl⟩:=heq;rw [h1] at g1;cases g1;obtain ⟨gps,f',q1,q2,q3,q4,q5,q6,a3,q7,q8⟩:=Tx h2 h3 h4 hg.nodup hk g2 g4;have hld:o0+l0+(zs.drop (o0 - k0+l0)).length=k0+zs.length:=by simp;omega
  refine ⟨f,gps,f',hg,q1,q2,q3,q4,q5,q6,_,_,a3,by rw [hld];exact h1,by omega,h2',q7,q8,fun b hb=>hg.may b (q5 b hb)⟩
 split at hl
 . rename_i e' xs k0 eI
   obtain ⟨zs,hc,F2⟩:=Option.map_eq_some_iff.1 hl;obtain ⟨he,Cf⟩:=jn hc;subst he;obtain rfl:zs=xs:=Cf;obtain ⟨a,cap,a',h1,h2,h3,h4,h5,h6⟩:=hv.rel id0 _ (hE _ _ eI);exact fin ⟨fun b hb=>⟨id0,by simp,hb⟩,hv.nodup _ _ (hE _ _ eI),fun k hk=>by
    obtain rfl:k=id0:=by simpa using hk
    exact ⟨by rw [hE _ _ eI];simp,by rw [eI];simp⟩,h6⟩ F2 h1 h2 h3 h4 h5
 . rename_i v _ eI
   obtain ⟨⟨e',xs⟩,hu,hl⟩:=Option.bind_eq_some_iff.1 hl;obtain ⟨zs,hc,F2⟩:=Option.map_eq_some_iff.1 hl;obtain ⟨he,Cf⟩:=jn hc;simp only at he;subst he;obtain rfl:zs=xs:=Cf;have xO:iS E e' (.cN id0 none)=some (zs,id0::bG v):=by
    simp only [iS,eI,hu,adb];exact congrArg (Option.map _) hc
   obtain ⟨a,cap,_,h1,_,_,_,_,_⟩:=gZ hv hE eI hu;obtain ⟨f,hr,hg⟩:=hJ hv hE (x:= .slice a zs.length cap) (by simp only [an];exact ⟨_,_,_,_,h1,rfl⟩) xO;have mW:zs.length≤cap∧(0<cap→∃ b o,a=some ⟨b,o,none⟩):=by
    have h2:=hr;simp only [Ty.au] at h2;obtain ⟨a',j7,e1,mW,hi⟩:=h2;cases e1;refine ⟨mW.1,fun hp=> ?_⟩;rcases hi with ⟨h0,_⟩|⟨b,o,_,_,_,ha,_⟩
    . omega
    . exact ⟨b,o,ha⟩
   refine fin hg F2 (by rw [ada];exact h1) (by omega) mW.2 ?_ (by simpa using hr);by_cases hc0:cap=0
   . exact .inl (by omega)
   . obtain ⟨b,o,rfl⟩:=mW.2 (by omega)
     exact .inr ⟨b,o,rfl,by simp⟩
 . cases hl
theorem Zl (hE:∀ id x,E id=some x→s.v id=some x) {t eid:TypeId} {fr:Nat} (iX:¬ s.k fr) {e:Ty} (hu:c.P.underlying t=some (.slice eid)) (dB:e.Ok c.P eid) {vx vy:Value} {xs ys:List e.D} {fx gx F:List Nat} {d:ai} {id o0 l k:Nat}
  (rx:(Ty.sl e).au c.fz w [vx] xs fx) (zC:k8 c fp s.v E gx fx) (hy:an c μ vy d) (hp:FP E e d=some (F,id,o0,l,k,ys)) (hk:k≤o0) (hl:xs.length+l≤bV) (OH:∀ i∈id::F,i ∉ gx)
  (ib:∀ v' w',(Builtin.append_ #[t,t] o.type #[vx,vy]).run c.P w= .ok v' w'→(execOp a.eval o).run c.P w= .ok (.value v') w'):
  pF c μ s o a w (.cN fr none,((gx++(id::F)).map fun k=>(k,none))++[(fr,some (.arr e (xs++(ys.drop (o0 - k)).take l))),(id,some (.cut e (ys.drop (o0 - k+l)) (o0+l)))]):=by
 obtain ⟨f0,gps,f',yC,nt,VJ,UH,UG,I1,hsd,amr⟩:=Ks h.vs hE hy hp hk;have eI:s.v id≠none:=(yC.there id (by simp)).1;have Z9:((ys.drop (o0 - k)).take l).length≤l:=by simp;omega
 have Tw:∀ b∈f0,b ∉ fx:=fun b h1 h2=>by
  obtain ⟨k1,BT,Cw⟩:=yC.mem b h1;obtain ⟨k2,Ko,I9⟩:=zC.mem b h2;exact h.vs.sep k1 k2 (fun e=>OH k1 BT (e ▸ Ko)) (yC.there k1 BT).1 (zC.there k2 Ko).1 b Cw I9
 have bZ:∀ b∈f0,b<w.heap.size:=fun b hb=>by
  obtain ⟨k1,BT,Cw⟩:=yC.mem b hb;exact h.vs.lt k1 (yC.there k1 BT).1 b Cw
 obtain ⟨v',w',f,g1,ap⟩:=o7 (P:=c.P) (ty:=o.type) c hu dB rx nt zC.nodup VJ (fun b hb=>Tw b (UG b hb)) (fun b hb=>bZ b (UG b hb)) (by omega);have dI:=ap.rep;simp only [Ty.au] at dI;obtain ⟨ad,cap,ev,mW,_⟩:=dI;generalize F2:xs++(ys.drop (o0 - k)).take l=zs at ap ev mW;obtain rfl:v'= .slice ad zs.length cap:=by simpa using ev
 obtain ⟨x0,zA⟩:=Option.ne_none_iff_exists'.1 eI;have nk:cL c (fun id=>if id=fr then .sS ad zs.length cap e.size else μ id) w' fr f (.arr e zs):=by
  refine ⟨ad,cap,by simp,ap.rep,fun b hb bZ=> ?_⟩;rcases ap.from_ b hb with ⟨h1,_⟩|h1|h1
  . have:=h.ev.size;omega
  . exact zC.may b h1 bZ
  . exact yC.may b (UG b h1) bZ
 obtain ⟨q1,q2⟩:=h.new iX (gx++(id::F)) _ _ _ (fun dS hn hr b cf=>ap.heap b (fun hbx=>by
  obtain ⟨k,hk,pD⟩:=zC.mem b hbx;exact h.vs.sep dS k (fun e=>hr (by rw [e];exact afU _ hk)) hn (zC.there k hk).1 b cf pD) (h.vs.lt dS hn b cf)) ap.size nk ap.nodup (fun b hb=>by
  rcases ap.from_ b hb with h1|h1|h1
  . exact .inl h1
  . obtain ⟨k,hk,pD⟩:=zC.mem b h1
    exact .inr ⟨k,afU _ hk,(zC.there k hk).1,pD⟩
  . obtain ⟨k,hk,pD⟩:=yC.mem b (UG b h1)
    exact .inr ⟨k,ae5 _ hk,(yC.there k hk).1,pD⟩)
 have GW:s.k id:=(h.known.v id x0 zA).1;have aoi:id≠fr:=fun e=>iX (e ▸ GW);have Z2:cL c (fun id=>if id=fr then .sS ad zs.length cap e.size else μ id) w' id f' (.cut e (ys.drop (o0 - k+l)) (o0+l)):=by
  refine cL.frame amr (fun b hb=>ap.heap b (Tw b (I1 b hb)) (bZ b (I1 b hb))) (q1 id GW) (fun _ hi=> ?_);simp [bQ.ids] at hi
 have q3:=q2.mn [] id (.cut e (ys.drop (o0 - k+l)) (o0+l)) f' (fun _ _ _ _ _=>⟨rfl,fun _ _=>rfl⟩) (fun _ _ _ _ _ _=>rfl) (abD _) Z2 UH (fun b hb=>by
  obtain ⟨k1,BT,Cw⟩:=yC.mem b (I1 b hb);refine ⟨h.vs.jg k1 (yC.there k1 BT).1 b Cw,acO (bZ b (I1 b hb)) ap.size,fun dS hv dW _ cf=> ?_⟩;rw [gI] at hv;by_cases hf:dS=fr
  . rw [aaK hf] at cf
    rcases ap.from_ b cf with ⟨h1,_⟩|h1|h1
    . have:=bZ b (I1 b hb);omega
    . exact Tw b (I1 b hb) h1
    . exact hsd b h1 hb
  . rw [aap hf] at hv cf
    split at hv
    . exact hv rfl
    . rename_i hni
      exact h.vs.sep dS k1 (fun e=>hni (by rw [e];exact ae5 _ BT)) hv (yC.there k1 BT).1 b cf Cw)
 rw [Il] at q3;refine dn (ib _ _ g1) ⟨q1, ?_,q3,ap.ev h.ev (fun b hb=> ?_) zC.may⟩
 . simp only [an]
   exact ⟨ad,zs.length,cap,e.size,by simp,rfl⟩
 . obtain ⟨k,hk,pD⟩:=zC.mem b hb
   exact h.vs.jg k (zC.there k hk).1 b pD
theorem Kt (hC:iT C c.P) (hE:∀ id x,E id=some x→s.v id=some x) {cl:Call} (hcl:cl.callee= .builtin .append) {t:TypeId} {x y:Operand} (ha:cl.args.toList=[x,y]) (LA:cl.argTypes.toList=[t,t]) (ho:o.op= .call cl)
  {fr:Nat} (iX:¬ s.k fr)
  (hr:(Out.of (C.ty t) fun t=> .of (tV t) fun e=>FQ E e (fj s.t x) (fj s.t y) fr).eval=some r):pF c μ s o a w r:=by
 have hx:=h.cn x;have hy:=h.cn y;replace hr:=aM hr;obtain ⟨ty,kN,hr⟩:=hr;replace hr:=aM hr;obtain ⟨e,he,hr⟩:=hr;have kN:C.ty t=some (.sl e):=sT he ▸ kN;obtain ⟨eid,hu,dB⟩:=(hC.ty t _ kN).sl;unfold FQ at hr;replace hr:=aM hr;obtain ⟨⟨xs,gx⟩,htx,hr⟩:=hr;obtain ⟨fx,rx,zC⟩:=hJ h.vs hE hx htx;have E8:cl.args= #[x,y]:=by rw [← ha]
 have Oy:cl.argTypes= #[t,t]:=by rw [← LA]
 have ib:∀ v' w',(Builtin.append_ #[t,t] o.type #[a.eval x,a.eval y]).run c.P w= .ok v' w'→(execOp a.eval o).run c.P w= .ok (.value v') w':=fun v' w' OK=>by
  simp [execOp,ho,resolve,hcl,E8,Oy,invoke,builtin,OK]
 have mq:∀ b∈fx,b<w.heap.size:=Ty.ij _ rx;split at hr
 . rename_i Nc
   replace hr:=aM hr;obtain ⟨ys,OC,hr⟩:=hr;split at hr
   . cases hr
   rcases cb hr with ⟨hl,hr⟩|⟨_,hr⟩
   . have hl:xs.length+ys.length≤bV:=abH hl
     have hr:=aaG hr;subst hr;have nt:=Src.Nb (z:=c.fz) Nc (oZ (S':=fun _=>True) h.vs h.ev hE (fun _ _=>trivial) (fun _ _ _ _=>trivial) hy OC);obtain ⟨v',w',f,g1,g2⟩:=o7 (P:=c.P) (ty:=o.type) c hu dB rx nt zC.nodup (by simp) (by simp) (by simp) hl;have:=lA h iX g2 (gy:=[]) zC (by simp) (ib _ _ g1);simpa using this
   . cases hr
 rcases Bool.eq_false_or_eq_true e.ng with DX|DX
 . rw [aaK DX] at hr
   replace hr:=aM hr;obtain ⟨ys,OC,hr⟩:=hr;split at hr
   . cases hr
   rcases cb hr with ⟨hl,hr⟩|⟨_,hr⟩
   . have hl:xs.length+ys.length≤bV:=abH hl
     have hr:=aaG hr;subst hr;have nt:=Kr hE h.vs h.ev DX hy OC;obtain ⟨v',w',f,g1,g2⟩:=o7 (P:=c.P) (ty:=o.type) c hu dB rx nt zC.nodup (by simp) (by simp) (by simp) hl;have:=lA h iX g2 (gy:=[]) zC (by simp) (ib _ _ g1);simpa using this
   . cases hr
 rw [aap (by rw [DX];exact Bool.false_ne_true)] at hr;split at hr
 . rename_i p hp
   obtain ⟨F,id,o0,l,k,ys⟩:=p;split at hr
   . cases hr
   rename_i OH;rcases cb hr with ⟨hl,hr⟩|⟨_,hr⟩
   . obtain ⟨hk,hl⟩:k≤o0∧xs.length+l≤bV:=abH hl
     have hr:=aaG hr;subst hr;exact Zl h hE iX hu dB rx zC hy hp hk hl (fun i hi hg=>OH (List.any_eq_true.2 ⟨i,hi,by simpa using hg⟩)) ib
   . cases hr
 replace hr:=aM hr;obtain ⟨⟨ys,gy⟩,OC,hr⟩:=hr;split at hr
 . cases hr
 rename_i OH;rcases cb hr with ⟨hl,hr⟩|⟨_,hr⟩
 . have hl:xs.length+ys.length≤bV:=abH hl
   have hr:=aaG hr;subst hr;obtain ⟨fy,ry,hgy⟩:=hJ h.vs hE hy OC;obtain ⟨gps,nt,fH⟩:=Src.Zk ry;have hd:∀ b∈gps.flatten,b ∉ fx:=fun b h1 h2=>by
    obtain ⟨k1,BT,Cw⟩:=hgy.mem b (fH.subset h1);obtain ⟨k2,Ko,I9⟩:=zC.mem b h2;exact h.vs.sep k1 k2 (fun e=>OH (List.any_eq_true.2 ⟨k1,BT,by simpa [e] using Ko⟩)) (hgy.there k1 BT).1 (zC.there k2 Ko).1 b Cw I9
   obtain ⟨v',w',f,g1,g2⟩:=o7 (P:=c.P) (ty:=o.type) c hu dB rx nt zC.nodup (hgy.nodup.sublist fH) hd (fun b hb=>Ty.ij _ ry b (fH.subset hb)) hl;exact lA h iX g2 zC (fun b hb=>by
    obtain ⟨k,hk,pD⟩:=hgy.mem b (fH.subset hb);exact ⟨⟨k,hk,(hgy.there k hk).1,pD⟩,hgy.may b (fH.subset hb)⟩) (ib _ _ g1)
 . cases hr
theorem Ix (hC:iT C c.P) (hE:∀ id x,E id=some x→s.v id=some x) {cl:Call} (hcl:cl.callee= .builtin .append) {t t':TypeId} {x y:Operand} (ha:cl.args.toList=[x,y]) (LA:cl.argTypes.toList=[t,t']) (ho:o.op= .call cl)
  {fr:Nat} (iX:¬ s.k fr)
  (hr:(Out.of (C.ty t) fun t=> .of (tV t) fun e=> .of (C.ty t') fun t'=>if t'.isInt=true then FR E e (fj s.t x) (fj s.t y) fr else .fail).eval=some r):pF c μ s o a w r:=by
 have hx:=h.cn x;have hy:=h.cn y;obtain ⟨ty,kN,hr⟩:=aM hr;obtain ⟨e,he,hr⟩:=aM hr;obtain ⟨ty',amt,hr⟩:=aM hr;have kN:C.ty t=some (.sl e):=sT he ▸ kN;obtain ⟨eid,hu,dB⟩:=(hC.ty t _ kN).sl;split at hr
 case isFalse=>cases hr
 rename_i hint;have OJ:∃ kn,c.P.underlying t'=some (.int kn):=by
  have Tu:=hC.ty t' ty' amt;cases ty' with
  |int k=>simp only [Ty.Ok] at Tu;exact ⟨k,Tu.2⟩
  |_=>cases hint
 obtain ⟨kn,OJ⟩:=OJ;unfold FR at hr;split at hr
 case h_2=>cases hr
 rename_i kq n hyv;obtain ⟨⟨xs,gx⟩,htx,hr⟩:=aM hr;obtain ⟨fx,rx,zC⟩:=hJ h.vs hE hx htx;rw [hyv] at hy;simp only [an] at hy;have E8:cl.args= #[x,y]:=by rw [← ha]
 have Oy:cl.argTypes= #[t,t']:=by rw [← LA]
 have ib:∀ v' w',(Builtin.append_ #[t,t'] o.type #[a.eval x,a.eval y]).run c.P w= .ok v' w'→(execOp a.eval o).run c.P w= .ok (.value v') w':=fun v' w' OK=>by
  simp [execOp,ho,resolve,hcl,E8,Oy,invoke,builtin,OK]
 rcases cb hr with ⟨hl,hr⟩|⟨_,hr⟩
 . have hl:0≤n∧xs.length+n.toNat≤bV:=abH hl
   obtain ⟨m,rfl⟩:∃ m:Nat,n=(m:Int):=⟨n.toNat,by omega⟩
   have hr:=aaG hr;subst hr;obtain ⟨v',w',f,g1,g2⟩:=Iw (P:=c.P) (ty:=o.type) c (kq:=kq) hu OJ dB (n:=m) rx zC.nodup (by simpa using hl.2);have:=lA h iX g2 (gy:=[]) zC (by simp) (ib _ _ (by rw [hy];exact g1));simpa using this
 . cases hr
omit h in
theorem Tz {α:Type} {xs ys:List α} {o n:Nat} (h1:o+n≤xs.length) (h2:n≤ys.length) (i:Nat):(xs.take o++ys.take n++xs.drop (o+n))[i]? =if o≤i∧i<o+n then ys[i - o]? else xs[i]? :=by
 have l1:(xs.take o).length=o:=by simp;omega
 have l2:(ys.take n).length=n:=by simp;omega
 by_cases q1:i<o
 . rw [aez,afH (by omega),aca q1,aap (by omega)]
 by_cases q2:i<o+n
 . rw [afH (by rw [aao];omega),afG (by omega),l1,aca (by omega),aaK (by omega)]
 . rw [afG (by rw [aao];omega),acb,aap (by omega),aao,l1,l2]
   congr 1;omega
omit h in
theorem TA {α:Type} {xs ys:List α} {o n:Nat} (h1:o+n≤xs.length) (h2:n≤ys.length):(xs.take o++ys.take n++xs.drop (o+n)).length=xs.length:=by simp;omega
omit h in
theorem Ku {C:Array Value} {news:List Value} {O o n sz i m:Nat} (hl:news.length=n*sz) (hC:O+m*sz≤C.size) (hon:o+n≤m) (hi:i<m):
  ((spliced C (O+o*sz) news).toList.drop (O+i*sz)).take sz=if o≤i∧i<o+n then (news.drop ((i - o)*sz)).take sz else (C.toList.drop (O+i*sz)).take sz:=by
 have iU:(i+1)*sz≤m*sz:=ab9 _ hi;have hom:(o+n)*sz≤m*sz:=ab9 _ hon;rw [acF] at iU hom;apply adQ;intro j;by_cases hj:j<sz
 . rw [aca hj,acb,acL,eH (by omega)]
   by_cases q:o≤i∧i<o+n
   . have e1:o*sz≤i*sz:=ab9 _ q.1
     have e2:(i+1)*sz≤(o+n)*sz:=ab9 _ q.2;rw [acF,acF] at e2;rw [aaK (by omega),aaK q,aca hj,acb];congr 1;rw [Nat.sub_mul];omega
   . have Ao:¬ (O+o*sz≤O+i*sz+j∧O+i*sz+j<O+o*sz+news.length):=by
      rintro ⟨g1,g2⟩
      rcases ae0 i o with g|g
      . have:=ab9 sz (show i+1≤o from g)
        rw [acF] at this;omega
      . have:=ab9 sz (show o+n≤i by omega)
        rw [acF] at this;omega
     rw [aap q,aca hj,acb,aap Ao,acL]
 . have hz:∀ l:List Value,(l.take sz)[j]? =none:=fun l=>aeH (by simp;omega)
   split<;>rw [hz,hz]
omit h in
theorem OL {P:Program} {w:World} (t t' ty e:TypeId) (i:TypeInfo) (ht:P.underlying t=some (.slice e)) (hi:P.info? e=some i) (s a:Option Addr) (dk fC m c:Nat) (h:min m dk=0):
  (Builtin.copy_ #[t,t'] ty #[.slice s dk fC, .slice a m c]).run P w= .ok (.int .i64 0) w:=by
 cases s<;>cases a<;>simp [Builtin.copy_,run_underlying ht,sizeOf,typeInfo,hi,Builtin.lenOf,h,Builtin.firstCells,loadCells,loadCellsFrom,storeCells,goInt]
omit h in
theorem TB {P:Program} {w:World} (t t' ty e:TypeId) (i:TypeInfo) (ht:P.underlying t=some (.slice e)) (hi:P.info? e=some i) (g o dk fC:Nat) (cur:Array Value) (T:TypeId) (hg:w.heap[g]? =some (.cells cur T (0,0)))
  (a:Addr) (m c n:Nat) (news:List Value) (hn:min m dk=n) (hl:news.length=n*i.size) (uz:∀ j u,news[j]? =some u→w.cell? (a.add j)=some u) (h1:∀ u∈news,u.oneCell'=true) (yH:o+news.length≤cur.size):
  (Builtin.copy_ #[t,t'] ty #[.slice (some ⟨g,o,none⟩) dk fC, .slice (some a) m c]).run P w= .ok (.int .i64 n) (w.setRow g (spliced cur o news)):=by
 have hf:=run_firstCells_some (P:=P) w i.size n a m c news hl uz;have py:=run_storeCells_at P g o T news 0 cur w hg (by simpa using yH) h1;simp only [af0] at py;simp [Builtin.copy_,run_underlying ht,sizeOf,typeInfo,hi,Builtin.lenOf,hn,hf,py,spliced,goInt]
theorem TC (hC:iT C c.P) (hE:∀ id x,E id=some x→s.v id=some x) {cl:Call} (hcl:cl.callee= .builtin .copy) {t t':TypeId} {x y:Operand} (ha:cl.args.toList=[x,y]) (LA:cl.argTypes.toList=[t,t']) (ho:o.op= .call cl)
  (hr:(Out.of (C.ty t) fun t=> .of (tV t) fun e=>S1 E e (fj s.t x) (fj s.t y)).eval=some r):pF c μ s o a w r:=by
 have hx:=h.cn x;have hy:=h.cn y;replace hr:=aM hr;obtain ⟨ty,kN,hr⟩:=hr;replace hr:=aM hr;obtain ⟨e,he,hr⟩:=hr;have kN:C.ty t=some (.sl e):=sT he ▸ kN;obtain ⟨eid,hu,dB⟩:=(hC.ty t _ kN).sl;obtain ⟨i,z,hi,hs,hb,hz,Jb,ln⟩:=dB.base;have E8:cl.args= #[x,y]:=by rw [← ha]
 have Oy:cl.argTypes= #[t,t']:=by rw [← LA]
 have ib:∀ v' w',(Builtin.copy_ #[t,t'] o.type #[a.eval x,a.eval y]).run c.P w= .ok v' w'→(execOp a.eval o).run c.P w= .ok (.value v') w':=fun v' w' OK=>by
  simp [execOp,ho,resolve,hcl,E8,Oy,invoke,builtin,OK]
 unfold S1 at hr;split at hr
 case h_2=>cases hr
 rename_i id vw ex;split at hr
 case isFalse=>cases hr
 rename_i Nc;replace hr:=aM hr;obtain ⟨v,hv,hr⟩:=hr;replace hr:=aM hr;obtain ⟨⟨e',xs'⟩,huf,hr⟩:=hr;replace hr:=aM hr;obtain ⟨xs,Cf,hr⟩:=hr;replace hr:=aM hr;obtain ⟨ys,OC,hr⟩:=hr;obtain ⟨he',Ux⟩:=jn Cf;simp only at he';clear Cf;subst he';subst Ux;replace hr:=aaG hr;subst hr;obtain ⟨ad,cap,f,g1,g2,g3,g4,g5,g6⟩:=gZ h.vs hE hv huf;have nt:=Src.Nb (z:=c.fz) Nc (oZ (S':=fun _=>True) h.vs h.ev hE (fun _ _=>trivial) (fun _ _ _ _=>trivial) hy OC);obtain ⟨ay,cy,hye,hgl,nt⟩:=nt
 -- where it goes
 have Kv:∃ a' c',a.eval x= .slice a' ((vw.map (·.2)).getD (List.length xs)) c'∧((vw.map (·.1)).getD 0+(vw.map (·.2)).getD (List.length xs)≤(List.length xs))∧
   ((vw.map (·.2)).getD (List.length xs)=0∨∃ b O,ad=some ⟨b,O,none⟩∧a'=some ⟨b,O+(vw.map (·.1)).getD 0*e'.size,none⟩):=by
  rw [ex] at hx;have aom:(List.length xs)≤cap:=by
   simp only [Ty.au] at g2;obtain ⟨_,_,q,hq,_⟩:=g2;simp only [ahb,Value.slice.injEq] at q;omega
  have aeV:(List.length xs)=0∨∃ b O,ad=some ⟨b,O,none⟩:=by
   simp only [Ty.au] at g2;obtain ⟨_,_,q,hq,hor⟩:=g2;simp only [ahb,Value.slice.injEq] at q;rcases hor with h0|⟨b,O,_,_,_,cf,_⟩
   . left;omega
   . right;exact ⟨b,O,by rw [q.1.1,cf]⟩
  rcases vw with _|⟨vo,vl⟩
  . simp only [an] at hx
    obtain ⟨a0,amv,Oq,sz0,q1,q2⟩:=hx;rw [g1] at q1;cases q1;refine ⟨_,_,q2,by simp, ?_⟩;rcases aeV with h0|⟨b,O,h0⟩
    . exact .inl h0
    . exact .inr ⟨b,O,h0,by simpa using h0⟩
  . simp only [an] at hx
    obtain ⟨a0,amv,Oq,sz0,a1,q1,q2,q3,q4,q5⟩:=hx;rw [g1] at q1;cases q1;refine ⟨_,_,q4,q2, ?_⟩;rcases q5 with q5|⟨b,O,q5,q6⟩
    . left;show vl=0;omega
    . right;exact ⟨b,O,q5,q6⟩
 generalize (vw.map (·.2)).getD (List.length xs)=l at*;generalize (vw.map (·.1)).getD 0=off at*;obtain ⟨a',c',Ux,lU,Kv⟩:=Kv;have pG:f.Nodup:=g3.nodup_iff.2 (h.vs.jG _ g4 fun k hk=>(g5 k hk).1);have wV:∀ (w':World) (zs:List e'.D),zs.length=(List.length xs)→(Ty.sl e').au c.fz w' [.slice ad zs.length cap] zs f→w.heap.size≤w'.heap.size→(∀ k,s.v k≠none→k≠id→k ∉ bG v→∀ b∈fp k,w'.heap[b]? =w.heap[b]?)→
   cX c μ (fun k=>if k=id then f else fp k) (cC s.v (((bG v).map fun k=>(k,none))++[(id,some (.arr e' zs))])) w':=fun w' zs Ph dI sW Ja=>
  h.vs.ly (μ':=μ) h.ev (bG v) id (.arr e' zs) f (fun _ _ _ _ _=>⟨rfl,fun _ _=>rfl⟩) Ja sW ⟨ad,cap,by rw [g1,Ph],dI,g6⟩ pG (fun b cf=>by
   obtain ⟨k,hk,pD⟩:=List.mem_flatMap.1 (g3.mem_iff.1 cf);rcases abE.1 hk with e1|e1
   . exact .inr ⟨k, .inl e1,(g5 k hk).1,pD⟩
   . exact .inr ⟨k, .inr e1,(g5 k hk).1,pD⟩)
 by_cases s6:min l ys.length=0
 . have e1:List.take off xs++ys.take (min l ys.length)++List.drop (off+min l ys.length) xs=xs:=by
    rw [s6,ahI,aeI,af0];exact af1 off xs
   have OK:=OL (P:=c.P) (w:=w) t t' o.type eid i hu hi a' ay l c' ys.length cy (by rw [Nat.min_comm];exact s6);rw [← Ux, ← hye] at OK;refine dn (ib _ _ OK) ⟨fun _ _=>rfl, ?_,wV w _ (by rw [e1]) (by rw [e1];exact g2) (abD _) fun _ _ _ _ _ _=>rfl,h.ev⟩;simp only [an];rw [s6];rfl
 . obtain ⟨b,O,had,E8⟩:∃ b O,ad=some ⟨b,O,none⟩∧a'=some ⟨b,O+off*e'.size,none⟩:=by
    rcases Kv with h0|h0
    . exact absurd (by omega) s6
    . exact h0
   subst had;subst E8;have dW:ys≠[]:=fun e0=>s6 (by rw [e0];simp);obtain ⟨Zj,oy,hay,hsi⟩:∃ b o,ay=some ⟨b,o,none⟩∧∀ (i:Nat) (y:e'.D) (f:List Nat),ys[i]? =some y→(List.replicate ys.length ([]:List Nat))[i]? =some f→e'.au c.fz w (aE w b (o+i*e'.size) e'.size) y f:=by
    rcases nt with h0|h0
    . exact absurd h0 dW
    . exact h0
   subst hay;obtain ⟨CY,TY,frY,q1,q2,q3,q4,q5⟩:=Src.cells hgl ln dW hsi;have iZ:∀ j u,(aE w Zj oy (ys.length*e'.size))[j]? =some u→w.cell? ((⟨Zj,oy,none⟩:Addr).add j)=some u:=fun j u hu=>by
    rw [Addr.add_lit];exact gQ hu
   have Uk:min l ys.length≤ys.length:=Nat.min_le_right _ _;have GI:off+min l ys.length≤(List.length xs):=by have:=Nat.min_le_left l ys.length;omega
   generalize hn:min l ys.length=n at*;generalize aE w Zj oy (ys.length*e'.size)=all at q3 q4 q5 iZ;have hnm:n*e'.size≤ys.length*e'.size:=ab9 _ Uk;have hlen:(all.take (n*e'.size)).length=n*e'.size:=by simp;omega
   have g2':=g2;simp only [Ty.au] at g2';obtain ⟨_,_,qe,mW,hor⟩:=g2';simp only [ahb,Value.slice.injEq,agG] at qe;obtain ⟨rfl,_,rfl⟩:=qe;rcases hor with ⟨h0,_⟩|⟨b2,O2,CC,EE,fps,hbe,OI,hCs,qQ,hfe,hxi⟩
   . exact absurd (by omega) s6
   . cases hbe
     have aaM:∀ f'∈fps,f'=[]:=fun f' B5=>by
      obtain ⟨k,hk,rfl⟩:=afQ B5;exact Ty.qC e' Nc (hxi k (@getElem (List e'.D) Nat e'.D _ _ xs k (qQ ▸ hk)) _ (aaf _) (aaf _))
     have hfb:f=[b]:=by rw [hfe,List.flatten_eq_nil_iff.2 aaM]
     have hxc:(List.length xs)*e'.size≤cap*e'.size:=ab9 _ mW.1;have hxm:(off+n)*e'.size≤(List.length xs)*e'.size:=ab9 _ GI;rw [acF] at hxm;have OK:=TB (P:=c.P) (w:=w) t t' o.type eid i hu hi b (O+off*e'.size) l c' CC EE OI ⟨Zj,oy,none⟩ ys.length cy n (all.take (n*e'.size)) (by rw [Nat.min_comm];exact hn) (by rw [hs];exact hlen)
      (fun j u zP=>iZ j u (by
       rw [ahd] at zP;split at zP
       . exact zP
       . cases zP)) (fun u zP=>q5 u (age zP)) (by rw [hlen];omega)
     rw [← Ux, ← hye] at OK;have aiS:(spliced CC (O+off*e'.size) (all.take (n*e'.size))).size=CC.size:=cd (by rw [hlen];omega);have Ph:=TA GI Uk;have dI:(Ty.sl e').au c.fz (w.setRow b (spliced CC (O+off*e'.size) (all.take (n*e'.size)))) [.slice (some ⟨b,O,none⟩) (List.length (List.take off xs++ys.take n++List.drop (off+n) xs)) cap] (List.take off xs++ys.take n++List.drop (off+n) xs) f:=by
      have amx:(List.replicate (List.length (List.take off xs++ys.take n++List.drop (off+n) xs)) ([]:List Nat)).flatten=[]:=List.flatten_eq_nil_iff.2 fun l hm=>(List.mem_replicate.1 hm).2;have:=zJ (z:=c.fz) (w:=w.setRow b (spliced CC (O+off*e'.size) (all.take (n*e'.size)))) (e:=e') (xs:=List.take off xs++ys.take n++List.drop (off+n) xs) (fps:=List.replicate (List.length (List.take off xs++ys.take n++List.drop (off+n) xs)) []) (cap:=cap) (o:=O)
       (setRow_heap w b CC _ EE _ OI) (by rw [Ph];exact mW) (by rw [aiS];exact hCs) ⟨by simp,fun k y' f' ov B5=> ?_⟩
      . rw [amx] at this
        rw [hfb];exact this
      . have hf0:f'=[]:=by rw [ae8] at B5;split at B5<;>simp_all
        subst hf0;have hk:k<(List.length xs):=by have:=(List.getElem?_eq_some_iff.1 ov).1;rw [Ph] at this;exact this
        have hkm:(k+1)*e'.size≤(List.length xs)*e'.size:=ab9 _ hk;rw [acF] at hkm;have hch:=Ku (C:=CC) (O:=O) (o:=off) (n:=n) (sz:=e'.size) (i:=k) (m:=(List.length xs)) hlen (by omega) GI hk;rw [Ph,List.drop_take,ahB,List.take_take,Nat.min_eq_left (by omega),hch];rw [Tz GI Uk] at ov;by_cases q:off≤k∧k<off+n
        . rw [aaK q] at ov ⊢
          have Fc:(k - off+1)*e'.size≤n*e'.size:=ab9 _ (by omega);rw [acF] at Fc;have:=q4.2 (k - off) y' [] ov (by rw [ae8,aaK (by have:=(List.getElem?_eq_some_iff.1 ov).1;exact this)]);rw [List.drop_take,List.take_take,Nat.min_eq_left (by omega)];exact Ty.df e' this (by simp)
        . rw [aap q] at ov ⊢
          have:=hxi k y' _ ov (aaf (by rw [qQ];exact hk));rw [aaM _ (acD _),cj OI] at this;exact Ty.df e' this (by simp)
     have aeW:b∈f:=by rw [hfb];simp
     refine dn (ib _ _ OK) ⟨fun _ _=>rfl,by simp only [an],wV _ _ Ph dI (by simp) (fun k hk dW hnr b' cf=> ?_), ?_⟩
     . refine setRow_other w b b' _ fun e1=> ?_
       subst e1;obtain ⟨k',mA,F5⟩:=List.mem_flatMap.1 (g3.mem_iff.1 aeW);refine h.vs.sep k k' ?_ hk (g5 k' mA).1 b' cf F5
       rintro rfl
       rcases abE.1 mA with e2|e2
       . exact dW e2
       . exact hnr e2
     . refine h.ev.setRow OI (fun hsS=> ?_) aiS fun bZ j hj=>absurd (g6 b aeW bZ j) hj
       obtain ⟨k',mA,F5⟩:=List.mem_flatMap.1 (g3.mem_iff.1 aeW);exact h.vs.jg k' (g5 k' mA).1 b F5 hsS
omit h in
theorem Ev.Zm {c:Ctx} {w:World} (h:Ev c w) (t:ByteArray) (p:Nat):Ev c (w.alloc (.stringIter t p)) where
 size:=by simp;have:=h.size;omega
 os:=h.os
 output:=h.output
 S b hb:=by
   have:=c.hS.1 b hb;have:=h.size;rw [heap_alloc_old w _ b (by omega)];exact h.S b hb
 yd b hb:=by
  have:=h.size;rw [heap_alloc_old w _ b (by omega)];exact h.yd b hb
 frozen a ha:=by
  have:=h.size;rw [← h.frozen a ha];simp only [World.frozen?];rw [heap_alloc_old w _ a.block (by omega)]
omit h in
theorem Ev.iterAt {c:Ctx} {w:World} (h:Ev c w) {b:Nat} {t:ByteArray} {p:Nat} (hb:w.heap[b]? =some (.stringIter t p)) (hs:¬ c.S b) (hm:b<c.w0.heap.size→c.M b 0) (p':Nat):Ev c (w.iterAt b t p') where
 size:=by rw [Lib.iterAt_size];exact h.size
 os:=h.os
 output:=h.output
 S b' cf:=by
   have:b'≠b:=fun e=>hs (e ▸ cf);rw [Lib.iterAt_other w b b' t p' this];exact h.S b' cf
 yd b' cf:=by
  by_cases e:b'=b
  . subst e
    rw [Lib.iterAt_heap w b' t p p' hb];rcases h.yd b' cf with h1|⟨_,_,_,_,h1,_⟩|⟨_,t',q,q',h0,h1⟩
    . exact .inr (.inr ⟨hm cf,t,p,p',by rw [← h1,hb],rfl⟩)
    . rw [hb] at h1;cases h1
    . rw [hb] at h1;cases h1
      exact .inr (.inr ⟨hm cf,_,_,_,h0,rfl⟩)
  . rw [Lib.iterAt_other w b b' t p' e];exact h.yd b' cf
 frozen a ha:=by
  rw [← h.frozen a ha];simp only [World.frozen?];by_cases e:a.block=b
  . rw [e,Lib.iterAt_heap w b t p p' hb,hb]
  . rw [Lib.iterAt_other w b a.block t p' e]
theorem OM (hC:iT C c.P) {t:TypeId} {x:Operand} (ho:o.op= .range t x) {fr:Nat} (iX:¬ s.k fr)
  (hr:(Out.of (C.ty t) fun t=>match t,fj s.t x with
  | .str, .s l=> .ret (.vptr fr 0,[(fr,some (.it l 0))])
  |_,_=> .fail).eval=some r):pF c μ s o a w r:=by
 have hx:=h.cn x;obtain ⟨ty,kN,hr⟩:=aM hr;have dB:=hC.ty t ty kN;split at hr
 . rename_i l e
   rw [e] at hx;simp only [an] at hx;simp only [Ty.Ok] at dB;have hr:=aaG hr;subst hr;obtain ⟨q1,q2⟩:=h.new iX [] (.at w.heap.size 0) (.it l 0) [w.heap.size] (w':=w.alloc (.stringIter ⟨l.toArray⟩ 0))
    (fun id hn _ b hb=>heap_alloc_old w _ b (h.vs.lt id hn b hb)) (by simp) ⟨w.heap.size,by simp,rfl,heap_alloc_new w _,hx.2,fun bZ=>by have:=h.ev.size;omega⟩ (by simp) (by simp)
   refine dn (v':= .pointer (some ⟨w.heap.size,0,none⟩)) ?_ ⟨q1, ?_,q2,h.ev.Zm _ _⟩
   . have hu:(underlying t).run c.P w= .ok .string w:=run_underlying dB.2 w
     simp [execOp,ho,Instr.range,hx.1,hu,newObj,Sem.run]
   . simp only [an];exact ⟨w.heap.size,0,by simp,rfl⟩
 . cases hr
theorem TD (hE:∀ id x,E id=some x→s.v id=some x) {x:Operand} (ho:o.op= .next x true) (hr:(S5 E (fj s.t x)).eval=some r):pF c μ s o a w r:=by
 have hx:=h.cn x;unfold S5 at hr;split at hr
 case h_2=>cases hr
 rename_i id e;rw [e] at hx;simp only [an] at hx;obtain ⟨B,o',aiT,hv⟩:=hx;split at hr
 case h_2=>cases hr
 rename_i t p eI;have eI:=hE id _ eI;obtain ⟨B0,A7,hfp,hB,UE,hM⟩:=h.vs.rel id _ eI;rw [A7] at aiT;cases aiT;have ib:∀ v' w',(Instr.next (.pointer (some ⟨B,0,none⟩)) true o.type).run c.P w= .ok v' w'→(execOp a.eval o).run c.P w= .ok (.value v') w':=fun v' w' OK=>by
  simp [execOp,ho,hv,OK]
 have sW:ByteArray.size ⟨t.toArray⟩=t.length:=by simp [ByteArray.size]
 rcases cb hr with ⟨hp,hr⟩|⟨hp,hr⟩
 . have hp:p<t.length:=abH hp
   rw [show nth t p=some t[p] from aaf hp] at hr;replace hr:(Out.ite (decide (t[p].toNat<128)) (.ret (.H5 [.b true, .i .i64 (p:Int), .i .i32 (t[p].toNat:Int)],[(id,some (.it t (p+1)))])) .fail:Out iv).eval=some r:=hr;rcases cb hr with ⟨ha,hr⟩|⟨_,hr⟩
   . have ha:t[p].toNat<128:=abH ha
     have hr:=aaG hr;subst hr;have J3:∀ E7,(ByteArray.mk t.toArray)[p]'E7=t[p]:=fun _=>by simp [ByteArray.getElem_eq_getElem_data]
     have g1:=Lib.run_next_ascii_at (P:=c.P) w B ⟨t.toArray⟩ p o.type hB (by rw [sW];exact hp) (by rw [J3];exact ha);rw [J3] at g1;have hbS:¬ c.S B:=h.vs.jg id (by rw [eI];simp) B (by rw [hfp];simp);have qy:=h.vs.ly (μ':=μ) (w':=w.iterAt B ⟨t.toArray⟩ (p+1)) h.ev [] id (.it t (p+1)) [B] (fun _ _ _ _ _=>⟨rfl,fun _ _=>rfl⟩)
      (fun k hk dW _ b hb=>Lib.iterAt_other w B b _ _ fun eb=>h.vs.sep k id dW hk (by rw [eI];simp) b hb (by rw [hfp,eb];simp)) (by rw [Lib.iterAt_size];exact abD _)
      ⟨B,A7,rfl,Lib.iterAt_heap w B _ p _ hB,UE,hM⟩ (by simp) (fun b hb=> .inr ⟨id, .inl rfl,by rw [eI];simp,by rw [hfp];exact hb⟩)
     refine dn (ib _ _ g1) ⟨fun _ _=>rfl, ?_,by simpa using qy,h.ev.iterAt hB hbS hM _⟩;simp [an,aj]
   . cases hr
 . have hp:¬ p<t.length:=by simpa using hp
   have hr:=aaG hr;subst hr;refine bz h (ib _ _ (Lib.run_next_end_at (P:=c.P) w B ⟨t.toArray⟩ p o.type hB (by rw [sW];exact hp))) ?_;simp [an,aj]
end
end
section
open Go
def la (P:Program) (f:FuncId) (args:Array Value) (w:World) (R:Value→World→Prop):Prop:=
 (∃ fn,P.funcs[f]? =some fn∧(fn.name== "runtime.NumGoroutine")=false∧fn.body.isNone=false)∧
 Calls P f args w fun
  | .returned v,w'=>R v w'
  |_,_=>False
def jq (C:Cx) (P:Program):Prop:=
 ∀ (f:Nat) (ds:List ai) (E:Env) (fr:Nat) (r:iv),(C.call f ds E fr).eval=some r→
   ∀ (c:Ctx) (μ:Nat→Loc) (fp:Nat→List Nat) (s:lx) (w:World) (vs:List Value),c.P=P→cX c μ fp s.v w→pt s→Ev c w→aj c μ vs ds→(∀ id∈ai.bI ds,s.k id)→
     (∀ id x,E id=some x→s.v id=some x)→(∀ id,fr≤id→id<fr+64→¬ s.k id)→
     la P f vs.toArray w fun v' w'=>∃ c' μ' fp',Ext c c'∧FV c' μ s r v' w' μ' fp'
def o8 (c:Ctx) (μ:Nat→Loc) (s:lx) (o:Oper) (a:Act) (w:World) (r:iv):Prop:=
 ∀ (K:Act→World→Prop) (Q:Exit→Act→World→Prop),(∀ c' v' w' μ' fp',Ext c c'→FV c' μ s r v' w' μ' fp'→K (a.put o.dst v') w')→o.wp c.P a w K Q
theorem pF.ext {c:Ctx} {μ:Nat→Loc} {s:lx} {o:Oper} {a:Act} {w:World} {r:iv} (h:pF c μ s o a w r):o8 c μ s o a w r:=
 fun K Q hK=>h K Q fun v' w' μ' fp' hp=>hK c v' w' μ' fp' (Ext.refl c) hp
theorem la.run {P:Program} {f:FuncId} {args:Array Value} {w:World} {R:Value→World→Prop} (h:la P f args w R):(callFunc f args).run P w= .ok (.enter f args) w:=by
 obtain ⟨⟨fn,h1,h2,h3⟩,_⟩:=h;have h2:¬ (fn.name= "runtime.NumGoroutine"):=by simpa using h2
 cases hb:fn.body with
 |none=>grind
 |some b=>simp_all [callFunc]
theorem Zn {α β:Type} (f:α→β) (l:Array α):(List.map f l.toList).toArray=l.map f:=by grind
theorem TE {α β:Type} (f:α→β) (l:Array α) (m:Array β):(List.map f l.toList++m.toList).toArray=l.map f++m:=by grind
mutual
theorem Ty.qD:(t:Ty)→t.BQ.ng=true
 | .bool=>rfl
 | .int _=>rfl
 | .str=>rfl
 | .hole=>rfl
 | .sl _=>rfl
 | .fz _=>rfl
 | .st fs=>by simp only [Ty.BQ,Ty.ng];exact aI.qD fs
theorem aI.qD:(t:aI)→t.BQ.ng=true
 | .nil=>rfl
 | .cons t ts=>by simp_all [aI.BQ,aI.ng,aaE,Ty.qD,aI.qD]
end
theorem TF {α β:Type} (h:α=β) (xs:List α):(cast (congrArg List h) xs).length=xs.length:=by subst h;rfl
theorem TG {α β:Type} (h:α=β) (xs:List α) (j:Nat):(cast (congrArg List h) xs)[j]? =(xs[j]?).map (cast h):=by subst h;grind
section
variable {c:Ctx} {μ:Nat→Loc} {fp:Nat→List Nat} {s:lx} {n:Nat} {o:Oper} {a:Act} {w:World} {r:iv} {C:Cx} {E:Env}
variable (h:iE c μ fp s n a w)
include h
omit h in
theorem Bj {f:FuncId} {args:Array Value} (ib:(execOp a.eval o).run c.P w=(callFunc f args).run c.P w) (hc:la c.P f args w fun v' w'=>∃ c' μ' fp',Ext c c'∧FV c' μ s r v' w' μ' fp'):o8 c μ s o a w r:=by
 intro K Q hK;simp only [Oper.wp,ib,hc.run,Oper.upon_enter];refine Calls.mono hc.2 fun e w' he=> ?_;grind
theorem Bk:∀ (l:List Operand),aj c μ (l.map a.eval) (l.map (fj s.t))
 |[]=>by simp [aj]
 |x::l=>by simp only [acX,aj];exact ⟨_,_,rfl,h.cn x,Bk l⟩
theorem Bl (l:List Operand):∀ id∈ai.bI (l.map (fj s.t)),s.k id:=by
 intro id hi;obtain ⟨d,hd,eI⟩:=gv.1 hi;obtain ⟨x,_,rfl⟩:=List.mem_map.1 hd;exact h.Bf x id eI
omit h in
theorem Zo {r0:iv} (hE:∀ id x,E id=some x→s.v id=some x) (hs:o8 c μ s o a w r0) (hr:(aeG E r0).eval=some r):o8 c μ s o a w r:=by
 unfold aeG at hr;split at hr
 case h_2=>cases hr
 rename_i id i off;split at hr
 case h_2=>cases hr
 rename_i e xs eI;obtain ⟨ys,OC,hr⟩:=aM hr;change List e.BQ.D at ys;obtain rfl:=aaG hr;intro K Q hK;refine hs K Q fun c' v' w' μ' fp' Iy hp=> ?_;have hsv:s.v id=some (.arr e xs):=hE id _ eI;have vW:cX c' μ' fp' s.v w':=hp.vs;obtain ⟨ad,cap,hm,dI,Tl⟩:=vW.rel id _ hsv;have dW:s.v id≠none:=by rw [hsv];simp
 have pG:=vW.nodup id _ hsv;obtain ⟨hz,_⟩:=Ty.oT OC;have sW:e.BQ.size=e.size:=by
  have hz:e.mz e.BQ=true:=hz;grind [Ty.j1]
 have aiU:=dI;simp only [Ty.au] at dI;obtain ⟨a0,Oq,e0,mW,dI⟩:=dI;cases e0;have hI:∃ G:List Nat,(∀ b∈G,b∈fp' id)∧∀ (S':Nat→Prop) (tX:Gw S' w'),(∀ b,c'.S b→S' b)→(∀ b∈G,S' b)→∃ f',(∀ b∈f',b∈fp' id∧b ∉ G)∧f'.Nodup∧ad=ad∧List.length ys=List.length xs∧
   (Ty.sl e.BQ).au (c'.next w' S' tX).fz w' [.slice ad (List.length ys) cap] ys f':=by
  rcases dI with ⟨h0,h1⟩|⟨b,oo,CC,T,fps,rfl,hb,hCs,qQ,hfe,hi⟩
  . refine ⟨[],by simp,fun S' tX _ _=>⟨[],by simp,by simp,rfl, ?_⟩⟩
    have zA:xs=[]:=by simp_all
    subst zA;have hS0:=Bi (S:=fun _=>True) (w:=w') (cs:=[.slice ad 0 cap]) OC (by simp only [Ty.aQ];grind);simp only [Ty.aQ] at hS0;obtain ⟨a1,ap1,e1,_,_⟩:=hS0;have hl:List.length ys=0:=by
     simp only [ahb,Value.slice.injEq,agG] at e1;exact e1.2.1.symm
    refine ⟨hl, ?_⟩;simp only [Ty.au];exact ⟨ad,cap,rfl,⟨by omega,by omega⟩, .inl ⟨h0,trivial⟩⟩
  . refine ⟨fps.flatten,by grind,fun S' tX h1 h2=>⟨[b], ?_,by simp,rfl, ?_⟩⟩
    . grind
    -- items, as what is only read
    have hS0:(Ty.sl e).aQ (fun b'=>S' b'∨b'=b) w' [.slice (some ⟨b,oo,none⟩) xs.length cap] xs:=by
     refine Ty.gu (z:=c'.fz) (fun b' cf=>⟨.inl (h1 b' cf),hp.ev.S b' cf⟩) _ aiU fun b' cf=> ?_;grind
    have hI:∀ (j:Nat) (x:e.D),xs[j]? =some x→e.aQ S' w' (aE w' b (oo+j*e.size) e.size) x:=by
     intro j x hx;have bZ:j<fps.length:=by grind
     refine Ty.gu (z:=c'.fz) (fun b' cf=>⟨h1 b' cf,hp.ev.S b' cf⟩) _ (hi j x fps[j] hx (aaf bZ)) fun b' cf=>h2 b' ?_;grind [List.mem_flatten,List.getElem_mem]
    have CU:e.mz e.BQ=true:=hz;have hyv:ys=cast (congrArg List (Ty.iC e e.BQ CU)) xs:=(Ty.oT OC).2;have hlen:List.length ys=List.length xs:=by grind [TF,Ty.iC]
    refine ⟨hlen, ?_⟩;simp only [Ty.au];refine ⟨_,cap,rfl,⟨by omega,by omega⟩, .inr ⟨b,oo,CC,T,List.replicate ys.length [],rfl,hb,by grind,by simp,by simp,fun j y f hy hf=> ?_⟩⟩;have hf:(List.replicate (List.length ys) ([]:List Nat))[j]? =some f:=hf;have hf0:f=[]:=by grind
    subst hf0;rw [sW];have hy:ys[j]? =some y:=hy;have VG:j<xs.length:=by grind
    have hx:=hI j xs[j] (aaf VG);have I7:y=cast (Ty.iC e e.BQ CU) xs[j]:=by
     have:=TG (Ty.iC e e.BQ CU) xs j;grind
    rw [I7];exact Ty.n9 (c:=c'.next w' S' tX) _ (Ty.qD e) (Ty.iD e e.BQ CU _ _ hx)
 obtain ⟨G,hG,hI⟩:=hI
 let S':Nat→Prop:=fun b=>c'.S b∨b∈G
 have tX:Gw S' w':=by
  refine ⟨?_,c'.hS.2.mono (fun b hb=> .inl hb) hp.ev.S⟩
  rintro b (hb|hb)
  . exact acO (c'.hS.1 b hb) hp.ev.size
  . exact vW.lt id dW b (hG b hb)
 obtain ⟨f',B5,hfn,_,hlen,jT⟩:=hI S' tX (fun b hb=> .inl hb) (fun b hb=> .inr hb);have yI:Ext c' (c'.next w' S' tX):=Ext.next hp.ev (fun b hb=> .inl hb) (by grind)
 have yD:cX c' μ' fp' (fun k=>if k=id then none else s.v k) w':=by
  refine ⟨fun k x hx=> ?_,fun k x hx=> ?_,fun k k' hkk hk mA=> ?_,fun k hk=> ?_,fun k hk=> ?_⟩
  . replace hx:(if k=id then none else s.v k)=some x:=hx
    split at hx
    . cases hx
    . exact vW.rel k x hx
  . replace hx:(if k=id then none else s.v k)=some x:=hx
    split at hx
    . cases hx
    . exact vW.nodup k x hx
  . refine vW.sep k k' hkk ?_ ?_
    . grind
    grind
  . refine vW.jg k ?_
    grind
  . refine vW.lt k ?_
    grind
 have ap2:∀ k,(if k=id then none else s.v k)≠none→∀ b∈fp' k,b ∉ fp' id:=fun k hk b hb=>by
  have hki:k≠id:=by grind
  exact vW.sep k id hki (by grind) dW b hb
 have VM:cX (c'.next w' S' tX) μ' fp' (fun k=>if k=id then none else s.v k) w':=yD.next yI fun k hk b hb hs=>by
  rcases hs with hs|hs
  . exact yD.jg k hk b hb hs
  grind
 have nk:cL (c'.next w' S' tX) μ' w' id f' (.arr e.BQ ys):=by
  refine ⟨ad,cap,by grind,jT,fun b hb bZ j=> ?_⟩;show c'.M b j∨c'.w0.heap.size≤b;grind
 have hv2:=VM.mn [] id (.arr e.BQ ys) f' (by grind) (fun _ _ _ _ _ _=>rfl) (abD _) nk hfn (fun b hb=>by
  refine ⟨?_,vW.lt id dW b (B5 b hb).1,by grind⟩
  rintro (hs|hs)
  . exact vW.jg id dW b (B5 b hb).1 hs
  grind)
 refine hK (c'.next w' S' tX) v' w' μ' (fun k=>if k=id then f' else fp' k) (Iy.trans yI) ⟨hp.agree, ?_, ?_,Ev.start _⟩
 . have:=hp.val
   grind [an]
 grind [cC,id]
theorem Kw (hC:iT C c.P) (hE:∀ id x,E id=some x→s.v id=some x) {t:TypeId} {x y:Operand} (ho:o.op= .store t x y) {kd:Nat}
  (hr:(Out.of (C.ty t) fun t=>FT E kd t (fj s.t x) (fj s.t y)).eval=some r):o8 c μ s o a w r:=by
 by_cases hk6:kd=6
 case neg=>
  refine (Dq h hC hE ho (kd:=kd) ?_).ext;simp_all [FT,aap]
 obtain ⟨ty,kN,hr⟩:=aM hr;unfold FT at hr;rw [aaK hk6] at hr;split at hr
 case h_2=>cases hr
 rename_i id hy;split at hr
 case h_2=>cases hr
 rename_i e xs eI;rw [Out.nT] at hr;obtain ⟨r0,hr0,hr⟩:=Option.bind_eq_some_iff.1 hr;obtain rfl:=aaG hr
 -- the value is what a place holds
 cases y with
 |const v=>exact absurd hy (by simp only [fj];unfold ofValue;grind)
 |func f=>cases hy
 |global g=>cases hy
 |tmp j=>
 have hyj:s.t j= .cN id none:=hy;have hsv:s.v id=some (.arr e xs):=hE id _ eI;obtain ⟨ad,cap,hm,dI,Tl⟩:=h.vs.rel id _ hsv;have dW:s.v id≠none:=by rw [hsv];simp
 have htm:=h.tm j;rw [hyj] at htm;simp only [an] at htm;obtain ⟨ad',len,j7,sz,pI,Kx⟩:=htm;rw [hm] at pI;cases pI
 let S':Nat→Prop:=fun b=>c.S b∨b∈fp id
 have tX:Gw S' w:=by
  refine ⟨?_,c.hS.2.mono (fun b hb=> .inl hb) h.ev.S⟩
  rintro b (hb|hb)
  . exact acO (c.hS.1 b hb) h.ev.size
  . exact h.vs.lt id dW b hb
 have yI:Ext c (c.next w S' tX):=Ext.next h.ev (fun b hb=> .inl hb) (by grind)
 have yD:cX c μ fp (fun k=>if k=id then none else s.v k) w:=by
  refine ⟨fun k x hx=> ?_,fun k x hx=> ?_,fun k k' hkk hk mA=> ?_,fun k hk=> ?_,fun k hk=> ?_⟩
  . replace hx:(if k=id then none else s.v k)=some x:=hx
    split at hx
    . cases hx
    . exact h.vs.rel k x hx
  . replace hx:(if k=id then none else s.v k)=some x:=hx
    split at hx
    . cases hx
    . exact h.vs.nodup k x hx
  . refine h.vs.sep k k' hkk ?_ ?_
    . grind
    grind
  . refine h.vs.jg k ?_
    grind
  . refine h.vs.lt k ?_
    grind
 have VM:cX (c.next w S' tX) μ fp (fun k=>if k=id then none else s.v k) w:=yD.next yI fun k hk b hb hs=>by
  rcases hs with hs|hs
  . exact yD.jg k hk b hb hs
  . have hki:k≠id:=by grind
    exact h.vs.sep k id hki (by grind) dW b hb hs
 let s':lx:={ t:=fun i=>if i=j then .ro e xs none else s.t i,v:=fun k=>if k=id then none else s.v k,k:=s.k }
 have h':iE (c.next w S' tX) μ fp s' n a w:=by
  refine ⟨fun i=> ?_,h.n,h.defers,VM,⟨fun i dS hi=> ?_,fun dS x hx=> ?_⟩,Ev.start _,fun i hi=>h.fix i hi⟩
  . show an (c.next w S' tX) μ (a.tmps.getD i Go.undef) (if i=j then .ro e xs none else s.t i)
    split
    . rename_i yJ
      subst yJ;rw [Kx];simp only [an];exact ⟨Ty.gu (z:=c.fz) (S:=S') (w:=w) (fun b hb=>⟨.inl hb,h.ev.S b hb⟩) _ dI fun b hb=> .inr hb,by grind⟩
    . exact an.ext yI _ (h.tm i)
  . replace hi:dS∈(if i=j then ai.ro e xs none else s.t i).ids:=hi
    split at hi
    . cases hi
    . exact h.known.t i dS hi
  . replace hx:(if dS=id then none else s.v dS)=some x:=hx
    split at hx
    . cases hx
    . exact h.known.v dS x hx
 have Ux:fj s'.t x=fj s.t x:=by
  cases x with
  |tmp i=>
   by_cases yJ:i=j
   . subst yJ
     exfalso;have:fj s.t (.tmp i)= .cN id none:=hyj;rw [this] at hr0;cases hr0
   . exact aap yJ
  |_=>rfl
 have aeX:=Dq h' (C:=C) (E:=fun k=>if k=id then none else E k) (by exact hC) (by grind) ho (kd:=kd) (r:=r0) (by
  rw [Ux];show (Out.of (C.ty t) fun t=>AY _ kd t (fj s.t x) (if j=j then .ro e xs none else s.t j)).eval=some r0;rw [aaK rfl,kN];exact hr0)
 intro K Q hK;exact aeX K Q fun v' w' μ' fp' hp=>hK _ v' w' μ' fp' yI ⟨hp.agree,hp.val,hp.vs,hp.ev⟩
theorem Ds (hC:iT C c.P) (hF:jq C c.P) (hE:∀ id x,E id=some x→s.v id=some x) {fr:Nat} (iX:∀ id,fr≤id→id<fr+64→¬ s.k id)
  (hr:(core0 C o.op o.type (fj s.t) E fr).eval=some r):o8 c μ s o a w r:=by
 have h0:¬ s.k fr:=by grind
 unfold core0 at hr;split at hr
 . exact (M7 h (.inl ‹_›) h0 hr).ext
 . exact (M7 h (.inr ‹_›) h0 hr).ext
 . exact (Tn h ‹_› hr).ext
 . exact (OA h hC ‹_› iX hr).ext
 . exact (Ze h ‹_› h0 hr).ext
 . exact (OG h hC ‹_› iX hr).ext
 . exact (Bh h hC hE ‹_› h0 hr).ext
 . exact (Tr h hC hE ‹_› iX hr).ext
 . exact Kw h hC hE ‹_› hr
 . exact (FY h ‹_› hr).ext
 . exact (Kn h hC ‹_› hr).ext
 . exact (Ow h hC ‹_› hr).ext
 . exact (To h ‹_› hr).ext
 . exact (Ik h hC hE ‹_› hr).ext
 . exact (Cj h hC ‹_› hr).ext
 . exact (Ov h hC.ty ‹_› hr).ext
 . unfold aii at hr
   split at hr
   . rw [Out.nT] at hr
     obtain ⟨r0,hr0,hr⟩:=Option.bind_eq_some_iff.1 hr;exact Zo hE (tq h hC hE ‹_› hr0).ext hr
   . exact (tq h hC hE ‹_› hr).ext
 . rename_i t x y ho
   replace hr:=aM hr;obtain ⟨ty,kN,hr⟩:=hr;have dB:=hC.ty t ty kN;cases ty with
   |str=>
    simp only [Ty.Ok] at dB;refine (Ou h ho dB.2 ?_).ext;grind
   |_=>
    replace hr:=aM hr;obtain ⟨_,_,hr⟩:=hr;cases hr
 . exact (Ih h ‹_› hr).ext
 . exact (Co h hC ‹_› h0 hr).ext
 . exact (Oz h hC hE ‹_› hr).ext
 . exact (OM h hC ‹_› h0 hr).ext
 . exact (TD h hE ‹_› hr).ext
 . exact (FZ h ‹_› hr).ext
 . rename_i cl args argTypes ho
   split at hr
   . exact (Zb h hC hE rfl ‹_› ‹_› ho hr).ext
   . cases hr
 . rename_i cl args argTypes ho
   split at hr
   . split at hr
     . rename_i e;subst e
       exact (Kt h hC hE rfl ‹_› ‹_› ho h0 hr).ext
     . exact (Ix h hC hE rfl ‹_› ‹_› ho h0 hr).ext
   . cases hr
 . rename_i cl args argTypes ho
   split at hr
   . exact (TC h hC hE rfl ‹_› ‹_› ho hr).ext
   . cases hr
 . rename_i f args _ ho
   refine Bj (f:=f) (args:=(args.toList.map a.eval).toArray) ?_ (hF f _ E fr r hr c μ fp s w _ rfl h.vs h.known h.ev (Bk h _) (Bl h _) hE iX);simp [execOp,ho,resolve,Deferred.ofValue,Act.eval,invoke,Zn]
 . rename_i f args _ ho
   split at hr
   . rename_i g oU e
     have hv:=h.cn (.tmp f);rw [e] at hv;simp only [an] at hv;obtain ⟨cv,hv,hcv⟩:=hv;refine Bj (f:=g) (args:=(args.toList.map a.eval++cv.toList).toArray) ?_
      (hF g _ E fr r hr c μ fp s w _ rfl h.vs h.known h.ev ((Bk h _).append hcv) (fun id hi=> ?_) hE iX)
     . grind [execOp,resolve,Deferred.ofValue,invoke,TE]
     . rw [qt,aaN] at hi
       rcases hi with hi|hi
       . exact Bl h _ id hi
       . exact h.Bf (.tmp f) id (by grind [ai.ids])
   . cases hr
 . cases hr
omit h in
theorem Dt {id:Nat} {x:bQ}:∀ (u:oe) (v:Env),Df u id=some x→cC v u id=some x
 |[],_,h=>by cases h
 |(k,y)::r,v,h=>by
  simp only [Df] at h;simp only [cC];cases hl:Df r id with
  |some z=>rw [hl] at h;cases h;exact Dt r _ hl
  |none=>
   rw [hl] at h;simp only at h;split at h
   . rename_i hk
     obtain ⟨rfl,ha⟩:=hk;have:∀ (r:oe) (v:Env),(r.all fun z=>z.1 != k)=true→cC v r k=v k:=by
      intro r
      induction r with
      |nil=>intro v _;rfl
      |cons q r ih=>
       intro v hq;simp only [acY,aaE,bne_iff_ne,ne_eq] at hq;obtain ⟨j,z⟩:=q;simp only [cC];grind
     grind
   . cases h
omit h in
theorem TH {d d':ai} {u:oe} {id:Nat} {e:Ty} {xs:List e.D} (hs:o8 c μ s o a w (d,u)) (hl:Df u id=some (.arr e xs))
  (Kx:∀ c' Bm μ' v',Ext c' Bm→(∀ x,an c' μ' x (.cN id none)→an Bm μ' x (.ro e xs none))→an c' μ' v' d→an Bm μ' v' d'):o8 c μ s o a w (d',u++[(id,none)]):=by
 intro K Q hK;refine hs K Q fun c' v' w' μ' fp' Iy hp=> ?_;have eI:cC s.v u id=some (.arr e xs):=Dt u s.v hl;obtain ⟨ad',j7,pI,dI,Tl⟩:=hp.vs.rel id _ eI;have dW:cC s.v u id≠none:=by rw [eI];simp
 let S':Nat→Prop:=fun b=>c'.S b∨b∈fp' id
 have tX:Gw S' w':=by
  refine ⟨?_,c'.hS.2.mono (fun b hb=> .inl hb) hp.ev.S⟩
  rintro b (hb|hb)
  . exact acO (c'.hS.1 b hb) hp.ev.size
  . exact hp.vs.lt id dW b hb
 have yI:Ext c' (c'.next w' S' tX):=Ext.next hp.ev (fun b hb=> .inl hb) (by grind)
 have hu:cC s.v (u++[(id,none)])=fun k=>if k=id then none else cC s.v u k:=by rw [dE];rfl
 have yD:cX c' μ' fp' (cC s.v (u++[(id,none)])) w':=by
  rw [hu];refine ⟨fun k x hx=> ?_,fun k x hx=> ?_,fun k k' hkk hk mA=> ?_,fun k hk=> ?_,fun k hk=> ?_⟩
  . replace hx:(if k=id then none else cC s.v u k)=some x:=hx
    split at hx
    . cases hx
    . exact hp.vs.rel k x hx
  . replace hx:(if k=id then none else cC s.v u k)=some x:=hx
    split at hx
    . cases hx
    . exact hp.vs.nodup k x hx
  . refine hp.vs.sep k k' hkk ?_ ?_
    . grind
    grind
  . refine hp.vs.jg k ?_
    grind
  . refine hp.vs.lt k ?_
    grind
 have VM:cX (c'.next w' S' tX) μ' fp' (cC s.v (u++[(id,none)])) w':=yD.next yI fun k hk b hb hs=>by
  rcases hs with hs|hs
  . exact yD.jg k hk b hb hs
  . have hki:k≠id:=by grind
    refine hp.vs.sep k id hki ?_ dW b hb hs;grind
 refine hK _ _ _ μ' fp' (Iy.trans yI) ⟨hp.agree,Kx _ _ _ _ yI (fun x hx=> ?_) hp.val,VM,Ev.start _⟩;simp only [an] at hx ⊢;obtain ⟨ad,len,cap,sz,hm,rfl⟩:=hx;rw [pI] at hm;cases hm;exact ⟨Ty.gu (z:=c'.fz) (S:=S') (w:=w') (fun b hb=>⟨.inl hb,hp.ev.S b hb⟩) _ dI fun b hb=> .inr hb,by grind⟩
omit h in
theorem Bn (W:ai→ai) (hW:∀ c' Bm μ' v' x x',Ext c' Bm→(∀ v,an c' μ' v x→an Bm μ' v x')→an c' μ' v' (W x)→an Bm μ' v' (W x')) {m i:Nat} {d:ai} {u:oe} {q:ai×oe}
  (hs:o8 c μ s o a w (W d,u)) (hq:AZ m i d u=some q):o8 c μ s o a w (W q.1,q.2):=by
 unfold AZ at hq;split at hq
 . split at hq
   . split at hq
     . rename_i hl
       obtain rfl:=aaG hq;grind [TH]
     . cases hq
   grind
 grind
omit h in
theorem aj.split {c:Ctx} {μ:Nat→Loc}:{vs:List Value}→(ds:List ai)→{es:List ai}→aj c μ vs (ds++es)→∃ v1 v2,vs=v1++v2∧aj c μ v1 ds∧aj c μ v2 es
 |vs,[],es,h=>⟨[],vs,rfl,by simp [aj],h⟩
 |vs,d::ds,es,h=>by
  simp only [List.cons_append,aj] at h;obtain ⟨v,bm,rfl,h1,h2⟩:=h;obtain ⟨v1,v2,rfl,h3,h4⟩:=aj.split ds h2;exact ⟨v::v1,v2,rfl,by simp only [aj];grind,h4⟩
omit h in
theorem aj.at {c' Bm:Ctx} {μ':Nat→Loc} (he:Ext c' Bm) {x x':ai} (hx:∀ v,an c' μ' v x→an Bm μ' v x') (pre post:List ai) {vs:List Value} (h:aj c' μ' vs (pre++x::post)):aj Bm μ' vs (pre++x'::post):=by
 obtain ⟨v1,v2,rfl,h1,h2⟩:=aj.split pre h;refine aj.append (aj.ext he _ h1) ?_;simp only [aj] at h2 ⊢;obtain ⟨v,bm,rfl,h3,h4⟩:=h2;exact ⟨v,bm,rfl,hx v h3,aj.ext he _ h4⟩
omit h in
theorem Du (W:List ai→ai) (hW:∀ c' Bm μ' v' l l',Ext c' Bm→(∀ vs,aj c' μ' vs l→aj Bm μ' vs l')→an c' μ' v' (W l)→an Bm μ' v' (W l')) (m:Nat):∀ (ds:List ai) (i:Nat) (pre:List ai) (u:oe) (q:List ai×oe),
  o8 c μ s o a w (W (pre++ds),u)→MX m i ds u=some q→o8 c μ s o a w (W (pre++q.1),q.2)
 |[],i,pre,u,q,hs,hq=>by
  obtain rfl:=aaG (show some ([],u)=some q from hq);exact hs
 |d::ds,i,pre,u,q,hs,hq=>by
  obtain ⟨q1,h1,hq⟩:=Option.bind_eq_some_iff.1 (show ((AZ m i d u).bind fun q=>(MX m (i+1) ds q.2).map fun p=>(q.1::p.1,p.2))=some q from hq);obtain ⟨q2,h2,rfl⟩:=Option.map_eq_some_iff.1 hq;have a1:=Bn (fun x=>W (pre++x::ds)) (by grind [aj.at]) hs h1;have a2:=Du W hW m ds (i+1) (pre++[q1.1]) q1.2 q2 (by grind) h2;grind
omit h in
theorem Iz (W:ai→ai) (hW:∀ c' Bm μ' v' x x',Ext c' Bm→(∀ v,an c' μ' v x→an Bm μ' v x')→an c' μ' v' (W x)→an Bm μ' v' (W x')) {m i:Nat} {d:ai} {u:oe} {q:ai×oe}
  (hs:o8 c μ s o a w (W d,u)) (hq:S6 m i d u=some q):o8 c μ s o a w (W q.1,q.2):=by
 unfold S6 at hq;split at hq
 . obtain ⟨q2,h2,rfl⟩:=Option.map_eq_some_iff.1 hq
   exact Du (fun l=>W (.agg l)) (by grind [an]) m _ i [] u q2 hs h2
 . exact Bn W hW hs hq
omit h in
theorem Dv (W:List ai→ai) (hW:∀ c' Bm μ' v' l l',Ext c' Bm→(∀ vs,aj c' μ' vs l→aj Bm μ' vs l')→an c' μ' v' (W l)→an Bm μ' v' (W l')) (m:Nat):∀ (ds:List ai) (i:Nat) (pre:List ai) (u:oe) (q:List ai×oe),
  o8 c μ s o a w (W (pre++ds),u)→MY m i ds u=some q→o8 c μ s o a w (W (pre++q.1),q.2)
 |[],i,pre,u,q,hs,hq=>by
  obtain rfl:=aaG (show some ([],u)=some q from hq);exact hs
 |d::ds,i,pre,u,q,hs,hq=>by
  obtain ⟨q1,h1,hq⟩:=Option.bind_eq_some_iff.1 (show ((S6 m i d u).bind fun q=>(MY m (i+d.cells.length) ds q.2).map fun p=>(q.1::p.1,p.2))=some q from hq);obtain ⟨q2,h2,rfl⟩:=Option.map_eq_some_iff.1 hq;have a1:=Iz (fun x=>W (pre++x::ds)) (by grind [aj.at]) hs h1;have a2:=Dv W hW m ds (i+d.cells.length) (pre++[q1.1]) q1.2 q2 (by grind) h2;grind
omit h in
theorem Zp {m:Nat} {r0:iv} (hs:o8 c μ s o a w r0) (hr:(aik m r0).eval=some r):o8 c μ s o a w r:=by
 obtain ⟨q,hq,hr⟩:=aM hr;obtain rfl:=aaG hr;obtain ⟨d,u⟩:=r0;unfold aij at hq;split at hq
 . rename_i ds hd
   obtain rfl:d= .H5 ds:=hd;obtain ⟨q2,h2,rfl⟩:=Option.map_eq_some_iff.1 hq;exact Dv .H5 (by grind [an]) m ds 0 [] u q2 hs h2
 . exact Iz (fun x=>x) (by grind) hs hq
theorem TI (hC:iT C c.P) (hF:jq C c.P) (hE:∀ id x,E id=some x→s.v id=some x) {fr:Nat} (iX:∀ id,fr≤id→id<fr+64→¬ s.k id)
  (hr:(core C o.op o.type (fj s.t) E fr).eval=some r):o8 c μ s o a w r:=by
 unfold core at hr;split at hr
 . rw [Out.nT] at hr
   obtain ⟨r0,h0,hr⟩:=Option.bind_eq_some_iff.1 hr;exact Zp (by grind [Ds]) hr
 grind [Ds]
end
end
section
open Go
theorem vZ {t:Ty} {ev Ky:Operand→ai}:∀ (ps:List (Nat×Operand)) (cs:List ai),(∀ x∈ps,ev x.2=Ky x.2)→oV t ev ps cs=oV t Ky ps cs
 |[],_,_=>rfl
 |(k,x)::ps,cs,h=>by
  simp only [oV,h (k,x) (by simp)];split
  . split
    . exact vZ ps _ fun y hy=>h y (by simp [hy])
    . rfl
  . rfl
theorem qE {E:Env} {e:Ty} {ev Ky:Operand→ai}:∀ (ps:List (Nat×Operand)) (xs:List e.D) (g:List Nat),(∀ x∈ps,ev x.2=Ky x.2)→j3 E e ev ps xs g=j3 E e Ky ps xs g
 |[],_,_,_=>rfl
 |(k,x)::ps,xs,g,h=>by
  simp only [j3,h (k,x) (by simp)];split
  . rfl
  . congr 1
    funext y;split
    . rfl
    . exact qE ps _ _ fun y hy=>h y (by simp [hy])
theorem IA (C:Cx) (op:Op) (ty:Nat) {ev Ky:Operand→ai} (E:Env) (fr:Nat) (h:∀ x∈qq op,ev x=Ky x):core0 C op ty ev E fr=core0 C op ty Ky E fr:=by
 have hm:∀ l:List Operand,(∀ x∈l,ev x=Ky x)→l.map ev=l.map Ky:=fun l hl=>afZ hl;unfold core0;split<;>simp only [qq,abE,List.not_mem_nil,or_false,forall_eq_or_imp,forall_eq] at h<;>try (simp only [h];done)
 . congr 1;funext t;split
   . rw [vZ _ _ fun x hx=>h x.2 (List.mem_map.2 ⟨x,hx,rfl⟩)]
   . rfl
 . congr 1;funext t;congr 1;funext e;split
   . rw [qE _ _ _ fun x hx=>h x.2 (List.mem_map.2 ⟨x,hx,rfl⟩)]
   . rfl
 . rename_i t x lo hi
   have hx:=h x (by simp);have hl:lo.map (fun z=>mi (ev z))=lo.map fun z=>mi (Ky z):=by cases lo with|none=>rfl|some z=>grind
   have hh:hi.map (fun z=>mi (ev z))=hi.map fun z=>mi (Ky z):=by cases hi with|none=>rfl|some z=>grind
   grind
 . rw [hm _ h]
 . grind [Call.operands]
 . rename_i args argTypes
   simp only [Call.operands,Array.empty_append] at h;split
   . grind
   . rfl
 . grind [Call.operands]
 . grind [Call.operands,Array.toList_append]
 grind [Call.operands,Array.toList_append]
theorem Kz (C:Cx) (op:Op) (ty:Nat) {ev Ky:Operand→ai} (E:Env) (fr:Nat) (h:∀ x∈qq op,ev x=Ky x):core C op ty ev E fr=core C op ty Ky E fr:=by grind [core,IA]
end
section
open Go
structure pJ where
 i:Nat
 g:Nat
 o:Oper
 op:Op
 gd:Option (Nat×Bool)
 skip:Bool
 T:List Nat
 R:List Nat
 r:iv
def pJ.mk' (l:pJ):Bool:=makes l.g l.r.2
def pJ.log (l:pJ):Log:=
 { i:=l.i,g:=l.g,mkd:=l.mk',dst:=l.o.dst,reads:=(if l.skip then [] else tmpsOf (qq l.o.op))++(l.gd.map (·.1)).toList,T:=l.T,R:=l.R,U:=l.r.2.map (·.1) }
def aiW (t:Nat→ai) (op op':Op):Prop:=
 op'=op∨∃ x y z,op= .pick x y z∧((fj t x= .b true∧op'= .move y)∨(fj t x= .b false∧op'= .move z))
def wa (l:pJ) (t:Nat→ai):Prop:=
 match l.gd with
 |none=>l.skip=false
 |some (d,want)=>if l.skip then t d= .b (!want)∨t d= .undef else t d= .b want
structure Nd (C:Cx) (n:Nat) (l:pJ) (s:lx):Prop where
 guard:wa l s.t
 dst:∀ d,l.o.dst=some d→d<n
 skip:l.skip=true→l.r=(.undef,[])∧l.T=[]∧l.R=[]
 eq:l.skip=false→aiW s.t l.o.op l.op
 core:l.skip=false→(core C l.op l.o.type (fj s.t) (pE l.R s.v) (l.g*64)).eval=some l.r
 res:MZ l.T l.g l.r=true
 known:∀ id∈l.T,s.k id
 fresh:l.skip=false→∀ id,id / 64=l.g→¬ s.k id
def post (l:pJ) (s:lx):lx where
 t:=fun j=>if l.o.dst=some j then l.r.1 else s.t j
 v:=cC s.v l.r.2
 k:=fun id=>s.k id∨(l.mk'=true∧id / 64=l.g)
theorem tY {j:Nat}:{l:List Operand}→j∈tmpsOf l↔Operand.tmp j∈l
 |[]=>by simp [tmpsOf]
 |x::l=>by
  cases x with
  |tmp k=>simp [tmpsOf,tY (l:=l)]
  |_=>simp [tmpsOf,tY (l:=l)]
theorem ON {t t':Nat→ai} {x:Operand} (h:∀ j,x= .tmp j→t j=t' j):fj t x=fj t' x:=by
 cases x with
 |tmp j=>exact h j rfl
 |_=>rfl
theorem o9 (v:Env):∀ (u:oe) {id:Nat},id ∉ u.map (·.1)→cC v u id=v id
 |[],_,_=>rfl
 |(k,x)::u,id,h=>by simp_all [acX,abE,not_or,cC,o9,aap]
theorem Dw (v v':Env):∀ (u:oe) {id:Nat},(v id=v' id∨id∈u.map (·.1))→cC v u id=cC v' u id
 |[],_,h=>by simp_all [cC]
 |(k,x)::u,id,h=>by
  simp only [cC];apply Dw _ _ u;grind
theorem OO (v:Env) {a b:oe} (h:∀ id∈a.map (·.1),id ∉ b.map (·.1)):cC (cC v a) b=cC (cC v b) a:=by grind [id,o9,Dw]
theorem wb {a b:List Nat} (h:Tc a b=true):∀ x∈a,x ∉ b:=by
 intro x hx hb;have:=aa1.1 h x hx;simp_all
structure Dx (a b:pJ):Prop where
 d1:∀ d,a.o.dst=some d→d ∉ b.log.reads∧b.o.dst≠some d
 d2:∀ d,b.o.dst=some d→d ∉ a.log.reads
 u1:∀ id∈a.r.2.map (·.1),id ∉ b.R∧id ∉ b.r.2.map (·.1)
 u2:∀ id∈b.r.2.map (·.1),id ∉ a.R
 made:a.mk'=true→∀ id∈b.T,id / 64≠a.g
theorem Dx.of {a b:pJ} (h:indep a.log b.log=true):Dx a b:=by
 simp only [indep,aaE] at h;obtain ⟨⟨⟨⟨h1,h2⟩,h3⟩,h4⟩,h5⟩:=h;refine ⟨fun d hd=> ?_,fun d hd=> ?_,fun id hi=> ?_,fun id hi=> ?_,fun hm id hi=> ?_⟩
 . have:=wb h1 d (by simp [pJ.log,hd])
   simp only [aaN,not_or] at this;refine ⟨this.1,fun e=>this.2 ?_⟩;show d∈b.o.dst.toList;rw [e];simp
 . grind [wb,pJ.log]
 . have:=wb h3 id hi
   simp only [aaN,not_or] at this;exact this
 . exact wb h4 id hi
 . have hm:a.log.mkd=true:=hm
   rw [hm] at h5;simp only [Bool.not_true,Bool.false_or,aa1,bne_iff_ne] at h5;exact h5 id hi
theorem Nd.congr {C:Cx} {n:Nat} {l:pJ} {s s':lx} (h:Nd C n l s) (ht:∀ j∈l.log.reads,s'.t j=s.t j) (hv:∀ id∈l.R,s'.v id=s.v id)
  (hk:∀ id∈l.T,s'.k id) (hf:l.skip=false→∀ id,id / 64=l.g→¬ s'.k id):Nd C n l s':=by
 have hx:l.skip=false→∀ x∈qq l.o.op,fj s'.t x=fj s.t x:=fun hs x hx=>ON fun j e=>ht j (by
  subst e;simp only [pJ.log,hs,adf,agF,aaN];exact .inl (tY.2 hx))
 have hE:pE l.R s'.v=pE l.R s.v:=by
  funext id;unfold pE;by_cases hi:l.R.contains id=true
  . rw [aaK hi,aaK hi];exact hv id (by simpa using hi)
  . rw [aap hi,aap hi]
 have fH:∀ x∈qq l.op,l.skip=false→fj s'.t x=fj s.t x:=fun x hxo hs=>by
  rcases h.eq hs with e|⟨p,q,r,e,h1⟩
  . rw [e] at hxo;exact hx hs x hxo
  . rcases h1 with ⟨_,e2⟩|⟨_,e2⟩<;>rw [e2] at hxo<;>simp only [qq,abE,List.not_mem_nil,or_false] at hxo<;>subst hxo<;>exact by grind [qq]
 refine ⟨?_,h.dst,h.skip,fun hs=> ?_,fun hs=> ?_,h.res,hk,hf⟩
 . have hg:=h.guard
   grind [wa,pJ.log]
 . rcases h.eq hs with e|⟨p,q,r,e,h1⟩
   . exact .inl e
   . refine .inr ⟨p,q,r,e, ?_⟩
     grind [qq]
 . rw [hE,Kz C l.op l.o.type (pE l.R s.v) (l.g*64) fun x sY=>fH x sY hs]
   exact h.core hs
theorem swap {C:Cx} {n:Nat} {a b:pJ} {s:lx} (ha:Nd C n a s) (hb:Nd C n b (post a s)) (hi:Dx a b) (hg:a.g≠b.g):
  Nd C n b s∧Nd C n a (post b s)∧post a (post b s)=post b (post a s):=by
 refine ⟨?_, ?_, ?_⟩
 . refine hb.congr (fun j hj=> ?_) (fun id eI=> ?_) (fun id eI=> ?_) (fun hs id eI hk=> ?_)
   . simp only [post]
     rw [aap fun e=>(hi.d1 j e).1 hj]
   . simp only [post]
     rw [o9 _ _ fun hu=>(hi.u1 id hu).1 eI]
   . rcases hb.known id eI with h|⟨h1,h2⟩
     . exact h
     . exact absurd h2 (hi.made h1 id eI)
   . exact hb.fresh hs id eI (.inl hk)
 . refine ha.congr (fun j hj=> ?_) (fun id eI=> ?_) (fun id eI=> .inl (ha.known id eI)) (fun hs id eI hk=> ?_)
   . simp only [post]
     rw [aap fun e=>hi.d2 j e hj]
   . simp only [post]
     rw [o9 _ _ fun hu=>hi.u2 id hu eI]
   . rcases hk with hk|⟨_,h2⟩
     . exact ha.fresh hs id eI hk
     grind
 . simp only [post,lx.mk.injEq]
   refine ⟨?_,(OO _ fun id h=>(hi.u1 id h).2).symm, ?_⟩
   . funext j
     by_cases h1:a.o.dst=some j
     . rw [aaK h1,aap (hi.d1 j h1).2,aaK h1]
     grind
   grind
def Seq (C:Cx) (n:Nat):List pJ→lx→lx→Prop
 |[],s,s'=>s=s'
 |l::L,s,s'=>Nd C n l s∧Seq C n L (post l s) s'
theorem Seq.first {C:Cx} {n:Nat} {b:pJ}:∀ {A R:List pJ} {s s':lx},Seq C n (A++b::R) s s'→(∀ a∈A,Dx a b∧a.g≠b.g)→Seq C n (b::(A++R)) s s'
 |[],_,_,_,h,_=>h
 |a::A,R,s,s',h,hi=>by
  simp only [List.cons_append,Seq] at h;have:=Seq.first h.2 fun x hx=>hi x (by simp [hx])
  simp only [Seq] at this;obtain ⟨q1,q2,q3⟩:=swap h.1 this.1 (hi a (by simp)).1 (hi a (by simp)).2;grind [Seq]
end
section
open Go
def Bo (s:dL):Prop:=∀ d b,il s.kn d=some b→s.t.getD d .dead= .b b
theorem cW {ρ σ:Type} {o:Out ρ} {f:ρ→Out σ} {r:σ} (h:(o.bind f).eval=some r):∃ x,o.eval=some x∧(f x).eval=some r:=by grind [Out.nT,Option.bind_eq_some_iff]
theorem wc {s:dL} (h:Bo s) {x:Operand} {b:Bool} (hx:Kg s.kn x=some b):fj s.f.t x= .b b:=by
 unfold Kg at hx;split at hx
 . cases hx;rfl
 . exact h _ _ hx
 . cases hx
theorem aeY {s:dL} (h:Bo s) (op:Op):aiW s.f.t op (opK s.kn op):=by
 unfold opK;split
 . rename_i x y z
   split
   . rename_i e;exact .inr ⟨x,y,z,rfl, .inl ⟨wc h e,rfl⟩⟩
   . rename_i e;exact .inr ⟨x,y,z,rfl, .inr ⟨wc h e,rfl⟩⟩
   . exact .inl rfl
 . exact .inl rfl
theorem F9 (a b:List (Nat×Bool)) (d:Nat):il (a++b) d=(il a d).or (il b d):=by
 induction a with
 |nil=>simp [il]
 |cons x a ih=>
  grind [il]
theorem Bp (kn:List (Nat×Bool)) (dst:Option Nat) (d:Nat) (b:Bool) (h:il (M0 kn dst) d=some b):dst≠some d∧il kn d=some b:=by
 cases dst with
 |none=>exact ⟨by simp,h⟩
 |some e=>
  simp only [M0] at h
  induction kn with
  |nil=>simp [il] at h
  |cons x kn ih=>
   obtain ⟨j,y⟩:=x;simp only [afT] at h;split at h
   . rename_i dW
     simp only [il] at h ⊢;grind
   . rename_i dW
     have:=ih h;refine ⟨this.1, ?_⟩;simp only [il];rw [aap]
     . exact this.2
     . rintro rfl
       simp only [bne_iff_ne,ne_eq,Decidable.not_not] at dW;exact this.1 (by simp [dW])
theorem Bq {t:List ai} {d j:Nat} {v x:ai} (h:d<t.length):(t.set d v).getD j x=if d=j then v else t.getD j x:=by grind
theorem we {t:List ai} {dst:Option Nat} (h:Dg t dst=true) (v:ai) (j:Nat):(H8 t dst v).getD j .dead=if dst=some j then v else t.getD j .dead:=by
 cases dst with
 |none=>simp [H8]
 |some d=>
  simp only [Dg,ack] at h;grind [H8,Bq,Option.some.injEq]
theorem mR (t:List ai) (dst:Option Nat) (v:ai):(H8 t dst v).length=t.length:=by cases dst<;>simp [H8]
theorem KA {s:lx} (h:pt s) (op:Op):∀ id∈tids op s.t s.v,s.k id:=by
 have step:∀ l:List Nat,(∀ id∈l,s.k id)→∀ id∈cl s.v l,s.k id:=by
  intro l hl id hi;simp only [cl,aaN,List.mem_flatMap] at hi;rcases hi with hi|⟨k,hk,hi⟩
  . exact hl id hi
  . unfold S8 at hi
    split at hi
    . rename_i x hx
      exact (h.v k x hx).2 id hi
    . cases hi
 refine step _ (step _ (step _ ?_));intro id hi;obtain ⟨x,_,hi⟩:=List.mem_flatMap.1 hi;cases x with
 |tmp j=>exact h.t j id hi
 |const v=>simp only [fj,ofValue] at hi;grind [ai.ids]
 |func f=>grind [fj,ai.ids,ai.bI]
 |global g=>grind [fj,ai.ids]
theorem tZ {s:lx} {l:pJ} (hT:∀ id∈l.T,s.k id) {id:Nat} (h:S9 l.T l.g (makes l.g l.r.2) id=true):(post l s).k id:=by
 simp only [S9,afR,aaE,aeM] at h;rcases h with h|h
 . exact .inl (by grind)
 . exact .inr h
theorem IB {v:Env}:∀ {u:oe} {id:Nat} {x:bQ},cC v u id=some x→v id=some x∨(id,some x)∈u
 |[],_,_,h=> .inl h
 |(k,y)::u,id,x,h=>by
  simp only [cC] at h;rcases IB h with h|h
  . grind
  grind
theorem pt.post {C:Cx} {n:Nat} {s:lx} {l:pJ} (h:pt s) (hp:Nd C n l s):pt (post l s):=by
 have hr:=hp.res;simp only [MZ,aaE,aa1] at hr;refine ⟨fun j id hi=> ?_,fun id x hx=> ?_⟩
 . have hi:id∈(if l.o.dst=some j then l.r.1 else s.t j).ids:=hi
   split at hi
   . exact tZ hp.known (hr.1 id hi)
   . exact .inl (h.t j id hi)
 . rcases IB hx with hx|hx
   . exact ⟨.inl (h.v id x hx).1,fun dS hi=> .inl ((h.v id x hx).2 dS hi)⟩
   . have:=hr.2 _ hx
     simp only [aaD,aaE,aa1] at this;exact ⟨tZ hp.known this.1,fun dS hi=>tZ hp.known (this.2 dS hi)⟩
theorem fM:∀ (a b:List (Nat×bQ)) (id:Nat),bs (a++b) id=match bs a id with|some x=>some x|none=>bs b id
 |[],_,_=>rfl
 |(k,x)::r,b,id=>by
  simp only [List.cons_append,bs];by_cases h:k=id
  . grind
  . rw [aap h,aap h];exact fM r b id
theorem xA:∀ {w:List (Nat×bQ)} {id:Nat},id ∉ w.map (·.1)→bs w id=none
 |[],_,_=>rfl
 |(k,x)::r,id,h=>by
  simp only [acX,abE,not_or] at h;simp only [bs];rw [aap (fun e=>h.1 e.symm)];exact xA h.2
theorem Nf (w:List (Nat×bQ)):∀ (u:oe) (e:Env) (id:Nat),(∀ x∈u,x.1 ∉ w.map (·.1))→(match cC e u id with|some x=>some x|none=>bs w id)=cC (fun j=>match e j with|some x=>some x|none=>bs w j) u id
 |[],_,_,_=>rfl
 |(k,x)::r,e,id,h=>by
  simp only [cC];rw [Nf w r _ id (by grind)];congr 1;funext j;by_cases hj:j=k
  . subst hj
    have hk:=xA (h (j,x) (by simp));grind
  grind
theorem Zq {v w:List (Nat×bQ)} {u:oe} (h:(u.all fun x=> !(w.map (·.1)).contains x.1)=true):bs (Cc v u++w)=cC (bs (v++w)) u:=by
 have h':∀ x∈u,x.1 ∉ w.map (·.1):=by grind
 funext id;rw [fM,xz,Nf w u _ id h'];congr 1;grind [fM]
theorem kO {s:dL} {id:Nat} {x:bQ} (h:bs s.v id=some x):s.env id=some x:=by simp_all [dL.env,fM]
def ub (ops:List Oper) (o:Oper) (gd:Option (Nat×Bool)):Prop:=
 match o.guard with
 |none=>gd=none
 |some (j,want)=>∃ d,(ops[j]?).bind (·.dst)=some d∧gd=some (d,want)
theorem ub.dst {ops:List Oper} {o:Oper} {gd:Option (Nat×Bool)} (h:ub ops o gd):(gd.map (·.1)).toList=vK ops o.guard:=by
 unfold ub at h;unfold vK;grind
structure sU (C:Cx) (ops:List Oper) (g i:Nat) (o:Oper) (s s':dL) (lg:Log):Prop where
 ex:∃ l:pJ,Nd C s.t.length l s.f∧s'.f=post l s.f∧l.i=i∧l.g=g∧l.o=o∧ub ops o l.gd∧l.log=lg
 kn:Bo s'
 len:s'.t.length=s.t.length
theorem IC {C:Cx} {op:Op} {ty:Nat} {t:Operand→ai} {T:List Nat} {v:Env} {fr:Nat} {r:iv} (h:(core0 C op ty t (pE T v) fr).eval=some r):(core0 C op ty t (pE (Tb T t op) v) fr).eval=some r:=by
 cases op
 case load tid x=>
  obtain ⟨ty',kN,h⟩:=aM (show (Out.of (C.ty tid) fun t'=>AX (pE T v) (C.ZQ (fr / 64)) t' (t x) fr).eval=some r from h);show (Out.of (C.ty tid) fun t'=>AX (pE (Tb T t (.load tid x)) v) (C.ZQ (fr / 64)) t' (t x) fr).eval=some r;rw [kN];show (AX (pE (match t x with| .vptr id _=>T.filter (· ==id)|_=>T) v) (C.ZQ (fr / 64)) ty' (t x) fr).eval=some r;generalize t x=d at h ⊢;cases d
  case vptr id off=>
   have e:pE (T.filter (· ==id)) v id=pE T v id:=by
    unfold pE;grind
   grind [AX]
  all_goals exact h
 all_goals exact h
theorem Zr {C:Cx} {op:Op} {ty:Nat} {t:Operand→ai} {T:List Nat} {v:Env} {fr:Nat} {r:iv} (h:(core C op ty t (pE T v) fr).eval=some r):(core C op ty t (pE (Tb T t op) v) fr).eval=some r:=by
 unfold core at h ⊢;split at h
 . rename_i hz
   rw [aaK hz];grind [Out.nT,Option.bind_eq_some_iff,IC]
 simp_all [aap,IC]
theorem KB {C:Cx} {op:Op} {ty:Nat} {t:Operand→ai} {E:Env} {fr:Nat} {r:iv} {x:Bool} (h0:core0 C op ty t E fr=cJ (.b x)) (h:(core C op ty t E fr).eval=some r):r=(.b x,[]):=by
 unfold core at h;rw [h0] at h;split at h
 . exact (aaG (show some (ai.b x,([]:oe))=some r from h)).symm
 . exact aX h
theorem xB {C:Cx} {ops:List Oper} {g i:Nat} {o:Oper} {s s':dL} {lg:Log} {gd:Option (Nat×Bool)} (hk:Bo s) (hn:pt s.f) (Ga:ub ops o gd) (hg:∀ d want,gd=some (d,want)→s.f.t d= .b want)
  (h:(A0 C ops g i o s).eval=some (s',lg)):sU C ops g i o s s' lg:=by
 unfold A0 at h;obtain ⟨r,hr,h⟩:=cW h;split at h
 case isFalse=>cases h
 rename_i hc;obtain ⟨OP,iX,Kv,aiX⟩:=hc;have h:=aaG h;obtain ⟨rfl,rfl⟩:=Prod.mk.inj h;have aeZ:Nd C s.t.length { i,g,o,op:=opK s.kn o.op,gd,skip:=false,T:=tids (opK s.kn o.op) s.f.t s.f.v,R:=Tb (tids (opK s.kn o.op) s.f.t s.f.v) (fj s.f.t) (opK s.kn o.op),r } s.f:=by
  refine ⟨?_, ?_,fun e=>(by cases e),fun _=>aeY hk o.op,fun _=>Zr hr,OP,KA hn _,fun _ id eI mA=> ?_⟩
  . grind [wa]
  . grind [Dg]
  grind [dL.f]
 refine ⟨⟨_,aeZ, ?_,rfl,rfl,rfl,Ga, ?_⟩, ?_,mR _ _ _⟩
 . simp only [dL.f,post,lx.mk.injEq]
   refine ⟨funext fun j=> ?_,Zq aiX,funext fun id=>propext ?_⟩
   . grind [we]
   . simp only [pJ.mk']
     grind
 . simp only [pJ.log,adf,agF,Ga.dst,pJ.mk'];rfl
 . intro d b hf
   simp only at hf ⊢;rw [F9] at hf;rw [we Kv];cases jT:il (Ta s.kn o.dst (opK s.kn o.op)) d with
   |none=>
    rw [jT] at hf;obtain ⟨h1,h2⟩:=Bp _ _ _ _ hf;rw [aap h1];exact hk d b h2
   |some b'=>
    rw [jT] at hf;have hf:b'=b:=by simpa using hf
    subst hf;have key:∀ (x:Operand) (b0:Bool),Kg s.kn x=some b0→fj (fun j=>s.t.getD j .dead) x= .b b0:=fun x b0 hx=>wc hk hx;unfold Ta at jT;split at jT
    . rename_i x U2
      split at jT
      . rename_i d' b0 hd1 hkx
        simp only [il] at jT;split at jT
        . rename_i e;subst e;cases jT
          rw [aaK hd1];rw [U2] at hr;rw [KB (by simp only [core0,key x _ hkx,S4];rfl) hr]
        . cases jT
      grind [il]
    . rename_i x U2
      split at jT
      . rename_i d' b0 hd1 hkx
        simp only [il] at jT;split at jT
        . rename_i e;subst e;cases jT
          rw [aaK hd1];rw [U2] at hr;rw [KB (by simp only [core0,key x _ hkx,S4];rfl) hr]
        . cases jT
      grind [il]
    . rename_i x U2
      split at jT
      . rename_i d' b0 hd1 hkx
        simp only [il] at jT;split at jT
        . rename_i e;subst e;cases jT
          rw [aaK hd1];rw [U2] at hr;rw [KB (by simp only [core0,key x _ hkx,unD];rfl) hr]
        . cases jT
      grind [il]
    grind [il]
theorem xC {C:Cx} {ops:List Oper} {g i:Nat} {o:Oper} {s s':dL} {lg:Log} {gd:Option (Nat×Bool)} {d:Nat} {want:Bool} (hk:Bo s) (Ga:ub ops o gd) (e:gd=some (d,want)) (hg:s.f.t d= .b (!want)∨s.f.t d= .undef)
  (h:(A1 ops g i o s).eval=some (s',lg)):sU C ops g i o s s' lg:=by
 unfold A1 at h;split at h
 case isFalse=>cases h
 rename_i Kv;have h:=aaG h;obtain ⟨rfl,rfl⟩:=Prod.mk.inj h;have aeZ:Nd C s.t.length { i,g,o,op:=o.op,gd,skip:=true,T:=[],R:=[],r:=(.undef,[]) } s.f:=by
  refine ⟨?_, ?_,by grind,fun e=>(by cases e),fun e=>(by cases e),by simp [MZ,ai.ids],by simp,fun e=>(by cases e)⟩
  . grind [wa]
  grind [Dg]
 refine ⟨⟨_,aeZ, ?_,rfl,rfl,rfl,Ga, ?_⟩, ?_,mR _ _ _⟩
 . simp only [dL.f,post,lx.mk.injEq]
   refine ⟨funext (by grind [we]),rfl,funext fun id=>propext ?_⟩;simp [pJ.mk',makes]
 . simp [pJ.log,Ga.dst,pJ.mk',makes]
 . intro d b hf
   simp only at hf ⊢;obtain ⟨h1,h2⟩:=Bp _ _ _ _ hf;rw [we Kv,aap h1];exact hk d b h2
end
section
open Go
theorem KC {s:dL} {d:Nat} {b:Bool} (h:s.t.getD d .dead= .b b) (kn:List (Nat×Bool)):({ s with t:=s.t.set d (.b b),kn }:dL).f=s.f:=by
 have hd:d<s.t.length:=by grind
 simp only [dL.f,lx.mk.injEq,agG];refine ⟨?_,rfl⟩;grind
theorem Gb {s:dL} (hk:Bo s) {d:Nat} {b:Bool} (h:s.t.getD d .dead= .b b):Bo { s with t:=s.t.set d (.b b),kn:=(d,b)::s.kn }:=by
 intro j b' hf;have hd:d<s.t.length:=by grind
 simp only [il] at hf;simp only [Bq hd];split at hf
 . grind
 . rename_i e;rw [aap e];exact hk j b' hf
theorem sU.of {C:Cx} {ops:List Oper} {g i:Nat} {o:Oper} {s s1 s':dL} {lg:Log} (h:sU C ops g i o s1 s' lg) (hf:s1.f=s.f) (hl:s1.t.length=s.t.length):sU C ops g i o s s' lg:=by
 obtain ⟨h1,h2,h3⟩:=h;rw [hf,hl] at h1;exact ⟨h1,h2,h3.trans hl⟩
theorem Zs {C:Cx} {ops:List Oper} {g i:Nat} {o:Oper} {s s':dL} {lg:Log} (hk:Bo s) (hn:pt s.f) (h:(opL C ops g i o s).eval=some (s',lg)):sU C ops g i o s s' lg:=by
 unfold opL at h;split at h
 . rename_i e
   exact xB (gd:=none) hk hn (by unfold ub;simp [e]) (fun d want hd=>by cases hd) h
 . rename_i j want e
   split at h
   . cases h
   . rename_i d hd
     have Ga:ub ops o (some (d,want)):=by unfold ub;simp only [e];exact ⟨d,hd,rfl⟩
     split at h
     . rename_i b hb
       have hb:=hk d b hb;split at h
       . rename_i e;subst e
         exact xB hk hn Ga (fun d' aiZ hd'=>by cases hd';exact hb) h
       . rename_i dW
         exact xC hk Ga rfl (.inl (by rw [show s.f.t d= .b b from hb];cases b<;>cases want<;>simp_all)) h
     . split at h
       . rename_i b hb
         replace h:=cb h;rcases h with ⟨hc,h⟩|⟨hc,h⟩
         . have hc:b=want:=by simpa using hc
           subst hc;have hf:=KC hb ((d,b)::s.kn);refine (xB (Gb hk hb) (by rw [hf];exact hn) Ga (fun d' aiZ hd'=> ?_) h).of hf (by simp);cases hd';rw [hf];exact hb
         . have hc:b= !want:=by cases b<;>cases want<;>simp_all
           subst hc;have hf:=KC hb ((d, !want)::s.kn);refine (xC (Gb hk hb) Ga rfl (.inl ?_) h).of hf (by simp);rw [hf];exact hb
       . rename_i hb
         exact xC hk Ga rfl (.inr hb) h
       . cases h
theorem yi {C:Cx} {ops:List Oper} {base:Nat}:∀ (l:List (Nat×Oper)) (s s':dL) (lg lg':List Log),(oW C ops base l s lg).eval=some (s',lg')→Bo s→pt s.f→
  ∃ L:List pJ,Seq C s.t.length L s.f s'.f∧Bo s'∧s'.t.length=s.t.length∧lg'=(L.map pJ.log).reverse++lg∧L.map (fun d=>(d.i,d.o))=l∧∀ d∈L,d.g=base+d.i∧ub ops d.o d.gd
 |[],s,s',lg,lg',h,hk,hn=>by
  simp only [oW] at h;obtain ⟨rfl,rfl⟩:=Prod.mk.inj (aaG h);exact ⟨[],rfl,hk,rfl,by simp,rfl,by simp⟩
 |(i,o)::r,s,s',lg,lg',h,hk,hn=>by
  simp only [oW] at h;obtain ⟨⟨s1,g1⟩,h1,h2⟩:=cW h;obtain ⟨⟨l,hp,aaO,rfl,hg,rfl,Ga,rfl⟩,k2,k3⟩:=Zs hk hn h1;have VJ:pt s1.f:=by rw [aaO];exact hn.post hp
  obtain ⟨L,q1,q2,q3,q4,q5,q6⟩:=yi r s1 s' _ lg' h2 k2 VJ;refine ⟨l::L,⟨hp,by rw [← aaO, ← k3];exact q1⟩,q2,q3.trans k3, ?_,by simp [q5], ?_⟩
  . rw [q4];simp
  . intro d hd
    rcases abE.1 hd with rfl|hd
    . exact ⟨hg,Ga⟩
    . exact q6 d hd
section
variable {c:Ctx} {μ μ':Nat→Loc} {fp fp':Nat→List Nat} {s:lx} {n:Nat} {a:Act} {w w':World} {C:Cx}
theorem wg {a:Act} {dst:Option Tmp} {v:Value} {j n:Nat} (hn:n≤a.tmps.size) (hd:∀ d,dst=some d→d<n):(a.put dst v).tmps.getD j Go.undef=if dst=some j then v else a.tmps.getD j Go.undef:=by
 cases dst with
 |none=>simp [Act.put]
 |some d=>
  have:=hd d rfl;simp only [Act.put,af9, Array.getElem?_setIfInBounds,adh];grind
theorem qF (a:Act) (dst:Option Tmp) (v:Value):(a.put dst v).tmps.size=a.tmps.size:=by cases dst<;>simp [Act.put]
theorem put_defers (a:Act) (dst:Option Tmp) (v:Value):(a.put dst v).defers=a.defers:=by cases dst<;>rfl
theorem iE.did {l:pJ} {v':Value} {c':Ctx} (h:iE c μ fp s n a w) (hp:Nd C n l s) (e:Ext c c') (q:FV c' μ s l.r v' w' μ' fp'):iE c' μ' fp' (post l s) n (a.put l.o.dst v') w' where
 tm j:=by
  rw [wg h.n hp.dst];show an c' μ' _ (if l.o.dst=some j then l.r.1 else s.t j);split
  . exact q.val
  . exact an.ext e _ (an.mono _ (fun id hi=>q.agree id (h.known.t j id hi)) (h.tm j))
 n:=by rw [qF];exact h.n
 defers:=by rw [put_defers];exact h.defers
 vs:=q.vs
 known:=h.known.post hp
 ev:=q.ev
 fix id hi:=⟨.inl (h.fix id hi).1,by rw [e.loc];exact (q.agree id (h.fix id hi).1).trans (h.fix id hi).2⟩
theorem TJ {P:Program} {o o':Oper} {a:Act} {w:World} {K:Act→World→Prop} {Q:Exit→Act→World→Prop} (hd:o'.dst=o.dst) (hr:(execOp a.eval o).run P w=(execOp a.eval o').run P w) (h:o'.wp P a w K Q):o.wp P a w K Q:=by
 unfold Oper.wp at h ⊢;rw [hr];revert h;generalize (execOp a.eval o').run P w=r;simp_all [Oper.upon]
theorem Dy (hC:iT C c.P) (hF:jq C c.P) {ops:Array Oper} {l:pJ} {K:Act→World→Prop} {Q:Exit→Act→World→Prop} (h:iE c μ fp s n a w) (hp:Nd C n l s) (ho:ops[l.i]? =some l.o) (Ga:ub ops.toList l.o l.gd)
  (hK:∀ c' a' w' μ' fp',Ext c c'→iE c' μ' fp' (post l s) n a' w'→K a' w'):wpOp c.P ops Q l.i K a w:=by
 unfold wpOp;simp only [ho];have hw:Region.wanted l.o (yielded ops a.tmps)= !l.skip:=by
  have hg:=hp.guard;unfold wa at hg;unfold ub at Ga;unfold Region.wanted;split at Ga
  . grind
  . rename_i j want e
    obtain ⟨d,h1,h2⟩:=Ga;rw [h2] at hg;simp only at hg;simp only [e];have h1':(ops[j]?).bind (·.dst)=some d:=by simpa using h1
    have hv:=h.tm d;unfold yielded;rw [h1'];simp only [adb];rw [af9] at hv;cases hs:l.skip with
    |false=>
     rw [hs] at hg;simp only [adf,agF] at hg;rw [hg] at hv;simp only [an] at hv;cases ht:a.tmps[d]? with
     |none=>rw [ht] at hv;cases hv
     |some y=>grind
    |true=>
     rw [hs] at hg;simp only [af7] at hg;rcases hg with hg|hg<;>rw [hg] at hv<;>simp only [an] at hv<;>cases ht:a.tmps[d]? with
     |none=>rfl
     |some y=>rw [ht] at hv;simp only [Option.getD_some] at hv;subst hv;first|rfl|grind
 rw [hw];cases hs:l.skip with
 |true=>
  simp only [Bool.not_true,adf,agF];obtain ⟨e1,e2,_⟩:=hp.skip hs;exact hK c _ _ μ fp (Ext.refl c) (h.did hp (Ext.refl c) ⟨fun _ _=>rfl,by rw [e1];rfl,by rw [e1];exact h.vs,h.ev⟩)
 |false=>
  simp only [Bool.not_false,af7];left;have hE:∀ id x,pE l.R s.v id=some x→s.v id=some x:=by grind [id,pE]
  have aeX:=TI (o:={ l.o with op:=l.op }) h hC hF hE (fr:=l.g*64) (fun id h1 h2=>hp.fresh hs id (by omega)) (hp.core hs);have hwp:=aeX K Q fun c' v' w' μ' fp' e q=>hK c' _ _ μ' fp' e (h.did hp e q);refine TJ (o':={ l.o with op:=l.op }) rfl ?_ hwp;rcases hp.eq hs with e|⟨x,y,z,e,h1⟩
  . rw [e]
  . have hv:=h.cn x
    grind [an,execOp,asBool]
end
end
section
open Go
theorem Dz (l:List Nat):∀ (after:List Edge) (s0 x:Nat),(after.foldl (fun s e=>if Region.binds .any e then s ||| 2 ^ e.on ||| l.getD e.on 0 else s) s0).testBit x=true→
  s0.testBit x=true∨∃ e∈after,Region.binds .any e=true∧(x=e.on∨(l.getD e.on 0).testBit x=true)
 |[],s0,x,h=> .inl h
 |e::r,s0,x,h=>by
  simp only [ade] at h;rcases Dz l r _ x h with h|⟨e',h1,h2⟩
  . grind
  grind
theorem TK {l:List Nat} {after:List Edge} {x:Nat} (h:(bits l after).testBit x=true):∃ e∈after,Region.binds .any e=true∧(x=e.on∨(l.getD e.on 0).testBit x=true):=by
 rcases Dz l after 0 x h with h|h
 . simp at h
 . exact h
theorem yj:∀ (r:List Oper) (acc:List Nat),(ft r acc).take acc.length=acc∧
  ∀ (k:Nat) (o:Oper),r[k]? =some o→(ft r acc).getD (acc.length+k) 0=bits ((ft r acc).take (acc.length+k)) o.after.toList
 |[],acc=>by simp [ft]
 |o::r,acc=>by
  obtain ⟨h1,h2⟩:=yj r (acc++[bits acc o.after.toList]);simp only [aao,List.length_singleton] at h1 h2;have ht:(ft (o::r) acc).take acc.length=acc:=by
   show (ft r (acc++[bits acc o.after.toList])).take acc.length=acc;have:(ft r (acc++[bits acc o.after.toList])).take acc.length=((ft r (acc++[bits acc o.after.toList])).take (acc.length+1)).take acc.length:=by grind
   grind
  refine ⟨ht,fun k o' hk=> ?_⟩;cases k with
  |zero=>
   simp only [List.getElem?_cons_zero,adh] at hk;subst hk;rw [af0,ht];show (ft r (acc++[bits acc o.after.toList])).getD acc.length 0=_;have:(ft r (acc++[bits acc o.after.toList]))[acc.length]? =((ft r (acc++[bits acc o.after.toList])).take (acc.length+1))[acc.length]? :=by grind
   grind
  |succ k=>
   have:=h2 k o' (by simpa using hk);rw [show acc.length+(k+1)=acc.length+1+k by omega];exact this
theorem KD {ops:List Oper} {i:Nat} {o:Oper} (ho:ops[i]? =some o) {x:Nat} (h:((ft ops []).getD i 0).testBit x=true):
  ∃ e∈o.after.toList,Region.binds .any e=true∧(x=e.on∨(e.on<i∧((ft ops []).getD e.on 0).testBit x=true)):=by
 have:=(yj ops []).2 i o ho;simp only [aat,ada] at this;grind [TK,id]
theorem ID:∀ (r:List Oper) (n:Nat),Dh n r=true→∀ (k:Nat) (o:Oper),r[k]? =some o→∀ e∈o.after.toList,Region.binds .any e=true→e.on<n+k
 |[],_,_,k,o,hk=>by simp at hk
 |o::r,n,h,k,o',hk=>by
  simp only [Dh,aaE,aa1] at h;cases k with
  |zero=>
   grind
  |succ k=>
   intro e he hb;have:=ID r (n+1) h.2 k o' (by simpa using hk) e he hb;omega
theorem qG (B:List Nat):∀ (l:List Log),vL B l=true→l.Pairwise fun b a=>(B.getD b.i 0).testBit a.i=true∨indep a b=true
 |[],_=>List.Pairwise.nil
 |b::r,h=>by
  simp only [vL,aaE,aa1,afR] at h;exact List.Pairwise.cons (fun a ha=>h.1 a ha) (qG B r h.2)
section
variable {c:Ctx} {n:Nat} {C:Cx}
theorem DA {ops:Array Oper} {Q:Exit→Act→World→Prop} {sf:lx} {P:Program} (hC:iT C P) (hF:jq C P) {c0:Ctx} (hP:c0.P=P) (hQ:∀ c μ fp a w,Ext c0 c→iE c μ fp sf n a w→Q .normal a w):
  ∀ (L:List pJ) (s:lx) (μ:Nat→Loc) (fp:Nat→List Nat) (a:Act) (w:World) (c:Ctx),Ext c0 c→Seq C n L s sf→(∀ d∈L,ops[d.i]? =some d.o∧ub ops.toList d.o d.gd)→iE c μ fp s n a w→wpOps P ops Q (L.map (·.i)) a w
 |[],s,μ,fp,a,w,c,e,hs,_,h=>by
  simp only [Seq] at hs;subst hs;exact hQ c μ fp a w e h
 |d::L,s,μ,fp,a,w,c,e,hs,hL,h=>by
  have hcP:c.P=P:=e.P.trans hP;rw [acX,wpOps_cons];have:=Dy (Q:=Q) (by rw [hcP];exact hC) (by rw [hcP];exact hF) h hs.1 (hL d (by simp)).1 (hL d (by simp)).2 fun c' a' w' μ' fp' e' h'=>DA hC hF hP hQ L _ μ' fp' a' w' c' (e.trans e') hs.2 (fun x hx=>hL x (by simp [hx])) h';rw [hcP] at this;exact this
theorem DB {ops:Array Oper} {dJ:Array Bool} {i:Nat} (h:i∈Region.ready .any ops dJ):
  i<ops.size∧dJ.getD i true=false∧∃ o,ops[i]? =some o∧∀ e∈o.after.toList,Region.binds .any e=true→dJ.getD e.on false=true:=by
 unfold Region.ready at h;simp only [List.mem_filter,List.mem_range,aaE,aeO] at h;obtain ⟨h1,h2,h3⟩:=h;cases ho:ops[i]? with
 |none=>grind
 |some o=>
  rw [ho] at h3;simp only [afJ,Option.getD_some] at h3;refine ⟨h1,h2,o,rfl,fun e he hb=> ?_⟩;grind [Array.all_eq_true_iff_forall_mem]
theorem TL {ops:Array Oper} {dJ:Array Bool} {i:Nat} {o:Oper} (h1:i<ops.size) (h2:dJ.getD i true=false) (ho:ops[i]? =some o) (h:∀ e∈o.after.toList,Region.binds .any e=true→dJ.getD e.on false=true):
  i∈Region.ready .any ops dJ:=by
 unfold Region.ready;grind
structure Left (C:Cx) (n:Nat) (ops:Array Oper) (base:Nat) (dJ:Array Bool) (R:List pJ) (s sf:lx):Prop where
 size:dJ.size=ops.size
 left:∀ i,i<ops.size→(dJ.getD i true=false↔∃ d∈R,d.i=i)
 sorted:R.Pairwise fun a b=>a.i<b.i
 inv:∀ j,j<ops.size→dJ.getD j true=true→∀ x,((ft ops.toList []).getD j 0).testBit x=true→dJ.getD x false=true
 indep:R.Pairwise fun a b=>((ft ops.toList []).getD b.i 0).testBit a.i=true∨indep a.log b.log=true
 all:∀ d∈R,ops[d.i]? =some d.o∧ub ops.toList d.o d.gd∧d.g=base+d.i
 seq:Seq C n R s sf
theorem DC {l:Array Bool} {i:Nat} (h:i<l.size):l.getD i false=l.getD i true:=by grind
theorem Left.done {ops:Array Oper} {base:Nat} {dJ:Array Bool} {R:List pJ} {s sf:lx} (h:Left C n ops base dJ R s sf) (hb:Dh 0 ops.toList=true) (hr:Region.ready .any ops dJ=[]):s=sf:=by
 cases R with
 |nil=>exact h.seq
 |cons d R=>
  exfalso;obtain ⟨ho,_,_⟩:=h.all d (by simp);have hi:d.i<ops.size:=(by grind)
  have:d.i∈Region.ready .any ops dJ:=by
   refine TL hi ((h.left d.i hi).2 ⟨d,by simp,rfl⟩) ho fun e he hbe=> ?_;have bZ:=ID ops.toList 0 hb d.i d.o (by simpa using ho) e he hbe;rw [ada] at bZ;rw [DC (by rw [h.size];omega)];cases hl:dJ.getD e.on true with
   |true=>rfl
   |false=>
    obtain ⟨d',hd',e'⟩:=(h.left e.on (by omega)).1 hl;rcases abE.1 hd' with rfl|hd'
    . omega
    . have:=List.rel_of_pairwise_cons h.sorted hd'
      omega
  grind
theorem DD {ops:Array Oper} {base:Nat} {Q:Exit→Act→World→Prop} {sf:lx} {P:Program} (hC:iT C P) (hF:jq C P) {c0:Ctx} (hP:c0.P=P) (hb:Dh 0 ops.toList=true) (hQ:∀ c μ fp a w,Ext c0 c→iE c μ fp sf n a w→Q .normal a w):
  ∀ (fuel:Nat) (dJ:Array Bool) (R:List pJ) (s:lx) (μ:Nat→Loc) (fp:Nat→List Nat) (a:Act) (w:World) (c:Ctx),Ext c0 c→R.length≤fuel→Left C n ops base dJ R s sf→iE c μ fp s n a w→wpAny P .any ops Q fuel dJ a w
 |0,dJ,R,s,μ,fp,a,w,c,ec,hl,h,hx=>by
  obtain rfl:R=[]:=by grind
  have hr:Region.ready .any ops dJ=[]:=by
   cases hr:Region.ready .any ops dJ with
   |nil=>rfl
   |cons i r=>
    obtain ⟨h1,h2,_⟩:=DB (i:=i) (by rw [hr];simp);obtain ⟨d,hd,_⟩:=(h.left i h1).1 h2;simp at hd
  exact ⟨hr,by have:=h.done hb hr;grind⟩
 |fuel+1,dJ,R,s,μ,fp,a,w,c,ec,hl,h,hx=>by
  have hcP:c.P=P:=ec.P.trans hP;refine ⟨fun hr=>by have:=h.done hb hr;grind,fun i hi=> ?_⟩;obtain ⟨h1,h2,o,ho,ai1⟩:=DB hi;obtain ⟨d,hd,rfl⟩:=(h.left i h1).1 h2;obtain ⟨A,A',rfl⟩:=List.append_of_mem hd;obtain ⟨hod,Ga,hgb⟩:=h.all d hd;rw [hod] at ho;cases ho
  -- what is done ahead of it is listed
  have amC:∀ x,((ft ops.toList []).getD d.i 0).testBit x=true→dJ.getD x false=true:=by
   intro x hxb;obtain ⟨e,he,hbe,h3⟩:=KD (by simpa using hod) hxb;have hle:=ai1 e he hbe;rcases h3 with rfl|⟨bZ,h3⟩
   . exact hle
   . exact h.inv e.on (by omega) (by grind) x h3
  have aor:=List.pairwise_append.1 h.sorted;have amE:=List.pairwise_append.1 h.indep;have ae1:∀ x∈A,Dx x d∧x.g≠d.g:=by
   intro x hxA;have bZ:x.i<d.i:=by grind
   refine ⟨?_, ?_⟩
   . rcases amE.2.2 x hxA d (by simp) with Cw|Cw
     . exfalso
       have:=amC x.i Cw;rw [DC (by rw [h.size];omega),(h.left x.i (by omega)).2 (by grind)] at this;cases this
     grind [Dx.of]
   . rw [(h.all x (by simp [hxA])).2.2,hgb];omega
  have ai2:=h.seq.first ae1
  rw [← hcP];refine Dy (by grind) (by grind) hx ai2.1 hod Ga fun c' a' w' μ' fp' e' sY=> ?_;rw [hcP];have fH:(A++A').Sublist (A++d::A'):=(by grind)
  have dW:∀ x∈A++A',x.i≠d.i:=by grind [List.rel_of_pairwise_cons]
  have Hd:∀ j ae2,j<ops.size→(dJ.setIfInBounds d.i true).getD j ae2=if d.i=j then true else dJ.getD j ae2:=by
   intro j ae2 hj;have VG:j<dJ.size:=by rw [h.size];exact hj
   simp only [af9, Array.getElem?_setIfInBounds];grind
  refine DD hC hF hP hb hQ fuel _ (A++A') _ μ' fp' a' w' c' (ec.trans e') (by grind) ⟨by simp [h.size], ?_,h.sorted.sublist fH, ?_,h.indep.sublist fH,fun x hxm=>h.all x (fH.subset hxm),ai2.2⟩ sY
  . intro j hj
    rw [Hd j true hj];by_cases e:d.i=j
    . grind
    . rw [aap e,h.left j hj]
      grind
  . intro j hj hlj x hxb
    have key:dJ.getD x false=true:=by
     rw [Hd j true hj] at hlj;by_cases e:d.i=j
     . grind
     . rw [aap e] at hlj
       exact h.inv j hj hlj x hxb
    have Cf:x<ops.size:=by
     rcases ae0 x dJ.size with bZ|I5
     . rw [h.size] at bZ;exact bZ
     grind
    simp_all
end
end
end Go.Proofs.YtohagdoklnkljaaGreat.Dm
