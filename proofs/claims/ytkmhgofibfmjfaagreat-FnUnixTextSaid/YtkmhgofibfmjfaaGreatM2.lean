/- The data machine (a part). -/
import Derived.Test.YtkmhgofibfmjfaaGreatM1
import Derived.Laws.Tables
import Derived.Lib.OthersKept
import Derived.Orders
namespace Go.Proofs.YtkmhgofibfmjfaaGreat.Dm
section
open Go
section
variable {c:Ctx} {μ:Nat→Loc} {fp:Nat→List Nat} {s:mU} {n:Nat} {o:Oper} {a:Act} {w:World} {r:jR} {C:Cx} {E:Env}
theorem ak.jG:{vs:List Value}→{ds:List aj}→ak c μ vs ds→ds.all aj.bB=true→∀ v∈vs,v.oneCell'=true
 |_,[],h,_=>by grind [ak]
 |_,d::ds,h,hc=>by
  simp only [ak] at h;obtain ⟨v,bg,rfl,h1,h⟩:=h;simp only [aeB,aa6] at hc;intro u hu;rcases adM.1 hu with rfl|hu
  . exact h1.jG hc.1
  . exact ak.jG h hc.2 u hu
def spliced (D:Array Value) (pos:Nat) (vs:List Value):Array Value:=(D.toList.take pos++vs++D.toList.drop (pos+vs.length)).toArray
theorem dw {D:Array Value} {pos:Nat} {vs:List Value} (h:pos+vs.length≤D.size):(spliced D pos vs).size=D.size:=by grind [spliced]
theorem ig {D:Array Value} {pos:Nat} {vs:List Value} (h:pos+vs.length≤D.size) (j:Nat):
  (spliced D pos vs)[j]? =if pos≤j∧j<pos+vs.length then vs[j - pos]? else D[j]? :=by
 have hl:(D.toList.take pos).length=pos:=by simp;omega
 simp only [spliced,List.getElem?_toArray];grind
theorem Jp {P:Program} {t:Ty} {tid:TypeId} (eK:t.Ok P tid) {B pos:Nat} {D:Array Value} {T:TypeId} (hb:w.heap[B]? =some (.cells D T (0,0))) {v:Value} (hl:v.cells.toList.length=t.size)
  (alG:pos+t.size≤D.size) (h1:∀ u∈v.cells.toList,u.oneCell'=true):
  (storeVar tid ⟨B,pos,none⟩ v).run P w= .ok () (w.setRow B (spliced D pos v.cells.toList)):=by
 have vP:=run_storeCells_at (P:=P) B pos T v.cells.toList 0 D w hb (by omega) h1;have hs:v.cells.size=t.size:=by rw [← hl];simp
 simp only [Nat.add_zero] at vP;simp [storeVar,eK.mo,hs,vP,spliced]
theorem kh {w:World} {B o' k n:Nat} {D:Array Value} {T:TypeId} (hb:w.heap[B]? =some (.cells D T (0,0))) {vs:List Value} (hk:k+vs.length≤n:=by omega) (hn:o'+n≤D.size:=by omega):
  aK (w.setRow B (spliced D (o'+k) vs)) B o' n=(aK w B o' n).take k++vs++(aK w B o' n).drop (k+vs.length):=by
 rw [cM (setRow_heap w B D _ T _ hb),cM hb];apply ae8;intro j;have hl:((D.toList.drop o').take n).length=n:=by simp;omega
 rcases afw j n with hj|hj
 . rw [aeb hj,ad5,aeD,ig (by omega),adO]
   rcases afw j k with h1|h1
   . grind
   grind
 grind
theorem ow {vs us:List Value} {ds es:List aj} (h:ak c μ vs ds) (h':ak c μ us es) (off:Nat):ak c μ (vs.take off++us++vs.drop (off+us.length)) (fP ds off es):=by
 unfold fP;rw [h'.length];exact ((h.take off).append h').append (h.drop _)
theorem ju {ds es:List aj} {off:Nat} (h:off+es.length≤ds.length:=by omega):(fP ds off es).length=ds.length:=by grind [fP]
theorem nJ {ds es:List aj} {off:Nat} (h:ds.all aj.bB=true) (h':es.all aj.bB=true):(fP ds off es).all aj.bB=true:=by
 simp only [fP,akX,aa6,adG] at*;grind
theorem Es {b:Bool} (h:¬ b=false):b=true:=by grind
variable (h:js c μ fp s n a w)
include h
theorem G0 (hC:kM C c.P) (hE:∀ id x,E id=some x→s.v id=some x) {t:TypeId} {x y:Operand} (ho:o.op= .store t x y)
  {kd:Nat} (hr:(Out.of (C.ty t) λt=>Ec E kd t (gk s.t x) (gk s.t y)).eval=some r):uI c μ s o a w r:=by
 have hx:=h.de x;have hy:=h.de y;replace hr:=aZ hr;obtain ⟨ty,oT,hr⟩:=hr;have eK:=hC.ty t ty oT;have run:∀ (B pos:Nat) (D:Array Value) (T:TypeId),a.eval x= .pointer (some ⟨B,pos,none⟩)→w.heap[B]? =some (.cells D T (0,0))→(a.eval y).cells.toList.length=ty.size→pos+ty.size≤D.size→
   (∀ u∈(a.eval y).cells.toList,u.oneCell'=true)→(execOp a.eval o).run c.P w= .ok .skip (w.setRow B (spliced D pos (a.eval y).cells.toList)):=by
  intro B pos D T hv hb hl hf h1;simp [execOp,ho,hv,Instr.storeAt,Instr.sureAddr,Jp eK hb hl hf h1]
 unfold Ec at hr;split at hr
 . rename_i id off e
   rw [e] at hx;simp only [az] at hx;obtain ⟨B,o',hm,hv⟩:=hx;split at hr
   . rename_i cs fg
     split at hr
     . rename_i hc
       obtain ⟨hc1,hc2,hc3⟩:=hc;have hr:=ac2 hr;subst hr;have yr:=hy.cells hc3;have hvl:=yr.length;obtain ⟨B2,o2,D,T,q1,q2,q3,q4,q5,q6,q7⟩:=h.vs.rel id _ (hE _ _ fg);rw [hm] at q1;cases q1;have lh:=run B (o'+off) D T hv q3 (by omega) (by omega) (yr.jG hc3);have hlen:(fP cs off (gk s.t y).cells).length=cs.length:=ju;have oU:cR c μ (w.setRow B (spliced D (o'+off) (a.eval y).cells.toList)) id [B] (.var (fP cs off (gk s.t y).cells)):=by
        refine ⟨B,o',_,T,hm,rfl,setRow_heap w B D _ T _ q3, ?_, ?_,nJ q6 hc3, ?_⟩
        . rw [dw (by omega),hlen];exact q4
        . rw [hlen,kh q3 (by omega) q4]
          exact ow q5 yr off
        . rw [hlen];exact q7
       have x9:=h.vs.qM (μ':=μ) (w':=w.setRow B (spliced D (o'+off) (a.eval y).cells.toList)) h.ev [] id _ [B] (λ_ _ _ _ _=>⟨rfl,λ_ _=>rfl⟩)
        (λk hk fE _ b hb=>setRow_other w B b _ (λe=>by
         subst e;exact h.vs.sep k id fE hk (by rw [hE _ _ fg];simp) b hb (by rw [q2];simp))) (by simp) oU (by simp)
        (λb hb=> .inr ⟨id, .inl rfl,by rw [hE _ _ fg];simp,by rw [q2];exact hb⟩)
       refine xY lh ⟨λ_ _=>rfl,by simp [az],x9, ?_⟩;refine h.ev.setRow q3 (λhs=>h.vs.kL id (by rw [hE _ _ fg];simp) B (by rw [q2];simp) hs) (dw (by omega)) (λcf j hj=> ?_);rw [ig (by omega)];rw [if_neg]
       rintro ⟨h1,h2⟩
       refine hj ?_;have:=q7 cf (j - o') (by omega);rwa [show o'+(j - o')=j by omega] at this
     . cases hr
   . cases hr
 . rename_i id i off e
   rw [e] at hx;simp only [az] at hx;obtain ⟨b,o',len,cap,sz,hm,hi,hv⟩:=hx;replace hr:=aZ hr;obtain ⟨vr,JM,hr⟩:=hr;unfold XW at hr;split at hr
   . rename_i e' xs j cs
     split at hr
     case isFalse=>cases hr
     rename_i hc;obtain ⟨hc1,hc2,hc3⟩:=hc;rcases cJ hr with ⟨IE,h2⟩|⟨_,h2⟩
     case inr=>cases h2
     have IE:i=j:=by simpa using IE
     subst IE;have h2:=ac2 h2;subst h2;have yr:=hy.cells hc3;have hvl:=yr.length;obtain ⟨ad,cap2,b2,o2,D,T,p,q,q1,q2,q3,q4,q5,q6,q7,q8,q9,q10,q11,q13,q12⟩:=h.vs.rel id _ (hE _ _ JM);rw [hm] at q1;cases q1;cases q2;have ln:o'+(i+1)*e'.size≤D.size:=by
      have:(i+1)*e'.size≤cap*e'.size:=aek _ (by omega);omega
     rw [aeG] at ln;have lh:=run b (o'+i*e'.size+off) D T hv q4 (by omega) (by omega) (yr.jG hc3);have hlen:(fP cs off (gk s.t y).cells).length=cs.length:=ju;have mz:∀ b',b'≠b→(w.setRow b (spliced D (o'+i*e'.size+off) (a.eval y).cells.toList)).heap[b']? =w.heap[b']? :=λb' fE=>setRow_other w b b' _ fE;have Jq:s.v id≠none:=by rw [hE _ _ JM];simp
     have Er:b∈fp id:=by rw [q3];simp
     have oU:cR c μ (w.setRow b (spliced D (o'+i*e'.size+off) (a.eval y).cells.toList)) id (b::(p++q)) (.xN e' xs i (fP cs off (gk s.t y).cells)):=by
      refine ⟨_,cap,b,o',_,T,p,q,hm,rfl,rfl,setRow_heap w b D _ T _ q4, ?_,q6,q7,q8.frame (Fz.le_refl _) (λb' cE=>mz b' λe=>q13 (e ▸ cE)) (dw (by omega)) (λj hj=> ?_), ?_,by rw [hlen];exact q10,nJ q11 hc3,q13,λb' cE=>q12 b' (q3 ▸ cE)⟩
      . rw [dw (by omega)];exact q5
      . rw [ig (by omega),if_neg]
        rw [aeG] at hj;omega
      . rw [kh q4]
        exact ow q9 yr off
     have x9:=h.vs.qM (μ':=μ) (w':=w.setRow b (spliced D (o'+i*e'.size+off) (a.eval y).cells.toList)) h.ev [] id _ (b::(p++q)) (λ_ _ _ _ _=>⟨rfl,λ_ _=>rfl⟩)
      (λk hk fE _ b' cE=>mz b' (λe=>by subst e;exact h.vs.sep k id fE hk Jq b' cE Er)) (by simp) oU (q3 ▸ h.vs.nodup id _ (hE _ _ JM))
      (λb' cE=> .inr ⟨id, .inl rfl,Jq,q3 ▸ cE⟩)
     refine xY lh ⟨λ_ _=>rfl,by simp [az],x9, ?_⟩;exact h.ev.setRow q4 (λhs=>h.vs.kL id Jq b Er hs) (dw (by omega)) (λcf j hj=>absurd (q12 b Er cf j) hj)
   rename_i hno;clear hno;have Y6:(vr.dD off ty).size=ty.size:=by
    cases vr with
    |arr e' _=>exact (pM (Ty.jJ e' off ty)).1
    |Ea e' _ _ _ _ _ _=>exact (pM (Ty.jJ e' off ty)).1
    |xN e' _ _ _=>exact (pM (Ty.jJ e' off ty)).1
    |_=>rfl
   have run:∀ (B pos:Nat) (D:Array Value) (T:TypeId),a.eval x= .pointer (some ⟨B,pos,none⟩)→w.heap[B]? =some (.cells D T (0,0))→(a.eval y).cells.toList.length=(vr.dD off ty).size→pos+(vr.dD off ty).size≤D.size→
     (∀ u∈(a.eval y).cells.toList,u.oneCell'=true)→(execOp a.eval o).run c.P w= .ok .skip (w.setRow B (spliced D pos (a.eval y).cells.toList)):=by
    rw [Y6];exact run
   clear eK oT Y6;generalize vr.dD off ty=ty at hr run;unfold XV at hr;replace hr:=aZ hr;obtain ⟨yy,hyy,hr⟩:=hr;split at hr
   . cases hr
   rename_i RS;simp only [not_or] at RS;obtain ⟨N6,nI⟩:=RS;have nI:(gk s.t y).cells.all aj.bB=true:=by cases hq:(gk s.t y).cells.all aj.bB<;>simp_all
   have N6:id ∉ yy.2:=by simpa using N6
   have yr:=hy.cells nI;obtain ⟨fy,hfy,nK⟩:=AK h.vs hE yr hyy;have hvl:=Ty.fW ty hfy;have Jq:s.v id≠none:=by rw [hE _ _ JM];simp
   split at hr
   . -- the list that is held beside goes back, changed
     split at hr
     . rename_i e' xs x0 j xQ u eD _
       split at hr
       . rename_i hq
         obtain ⟨rfl,atj⟩:=hq;have htu:=Ty.beq_eq _ _ atj;subst htu;replace hr:=cJ hr;rcases hr with ⟨IE,hr⟩|⟨_,hr⟩
         . have IE:i=j:=by simpa using IE
           subst IE;replace hr:=j9 hr;obtain ⟨z,hz,hr⟩:=hr;replace hr:=aZ hr;obtain ⟨z',F7,hr⟩:=hr;have hr:=ac2 hr;subst hr;obtain ⟨ad,cap2,g1,⟨a',qK,lJ,e3,bb,ob,CC,EE,w1,w2,w3,w4,w5,w6,w7⟩,g3,g4,g5⟩:=h.vs.rel id _ (hE _ _ JM);rw [hm] at g1;cases g1;cases w3;have adf:ty.size=1:=by rw [w2];rfl
           have atk:o'+i*e'.size+off<CC.size:=(UV.1 w6).1;have lh:=run b (o'+i*e'.size+off) CC EE hv w5 hvl (by omega) (yr.jG nI);rw [adf] at hvl;obtain ⟨hd,hhd⟩:=Pi.1 hvl;rw [hhd] at lh hfy;have atl:b ∉ fy:=λEr=>by
            obtain ⟨k,hk,tX⟩:=nK.mem b Er;exact h.vs.sep id k (λe=>N6 (e ▸ hk)) Jq (nK.there k hk).1 b w4 tX
           have mz:∀ b',b'≠b→(w.setRow b (spliced CC (o'+i*e'.size+off) [hd])).heap[b']? =w.heap[b']? :=λb' fE=>setRow_other w b b' _ fE;have QP:=ig (D:=CC) (pos:=o'+i*e'.size+off) (vs:=[hd]) (by simp;omega);obtain ⟨z0,z1,f'',k1,k2,k3,k4⟩:=w7 c.fz (w.setRow b (spliced CC (o'+i*e'.size+off) [hd])) _ hd yy.1 fy (Fz.le_refl _) (setRow_heap w b CC _ EE _ w5) (dw (by simp;omega))
            (λj hj=>by rw [QP,if_neg];simp;omega) (by rw [QP,aaZ (by simp)];simp) (λb' _ fE=>mz b' fE) (Ty.ep ty hfy λb' cE=>mz b' λe=>atl (e ▸ cE))
           have hz:xs[i]? =some z:=hz;rw [hz] at k1;cases k1;rw [F7] at k2;cases k2;have uf:f''.Nodup:=k4.nodup_iff.2 (by
            rw [ad1];refine ⟨h.vs.nodup id _ (hE _ _ JM),nK.nodup,λb1 h1 b2 h2 e=> ?_⟩;subst e;obtain ⟨k,hk,tX⟩:=nK.mem b1 h2;exact h.vs.sep id k (λe=>N6 (e ▸ hk)) Jq (nK.there k hk).1 b1 h1 tX)
           have x9:=h.vs.qM (μ':=μ) (w':=w.setRow b (spliced CC (o'+i*e'.size+off) [hd])) h.ev yy.2 id (.arr e' (xs.set i z')) f'' (λ_ _ _ _ _=>⟨rfl,λ_ _=>rfl⟩)
            (λk hk fE _ b' cE=>mz b' (λe=>by subst e;exact h.vs.sep k id fE hk Jq b' cE w4)) (by simp)
            ⟨some ⟨b,o',none⟩,cap,by simpa using hm,by simpa using k3,λb' cE cf=>by
             rcases adE.1 (k4.mem_iff.1 cE) with h1|h1
             . exact g3 b' h1 cf
             . exact nK.may b' h1 cf⟩ uf
            (λb' cE=>by
             rcases adE.1 (k4.mem_iff.1 cE) with h1|h1
             . exact .inr ⟨id, .inl rfl,Jq,h1⟩
             . obtain ⟨k,hk,tX⟩:=nK.mem b' h1
               exact .inr ⟨k, .inr hk,(nK.there k hk).1,tX⟩)
           refine xY lh ⟨λ_ _=>rfl,by simp [az],x9, ?_⟩;exact h.ev.setRow w5 (λhs=>h.vs.kL id Jq b w4 hs) (dw (by simp;omega)) (λcf j hj=>absurd (g3 b w4 cf j) hj)
         . cases hr
       . cases hr
     . cases hr
   . rename_i hnf
     have hnf:∀ k∈yy.2,k ∉ bW vr:=λk hk rr=>hnf (.inl (List.any_eq_true.2 ⟨k,hk,by simpa using rr⟩));replace hr:=aZ hr;obtain ⟨⟨e',xs⟩,hu,hr⟩:=hr;replace hr:=j9 hr;obtain ⟨z,hz,hr⟩:=hr;replace hr:=aZ hr;obtain ⟨z',F7,hr⟩:=hr;have hr:=ac2 hr;subst hr;obtain ⟨ad,lJ,f,g1,g2,g3,g4,g5,g6⟩:=jH h.vs hE JM hu;rw [hm] at g1;cases g1;obtain ⟨b2,o2,D,T,p,fi,q,k1,k2,k3,k4,k5,k6,k7⟩:=zX g2 hz;cases k1;obtain ⟨y0,JJ⟩:=Ty.j8 e' F7;obtain ⟨pre,yv,post,f1,fm,f2,l1,l2,l3,l4,l5⟩:=Ty.mV e' k6 JJ;have hml:=Ty.fW ty l4;have hel:=Ty.fW e' k6;have auZ:pre.length+ty.size+post.length=e'.size:=by rw [← hel,l1];simp [hml];omega
     have uf:f.Nodup:=g3.nodup_iff.2 (h.vs.lK _ g4 λk hk=>(g5 k hk).1);have ln:o'+(i+1)*e'.size≤D.size:=by
      have:(i+1)*e'.size≤cap*e'.size:=aek _ (by omega);omega
     rw [aeG] at ln;have lh:=run b (o'+i*e'.size+off) D T hv k2 hvl (by omega) (yr.jG nI);have Er:b∈f:=by rw [k5];simp
     -- the blocks of what comes are not the list's
     have xX:∀ b'∈fy,b' ∉ f:=λb' h1 h2=>by
      obtain ⟨k,hk,tX⟩:=nK.mem b' h1;obtain ⟨k',rr,Yq⟩:=List.mem_flatMap.1 (g3.mem_iff.1 h2);refine h.vs.sep k k' ?_ (nK.there k hk).1 (g5 k' rr).1 b' tX Yq
      rintro rfl
      rcases adM.1 rr with e|e
      . exact N6 (e ▸ hk)
      . exact hnf k hk e
     have mz:∀ b',b'≠b→(w.setRow b (spliced D (o'+i*e'.size+off) (a.eval y).cells.toList)).heap[b']? =w.heap[b']? :=λb' fE=>setRow_other w b b' _ fE;rw [k5,l3] at uf xX;have hnb:b ∉ p++(f1++fm++f2)++q:=(aeP.1 uf).1;have xV:∀ b'∈p++(f1++fm++f2)++q,(w.setRow b (spliced D (o'+i*e'.size+off) (a.eval y).cells.toList)).heap[b']? =w.heap[b']? :=λb' cE=>mz b' λe=>hnb (e ▸ cE);obtain ⟨x',hx1,Sk⟩:=l5 c.fz (w.setRow b (spliced D (o'+i*e'.size+off) (a.eval y).cells.toList)) (a.eval y).cells.toList yy.1 fy (Fz.le_refl _)
      (λb' cE=>xV b' (by simp at cE ⊢; rcases cE with h|h<;>simp [h])) (Ty.ep ty hfy λb' cE=>mz b' λe=>xX b' cE (by simp [e]))
     rw [F7] at hx1;cases hx1;have hcw:aK (w.setRow b (spliced D (o'+i*e'.size+off) (a.eval y).cells.toList)) b (o'+i*e'.size) e'.size=pre++(a.eval y).cells.toList++post:=by
      rw [kh k2,l1,hvl, ← l2];simp [← hml]
     have fc:=k7 c.fz (w.setRow b (spliced D (o'+i*e'.size+off) (a.eval y).cells.toList)) z' (f1++fy++f2) _ (Fz.le_refl _) (setRow_heap w b D _ T _ k2) (dw (by omega))
      (λj hj=>by rw [ig (by omega),if_neg];rw [aeG] at hj;omega)
      (λb' cE=>xV b' (by simp at cE ⊢; rcases cE with h|h<;>simp [h])) (λcE=>hnb (by simp at cE ⊢; rcases cE with h|h<;>simp [h])) (by rw [hcw];exact Sk)
     have N7:(b::(p++(f1++fy++f2)++q)).Perm ((b::(p++f1++f2++q))++fy):=x8 b p f1 fy f2 q;have Yr:(b::(p++(f1++fm++f2)++q)).Perm ((b::(p++f1++f2++q))++fm):=x8 b p f1 fm f2 q;have gu:∀ b'∈b::(p++f1++f2++q),b'∈b::(p++(f1++fm++f2)++q):=λb' cE=>Yr.mem_iff.2 (adE.2 (.inl cE));have RT:(b::(p++(f1++fy++f2)++q)).Nodup:=N7.nodup_iff.2 (by
      rw [ad1];refine ⟨(ad1.1 (Yr.nodup_iff.1 uf)).1,nK.nodup,λb1 h1 b2 h2 e=> ?_⟩;subst e;exact xX b1 h2 (gu b1 h1))
     have LN:∀ b'∈b::(p++(f1++fy++f2)++q),(∃ k∈id::bW vr,s.v k≠none∧b'∈fp k)∨b'∈fy:=by
      intro b' cE;rcases adE.1 (N7.mem_iff.1 cE) with h1|h1
      . left
        have:b'∈f:=by rw [k5,l3];exact gu b' h1
        obtain ⟨k,hk,tX⟩:=List.mem_flatMap.1 (g3.mem_iff.1 this);exact ⟨k,hk,(g5 k hk).1,tX⟩
      . exact .inr h1
     have Yi:∀ b'∈b::(p++(f1++fy++f2)++q),b'<c.w0.heap.size→∀ j,c.M b' j:=by
      intro b' cE cf;rcases adE.1 (N7.mem_iff.1 cE) with h1|h1
      . exact g6 b' (by rw [k5,l3];exact gu b' h1) cf
      . exact nK.may b' h1 cf
     have x9:=h.vs.qM (μ':=μ) (w':=w.setRow b (spliced D (o'+i*e'.size+off) (a.eval y).cells.toList)) h.ev (bW vr++yy.2) id (.arr e' (xs.set i z')) _ (λ_ _ _ _ _=>⟨rfl,λ_ _=>rfl⟩)
      (λk hk fE hnr b' cE=>mz b' (λe=>by
       subst e;obtain ⟨k',rr,Yq⟩:=List.mem_flatMap.1 (g3.mem_iff.1 Er);refine h.vs.sep k k' ?_ hk (g5 k' rr).1 b' cE Yq
       rintro rfl
       rcases adM.1 rr with e|e
       . exact fE e
       . exact hnr (adE.2 (.inl e)))) (by simp)
      ⟨some ⟨b,o',none⟩,cap,by simpa using hm,by simpa using fc,Yi⟩ RT
      (λb' cE=>by
       rcases LN b' cE with ⟨k,hk,h1,h2⟩|h1
       . rcases adM.1 hk with e|e
         . exact .inr ⟨k, .inl e,h1,h2⟩
         . exact .inr ⟨k, .inr (adE.2 (.inl e)),h1,h2⟩
       . obtain ⟨k,hk,tX⟩:=nK.mem b' h1
         exact .inr ⟨k,by grind,(nK.there k hk).1,tX⟩)
     refine xY lh ⟨λ_ _=>rfl,by simp [az],x9, ?_⟩;refine h.ev.setRow k2 (λhs=> ?_) (dw (by omega)) (by grind);obtain ⟨k',rr,Yq⟩:=List.mem_flatMap.1 (g3.mem_iff.1 Er);exact h.vs.kL k' (g5 k' rr).1 b Yq hs
 . cases hr
end
end
section
open Go
theorem Et (off:Nat):∀ (l:List Value) (k:Nat) (A:Array Value),off+k+l.length≤A.size→
  (l.zipIdx k).foldl (λcs (x:Value×Nat)=>cs.setIfInBounds (off+x.2) x.1) A=spliced A (off+k) l
 |[],k,A,_=>by
  simp [spliced]
 |x::l,k,A,h=>by
  simp only [aay] at h;rw [List.zipIdx_cons,ae5,show k+1=k+1 from rfl,Et off l (k+1) _ (by simp;omega)];apply Array.ext_getElem?;intro j;rw [ig (by simp;omega),ig (by simp;omega)];grind
theorem L1 (off:Nat) (v A:Array Value) (h:off+v.size≤A.size):
  v.zipIdx.foldl (λcs (x:Value×Nat)=>cs.setIfInBounds (off+x.2) x.1) A=spliced A off v.toList:=by
 have:=Et off v.toList 0 A (by simpa using h);rw [Nat.add_zero] at this;grind [Array.toList_zipIdx]
theorem L2 {place:Nat→Option (Nat×Nat)} {A:Array Value} {i:Nat} {v:Value} {r:List (Nat×Value)} {off size:Nat} (hp:place i=some (off,size)) (hv:v.cells.size=size) (h:off+size≤A.size):
  Instr.fill place A ((i,v)::r)=Instr.fill place (spliced A off v.cells.toList) r:=by
 rw [Instr.fill];simp only [hp];rw [aae (by simp [hv];omega), ← L1 off v.cells A (by omega)]
theorem aO.FC.oK {P:Program}:(ts:aO)→∀ {fs:List Field} {o:Nat},ts.FC P fs o→
  ∃ oK,fs.mapM (λf=>(P.info? f.type).map λi=>(f.offset,i.size))=some oK∧∀ k r,ts.offset k=some r→oK[k]? =some (o+r.1,r.2.size)
 | .nil,fs,o,h=>by
   simp only [aO.FC] at h;subst h;exact ⟨[],by simp,λk r hk=>by simp [aO.offset] at hk⟩
 | .cons t ts,fs,o,h=>by
   simp only [aO.FC] at h;obtain ⟨f,q,rfl,h1,h2,h3⟩:=h;obtain ⟨oK,hp,hk⟩:=aO.FC.oK ts h3;obtain ⟨i,z,hi,hs,_⟩:=h2.base;refine ⟨(f.offset,i.size)::oK,by simp [List.mapM_cons,hi,hp], ?_⟩;intro k r hr;cases k with
   |zero=>
    simp only [aO.offset,adI] at hr;subst hr;simp [h1,hs]
   |succ k=>
    simp only [aO.offset] at hr;obtain ⟨r',LG,rfl⟩:=ST.1 hr;grind
section
variable {c:Ctx} {μ:Nat→Loc} {fp:Nat→List Nat} {s:mU} {n:Nat} {o:Oper} {a:Act} {w:World} {r:jR} {C:Cx} {E:Env}
theorem Ty.Ys {P:Program} {t:Ty} {tid:TypeId} (h:t.Ok P tid) {k:Nat} {r:Nat×Ty} (hk:t.field k=some r):r.1+r.2.size≤t.size:=by
 obtain ⟨_,_,_,_,_,_,h⟩:=h.field hk;exact h
theorem L3 {P:Program} {t:Ty} {tid:TypeId} (eK:t.Ok P tid) {place:Nat→Option (Nat×Nat)} (hp:∀ k r,t.field k=some r→place k=some (r.1,r.2.size)) {ev:Operand→aj} {av:Operand→Value}:
  ∀ (ps:List (Nat×Operand)) (A:Array Value) (cs cs':List aj),(∀ x∈ps,az c μ (av x.2) (ev x.2))→A.size=t.size→ak c μ A.toList cs→qG t ev ps cs=some cs'→
    ∃ A',Instr.fill place A (ps.map λx=>(x.1,av x.2))=some A'∧ak c μ A'.toList cs'
 |[],A,cs,cs',_,_,hr,h=>by
  simp only [qG,adI] at h;subst h;exact ⟨A,rfl,hr⟩
 |(k,x)::ps,A,cs,cs',D5,hz,hr,h=>by
  simp only [qG] at h;split at h
  . rename_i off u hf
    split at h
    . rename_i hc
      have hx:=(D5 (k,x) (by simp)).cells hc.2;have hl:=hx.length;have hle:=Ty.Ys eK hf;have A0:(av x).cells.size=u.size:=by grind
      simp only at hle;rw [ael,L2 (hp k _ hf) A0 (by simp only;omega)];refine L3 eK hp ps _ _ _ (by grind) ?_ ?_ h
      . grind [dw]
      grind [ow,spliced]
    . cases h
  . cases h
variable (h:js c μ fp s n a w)
include h
theorem js.Eu (x:Operand):∀ id∈(gk s.t x).ids,s.k id:=by
 intro id hi;cases x with
 |tmp j=>exact h.known.t j id hi
 |const v=>simp only [gk,ofValue] at hi;grind [aj.ids]
 |func f=>grind [gk,aj.ids,aj.bO]
 |global g=>grind [gk,aj.ids]
theorem RU (hC:kM C c.P) {t:TypeId} {ps:Array (Nat×Operand)} (ho:o.op= .build t ps) {fr:Nat}
  (ku:∀ id,fr≤id→id<fr+64→¬ s.k id)
  (hr:(Out.of (C.ty t) λt=>if t.lb=true∧(t.bU t.zero fr).2.2≤fr+64 then
   .of (qG t (gk s.t) ps.toList (t.bU t.zero fr).1) λcs=> .ret (.agg cs,news (t.bU t.zero fr).2.1) else .fail).eval=some r):uI c μ s o a w r:=by
 replace hr:=aZ hr;obtain ⟨ty,oT,hr⟩:=hr;have eK:=hC.ty t ty oT;split at hr
 case isFalse=>cases hr
 rename_i vP;obtain ⟨vP,h64⟩:=vP;replace hr:=aZ hr;obtain ⟨cs,Ff,hr⟩:=hr;have hr:=ac2 hr;subst hr;obtain ⟨Ba,MJ,r1,ch⟩:=h.GY ty (k:=fr) (by grind);obtain ⟨i,z,hi,hs,_,hz,hzc,qb⟩:=eK.base;have D5:∀ x:Operand,az c Ba (a.eval x) (gk s.t x):=λx=>az.mono _ (λid fg=>ch.agree id (h.Eu x id fg)) (h.de x);cases ty with
 |st fs=>
  have apP:=eK;simp only [Ty.Ok] at apP;obtain ⟨_,fields,hu,hf⟩:=apP;obtain ⟨oK,hp,hk⟩:=aO.FC.oK fs hf;have N4:z.cells.size=(Ty.st fs).size:=by grind [Ty.fQ]
  obtain ⟨A',hA,um⟩:=L3 (c:=c) (μ:=Ba) eK (place:=λi=>oK.toArray[i]?) (by grind [Ty.field]) (ev:=gk s.t) (av:=a.eval) ps.toList z.cells _ cs (λx _=>D5 x.2) N4 (by grind) Ff;have hb:c.P.built t ((ps.map λ(i,x)=>(i,a.eval x)).toList)=some A':=by grind [Program.built,Array.toList_map]
  have lh:=run_build (P:=c.P) w t _ A' hb;refine fw (v':= .agg A') (by simp [execOp,ho,lh]) ⟨ch.agree, ?_,ch.rel,h.ev⟩;simp only [az];exact ⟨A',rfl,um⟩
 |_=>grind [Ty.lb]
end
end
section
open Go
variable {z:Fz}
def Items (z:Fz) (w:World) (e:Ty) (cs:List Value) (xs:List e.D) (fps:List (List Nat)):Prop:=
 fps.length=xs.length∧∀ (i:Nat) (y:e.D) (f:List Nat),xs[i]? =some y→fps[i]? =some f→e.aC z w ((cs.drop (i*e.size)).take e.size) y f
theorem L4 {fps:List (List Nat)} {k:Nat} {f:List Nat} (hk:k<fps.length) (h:fps.flatten.Nodup) (hf:f.Nodup) (hd:∀ b∈f,b ∉ fps.flatten):
  (fps.set k f).flatten.Nodup∧∀ b∈(fps.set k f).flatten,b∈fps.flatten∨b∈f:=by
 have e1:=FB fps k hk;have e2:(fps.set k f).flatten=(fps.take k).flatten++f++(fps.drop (k+1)).flatten:=by
  rw [List.set_eq_take_append_cons_drop,aaZ hk];simp
 rw [e1] at h hd;rw [e2,e1];constructor
 . rw [ad1] at h ⊢
   grind
 grind
theorem FJ {A:Array Value} {sz k i n:Nat} {vs:List Value} (hv:vs.length=sz) (hA:A.size=n*sz) (hk:k<n) (hi:i<n):
  ((spliced A (k*sz) vs).toList.drop (i*sz)).take sz=if i=k then vs else (A.toList.drop (i*sz)).take sz:=by
 have JV:(k+1)*sz≤n*sz:=aek _ hk;have ln:(i+1)*sz≤n*sz:=aek _ hi;rw [aeG] at JV ln;apply ae8;intro j;by_cases hj:j<sz
 . rw [aeb hj,ad5,aeD,ig (by omega)]
   by_cases e:i=k
   . grind
   . rw [aae e,aeb hj,ad5,aeD,aeD]
     refine aae ?_;intro ⟨h1,h2⟩;rcases afw i k with h|h
     . have:=aek sz (show i+1≤k from h)
       grind
     . have:=aek sz (show k+1≤i by omega)
       grind
 grind
section
variable {c:Ctx} {μ:Nat→Loc} {fp:Nat→List Nat} {s:mU} {n:Nat} {o:Oper} {a:Act} {w:World} {r:jR} {C:Cx} {E:Env}
theorem Ew {e:Ty} {xs:List e.D} {fps:List (List Nat)} {A:Array Value} {T:TypeId} {cap:Nat} (hi:Items z w e A.toList xs fps) (hc:xs.length≤cap∧xs.length≤cj) (hA:cap*e.size≤A.size) (cf:∀ b∈fps.flatten,b<w.heap.size):
  (Ty.sl e).aC z (w.alloc (.cells A T)) [.slice (some ⟨w.heap.size,0,none⟩) xs.length cap] xs (w.heap.size::fps.flatten):=by
 simp only [Ty.aC];refine ⟨_,cap,rfl,hc, .inr ⟨w.heap.size,0,A,T,fps,rfl,heap_alloc_new w _,by omega,hi.1,rfl, ?_⟩⟩;intro i y f hy hf;have hy:xs[i]? =some y:=hy;have hf:fps[i]? =some f:=hf;have h1:=hi.2 i y f hy hf;rw [cM (heap_alloc_new w _),aeS];grind [Ty.ep,heap_alloc_old,List.mem_flatten,List.mem_of_getElem?]
theorem ya (hv:dq c μ fp s.v w) (hE:∀ id x,E id=some x→s.v id=some x) {e:Ty} {ev:Operand→aj} {av:Operand→Value}:
  ∀ (ps:List (Nat×Operand)) (A:Array Value) (xs:List e.D) (fps:List (List Nat)) (g:List Nat) (r:List e.D×List Nat),(∀ x∈ps,az c μ (av x.2) (ev x.2))→A.size=xs.length*e.size→
    Items c.fz w e A.toList xs fps→my c fp s.v E g fps.flatten→ld E e ev ps xs g=some r→
    ∃ A' apQ,Instr.fill (λi=>some (i*e.size,e.size)) A (ps.map λx=>(x.1,av x.2))=some A'∧A'.size=xs.length*e.size∧r.1.length=xs.length∧Items c.fz w e A'.toList r.1 apQ∧my c fp s.v E r.2 apQ.flatten
 |[],A,xs,fps,g,r,_,hz,hi,hg,h=>by
  simp only [ld,adI] at h;subst h;exact ⟨A,fps,rfl,hz,rfl,hi,hg⟩
 |(k,x)::ps,A,xs,fps,g,r,D5,hz,hi,hg,h=>by
  simp only [ld] at h;split at h
  . cases h
  rename_i G1;simp only [not_or] at G1;obtain ⟨hkl,nI⟩:=G1;have hk:k<xs.length:=by omega
  have nI:(ev x).cells.all aj.bB=true:=Es nI;obtain ⟨y,hy,h⟩:=WP.1 h;split at h
  . cases h
  rename_i RV;have hvx:=(D5 (k,x) (by simp)).cells nI;obtain ⟨f,hf,AY⟩:=AK hv hE hvx hy;have hl:=Ty.fW e hf;have ln:(k+1)*e.size≤xs.length*e.size:=aek _ hk;rw [aeG] at ln;have au0:∀ i∈y.2,i ∉ g:=by grind
  have xX:∀ b∈f,b ∉ fps.flatten:=λb h1 h2=>by
   obtain ⟨i1,hi1,MA⟩:=AY.mem b h1;obtain ⟨i2,hi2,OR⟩:=hg.mem b h2;exact hv.sep i1 i2 (by grind) (AY.there i1 hi1).1 (hg.there i2 hi2).1 b MA OR
  obtain ⟨n1,n2⟩:=L4 (f:=f) (by rw [hi.1];exact hk) hg.nodup AY.nodup xX;rw [ael,L2 (off:=k*e.size) (size:=e.size) rfl (by grind) (by omega)];have:=ya hv hE ps (spliced A (k*e.size) (av x).cells.toList) (xs.set k y.1) (fps.set k f) (g++y.2) r (λz hz=>D5 z (by simp [hz]))
   (by grind [dw,List.length_set])
   ⟨by simp [hi.1],λi z f' F7 MB=>by
    have ra:i<xs.length:=by grind
    rw [FJ hl hz hk ra];by_cases e:i=k
    . grind
    . rw [aae e]
      rw [List.getElem?_set_ne (Ne.symm e)] at F7 MB;exact hi.2 i z f' F7 MB⟩
   ⟨λb hb=>by
    rcases n2 b hb with hb|hb
    . obtain ⟨i,hi,hb⟩:=hg.mem b hb;grind
    . obtain ⟨i,hi,hb⟩:=AY.mem b hb;grind,n1,
    λi hi=>by
     rcases adE.1 hi with hi|hi
     . exact hg.there i hi
     . exact AY.there i hi,
    λb hb cf j=>by
     rcases n2 b hb with hb|hb
     . exact hg.may b hb cf j
     . exact AY.may b hb cf j⟩ h
  grind
theorem L5 {zf:Fz} {e:Ty} {z:Array Value} (hz:z.toList=e.zeroV) (n:Nat):Items zf w e (madeCells z (n*e.size)).toList (List.replicate n e.zero) (List.replicate n []):=by
 refine ⟨by simp,λi y f hy hf=> ?_⟩;have hi:i<n:=by grind
 rw [afX,aaZ hi] at hy hf;cases hy;cases hf;have hzl:e.zeroV.length=e.size:=Ty.fQ e;have N4:z.size=e.size:=by grind
 have ln:(i+1)*e.size≤n*e.size:=aek _ hi;rw [aeG] at ln;have:((madeCells z (n*e.size)).toList.drop (i*e.size)).take e.size=e.zeroV:=by
  apply ae8;intro k;by_cases hk:k<e.size
  . rw [aeb hk,ad5,aeD]
    have ate:(i*e.size+k) % z.size=k:=by grind [Nat.add_comm,Nat.add_mul_mod_self_right,Nat.mod_eq_of_lt]
    rw [← hz,aeD];simp only [madeCells];grind
  grind
 grind [Ty.lL]
variable (h:js c μ fp s n a w)
include h
theorem Ey (hC:kM C c.P) (hE:∀ id x,E id=some x→s.v id=some x) {t:TypeId} {m:Nat} {ps:Array (Nat×Operand)} (ho:o.op= .buildSlice t m ps) {fr:Nat} (ku:¬ s.k fr)
  (hr:(Out.of (C.ty t) λt=> .of (Ed t) λe=>if m*e.size≤16777216 then
   .of (ld E e (gk s.t) ps.toList (List.replicate m e.zero) []) λy=> .ret (.dn fr none,(y.2.map λk=>(k,none))++[(fr,some (.arr e y.1))]) else .fail).eval=some r):uI c μ s o a w r:=by
 replace hr:=aZ hr;obtain ⟨ty,oT,hr⟩:=hr;replace hr:=aZ hr;obtain ⟨e,he,hr⟩:=hr;have oT:C.ty t=some (.sl e):=BN he ▸ oT;obtain ⟨eid,hu,eK⟩:=(hC.ty t _ oT).sl;split at hr
 case isFalse=>cases hr
 rename_i hm;replace hr:=aZ hr;obtain ⟨y,hy,hr⟩:=hr;have hr:=ac2 hr;subst hr;obtain ⟨i,z,hi,hs,hb,hz,hzc,qb⟩:=eK.base;have hzl:e.zeroV.length=e.size:=Ty.fQ e;obtain ⟨A',fps,hA,hAs,hyl,hit,hg⟩:=ya (av:=a.eval) h.vs hE ps.toList (madeCells z.cells (m*e.size)) _ (List.replicate m []) [] y (λx _=>h.de x.2) (by rw [size_madeCells,List.length_replicate]) (L5 hzc m)
  ⟨by simp,by simp,by simp,by simp⟩ hy
 simp only [List.length_replicate] at hAs hyl;have cf:∀ b∈fps.flatten,b<w.heap.size:=λb hb=>by
  obtain ⟨k,hk,hb⟩:=hg.mem b hb;exact h.vs.lt k (hg.there k hk).1 b hb
 have lh:(execOp a.eval o).run c.P w= .ok (.value (.slice (some ⟨w.heap.size,0,none⟩) m m)) (w.alloc (.cells A' eid)):=by
  have hzr:(zeroValue eid).run c.P w= .ok z w:=by simp [zeroValue,typeInfo,hi,hz]
  have Yt:Instr.fill (λi=>some (i*e.size,e.size)) ((Array.range (m*e.size)).map (z.cells[· % z.cells.size]!)) (ps.toList.map λx=>(x.1,a.eval x.2))=some A':=hA;by_cases h0:m*e.size=0
  . have hm0:m=0:=by grind [Nat.mul_eq_zero]
    subst hm0;have Yt:Instr.fill (λi=>some (i*e.size,e.size)) ((Array.range 0).map λ_=>default) (ps.toList.map λx=>(x.1,a.eval x.2))=some A':=by grind
    simp [execOp,ho,Instr.buildSlice,run_underlying hu,eK.mo,Yt,newRow]
  . have:¬ (16777216<m*e.size):=by omega
    simp [execOp,ho,Instr.buildSlice,run_underlying hu,eK.mo,this,h0,hzr,Yt,newRow]
 have um:=Ew (T:=eid) (cap:=m) hit ⟨by omega,by unfold cj;have:m*1≤m*e.size:=Nat.mul_le_mul_left _ (by omega);omega⟩ (by omega) cf;rw [hyl] at um;have oU:cR c (λid=>if id=fr then .tY (some ⟨w.heap.size,0,none⟩) y.1.length m e.size else μ id) (w.alloc (.cells A' eid)) fr (w.heap.size::fps.flatten) (.arr e y.1):=by
  refine ⟨some ⟨w.heap.size,0,none⟩,m,by simp,by grind,λb hb rv=> ?_⟩;rcases adM.1 hb with rfl|hb
  . have:=h.ev.size;omega
  . exact hg.may b hb rv
 obtain ⟨q1,q2⟩:=h.new ku y.2 _ _ _ (λid hn _ b cE=>heap_alloc_old w _ b (h.vs.lt id hn b cE)) (by simp) oU
  (aeP.2 ⟨by grind,hg.nodup⟩) (λb hb=>by
   rcases adM.1 hb with rfl|hb
   . simp_all
   . obtain ⟨k,hk,hb⟩:=hg.mem b hb
     exact .inr ⟨k,hk,(hg.there k hk).1,hb⟩)
 refine fw lh ⟨q1, ?_,q2,h.ev.alloc _ _⟩;grind [az]
end
end
section
open Go
variable {z:Fz}
mutual
theorem Ty.sA {w:World}:(t:Ty)→{cs:List Value}→{x:t.D}→{f:List Nat}→t.aC z w cs x f→∀ v∈cs,v.oneCell'=true
 | .bool,_,_,_,h=>by simp only [Ty.aC] at h;obtain ⟨rfl,_⟩:=h;simp [Value.oneCell']
 | .int _,_,_,_,h=>by simp only [Ty.aC] at h;obtain ⟨rfl,_⟩:=h;simp [Value.oneCell']
 | .str,_,_,_,h=>by simp only [Ty.aC] at h;obtain ⟨rfl,_⟩:=h;simp [Value.oneCell']
 | .hole,_,_,_,h=>by simp only [Ty.aC] at h;grind
 | .sl _,_,_,_,h=>by simp only [Ty.aC] at h;obtain ⟨a,cap,rfl,_⟩:=h;simp [Value.oneCell']
 | .fz _,_,_,_,h=>by simp only [Ty.aC,Ty.aT] at h;obtain ⟨⟨a,cap,rfl,_⟩,_⟩:=h;simp [Value.oneCell']
 | .st fs,_,_,_,h=>aO.sA fs (by simpa only [Ty.aC] using h)
theorem aO.sA {w:World}:(t:aO)→{cs:List Value}→{x:t.D}→{f:List Nat}→t.aC z w cs x f→∀ v∈cs,v.oneCell'=true
 | .nil,_,_,_,h=>by simp only [aO.aC] at h;obtain ⟨rfl,_⟩:=h;simp
 | .cons t ts,_,_,_,h=>by
   simp only [aO.aC] at h;obtain ⟨c1,c2,f1,f2,rfl,_,h1,h2⟩:=h;intro v hv;rcases adE.1 hv with hv|hv
   . exact Ty.sA t h1 v hv
   . exact aO.sA ts h2 v hv
end
mutual
theorem Ty.sB {S:Nat→Prop} {w w':World}:(t:Ty)→{cs:List Value}→{x:t.D}→t.flat=true→t.aT S w cs x→t.aC z w' cs x []
 | .bool,_,_,_,h=>by simp only [Ty.aT] at h;simp [Ty.aC,h]
 | .int _,_,_,_,h=>by simp only [Ty.aT] at h;simp [Ty.aC,h]
 | .str,_,_,_,h=>by simp only [Ty.aT] at h;simp [Ty.aC,h]
 | .hole,_,_,_,h=>by simp only [Ty.aT] at h;simp only [Ty.aC];exact ⟨h,trivial⟩
 | .sl _,_,_,hf,_=>by simp [Ty.flat] at hf
 | .fz _,_,_,hf,_=>by simp [Ty.flat] at hf
 | .st fs,_,_,hf,h=>by simp only [Ty.aC];exact aO.sB fs hf (by simpa only [Ty.aT] using h)
theorem aO.sB {S:Nat→Prop} {w w':World}:(t:aO)→{cs:List Value}→{x:t.D}→t.flat=true→t.aT S w cs x→t.aC z w' cs x []
 | .nil,_,_,_,h=>by simp only [aO.aT] at h;simp [aO.aC,h]
 | .cons t ts,_,_,hf,h=>by
   simp only [aO.flat,aa6] at hf;simp only [aO.aT] at h;obtain ⟨c1,c2,rfl,h1,h2⟩:=h;simp only [aO.aC];exact ⟨c1,c2,[],[],rfl,rfl,Ty.sB t hf.1 h1,aO.sB ts hf.2 h2⟩
end
mutual
theorem Ty.pN {c:Ctx} {w':World}:(t:Ty)→{cs:List Value}→{x:t.D}→t.oQ=true→t.aT c.S c.w0 cs x→t.aC c.fz w' cs x []
 | .bool,_,_,_,h=>by grind [Ty.aT,Ty.aC]
 | .int _,_,_,_,h=>by grind [Ty.aT,Ty.aC]
 | .str,_,_,_,h=>by grind [Ty.aT,Ty.aC]
 | .hole,_,_,_,h=>by simp_all [Ty.aT,Ty.aC]
 | .sl _,_,_,hf,_=>by grind [Ty.oQ]
 | .fz e,_,_,_,h=>by simp only [Ty.aC];exact ⟨h,trivial⟩
 | .st fs,_,_,hf,h=>by simp only [Ty.aC];exact aO.pN fs (by simpa only [Ty.oQ] using hf) (by simpa only [Ty.aT] using h)
theorem aO.pN {c:Ctx} {w':World}:(t:aO)→{cs:List Value}→{x:t.D}→t.oQ=true→t.aT c.S c.w0 cs x→t.aC c.fz w' cs x []
 | .nil,_,_,_,h=>by grind [aO.aT,aO.aC]
 | .cons t ts,_,_,hf,h=>by
   simp only [aO.oQ,aa6] at hf;simp only [aO.aT] at h;obtain ⟨c1,c2,rfl,h1,h2⟩:=h;simp only [aO.aC];exact ⟨c1,c2,[],[],rfl,rfl,Ty.pN t hf.1 h1,aO.pN ts hf.2 h2⟩
end
mutual
theorem Ty.sC {z:Fz} {w:World}:(t:Ty)→{cs:List Value}→{x:t.D}→{f:List Nat}→t.oQ=true→t.aC z w cs x f→f=[]
 | .bool,_,_,_,_,h=>by grind [Ty.aC]
 | .int _,_,_,_,_,h=>by grind [Ty.aC]
 | .str,_,_,_,_,h=>by grind [Ty.aC]
 | .hole,_,_,_,_,h=>by grind [Ty.aC]
 | .sl _,_,_,_,hf,_=>by grind [Ty.oQ]
 | .fz _,_,_,_,_,h=>by grind [Ty.aC]
 | .st fs,_,_,_,hf,h=>aO.sC fs (by simpa only [Ty.oQ] using hf) (by simpa only [Ty.aC] using h)
theorem aO.sC {z:Fz} {w:World}:(t:aO)→{cs:List Value}→{x:t.D}→{f:List Nat}→t.oQ=true→t.aC z w cs x f→f=[]
 | .nil,_,_,_,_,h=>by grind [aO.aC]
 | .cons t ts,_,_,_,hf,h=>by
   simp only [aO.oQ,aa6] at hf;simp only [aO.aC] at h;obtain ⟨c1,c2,f1,f2,rfl,rfl,h1,h2⟩:=h;rw [Ty.sC t hf.1 h1,aO.sC ts hf.2 h2];rfl
end
def Src (z:Fz) (w:World) (e:Ty) (v:Value) (ys:List e.D) (lN:List (List Nat)):Prop:=
 ∃ a cap,v= .slice a ys.length cap∧lN.length=ys.length∧(ys=[]∨∃ b o,a=some ⟨b,o,none⟩∧
   ∀ (i:Nat) (y:e.D) (f:List Nat),ys[i]? =some y→lN[i]? =some f→e.aC z w (aK w b (o+i*e.size) e.size) y f)
theorem L7 {w:World} {b o n:Nat} (h:(aK w b o n).length=n) (hn:0<n):∃ C E fr,w.heap[b]? =some (.cells C E fr)∧o+n≤C.size:=by grind [aK]
theorem lZ {w:World} {b o n sz i:Nat} (hi:i<n):((aK w b o (n*sz)).drop (i*sz)).take sz=aK w b (o+i*sz) sz:=by
 have ln:(i+1)*sz≤n*sz:=aek _ hi;rw [aeG] at ln;unfold aK;split
 . grind [List.drop_take,List.drop_drop]
 . simp
theorem Src.cells {w:World} {e:Ty} {b o:Nat} {ys:List e.D} {lN:List (List Nat)} (hl:lN.length=ys.length) (qb:0<e.size) (fE:ys≠[])
  (h:∀ (i:Nat) (y:e.D) (f:List Nat),ys[i]? =some y→lN[i]? =some f→e.aC z w (aK w b (o+i*e.size) e.size) y f):
  ∃ C E fr,w.heap[b]? =some (.cells C E fr)∧o+ys.length*e.size≤C.size∧(aK w b o (ys.length*e.size)).length=ys.length*e.size∧
    Items z w e (aK w b o (ys.length*e.size)) ys lN∧∀ v∈aK w b o (ys.length*e.size),v.oneCell'=true:=by
 have hn:0<ys.length:=PP.2 fE;have apS:=h (ys.length - 1) _ _ (aa7 (by omega)) (aa7 (by omega));have hll:=Ty.fW e apS;obtain ⟨C,E,fr,hb,ln⟩:=L7 hll qb;have hmul:(ys.length - 1+1)*e.size=ys.length*e.size:=by rw [ago hn]
 rw [aeG] at hmul;have hlen:(aK w b o (ys.length*e.size)).length=ys.length*e.size:=by rw [cM hb];simp;omega
 refine ⟨C,E,fr,hb,by omega,hlen,⟨hl,λi y f hy hf=> ?_⟩,λv hv=> ?_⟩
 . rw [lZ (So.1 hy).1];exact h i y f hy hf
 . obtain ⟨j,hj,hvj⟩:=afM hv
   rw [hlen] at hj;have hi:j / e.size<ys.length:=(Nat.div_lt_iff_lt_mul qb).2 hj;have hr:=h (j / e.size) _ _ (aa7 hi) (aa7 (by omega));refine Ty.sA e hr v ?_;rw [← lZ (n:=ys.length) hi,List.mem_iff_getElem?];refine ⟨j % e.size, ?_⟩;rw [aeb (Nat.mod_lt _ qb),ad5,Nat.div_add_mod', ← hvj];exact aa7 _
theorem yb {w:World} {e:Ty} {cs ds:List Value} {xs ys:List e.D} {fps lN:List (List Nat)} (h:Items z w e cs xs fps) (h':Items z w e ds ys lN) (hl:cs.length=xs.length*e.size) (hl':ds.length=ys.length*e.size) (rest:List Value):
  Items z w e (cs++ds++rest) (xs++ys) (fps++lN):=by
 refine ⟨by simp [h.1,h'.1],λi y f hy hf=> ?_⟩;rcases afw i xs.length with hi|hi
 . rw [aja hi] at hy
   rw [aja (by rw [h.1];exact hi)] at hf;have ln:(i+1)*e.size≤xs.length*e.size:=aek _ hi;rw [aeG] at ln;have:=h.2 i y f hy hf;rw [adO,List.drop_append_of_le_length (by omega),List.take_append_of_le_length (by simp;omega)];exact this
 . rw [ahc hi] at hy
   rw [ahc (by rw [h.1];exact hi),h.1] at hf;have hj:i - xs.length<ys.length:=(So.1 hy).1;have ln:(i - xs.length+1)*e.size≤ys.length*e.size:=aek _ hj;rw [aeG] at ln;have:=h'.2 (i - xs.length) y f hy hf;have e1:i*e.size=cs.length+(i - xs.length)*e.size:=by rw [hl, ← aeG];congr 1;omega
   rw [adO,e1,List.drop_append,List.drop_of_length_le (by omega),ad0,show cs.length+(i - xs.length)*e.size - cs.length=(i - xs.length)*e.size by omega,
    List.drop_append_of_le_length (by omega),List.take_append_of_le_length (by simp;omega)]
   exact this
theorem Items.congr {w w':World} {e:Ty} {cs:List Value} {xs:List e.D} {fps:List (List Nat)} (h:Items z w e cs xs fps) (hs:∀ b∈fps.flatten,w'.heap[b]? =w.heap[b]?):Items z w' e cs xs fps:=
 ⟨h.1,λi y f hy hf=>Ty.ep e (h.2 i y f hy hf) λb hb=>hs b (alB.2 ⟨f,afF hf,hb⟩)⟩
theorem Yu {w:World} {e:Ty} {xs:List e.D} {fps:List (List Nat)} {C:Array Value} {T:TypeId} {b o cap:Nat} (hb:w.heap[b]? =some (.cells C T (0,0))) (hc:xs.length≤cap∧xs.length≤cj) (hC:o+cap*e.size≤C.size)
  (hi:Items z w e ((C.toList.drop o).take (xs.length*e.size)) xs fps):(Ty.sl e).aC z w [.slice (some ⟨b,o,none⟩) xs.length cap] xs (b::fps.flatten):=by
 simp only [Ty.aC];refine ⟨_,cap,rfl,hc, .inr ⟨b,o,C,T,fps,rfl,hb,hC,hi.1,rfl, ?_⟩⟩;intro i y f hy hf;have hy:xs[i]? =some y:=hy;have hf:fps[i]? =some f:=hf;have ra:i<xs.length:=(So.1 hy).1;have:=hi.2 i y f hy hf;rw [← cM hb,lZ ra] at this;exact this
end
section
open Go
variable {z:Fz}
section
variable {P:Program} {w:World}
theorem L8 (t ty e:TypeId) (i:TypeInfo) (ht:P.underlying t=some (.slice e)) (hi:P.info? e=some i)
  (g o lO rA:Nat) (cur:Array Value) (T:TypeId) (hg:w.heap[g]? =some (.cells cur T (0,0)))
  (a:Addr) (m c:Nat) (news:List Value) (hl:news.length=m*i.size) (afG:∀ j u,news[j]? =some u→w.cell? (a.add j)=some u) (h1:∀ u∈news,u.oneCell'=true)
  (L9:lO+m≤rA) (alG:o+lO*i.size+news.length≤cur.size):
  (Builtin.append_ #[t,t] ty #[.slice (some ⟨g,o,none⟩) lO rA, .slice (some a) m c]).run P w=
   .ok (.slice (some ⟨g,o,none⟩) (lO+m) rA) (w.setRow g (spliced cur (o+lO*i.size) news)):=by
 have hf:=run_firstCells_some (P:=P) w i.size m a m c news hl afG;have vP:=run_storeCells_at P g (o+lO*i.size) T news 0 cur w hg (by simpa using alG) h1;simp only [Nat.add_zero] at vP;simp [Builtin.append_,run_underlying ht,sizeOf,typeInfo,hi,Builtin.lenOf,L9,hf,Addr.add_lit,vP,spliced]
theorem Ma (t ty e:TypeId) (i:TypeInfo) (ht:P.underlying t=some (.slice e)) (hi:P.info? e=some i) (s a:Option Addr) (lO rA c:Nat) (h:lO≤rA):
  (Builtin.append_ #[t,t] ty #[.slice s lO rA, .slice a 0 c]).run P w= .ok (.slice s lO rA) w:=by
 cases s<;>cases a<;>simp [Builtin.append_,run_underlying ht,sizeOf,typeInfo,hi,Builtin.lenOf,h,Builtin.firstCells,loadCells,loadCellsFrom,storeCells]
theorem Jr (t ty e:TypeId) (i:TypeInfo) (z:Value) (ht:P.underlying t=some (.slice e)) (hi:P.info? e=some i) (hz:i.zero=some z) (s:Option Addr)
  (a:Addr) (n c:Nat) (news:List Value) (hl:news.length=n*i.size) (afG:∀ j v,news[j]? =some v→w.cell? (a.add j)=some v)
  (h0:0<n) (h63:(n:Int)≤9223372036854775807) (h48:n*i.bytes≤281474976710656):
  (Builtin.append_ #[t,t] ty #[.slice s 0 0, .slice (some a) n c]).run P w=
   .ok (.slice (some ⟨w.heap.size,0,none⟩) n (grownCap w n 0 e)) (w.drew.alloc (.cells (news.toArray++Builtin.zeroCells z.cells (grownCap w n 0 e - n)) e)):=by
 have hn:n≠0:=by omega
 have atn:¬ (9223372036854775807<(n:Int)):=by omega
 have ato:¬ (281474976710656<Builtin.nextslicecap n 0*i.bytes):=by grind [nextslicecap_zero]
 have hf:=run_firstCells_some (P:=P) w.drew i.size n a n c news hl (by simp_all);have hs:(Builtin.firstCells i.size 0 (.slice s 0 0)).run P w.drew= .ok #[] w.drew:=by
  cases s<;>simp [Builtin.firstCells,loadCells,loadCellsFrom]
 simp [Builtin.append_,run_underlying ht,sizeOf,typeInfo,zeroValue,hi,hz,Builtin.lenOf,hn,atn,ato,Question.forced,hs,hf,newRow,grownCap]
structure yc (c:Ctx) (w:World) (e:Ty) (zs:List e.D) (fx gp:List Nat) (v':Value) (w':World) (f:List Nat):Prop where
 rep:(Ty.sl e).aC c.fz w' [v'] zs f
 nodup:f.Nodup
 from_:∀ b∈f,(w.heap.size≤b∧b<w'.heap.size)∨b∈fx∨b∈gp
 size:w.heap.size≤w'.heap.size
 heap:∀ b,b ∉ fx→b<w.heap.size→w'.heap[b]? =w.heap[b]?
 ev:Ev c w→(∀ b∈fx,¬ c.S b)→(∀ b∈fx,b<c.w0.heap.size→∀ j,c.M b j)→Ev c w'
theorem Ez (z:Array Value) (n:Nat):(Builtin.zeroCells z n).size=n*z.size:=by simp [Builtin.zeroCells]
theorem Mb (c:Ctx) {eid:TypeId} {e:Ty} {i:TypeInfo} {z:Value} (hb:i.bytes≤1024) (N4:z.cells.size=e.size) {vx:Value} {xs ys:List e.D} {fx:List Nat} {lN:List (List Nat)}
  (hx:(Ty.sl e).aC c.fz w [vx] xs fx) (hfx:fx.Nodup) (hg:lN.flatten.Nodup) (hd:∀ b∈lN.flatten,b ∉ fx) (hgl:∀ b∈lN.flatten,b<w.heap.size) (hn:xs.length+ys.length≤bn)
  {news:List Value} (q3:news.length=ys.length*e.size) (q4:Items c.fz w e news ys lN) {R:Value→Value→World→Prop}
  (R0:∀ s:Option Addr,(ys.length:Int)≤9223372036854775807→ys.length*i.bytes≤281474976710656→R (.slice s 0 0) (.slice (some ⟨w.heap.size,0,none⟩) ys.length (grownCap w ys.length 0 eid)) (w.drew.alloc (.cells (news.toArray++Builtin.zeroCells z.cells (grownCap w ys.length 0 eid - ys.length)) eid)))
  (apT:∀ (g o lO rA:Nat) (cur:Array Value) (T:TypeId),w.heap[g]? =some (.cells cur T (0,0))→lO+ys.length≤rA→o+lO*e.size+news.length≤cur.size→
   R (.slice (some ⟨g,o,none⟩) lO rA) (.slice (some ⟨g,o,none⟩) (lO+ys.length) rA) (w.setRow g (spliced cur (o+lO*e.size) news)))
  (apU:∀ (b:Addr) (lO rA:Nat) (alJ:List Value),alJ.length=lO*e.size→(∀ j v,alJ[j]? =some v→w.cell? (b.add j)=some v)→rA<lO+ys.length→((lO+ys.length:Nat):Int)≤9223372036854775807→
   Builtin.nextslicecap (lO+ys.length) rA*i.bytes≤281474976710656→R (.slice (some b) lO rA) (.slice (some ⟨w.heap.size,0,none⟩) (lO+ys.length) (grownCap w (lO+ys.length) rA eid))
    (w.drew.alloc (.cells (alJ.toArray++news.toArray++Builtin.zeroCells z.cells (grownCap w (lO+ys.length) rA eid - (lO+ys.length))) eid))):
  ∃ v' w' f,R vx v' w'∧yc c w e (xs++ys) fx lN.flatten v' w' f:=by
 simp only [Ty.aC] at hx;have GU:(Ty.sl e).aC c.fz w [vx] xs fx:=by simp only [Ty.aC];exact hx
 obtain ⟨ax,cap,ex,⟨uq,_⟩,hx⟩:=hx;obtain rfl:vx= .slice ax xs.length cap:=by simpa using ex
 have apV:∀ b∈fx,b<w.heap.size:=Ty.iW _ GU;unfold bn at hn;have Jo:∀ k,k≤xs.length+ys.length→k*i.bytes≤140737488355328:=λk hk=>by
  have:k*i.bytes≤68719476736*1024:=Nat.mul_le_mul (by omega) hb;omega
 -- what a new row is
 have grown:∀ (Fy:List Value) (fps:List (List Nat)) (C0:Nat),Fy.length=xs.length*e.size→Items c.fz w e Fy xs fps→fps.flatten.Nodup→(∀ b∈fps.flatten,b∈fx)→
   yc c w e (xs++ys) fx lN.flatten (.slice (some ⟨w.heap.size,0,none⟩) (xs.length+ys.length) (grownCap w (xs.length+ys.length) C0 eid))
    (w.drew.alloc (.cells (Fy.toArray++news.toArray++Builtin.zeroCells z.cells (grownCap w (xs.length+ys.length) C0 eid - (xs.length+ys.length))) eid)) (w.heap.size::(fps++lN).flatten):=by
  intro Fy fps C0 ho hio hfn gu;have MI:=grownCap_ge w (xs.length+ys.length) C0 eid;have hit:=yb hio q4 ho q3 (Builtin.zeroCells z.cells (grownCap w (xs.length+ys.length) C0 eid - (xs.length+ys.length))).toList;have cf:∀ b∈(fps++lN).flatten,b<w.heap.size:=λb hb=>by
   rw [agc,adE] at hb;rcases hb with hb|hb
   . exact apV b (gu b hb)
   . exact hgl b hb
  refine ⟨?_, ?_, ?_,by simp, ?_,λh _ _=>h.drew.alloc _ _⟩
  . have:=Ew (w:=w.drew) (T:=eid) (cap:=grownCap w (xs.length+ys.length) C0 eid) (A:=Fy.toArray++news.toArray++Builtin.zeroCells z.cells (grownCap w (xs.length+ys.length) C0 eid - (xs.length+ys.length)))
     (xs:=xs++ys) (fps:=fps++lN) (e:=e) (Items.congr (w:=w) (by simpa using hit) (λ_ _=>rfl)) ⟨by simpa using MI,by rw [aaY];exact adQ hn (by decide)⟩ (by
      simp only [Array.size_append,List.size_toArray,Ez,N4,ho,q3, ← aeG];exact aek _ (by omega)) cf
    simpa using this
  . rw [aeP,agc,ad1]
    refine ⟨λh=>Nat.lt_irrefl _ (cf _ (by rw [agc];exact h)),hfn,hg,λx h1 y h2 e=>hd y h2 (gu y (e ▸ h1))⟩
  . intro b hb
    rcases adM.1 hb with rfl|hb
    . exact .inl ⟨adK _,by simp⟩
    . rw [agc,adE] at hb
      rcases hb with hb|hb
      . exact .inr (.inl (gu b hb))
      . exact .inr (.inr hb)
  . intro b _ hb
    exact heap_alloc_old w.drew _ b hb
 rcases hx with ⟨rfl,rfl⟩|⟨b,o,C,T,fps,rfl,hbC,hC,E9,rfl,hxi⟩
 . have hxn:xs=[]:=aeE (by simpa using uq)
   subst hxn;have hr:=R0 ax (by simp at hn;omega) (by have:=Jo ys.length (by simp);omega);have:=grown [] [] 0 (by simp) ⟨rfl,by simp⟩ (by simp) (by simp);simp only [adC,aeS,ad0,Array.empty_append] at this;exact ⟨_,_,_,hr,this⟩
 . have hTe:Items c.fz w e ((C.toList.drop o).take (xs.length*e.size)) xs fps:=by
    refine ⟨E9,λk y f hy hf=> ?_⟩;have:=hxi k y f hy hf;rwa [← cM hbC,lZ (So.1 hy).1]
   have hxc:xs.length*e.size≤cap*e.size:=aek _ uq;have hxl:((C.toList.drop o).take (xs.length*e.size)).length=xs.length*e.size:=by simp;omega
   have Er:b ∉ fps.flatten:=(aeP.1 hfx).1;by_cases L9:xs.length+ys.length≤cap
   . have hrc:(xs.length+ys.length)*e.size≤cap*e.size:=aek _ L9
     rw [aeG] at hrc;have hr:=apT b o xs.length cap C T hbC L9 (by omega);have mz:∀ b',b'≠b→(w.setRow b (spliced C (o+xs.length*e.size) news)).heap[b']? =w.heap[b']? :=λb' fE=>setRow_other w b b' _ fE;have hgb:∀ b'∈lN.flatten,b'≠b:=λb' cE e=>hd b' cE (by simp [e]);have hfb:∀ b'∈fps.flatten,b'≠b:=λb' cE e=>Er (e ▸ cE);have hit:=yb hTe q4 hxl q3 [];have atr:(((spliced C (o+xs.length*e.size) news).toList.drop o).take ((xs++ys).length*e.size))=(C.toList.drop o).take (xs.length*e.size)++news++[]:=by
      have:=kh (w:=w) (B:=b) (o':=o) (k:=xs.length*e.size) (n:=(xs.length+ys.length)*e.size) (vs:=news) hbC (by rw [q3,aeG];omega) (by rw [aeG];omega);rw [cM (setRow_heap w b C _ T _ hbC),cM hbC] at this;rw [aaY,this,aeX,q3,List.drop_of_length_le (adQ (List.length_take_le _ _) (by rw [aeG];exact adK _)),aeX,List.take_take,Nat.min_eq_left (by rw [aeG];omega)]
     refine ⟨_,_,b::(fps++lN).flatten,hr,⟨?_, ?_, ?_,by simp, ?_, ?_⟩⟩
     . have:=Yu (w:=w.setRow b (spliced C (o+xs.length*e.size) news)) (e:=e) (xs:=xs++ys) (fps:=fps++lN) (cap:=cap) (o:=o) (setRow_heap w b C _ T _ hbC) (by grind)
        (by grind [dw]) (by
         rw [atr];refine Items.congr (w:=w) hit λb' cE=>mz b' ?_;rw [agc,adE] at cE;rcases cE with cE|cE
         . exact hfb b' cE
         . exact hgb b' cE)
       grind
     . grind
     . grind
     . grind
     . intro D5 hS hM
       exact D5.setRow hbC (hS b (by simp)) (dw (by omega)) (by grind)
   . have alL:∀ j u,((C.toList.drop o).take (xs.length*e.size))[j]? =some u→w.cell? ((⟨b,o,none⟩:Addr).add j)=some u:=λj u hu=>by
      rw [Addr.add_lit];rw [← cM hbC] at hu;exact kg hu
     have hr:=apU ⟨b,o,none⟩ xs.length cap _ hxl alL (by omega) (by omega) (growslice_fits (by omega) (Jo _ (adK _)));grind
theorem qP (c:Ctx) {t ty eid:TypeId} {e:Ty} (hu:P.underlying t=some (.slice eid)) (eK:e.Ok P eid) {vx vy:Value} {xs ys:List e.D} {fx:List Nat} {lN:List (List Nat)}
  (hx:(Ty.sl e).aC c.fz w [vx] xs fx) (hy:Src c.fz w e vy ys lN) (hfx:fx.Nodup) (hg:lN.flatten.Nodup) (hd:∀ b∈lN.flatten,b ∉ fx) (hgl:∀ b∈lN.flatten,b<w.heap.size) (hn:xs.length+ys.length≤bn):
  ∃ v' w' f,(Builtin.append_ #[t,t] ty #[vx,vy]).run P w= .ok v' w'∧yc c w e (xs++ys) fx lN.flatten v' w' f:=by
 obtain ⟨i,z,hi,hs,hb,hz,hzc,qb⟩:=eK.base;obtain ⟨a,cy,rfl,ats,hy⟩:=hy;have GU:=hx;simp only [Ty.aC] at hx;obtain ⟨ax,cap,ex,⟨uq,_⟩,hx⟩:=hx;obtain rfl:vx= .slice ax xs.length cap:=by simpa using ex
 have apV:∀ b∈fx,b<w.heap.size:=Ty.iW _ GU;by_cases fE:ys=[]
 . subst fE
   refine ⟨.slice ax xs.length cap,w,fx,by grind [Ma],by grind,hfx,by grind,adK _,λ_ _ _=>rfl,λh _ _=>h⟩
 . have hy:∃ b o,a=some ⟨b,o,none⟩∧∀ (i:Nat) (y:e.D) (f:List Nat),ys[i]? =some y→lN[i]? =some f→e.aC c.fz w (aK w b (o+i*e.size) e.size) y f:=by grind
   obtain ⟨by',oy,ha,MK⟩:=hy;subst ha;have hm:0<ys.length:=by grind
   obtain ⟨CY,TY,frY,q1,q2,q3,q4,q5⟩:=Src.cells ats qb fE MK;have nI:∀ j u,(aK w by' oy (ys.length*e.size))[j]? =some u→w.cell? ((⟨by',oy,none⟩:Addr).add j)=some u:=by grind [Addr.add_lit,kg]
   generalize aK w by' oy (ys.length*e.size)=news at q3 q4 q5 nI
   have N4:z.cells.size=e.size:=by grind [Ty.fQ]
   refine Mb c (i:=i) (z:=z) (eid:=eid) hb N4 GU hfx hg hd hgl hn q3 q4 (R:=λvx v' w'=>(Builtin.append_ #[t,t] ty #[vx, .slice (some ⟨by',oy,none⟩) ys.length cy]).run P w= .ok v' w')
    (by grind [Jr,news])
    (λg o lO rA cur T hg L9 alG=> ?_)
    (by grind [run_append_grow,news])
   grind [L8,news]
end
end
section
open Go
variable {z:Fz}
theorem EA {S:Nat→Prop} {w:World} {t t':Ty} {cs:List Value} {x:t.D} {y:t'.D} (h:Ty.D9 t t' x=some y) (hr:t.aT S w cs x):t'.aT S w cs y:=by
 obtain ⟨hz,rfl⟩:=Ty.qE h;exact Ty.jq _ _ hz _ _ hr
theorem Src.adg {S:Nat→Prop} {w:World} {e:Ty} {v:Value} {ys:List e.D} (hf:e.flat=true) (h:(Ty.sl e).aT S w [v] ys):Src z w e v ys (List.replicate ys.length []):=by
 simp only [Ty.aT] at h;obtain ⟨a,cap,ev,hc,h⟩:=h;obtain rfl:v= .slice a ys.length cap:=by simpa using ev
 refine ⟨a,cap,rfl,by simp, ?_⟩;rcases h with h|⟨b,o,rfl,_,h⟩
 . exact .inl h
 . refine .inr ⟨b,o,rfl,λi y f hy MB=> ?_⟩
   have:f=[]:=by rw [afX] at MB;split at MB<;>simp_all
   subst this;exact Ty.sB e hf (h i y hy)
theorem Src.adh {w:World} {e:Ty} {v:Value} {ys:List e.D} {f:List Nat} (h:(Ty.sl e).aC z w [v] ys f):∃ lN,Src z w e v ys lN∧lN.flatten.Sublist f:=by
 simp only [Ty.aC] at h;obtain ⟨a,cap,ev,hc,h⟩:=h;obtain rfl:v= .slice a ys.length cap:=by simpa using ev
 rcases h with ⟨h0,h1⟩|⟨b,o,C,E,fps,rfl,h1,h2,h3,h4,h5⟩
 . have:ys=[]:=aeE (by omega)
   subst this;exact ⟨[],⟨a,cap,rfl,rfl, .inl rfl⟩,by simp⟩
 . refine ⟨fps,⟨_,cap,rfl,h3, .inr ⟨b,o,rfl,λi y f hy hf=>h5 i y f hy hf⟩⟩, ?_⟩
   rw [h4];exact List.sublist_cons_self _ _
section
variable {c:Ctx} {μ:Nat→Loc} {fp:Nat→List Nat} {s:mU} {n:Nat} {o:Oper} {a:Act} {w:World} {r:jR} {C:Cx} {E:Env}
variable (h:js c μ fp s n a w)
include h
theorem qQ {e:Ty} {zs:List e.D} {fx gp:List Nat} {v':Value} {w':World} {f:List Nat} {fr:Nat} (ku:¬ s.k fr) (ap:yc c w e zs fx gp v' w' f) {gx gy:List Nat}
  (hx:my c fp s.v E gx fx) (hy:∀ b∈gp,(∃ id∈gy,s.v id≠none∧b∈fp id)∧(b<c.w0.heap.size→∀ j,c.M b j)) (lh:(execOp a.eval o).run c.P w= .ok (.value v') w'):
  uI c μ s o a w (.dn fr none,((gx++gy).map λk=>(k,none))++[(fr,some (.arr e zs))]):=by
 have fc:=ap.rep;simp only [Ty.aC] at fc;obtain ⟨ad,cap,ev,uq,_⟩:=fc;obtain rfl:v'= .slice ad zs.length cap:=by simpa using ev
 have oU:cR c (λid=>if id=fr then .tY ad zs.length cap e.size else μ id) w' fr f (.arr e zs):=by
  refine ⟨ad,cap,by simp,ap.rep,λb hb cf=> ?_⟩;rcases ap.from_ b hb with ⟨h1,_⟩|h1|h1
  . have:=h.ev.size;omega
  . exact hx.may b h1 cf
  . exact (hy b h1).2 cf
 obtain ⟨q1,q2⟩:=h.new ku (gx++gy) _ _ _ (λid hn hr b cE=>ap.heap b (λhbx=>by
  obtain ⟨k,hk,tX⟩:=hx.mem b hbx;exact h.vs.sep id k (λe=>hr (by simp [e,hk])) hn (hx.there k hk).1 b cE tX) (h.vs.lt id hn b cE)) ap.size oU ap.nodup (λb hb=>by
  rcases ap.from_ b hb with h1|h1|h1
  . exact .inl h1
  . obtain ⟨k,hk,tX⟩:=hx.mem b h1
    exact .inr ⟨k,by simp [hk],(hx.there k hk).1,tX⟩
  . obtain ⟨⟨k,hk,hn,tX⟩,_⟩:=hy b h1
    exact .inr ⟨k,by simp [hk],hn,tX⟩)
 refine fw lh ⟨q1, ?_,q2,ap.ev h.ev (λb hb=> ?_) hx.may⟩
 . simp only [az]
   exact ⟨ad,zs.length,cap,e.size,by simp,rfl⟩
 . obtain ⟨k,hk,tX⟩:=hx.mem b hb
   exact h.vs.kL k (hx.there k hk).1 b tX
omit h in
theorem Src.take {z:Fz} {w:World} {e:Ty} {a:Option Addr} {n cap:Nat} {ys:List e.D} {lN:List (List Nat)} (hs:Src z w e (.slice a n cap) ys lN) {o l:Nat} (hl:o+l≤ys.length) {a2:Option Addr} {cap2:Nat}
  (ha:l=0∨∃ b o',a=some ⟨b,o',none⟩∧a2=some ⟨b,o'+o*e.size,none⟩):Src z w e (.slice a2 l cap2) ((ys.drop o).take l) ((lN.drop o).take l):=by
 obtain ⟨a0,ac6,e0,hg,hi⟩:=hs;have hlen:((ys.drop o).take l).length=l:=by simp;omega
 refine ⟨a2,cap2,by rw [hlen],by simp [hg], ?_⟩;rcases ha with rfl|⟨b,o',rfl,rfl⟩
 . exact .inl (List.take_zero)
 simp only [Value.slice.injEq] at e0;obtain ⟨rfl,_,_⟩:=e0;rcases hi with rfl|⟨b2,o2,e2,hi⟩
 . left;simp at hl;simp [hl]
 . simp only [adI,Addr.mk.injEq,ahb] at e2
   obtain ⟨rfl,rfl⟩:=e2;refine .inr ⟨b,o'+o*e.size,rfl,λi y f hy hf=> ?_⟩;have ra:i<l:=by have:=(So.1 hy).1;omega
   rw [aeb ra,ad5] at hy hf;rw [show o'+o*e.size+i*e.size=o'+(o+i)*e.size by rw [aeG];omega];exact hi (o+i) y f hy hf
omit h in
theorem N8 (hE:∀ id x,E id=some x→s.v id=some x) (hv:dq c μ fp s.v w) (ev:Ev c w) {e:Ty} (Q3:e.oQ=true) {d:aj} {x:Value} {ys:List e.D} (hx:az c μ x d) (hl:XZ E e d=some ys):Src c.fz w e x ys (List.replicate ys.length []):=by
 have whole:∀ {id:Nat} {e':Ty} {xs:List e'.D} {zs:List e.D},E id=some (.arr e' xs)→Ty.cast (.sl e') (.sl e) xs=some zs→∃ a cap,μ id= .tY a zs.length cap e.size∧Src c.fz w e (.slice a zs.length cap) zs (List.replicate zs.length []):=by
  intro id e' xs zs fg hc;obtain ⟨he,JK⟩:=lf hc;subst he;obtain ⟨a,cap,h1,h2,_⟩:=hv.rel id _ (hE _ _ fg);obtain rfl:zs=xs:=JK;refine ⟨a,cap,h1, ?_⟩;simp only [Ty.aC] at h2;obtain ⟨a',lJ,e1,uq,hi⟩:=h2;cases e1;refine ⟨a,cap,rfl,by simp, ?_⟩;rcases hi with ⟨h0,_⟩|⟨b,o,C,T,fps,ha,hb,_,E9,_,hi⟩
  . exact .inl (aeE (by omega))
  . refine .inr ⟨b,o,ha,λi y f hy hf=> ?_⟩
    have hf0:f=[]:=by rw [afX] at hf;split at hf<;>simp_all
    subst hf0;have cf:i<fps.length:=by rw [E9];exact (So.1 hy).1
    have hr:=hi i y fps[i] hy (aa7 cf);rwa [Ty.sC e' Q3 hr] at hr
 cases d with
 |oR=>
  obtain rfl:([]:List e.D)=ys:=ac2 hl;simp only [az] at hx;obtain ⟨a,rfl⟩:=hx;exact ⟨a,0,rfl,rfl, .inl rfl⟩
 |ro e' xs tk=>
  have hl:Ty.D9 (.sl e') (.sl e) xs=some ys:=hl;simp only [az] at hx;have hr:=EA hl hx.1;clear hl;simp only [Ty.aT] at hr;obtain ⟨a,cap,e1,uq,hi⟩:=hr;obtain rfl:x= .slice a (List.length ys) cap:=by simpa using e1
  refine ⟨a,cap,rfl,by simp, ?_⟩;rcases hi with hi|⟨b,o,ha,hb,hi⟩
  . exact .inl hi
  . refine .inr ⟨b,o,ha,λi y f hy hf=> ?_⟩
    have hf0:f=[]:=by rw [afX] at hf;split at hf<;>simp_all
    subst hf0;rw [fT (ev.S b hb)];exact Ty.pN e Q3 (hi i y hy)
 |dn id vw=>
  cases vw with
  |none=>
   have hl:(match E id with
    |some (.arr e' xs)=>Ty.cast (.sl e') (.sl e) xs
    |_=>none)=some ys:=hl
   rcases fg:E id with _|v<;>rw [fg] at hl
   . exact absurd hl (by simp)
   cases v with
   |arr e' xs=>
    obtain ⟨a,cap,h1,h2⟩:=whole fg (show Ty.cast (.sl e') (.sl e) xs=some ys from hl);simp only [az] at hx;obtain ⟨a',len,lJ,sz,g1,rfl⟩:=hx;rw [h1] at g1;cases g1;exact h2
   |_=>exact absurd (show (none:Option (List e.D))=some ys from hl) (by simp)
  |some p=>
   obtain ⟨o,l⟩:=p;have hl:(match E id with
    |some (.arr e' xs)=>(Ty.cast (.sl e') (.sl e) xs).map λ(ys:List e.D)=>(ys.drop o).take l
    |_=>none)=some ys:=hl
   rcases fg:E id with _|v<;>rw [fg] at hl
   . exact absurd hl (by simp)
   cases v with
   |arr e' xs=>
    obtain ⟨zs,hc,N4⟩:=ST.1 (show (Ty.cast (.sl e') (.sl e) xs).map (λ(ys:List e.D)=>(ys.drop o).take l)=some ys from hl);subst N4;obtain ⟨a,cap,h1,h2⟩:=whole fg hc;simp only [az] at hx;obtain ⟨a',len,lJ,sz,a2,g1,g2,g3,rfl,g4⟩:=hx;rw [h1] at g1;cases g1;have h3:=Src.take h2 (o:=o) (l:=l) g2 (a2:=a2) (cap2:=cap - o) (by
     by_cases Ud:l=0
     . exact .inl Ud
     . exact g4.elim (λq=>by omega) .inr)
    have e1:((List.replicate zs.length ([]:List Nat)).drop o).take l=List.replicate ((zs.drop o).take l).length []:=by
     rw [List.drop_replicate,List.take_replicate];congr 1;simp
    rwa [e1] at h3
   |_=>exact absurd (show (none:Option (List e.D))=some ys from hl) (by simp)
 |_=>exact absurd (show (none:Option (List e.D))=some ys from hl) (by simp)
omit h in
theorem Yv {z:Fz} {w:World} {e:Ty} {a a' a2:Option Addr} {k o l cap:Nat} {ys:List e.D} {f:List Nat} (h1:k+ys.length≤cap) (h3:cap - k=0∨∃ b o,a=some ⟨b,o,none⟩∧a'=some ⟨b,o+k*e.size,none⟩)
  (hr:(Ty.sl e).aC z w [.slice a' ys.length (cap - k)] ys f) (uf:f.Nodup) (hk:k≤o) (qa:o+l≤k+ys.length) (ha:cap - o=0∨∃ b o',a=some ⟨b,o',none⟩∧a2=some ⟨b,o'+o*e.size,none⟩):
  ∃ lN f',Src z w e (.slice a2 l (cap - o)) ((ys.drop (o - k)).take l) lN∧lN.flatten.Nodup∧f'.Nodup∧(∀ b∈lN.flatten,b∈f)∧(∀ b∈f',b∈f)∧(∀ b∈lN.flatten,b ∉ f')∧
    ∃ a3,(cap - (o+l)=0∨∃ b o',a=some ⟨b,o',none⟩∧a3=some ⟨b,o'+(o+l)*e.size,none⟩)∧(Ty.sl e).aC z w [.slice a3 (ys.drop (o - k+l)).length (cap - (o+l))] (ys.drop (o - k+l)) f':=by
 simp only [Ty.aC] at hr;obtain ⟨a0,ac6,e0,⟨_,awF⟩,hr⟩:=hr;simp only [List.cons.injEq,Value.slice.injEq,ahb] at e0;obtain ⟨e0,_,e2⟩:=e0;subst e0 e2;have cf:((ys.drop (o - k)).take l).length=l:=by simp;omega
 have hld:(ys.drop (o - k+l)).length=k+ys.length - (o+l):=by simp;omega
 rcases hr with ⟨h0,rfl⟩|⟨b,oo,C,T,fps,rfl,hb,hC,E9,rfl,hi⟩
 . have Ud:l=0:=by omega
   have JJ:ys=[]:=aeE (by omega);subst Ud JJ;refine ⟨[],[],⟨a2,cap - o,by simp,by simp, .inl (by simp)⟩,by simp,by simp,by simp,by simp,by simp,none, .inl (by omega), ?_⟩;simp only [Ty.aC];exact ⟨none,cap - (o+0),rfl,⟨by simp,by simp⟩, .inl ⟨by omega,trivial⟩⟩
 have hnf:fps.flatten.Nodup:=(aeP.1 uf).2;have Er:b ∉ fps.flatten:=(aeP.1 uf).1;have mr:fps.flatten=(fps.take (o - k)).flatten++(((fps.drop (o - k)).take l).flatten++(fps.drop (o - k+l)).flatten):=by
  conv=>lhs;rw [← List.take_append_drop (o - k) fps, ← List.take_append_drop l (fps.drop (o - k)),aea]
  simp
 rw [mr] at hnf;have hn2:=(ad1.1 hnf).2.1;have hn3:=ad1.1 hn2;have ln:∀ x,x∈((fps.drop (o - k)).take l).flatten→x∈fps.flatten:=λx hx=>by rw [mr];simp [hx]
 have apW:∀ x,x∈(fps.drop (o - k+l)).flatten→x∈fps.flatten:=λx hx=>by
  rw [mr];exact agn _ (agn _ hx)
 have A9:Src z w e (.slice a2 l (cap - o)) ((ys.drop (o - k)).take l) ((fps.drop (o - k)).take l):=by
  refine ⟨a2,cap - o,by rw [cf],by simp [E9], ?_⟩;by_cases Ud:l=0
  . subst Ud;exact .inl (by simp)
  rcases ha with h0|⟨b1,o1,rfl,rfl⟩
  . omega
  rcases h3 with h0|⟨b2,o2,e1,e2⟩
  . omega
  simp only [adI,Addr.mk.injEq,ahb] at e1 e2;obtain ⟨rfl,rfl⟩:=e1;obtain ⟨rfl,rfl⟩:=e2;refine .inr ⟨b,o1+o*e.size,rfl,λi y f hy hf=> ?_⟩;have ra:i<l:=by have:=(So.1 hy).1;omega
  rw [aeb ra,ad5] at hy hf;have hmul:k*e.size+(o - k+i)*e.size=o*e.size+i*e.size:=by rw [← aeG, ← aeG];congr 1;omega
  rw [show o1+o*e.size+i*e.size=o1+k*e.size+(o - k+i)*e.size by omega];exact hi (o - k+i) y f hy hf
 by_cases hc0:cap - (o+l)=0
 . refine ⟨(fps.drop (o - k)).take l,[],A9,hn3.1,by simp,λx hx=>ai9 _ (ln x hx),by simp,by simp,none, .inl hc0, ?_⟩
   simp only [Ty.aC];have:ys.drop (o - k+l)=[]:=aeE (by omega);rw [this];exact ⟨none,cap - (o+l),rfl,⟨by simp,by simp⟩, .inl ⟨hc0,trivial⟩⟩
 . rcases h3 with h0|⟨b2,o2,rfl,e2⟩
   . omega
   simp only [adI,Addr.mk.injEq,ahb] at e2;obtain ⟨rfl,rfl⟩:=e2;refine ⟨(fps.drop (o - k)).take l,b::(fps.drop (o - k+l)).flatten,A9,hn3.1,aeP.2 ⟨λhx=>Er (apW b hx),hn3.2.1⟩,λx hx=>ai9 _ (ln x hx),λx hx=> ?_,λx hx Sk=> ?_,some ⟨b,o2+(o+l)*e.size,none⟩, .inr ⟨b,o2,rfl,rfl⟩, ?_⟩
   . rcases adM.1 hx with rfl|hx
     . exact List.mem_cons_self
     . exact ai9 _ (apW x hx)
   . rcases adM.1 Sk with rfl|Sk
     . exact Er (ln _ hx)
     . exact hn3.2.2 x hx x Sk rfl
   . simp only [Ty.aC]
     have hmul:k*e.size+(o+l - k)*e.size=(o+l)*e.size:=by rw [← aeG];congr 1;omega
     have au3:(cap - k)*e.size=(o+l - k)*e.size+(cap - (o+l))*e.size:=by rw [← aeG];congr 1;omega
     refine ⟨_,cap - (o+l),rfl,⟨by omega,by omega⟩, .inr ⟨b,o2+(o+l)*e.size,C,T,fps.drop (o - k+l),rfl,hb,by omega,by simp [E9],rfl,λi y f hy hf=> ?_⟩⟩;have yr:ys[o - k+l+i]? =some y:=by rw [← ad5];exact hy
     have MB:fps[o - k+l+i]? =some f:=by rw [← ad5];exact hf
     have:=hi (o - k+l+i) y f yr MB;have au4:k*e.size+(o - k+l+i)*e.size=(o+l)*e.size+i*e.size:=by rw [← aeG, ← aeG];congr 1;omega
     rwa [show o2+(o+l)*e.size+i*e.size=o2+k*e.size+(o - k+l+i)*e.size by omega]
omit h in
theorem N9 (hv:dq c μ fp s.v w) (hE:∀ id x,E id=some x→s.v id=some x) {e:Ty} {d:aj} {x:Value} {F:List Nat} {id o l k:Nat} {ys:List e.D} (hx:az c μ x d) (hl:Jg E e d=some (F,id,o,l,k,ys)) (hk:k≤o):
  ∃ f lN f',my c fp s.v E (id::F) f∧Src c.fz w e x ((ys.drop (o - k)).take l) lN∧lN.flatten.Nodup∧f'.Nodup∧(∀ b∈lN.flatten,b∈f)∧(∀ b∈f',b∈f)∧(∀ b∈lN.flatten,b ∉ f')∧
    cR c μ w id f' (.cut e (ys.drop (o - k+l)) (o+l)):=by
 unfold Jg at hl;split at hl
 case h_2=>cases hl
 rename_i id0 o0 l0;simp only [az] at hx;obtain ⟨ax,len,atv,sz,a2,g1,g2,g3,rfl,g4⟩:=hx;have fin:∀ {a a':Option Addr} {cap k0:Nat} {zs:List e.D} {F0 f:List Nat},my c fp s.v E (id0::F0) f→(F0,id0,o0,l0,k0,zs)=(F,id,o,l,k,ys)→μ id0= .tY a (k0+zs.length) cap e.size→k0+zs.length≤cap→(0<cap→∃ b o,a=some ⟨b,o,none⟩)→(cap - k0=0∨∃ b o,a=some ⟨b,o,none⟩∧a'=some ⟨b,o+k0*e.size,none⟩)→
   (Ty.sl e).aC c.fz w [.slice a' zs.length (cap - k0)] zs f→
   ∃ f lN f',my c fp s.v E (id::F) f∧Src c.fz w e (.slice a2 l0 (atv - o0)) ((ys.drop (o - k)).take l) lN∧lN.flatten.Nodup∧f'.Nodup∧(∀ b∈lN.flatten,b∈f)∧(∀ b∈f',b∈f)∧(∀ b∈lN.flatten,b ∉ f')∧
     cR c μ w id f' (.cut e (ys.drop (o - k+l)) (o+l)):=by
  intro a a' cap k0 zs F0 f hg heq h1 h2 h2' h3 h4;simp only [ad3] at heq;obtain ⟨rfl,rfl,rfl,rfl,rfl,rfl⟩:=heq;rw [h1] at g1;cases g1;obtain ⟨lN,f',q1,q2,q3,q4,q5,q6,a3,q7,q8⟩:=Yv h2 h3 h4 hg.nodup hk g2 g4;have hld:o0+l0+(zs.drop (o0 - k0+l0)).length=k0+zs.length:=by simp;omega
  refine ⟨f,lN,f',hg,q1,q2,q3,q4,q5,q6,_,_,a3,by rw [hld];exact h1,by omega,h2',q7,q8,λb hb=>hg.may b (q5 b hb)⟩
 split at hl
 . rename_i e' xs k0 fg
   obtain ⟨zs,hc,N4⟩:=ST.1 hl;obtain ⟨he,JK⟩:=lf hc;subst he;obtain rfl:zs=xs:=JK;obtain ⟨a,cap,a',h1,h2,h3,h4,h5,h6⟩:=hv.rel id0 _ (hE _ _ fg);exact fin ⟨λb hb=>⟨id0,by simp,hb⟩,hv.nodup _ _ (hE _ _ fg),λk hk=>by
    obtain rfl:k=id0:=by simpa using hk
    exact ⟨by rw [hE _ _ fg];simp,by rw [fg];simp⟩,h6⟩ N4 h1 h2 h3 h4 h5
 . rename_i v _ fg
   obtain ⟨⟨e',xs⟩,hu,hl⟩:=WP.1 hl;obtain ⟨zs,hc,N4⟩:=ST.1 hl;obtain ⟨he,JK⟩:=lf hc;simp only at he;subst he;obtain rfl:zs=xs:=JK;have B5:j7 E e' (.dn id0 none)=some (zs,id0::bW v):=by
    simp only [j7,fg,hu,adN];exact congrArg (Option.map _) hc
   obtain ⟨a,cap,_,h1,_,_,_,_,_⟩:=jH hv hE fg hu;obtain ⟨f,hr,hg⟩:=jI hv hE (x:= .slice a zs.length cap) (by simp only [az];exact ⟨_,_,_,_,h1,rfl⟩) B5;have uq:zs.length≤cap∧(0<cap→∃ b o,a=some ⟨b,o,none⟩):=by
    have h2:=hr;simp only [Ty.aC] at h2;obtain ⟨a',lJ,e1,uq,hi⟩:=h2;cases e1;refine ⟨uq.1,λhp=> ?_⟩;rcases hi with ⟨h0,_⟩|⟨b,o,_,_,_,ha,_⟩
    . omega
    . exact ⟨b,o,ha⟩
   refine fin hg N4 (by rw [aeS];exact h1) (by omega) uq.2 ?_ (by simpa using hr);by_cases hc0:cap=0
   . exact .inl (by omega)
   . obtain ⟨b,o,rfl⟩:=uq.2 (by omega)
     exact .inr ⟨b,o,rfl,by simp⟩
 . cases hl
theorem adi (hE:∀ id x,E id=some x→s.v id=some x) {t eid:TypeId} {fr:Nat} (ku:¬ s.k fr) {e:Ty} (hu:c.P.underlying t=some (.slice eid)) (eK:e.Ok c.P eid) {vx vy:Value} {xs ys:List e.D} {fx gx F:List Nat} {d:aj} {id o0 l k:Nat}
  (rx:(Ty.sl e).aC c.fz w [vx] xs fx) (FK:my c fp s.v E gx fx) (hy:az c μ vy d) (hp:Jg E e d=some (F,id,o0,l,k,ys)) (hk:k≤o0) (hl:xs.length+l≤bn) (RV:∀ i∈id::F,i ∉ gx)
  (lh:∀ v' w',(Builtin.append_ #[t,t] o.type #[vx,vy]).run c.P w= .ok v' w'→(execOp a.eval o).run c.P w= .ok (.value v') w'):
  uI c μ s o a w (.dn fr none,((gx++(id::F)).map λk=>(k,none))++[(fr,some (.arr e (xs++(ys.drop (o0 - k)).take l))),(id,some (.cut e (ys.drop (o0 - k+l)) (o0+l)))]):=by
 obtain ⟨f0,lN,f',AY,A9,hn1,hn2,hs1,RC,hsd,atw⟩:=N9 h.vs hE hy hp hk;have fg:s.v id≠none:=(AY.there id (by simp)).1;have hll:((ys.drop (o0 - k)).take l).length≤l:=by simp;omega
 have hfx:∀ b∈f0,b ∉ fx:=λb h1 h2=>by
  obtain ⟨k1,Fg,MA⟩:=AY.mem b h1;obtain ⟨k2,N5,OR⟩:=FK.mem b h2;exact h.vs.sep k1 k2 (λe=>RV k1 Fg (e ▸ N5)) (AY.there k1 Fg).1 (FK.there k2 N5).1 b MA OR
 have cf:∀ b∈f0,b<w.heap.size:=λb hb=>by
  obtain ⟨k1,Fg,MA⟩:=AY.mem b hb;exact h.vs.lt k1 (AY.there k1 Fg).1 b MA
 obtain ⟨v',w',f,g1,ap⟩:=qP (P:=c.P) (ty:=o.type) c hu eK rx A9 FK.nodup hn1 (λb hb=>hfx b (hs1 b hb)) (λb hb=>cf b (hs1 b hb)) (by omega);have fc:=ap.rep;simp only [Ty.aC] at fc;obtain ⟨ad,cap,ev,uq,_⟩:=fc;generalize N4:xs++(ys.drop (o0 - k)).take l=zs at ap ev uq;obtain rfl:v'= .slice ad zs.length cap:=by simpa using ev
 obtain ⟨x0,GU⟩:=Option.ne_none_iff_exists'.1 fg;have oU:cR c (λid=>if id=fr then .tY ad zs.length cap e.size else μ id) w' fr f (.arr e zs):=by
  refine ⟨ad,cap,by simp,ap.rep,λb hb cf=> ?_⟩;rcases ap.from_ b hb with ⟨h1,_⟩|h1|h1
  . have:=h.ev.size;omega
  . exact FK.may b h1 cf
  . exact AY.may b (hs1 b h1) cf
 obtain ⟨q1,q2⟩:=h.new ku (gx++(id::F)) _ _ _ (λeD hn hr b cE=>ap.heap b (λhbx=>by
  obtain ⟨k,hk,tX⟩:=FK.mem b hbx;exact h.vs.sep eD k (λe=>hr (by rw [e];exact List.mem_append_left _ hk)) hn (FK.there k hk).1 b cE tX) (h.vs.lt eD hn b cE)) ap.size oU ap.nodup (λb hb=>by
  rcases ap.from_ b hb with h1|h1|h1
  . exact .inl h1
  . obtain ⟨k,hk,tX⟩:=FK.mem b h1
    exact .inr ⟨k,List.mem_append_left _ hk,(FK.there k hk).1,tX⟩
  . obtain ⟨k,hk,tX⟩:=AY.mem b (hs1 b h1)
    exact .inr ⟨k,agn _ hk,(AY.there k hk).1,tX⟩)
 have JS:s.k id:=(h.known.v id x0 GU).1;have au5:id≠fr:=λe=>ku (e ▸ JS);have hc':cR c (λid=>if id=fr then .tY ad zs.length cap e.size else μ id) w' id f' (.cut e (ys.drop (o0 - k+l)) (o0+l)):=by
  refine cR.frame atw (λb hb=>ap.heap b (hfx b (RC b hb)) (cf b (RC b hb))) (q1 id JS) (λ_ hi=> ?_);simp [bV.ids] at hi
 have q3:=q2.nH [] id (.cut e (ys.drop (o0 - k+l)) (o0+l)) f' (λ_ _ _ _ _=>⟨rfl,λ_ _=>rfl⟩) (λ_ _ _ _ _ _=>rfl) (adK _) hc' hn2 (λb hb=>by
  obtain ⟨k1,Fg,MA⟩:=AY.mem b (RC b hb);refine ⟨h.vs.kL k1 (AY.there k1 Fg).1 b MA,aeh (cf b (RC b hb)) ap.size,λeD hv fE _ cE=> ?_⟩;rw [iw] at hv;by_cases hf:eD=fr
  . rw [aaZ hf] at cE
    rcases ap.from_ b cE with ⟨h1,_⟩|h1|h1
    . have:=cf b (RC b hb);omega
    . exact hfx b (RC b hb) h1
    . exact hsd b h1 hb
  . rw [aae hf] at hv cE
    split at hv
    . exact hv rfl
    . rename_i hni
      exact h.vs.sep eD k1 (λe=>hni (by rw [e];exact agn _ Fg)) hv (AY.there k1 Fg).1 b cE MA)
 rw [LY] at q3;refine fw (lh _ _ g1) ⟨q1, ?_,q3,ap.ev h.ev (λb hb=> ?_) FK.may⟩
 . simp only [az]
   exact ⟨ad,zs.length,cap,e.size,by simp,rfl⟩
 . obtain ⟨k,hk,tX⟩:=FK.mem b hb
   exact h.vs.kL k (FK.there k hk).1 b tX
theorem Oa (hC:kM C c.P) (hE:∀ id x,E id=some x→s.v id=some x) {cl:Call} (hcl:cl.callee= .builtin .append) {t:TypeId} {x y:Operand} (ha:cl.args.toList=[x,y]) (Y5:cl.argTypes.toList=[t,t]) (ho:o.op= .call cl)
  {fr:Nat} (ku:¬ s.k fr)
  (hr:(Out.of (C.ty t) λt=> .of (Ed t) λe=>Jh E e (gk s.t x) (gk s.t y) fr).eval=some r):uI c μ s o a w r:=by
 have hx:=h.de x;have hy:=h.de y;replace hr:=aZ hr;obtain ⟨ty,oT,hr⟩:=hr;replace hr:=aZ hr;obtain ⟨e,he,hr⟩:=hr;have oT:C.ty t=some (.sl e):=BN he ▸ oT;obtain ⟨eid,hu,eK⟩:=(hC.ty t _ oT).sl;unfold Jh at hr;replace hr:=aZ hr;obtain ⟨⟨xs,gx⟩,htx,hr⟩:=hr;obtain ⟨fx,rx,FK⟩:=jI h.vs hE hx htx;have QR:cl.args= #[x,y]:=by rw [← ha]
 have apB:cl.argTypes= #[t,t]:=by rw [← Y5]
 have lh:∀ v' w',(Builtin.append_ #[t,t] o.type #[a.eval x,a.eval y]).run c.P w= .ok v' w'→(execOp a.eval o).run c.P w= .ok (.value v') w':=λv' w' hrn=>by
  simp [execOp,ho,resolve,hcl,QR,apB,invoke,builtin,hrn]
 have nK:∀ b∈fx,b<w.heap.size:=Ty.iW _ rx;split at hr
 . rename_i apX
   replace hr:=aZ hr;obtain ⟨ys,Yn,hr⟩:=hr;split at hr
   . cases hr
   rcases cJ hr with ⟨hl,hr⟩|⟨_,hr⟩
   . have hl:xs.length+ys.length≤bn:=adR hl
     have hr:=ac2 hr;subst hr;have A9:=Src.adg (z:=c.fz) apX (vC (S':=λ_=>True) h.vs h.ev hE (λ_ _=>trivial) (λ_ _ _ _=>trivial) hy Yn);obtain ⟨v',w',f,g1,g2⟩:=qP (P:=c.P) (ty:=o.type) c hu eK rx A9 FK.nodup (by simp) (by simp) (by simp) hl;have:=qQ h ku g2 (gy:=[]) FK (by simp) (lh _ _ g1);simpa using this
   . cases hr
 rcases Bool.eq_false_or_eq_true e.oQ with Q3|Q3
 . rw [aaZ Q3] at hr
   replace hr:=aZ hr;obtain ⟨ys,Yn,hr⟩:=hr;split at hr
   . cases hr
   rcases cJ hr with ⟨hl,hr⟩|⟨_,hr⟩
   . have hl:xs.length+ys.length≤bn:=adR hl
     have hr:=ac2 hr;subst hr;have A9:=N8 hE h.vs h.ev Q3 hy Yn;obtain ⟨v',w',f,g1,g2⟩:=qP (P:=c.P) (ty:=o.type) c hu eK rx A9 FK.nodup (by simp) (by simp) (by simp) hl;have:=qQ h ku g2 (gy:=[]) FK (by simp) (lh _ _ g1);simpa using this
   . cases hr
 rw [aae (by rw [Q3];exact Bool.false_ne_true)] at hr;split at hr
 . rename_i p hp
   obtain ⟨F,id,o0,l,k,ys⟩:=p;split at hr
   . cases hr
   rename_i RV;rcases cJ hr with ⟨hl,hr⟩|⟨_,hr⟩
   . obtain ⟨hk,hl⟩:k≤o0∧xs.length+l≤bn:=adR hl
     have hr:=ac2 hr;subst hr;exact adi h hE ku hu eK rx FK hy hp hk hl (λi hi hg=>RV (List.any_eq_true.2 ⟨i,hi,by simpa using hg⟩)) lh
   . cases hr
 replace hr:=aZ hr;obtain ⟨⟨ys,gy⟩,Yn,hr⟩:=hr;split at hr
 . cases hr
 rename_i RV;rcases cJ hr with ⟨hl,hr⟩|⟨_,hr⟩
 . have hl:xs.length+ys.length≤bn:=adR hl
   have hr:=ac2 hr;subst hr;obtain ⟨fy,ry,hgy⟩:=jI h.vs hE hy Yn;obtain ⟨lN,A9,gu⟩:=Src.adh ry;have hd:∀ b∈lN.flatten,b ∉ fx:=λb h1 h2=>by
    obtain ⟨k1,Fg,MA⟩:=hgy.mem b (gu.subset h1);obtain ⟨k2,N5,OR⟩:=FK.mem b h2;exact h.vs.sep k1 k2 (λe=>RV (List.any_eq_true.2 ⟨k1,Fg,by simpa [e] using N5⟩)) (hgy.there k1 Fg).1 (FK.there k2 N5).1 b MA OR
   obtain ⟨v',w',f,g1,g2⟩:=qP (P:=c.P) (ty:=o.type) c hu eK rx A9 FK.nodup (hgy.nodup.sublist gu) hd (λb hb=>Ty.iW _ ry b (gu.subset hb)) hl;exact qQ h ku g2 FK (λb hb=>by
    obtain ⟨k,hk,tX⟩:=hgy.mem b (gu.subset hb);exact ⟨⟨k,hk,(hgy.there k hk).1,tX⟩,hgy.may b (gu.subset hb)⟩) (lh _ _ g1)
 . cases hr
omit h in
omit h in
end
end
section
open Go
def qR (P:Program) (f:FuncId) (args:Array Value) (w:World) (R:Value→World→Prop):Prop:=
 (∃ fn,P.funcs[f]? =some fn∧(fn.name== "runtime.NumGoroutine")=false∧fn.body.isNone=false)∧
 Calls P f args w fun
  | .returned v,w'=>R v w'
  |_,_=>False
def ki (C:Cx) (P:Program):Prop:=
 ∀ (f:Nat) (ds:List aj) (E:Env) (fr:Nat) (r:jR),(C.call f ds E fr).eval=some r→
   ∀ (c:Ctx) (μ:Nat→Loc) (fp:Nat→List Nat) (s:mU) (w:World) (vs:List Value),c.P=P→dq c μ fp s.v w→rj s→Ev c w→ak c μ vs ds→(∀ id∈aj.bO ds,s.k id)→
     (∀ id x,E id=some x→s.v id=some x)→(∀ id,fr≤id→id<fr+64→¬ s.k id)→
     qR P f vs.toArray w λv' w'=>∃ c' μ' fp',Ext c c'∧LS c' μ s r v' w' μ' fp'
def qS (c:Ctx) (μ:Nat→Loc) (s:mU) (o:Oper) (a:Act) (w:World) (r:jR):Prop:=
 ∀ (K:Act→World→Prop) (Q:Exit→Act→World→Prop),(∀ c' v' w' μ' fp',Ext c c'→LS c' μ s r v' w' μ' fp'→K (a.put o.dst v') w')→o.wp c.P a w K Q
theorem uI.ext {c:Ctx} {μ:Nat→Loc} {s:mU} {o:Oper} {a:Act} {w:World} {r:jR} (h:uI c μ s o a w r):qS c μ s o a w r:=
 λK Q hK=>h K Q λv' w' μ' fp' hp=>hK c v' w' μ' fp' (Ext.refl c) hp
theorem qR.run {P:Program} {f:FuncId} {args:Array Value} {w:World} {R:Value→World→Prop} (h:qR P f args w R):(callFunc f args).run P w= .ok (.enter f args) w:=by
 obtain ⟨⟨fn,h1,h2,h3⟩,_⟩:=h;have h2:¬ (fn.name= "runtime.NumGoroutine"):=by simpa using h2
 cases hb:fn.body with
 |none=>grind
 |some b=>simp_all [callFunc]
theorem adj {α β:Type} (f:α→β) (l:Array α):(List.map f l.toList).toArray=l.map f:=by grind
theorem Yw {α β:Type} (f:α→β) (l:Array α) (m:Array β):(List.map f l.toList++m.toList).toArray=l.map f++m:=by grind
mutual
theorem Ty.sD:(t:Ty)→t.Fc.oQ=true
 | .bool=>rfl
 | .int _=>rfl
 | .str=>rfl
 | .hole=>rfl
 | .sl _=>rfl
 | .fz _=>rfl
 | .st fs=>by simp only [Ty.Fc,Ty.oQ];exact aO.sD fs
theorem aO.sD:(t:aO)→t.Fc.oQ=true
 | .nil=>rfl
 | .cons t ts=>by simp_all [aO.Fc,aO.oQ,Ty.sD,aO.sD]
end
theorem Yx {α β:Type} (h:α=β) (xs:List α):(cast (congrArg List h) xs).length=xs.length:=by subst h;rfl
theorem Yy {α β:Type} (h:α=β) (xs:List α) (j:Nat):(cast (congrArg List h) xs)[j]? =(xs[j]?).map (cast h):=by subst h;grind
section
variable {c:Ctx} {μ:Nat→Loc} {fp:Nat→List Nat} {s:mU} {n:Nat} {o:Oper} {a:Act} {w:World} {r:jR} {C:Cx} {E:Env}
variable (h:js c μ fp s n a w)
include h
omit h in
theorem EB {f:FuncId} {args:Array Value} (lh:(execOp a.eval o).run c.P w=(callFunc f args).run c.P w) (hc:qR c.P f args w λv' w'=>∃ c' μ' fp',Ext c c'∧LS c' μ s r v' w' μ' fp'):qS c μ s o a w r:=by
 intro K Q hK;simp only [Oper.wp,lh,hc.run,Oper.upon_enter];refine Calls.mono hc.2 λe w' he=> ?_;grind
theorem EC:∀ (l:List Operand),ak c μ (l.map a.eval) (l.map (gk s.t))
 |[]=>by simp [ak]
 |x::l=>by simp only [ael,ak];exact ⟨_,_,rfl,h.de x,EC l⟩
theorem ED (l:List Operand):∀ id∈aj.bO (l.map (gk s.t)),s.k id:=by
 intro id hi;obtain ⟨d,hd,fg⟩:=hY.1 hi;obtain ⟨x,_,rfl⟩:=List.mem_map.1 hd;exact h.Eu x id fg
omit h in
theorem adk {r0:jR} (hE:∀ id x,E id=some x→s.v id=some x) (hs:qS c μ s o a w r0) (hr:(alz E r0).eval=some r):qS c μ s o a w r:=by
 unfold alz at hr;split at hr
 case h_2=>cases hr
 rename_i id i off;split at hr
 case h_2=>cases hr
 rename_i e xs fg;obtain ⟨ys,Yn,hr⟩:=aZ hr;change List e.Fc.D at ys;obtain rfl:=ac2 hr;intro K Q hK;refine hs K Q λc' v' w' μ' fp' Mc hp=> ?_;have hsv:s.v id=some (.arr e xs):=hE id _ fg;have A0:dq c' μ' fp' s.v w':=hp.vs;obtain ⟨ad,cap,hm,fc,Yi⟩:=A0.rel id _ hsv;have fE:s.v id≠none:=by rw [hsv];simp
 have uf:=A0.nodup id _ hsv;obtain ⟨hz,_⟩:=Ty.qE Yn;have GW:e.Fc.size=e.size:=by
  have hz:e.nS e.Fc=true:=hz;grind [Ty.la]
 have apY:=fc;simp only [Ty.aC] at fc;obtain ⟨a0,ac6,e0,uq,fc⟩:=fc;cases e0;have hI:∃ G:List Nat,(∀ b∈G,b∈fp' id)∧∀ (S':Nat→Prop) (vB:Ie S' w'),(∀ b,c'.S b→S' b)→(∀ b∈G,S' b)→∃ f',(∀ b∈f',b∈fp' id∧b ∉ G)∧f'.Nodup∧ad=ad∧List.length ys=List.length xs∧
   (Ty.sl e.Fc).aC (c'.next w' S' vB).fz w' [.slice ad (List.length ys) cap] ys f':=by
  rcases fc with ⟨h0,h1⟩|⟨b,oo,CC,T,fps,rfl,hb,hCs,E9,hfe,hi⟩
  . refine ⟨[],by simp,λS' vB _ _=>⟨[],by simp,by simp,rfl, ?_⟩⟩
    have GU:xs=[]:=by simp_all
    subst GU;have hS0:=EA (S:=λ_=>True) (w:=w') (cs:=[.slice ad 0 cap]) Yn (by simp only [Ty.aT];grind);simp only [Ty.aT] at hS0;obtain ⟨a1,awJ,e1,_,_⟩:=hS0;have hl:List.length ys=0:=by
     simp only [List.cons.injEq,Value.slice.injEq,ahb] at e1;exact e1.2.1.symm
    refine ⟨hl, ?_⟩;simp only [Ty.aC];exact ⟨ad,cap,rfl,⟨by omega,by omega⟩, .inl ⟨h0,trivial⟩⟩
  . refine ⟨fps.flatten,by grind,λS' vB h1 h2=>⟨[b], ?_,by simp,rfl, ?_⟩⟩
    . grind
    -- items, as what is only read
    have hS0:(Ty.sl e).aT (λb'=>S' b'∨b'=b) w' [.slice (some ⟨b,oo,none⟩) xs.length cap] xs:=by
     refine Ty.hO (z:=c'.fz) (λb' cE=>⟨.inl (h1 b' cE),hp.ev.S b' cE⟩) _ apY λb' cE=> ?_;grind
    have hI:∀ (j:Nat) (x:e.D),xs[j]? =some x→e.aT S' w' (aK w' b (oo+j*e.size) e.size) x:=by
     intro j x hx;have cf:j<fps.length:=by grind
     refine Ty.hO (z:=c'.fz) (λb' cE=>⟨h1 b' cE,hp.ev.S b' cE⟩) _ (hi j x fps[j] hx (aa7 cf)) λb' cE=>h2 b' ?_;grind [List.mem_flatten,List.getElem_mem]
    have F7:e.nS e.Fc=true:=hz;have hyv:ys=cast (congrArg List (Ty.jo e e.Fc F7)) xs:=(Ty.qE Yn).2;have hlen:List.length ys=List.length xs:=by grind [Yx,Ty.jo]
    refine ⟨hlen, ?_⟩;simp only [Ty.aC];refine ⟨_,cap,rfl,⟨by omega,by omega⟩, .inr ⟨b,oo,CC,T,List.replicate ys.length [],rfl,hb,by grind,by simp,by simp,λj y f hy hf=> ?_⟩⟩;have hf:(List.replicate (List.length ys) ([]:List Nat))[j]? =some f:=hf;have hf0:f=[]:=by grind
    subst hf0;rw [GW];have hy:ys[j]? =some y:=hy;have hjl:j<xs.length:=by grind
    have hx:=hI j xs[j] (aa7 hjl);have MK:y=cast (Ty.jo e e.Fc F7) xs[j]:=by
     have:=Yy (Ty.jo e e.Fc F7) xs j;grind
    rw [MK];exact Ty.pN (c:=c'.next w' S' vB) _ (Ty.sD e) (Ty.jq e e.Fc F7 _ _ hx)
 obtain ⟨G,hG,hI⟩:=hI
 let S':Nat→Prop:=λb=>c'.S b∨b∈G
 have vB:Ie S' w':=by
  refine ⟨?_,c'.hS.2.mono (λb hb=> .inl hb) hp.ev.S⟩
  rintro b (hb|hb)
  . exact aeh (c'.hS.1 b hb) hp.ev.size
  . exact A0.lt id fE b (hG b hb)
 obtain ⟨f',MB,hfn,_,hlen,kQ⟩:=hI S' vB (λb hb=> .inl hb) (λb hb=> .inr hb);have Bb:Ext c' (c'.next w' S' vB):=Ext.next hp.ev (λb hb=> .inl hb) (by grind)
 have B8:dq c' μ' fp' (λk=>if k=id then none else s.v k) w':=by
  refine ⟨λk x hx=> ?_,λk x hx=> ?_,λk k' hkk hk rr=> ?_,λk hk=> ?_,λk hk=> ?_⟩
  . replace hx:(if k=id then none else s.v k)=some x:=hx
    split at hx
    . cases hx
    . exact A0.rel k x hx
  . replace hx:(if k=id then none else s.v k)=some x:=hx
    split at hx
    . cases hx
    . exact A0.nodup k x hx
  . refine A0.sep k k' hkk ?_ ?_
    . grind
    grind
  . refine A0.kL k ?_
    grind
  . refine A0.lt k ?_
    grind
 have awK:∀ k,(if k=id then none else s.v k)≠none→∀ b∈fp' k,b ∉ fp' id:=λk hk b hb=>by
  have hki:k≠id:=by grind
  exact A0.sep k id hki (by grind) fE b hb
 have Zo:dq (c'.next w' S' vB) μ' fp' (λk=>if k=id then none else s.v k) w':=B8.next Bb λk hk b hb hs=>by
  rcases hs with hs|hs
  . exact B8.kL k hk b hb hs
  grind
 have oU:cR (c'.next w' S' vB) μ' w' id f' (.arr e.Fc ys):=by
  refine ⟨ad,cap,by grind,kQ,λb hb cf j=> ?_⟩;show c'.M b j∨c'.w0.heap.size≤b;grind
 have hv2:=Zo.nH [] id (.arr e.Fc ys) f' (by grind) (λ_ _ _ _ _ _=>rfl) (adK _) oU hfn (λb hb=>by
  refine ⟨?_,A0.lt id fE b (MB b hb).1,by grind⟩
  rintro (hs|hs)
  . exact A0.kL id fE b (MB b hb).1 hs
  grind)
 refine hK (c'.next w' S' vB) v' w' μ' (λk=>if k=id then f' else fp' k) (Mc.trans Bb) ⟨hp.agree, ?_, ?_,Ev.start _⟩
 . have:=hp.val
   grind [az]
 grind [cI,id]
theorem Ob (hC:kM C c.P) (hE:∀ id x,E id=some x→s.v id=some x) {t:TypeId} {x y:Operand} (ho:o.op= .store t x y) {kd:Nat}
  (hr:(Out.of (C.ty t) λt=>Ji E kd t (gk s.t x) (gk s.t y)).eval=some r):qS c μ s o a w r:=by
 by_cases hk6:kd=6
 case neg=>
  refine (G0 h hC hE ho (kd:=kd) ?_).ext;simp_all [Ji]
 obtain ⟨ty,oT,hr⟩:=aZ hr;unfold Ji at hr;rw [aaZ hk6] at hr;split at hr
 case h_2=>cases hr
 rename_i id hy;split at hr
 case h_2=>cases hr
 rename_i e xs fg;rw [Out.pB] at hr;obtain ⟨r0,hr0,hr⟩:=WP.1 hr;obtain rfl:=ac2 hr
 -- the value is what a place holds
 cases y with
 |const v=>exact absurd hy (by simp only [gk];unfold ofValue;grind)
 |func f=>cases hy
 |global g=>cases hy
 |tmp j=>
 have hyj:s.t j= .dn id none:=hy;have hsv:s.v id=some (.arr e xs):=hE id _ fg;obtain ⟨ad,cap,hm,fc,Yi⟩:=h.vs.rel id _ hsv;have fE:s.v id≠none:=by rw [hsv];simp
 have htm:=h.tm j;rw [hyj] at htm;simp only [az] at htm;obtain ⟨ad',len,lJ,sz,pP,Oc⟩:=htm;rw [hm] at pP;cases pP
 let S':Nat→Prop:=λb=>c.S b∨b∈fp id
 have vB:Ie S' w:=by
  refine ⟨?_,c.hS.2.mono (λb hb=> .inl hb) h.ev.S⟩
  rintro b (hb|hb)
  . exact aeh (c.hS.1 b hb) h.ev.size
  . exact h.vs.lt id fE b hb
 have Bb:Ext c (c.next w S' vB):=Ext.next h.ev (λb hb=> .inl hb) (by grind)
 have B8:dq c μ fp (λk=>if k=id then none else s.v k) w:=by
  refine ⟨λk x hx=> ?_,λk x hx=> ?_,λk k' hkk hk rr=> ?_,λk hk=> ?_,λk hk=> ?_⟩
  . replace hx:(if k=id then none else s.v k)=some x:=hx
    split at hx
    . cases hx
    . exact h.vs.rel k x hx
  . replace hx:(if k=id then none else s.v k)=some x:=hx
    split at hx
    . cases hx
    . exact h.vs.nodup k x hx
  . refine h.vs.sep k k' hkk ?_ ?_
    . grind
    grind
  . refine h.vs.kL k ?_
    grind
  . refine h.vs.lt k ?_
    grind
 have Zo:dq (c.next w S' vB) μ fp (λk=>if k=id then none else s.v k) w:=B8.next Bb λk hk b hb hs=>by
  rcases hs with hs|hs
  . exact B8.kL k hk b hb hs
  . have hki:k≠id:=by grind
    exact h.vs.sep k id hki (by grind) fE b hb hs
 let s':mU:={ t:=λi=>if i=j then .ro e xs none else s.t i,v:=λk=>if k=id then none else s.v k,k:=s.k }
 have h':js (c.next w S' vB) μ fp s' n a w:=by
  refine ⟨λi=> ?_,h.n,h.defers,Zo,⟨λi eD hi=> ?_,λeD x hx=> ?_⟩,Ev.start _,λi hi=>h.fix i hi⟩
  . show az (c.next w S' vB) μ (a.tmps.getD i Go.undef) (if i=j then .ro e xs none else s.t i)
    split
    . rename_i IE
      subst IE;rw [Oc];simp only [az];exact ⟨Ty.hO (z:=c.fz) (S:=S') (w:=w) (λb hb=>⟨.inl hb,h.ev.S b hb⟩) _ fc λb hb=> .inr hb,by grind⟩
    . exact az.ext Bb _ (h.tm i)
  . replace hi:eD∈(if i=j then aj.ro e xs none else s.t i).ids:=hi
    split at hi
    . cases hi
    . exact h.known.t i eD hi
  . replace hx:(if eD=id then none else s.v eD)=some x:=hx
    split at hx
    . cases hx
    . exact h.known.v eD x hx
 have hxe:gk s'.t x=gk s.t x:=by
  cases x with
  |tmp i=>
   by_cases IE:i=j
   . subst IE
     exfalso;have:gk s.t (.tmp i)= .dn id none:=hyj;rw [this] at hr0;cases hr0
   . exact aae IE
  |_=>rfl
 have alM:=G0 h' (C:=C) (E:=λk=>if k=id then none else E k) (by exact hC) (by grind) ho (kd:=kd) (r:=r0) (by
  rw [hxe];show (Out.of (C.ty t) λt=>Ec _ kd t (gk s.t x) (if j=j then .ro e xs none else s.t j)).eval=some r0;rw [aaZ rfl,oT];exact hr0)
 intro K Q hK;exact alM K Q λv' w' μ' fp' hp=>hK _ v' w' μ' fp' Bb ⟨hp.agree,hp.val,hp.vs,hp.ev⟩
theorem G2 (hC:kM C c.P) (hF:ki C c.P) (hE:∀ id x,E id=some x→s.v id=some x) {fr:Nat} (ku:∀ id,fr≤id→id<fr+64→¬ s.k id)
  (hr:(core0 C o.op o.type (gk s.t) E fr).eval=some r):qS c μ s o a w r:=by
 have h0:¬ s.k fr:=by grind
 unfold core0 at hr;split at hr
 . exact (Qv h (.inl ‹_›) h0 hr).ext
 . exact (Qv h (.inr ‹_›) h0 hr).ext
 . exact (Yk h ‹_› hr).ext
 . exact (RP h hC ‹_› ku hr).ext
 . exact (ada h ‹_› h0 hr).ext
 . exact (RU h hC ‹_› ku hr).ext
 . exact (Ey h hC hE ‹_› h0 hr).ext
 . exact (Yp h hC hE ‹_› ku hr).ext
 . exact Ob h hC hE ‹_› hr
 . exact (Jm h ‹_› hr).ext
 . exact (RM h hC ‹_› hr).ext
 . exact (Yl h ‹_› hr).ext
 . exact (LX h hC hE ‹_› hr).ext
 . exact (FE h hC ‹_› hr).ext
 . exact (RL h hC.ty ‹_› hr).ext
 . unfold apl at hr
   split at hr
   . rw [Out.pB] at hr
     obtain ⟨r0,hr0,hr⟩:=WP.1 hr;exact adk hE (uJ h hC hE ‹_› hr0).ext hr
   . exact (uJ h hC hE ‹_› hr).ext
 . rename_i t x y ho
   replace hr:=aZ hr;obtain ⟨ty,oT,hr⟩:=hr;have eK:=hC.ty t ty oT;cases ty with
   |str=>
    simp only [Ty.Ok] at eK;refine (RK h ho eK.2 ?_).ext;grind
   |_=>
    replace hr:=aZ hr;obtain ⟨_,_,hr⟩:=hr;cases hr
 . exact (LU h ‹_› hr).ext
 . exact (FI h hC ‹_› h0 hr).ext
 . exact (RO h hC hE ‹_› hr).ext
 . exact (Jn h ‹_› hr).ext
 . rename_i cl args argTypes ho
   split at hr
   . exact (ac8 h hC hE rfl ‹_› ‹_› ho hr).ext
   . cases hr
 . rename_i cl args argTypes ho
   split at hr
   . split at hr
     . rename_i e;subst e
       exact (Oa h hC hE rfl ‹_› ‹_› ho h0 hr).ext
     . cases hr
   . cases hr
 . rename_i f args _ ho
   refine EB (f:=f) (args:=(args.toList.map a.eval).toArray) ?_ (hF f _ E fr r hr c μ fp s w _ rfl h.vs h.known h.ev (EC h _) (ED h _) hE ku);simp [execOp,ho,resolve,Deferred.ofValue,Act.eval,invoke,adj]
 . rename_i f args _ ho
   split at hr
   . rename_i g qF e
     have hv:=h.de (.tmp f);rw [e] at hv;simp only [az] at hv;obtain ⟨cv,hv,hcv⟩:=hv;refine EB (f:=g) (args:=(args.toList.map a.eval++cv.toList).toArray) ?_
      (hF g _ E fr r hr c μ fp s w _ rfl h.vs h.known h.ev ((EC h _).append hcv) (λid hi=> ?_) hE ku)
     . grind [execOp,resolve,Deferred.ofValue,invoke,Yw]
     . rw [su,adE] at hi
       rcases hi with hi|hi
       . exact ED h _ id hi
       . exact h.Eu (.tmp f) id (by grind [aj.ids])
   . cases hr
 . cases hr
omit h in
theorem G3 {id:Nat} {x:bV}:∀ (u:pS) (v:Env),GN u id=some x→cI v u id=some x
 |[],_,h=>by cases h
 |(k,y)::r,v,h=>by
  simp only [GN] at h;simp only [cI];cases hl:GN r id with
  |some z=>rw [hl] at h;cases h;exact G3 r _ hl
  |none=>
   rw [hl] at h;simp only at h;split at h
   . rename_i hk
     obtain ⟨rfl,ha⟩:=hk;have:∀ (r:pS) (v:Env),(r.all λz=>z.1 != k)=true→cI v r k=v k:=by
      intro r
      induction r with
      |nil=>intro v _;rfl
      |cons q r ih=>
       intro v hq;simp only [aeB,aa6,bne_iff_ne,ne_eq] at hq;obtain ⟨j,z⟩:=q;simp only [cI];grind
     grind
   . cases h
omit h in
theorem Yz {d d':aj} {u:pS} {id:Nat} {e:Ty} {xs:List e.D} (hs:qS c μ s o a w (d,u)) (hl:GN u id=some (.arr e xs))
  (Oc:∀ c' EF μ' v',Ext c' EF→(∀ x,az c' μ' x (.dn id none)→az EF μ' x (.ro e xs none))→az c' μ' v' d→az EF μ' v' d'):qS c μ s o a w (d',u++[(id,none)]):=by
 intro K Q hK;refine hs K Q λc' v' w' μ' fp' Mc hp=> ?_;have fg:cI s.v u id=some (.arr e xs):=G3 u s.v hl;obtain ⟨ad',lJ,pP,fc,Yi⟩:=hp.vs.rel id _ fg;have fE:cI s.v u id≠none:=by rw [fg];simp
 let S':Nat→Prop:=λb=>c'.S b∨b∈fp' id
 have vB:Ie S' w':=by
  refine ⟨?_,c'.hS.2.mono (λb hb=> .inl hb) hp.ev.S⟩
  rintro b (hb|hb)
  . exact aeh (c'.hS.1 b hb) hp.ev.size
  . exact hp.vs.lt id fE b hb
 have Bb:Ext c' (c'.next w' S' vB):=Ext.next hp.ev (λb hb=> .inl hb) (by grind)
 have hu:cI s.v (u++[(id,none)])=λk=>if k=id then none else cI s.v u k:=by rw [dV];rfl
 have B8:dq c' μ' fp' (cI s.v (u++[(id,none)])) w':=by
  rw [hu];refine ⟨λk x hx=> ?_,λk x hx=> ?_,λk k' hkk hk rr=> ?_,λk hk=> ?_,λk hk=> ?_⟩
  . replace hx:(if k=id then none else cI s.v u k)=some x:=hx
    split at hx
    . cases hx
    . exact hp.vs.rel k x hx
  . replace hx:(if k=id then none else cI s.v u k)=some x:=hx
    split at hx
    . cases hx
    . exact hp.vs.nodup k x hx
  . refine hp.vs.sep k k' hkk ?_ ?_
    . grind
    grind
  . refine hp.vs.kL k ?_
    grind
  . refine hp.vs.lt k ?_
    grind
 have Zo:dq (c'.next w' S' vB) μ' fp' (cI s.v (u++[(id,none)])) w':=B8.next Bb λk hk b hb hs=>by
  rcases hs with hs|hs
  . exact B8.kL k hk b hb hs
  . have hki:k≠id:=by grind
    refine hp.vs.sep k id hki ?_ fE b hb hs;grind
 refine hK _ _ _ μ' fp' (Mc.trans Bb) ⟨hp.agree,Oc _ _ _ _ Bb (λx hx=> ?_) hp.val,Zo,Ev.start _⟩;simp only [az] at hx ⊢;obtain ⟨ad,len,cap,sz,hm,rfl⟩:=hx;rw [pP] at hm;cases hm;exact ⟨Ty.hO (z:=c'.fz) (S:=S') (w:=w') (λb hb=>⟨.inl hb,hp.ev.S b hb⟩) _ fc λb hb=> .inr hb,by grind⟩
omit h in
theorem EG (W:aj→aj) (hW:∀ c' EF μ' v' x x',Ext c' EF→(∀ v,az c' μ' v x→az EF μ' v x')→az c' μ' v' (W x)→az EF μ' v' (W x')) {m i:Nat} {d:aj} {u:pS} {q:aj×pS}
  (hs:qS c μ s o a w (W d,u)) (hq:Ee m i d u=some q):qS c μ s o a w (W q.1,q.2):=by
 unfold Ee at hq;split at hq
 . split at hq
   . split at hq
     . rename_i hl
       obtain rfl:=ac2 hq;grind [Yz]
     . cases hq
   grind
 grind
omit h in
theorem ak.split {c:Ctx} {μ:Nat→Loc}:{vs:List Value}→(ds:List aj)→{es:List aj}→ak c μ vs (ds++es)→∃ v1 v2,vs=v1++v2∧ak c μ v1 ds∧ak c μ v2 es
 |vs,[],es,h=>⟨[],vs,rfl,by simp [ak],h⟩
 |vs,d::ds,es,h=>by
  simp only [List.cons_append,ak] at h;obtain ⟨v,bg,rfl,h1,h2⟩:=h;obtain ⟨v1,v2,rfl,h3,h4⟩:=ak.split ds h2;exact ⟨v::v1,v2,rfl,by simp only [ak];grind,h4⟩
omit h in
theorem ak.at {c' EF:Ctx} {μ':Nat→Loc} (he:Ext c' EF) {x x':aj} (hx:∀ v,az c' μ' v x→az EF μ' v x') (pre post:List aj) {vs:List Value} (h:ak c' μ' vs (pre++x::post)):ak EF μ' vs (pre++x'::post):=by
 obtain ⟨v1,v2,rfl,h1,h2⟩:=ak.split pre h;refine ak.append (ak.ext he _ h1) ?_;simp only [ak] at h2 ⊢;obtain ⟨v,bg,rfl,h3,h4⟩:=h2;exact ⟨v,bg,rfl,hx v h3,ak.ext he _ h4⟩
omit h in
theorem G4 (W:List aj→aj) (hW:∀ c' EF μ' v' l l',Ext c' EF→(∀ vs,ak c' μ' vs l→ak EF μ' vs l')→az c' μ' v' (W l)→az EF μ' v' (W l')) (m:Nat):∀ (ds:List aj) (i:Nat) (pre:List aj) (u:pS) (q:List aj×pS),
  qS c μ s o a w (W (pre++ds),u)→Qm m i ds u=some q→qS c μ s o a w (W (pre++q.1),q.2)
 |[],i,pre,u,q,hs,hq=>by
  obtain rfl:=ac2 (show some ([],u)=some q from hq);exact hs
 |d::ds,i,pre,u,q,hs,hq=>by
  obtain ⟨q1,h1,hq⟩:=WP.1 (show ((Ee m i d u).bind λq=>(Qm m (i+1) ds q.2).map λp=>(q.1::p.1,p.2))=some q from hq);obtain ⟨q2,h2,rfl⟩:=ST.1 hq;have a1:=EG (λx=>W (pre++x::ds)) (by grind [ak.at]) hs h1;have a2:=G4 W hW m ds (i+1) (pre++[q1.1]) q1.2 q2 (by grind) h2;grind
omit h in
theorem Md (W:aj→aj) (hW:∀ c' EF μ' v' x x',Ext c' EF→(∀ v,az c' μ' v x→az EF μ' v x')→az c' μ' v' (W x)→az EF μ' v' (W x')) {m i:Nat} {d:aj} {u:pS} {q:aj×pS}
  (hs:qS c μ s o a w (W d,u)) (hq:X2 m i d u=some q):qS c μ s o a w (W q.1,q.2):=by
 unfold X2 at hq;split at hq
 . obtain ⟨q2,h2,rfl⟩:=ST.1 hq
   exact G4 (λl=>W (.agg l)) (by grind [az]) m _ i [] u q2 hs h2
 . exact EG W hW hs hq
omit h in
theorem G5 (W:List aj→aj) (hW:∀ c' EF μ' v' l l',Ext c' EF→(∀ vs,ak c' μ' vs l→ak EF μ' vs l')→az c' μ' v' (W l)→az EF μ' v' (W l')) (m:Nat):∀ (ds:List aj) (i:Nat) (pre:List aj) (u:pS) (q:List aj×pS),
  qS c μ s o a w (W (pre++ds),u)→Qn m i ds u=some q→qS c μ s o a w (W (pre++q.1),q.2)
 |[],i,pre,u,q,hs,hq=>by
  obtain rfl:=ac2 (show some ([],u)=some q from hq);exact hs
 |d::ds,i,pre,u,q,hs,hq=>by
  obtain ⟨q1,h1,hq⟩:=WP.1 (show ((X2 m i d u).bind λq=>(Qn m (i+d.cells.length) ds q.2).map λp=>(q.1::p.1,p.2))=some q from hq);obtain ⟨q2,h2,rfl⟩:=ST.1 hq;have a1:=Md (λx=>W (pre++x::ds)) (by grind [ak.at]) hs h1;have a2:=G5 W hW m ds (i+d.cells.length) (pre++[q1.1]) q1.2 q2 (by grind) h2;grind
omit h in
theorem adl {m:Nat} {r0:jR} (hs:qS c μ s o a w r0) (hr:(apn m r0).eval=some r):qS c μ s o a w r:=by
 obtain ⟨q,hq,hr⟩:=aZ hr;obtain rfl:=ac2 hr;obtain ⟨d,u⟩:=r0;unfold apm at hq;split at hq
 . rename_i ds hd
   obtain rfl:d= .MH ds:=hd;obtain ⟨q2,h2,rfl⟩:=ST.1 hq;exact G5 .MH (by grind [az]) m ds 0 [] u q2 hs h2
 . exact Md (λx=>x) (by grind) hs hq
theorem YA (hC:kM C c.P) (hF:ki C c.P) (hE:∀ id x,E id=some x→s.v id=some x) {fr:Nat} (ku:∀ id,fr≤id→id<fr+64→¬ s.k id)
  (hr:(core C o.op o.type (gk s.t) E fr).eval=some r):qS c μ s o a w r:=by
 unfold core at hr;split at hr
 . rw [Out.pB] at hr
   obtain ⟨r0,h0,hr⟩:=WP.1 hr;exact adl (by grind [G2]) hr
 grind [G2]
end
end
section
open Go
theorem yd {t:Ty} {ev Od:Operand→aj}:∀ (ps:List (Nat×Operand)) (cs:List aj),(∀ x∈ps,ev x.2=Od x.2)→qG t ev ps cs=qG t Od ps cs
 |[],_,_=>rfl
 |(k,x)::ps,cs,h=>by
  simp only [qG,h (k,x) (by simp)];split
  . split
    . exact yd ps _ λy hy=>h y (by simp [hy])
    . rfl
  . rfl
theorem sE {E:Env} {e:Ty} {ev Od:Operand→aj}:∀ (ps:List (Nat×Operand)) (xs:List e.D) (g:List Nat),(∀ x∈ps,ev x.2=Od x.2)→ld E e ev ps xs g=ld E e Od ps xs g
 |[],_,_,_=>rfl
 |(k,x)::ps,xs,g,h=>by
  simp only [ld,h (k,x) (by simp)];split
  . rfl
  . congr 1
    funext y;split
    . rfl
    . exact sE ps _ _ λy hy=>h y (by simp [hy])
theorem Me (C:Cx) (op:Op) (ty:Nat) {ev Od:Operand→aj} (E:Env) (fr:Nat) (h:∀ x∈sq op,ev x=Od x):core0 C op ty ev E fr=core0 C op ty Od E fr:=by
 have hm:∀ l:List Operand,(∀ x∈l,ev x=Od x)→l.map ev=l.map Od:=λl hl=>afp hl;unfold core0;split<;>simp only [sq,adM,List.not_mem_nil,or_false,forall_eq_or_imp,forall_eq] at h<;>try (simp only [h];done)
 . congr 1;funext t;split
   . rw [yd _ _ λx hx=>h x.2 (List.mem_map.2 ⟨x,hx,rfl⟩)]
   . rfl
 . congr 1;funext t;congr 1;funext e;split
   . rw [sE _ _ _ λx hx=>h x.2 (List.mem_map.2 ⟨x,hx,rfl⟩)]
   . rfl
 . rename_i t x lo hi
   have hx:=h x (by simp);have hl:lo.map (λz=>nD (ev z))=lo.map λz=>nD (Od z):=by cases lo with|none=>rfl|some z=>grind
   have hh:hi.map (λz=>nD (ev z))=hi.map λz=>nD (Od z):=by cases hi with|none=>rfl|some z=>grind
   grind
 . rw [hm _ h]
 . grind [Call.operands]
 . rename_i args argTypes
   simp only [Call.operands,Array.empty_append] at h;split
   . grind
   . rfl
 . grind [Call.operands]
 . grind [Call.operands,Array.toList_append]
theorem Oe (C:Cx) (op:Op) (ty:Nat) {ev Od:Operand→aj} (E:Env) (fr:Nat) (h:∀ x∈sq op,ev x=Od x):core C op ty ev E fr=core C op ty Od E fr:=by grind [core,Me]
end
section
open Go
structure rC where
 i:Nat
 g:Nat
 o:Oper
 op:Op
 gd:Option (Nat×Bool)
 skip:Bool
 T:List Nat
 R:List Nat
 r:jR
def rC.mk' (l:rC):Bool:=makes l.g l.r.2
def rC.log (l:rC):Log:=
 { i:=l.i,g:=l.g,mkd:=l.mk',dst:=l.o.dst,reads:=(if l.skip then [] else tmpsOf (sq l.o.op))++(l.gd.map (·.1)).toList,T:=l.T,R:=l.R,U:=l.r.2.map (·.1) }
def ap2 (t:Nat→aj) (op op':Op):Prop:=
 op'=op∨∃ x y z,op= .pick x y z∧((gk t x= .b true∧op'= .move y)∨(gk t x= .b false∧op'= .move z))
def ye (l:rC) (t:Nat→aj):Prop:=
 match l.gd with
 |none=>l.skip=false
 |some (d,want)=>if l.skip then t d= .b (!want)∨t d= .undef else t d= .b want
structure Qz (C:Cx) (n:Nat) (l:rC) (s:mU):Prop where
 guard:ye l s.t
 dst:∀ d,l.o.dst=some d→d<n
 skip:l.skip=true→l.r=(.undef,[])∧l.T=[]∧l.R=[]
 eq:l.skip=false→ap2 s.t l.o.op l.op
 core:l.skip=false→(core C l.op l.o.type (gk s.t) (rz l.R s.v) (l.g*64)).eval=some l.r
 res:Qo l.T l.g l.r=true
 known:∀ id∈l.T,s.k id
 fresh:l.skip=false→∀ id,id / 64=l.g→¬ s.k id
def post (l:rC) (s:mU):mU where
 t:=λj=>if l.o.dst=some j then l.r.1 else s.t j
 v:=cI s.v l.r.2
 k:=λid=>s.k id∨(l.mk'=true∧id / 64=l.g)
theorem vD {j:Nat}:{l:List Operand}→j∈tmpsOf l↔Operand.tmp j∈l
 |[]=>by simp [tmpsOf]
 |x::l=>by
  cases x with
  |tmp k=>simp [tmpsOf,vD (l:=l)]
  |_=>simp [tmpsOf,vD (l:=l)]
theorem RW {t t':Nat→aj} {x:Operand} (h:∀ j,x= .tmp j→t j=t' j):gk t x=gk t' x:=by
 cases x with
 |tmp j=>exact h j rfl
 |_=>rfl
theorem qT (v:Env):∀ (u:pS) {id:Nat},id ∉ u.map (·.1)→cI v u id=v id
 |[],_,_=>rfl
 |(k,x)::u,id,h=>by simp_all [not_or,cI,qT]
theorem G6 (v v':Env):∀ (u:pS) {id:Nat},(v id=v' id∨id∈u.map (·.1))→cI v u id=cI v' u id
 |[],_,h=>by simp_all [cI]
 |(k,x)::u,id,h=>by
  simp only [cI];apply G6 _ _ u;grind
theorem RX (v:Env) {a b:pS} (h:∀ id∈a.map (·.1),id ∉ b.map (·.1)):cI (cI v a) b=cI (cI v b) a:=by grind [id,qT,G6]
theorem yf {a b:List Nat} (h:X8 a b=true):∀ x∈a,x ∉ b:=by
 intro x hx hb;have:=adG.1 h x hx;simp_all
structure G7 (a b:rC):Prop where
 d1:∀ d,a.o.dst=some d→d ∉ b.log.reads∧b.o.dst≠some d
 d2:∀ d,b.o.dst=some d→d ∉ a.log.reads
 u1:∀ id∈a.r.2.map (·.1),id ∉ b.R∧id ∉ b.r.2.map (·.1)
 u2:∀ id∈b.r.2.map (·.1),id ∉ a.R
 made:a.mk'=true→∀ id∈b.T,id / 64≠a.g
theorem G7.of {a b:rC} (h:indep a.log b.log=true):G7 a b:=by
 simp only [indep,aa6] at h;obtain ⟨⟨⟨⟨h1,h2⟩,h3⟩,h4⟩,h5⟩:=h;refine ⟨λd hd=> ?_,λd hd=> ?_,λid hi=> ?_,λid hi=> ?_,λhm id hi=> ?_⟩
 . have:=yf h1 d (by simp [rC.log,hd])
   simp only [adE,not_or] at this;refine ⟨this.1,λe=>this.2 ?_⟩;show d∈b.o.dst.toList;rw [e];simp
 . grind [yf,rC.log]
 . have:=yf h3 id hi
   simp only [adE,not_or] at this;exact this
 . exact yf h4 id hi
 . have hm:a.log.mkd=true:=hm
   rw [hm] at h5;simp only [Bool.not_true,Bool.false_or,adG,bne_iff_ne] at h5;exact h5 id hi
theorem Qz.congr {C:Cx} {n:Nat} {l:rC} {s s':mU} (h:Qz C n l s) (ht:∀ j∈l.log.reads,s'.t j=s.t j) (hv:∀ id∈l.R,s'.v id=s.v id)
  (hk:∀ id∈l.T,s'.k id) (hf:l.skip=false→∀ id,id / 64=l.g→¬ s'.k id):Qz C n l s':=by
 have hx:l.skip=false→∀ x∈sq l.o.op,gk s'.t x=gk s.t x:=λhs x hx=>RW λj e=>ht j (by
  subst e;simp only [rC.log,hs,aeF,if_false,adE];exact .inl (vD.2 hx))
 have hE:rz l.R s'.v=rz l.R s.v:=by
  funext id;unfold rz;by_cases hi:l.R.contains id=true
  . rw [aaZ hi,aaZ hi];exact hv id (by simpa using hi)
  . rw [aae hi,aae hi]
 have gu:∀ x∈sq l.op,l.skip=false→gk s'.t x=gk s.t x:=λx hxo hs=>by
  rcases h.eq hs with e|⟨p,q,r,e,h1⟩
  . rw [e] at hxo;exact hx hs x hxo
  . rcases h1 with ⟨_,e2⟩|⟨_,e2⟩<;>rw [e2] at hxo<;>simp only [sq,adM,List.not_mem_nil,or_false] at hxo<;>subst hxo<;>exact by grind [sq]
 refine ⟨?_,h.dst,h.skip,λhs=> ?_,λhs=> ?_,h.res,hk,hf⟩
 . have hg:=h.guard
   grind [ye,rC.log]
 . rcases h.eq hs with e|⟨p,q,r,e,h1⟩
   . exact .inl e
   . refine .inr ⟨p,q,r,e, ?_⟩
     grind [sq]
 . rw [hE,Oe C l.op l.o.type (rz l.R s.v) (l.g*64) λx vn=>gu x vn hs]
   exact h.core hs
theorem swap {C:Cx} {n:Nat} {a b:rC} {s:mU} (ha:Qz C n a s) (hb:Qz C n b (post a s)) (hi:G7 a b) (hg:a.g≠b.g):
  Qz C n b s∧Qz C n a (post b s)∧post a (post b s)=post b (post a s):=by
 refine ⟨?_, ?_, ?_⟩
 . refine hb.congr (λj hj=> ?_) (λid fg=> ?_) (λid fg=> ?_) (λhs id fg hk=> ?_)
   . simp only [post]
     rw [aae λe=>(hi.d1 j e).1 hj]
   . simp only [post]
     rw [qT _ _ λhu=>(hi.u1 id hu).1 fg]
   . rcases hb.known id fg with h|⟨h1,h2⟩
     . exact h
     . exact absurd h2 (hi.made h1 id fg)
   . exact hb.fresh hs id fg (.inl hk)
 . refine ha.congr (λj hj=> ?_) (λid fg=> ?_) (λid fg=> .inl (ha.known id fg)) (λhs id fg hk=> ?_)
   . simp only [post]
     rw [aae λe=>hi.d2 j e hj]
   . simp only [post]
     rw [qT _ _ λhu=>hi.u2 id hu fg]
   . rcases hk with hk|⟨_,h2⟩
     . exact ha.fresh hs id fg hk
     grind
 . simp only [post,mU.mk.injEq]
   refine ⟨?_,(RX _ λid h=>(hi.u1 id h).2).symm, ?_⟩
   . funext j
     by_cases h1:a.o.dst=some j
     . rw [aaZ h1,aae (hi.d1 j h1).2,aaZ h1]
     grind
   grind
def Seq (C:Cx) (n:Nat):List rC→mU→mU→Prop
 |[],s,s'=>s=s'
 |l::L,s,s'=>Qz C n l s∧Seq C n L (post l s) s'
theorem Seq.first {C:Cx} {n:Nat} {b:rC}:∀ {A R:List rC} {s s':mU},Seq C n (A++b::R) s s'→(∀ a∈A,G7 a b∧a.g≠b.g)→Seq C n (b::(A++R)) s s'
 |[],_,_,_,h,_=>h
 |a::A,R,s,s',h,hi=>by
  simp only [List.cons_append,Seq] at h;have:=Seq.first h.2 λx hx=>hi x (by simp [hx])
  simp only [Seq] at this;obtain ⟨q1,q2,q3⟩:=swap h.1 this.1 (hi a (by simp)).1 (hi a (by simp)).2;grind [Seq]
end
section
open Go
def EH (s:ed):Prop:=∀ d b,iX s.kn d=some b→s.t.getD d .dead= .b b
theorem dj {ρ σ:Type} {o:Out ρ} {f:ρ→Out σ} {r:σ} (h:(o.bind f).eval=some r):∃ x,o.eval=some x∧(f x).eval=some r:=by grind [Out.pB,Option.bind_eq_some_iff]
theorem yg {s:ed} (h:EH s) {x:Operand} {b:Bool} (hx:NX s.kn x=some b):gk s.f.t x= .b b:=by
 unfold NX at hx;split at hx
 . cases hx;rfl
 . exact h _ _ hx
 . cases hx
theorem alN {s:ed} (h:EH s) (op:Op):ap2 s.f.t op (opK s.kn op):=by
 unfold opK;split
 . rename_i x y z
   split
   . rename_i e;exact .inr ⟨x,y,z,rfl, .inl ⟨yg h e,rfl⟩⟩
   . rename_i e;exact .inr ⟨x,y,z,rfl, .inr ⟨yg h e,rfl⟩⟩
   . exact .inl rfl
 . exact .inl rfl
theorem Js (a b:List (Nat×Bool)) (d:Nat):iX (a++b) d=(iX a d).or (iX b d):=by
 induction a with
 |nil=>simp [iX]
 |cons x a ih=>
  grind [iX]
theorem EI (kn:List (Nat×Bool)) (dst:Option Nat) (d:Nat) (b:Bool) (h:iX (Qp kn dst) d=some b):dst≠some d∧iX kn d=some b:=by
 cases dst with
 |none=>exact ⟨by simp,h⟩
 |some e=>
  simp only [Qp] at h
  induction kn with
  |nil=>simp [iX] at h
  |cons x kn ih=>
   obtain ⟨j,y⟩:=x;simp only [akV] at h;split at h
   . rename_i fE
     simp only [iX] at h ⊢;grind
   . rename_i fE
     have:=ih h;refine ⟨this.1, ?_⟩;simp only [iX];rw [if_neg]
     . exact this.2
     . rintro rfl
       simp only [bne_iff_ne,ne_eq,Decidable.not_not] at fE;exact this.1 (by simp [fE])
theorem EJ {t:List aj} {d j:Nat} {v x:aj} (h:d<t.length):(t.set d v).getD j x=if d=j then v else t.getD j x:=by grind
theorem yh {t:List aj} {dst:Option Nat} (h:GO t dst=true) (v:aj) (j:Nat):(LK t dst v).getD j .dead=if dst=some j then v else t.getD j .dead:=by
 cases dst with
 |none=>simp [LK]
 |some d=>
  simp only [GO,adS] at h;grind [LK,EJ,Option.some.injEq]
theorem ox (t:List aj) (dst:Option Nat) (v:aj):(LK t dst v).length=t.length:=by cases dst<;>simp [LK]
theorem Of {s:mU} (h:rj s) (op:Op):∀ id∈tids op s.t s.v,s.k id:=by
 have step:∀ l:List Nat,(∀ id∈l,s.k id)→∀ id∈cl s.v l,s.k id:=by
  intro l hl id hi;simp only [cl,adE,List.mem_flatMap] at hi;rcases hi with hi|⟨k,hk,hi⟩
  . exact hl id hi
  . unfold X4 at hi
    split at hi
    . rename_i x hx
      exact (h.v k x hx).2 id hi
    . cases hi
 refine step _ (step _ (step _ ?_));intro id hi;obtain ⟨x,_,hi⟩:=List.mem_flatMap.1 hi;cases x with
 |tmp j=>exact h.t j id hi
 |const v=>simp only [gk,ofValue] at hi;grind [aj.ids]
 |func f=>grind [gk,aj.ids,aj.bO]
 |global g=>grind [gk,aj.ids]
theorem vE {s:mU} {l:rC} (hT:∀ id∈l.T,s.k id) {id:Nat} (h:X5 l.T l.g (makes l.g l.r.2) id=true):(post l s).k id:=by
 simp only [X5,af7,aa6,afH] at h;rcases h with h|h
 . exact .inl (by grind)
 . exact .inr h
theorem Mf {v:Env}:∀ {u:pS} {id:Nat} {x:bV},cI v u id=some x→v id=some x∨(id,some x)∈u
 |[],_,_,h=> .inl h
 |(k,y)::u,id,x,h=>by
  simp only [cI] at h;rcases Mf h with h|h
  . grind
  grind
theorem rj.post {C:Cx} {n:Nat} {s:mU} {l:rC} (h:rj s) (hp:Qz C n l s):rj (post l s):=by
 have hr:=hp.res;simp only [Qo,aa6,adG] at hr;refine ⟨λj id hi=> ?_,λid x hx=> ?_⟩
 . have hi:id∈(if l.o.dst=some j then l.r.1 else s.t j).ids:=hi
   split at hi
   . exact vE hp.known (hr.1 id hi)
   . exact .inl (h.t j id hi)
 . rcases Mf hx with hx|hx
   . exact ⟨.inl (h.v id x hx).1,λeD hi=> .inl ((h.v id x hx).2 eD hi)⟩
   . have:=hr.2 _ hx
     simp only [afz,aa6,adG] at this;exact ⟨vE hp.known this.1,λeD hi=>vE hp.known (this.2 eD hi)⟩
theorem gw:∀ (a b:List (Nat×bV)) (id:Nat),bp (a++b) id=match bp a id with|some x=>some x|none=>bp b id
 |[],_,_=>rfl
 |(k,x)::r,b,id=>by
  simp only [List.cons_append,bp];by_cases h:k=id
  . grind
  . rw [aae h,aae h];exact gw r b id
theorem z6:∀ {w:List (Nat×bV)} {id:Nat},id ∉ w.map (·.1)→bp w id=none
 |[],_,_=>rfl
 |(k,x)::r,id,h=>by
  simp only [ael,adM,not_or] at h;simp only [bp];rw [aae (λe=>h.1 e.symm)];exact z6 h.2
theorem QA (w:List (Nat×bV)):∀ (u:pS) (e:Env) (id:Nat),(∀ x∈u,x.1 ∉ w.map (·.1))→(match cI e u id with|some x=>some x|none=>bp w id)=cI (λj=>match e j with|some x=>some x|none=>bp w j) u id
 |[],_,_,_=>rfl
 |(k,x)::r,e,id,h=>by
  simp only [cI];rw [QA w r _ id (by grind)];congr 1;funext j;by_cases hj:j=k
  . subst hj
    have hk:=z6 (h (j,x) (by simp));grind
  grind
theorem adm {v w:List (Nat×bV)} {u:pS} (h:(u.all λx=> !(w.map (·.1)).contains x.1)=true):bp (Fx v u++w)=cI (bp (v++w)) u:=by
 have h':∀ x∈u,x.1 ∉ w.map (·.1):=by grind
 funext id;rw [gw,zZ,QA w u _ id h'];congr 1;grind [gw]
theorem mq {s:ed} {id:Nat} {x:bV} (h:bp s.v id=some x):s.env id=some x:=by simp_all [ed.env,gw]
def vF (ops:List Oper) (o:Oper) (gd:Option (Nat×Bool)):Prop:=
 match o.guard with
 |none=>gd=none
 |some (j,want)=>∃ d,(ops[j]?).bind (·.dst)=some d∧gd=some (d,want)
theorem vF.dst {ops:List Oper} {o:Oper} {gd:Option (Nat×Bool)} (h:vF ops o gd):(gd.map (·.1)).toList=xR ops o.guard:=by
 unfold vF at h;unfold xR;grind
structure tZ (C:Cx) (ops:List Oper) (g i:Nat) (o:Oper) (s s':ed) (lg:Log):Prop where
 ex:∃ l:rC,Qz C s.t.length l s.f∧s'.f=post l s.f∧l.i=i∧l.g=g∧l.o=o∧vF ops o l.gd∧l.log=lg
 kn:EH s'
 len:s'.t.length=s.t.length
theorem Mg {C:Cx} {op:Op} {ty:Nat} {t:Operand→aj} {T:List Nat} {v:Env} {fr:Nat} {r:jR} (h:(core0 C op ty t (rz T v) fr).eval=some r):(core0 C op ty t (rz (X7 T t op) v) fr).eval=some r:=by
 cases op
 case load tid x=>
  obtain ⟨ty',oT,h⟩:=aZ (show (Out.of (C.ty tid) λt'=>Eb (rz T v) (C.opk (fr / 64)) t' (t x) fr).eval=some r from h);show (Out.of (C.ty tid) λt'=>Eb (rz (X7 T t (.load tid x)) v) (C.opk (fr / 64)) t' (t x) fr).eval=some r;rw [oT];show (Eb (rz (match t x with| .vptr id _=>T.filter (· ==id)|_=>T) v) (C.opk (fr / 64)) ty' (t x) fr).eval=some r;generalize t x=d at h ⊢;cases d
  case vptr id off=>
   have e:rz (T.filter (· ==id)) v id=rz T v id:=by
    unfold rz;grind
   grind [Eb]
  all_goals exact h
 all_goals exact h
theorem adn {C:Cx} {op:Op} {ty:Nat} {t:Operand→aj} {T:List Nat} {v:Env} {fr:Nat} {r:jR} (h:(core C op ty t (rz T v) fr).eval=some r):(core C op ty t (rz (X7 T t op) v) fr).eval=some r:=by
 unfold core at h ⊢;split at h
 . rename_i hz
   rw [aaZ hz];grind [Out.pB,Option.bind_eq_some_iff,Mg]
 simp_all [Mg]
theorem Og {C:Cx} {op:Op} {ty:Nat} {t:Operand→aj} {E:Env} {fr:Nat} {r:jR} {x:Bool} (h0:core0 C op ty t E fr=cV (.b x)) (h:(core C op ty t E fr).eval=some r):r=(.b x,[]):=by
 unfold core at h;rw [h0] at h;split at h
 . exact (ac2 (show some (aj.b x,([]:pS))=some r from h)).symm
 . exact bj h
theorem z7 {C:Cx} {ops:List Oper} {g i:Nat} {o:Oper} {s s':ed} {lg:Log} {gd:Option (Nat×Bool)} (hk:EH s) (hn:rj s.f) (Jt:vF ops o gd) (hg:∀ d want,gd=some (d,want)→s.f.t d= .b want)
  (h:(Ef C ops g i o s).eval=some (s',lg)):tZ C ops g i o s s' lg:=by
 unfold Ef at h;obtain ⟨r,hr,h⟩:=dj h;split at h
 case isFalse=>cases h
 rename_i hc;obtain ⟨RY,ku,alO,ap3⟩:=hc;have h:=ac2 h;obtain ⟨rfl,rfl⟩:=Prod.mk.inj h;have alP:Qz C s.t.length { i,g,o,op:=opK s.kn o.op,gd,skip:=false,T:=tids (opK s.kn o.op) s.f.t s.f.v,R:=X7 (tids (opK s.kn o.op) s.f.t s.f.v) (gk s.f.t) (opK s.kn o.op),r } s.f:=by
  refine ⟨?_, ?_,λe=>(by cases e),λ_=>alN hk o.op,λ_=>adn hr,RY,Of hn _,λ_ id fg rr=> ?_⟩
  . grind [ye]
  . grind [GO]
  grind [ed.f]
 refine ⟨⟨_,alP, ?_,rfl,rfl,rfl,Jt, ?_⟩, ?_,ox _ _ _⟩
 . simp only [ed.f,post,mU.mk.injEq]
   refine ⟨funext λj=> ?_,adm ap3,funext λid=>propext ?_⟩
   . grind [yh]
   . simp only [rC.mk']
     grind
 . simp only [rC.log,aeF,if_false,Jt.dst,rC.mk'];rfl
 . intro d b hf
   simp only at hf ⊢;rw [Js] at hf;rw [yh alO];cases kQ:iX (X6 s.kn o.dst (opK s.kn o.op)) d with
   |none=>
    rw [kQ] at hf;obtain ⟨h1,h2⟩:=EI _ _ _ _ hf;rw [aae h1];exact hk d b h2
   |some b'=>
    rw [kQ] at hf;have hf:b'=b:=by simpa using hf
    subst hf;have key:∀ (x:Operand) (b0:Bool),NX s.kn x=some b0→gk (λj=>s.t.getD j .dead) x= .b b0:=λx b0 hx=>yg hk hx;unfold X6 at kQ;split at kQ
    . rename_i x Zg
      split at kQ
      . rename_i d' b0 hd1 hkx
        simp only [iX] at kQ;split at kQ
        . rename_i e;subst e;cases kQ
          rw [aaZ hd1];rw [Zg] at hr;rw [Og (by simp only [core0,key x _ hkx,X1];rfl) hr]
        . cases kQ
      grind [iX]
    . rename_i x Zg
      split at kQ
      . rename_i d' b0 hd1 hkx
        simp only [iX] at kQ;split at kQ
        . rename_i e;subst e;cases kQ
          rw [aaZ hd1];rw [Zg] at hr;rw [Og (by simp only [core0,key x _ hkx,X1];rfl) hr]
        . cases kQ
      grind [iX]
    . rename_i x Zg
      split at kQ
      . rename_i d' b0 hd1 hkx
        simp only [iX] at kQ;split at kQ
        . rename_i e;subst e;cases kQ
          rw [aaZ hd1];rw [Zg] at hr;rw [Og (by simp only [core0,key x _ hkx,unD];rfl) hr]
        . cases kQ
      grind [iX]
    grind [iX]
theorem z8 {C:Cx} {ops:List Oper} {g i:Nat} {o:Oper} {s s':ed} {lg:Log} {gd:Option (Nat×Bool)} {d:Nat} {want:Bool} (hk:EH s) (Jt:vF ops o gd) (e:gd=some (d,want)) (hg:s.f.t d= .b (!want)∨s.f.t d= .undef)
  (h:(Eg ops g i o s).eval=some (s',lg)):tZ C ops g i o s s' lg:=by
 unfold Eg at h;split at h
 case isFalse=>cases h
 rename_i alO;have h:=ac2 h;obtain ⟨rfl,rfl⟩:=Prod.mk.inj h;have alP:Qz C s.t.length { i,g,o,op:=o.op,gd,skip:=true,T:=[],R:=[],r:=(.undef,[]) } s.f:=by
  refine ⟨?_, ?_,by grind,λe=>(by cases e),λe=>(by cases e),by simp [Qo,aj.ids],by simp,λe=>(by cases e)⟩
  . grind [ye]
  grind [GO]
 refine ⟨⟨_,alP, ?_,rfl,rfl,rfl,Jt, ?_⟩, ?_,ox _ _ _⟩
 . simp only [ed.f,post,mU.mk.injEq]
   refine ⟨funext (by grind [yh]),rfl,funext λid=>propext ?_⟩;simp [rC.mk',makes]
 . simp [rC.log,Jt.dst,rC.mk',makes]
 . intro d b hf
   simp only at hf ⊢;obtain ⟨h1,h2⟩:=EI _ _ _ _ hf;rw [yh alO,aae h1];exact hk d b h2
end
section
open Go
theorem Oh {s:ed} {d:Nat} {b:Bool} (h:s.t.getD d .dead= .b b) (kn:List (Nat×Bool)):({ s with t:=s.t.set d (.b b),kn }:ed).f=s.f:=by
 have hd:d<s.t.length:=by grind
 simp only [ed.f,mU.mk.injEq,ahb];refine ⟨?_,rfl⟩;grind
theorem Ju {s:ed} (hk:EH s) {d:Nat} {b:Bool} (h:s.t.getD d .dead= .b b):EH { s with t:=s.t.set d (.b b),kn:=(d,b)::s.kn }:=by
 intro j b' hf;have hd:d<s.t.length:=by grind
 simp only [iX] at hf;simp only [EJ hd];split at hf
 . grind
 . rename_i e;rw [aae e];exact hk j b' hf
theorem tZ.of {C:Cx} {ops:List Oper} {g i:Nat} {o:Oper} {s s1 s':ed} {lg:Log} (h:tZ C ops g i o s1 s' lg) (hf:s1.f=s.f) (hl:s1.t.length=s.t.length):tZ C ops g i o s s' lg:=by
 obtain ⟨h1,h2,h3⟩:=h;rw [hf,hl] at h1;exact ⟨h1,h2,h3.trans hl⟩
theorem ado {C:Cx} {ops:List Oper} {g i:Nat} {o:Oper} {s s':ed} {lg:Log} (hk:EH s) (hn:rj s.f) (h:(opL C ops g i o s).eval=some (s',lg)):tZ C ops g i o s s' lg:=by
 unfold opL at h;split at h
 . rename_i e
   exact z7 (gd:=none) hk hn (by unfold vF;simp [e]) (λd want hd=>by cases hd) h
 . rename_i j want e
   split at h
   . cases h
   . rename_i d hd
     have Jt:vF ops o (some (d,want)):=by unfold vF;simp only [e];exact ⟨d,hd,rfl⟩
     split at h
     . rename_i b hb
       have hb:=hk d b hb;split at h
       . rename_i e;subst e
         exact z7 hk hn Jt (λd' ap5 hd'=>by cases hd';exact hb) h
       . rename_i fE
         exact z8 hk Jt rfl (.inl (by rw [show s.f.t d= .b b from hb];cases b<;>cases want<;>simp_all)) h
     . split at h
       . rename_i b hb
         replace h:=cJ h;rcases h with ⟨hc,h⟩|⟨hc,h⟩
         . have hc:b=want:=by simpa using hc
           subst hc;have hf:=Oh hb ((d,b)::s.kn);refine (z7 (Ju hk hb) (by rw [hf];exact hn) Jt (λd' ap5 hd'=> ?_) h).of hf (by simp);cases hd';rw [hf];exact hb
         . have hc:b= !want:=by cases b<;>cases want<;>simp_all
           subst hc;have hf:=Oh hb ((d, !want)::s.kn);refine (z8 (Ju hk hb) Jt rfl (.inl ?_) h).of hf (by simp);rw [hf];exact hb
       . rename_i hb
         exact z8 hk Jt rfl (.inr hb) h
       . cases h
theorem AM {C:Cx} {ops:List Oper} {base:Nat}:∀ (l:List (Nat×Oper)) (s s':ed) (lg lg':List Log),(qH C ops base l s lg).eval=some (s',lg')→EH s→rj s.f→
  ∃ L:List rC,Seq C s.t.length L s.f s'.f∧EH s'∧s'.t.length=s.t.length∧lg'=(L.map rC.log).reverse++lg∧L.map (λd=>(d.i,d.o))=l∧∀ d∈L,d.g=base+d.i∧vF ops d.o d.gd
 |[],s,s',lg,lg',h,hk,hn=>by
  simp only [qH] at h;obtain ⟨rfl,rfl⟩:=Prod.mk.inj (ac2 h);exact ⟨[],rfl,hk,rfl,by simp,rfl,by simp⟩
 |(i,o)::r,s,s',lg,lg',h,hk,hn=>by
  simp only [qH] at h;obtain ⟨⟨s1,g1⟩,h1,h2⟩:=dj h;obtain ⟨⟨l,hp,afL,rfl,hg,rfl,Jt,rfl⟩,k2,k3⟩:=ado hk hn h1;have hn1:rj s1.f:=by rw [afL];exact hn.post hp
  obtain ⟨L,q1,q2,q3,q4,q5,q6⟩:=AM r s1 s' _ lg' h2 k2 hn1;refine ⟨l::L,⟨hp,by rw [← afL, ← k3];exact q1⟩,q2,q3.trans k3, ?_,by simp [q5], ?_⟩
  . rw [q4];simp
  . intro d hd
    rcases adM.1 hd with rfl|hd
    . exact ⟨hg,Jt⟩
    . exact q6 d hd
section
variable {c:Ctx} {μ μ':Nat→Loc} {fp fp':Nat→List Nat} {s:mU} {n:Nat} {a:Act} {w w':World} {C:Cx}
theorem yi {a:Act} {dst:Option Tmp} {v:Value} {j n:Nat} (hn:n≤a.tmps.size) (hd:∀ d,dst=some d→d<n):(a.put dst v).tmps.getD j Go.undef=if dst=some j then v else a.tmps.getD j Go.undef:=by
 cases dst with
 |none=>simp [Act.put]
 |some d=>
  have:=hd d rfl;simp only [Act.put,agB, Array.getElem?_setIfInBounds,adI];grind
theorem sF (a:Act) (dst:Option Tmp) (v:Value):(a.put dst v).tmps.size=a.tmps.size:=by cases dst<;>simp [Act.put]
theorem put_defers (a:Act) (dst:Option Tmp) (v:Value):(a.put dst v).defers=a.defers:=by cases dst<;>rfl
theorem js.did {l:rC} {v':Value} {c':Ctx} (h:js c μ fp s n a w) (hp:Qz C n l s) (e:Ext c c') (q:LS c' μ s l.r v' w' μ' fp'):js c' μ' fp' (post l s) n (a.put l.o.dst v') w' where
 tm j:=by
  rw [yi h.n hp.dst];show az c' μ' _ (if l.o.dst=some j then l.r.1 else s.t j);split
  . exact q.val
  . exact az.ext e _ (az.mono _ (λid hi=>q.agree id (h.known.t j id hi)) (h.tm j))
 n:=by rw [sF];exact h.n
 defers:=by rw [put_defers];exact h.defers
 vs:=q.vs
 known:=h.known.post hp
 ev:=q.ev
 fix id hi:=⟨.inl (h.fix id hi).1,by rw [e.loc];exact (q.agree id (h.fix id hi).1).trans (h.fix id hi).2⟩
theorem YB {P:Program} {o o':Oper} {a:Act} {w:World} {K:Act→World→Prop} {Q:Exit→Act→World→Prop} (hd:o'.dst=o.dst) (hr:(execOp a.eval o).run P w=(execOp a.eval o').run P w) (h:o'.wp P a w K Q):o.wp P a w K Q:=by
 unfold Oper.wp at h ⊢;rw [hr];revert h;generalize (execOp a.eval o').run P w=r;simp_all [Oper.upon]
theorem G8 (hC:kM C c.P) (hF:ki C c.P) {ops:Array Oper} {l:rC} {K:Act→World→Prop} {Q:Exit→Act→World→Prop} (h:js c μ fp s n a w) (hp:Qz C n l s) (ho:ops[l.i]? =some l.o) (Jt:vF ops.toList l.o l.gd)
  (hK:∀ c' a' w' μ' fp',Ext c c'→js c' μ' fp' (post l s) n a' w'→K a' w'):wpOp c.P ops Q l.i K a w:=by
 unfold wpOp;simp only [ho];have hw:Region.wanted l.o (yielded ops a.tmps)= !l.skip:=by
  have hg:=hp.guard;unfold ye at hg;unfold vF at Jt;unfold Region.wanted;split at Jt
  . grind
  . rename_i j want e
    obtain ⟨d,h1,h2⟩:=Jt;rw [h2] at hg;simp only at hg;simp only [e];have h1':(ops[j]?).bind (·.dst)=some d:=by simpa using h1
    have hv:=h.tm d;unfold yielded;rw [h1'];simp only [adN];rw [agB] at hv;cases hs:l.skip with
    |false=>
     rw [hs] at hg;simp only [aeF,if_false] at hg;rw [hg] at hv;simp only [az] at hv;cases ht:a.tmps[d]? with
     |none=>rw [ht] at hv;cases hv
     |some y=>grind
    |true=>
     rw [hs] at hg;simp only [agm] at hg;rcases hg with hg|hg<;>rw [hg] at hv<;>simp only [az] at hv<;>cases ht:a.tmps[d]? with
     |none=>rfl
     |some y=>rw [ht] at hv;simp only [agh] at hv;subst hv;first|rfl|grind
 rw [hw];cases hs:l.skip with
 |true=>
  simp only [Bool.not_true,aeF,if_false];obtain ⟨e1,e2,_⟩:=hp.skip hs;exact hK c _ _ μ fp (Ext.refl c) (h.did hp (Ext.refl c) ⟨λ_ _=>rfl,by rw [e1];rfl,by rw [e1];exact h.vs,h.ev⟩)
 |false=>
  simp only [Bool.not_false,agm];left;have hE:∀ id x,rz l.R s.v id=some x→s.v id=some x:=by grind [id,rz]
  have alM:=YA (o:={ l.o with op:=l.op }) h hC hF hE (fr:=l.g*64) (λid h1 h2=>hp.fresh hs id (by omega)) (hp.core hs);have hwp:=alM K Q λc' v' w' μ' fp' e q=>hK c' _ _ μ' fp' e (h.did hp e q);refine YB (o':={ l.o with op:=l.op }) rfl ?_ hwp;rcases hp.eq hs with e|⟨x,y,z,e,h1⟩
  . rw [e]
  . have hv:=h.de x
    grind [az,execOp,asBool]
end
end
section
open Go
theorem G9 (l:List Nat):∀ (after:List Edge) (s0 x:Nat),(after.foldl (λs e=>if Region.binds .any e then s ||| 2 ^ e.on ||| l.getD e.on 0 else s) s0).testBit x=true→
  s0.testBit x=true∨∃ e∈after,Region.binds .any e=true∧(x=e.on∨(l.getD e.on 0).testBit x=true)
 |[],s0,x,h=> .inl h
 |e::r,s0,x,h=>by
  simp only [ae5] at h;rcases G9 l r _ x h with h|⟨e',h1,h2⟩
  . grind
  grind
theorem YC {l:List Nat} {after:List Edge} {x:Nat} (h:(bits l after).testBit x=true):∃ e∈after,Region.binds .any e=true∧(x=e.on∨(l.getD e.on 0).testBit x=true):=by
 rcases G9 l after 0 x h with h|h
 . simp at h
 . exact h
theorem AN:∀ (r:List Oper) (acc:List Nat),(ga r acc).take acc.length=acc∧
  ∀ (k:Nat) (o:Oper),r[k]? =some o→(ga r acc).getD (acc.length+k) 0=bits ((ga r acc).take (acc.length+k)) o.after.toList
 |[],acc=>by simp [ga]
 |o::r,acc=>by
  obtain ⟨h1,h2⟩:=AN r (acc++[bits acc o.after.toList]);simp only [aaY,List.length_singleton] at h1 h2;have ht:(ga (o::r) acc).take acc.length=acc:=by
   show (ga r (acc++[bits acc o.after.toList])).take acc.length=acc;have:(ga r (acc++[bits acc o.after.toList])).take acc.length=((ga r (acc++[bits acc o.after.toList])).take (acc.length+1)).take acc.length:=by grind
   grind
  refine ⟨ht,λk o' hk=> ?_⟩;cases k with
  |zero=>
   simp only [List.getElem?_cons_zero,adI] at hk;subst hk;rw [Nat.add_zero,ht];show (ga r (acc++[bits acc o.after.toList])).getD acc.length 0=_;have:(ga r (acc++[bits acc o.after.toList]))[acc.length]? =((ga r (acc++[bits acc o.after.toList])).take (acc.length+1))[acc.length]? :=by grind
   grind
  |succ k=>
   have:=h2 k o' (by simpa using hk);rw [show acc.length+(k+1)=acc.length+1+k by omega];exact this
theorem Oi {ops:List Oper} {i:Nat} {o:Oper} (ho:ops[i]? =some o) {x:Nat} (h:((ga ops []).getD i 0).testBit x=true):
  ∃ e∈o.after.toList,Region.binds .any e=true∧(x=e.on∨(e.on<i∧((ga ops []).getD e.on 0).testBit x=true)):=by
 have:=(AN ops []).2 i o ho;simp only [adC,aeS] at this;grind [YC,id]
theorem Mh:∀ (r:List Oper) (n:Nat),GP n r=true→∀ (k:Nat) (o:Oper),r[k]? =some o→∀ e∈o.after.toList,Region.binds .any e=true→e.on<n+k
 |[],_,_,k,o,hk=>by simp at hk
 |o::r,n,h,k,o',hk=>by
  simp only [GP,aa6,adG] at h;cases k with
  |zero=>
   grind
  |succ k=>
   intro e he hb;have:=Mh r (n+1) h.2 k o' (by simpa using hk) e he hb;omega
theorem sG (B:List Nat):∀ (l:List Log),xS B l=true→l.Pairwise λb a=>(B.getD b.i 0).testBit a.i=true∨indep a b=true
 |[],_=>List.Pairwise.nil
 |b::r,h=>by
  simp only [xS,aa6,adG,af7] at h;exact List.Pairwise.cons (λa ha=>h.1 a ha) (sG B r h.2)
section
variable {c:Ctx} {n:Nat} {C:Cx}
theorem Ha {ops:Array Oper} {Q:Exit→Act→World→Prop} {sf:mU} {P:Program} (hC:kM C P) (hF:ki C P) {c0:Ctx} (hP:c0.P=P) (hQ:∀ c μ fp a w,Ext c0 c→js c μ fp sf n a w→Q .normal a w):
  ∀ (L:List rC) (s:mU) (μ:Nat→Loc) (fp:Nat→List Nat) (a:Act) (w:World) (c:Ctx),Ext c0 c→Seq C n L s sf→(∀ d∈L,ops[d.i]? =some d.o∧vF ops.toList d.o d.gd)→js c μ fp s n a w→wpOps P ops Q (L.map (·.i)) a w
 |[],s,μ,fp,a,w,c,e,hs,_,h=>by
  simp only [Seq] at hs;subst hs;exact hQ c μ fp a w e h
 |d::L,s,μ,fp,a,w,c,e,hs,hL,h=>by
  have hcP:c.P=P:=e.P.trans hP;rw [ael,wpOps_cons];have:=G8 (Q:=Q) (by rw [hcP];exact hC) (by rw [hcP];exact hF) h hs.1 (hL d (by simp)).1 (hL d (by simp)).2 λc' a' w' μ' fp' e' h'=>Ha hC hF hP hQ L _ μ' fp' a' w' c' (e.trans e') hs.2 (λx hx=>hL x (by simp [hx])) h';rw [hcP] at this;exact this
theorem Hb {ops:Array Oper} {dY:Array Bool} {i:Nat} (h:i∈Region.ready .any ops dY):
  i<ops.size∧dY.getD i true=false∧∃ o,ops[i]? =some o∧∀ e∈o.after.toList,Region.binds .any e=true→dY.getD e.on false=true:=by
 unfold Region.ready at h;simp only [List.mem_filter,List.mem_range,aa6,afq] at h;obtain ⟨h1,h2,h3⟩:=h;cases ho:ops[i]? with
 |none=>grind
 |some o=>
  rw [ho] at h3;simp only [ags,agh] at h3;refine ⟨h1,h2,o,rfl,λe he hb=> ?_⟩;grind [Array.all_eq_true_iff_forall_mem]
theorem YD {ops:Array Oper} {dY:Array Bool} {i:Nat} {o:Oper} (h1:i<ops.size) (h2:dY.getD i true=false) (ho:ops[i]? =some o) (h:∀ e∈o.after.toList,Region.binds .any e=true→dY.getD e.on false=true):
  i∈Region.ready .any ops dY:=by
 unfold Region.ready;grind
structure Left (C:Cx) (n:Nat) (ops:Array Oper) (base:Nat) (dY:Array Bool) (R:List rC) (s sf:mU):Prop where
 size:dY.size=ops.size
 left:∀ i,i<ops.size→(dY.getD i true=false↔∃ d∈R,d.i=i)
 sorted:R.Pairwise λa b=>a.i<b.i
 inv:∀ j,j<ops.size→dY.getD j true=true→∀ x,((ga ops.toList []).getD j 0).testBit x=true→dY.getD x false=true
 indep:R.Pairwise λa b=>((ga ops.toList []).getD b.i 0).testBit a.i=true∨indep a.log b.log=true
 all:∀ d∈R,ops[d.i]? =some d.o∧vF ops.toList d.o d.gd∧d.g=base+d.i
 seq:Seq C n R s sf
theorem Hc {l:Array Bool} {i:Nat} (h:i<l.size):l.getD i false=l.getD i true:=by grind
theorem Left.done {ops:Array Oper} {base:Nat} {dY:Array Bool} {R:List rC} {s sf:mU} (h:Left C n ops base dY R s sf) (hb:GP 0 ops.toList=true) (hr:Region.ready .any ops dY=[]):s=sf:=by
 cases R with
 |nil=>exact h.seq
 |cons d R=>
  exfalso;obtain ⟨ho,_,_⟩:=h.all d (by simp);have hi:d.i<ops.size:=(by grind)
  have:d.i∈Region.ready .any ops dY:=by
   refine YD hi ((h.left d.i hi).2 ⟨d,by simp,rfl⟩) ho λe he hbe=> ?_;have cf:=Mh ops.toList 0 hb d.i d.o (by simpa using ho) e he hbe;rw [aeS] at cf;rw [Hc (by rw [h.size];omega)];cases hl:dY.getD e.on true with
   |true=>rfl
   |false=>
    obtain ⟨d',hd',e'⟩:=(h.left e.on (by omega)).1 hl;rcases adM.1 hd' with rfl|hd'
    . omega
    . have:=List.rel_of_pairwise_cons h.sorted hd'
      omega
  grind
theorem Hd {ops:Array Oper} {base:Nat} {Q:Exit→Act→World→Prop} {sf:mU} {P:Program} (hC:kM C P) (hF:ki C P) {c0:Ctx} (hP:c0.P=P) (hb:GP 0 ops.toList=true) (hQ:∀ c μ fp a w,Ext c0 c→js c μ fp sf n a w→Q .normal a w):
  ∀ (fuel:Nat) (dY:Array Bool) (R:List rC) (s:mU) (μ:Nat→Loc) (fp:Nat→List Nat) (a:Act) (w:World) (c:Ctx),Ext c0 c→R.length≤fuel→Left C n ops base dY R s sf→js c μ fp s n a w→wpAny P .any ops Q fuel dY a w
 |0,dY,R,s,μ,fp,a,w,c,ec,hl,h,hx=>by
  obtain rfl:R=[]:=by grind
  have hr:Region.ready .any ops dY=[]:=by
   cases hr:Region.ready .any ops dY with
   |nil=>rfl
   |cons i r=>
    obtain ⟨h1,h2,_⟩:=Hb (i:=i) (by rw [hr];simp);obtain ⟨d,hd,_⟩:=(h.left i h1).1 h2;simp at hd
  exact ⟨hr,by have:=h.done hb hr;grind⟩
 |fuel+1,dY,R,s,μ,fp,a,w,c,ec,hl,h,hx=>by
  have hcP:c.P=P:=ec.P.trans hP;refine ⟨λhr=>by have:=h.done hb hr;grind,λi hi=> ?_⟩;obtain ⟨h1,h2,o,ho,ap7⟩:=Hb hi;obtain ⟨d,hd,rfl⟩:=(h.left i h1).1 h2;obtain ⟨A,A',rfl⟩:=List.append_of_mem hd;obtain ⟨hod,Jt,hgb⟩:=h.all d hd;rw [hod] at ho;cases ho
  -- what is done ahead of it is listed
  have atB:∀ x,((ga ops.toList []).getD d.i 0).testBit x=true→dY.getD x false=true:=by
   intro x hxb;obtain ⟨e,he,hbe,h3⟩:=Oi (by simpa using hod) hxb;have hle:=ap7 e he hbe;rcases h3 with rfl|⟨cf,h3⟩
   . exact hle
   . exact h.inv e.on (by omega) (by grind) x h3
  have au8:=List.pairwise_append.1 h.sorted;have atD:=List.pairwise_append.1 h.indep;have alR:∀ x∈A,G7 x d∧x.g≠d.g:=by
   intro x hxA;have cf:x.i<d.i:=by grind
   refine ⟨?_, ?_⟩
   . rcases atD.2.2 x hxA d (by simp) with MA|MA
     . exfalso
       have:=atB x.i MA;rw [Hc (by rw [h.size];omega),(h.left x.i (by omega)).2 (by grind)] at this;cases this
     grind [G7.of]
   . rw [(h.all x (by simp [hxA])).2.2,hgb];omega
  have ap8:=h.seq.first alR
  rw [← hcP];refine G8 (by grind) (by grind) hx ap8.1 hod Jt λc' a' w' μ' fp' e' vn=> ?_;rw [hcP];have gu:(A++A').Sublist (A++d::A'):=(by grind)
  have fE:∀ x∈A++A',x.i≠d.i:=by grind [List.rel_of_pairwise_cons]
  have KQ:∀ j alS,j<ops.size→(dY.setIfInBounds d.i true).getD j alS=if d.i=j then true else dY.getD j alS:=by
   intro j alS hj;have hjl:j<dY.size:=by rw [h.size];exact hj
   simp only [agB, Array.getElem?_setIfInBounds];grind
  refine Hd hC hF hP hb hQ fuel _ (A++A') _ μ' fp' a' w' c' (ec.trans e') (by grind) ⟨by simp [h.size], ?_,h.sorted.sublist gu, ?_,h.indep.sublist gu,λx hxm=>h.all x (gu.subset hxm),ap8.2⟩ vn
  . intro j hj
    rw [KQ j true hj];by_cases e:d.i=j
    . grind
    . rw [aae e,h.left j hj]
      grind
  . intro j hj hlj x hxb
    have key:dY.getD x false=true:=by
     rw [KQ j true hj] at hlj;by_cases e:d.i=j
     . grind
     . rw [aae e] at hlj
       exact h.inv j hj hlj x hxb
    have JK:x<ops.size:=by
     rcases afw x dY.size with cf|MI
     . rw [h.size] at cf;exact cf
     grind
    simp_all
end
end
end Go.Proofs.YtkmhgofibfmjfaaGreat.Dm
