/- The data machine (a part). -/
import Derived.Test.YtnlleofnjkeimaaGreatDoorM1
import Derived.Laws.Tables
import Derived.Lib.OthersKept
import Derived.Orders
namespace Go.Proofs.YtnlleofnjkeimaaGreatDoor.Dm
section
open Go
section
variable {c:Ctx} {μ:Nat→Loc} {fp:Nat→List Nat} {s:kM} {n:Nat} {o:Oper} {a:Act} {w:World} {r:gY} {C:Cx} {E:Env}
theorem ai.iA:{vs:List Value}→{ds:List ah}→ai c μ vs ds→ds.all ah.bs=true→∀ v∈vs,v.oneCell'=true
 |_,[],h,_=>by grind [ai]
 |_,d::ds,h,hc=>by
  simp only [ai] at h;obtain ⟨v,aZ,rfl,h1,h⟩:=h;simp only [ack,aa4] at hc;intro u hu;rcases abF.1 hu with rfl|hu
  . exact h1.iA hc.1
  . exact ai.iA h hc.2 u hu
def spliced (D:Array Value) (pos:Nat) (vs:List Value):Array Value:=(D.toList.take pos++vs++D.toList.drop (pos+vs.length)).toArray
theorem cD {D:Array Value} {pos:Nat} {vs:List Value} (h:pos+vs.length≤D.size):(spliced D pos vs).size=D.size:=by grind [spliced]
theorem fu {D:Array Value} {pos:Nat} {vs:List Value} (h:pos+vs.length≤D.size) (j:Nat):
  (spliced D pos vs)[j]? =if pos≤j∧j<pos+vs.length then vs[j - pos]? else D[j]? :=by
 have hl:(D.toList.take pos).length=pos:=by simp;omega
 simp only [spliced,List.getElem?_toArray];grind
theorem D6 {P:Program} {t:Ty} {tid:TypeId} (dF:t.Ok P tid) {B pos:Nat} {D:Array Value} {T:TypeId} (hb:w.heap[B]? =some (.cells D T (0,0))) {v:Value} (hl:v.cells.toList.length=t.size)
  (xc:pos+t.size≤D.size) (h1:∀ u∈v.cells.toList,u.oneCell'=true):
  (storeVar tid ⟨B,pos,none⟩ v).run P w= .ok () (w.setRow B (spliced D pos v.cells.toList)):=by
 have pU:=run_storeCells_at (P:=P) B pos T v.cells.toList 0 D w hb (by omega) h1;have hs:v.cells.size=t.size:=by rw [← hl];simp
 simp only [ae9] at pU;simp [storeVar,dF.kk,hs,pU,spliced]
theorem iY {w:World} {B o' k n:Nat} {D:Array Value} {T:TypeId} (hb:w.heap[B]? =some (.cells D T (0,0))) {vs:List Value} (hk:k+vs.length≤n) (hn:o'+n≤D.size):
  aE (w.setRow B (spliced D (o'+k) vs)) B o' n=(aE w B o' n).take k++vs++(aE w B o' n).drop (k+vs.length):=by
 rw [ck (setRow_heap w B D _ T _ hb),ck hb];apply acB;intro j;have hl:((D.toList.drop o').take n).length=n:=by simp;omega
 rcases acH j n with hj|hj
 . rw [ab9 hj,ab8,acm,fu (by omega),acj]
   rcases acH j k with h1|h1
   . grind
   grind
 grind
theorem mi {vs us:List Value} {ds es:List ah} (h:ai c μ vs ds) (h':ai c μ us es) (off:Nat):ai c μ (vs.take off++us++vs.drop (off+us.length)) (eK ds off es):=by
 unfold eK;rw [h'.length];exact ((h.take off).append h').append (h.drop _)
theorem iq {ds es:List ah} {off:Nat} (h:off+es.length≤ds.length):(eK ds off es).length=ds.length:=by grind [eK]
theorem lL {ds es:List ah} {off:Nat} (h:ds.all ah.bs=true) (h':es.all ah.bs=true):(eK ds off es).all ah.bs=true:=by
 simp only [eK,adE,aa4,abD] at*;grind
theorem zP {b:Bool} (h:¬ b=false):b=true:=by grind
variable (h:il c μ fp s n a w)
include h
theorem BK (hC:iF C c.P) (hE:∀ id x,E id=some x→s.v id=some x) {t:TypeId} {x y:Operand} (ho:o.op= .store t x y)
  {kd:Nat} (hr:(Out.of (C.ty t) λt=>zx E kd t (eT s.t x) (eT s.t y)).eval=some r):oE c μ s o a w r:=by
 have hx:=h.ca x;have hy:=h.ca y;replace hr:=aK hr;obtain ⟨ty,ko,hr⟩:=hr;have dF:=hC.ty t ty ko;have run:∀ (B pos:Nat) (D:Array Value) (T:TypeId),a.eval x= .pointer (some ⟨B,pos,none⟩)→w.heap[B]? =some (.cells D T (0,0))→(a.eval y).cells.toList.length=ty.size→pos+ty.size≤D.size→
   (∀ u∈(a.eval y).cells.toList,u.oneCell'=true)→(execOp a.eval o).run c.P w= .ok .skip (w.setRow B (spliced D pos (a.eval y).cells.toList)):=by
  intro B pos D T hv hb hl hf h1;simp [execOp,ho,hv,Instr.storeAt,Instr.sureAddr,D6 dF hb hl hf h1]
 unfold zx at hr;split at hr
 . rename_i id off e
   rw [e] at hx;simp only [an] at hx;obtain ⟨B,o',hm,hv⟩:=hx;split at hr
   . rename_i cs hid
     split at hr
     . rename_i hc
       obtain ⟨hc1,hc2,hc3⟩:=hc;have hr:=aa6 hr;subst hr;have nO:=hy.cells hc3;have hvl:=nO.length;obtain ⟨B2,o2,D,T,q1,q2,q3,q4,q5,q6,q7⟩:=h.vs.rel id _ (hE _ _ hid);rw [hm] at q1;cases q1;have gP:=run B (o'+off) D T hv q3 (by omega) (by omega) (nO.iA hc3);have hlen:(eK cs off (eT s.t y).cells).length=cs.length:=iq (by omega);have mF:cz c μ (w.setRow B (spliced D (o'+off) (a.eval y).cells.toList)) id [B] (.var (eK cs off (eT s.t y).cells)):=by
        refine ⟨B,o',_,T,hm,rfl,setRow_heap w B D _ T _ q3, ?_, ?_,lL q6 hc3, ?_⟩
        . rw [cD (by omega),hlen];exact q4
        . rw [hlen,iY q3 (by omega) q4]
          exact mi q5 nO off
        . rw [hlen];exact q7
       have py:=h.vs.kN (μ':=μ) (w':=w.setRow B (spliced D (o'+off) (a.eval y).cells.toList)) h.ev [] id _ [B] (λ_ _ _ _ _=>⟨rfl,λ_ _=>rfl⟩)
        (λk hk dV _ b hb=>setRow_other w B b _ (λe=>by
         subst e;exact h.vs.sep k id dV hk (by rw [hE _ _ hid];simp) b hb (by rw [q2];simp))) (by simp) mF (by simp)
        (λb hb=> .inr ⟨id, .inl rfl,by rw [hE _ _ hid];simp,by rw [q2];exact hb⟩)
       refine ub gP ⟨λ_ _=>rfl,by simp [an],py, ?_⟩;refine h.ev.setRow q3 (λhs=>h.vs.iQ id (by rw [hE _ _ hid];simp) B (by rw [q2];simp) hs) (cD (by omega)) (λbS j hj=> ?_);rw [fu (by omega)];rw [aa3]
       rintro ⟨h1,h2⟩
       refine hj ?_;have:=q7 bS (j - o') (by omega);rwa [show o'+(j - o')=j by omega] at this
     . cases hr
   . cases hr
 . rename_i id i off e
   rw [e] at hx;simp only [an] at hx;obtain ⟨b,o',len,cap,sz,hm,hi,hv⟩:=hx;replace hr:=aK hr;obtain ⟨vr,Ey,hr⟩:=hr;unfold Pq at hr;split at hr
   . rename_i e' xs j cs
     split at hr
     case isFalse=>cases hr
     rename_i hc;obtain ⟨hc1,hc2,hc3⟩:=hc;rcases bX hr with ⟨Dr,h2⟩|⟨_,h2⟩
     case inr=>cases h2
     have Dr:i=j:=by simpa using Dr
     subst Dr;have h2:=aa6 h2;subst h2;have nO:=hy.cells hc3;have hvl:=nO.length;obtain ⟨ad,cap2,b2,o2,D,T,p,q,q1,q2,q3,q4,q5,q6,q7,q8,q9,q10,q11,q13,q12⟩:=h.vs.rel id _ (hE _ _ Ey);rw [hm] at q1;cases q1;cases q2;have jN:o'+(i+1)*e'.size≤D.size:=by
      have:(i+1)*e'.size≤cap*e'.size:=abX _ (by omega);omega
     rw [acg] at jN;have gP:=run b (o'+i*e'.size+off) D T hv q4 (by omega) (by omega) (nO.iA hc3);have hlen:(eK cs off (eT s.t y).cells).length=cs.length:=iq (by omega);have kD:∀ b',b'≠b→(w.setRow b (spliced D (o'+i*e'.size+off) (a.eval y).cells.toList)).heap[b']? =w.heap[b']? :=λb' dV=>setRow_other w b b' _ dV;have D7:s.v id≠none:=by rw [hE _ _ Ey];simp
     have zO:b∈fp id:=by rw [q3];simp
     have mF:cz c μ (w.setRow b (spliced D (o'+i*e'.size+off) (a.eval y).cells.toList)) id (b::(p++q)) (.tP e' xs i (eK cs off (eT s.t y).cells)):=by
      refine ⟨_,cap,b,o',_,T,p,q,hm,rfl,rfl,setRow_heap w b D _ T _ q4, ?_,q6,q7,q8.frame (Fz.le_refl _) (λb' b8=>kD b' λe=>q13 (e ▸ b8)) (cD (by omega)) (λj hj=> ?_), ?_,by rw [hlen];exact q10,lL q11 hc3,q13,λb' b8=>q12 b' (q3 ▸ b8)⟩
      . rw [cD (by omega)];exact q5
      . rw [fu (by omega),aa3]
        rw [acg] at hj;omega
      . rw [iY q4 (by omega) (by omega)]
        exact mi q9 nO off
     have py:=h.vs.kN (μ':=μ) (w':=w.setRow b (spliced D (o'+i*e'.size+off) (a.eval y).cells.toList)) h.ev [] id _ (b::(p++q)) (λ_ _ _ _ _=>⟨rfl,λ_ _=>rfl⟩)
      (λk hk dV _ b' b8=>kD b' (λe=>by subst e;exact h.vs.sep k id dV hk D7 b' b8 zO)) (by simp) mF (q3 ▸ h.vs.nodup id _ (hE _ _ Ey))
      (λb' b8=> .inr ⟨id, .inl rfl,D7,q3 ▸ b8⟩)
     refine ub gP ⟨λ_ _=>rfl,by simp [an],py, ?_⟩;exact h.ev.setRow q4 (λhs=>h.vs.iQ id D7 b zO hs) (cD (by omega)) (λbS j hj=>absurd (q12 b zO bS j) hj)
   rename_i L5;clear L5;have QJ:(vr.cS off ty).size=ty.size:=by
    cases vr with
    |arr e' _=>exact (nq (Ty.iB e' off ty)).1
    |zv e' _ _ _ _ _ _=>exact (nq (Ty.iB e' off ty)).1
    |tP e' _ _ _=>exact (nq (Ty.iB e' off ty)).1
    |_=>rfl
   have run:∀ (B pos:Nat) (D:Array Value) (T:TypeId),a.eval x= .pointer (some ⟨B,pos,none⟩)→w.heap[B]? =some (.cells D T (0,0))→(a.eval y).cells.toList.length=(vr.cS off ty).size→pos+(vr.cS off ty).size≤D.size→
     (∀ u∈(a.eval y).cells.toList,u.oneCell'=true)→(execOp a.eval o).run c.P w= .ok .skip (w.setRow B (spliced D pos (a.eval y).cells.toList)):=by
    rw [QJ];exact run
   clear dF ko QJ;generalize vr.cS off ty=ty at hr run;unfold Pp at hr;replace hr:=aK hr;obtain ⟨yy,hyy,hr⟩:=hr;split at hr
   . cases hr
   rename_i Li;simp only [not_or] at Li;obtain ⟨HY,jS⟩:=Li;have jS:(eT s.t y).cells.all ah.bs=true:=by cases hq:(eT s.t y).cells.all ah.bs<;>simp_all
   have HY:id ∉ yy.2:=by simpa using HY
   have nO:=hy.cells jS;obtain ⟨fy,hfy,lM⟩:=wI h.vs hE nO hyy;have hvl:=Ty.eS ty hfy;have D7:s.v id≠none:=by rw [hE _ _ Ey];simp
   split at hr
   . -- the list that is held beside goes back, changed
     split at hr
     . rename_i e' xs x0 j tS u dC _
       split at hr
       . rename_i hq
         obtain ⟨rfl,aiX⟩:=hq;have htu:=Ty.beq_eq _ _ aiX;subst htu;replace hr:=bX hr;rcases hr with ⟨Dr,hr⟩|⟨_,hr⟩
         . have Dr:i=j:=by simpa using Dr
           subst Dr;replace hr:=iS hr;obtain ⟨z,hz,hr⟩:=hr;replace hr:=aK hr;obtain ⟨z',Br,hr⟩:=hr;have hr:=aa6 hr;subst hr;obtain ⟨ad,cap2,g1,⟨a',mY,jP,e3,bb,ob,CC,EE,w1,w2,w3,w4,w5,w6,w7⟩,g3,g4,g5⟩:=h.vs.rel id _ (hE _ _ Ey);rw [hm] at g1;cases g1;cases w3;have TD:ty.size=1:=by rw [w2];rfl
           have aiY:o'+i*e'.size+off<CC.size:=(Array.getElem?_eq_some_iff.1 w6).1;have gP:=run b (o'+i*e'.size+off) CC EE hv w5 hvl (by omega) (nO.iA jS);rw [TD] at hvl;obtain ⟨hd,V3⟩:=List.length_eq_one_iff.1 hvl;rw [V3] at gP hfy;have aiZ:b ∉ fy:=λzO=>by
            obtain ⟨k,hk,oz⟩:=lM.mem b zO;exact h.vs.sep id k (λe=>HY (e ▸ hk)) D7 (lM.there k hk).1 b w4 oz
           have kD:∀ b',b'≠b→(w.setRow b (spliced CC (o'+i*e'.size+off) [hd])).heap[b']? =w.heap[b']? :=λb' dV=>setRow_other w b b' _ dV;have Kv:=fu (D:=CC) (pos:=o'+i*e'.size+off) (vs:=[hd]) (by simp;omega);obtain ⟨z0,z1,f'',k1,k2,k3,k4⟩:=w7 c.fz (w.setRow b (spliced CC (o'+i*e'.size+off) [hd])) _ hd yy.1 fy (Fz.le_refl _) (setRow_heap w b CC _ EE _ w5) (cD (by simp;omega))
            (λj hj=>by rw [Kv,aa3];simp;omega) (by rw [Kv,aa5 (by simp)];simp) (λb' _ dV=>kD b' dV) (Ty.cR ty hfy λb' b8=>kD b' λe=>aiZ (e ▸ b8))
           have hz:xs[i]? =some z:=hz;rw [hz] at k1;cases k1;rw [Br] at k2;cases k2;have oS:f''.Nodup:=k4.nodup_iff.2 (by
            rw [aca];refine ⟨h.vs.nodup id _ (hE _ _ Ey),lM.nodup,λb1 h1 b2 h2 e=> ?_⟩;subst e;obtain ⟨k,hk,oz⟩:=lM.mem b1 h2;exact h.vs.sep id k (λe=>HY (e ▸ hk)) D7 (lM.there k hk).1 b1 h1 oz)
           have py:=h.vs.kN (μ':=μ) (w':=w.setRow b (spliced CC (o'+i*e'.size+off) [hd])) h.ev yy.2 id (.arr e' (xs.set i z')) f'' (λ_ _ _ _ _=>⟨rfl,λ_ _=>rfl⟩)
            (λk hk dV _ b' b8=>kD b' (λe=>by subst e;exact h.vs.sep k id dV hk D7 b' b8 w4)) (by simp)
            ⟨some ⟨b,o',none⟩,cap,by simpa using hm,by simpa using k3,λb' b8 bS=>by
             rcases abp.1 (k4.mem_iff.1 b8) with h1|h1
             . exact g3 b' h1 bS
             . exact lM.may b' h1 bS⟩ oS
            (λb' b8=>by
             rcases abp.1 (k4.mem_iff.1 b8) with h1|h1
             . exact .inr ⟨id, .inl rfl,D7,h1⟩
             . obtain ⟨k,hk,oz⟩:=lM.mem b' h1
               exact .inr ⟨k, .inr hk,(lM.there k hk).1,oz⟩)
           refine ub gP ⟨λ_ _=>rfl,by simp [an],py, ?_⟩;exact h.ev.setRow w5 (λhs=>h.vs.iQ id D7 b w4 hs) (cD (by simp;omega)) (λbS j hj=>absurd (g3 b w4 bS j) hj)
         . cases hr
       . cases hr
     . cases hr
   . rename_i hnf
     have hnf:∀ k∈yy.2,k ∉ bz vr:=λk hk kH=>hnf (.inl (List.any_eq_true.2 ⟨k,hk,by simpa using kH⟩));replace hr:=aK hr;obtain ⟨⟨e',xs⟩,hu,hr⟩:=hr;replace hr:=iS hr;obtain ⟨z,hz,hr⟩:=hr;replace hr:=aK hr;obtain ⟨z',Br,hr⟩:=hr;have hr:=aa6 hr;subst hr;obtain ⟨ad,jP,f,g1,g2,g3,g4,g5,g6⟩:=gL h.vs hE Ey hu;rw [hm] at g1;cases g1;obtain ⟨b2,o2,D,T,p,fi,q,k1,k2,k3,k4,k5,k6,k7⟩:=vS g2 hz;cases k1;obtain ⟨y0,Eu⟩:=Ty.iR e' Br;obtain ⟨pre,uJ,post,f1,fm,f2,l1,l2,l3,l4,l5⟩:=Ty.kX e' k6 Eu;have hml:=Ty.eS ty l4;have hel:=Ty.eS e' k6;have akx:pre.length+ty.size+post.length=e'.size:=by rw [← hel,l1];simp [hml];omega
     have oS:f.Nodup:=g3.nodup_iff.2 (h.vs.jm _ g4 λk hk=>(g5 k hk).1);have jN:o'+(i+1)*e'.size≤D.size:=by
      have:(i+1)*e'.size≤cap*e'.size:=abX _ (by omega);omega
     rw [acg] at jN;have gP:=run b (o'+i*e'.size+off) D T hv k2 hvl (by omega) (nO.iA jS);have zO:b∈f:=by rw [k5];simp
     -- the blocks of what comes are not the list's
     have tZ:∀ b'∈fy,b' ∉ f:=λb' h1 h2=>by
      obtain ⟨k,hk,oz⟩:=lM.mem b' h1;obtain ⟨k',kH,D8⟩:=List.mem_flatMap.1 (g3.mem_iff.1 h2);refine h.vs.sep k k' ?_ (lM.there k hk).1 (g5 k' kH).1 b' oz D8
      rintro rfl
      rcases abF.1 kH with e|e
      . exact HY (e ▸ hk)
      . exact hnf k hk e
     have kD:∀ b',b'≠b→(w.setRow b (spliced D (o'+i*e'.size+off) (a.eval y).cells.toList)).heap[b']? =w.heap[b']? :=λb' dV=>setRow_other w b b' _ dV;rw [k5,l3] at oS tZ;have hnb:b ∉ p++(f1++fm++f2)++q:=(acu.1 oS).1;have tX:∀ b'∈p++(f1++fm++f2)++q,(w.setRow b (spliced D (o'+i*e'.size+off) (a.eval y).cells.toList)).heap[b']? =w.heap[b']? :=λb' b8=>kD b' λe=>hnb (e ▸ b8);obtain ⟨x',hx1,LM⟩:=l5 c.fz (w.setRow b (spliced D (o'+i*e'.size+off) (a.eval y).cells.toList)) (a.eval y).cells.toList yy.1 fy (Fz.le_refl _)
      (λb' b8=>tX b' (by simp at b8 ⊢; rcases b8 with h|h<;>simp [h])) (Ty.cR ty hfy λb' b8=>kD b' λe=>tZ b' b8 (by simp [e]))
     rw [Br] at hx1;cases hx1;have hcw:aE (w.setRow b (spliced D (o'+i*e'.size+off) (a.eval y).cells.toList)) b (o'+i*e'.size) e'.size=pre++(a.eval y).cells.toList++post:=by
      rw [iY k2 (by omega) (by omega),l1,hvl, ← l2];simp [← hml]
     have dp:=k7 c.fz (w.setRow b (spliced D (o'+i*e'.size+off) (a.eval y).cells.toList)) z' (f1++fy++f2) _ (Fz.le_refl _) (setRow_heap w b D _ T _ k2) (cD (by omega))
      (λj hj=>by rw [fu (by omega),aa3];rw [acg] at hj;omega)
      (λb' b8=>tX b' (by simp at b8 ⊢; rcases b8 with h|h<;>simp [h])) (λb8=>hnb (by simp at b8 ⊢; rcases b8 with h|h<;>simp [h])) (by rw [hcw];exact LM)
     have HZ:(b::(p++(f1++fy++f2)++q)).Perm ((b::(p++f1++f2++q))++fy):=ug b p f1 fy f2 q;have PU:(b::(p++(f1++fm++f2)++q)).Perm ((b::(p++f1++f2++q))++fm):=ug b p f1 fm f2 q;have fq:∀ b'∈b::(p++f1++f2++q),b'∈b::(p++(f1++fm++f2)++q):=λb' b8=>PU.mem_iff.2 (abp.2 (.inl b8));have Lj:(b::(p++(f1++fy++f2)++q)).Nodup:=HZ.nodup_iff.2 (by
      rw [aca];refine ⟨(aca.1 (PU.nodup_iff.1 oS)).1,lM.nodup,λb1 h1 b2 h2 e=> ?_⟩;subst e;exact tZ b1 h2 (fq b1 h1))
     have FX:∀ b'∈b::(p++(f1++fy++f2)++q),(∃ k∈id::bz vr,s.v k≠none∧b'∈fp k)∨b'∈fy:=by
      intro b' b8;rcases abp.1 (HZ.mem_iff.1 b8) with h1|h1
      . left
        have:b'∈f:=by rw [k5,l3];exact fq b' h1
        obtain ⟨k,hk,oz⟩:=List.mem_flatMap.1 (g3.mem_iff.1 this);exact ⟨k,hk,(g5 k hk).1,oz⟩
      . exact .inr h1
     have PM:∀ b'∈b::(p++(f1++fy++f2)++q),b'<c.w0.heap.size→∀ j,c.M b' j:=by
      intro b' b8 bS;rcases abp.1 (HZ.mem_iff.1 b8) with h1|h1
      . exact g6 b' (by rw [k5,l3];exact fq b' h1) bS
      . exact lM.may b' h1 bS
     have py:=h.vs.kN (μ':=μ) (w':=w.setRow b (spliced D (o'+i*e'.size+off) (a.eval y).cells.toList)) h.ev (bz vr++yy.2) id (.arr e' (xs.set i z')) _ (λ_ _ _ _ _=>⟨rfl,λ_ _=>rfl⟩)
      (λk hk dV hnr b' b8=>kD b' (λe=>by
       subst e;obtain ⟨k',kH,D8⟩:=List.mem_flatMap.1 (g3.mem_iff.1 zO);refine h.vs.sep k k' ?_ hk (g5 k' kH).1 b' b8 D8
       rintro rfl
       rcases abF.1 kH with e|e
       . exact dV e
       . exact hnr (abp.2 (.inl e)))) (by simp)
      ⟨some ⟨b,o',none⟩,cap,by simpa using hm,by simpa using dp,PM⟩ Lj
      (λb' b8=>by
       rcases FX b' b8 with ⟨k,hk,h1,h2⟩|h1
       . rcases abF.1 hk with e|e
         . exact .inr ⟨k, .inl e,h1,h2⟩
         . exact .inr ⟨k, .inr (abp.2 (.inl e)),h1,h2⟩
       . obtain ⟨k,hk,oz⟩:=lM.mem b' h1
         exact .inr ⟨k,by grind,(lM.there k hk).1,oz⟩)
     refine ub gP ⟨λ_ _=>rfl,by simp [an],py, ?_⟩;refine h.ev.setRow k2 (λhs=> ?_) (cD (by omega)) (by grind);obtain ⟨k',kH,D8⟩:=List.mem_flatMap.1 (g3.mem_iff.1 zO);exact h.vs.iQ k' (g5 k' kH).1 b D8 hs
 . cases hr
end
end
section
open Go
theorem zQ (off:Nat):∀ (l:List Value) (k:Nat) (A:Array Value),off+k+l.length≤A.size→
  (l.zipIdx k).foldl (λcs (x:Value×Nat)=>cs.setIfInBounds (off+x.2) x.1) A=spliced A (off+k) l
 |[],k,A,_=>by
  simp [spliced]
 |x::l,k,A,h=>by
  simp only [aby] at h;rw [List.zipIdx_cons,acn,show k+1=k+1 from rfl,zQ off l (k+1) _ (by simp;omega)];apply Array.ext_getElem?;intro j;rw [fu (by simp;omega),fu (by simp;omega)];grind
theorem F9 (off:Nat) (v:Array Value) (A:Array Value) (h:off+v.size≤A.size):
  v.zipIdx.foldl (λcs (x:Value×Nat)=>cs.setIfInBounds (off+x.2) x.1) A=spliced A off v.toList:=by
 have:=zQ off v.toList 0 A (by simpa using h);rw [ae9] at this;grind [Array.toList_zipIdx]
theorem Ga {place:Nat→Option (Nat×Nat)} {A:Array Value} {i:Nat} {v:Value} {r:List (Nat×Value)} {off size:Nat} (hp:place i=some (off,size)) (hv:v.cells.size=size) (h:off+size≤A.size):
  Instr.fill place A ((i,v)::r)=Instr.fill place (spliced A off v.cells.toList) r:=by
 rw [Instr.fill];simp only [hp];rw [aa3 (by simp [hv];omega), ← F9 off v.cells A (by omega)]
theorem aI.AR.places {P:Program}:(ts:aI)→∀ {fs:List Field} {o:Nat},ts.AR P fs o→
  ∃ places,fs.mapM (λf=>(P.info? f.type).map λi=>(f.offset,i.size))=some places∧∀ k r,ts.offset k=some r→places[k]? =some (o+r.1,r.2.size)
 | .nil,fs,o,h=>by
   simp only [aI.AR] at h;subst h;exact ⟨[],by simp,λk r hk=>by simp [aI.offset] at hk⟩
 | .cons t ts,fs,o,h=>by
   simp only [aI.AR] at h;obtain ⟨f,q,rfl,h1,h2,h3⟩:=h;obtain ⟨places,hp,hk⟩:=aI.AR.places ts h3;obtain ⟨i,z,hi,hs,_⟩:=h2.base;refine ⟨(f.offset,i.size)::places,by simp [List.mapM_cons,hi,hp], ?_⟩;intro k r hr;cases k with
   |zero=>
    simp only [aI.offset,acv] at hr;subst hr;simp [h1,hs]
   |succ k=>
    simp only [aI.offset] at hr;obtain ⟨r',FO,rfl⟩:=Option.map_eq_some_iff.1 hr;grind
section
variable {c:Ctx} {μ:Nat→Loc} {fp:Nat→List Nat} {s:kM} {n:Nat} {o:Oper} {a:Act} {w:World} {r:gY} {C:Cx} {E:Env}
theorem Ty.PV {P:Program} {t:Ty} {tid:TypeId} (h:t.Ok P tid) {k:Nat} {r:Nat×Ty} (hk:t.field k=some r):r.1+r.2.size≤t.size:=by
 obtain ⟨_,_,_,_,_,_,h⟩:=h.field hk;exact h
theorem Gb {P:Program} {t:Ty} {tid:TypeId} (dF:t.Ok P tid) {place:Nat→Option (Nat×Nat)} (hp:∀ k r,t.field k=some r→place k=some (r.1,r.2.size)) {ev:Operand→ah} {av:Operand→Value}:
  ∀ (ps:List (Nat×Operand)) (A:Array Value) (cs cs':List ah),(∀ x∈ps,an c μ (av x.2) (ev x.2))→A.size=t.size→ai c μ A.toList cs→nT t ev ps cs=some cs'→
    ∃ A',Instr.fill place A (ps.map λx=>(x.1,av x.2))=some A'∧ai c μ A'.toList cs'
 |[],A,cs,cs',_,_,hr,h=>by
  simp only [nT,acv] at h;subst h;exact ⟨A,rfl,hr⟩
 |(k,x)::ps,A,cs,cs',x4,hz,hr,h=>by
  simp only [nT] at h;split at h
  . rename_i off u hf
    split at h
    . rename_i hc
      have hx:=(x4 (k,x) (by simp)).cells hc.2;have hl:=hx.length;have hle:=Ty.PV dF hf;have uj:(av x).cells.size=u.size:=by grind
      simp only at hle;rw [acd,Ga (hp k _ hf) uj (by simp only;omega)];refine Gb dF hp ps _ _ _ (by grind) ?_ ?_ h
      . grind [cD]
      grind [mi,spliced]
    . cases h
  . cases h
variable (h:il c μ fp s n a w)
include h
theorem il.zR (x:Operand):∀ id∈(eT s.t x).ids,s.k id:=by
 intro id hi;cases x with
 |tmp j=>exact h.known.t j id hi
 |const v=>simp only [eT,ofValue] at hi;grind [ah.ids]
 |func f=>grind [eT,ah.ids,ah.bC]
 |global g=>grind [eT,ah.ids]
theorem Lk (hC:iF C c.P) {t:TypeId} {ps:Array (Nat×Operand)} (ho:o.op= .build t ps) {fr:Nat}
  (iI:∀ id,fr≤id→id<fr+64→¬ s.k id)
  (hr:(Out.of (C.ty t) λt=>if t.jI=true∧(t.bJ t.zero fr).2.2≤fr+64 then
   .of (nT t (eT s.t) ps.toList (t.bJ t.zero fr).1) λcs=> .ret (.agg cs,news (t.bJ t.zero fr).2.1) else .fail).eval=some r):oE c μ s o a w r:=by
 replace hr:=aK hr;obtain ⟨ty,ko,hr⟩:=hr;have dF:=hC.ty t ty ko;split at hr
 case isFalse=>cases hr
 rename_i pU;obtain ⟨pU,h64⟩:=pU;replace hr:=aK hr;obtain ⟨cs,AB,hr⟩:=hr;have hr:=aa6 hr;subst hr;obtain ⟨xb,GQ,r1,ch⟩:=h.BI ty (k:=fr) (by grind);obtain ⟨i,z,hi,hs,_,hz,QI,mv⟩:=dF.base;have x4:∀ x:Operand,an c xb (a.eval x) (eT s.t x):=λx=>an.mono _ (λid hid=>ch.agree id (h.zR x id hid)) (h.ca x);cases ty with
 |st fs=>
  have PW:=dF;simp only [Ty.Ok] at PW;obtain ⟨_,fields,hu,hf⟩:=PW;obtain ⟨places,hp,hk⟩:=aI.AR.places fs hf;have D5:z.cells.size=(Ty.st fs).size:=by grind [Ty.dO]
  obtain ⟨A',hA,rb⟩:=Gb (c:=c) (μ:=xb) dF (place:=λi=>places.toArray[i]?) (by grind [Ty.field]) (ev:=eT s.t) (av:=a.eval) ps.toList z.cells _ cs (λx _=>x4 x.2) D5 (by grind) AB;have hb:c.P.built t ((ps.map λ(i,x)=>(i,a.eval x)).toList)=some A':=by grind [Program.built,Array.toList_map]
  have gP:=run_build (P:=c.P) w t _ A' hb;refine dc (v':= .agg A') (by simp [execOp,ho,gP]) ⟨ch.agree, ?_,ch.rel,h.ev⟩;simp only [an];exact ⟨A',rfl,rb⟩
 |_=>grind [Ty.jI]
end
end
section
open Go
variable {z:Fz}
def Items (z:Fz) (w:World) (e:Ty) (cs:List Value) (xs:List e.D) (fps:List (List Nat)):Prop:=
 fps.length=xs.length∧∀ (i:Nat) (y:e.D) (f:List Nat),xs[i]? =some y→fps[i]? =some f→e.ar z w ((cs.drop (i*e.size)).take e.size) y f
theorem Gc {fps:List (List Nat)} {k:Nat} {f:List Nat} (hk:k<fps.length) (h:fps.flatten.Nodup) (hf:f.Nodup) (hd:∀ b∈f,b ∉ fps.flatten):
  (fps.set k f).flatten.Nodup∧∀ b∈(fps.set k f).flatten,b∈fps.flatten∨b∈f:=by
 have e1:=AP fps k hk;have e2:(fps.set k f).flatten=(fps.take k).flatten++f++(fps.drop (k+1)).flatten:=by
  rw [List.set_eq_take_append_cons_drop,aa5 hk];simp
 rw [e1] at h hd;rw [e2,e1];constructor
 . rw [aca] at h ⊢
   grind
 grind
theorem AZ {A:Array Value} {sz k i n:Nat} {vs:List Value} (hv:vs.length=sz) (hA:A.size=n*sz) (hk:k<n) (hi:i<n):
  ((spliced A (k*sz) vs).toList.drop (i*sz)).take sz=if i=k then vs else (A.toList.drop (i*sz)).take sz:=by
 have Ct:(k+1)*sz≤n*sz:=abX _ hk;have jN:(i+1)*sz≤n*sz:=abX _ hi;rw [acg] at Ct jN;apply acB;intro j;by_cases hj:j<sz
 . rw [ab9 hj,ab8,acm,fu (by omega)]
   by_cases e:i=k
   . grind
   . rw [aa3 e,ab9 hj,ab8,acm,acm]
     refine aa3 ?_;intro ⟨h1,h2⟩;rcases acH i k with h|h
     . have:=abX sz (show i+1≤k from h)
       grind
     . have:=abX sz (show k+1≤i by omega)
       grind
 grind
section
variable {c:Ctx} {μ:Nat→Loc} {fp:Nat→List Nat} {s:kM} {n:Nat} {o:Oper} {a:Act} {w:World} {r:gY} {C:Cx} {E:Env}
theorem zS {e:Ty} {xs:List e.D} {fps:List (List Nat)} {A:Array Value} {T:TypeId} {cap:Nat} (hi:Items z w e A.toList xs fps) (hc:xs.length≤cap∧xs.length≤aM) (hA:cap*e.size≤A.size) (bS:∀ b∈fps.flatten,b<w.heap.size):
  (Ty.sl e).ar z (w.alloc (.cells A T)) [.slice (some ⟨w.heap.size,0,none⟩) xs.length cap] xs (w.heap.size::fps.flatten):=by
 simp only [Ty.ar];refine ⟨_,cap,rfl,hc, .inr ⟨w.heap.size,0,A,T,fps,rfl,heap_alloc_new w _,by omega,hi.1,rfl, ?_⟩⟩;intro i y f hy hf;have hy:xs[i]? =some y:=hy;have hf:fps[i]? =some f:=hf;have h1:=hi.2 i y f hy hf;rw [ck (heap_alloc_new w _),acw];grind [Ty.cR,heap_alloc_old,List.mem_flatten,List.mem_of_getElem?]
theorem uk (hv:cJ c μ fp s.v w) (hE:∀ id x,E id=some x→s.v id=some x) {e:Ty} {ev:Operand→ah} {av:Operand→Value}:
  ∀ (ps:List (Nat×Operand)) (A:Array Value) (xs:List e.D) (fps:List (List Nat)) (g:List Nat) (r:List e.D×List Nat),(∀ x∈ps,an c μ (av x.2) (ev x.2))→A.size=xs.length*e.size→
    Items c.fz w e A.toList xs fps→kC c fp s.v E g fps.flatten→jJ E e ev ps xs g=some r→
    ∃ A' afw,Instr.fill (λi=>some (i*e.size,e.size)) A (ps.map λx=>(x.1,av x.2))=some A'∧A'.size=xs.length*e.size∧r.1.length=xs.length∧Items c.fz w e A'.toList r.1 afw∧kC c fp s.v E r.2 afw.flatten
 |[],A,xs,fps,g,r,_,hz,hi,hg,h=>by
  simp only [jJ,acv] at h;subst h;exact ⟨A,fps,rfl,hz,rfl,hi,hg⟩
 |(k,x)::ps,A,xs,fps,g,r,x4,hz,hi,hg,h=>by
  simp only [jJ] at h;split at h
  . cases h
  rename_i BL;simp only [not_or] at BL;obtain ⟨hkl,jS⟩:=BL;have hk:k<xs.length:=by omega
  have jS:(ev x).cells.all ah.bs=true:=zP jS;obtain ⟨y,hy,h⟩:=Option.bind_eq_some_iff.1 h;split at h
  . cases h
  rename_i Ll;have hvx:=(x4 (k,x) (by simp)).cells jS;obtain ⟨f,hf,wW⟩:=wI hv hE hvx hy;have hl:=Ty.eS e hf;have jN:(k+1)*e.size≤xs.length*e.size:=abX _ hk;rw [acg] at jN;have aky:∀ i∈y.2,i ∉ g:=by grind
  have tZ:∀ b∈f,b ∉ fps.flatten:=λb h1 h2=>by
   obtain ⟨i1,hi1,GK⟩:=wW.mem b h1;obtain ⟨i2,hi2,Lg⟩:=hg.mem b h2;exact hv.sep i1 i2 (by grind) (wW.there i1 hi1).1 (hg.there i2 hi2).1 b GK Lg
  obtain ⟨n1,n2⟩:=Gc (f:=f) (by rw [hi.1];exact hk) hg.nodup wW.nodup tZ;rw [acd,Ga (off:=k*e.size) (size:=e.size) rfl (by grind) (by omega)];have:=uk hv hE ps (spliced A (k*e.size) (av x).cells.toList) (xs.set k y.1) (fps.set k f) (g++y.2) r (λz hz=>x4 z (by simp [hz]))
   (by grind [cD,List.length_set])
   ⟨by simp [hi.1],λi z f' Br AE=>by
    have Cz:i<xs.length:=by grind
    rw [AZ hl hz hk Cz];by_cases e:i=k
    . grind
    . rw [aa3 e]
      rw [List.getElem?_set_ne (Ne.symm e)] at Br AE;exact hi.2 i z f' Br AE⟩
   ⟨λb hb=>by
    rcases n2 b hb with hb|hb
    . obtain ⟨i,hi,hb⟩:=hg.mem b hb;grind
    . obtain ⟨i,hi,hb⟩:=wW.mem b hb;grind,n1,
    λi hi=>by
     rcases abp.1 hi with hi|hi
     . exact hg.there i hi
     . exact wW.there i hi,
    λb hb bS j=>by
     rcases n2 b hb with hb|hb
     . exact hg.may b hb bS j
     . exact wW.may b hb bS j⟩ h
  grind
theorem wK {zf:Fz} {e:Ty} {z:Array Value} (hz:z.toList=e.zeroV) (n:Nat):Items zf w e (madeCells z (n*e.size)).toList (List.replicate n e.zero) (List.replicate n []):=by
 refine ⟨by simp,λi y f hy hf=> ?_⟩;have hi:i<n:=by grind
 rw [acK,aa5 hi] at hy hf;cases hy;cases hf;have Tz:e.zeroV.length=e.size:=Ty.dO e;have D5:z.size=e.size:=by grind
 have jN:(i+1)*e.size≤n*e.size:=abX _ hi;rw [acg] at jN;have:((madeCells z (n*e.size)).toList.drop (i*e.size)).take e.size=e.zeroV:=by
  apply acB;intro k;by_cases hk:k<e.size
  . rw [ab9 hk,ab8,acm]
    have aiT:(i*e.size+k) % z.size=k:=by grind [Nat.add_comm,Nat.add_mul_mod_self_right,Nat.mod_eq_of_lt]
    rw [← hz,acm];simp only [madeCells];grind
  grind
 grind [Ty.jn]
variable (h:il c μ fp s n a w)
include h
theorem zU (hC:iF C c.P) (hE:∀ id x,E id=some x→s.v id=some x) {t:TypeId} {m:Nat} {ps:Array (Nat×Operand)} (ho:o.op= .buildSlice t m ps) {fr:Nat} (iI:¬ s.k fr)
  (hr:(Out.of (C.ty t) λt=> .of (rZ t) λe=>if m*e.size≤16777216 then
   .of (jJ E e (eT s.t) ps.toList (List.replicate m e.zero) []) λy=> .ret (.cB fr none,(y.2.map λk=>(k,none))++[(fr,some (.arr e y.1))]) else .fail).eval=some r):oE c μ s o a w r:=by
 replace hr:=aK hr;obtain ⟨ty,ko,hr⟩:=hr;replace hr:=aK hr;obtain ⟨e,he,hr⟩:=hr;have ko:C.ty t=some (.sl e):=qR he ▸ ko;obtain ⟨eid,hu,dF⟩:=(hC.ty t _ ko).sl;split at hr
 case isFalse=>cases hr
 rename_i hm;replace hr:=aK hr;obtain ⟨y,hy,hr⟩:=hr;have hr:=aa6 hr;subst hr;obtain ⟨i,z,hi,hs,hb,hz,QI,mv⟩:=dF.base;have Tz:e.zeroV.length=e.size:=Ty.dO e;obtain ⟨A',fps,hA,hAs,hyl,hit,hg⟩:=uk (av:=a.eval) h.vs hE ps.toList (madeCells z.cells (m*e.size)) _ (List.replicate m []) [] y (λx _=>h.ca x.2) (by rw [size_madeCells,afT]) (wK QI m)
  ⟨by simp,by simp,by simp,by simp⟩ hy
 simp only [afT] at hAs hyl;have bS:∀ b∈fps.flatten,b<w.heap.size:=λb hb=>by
  obtain ⟨k,hk,hb⟩:=hg.mem b hb;exact h.vs.lt k (hg.there k hk).1 b hb
 have gP:(execOp a.eval o).run c.P w= .ok (.value (.slice (some ⟨w.heap.size,0,none⟩) m m)) (w.alloc (.cells A' eid)):=by
  have hzr:(zeroValue eid).run c.P w= .ok z w:=by simp [zeroValue,typeInfo,hi,hz]
  have PX:Instr.fill (λi=>some (i*e.size,e.size)) ((Array.range (m*e.size)).map (z.cells[· % z.cells.size]!)) (ps.toList.map λx=>(x.1,a.eval x.2))=some A':=hA;by_cases h0:m*e.size=0
  . have hm0:m=0:=by grind [Nat.mul_eq_zero]
    subst hm0;have PX:Instr.fill (λi=>some (i*e.size,e.size)) ((Array.range 0).map λ_=>default) (ps.toList.map λx=>(x.1,a.eval x.2))=some A':=by grind
    simp [execOp,ho,Instr.buildSlice,run_underlying hu,dF.kk,PX,newRow]
  . have:¬ (16777216<m*e.size):=by omega
    simp [execOp,ho,Instr.buildSlice,run_underlying hu,dF.kk,this,h0,hzr,PX,newRow]
 have rb:=zS (T:=eid) (cap:=m) hit ⟨by omega,by unfold aM;have:m*1≤m*e.size:=Nat.mul_le_mul_left _ (by omega);omega⟩ (by omega) bS;rw [hyl] at rb;have mF:cz c (λid=>if id=fr then .qQ (some ⟨w.heap.size,0,none⟩) y.1.length m e.size else μ id) (w.alloc (.cells A' eid)) fr (w.heap.size::fps.flatten) (.arr e y.1):=by
  refine ⟨some ⟨w.heap.size,0,none⟩,m,by simp,by grind,λb hb ox=> ?_⟩;rcases abF.1 hb with rfl|hb
  . have:=h.ev.size;omega
  . exact hg.may b hb ox
 obtain ⟨q1,q2⟩:=h.new iI y.2 _ _ _ (λid hn _ b b8=>heap_alloc_old w _ b (h.vs.lt id hn b b8)) (by simp) mF
  (acu.2 ⟨by grind,hg.nodup⟩) (λb hb=>by
   rcases abF.1 hb with rfl|hb
   . simp_all
   . obtain ⟨k,hk,hb⟩:=hg.mem b hb
     exact .inr ⟨k,hk,(hg.there k hk).1,hb⟩)
 refine dc gP ⟨q1, ?_,q2,h.ev.alloc _ _⟩;grind [an]
end
end
section
open Go
variable {z:Fz}
mutual
theorem Ty.nr {w:World}:(t:Ty)→{cs:List Value}→{x:t.D}→{f:List Nat}→t.ar z w cs x f→∀ v∈cs,v.oneCell'=true
 | .bool,_,_,_,h=>by simp only [Ty.ar] at h;obtain ⟨rfl,_⟩:=h;simp [Value.oneCell']
 | .int _,_,_,_,h=>by simp only [Ty.ar] at h;obtain ⟨rfl,_⟩:=h;simp [Value.oneCell']
 | .str,_,_,_,h=>by simp only [Ty.ar] at h;obtain ⟨rfl,_⟩:=h;simp [Value.oneCell']
 | .hole,_,_,_,h=>by simp only [Ty.ar] at h;grind
 | .sl _,_,_,_,h=>by simp only [Ty.ar] at h;obtain ⟨a,cap,rfl,_⟩:=h;simp [Value.oneCell']
 | .fz _,_,_,_,h=>by simp only [Ty.ar,Ty.aN] at h;obtain ⟨⟨a,cap,rfl,_⟩,_⟩:=h;simp [Value.oneCell']
 | .st fs,_,_,_,h=>aI.nr fs (by simpa only [Ty.ar] using h)
theorem aI.nr {w:World}:(t:aI)→{cs:List Value}→{x:t.D}→{f:List Nat}→t.ar z w cs x f→∀ v∈cs,v.oneCell'=true
 | .nil,_,_,_,h=>by simp only [aI.ar] at h;obtain ⟨rfl,_⟩:=h;simp
 | .cons t ts,_,_,_,h=>by
   simp only [aI.ar] at h;obtain ⟨c1,c2,f1,f2,rfl,_,h1,h2⟩:=h;intro v hv;rcases abp.1 hv with hv|hv
   . exact Ty.nr t h1 v hv
   . exact aI.nr ts h2 v hv
end
mutual
theorem Ty.pz {S:Nat→Prop} {w w':World}:(t:Ty)→{cs:List Value}→{x:t.D}→t.flat=true→t.aN S w cs x→t.ar z w' cs x []
 | .bool,_,_,_,h=>by simp only [Ty.aN] at h;simp [Ty.ar,h]
 | .int _,_,_,_,h=>by simp only [Ty.aN] at h;simp [Ty.ar,h]
 | .str,_,_,_,h=>by simp only [Ty.aN] at h;simp [Ty.ar,h]
 | .hole,_,_,_,h=>by simp only [Ty.aN] at h;simp only [Ty.ar];exact ⟨h,trivial⟩
 | .sl _,_,_,hf,_=>by simp [Ty.flat] at hf
 | .fz _,_,_,hf,_=>by simp [Ty.flat] at hf
 | .st fs,_,_,hf,h=>by simp only [Ty.ar];exact aI.pz fs hf (by simpa only [Ty.aN] using h)
theorem aI.pz {S:Nat→Prop} {w w':World}:(t:aI)→{cs:List Value}→{x:t.D}→t.flat=true→t.aN S w cs x→t.ar z w' cs x []
 | .nil,_,_,_,h=>by simp only [aI.aN] at h;simp [aI.ar,h]
 | .cons t ts,_,_,hf,h=>by
   simp only [aI.flat,aa4] at hf;simp only [aI.aN] at h;obtain ⟨c1,c2,rfl,h1,h2⟩:=h;simp only [aI.ar];exact ⟨c1,c2,[],[],rfl,rfl,Ty.pz t hf.1 h1,aI.pz ts hf.2 h2⟩
end
mutual
theorem Ty.nt {c:Ctx} {w':World}:(t:Ty)→{cs:List Value}→{x:t.D}→t.mC=true→t.aN c.S c.w0 cs x→t.ar c.fz w' cs x []
 | .bool,_,_,_,h=>by grind [Ty.aN,Ty.ar]
 | .int _,_,_,_,h=>by grind [Ty.aN,Ty.ar]
 | .str,_,_,_,h=>by grind [Ty.aN,Ty.ar]
 | .hole,_,_,_,h=>by simp_all [Ty.aN,Ty.ar]
 | .sl _,_,_,hf,_=>by grind [Ty.mC]
 | .fz e,_,_,_,h=>by simp only [Ty.ar];exact ⟨h,trivial⟩
 | .st fs,_,_,hf,h=>by simp only [Ty.ar];exact aI.nt fs (by simpa only [Ty.mC] using hf) (by simpa only [Ty.aN] using h)
theorem aI.nt {c:Ctx} {w':World}:(t:aI)→{cs:List Value}→{x:t.D}→t.mC=true→t.aN c.S c.w0 cs x→t.ar c.fz w' cs x []
 | .nil,_,_,_,h=>by grind [aI.aN,aI.ar]
 | .cons t ts,_,_,hf,h=>by
   simp only [aI.mC,aa4] at hf;simp only [aI.aN] at h;obtain ⟨c1,c2,rfl,h1,h2⟩:=h;simp only [aI.ar];exact ⟨c1,c2,[],[],rfl,rfl,Ty.nt t hf.1 h1,aI.nt ts hf.2 h2⟩
end
mutual
theorem Ty.pA {z:Fz} {w:World}:(t:Ty)→{cs:List Value}→{x:t.D}→{f:List Nat}→t.mC=true→t.ar z w cs x f→f=[]
 | .bool,_,_,_,_,h=>by grind [Ty.ar]
 | .int _,_,_,_,_,h=>by grind [Ty.ar]
 | .str,_,_,_,_,h=>by grind [Ty.ar]
 | .hole,_,_,_,_,h=>by grind [Ty.ar]
 | .sl _,_,_,_,hf,_=>by grind [Ty.mC]
 | .fz _,_,_,_,_,h=>by grind [Ty.ar]
 | .st fs,_,_,_,hf,h=>aI.pA fs (by simpa only [Ty.mC] using hf) (by simpa only [Ty.ar] using h)
theorem aI.pA {z:Fz} {w:World}:(t:aI)→{cs:List Value}→{x:t.D}→{f:List Nat}→t.mC=true→t.ar z w cs x f→f=[]
 | .nil,_,_,_,_,h=>by grind [aI.ar]
 | .cons t ts,_,_,_,hf,h=>by
   simp only [aI.mC,aa4] at hf;simp only [aI.ar] at h;obtain ⟨c1,c2,f1,f2,rfl,rfl,h1,h2⟩:=h;rw [Ty.pA t hf.1 h1,aI.pA ts hf.2 h2];rfl
end
def Src (z:Fz) (w:World) (e:Ty) (v:Value) (ys:List e.D) (gps:List (List Nat)):Prop:=
 ∃ a cap,v= .slice a ys.length cap∧gps.length=ys.length∧(ys=[]∨∃ b o,a=some ⟨b,o,none⟩∧
   ∀ (i:Nat) (y:e.D) (f:List Nat),ys[i]? =some y→gps[i]? =some f→e.ar z w (aE w b (o+i*e.size) e.size) y f)
theorem Gd {w:World} {b o n:Nat} (h:(aE w b o n).length=n) (hn:0<n):∃ C E fr,w.heap[b]? =some (.cells C E fr)∧o+n≤C.size:=by grind [aE]
theorem ka {w:World} {b o n sz i:Nat} (hi:i<n):((aE w b o (n*sz)).drop (i*sz)).take sz=aE w b (o+i*sz) sz:=by
 have jN:(i+1)*sz≤n*sz:=abX _ hi;rw [acg] at jN;unfold aE;split
 . grind [List.drop_take,List.drop_drop]
 . simp
theorem Src.cells {w:World} {e:Ty} {b o:Nat} {ys:List e.D} {gps:List (List Nat)} (hl:gps.length=ys.length) (mv:0<e.size) (dV:ys≠[])
  (h:∀ (i:Nat) (y:e.D) (f:List Nat),ys[i]? =some y→gps[i]? =some f→e.ar z w (aE w b (o+i*e.size) e.size) y f):
  ∃ C E fr,w.heap[b]? =some (.cells C E fr)∧o+ys.length*e.size≤C.size∧(aE w b o (ys.length*e.size)).length=ys.length*e.size∧
    Items z w e (aE w b o (ys.length*e.size)) ys gps∧∀ v∈aE w b o (ys.length*e.size),v.oneCell'=true:=by
 have hn:0<ys.length:=List.length_pos_iff.2 dV;have afx:=h (ys.length - 1) _ _ (aa2 (by omega)) (aa2 (by omega));have Uk:=Ty.eS e afx;obtain ⟨C,E,fr,hb,jN⟩:=Gd Uk mv;have hmul:(ys.length - 1+1)*e.size=ys.length*e.size:=by rw [Nat.sub_add_cancel hn]
 rw [acg] at hmul;have hlen:(aE w b o (ys.length*e.size)).length=ys.length*e.size:=by rw [ck hb];simp;omega
 refine ⟨C,E,fr,hb,by omega,hlen,⟨hl,λi y f hy hf=> ?_⟩,λv hv=> ?_⟩
 . rw [ka (List.getElem?_eq_some_iff.1 hy).1];exact h i y f hy hf
 . obtain ⟨j,hj,hvj⟩:=adf hv
   rw [hlen] at hj;have hi:j / e.size<ys.length:=(Nat.div_lt_iff_lt_mul mv).2 hj;have hr:=h (j / e.size) _ _ (aa2 hi) (aa2 (by omega));refine Ty.nr e hr v ?_;rw [← ka (n:=ys.length) hi,List.mem_iff_getElem?];refine ⟨j % e.size, ?_⟩;rw [ab9 (Nat.mod_lt _ mv),ab8,Nat.div_add_mod', ← hvj];exact aa2 _
theorem um {w:World} {e:Ty} {cs ds:List Value} {xs ys:List e.D} {fps gps:List (List Nat)} (h:Items z w e cs xs fps) (h':Items z w e ds ys gps) (hl:cs.length=xs.length*e.size) (hl':ds.length=ys.length*e.size) (rest:List Value):
  Items z w e (cs++ds++rest) (xs++ys) (fps++gps):=by
 refine ⟨by simp [h.1,h'.1],λi y f hy hf=> ?_⟩;rcases acH i xs.length with hi|hi
 . rw [ady hi] at hy
   rw [ady (by rw [h.1];exact hi)] at hf;have jN:(i+1)*e.size≤xs.length*e.size:=abX _ hi;rw [acg] at jN;have:=h.2 i y f hy hf;rw [acj,List.drop_append_of_le_length (by omega),List.take_append_of_le_length (by simp;omega)];exact this
 . rw [acT hi] at hy
   rw [acT (by rw [h.1];exact hi),h.1] at hf;have hj:i - xs.length<ys.length:=(List.getElem?_eq_some_iff.1 hy).1;have jN:(i - xs.length+1)*e.size≤ys.length*e.size:=abX _ hj;rw [acg] at jN;have:=h'.2 (i - xs.length) y f hy hf;have e1:i*e.size=cs.length+(i - xs.length)*e.size:=by rw [hl, ← acg];congr 1;omega
   rw [acj,e1,List.drop_append,List.drop_of_length_le (by omega),ab0,show cs.length+(i - xs.length)*e.size - cs.length=(i - xs.length)*e.size by omega,
    List.drop_append_of_le_length (by omega),List.take_append_of_le_length (by simp;omega)]
   exact this
theorem Items.congr {w w':World} {e:Ty} {cs:List Value} {xs:List e.D} {fps:List (List Nat)} (h:Items z w e cs xs fps) (hs:∀ b∈fps.flatten,w'.heap[b]? =w.heap[b]?):Items z w' e cs xs fps:=
 ⟨h.1,λi y f hy hf=>Ty.cR e (h.2 i y f hy hf) λb hb=>hs b (af6.2 ⟨f,acx hf,hb⟩)⟩
theorem Ge {w:World} {e:Ty} {xs:List e.D} {fps:List (List Nat)} {C:Array Value} {T:TypeId} {b o cap:Nat} (hb:w.heap[b]? =some (.cells C T (0,0))) (hc:xs.length≤cap∧xs.length≤aM) (hC:o+cap*e.size≤C.size)
  (hi:Items z w e ((C.toList.drop o).take (xs.length*e.size)) xs fps):(Ty.sl e).ar z w [.slice (some ⟨b,o,none⟩) xs.length cap] xs (b::fps.flatten):=by
 simp only [Ty.ar];refine ⟨_,cap,rfl,hc, .inr ⟨b,o,C,T,fps,rfl,hb,hC,hi.1,rfl, ?_⟩⟩;intro i y f hy hf;have hy:xs[i]? =some y:=hy;have hf:fps[i]? =some f:=hf;have Cz:i<xs.length:=(List.getElem?_eq_some_iff.1 hy).1;have:=hi.2 i y f hy hf;rw [← ck hb,ka Cz] at this;exact this
end
section
open Go
variable {z:Fz}
section
variable {P:Program} {w:World}
theorem Gf (t ty e:TypeId) (i:TypeInfo) (ht:P.underlying t=some (.slice e)) (hi:P.info? e=some i)
  (g o cX fe:Nat) (cur:Array Value) (T:TypeId) (hg:w.heap[g]? =some (.cells cur T (0,0)))
  (a:Addr) (m c:Nat) (news:List Value) (hl:news.length=m*i.size) (J6:∀ j u,news[j]? =some u→w.cell? (a.add j)=some u) (h1:∀ u∈news,u.oneCell'=true)
  (rz:cX+m≤fe) (xc:o+cX*i.size+news.length≤cur.size):
  (Builtin.append_ #[t,t] ty #[.slice (some ⟨g,o,none⟩) cX fe, .slice (some a) m c]).run P w=
   .ok (.slice (some ⟨g,o,none⟩) (cX+m) fe) (w.setRow g (spliced cur (o+cX*i.size) news)):=by
 have hf:=run_firstCells_some (P:=P) w i.size m a m c news hl J6;have pU:=run_storeCells_at P g (o+cX*i.size) T news 0 cur w hg (by simpa using xc) h1;simp only [ae9] at pU;simp [Builtin.append_,run_underlying ht,sizeOf,typeInfo,hi,Builtin.lenOf,rz,hf,Addr.add_lit,pU,spliced]
theorem Gg (t ty e:TypeId) (i:TypeInfo) (ht:P.underlying t=some (.slice e)) (hi:P.info? e=some i) (s a:Option Addr) (cX fe c:Nat) (h:cX≤fe):
  (Builtin.append_ #[t,t] ty #[.slice s cX fe, .slice a 0 c]).run P w= .ok (.slice s cX fe) w:=by
 cases s<;>cases a<;>simp [Builtin.append_,run_underlying ht,sizeOf,typeInfo,hi,Builtin.lenOf,h,Builtin.firstCells,loadCells,loadCellsFrom,storeCells]
theorem D9 (t ty e:TypeId) (i:TypeInfo) (z:Value) (ht:P.underlying t=some (.slice e)) (hi:P.info? e=some i) (hz:i.zero=some z) (s:Option Addr)
  (a:Addr) (n c:Nat) (news:List Value) (hl:news.length=n*i.size) (J6:∀ j v,news[j]? =some v→w.cell? (a.add j)=some v)
  (h0:0<n) (h63:(n:Int)≤9223372036854775807) (h48:n*i.bytes≤281474976710656):
  (Builtin.append_ #[t,t] ty #[.slice s 0 0, .slice (some a) n c]).run P w=
   .ok (.slice (some ⟨w.heap.size,0,none⟩) n (grownCap w n 0 e)) (w.drew.alloc (.cells (news.toArray++Builtin.zeroCells z.cells (grownCap w n 0 e - n)) e)):=by
 have hn:n≠0:=by omega
 have abH:¬ (9223372036854775807<(n:Int)):=by omega
 have abI:¬ (281474976710656<Builtin.nextslicecap n 0*i.bytes):=by grind [nextslicecap_zero]
 have hf:=run_firstCells_some (P:=P) w.drew i.size n a n c news hl (by simp_all);have hs:(Builtin.firstCells i.size 0 (.slice s 0 0)).run P w.drew= .ok #[] w.drew:=by
  cases s<;>simp [Builtin.firstCells,loadCells,loadCellsFrom]
 simp [Builtin.append_,run_underlying ht,sizeOf,typeInfo,zeroValue,hi,hz,Builtin.lenOf,hn,abH,abI,Question.forced,hs,hf,newRow,grownCap]
structure pB (c:Ctx) (w:World) (e:Ty) (zs:List e.D) (fx gp:List Nat) (v':Value) (w':World) (f:List Nat):Prop where
 rep:(Ty.sl e).ar c.fz w' [v'] zs f
 nodup:f.Nodup
 from_:∀ b∈f,(w.heap.size≤b∧b<w'.heap.size)∨b∈fx∨b∈gp
 size:w.heap.size≤w'.heap.size
 heap:∀ b,b ∉ fx→b<w.heap.size→w'.heap[b]? =w.heap[b]?
 ev:Ev c w→(∀ b∈fx,¬ c.S b)→(∀ b∈fx,b<c.w0.heap.size→∀ j,c.M b j)→Ev c w'
theorem pC (z:Array Value) (n:Nat):(Builtin.zeroCells z n).size=n*z.size:=by simp [Builtin.zeroCells]
theorem wL (c:Ctx) {eid:TypeId} {e:Ty} {i:TypeInfo} {z:Value} (hb:i.bytes≤1024) (D5:z.cells.size=e.size) {vx:Value} {xs ys:List e.D} {fx:List Nat} {gps:List (List Nat)}
  (hx:(Ty.sl e).ar c.fz w [vx] xs fx) (PY:fx.Nodup) (hg:gps.flatten.Nodup) (hd:∀ b∈gps.flatten,b ∉ fx) (hgl:∀ b∈gps.flatten,b<w.heap.size) (hn:xs.length+ys.length≤bA)
  {news:List Value} (q3:news.length=ys.length*e.size) (q4:Items c.fz w e news ys gps) {R:Value→Value→World→Prop}
  (R0:∀ s:Option Addr,(ys.length:Int)≤9223372036854775807→ys.length*i.bytes≤281474976710656→R (.slice s 0 0) (.slice (some ⟨w.heap.size,0,none⟩) ys.length (grownCap w ys.length 0 eid)) (w.drew.alloc (.cells (news.toArray++Builtin.zeroCells z.cells (grownCap w ys.length 0 eid - ys.length)) eid)))
  (afA:∀ (g o cX fe:Nat) (cur:Array Value) (T:TypeId),w.heap[g]? =some (.cells cur T (0,0))→cX+ys.length≤fe→o+cX*e.size+news.length≤cur.size→
   R (.slice (some ⟨g,o,none⟩) cX fe) (.slice (some ⟨g,o,none⟩) (cX+ys.length) fe) (w.setRow g (spliced cur (o+cX*e.size) news)))
  (afB:∀ (b:Addr) (cX fe:Nat) (A0:List Value),A0.length=cX*e.size→(∀ j v,A0[j]? =some v→w.cell? (b.add j)=some v)→fe<cX+ys.length→((cX+ys.length:Nat):Int)≤9223372036854775807→
   Builtin.nextslicecap (cX+ys.length) fe*i.bytes≤281474976710656→R (.slice (some b) cX fe) (.slice (some ⟨w.heap.size,0,none⟩) (cX+ys.length) (grownCap w (cX+ys.length) fe eid))
    (w.drew.alloc (.cells (A0.toArray++news.toArray++Builtin.zeroCells z.cells (grownCap w (cX+ys.length) fe eid - (cX+ys.length))) eid))):
  ∃ v' w' f,R vx v' w'∧pB c w e (xs++ys) fx gps.flatten v' w' f:=by
 simp only [Ty.ar] at hx;have xM:(Ty.sl e).ar c.fz w [vx] xs fx:=by simp only [Ty.ar];exact hx
 obtain ⟨ax,cap,ex,⟨oF,_⟩,hx⟩:=hx;obtain rfl:vx= .slice ax xs.length cap:=by simpa using ex
 have afC:∀ b∈fx,b<w.heap.size:=Ty.gS _ xM;unfold bA at hn;have D4:∀ k,k≤xs.length+ys.length→k*i.bytes≤140737488355328:=λk hk=>by
  have:k*i.bytes≤68719476736*1024:=Nat.mul_le_mul (by omega) hb;omega
 -- what a new row is
 have grown:∀ (wH:List Value) (fps:List (List Nat)) (C0:Nat),wH.length=xs.length*e.size→Items c.fz w e wH xs fps→fps.flatten.Nodup→(∀ b∈fps.flatten,b∈fx)→
   pB c w e (xs++ys) fx gps.flatten (.slice (some ⟨w.heap.size,0,none⟩) (xs.length+ys.length) (grownCap w (xs.length+ys.length) C0 eid))
    (w.drew.alloc (.cells (wH.toArray++news.toArray++Builtin.zeroCells z.cells (grownCap w (xs.length+ys.length) C0 eid - (xs.length+ys.length))) eid)) (w.heap.size::(fps++gps).flatten):=by
  intro wH fps C0 ho hio Ro fq;have GP:=grownCap_ge w (xs.length+ys.length) C0 eid;have hit:=um hio q4 ho q3 (Builtin.zeroCells z.cells (grownCap w (xs.length+ys.length) C0 eid - (xs.length+ys.length))).toList;have bS:∀ b∈(fps++gps).flatten,b<w.heap.size:=λb hb=>by
   rw [afs,abp] at hb;rcases hb with hb|hb
   . exact afC b (fq b hb)
   . exact hgl b hb
  refine ⟨?_, ?_, ?_,by simp, ?_,λh _ _=>h.drew.alloc _ _⟩
  . have:=zS (w:=w.drew) (T:=eid) (cap:=grownCap w (xs.length+ys.length) C0 eid) (A:=wH.toArray++news.toArray++Builtin.zeroCells z.cells (grownCap w (xs.length+ys.length) C0 eid - (xs.length+ys.length)))
     (xs:=xs++ys) (fps:=fps++gps) (e:=e) (Items.congr (w:=w) (by simpa using hit) (λ_ _=>rfl)) ⟨by simpa using GP,by rw [abz];exact abG hn (by decide)⟩ (by
      simp only [Array.size_append,List.size_toArray,pC,D5,ho,q3, ← acg];exact abX _ (by omega)) bS
    simpa using this
  . rw [acu,afs,aca]
    refine ⟨λh=>Nat.lt_irrefl _ (bS _ (by rw [afs];exact h)),Ro,hg,λx h1 y h2 e=>hd y h2 (fq y (e ▸ h1))⟩
  . intro b hb
    rcases abF.1 hb with rfl|hb
    . exact .inl ⟨abE _,by simp⟩
    . rw [afs,abp] at hb
      rcases hb with hb|hb
      . exact .inr (.inl (fq b hb))
      . exact .inr (.inr hb)
  . intro b _ hb
    exact heap_alloc_old w.drew _ b hb
 rcases hx with ⟨rfl,rfl⟩|⟨b,o,C,T,fps,rfl,Lm,hC,uH,rfl,hxi⟩
 . have hxn:xs=[]:=acp (by simpa using oF)
   subst hxn;have hr:=R0 ax (by simp at hn;omega) (by have:=D4 ys.length (by simp);omega);have:=grown [] [] 0 (by simp) ⟨rfl,by simp⟩ (by simp) (by simp);simp only [abA,acw,ab0,Array.empty_append] at this;exact ⟨_,_,_,hr,this⟩
 . have hTe:Items c.fz w e ((C.toList.drop o).take (xs.length*e.size)) xs fps:=by
    refine ⟨uH,λk y f hy hf=> ?_⟩;have:=hxi k y f hy hf;rwa [← ck Lm,ka (List.getElem?_eq_some_iff.1 hy).1]
   have hxc:xs.length*e.size≤cap*e.size:=abX _ oF;have hxl:((C.toList.drop o).take (xs.length*e.size)).length=xs.length*e.size:=by simp;omega
   have zO:b ∉ fps.flatten:=(acu.1 PY).1;by_cases rz:xs.length+ys.length≤cap
   . have hrc:(xs.length+ys.length)*e.size≤cap*e.size:=abX _ rz
     rw [acg] at hrc;have hr:=afA b o xs.length cap C T Lm rz (by omega);have kD:∀ b',b'≠b→(w.setRow b (spliced C (o+xs.length*e.size) news)).heap[b']? =w.heap[b']? :=λb' dV=>setRow_other w b b' _ dV;have hgb:∀ b'∈gps.flatten,b'≠b:=λb' b8 e=>hd b' b8 (by simp [e]);have Uf:∀ b'∈fps.flatten,b'≠b:=λb' b8 e=>zO (e ▸ b8);have hit:=um hTe q4 hxl q3 [];have ai2:(((spliced C (o+xs.length*e.size) news).toList.drop o).take ((xs++ys).length*e.size))=(C.toList.drop o).take (xs.length*e.size)++news++[]:=by
      have:=iY (w:=w) (B:=b) (o':=o) (k:=xs.length*e.size) (n:=(xs.length+ys.length)*e.size) (vs:=news) Lm (by rw [q3,acg];omega) (by rw [acg];omega);rw [ck (setRow_heap w b C _ T _ Lm),ck Lm] at this;rw [abz,this,acG,q3,List.drop_of_length_le (abG (List.length_take_le _ _) (by rw [acg];exact abE _)),acG,List.take_take,Nat.min_eq_left (by rw [acg];omega)]
     refine ⟨_,_,b::(fps++gps).flatten,hr,⟨?_, ?_, ?_,by simp, ?_, ?_⟩⟩
     . have:=Ge (w:=w.setRow b (spliced C (o+xs.length*e.size) news)) (e:=e) (xs:=xs++ys) (fps:=fps++gps) (cap:=cap) (o:=o) (setRow_heap w b C _ T _ Lm) (by grind)
        (by grind [cD]) (by
         rw [ai2];refine Items.congr (w:=w) hit λb' b8=>kD b' ?_;rw [afs,abp] at b8;rcases b8 with b8|b8
         . exact Uf b' b8
         . exact hgb b' b8)
       grind
     . grind
     . grind
     . grind
     . intro x4 hS hM
       exact x4.setRow Lm (hS b (by simp)) (cD (by omega)) (by grind)
   . have abK:∀ j u,((C.toList.drop o).take (xs.length*e.size))[j]? =some u→w.cell? ((⟨b,o,none⟩:Addr).add j)=some u:=λj u hu=>by
      rw [Addr.add_lit];rw [← ck Lm] at hu;exact gE hu
     have hr:=afB ⟨b,o,none⟩ xs.length cap _ hxl abK (by omega) (by omega) (growslice_fits (by omega) (D4 _ (abE _)));grind
theorem n0 (c:Ctx) {t ty eid:TypeId} {e:Ty} (hu:P.underlying t=some (.slice eid)) (dF:e.Ok P eid) {vx vy:Value} {xs ys:List e.D} {fx:List Nat} {gps:List (List Nat)}
  (hx:(Ty.sl e).ar c.fz w [vx] xs fx) (hy:Src c.fz w e vy ys gps) (PY:fx.Nodup) (hg:gps.flatten.Nodup) (hd:∀ b∈gps.flatten,b ∉ fx) (hgl:∀ b∈gps.flatten,b<w.heap.size) (hn:xs.length+ys.length≤bA):
  ∃ v' w' f,(Builtin.append_ #[t,t] ty #[vx,vy]).run P w= .ok v' w'∧pB c w e (xs++ys) fx gps.flatten v' w' f:=by
 obtain ⟨i,z,hi,hs,hb,hz,QI,mv⟩:=dF.base;obtain ⟨a,cy,rfl,ai3,hy⟩:=hy;have xM:=hx;simp only [Ty.ar] at hx;obtain ⟨ax,cap,ex,⟨oF,_⟩,hx⟩:=hx;obtain rfl:vx= .slice ax xs.length cap:=by simpa using ex
 have afC:∀ b∈fx,b<w.heap.size:=Ty.gS _ xM;by_cases dV:ys=[]
 . subst dV
   refine ⟨.slice ax xs.length cap,w,fx,by grind [Gg],by grind,PY,by grind,abE _,λ_ _ _=>rfl,λh _ _=>h⟩
 . have hy:∃ b o,a=some ⟨b,o,none⟩∧∀ (i:Nat) (y:e.D) (f:List Nat),ys[i]? =some y→gps[i]? =some f→e.ar c.fz w (aE w b (o+i*e.size) e.size) y f:=by grind
   obtain ⟨TE,oy,ha,GR⟩:=hy;subst ha;have hm:0<ys.length:=by grind
   obtain ⟨CY,TY,frY,q1,q2,q3,q4,q5⟩:=Src.cells ai3 mv dV GR;have jS:∀ j u,(aE w TE oy (ys.length*e.size))[j]? =some u→w.cell? ((⟨TE,oy,none⟩:Addr).add j)=some u:=by grind [Addr.add_lit,gE]
   generalize aE w TE oy (ys.length*e.size)=news at q3 q4 q5 jS;have D5:z.cells.size=e.size:=by grind [Ty.dO]
   refine wL c (i:=i) (z:=z) (eid:=eid) hb D5 xM PY hg hd hgl hn q3 q4 (R:=λvx v' w'=>(Builtin.append_ #[t,t] ty #[vx, .slice (some ⟨TE,oy,none⟩) ys.length cy]).run P w= .ok v' w')
    (by grind [D9,news])
    (λg o cX fe cur T hg rz xc=> ?_)
    (by grind [run_append_grow,news])
   grind [Gf,news]
theorem Ea (t tn ty e:TypeId) (i:TypeInfo) (kq kn:IntKind) (ht:P.underlying t=some (.slice e)) (Ln:P.underlying tn=some (.int kn)) (hi:P.info? e=some i) (s:Option Addr) (cX fe:Nat) (h:cX≤fe):
  (Builtin.append_ #[t,tn] ty #[.slice s cX fe, .int kq 0]).run P w= .ok (.slice s cX fe) w:=by
 have hw:IntKind.i64.wrap 0=0:=by decide
 cases s<;>simp [Builtin.append_,run_underlying ht,run_underlying Ln,sizeOf,typeInfo,hi,asInt,asIntOf,hw,h,storeCells]
theorem Eb (t tn ty e:TypeId) (i:TypeInfo) (z:Value) (kq kn:IntKind) (ht:P.underlying t=some (.slice e)) (Ln:P.underlying tn=some (.int kn)) (hi:P.info? e=some i) (hz:i.zero=some z)
  (g o cX fe:Nat) (cur:Array Value) (T:TypeId) (hg:w.heap[g]? =some (.cells cur T (0,0))) (n:Nat) (h0:0<n) (hs:0<i.size) (h63:(n:Int)≤9223372036854775807) (h48:n*i.bytes≤281474976710656)
  (h1:∀ u∈(Builtin.zeroCells z.cells n).toList,u.oneCell'=true) (rz:cX+n≤fe) (xc:o+cX*i.size+(Builtin.zeroCells z.cells n).toList.length≤cur.size):
  (Builtin.append_ #[t,tn] ty #[.slice (some ⟨g,o,none⟩) cX fe, .int kq n]).run P w=
   .ok (.slice (some ⟨g,o,none⟩) (cX+n) fe) (w.setRow g (spliced cur (o+cX*i.size) (Builtin.zeroCells z.cells n).toList)):=by
 have pU:=run_storeCells_at P g (o+cX*i.size) T (Builtin.zeroCells z.cells n).toList 0 cur w hg (by simpa using xc) h1;simp only [ae9] at pU;have hk:n≠0:=by omega
 have hw:IntKind.i64.wrap (n:Int)=n:=by rw [IntKind.wrap_i64];omega
 have abL:¬ (281474976710656<(n:Int)*(i.bytes:Int)):=by grind
 have sx:¬ ((n:Int)<0):=by omega
 have EY:¬ (n*i.size=0):=Nat.mul_ne_zero hk (by omega);simp [Builtin.append_,run_underlying ht,run_underlying Ln,sizeOf,typeInfo,zeroValue,hi,hz,asInt,asIntOf,hw,sx,EY,abL,rz,Addr.add_lit,pU,spliced]
theorem uq (t tn ty e:TypeId) (i:TypeInfo) (z:Value) (kq kn:IntKind) (ht:P.underlying t=some (.slice e)) (Ln:P.underlying tn=some (.int kn)) (hi:P.info? e=some i) (hz:i.zero=some z)
  (base:Option Addr) (cX fe:Nat) (A0:List Value) (hold:(Builtin.firstCells i.size cX (.slice base cX fe)).run P w.drew= .ok A0.toArray w.drew)
  (k:Nat) (h0:0<k) (hs:0<i.size) (hg:fe<cX+k) (h63:((cX+k:Nat):Int)≤9223372036854775807) (h48:k*i.bytes≤281474976710656) (xc:Builtin.nextslicecap (cX+k) fe*i.bytes≤281474976710656):
  (Builtin.append_ #[t,tn] ty #[.slice base cX fe, .int kq k]).run P w=
   .ok (.slice (some ⟨w.heap.size,0,none⟩) (cX+k) (grownCap w (cX+k) fe e))
    (w.drew.alloc (.cells (A0.toArray++Builtin.zeroCells z.cells k++Builtin.zeroCells z.cells (grownCap w (cX+k) fe e - (cX+k))) e)):=by
 have hk:k≠0:=by omega
 have hw:IntKind.i64.wrap (k:Int)=k:=by rw [IntKind.wrap_i64];omega
 have hn:¬ (cX+k≤fe):=by omega
 have abH:¬ (9223372036854775807<((cX:Int)+(k:Int))):=by omega
 have abI:¬ (281474976710656<Builtin.nextslicecap (cX+k) fe*i.bytes):=by omega
 have abL:¬ (281474976710656<(k:Int)*(i.bytes:Int)):=by grind
 have sx:¬ ((k:Int)<0):=by omega
 have EY:¬ (k*i.size=0):=Nat.mul_ne_zero hk (by omega);simp [Builtin.append_,run_underlying ht,run_underlying Ln,sizeOf,typeInfo,zeroValue,hi,hz,asInt,asIntOf,hw,hn,sx,EY,abH,abI,abL,Question.forced,hold,newRow,grownCap]
theorem Gh (c:Ctx) {t tn ty eid:TypeId} {e:Ty} {kq kn:IntKind} (hu:P.underlying t=some (.slice eid)) (Ln:P.underlying tn=some (.int kn)) (dF:e.Ok P eid) {vx:Value} {xs:List e.D} {fx:List Nat} {n:Nat}
  (hx:(Ty.sl e).ar c.fz w [vx] xs fx) (PY:fx.Nodup) (hn:xs.length+n≤bA):
  ∃ v' w' f,(Builtin.append_ #[t,tn] ty #[vx, .int kq n]).run P w= .ok v' w'∧pB c w e (xs++List.replicate n e.zero) fx [] v' w' f:=by
 obtain ⟨i,z,hi,hs,hb,hz,QI,mv⟩:=dF.base;by_cases qY:n=0
 . subst qY
   have xM:=hx;simp only [Ty.ar] at hx;obtain ⟨ax,cap,ex,⟨oF,_⟩,_⟩:=hx;obtain rfl:vx= .slice ax xs.length cap:=by simpa using ex
   refine ⟨.slice ax xs.length cap,w,fx,by grind [Ea],by grind,PY,by grind,abE _,λ_ _ _=>rfl,λh _ _=>h⟩
 have D5:z.cells.size=e.size:=by grind [Ty.dO]
 have hlen:(List.replicate n e.zero).length=n:=afT;have amb:(Builtin.zeroCells z.cells n).toList=(madeCells z.cells (n*e.size)).toList:=by rw [← D5];rfl
 have hit:Items c.fz w e (Builtin.zeroCells z.cells n).toList (List.replicate n e.zero) (List.replicate n []):=by grind [wK]
 have h1:∀ u∈(Builtin.zeroCells z.cells n).toList,u.oneCell'=true:=λu yT=>by
  have hzo:∀ v∈z.cells.toList,v.oneCell'=true:=by
   rw [QI];exact Ty.nr (z:=c.fz) (w:=w) e (Ty.jn _ e)
  simp only [Builtin.zeroCells,Array.toList_map,List.mem_map] at yT;obtain ⟨j,_,rfl⟩:=yT;grind [Nat.mod_lt]
 have hq3:(Builtin.zeroCells z.cells n).toList.length=n*e.size:=by rw [Array.length_toList,pC,D5]
 have abM:n*i.bytes≤281474976710656:=by
  have:n*i.bytes≤68719476736*1024:=Nat.mul_le_mul (by grind) hb;omega
 have:=wL (w:=w) c (i:=i) (z:=z) (eid:=eid) (ys:=List.replicate n e.zero) (gps:=List.replicate n []) hb D5 hx PY (by simp) (by simp) (by simp) (by grind) (news:=(Builtin.zeroCells z.cells n).toList) (by grind) hit
  (R:=λvx v' w'=>(Builtin.append_ #[t,tn] ty #[vx, .int kq n]).run P w= .ok v' w')
  (λs h63 h48=>by
   rw [hlen] at h63 h48 ⊢;have hs0:(Builtin.firstCells i.size 0 (.slice s 0 0)).run P w.drew= .ok ([]:List Value).toArray w.drew:=by
    cases s<;>simp [Builtin.firstCells,loadCells,loadCellsFrom]
   have:=uq (w:=w) t tn ty eid i z kq kn hu Ln hi hz s 0 0 [] hs0 n (by omega) (by omega) (by omega) (by grind) abM (by rw [acw,nextslicecap_zero (by omega)];exact h48);simp_all)
  (λg o cX fe cur T hg rz xc=>by
   rw [hlen] at rz ⊢;have:=Eb (w:=w) t tn ty eid i z kq kn hu Ln hi hz g o cX fe cur T hg n (by omega) (by omega) (by grind) abM h1 rz (by grind);grind)
  (λb cX fe A0 ho mu hgr h63 xc=>by
   rw [hlen] at hgr h63 xc ⊢;have hold:(Builtin.firstCells i.size cX (.slice (some b) cX fe)).run P w.drew= .ok A0.toArray w.drew:=run_firstCells_some (P:=P) w.drew i.size cX b cX fe A0 (by grind) (by simp_all);have:=uq (w:=w) t tn ty eid i z kq kn hu Ln hi hz (some b) cX fe A0 hold n (by omega) (by omega) hgr h63 abM xc;simp_all)
 simp_all
end
end
section
open Go
variable {z:Fz}
mutual
theorem Ty.pD {w:World}:(t:Ty)→{cs:List Value}→{x:t.D}→{f:List Nat}→t.flat=true→t.ar z w cs x f→f=[]
 | .bool,_,_,_,_,h=>by simp only [Ty.ar] at h;exact h.2
 | .int _,_,_,_,_,h=>by simp only [Ty.ar] at h;exact h.2
 | .str,_,_,_,_,h=>by simp only [Ty.ar] at h;exact h.2.1
 | .hole,_,_,_,_,h=>by simp only [Ty.ar] at h;exact h.2
 | .sl _,_,_,_,hf,_=>by simp [Ty.flat] at hf
 | .st fs,_,_,_,hf,h=>aI.pD fs hf (by simpa only [Ty.ar] using h)
theorem aI.pD {w:World}:(t:aI)→{cs:List Value}→{x:t.D}→{f:List Nat}→t.flat=true→t.ar z w cs x f→f=[]
 | .nil,_,_,_,_,h=>by simp only [aI.ar] at h;exact h.2
 | .cons t ts,_,_,_,hf,h=>by
   simp only [aI.flat,aa4] at hf;simp only [aI.ar] at h;obtain ⟨c1,c2,f1,f2,rfl,rfl,h1,h2⟩:=h;rw [Ty.pD t hf.1 h1,aI.pD ts hf.2 h2];rfl
end
theorem zV {S:Nat→Prop} {w:World} {t t':Ty} {cs:List Value} {x:t.D} {y:t'.D} (h:Ty.zu t t' x=some y) (hr:t.aN S w cs x):t'.aN S w cs y:=by
 obtain ⟨hz,rfl⟩:=Ty.nR h;exact Ty.ik _ _ hz _ _ hr
theorem Src.J7 {S:Nat→Prop} {w:World} {e:Ty} {v:Value} {ys:List e.D} (hf:e.flat=true) (h:(Ty.sl e).aN S w [v] ys):Src z w e v ys (List.replicate ys.length []):=by
 simp only [Ty.aN] at h;obtain ⟨a,cap,ev,hc,h⟩:=h;obtain rfl:v= .slice a ys.length cap:=by simpa using ev
 refine ⟨a,cap,rfl,by simp, ?_⟩;rcases h with h|⟨b,o,rfl,_,h⟩
 . exact .inl h
 . refine .inr ⟨b,o,rfl,λi y f hy AE=> ?_⟩
   have:f=[]:=by rw [acK] at AE;split at AE<;>simp_all
   subst this;exact Ty.pz e hf (h i y hy)
theorem Src.TF {w:World} {e:Ty} {v:Value} {ys:List e.D} {f:List Nat} (h:(Ty.sl e).ar z w [v] ys f):∃ gps,Src z w e v ys gps∧gps.flatten.Sublist f:=by
 simp only [Ty.ar] at h;obtain ⟨a,cap,ev,hc,h⟩:=h;obtain rfl:v= .slice a ys.length cap:=by simpa using ev
 rcases h with ⟨h0,h1⟩|⟨b,o,C,E,fps,rfl,h1,h2,h3,h4,h5⟩
 . have:ys=[]:=acp (by omega)
   subst this;exact ⟨[],⟨a,cap,rfl,rfl, .inl rfl⟩,by simp⟩
 . refine ⟨fps,⟨_,cap,rfl,h3, .inr ⟨b,o,rfl,λi y f hy hf=>h5 i y f hy hf⟩⟩, ?_⟩
   rw [h4];exact List.sublist_cons_self _ _
section
variable {c:Ctx} {μ:Nat→Loc} {fp:Nat→List Nat} {s:kM} {n:Nat} {o:Oper} {a:Act} {w:World} {r:gY} {C:Cx} {E:Env}
variable (h:il c μ fp s n a w)
include h
theorem kP {e:Ty} {zs:List e.D} {fx gp:List Nat} {v':Value} {w':World} {f:List Nat} {fr:Nat} (iI:¬ s.k fr) (ap:pB c w e zs fx gp v' w' f) {gx gy:List Nat}
  (hx:kC c fp s.v E gx fx) (hy:∀ b∈gp,(∃ id∈gy,s.v id≠none∧b∈fp id)∧(b<c.w0.heap.size→∀ j,c.M b j)) (gP:(execOp a.eval o).run c.P w= .ok (.value v') w'):
  oE c μ s o a w (.cB fr none,((gx++gy).map λk=>(k,none))++[(fr,some (.arr e zs))]):=by
 have dp:=ap.rep;simp only [Ty.ar] at dp;obtain ⟨ad,cap,ev,oF,_⟩:=dp;obtain rfl:v'= .slice ad zs.length cap:=by simpa using ev
 have mF:cz c (λid=>if id=fr then .qQ ad zs.length cap e.size else μ id) w' fr f (.arr e zs):=by
  refine ⟨ad,cap,by simp,ap.rep,λb hb bS=> ?_⟩;rcases ap.from_ b hb with ⟨h1,_⟩|h1|h1
  . have:=h.ev.size;omega
  . exact hx.may b h1 bS
  . exact (hy b h1).2 bS
 obtain ⟨q1,q2⟩:=h.new iI (gx++gy) _ _ _ (λid hn hr b b8=>ap.heap b (λhbx=>by
  obtain ⟨k,hk,oz⟩:=hx.mem b hbx;exact h.vs.sep id k (λe=>hr (by simp [e,hk])) hn (hx.there k hk).1 b b8 oz) (h.vs.lt id hn b b8)) ap.size mF ap.nodup (λb hb=>by
  rcases ap.from_ b hb with h1|h1|h1
  . exact .inl h1
  . obtain ⟨k,hk,oz⟩:=hx.mem b h1
    exact .inr ⟨k,by simp [hk],(hx.there k hk).1,oz⟩
  . obtain ⟨⟨k,hk,hn,oz⟩,_⟩:=hy b h1
    exact .inr ⟨k,by simp [hk],hn,oz⟩)
 refine dc gP ⟨q1, ?_,q2,ap.ev h.ev (λb hb=> ?_) hx.may⟩
 . simp only [an]
   exact ⟨ad,zs.length,cap,e.size,by simp,rfl⟩
 . obtain ⟨k,hk,oz⟩:=hx.mem b hb
   exact h.vs.iQ k (hx.there k hk).1 b oz
omit h in
theorem Src.take {z:Fz} {w:World} {e:Ty} {a:Option Addr} {n cap:Nat} {ys:List e.D} {gps:List (List Nat)} (hs:Src z w e (.slice a n cap) ys gps) {o l:Nat} (hl:o+l≤ys.length) {a2:Option Addr} {cap2:Nat}
  (ha:l=0∨∃ b o',a=some ⟨b,o',none⟩∧a2=some ⟨b,o'+o*e.size,none⟩):Src z w e (.slice a2 l cap2) ((ys.drop o).take l) ((gps.drop o).take l):=by
 obtain ⟨a0,K5,e0,hg,hi⟩:=hs;have hlen:((ys.drop o).take l).length=l:=by simp;omega
 refine ⟨a2,cap2,by rw [hlen],by simp [hg], ?_⟩;rcases ha with rfl|⟨b,o',rfl,rfl⟩
 . exact .inl (afO)
 simp only [Value.slice.injEq] at e0;obtain ⟨rfl,_,_⟩:=e0;rcases hi with rfl|⟨b2,o2,e2,hi⟩
 . left;simp at hl;simp [hl]
 . simp only [acv,Addr.mk.injEq,afr] at e2
   obtain ⟨rfl,rfl⟩:=e2;refine .inr ⟨b,o'+o*e.size,rfl,λi y f hy hf=> ?_⟩;have Cz:i<l:=by have:=(List.getElem?_eq_some_iff.1 hy).1;omega
   rw [ab9 Cz,ab8] at hy hf;rw [show o'+o*e.size+i*e.size=o'+(o+i)*e.size by rw [acg];omega];exact hi (o+i) y f hy hf
omit h in
theorem H0 (hE:∀ id x,E id=some x→s.v id=some x) (hv:cJ c μ fp s.v w) (ev:Ev c w) {e:Ty} (EY:e.mC=true) {d:ah} {x:Value} {ys:List e.D} (hx:an c μ x d) (hl:Pt E e d=some ys):Src c.fz w e x ys (List.replicate ys.length []):=by
 have whole:∀ {id:Nat} {e':Ty} {xs:List e'.D} {zs:List e.D},E id=some (.arr e' xs)→Ty.cast (.sl e') (.sl e) xs=some zs→∃ a cap,μ id= .qQ a zs.length cap e.size∧Src c.fz w e (.slice a zs.length cap) zs (List.replicate zs.length []):=by
  intro id e' xs zs hid hc;obtain ⟨he,AQ⟩:=iX hc;subst he;obtain ⟨a,cap,h1,h2,_⟩:=hv.rel id _ (hE _ _ hid);obtain rfl:zs=xs:=AQ;refine ⟨a,cap,h1, ?_⟩;simp only [Ty.ar] at h2;obtain ⟨a',jP,e1,oF,hi⟩:=h2;cases e1;refine ⟨a,cap,rfl,by simp, ?_⟩;rcases hi with ⟨h0,_⟩|⟨b,o,C,T,fps,ha,hb,_,uH,_,hi⟩
  . exact .inl (acp (by omega))
  . refine .inr ⟨b,o,ha,λi y f hy hf=> ?_⟩
    have VA:f=[]:=by rw [acK] at hf;split at hf<;>simp_all
    subst VA;have bS:i<fps.length:=by rw [uH];exact (List.getElem?_eq_some_iff.1 hy).1
    have hr:=hi i y fps[i] hy (aa2 bS);rwa [Ty.pA e' EY hr] at hr
 cases d with
 |mD=>
  obtain rfl:([]:List e.D)=ys:=aa6 hl;simp only [an] at hx;obtain ⟨a,rfl⟩:=hx;exact ⟨a,0,rfl,rfl, .inl rfl⟩
 |ro e' xs tk=>
  have hl:Ty.zu (.sl e') (.sl e) xs=some ys:=hl;simp only [an] at hx;have hr:=zV hl hx.1;clear hl;simp only [Ty.aN] at hr;obtain ⟨a,cap,e1,oF,hi⟩:=hr;obtain rfl:x= .slice a (List.length ys) cap:=by simpa using e1
  refine ⟨a,cap,rfl,by simp, ?_⟩;rcases hi with hi|⟨b,o,ha,hb,hi⟩
  . exact .inl hi
  . refine .inr ⟨b,o,ha,λi y f hy hf=> ?_⟩
    have VA:f=[]:=by rw [acK] at hf;split at hf<;>simp_all
    subst VA;rw [eN (ev.S b hb)];exact Ty.nt e EY (hi i y hy)
 |cB id vw=>
  cases vw with
  |none=>
   have hl:(match E id with
    |some (.arr e' xs)=>Ty.cast (.sl e') (.sl e) xs
    |_=>none)=some ys:=hl
   rcases hid:E id with _|v<;>rw [hid] at hl
   . exact absurd hl (by simp)
   cases v with
   |arr e' xs=>
    obtain ⟨a,cap,h1,h2⟩:=whole hid (show Ty.cast (.sl e') (.sl e) xs=some ys from hl);simp only [an] at hx;obtain ⟨a',len,jP,sz,g1,rfl⟩:=hx;rw [h1] at g1;cases g1;exact h2
   |_=>exact absurd (show (none:Option (List e.D))=some ys from hl) (by simp)
  |some p=>
   obtain ⟨o,l⟩:=p;have hl:(match E id with
    |some (.arr e' xs)=>(Ty.cast (.sl e') (.sl e) xs).map λ(ys:List e.D)=>(ys.drop o).take l
    |_=>none)=some ys:=hl
   rcases hid:E id with _|v<;>rw [hid] at hl
   . exact absurd hl (by simp)
   cases v with
   |arr e' xs=>
    obtain ⟨zs,hc,D5⟩:=Option.map_eq_some_iff.1 (show (Ty.cast (.sl e') (.sl e) xs).map (λ(ys:List e.D)=>(ys.drop o).take l)=some ys from hl);subst D5;obtain ⟨a,cap,h1,h2⟩:=whole hid hc;simp only [an] at hx;obtain ⟨a',len,jP,sz,a2,g1,g2,g3,rfl,g4⟩:=hx;rw [h1] at g1;cases g1;have h3:=Src.take h2 (o:=o) (l:=l) g2 (a2:=a2) (cap2:=cap - o) (by
     by_cases JN:l=0
     . exact .inl JN
     . exact g4.elim (λq=>by omega) .inr)
    have e1:((List.replicate zs.length ([]:List Nat)).drop o).take l=List.replicate ((zs.drop o).take l).length []:=by
     rw [List.drop_replicate,List.take_replicate];congr 1;simp
    rwa [e1] at h3
   |_=>exact absurd (show (none:Option (List e.D))=some ys from hl) (by simp)
 |_=>exact absurd (show (none:Option (List e.D))=some ys from hl) (by simp)
omit h in
theorem PZ {z:Fz} {w:World} {e:Ty} {a a' a2:Option Addr} {k o l cap:Nat} {ys:List e.D} {f:List Nat} (h1:k+ys.length≤cap) (h3:cap - k=0∨∃ b o,a=some ⟨b,o,none⟩∧a'=some ⟨b,o+k*e.size,none⟩)
  (hr:(Ty.sl e).ar z w [.slice a' ys.length (cap - k)] ys f) (oS:f.Nodup) (hk:k≤o) (mu:o+l≤k+ys.length) (ha:cap - o=0∨∃ b o',a=some ⟨b,o',none⟩∧a2=some ⟨b,o'+o*e.size,none⟩):
  ∃ gps f',Src z w e (.slice a2 l (cap - o)) ((ys.drop (o - k)).take l) gps∧gps.flatten.Nodup∧f'.Nodup∧(∀ b∈gps.flatten,b∈f)∧(∀ b∈f',b∈f)∧(∀ b∈gps.flatten,b ∉ f')∧
    ∃ a3,(cap - (o+l)=0∨∃ b o',a=some ⟨b,o',none⟩∧a3=some ⟨b,o'+(o+l)*e.size,none⟩)∧(Ty.sl e).ar z w [.slice a3 (ys.drop (o - k+l)).length (cap - (o+l))] (ys.drop (o - k+l)) f':=by
 simp only [Ty.ar] at hr;obtain ⟨a0,K5,e0,⟨_,afE⟩,hr⟩:=hr;simp only [afK,Value.slice.injEq,afr] at e0;obtain ⟨e0,_,e2⟩:=e0;subst e0 e2;have bS:((ys.drop (o - k)).take l).length=l:=by simp;omega
 have hld:(ys.drop (o - k+l)).length=k+ys.length - (o+l):=by simp;omega
 rcases hr with ⟨h0,rfl⟩|⟨b,oo,C,T,fps,rfl,hb,hC,uH,rfl,hi⟩
 . have JN:l=0:=by omega
   have Eu:ys=[]:=acp (by omega);subst JN Eu;refine ⟨[],[],⟨a2,cap - o,by simp,by simp, .inl (by simp)⟩,by simp,by simp,by simp,by simp,by simp,none, .inl (by omega), ?_⟩;simp only [Ty.ar];exact ⟨none,cap - (o+0),rfl,⟨by simp,by simp⟩, .inl ⟨by omega,trivial⟩⟩
 have hnf:fps.flatten.Nodup:=(acu.1 oS).2;have zO:b ∉ fps.flatten:=(acu.1 oS).1;have kx:fps.flatten=(fps.take (o - k)).flatten++(((fps.drop (o - k)).take l).flatten++(fps.drop (o - k+l)).flatten):=by
  conv=>lhs;rw [← afQ (o - k) fps, ← afQ l (fps.drop (o - k)),aga]
  simp
 rw [kx] at hnf;have Ud:=(aca.1 hnf).2.1;have hn3:=aca.1 Ud;have jN:∀ x,x∈((fps.drop (o - k)).take l).flatten→x∈fps.flatten:=λx hx=>by rw [kx];simp [hx]
 have afF:∀ x,x∈(fps.drop (o - k+l)).flatten→x∈fps.flatten:=λx hx=>by
  rw [kx];exact adO _ (adO _ hx)
 have re:Src z w e (.slice a2 l (cap - o)) ((ys.drop (o - k)).take l) ((fps.drop (o - k)).take l):=by
  refine ⟨a2,cap - o,by rw [bS],by simp [uH], ?_⟩;by_cases JN:l=0
  . subst JN;exact .inl (by simp)
  rcases ha with h0|⟨b1,o1,rfl,rfl⟩
  . omega
  rcases h3 with h0|⟨b2,o2,e1,e2⟩
  . omega
  simp only [acv,Addr.mk.injEq,afr] at e1 e2;obtain ⟨rfl,rfl⟩:=e1;obtain ⟨rfl,rfl⟩:=e2;refine .inr ⟨b,o1+o*e.size,rfl,λi y f hy hf=> ?_⟩;have Cz:i<l:=by have:=(List.getElem?_eq_some_iff.1 hy).1;omega
  rw [ab9 Cz,ab8] at hy hf;have hmul:k*e.size+(o - k+i)*e.size=o*e.size+i*e.size:=by rw [← acg, ← acg];congr 1;omega
  rw [show o1+o*e.size+i*e.size=o1+k*e.size+(o - k+i)*e.size by omega];exact hi (o - k+i) y f hy hf
 by_cases hc0:cap - (o+l)=0
 . refine ⟨(fps.drop (o - k)).take l,[],re,hn3.1,by simp,λx hx=>afm _ (jN x hx),by simp,by simp,none, .inl hc0, ?_⟩
   simp only [Ty.ar];have:ys.drop (o - k+l)=[]:=acp (by omega);rw [this];exact ⟨none,cap - (o+l),rfl,⟨by simp,by simp⟩, .inl ⟨hc0,trivial⟩⟩
 . rcases h3 with h0|⟨b2,o2,rfl,e2⟩
   . omega
   simp only [acv,Addr.mk.injEq,afr] at e2;obtain ⟨rfl,rfl⟩:=e2;refine ⟨(fps.drop (o - k)).take l,b::(fps.drop (o - k+l)).flatten,re,hn3.1,acu.2 ⟨λhx=>zO (afF b hx),hn3.2.1⟩,λx hx=>afm _ (jN x hx),λx hx=> ?_,λx hx LM=> ?_,some ⟨b,o2+(o+l)*e.size,none⟩, .inr ⟨b,o2,rfl,rfl⟩, ?_⟩
   . rcases abF.1 hx with rfl|hx
     . exact List.mem_cons_self
     . exact afm _ (afF x hx)
   . rcases abF.1 LM with rfl|LM
     . exact zO (jN _ hx)
     . exact hn3.2.2 x hx x LM rfl
   . simp only [Ty.ar]
     have hmul:k*e.size+(o+l - k)*e.size=(o+l)*e.size:=by rw [← acg];congr 1;omega
     have akC:(cap - k)*e.size=(o+l - k)*e.size+(cap - (o+l))*e.size:=by rw [← acg];congr 1;omega
     refine ⟨_,cap - (o+l),rfl,⟨by omega,by omega⟩, .inr ⟨b,o2+(o+l)*e.size,C,T,fps.drop (o - k+l),rfl,hb,by omega,by simp [uH],rfl,λi y f hy hf=> ?_⟩⟩;have nO:ys[o - k+l+i]? =some y:=by rw [← ab8];exact hy
     have AE:fps[o - k+l+i]? =some f:=by rw [← ab8];exact hf
     have:=hi (o - k+l+i) y f nO AE;have akD:k*e.size+(o - k+l+i)*e.size=(o+l)*e.size+i*e.size:=by rw [← acg, ← acg];congr 1;omega
     rwa [show o2+(o+l)*e.size+i*e.size=o2+k*e.size+(o - k+l+i)*e.size by omega]
omit h in
theorem H2 (hv:cJ c μ fp s.v w) (hE:∀ id x,E id=some x→s.v id=some x) {e:Ty} {d:ah} {x:Value} {F:List Nat} {id o l k:Nat} {ys:List e.D} (hx:an c μ x d) (hl:DU E e d=some (F,id,o,l,k,ys)) (hk:k≤o):
  ∃ f gps f',kC c fp s.v E (id::F) f∧Src c.fz w e x ((ys.drop (o - k)).take l) gps∧gps.flatten.Nodup∧f'.Nodup∧(∀ b∈gps.flatten,b∈f)∧(∀ b∈f',b∈f)∧(∀ b∈gps.flatten,b ∉ f')∧
    cz c μ w id f' (.cut e (ys.drop (o - k+l)) (o+l)):=by
 unfold DU at hl;split at hl
 case h_2=>cases hl
 rename_i id0 o0 l0;simp only [an] at hx;obtain ⟨ax,len,ai7,sz,a2,g1,g2,g3,rfl,g4⟩:=hx;have fin:∀ {a a':Option Addr} {cap k0:Nat} {zs:List e.D} {F0 f:List Nat},kC c fp s.v E (id0::F0) f→(F0,id0,o0,l0,k0,zs)=(F,id,o,l,k,ys)→μ id0= .qQ a (k0+zs.length) cap e.size→k0+zs.length≤cap→(0<cap→∃ b o,a=some ⟨b,o,none⟩)→(cap - k0=0∨∃ b o,a=some ⟨b,o,none⟩∧a'=some ⟨b,o+k0*e.size,none⟩)→
   (Ty.sl e).ar c.fz w [.slice a' zs.length (cap - k0)] zs f→
   ∃ f gps f',kC c fp s.v E (id::F) f∧Src c.fz w e (.slice a2 l0 (ai7 - o0)) ((ys.drop (o - k)).take l) gps∧gps.flatten.Nodup∧f'.Nodup∧(∀ b∈gps.flatten,b∈f)∧(∀ b∈f',b∈f)∧(∀ b∈gps.flatten,b ∉ f')∧
     cz c μ w id f' (.cut e (ys.drop (o - k+l)) (o+l)):=by
  intro a a' cap k0 zs F0 f hg heq h1 h2 h2' h3 h4;simp only [Prod.mk.injEq] at heq;obtain ⟨rfl,rfl,rfl,rfl,rfl,rfl⟩:=heq;rw [h1] at g1;cases g1;obtain ⟨gps,f',q1,q2,q3,q4,q5,q6,a3,q7,q8⟩:=PZ h2 h3 h4 hg.nodup hk g2 g4;have hld:o0+l0+(zs.drop (o0 - k0+l0)).length=k0+zs.length:=by simp;omega
  refine ⟨f,gps,f',hg,q1,q2,q3,q4,q5,q6,_,_,a3,by rw [hld];exact h1,by omega,h2',q7,q8,λb hb=>hg.may b (q5 b hb)⟩
 split at hl
 . rename_i e' xs k0 hid
   obtain ⟨zs,hc,D5⟩:=Option.map_eq_some_iff.1 hl;obtain ⟨he,AQ⟩:=iX hc;subst he;obtain rfl:zs=xs:=AQ;obtain ⟨a,cap,a',h1,h2,h3,h4,h5,h6⟩:=hv.rel id0 _ (hE _ _ hid);exact fin ⟨λb hb=>⟨id0,by simp,hb⟩,hv.nodup _ _ (hE _ _ hid),λk hk=>by
    obtain rfl:k=id0:=by simpa using hk
    exact ⟨by rw [hE _ _ hid];simp,by rw [hid];simp⟩,h6⟩ D5 h1 h2 h3 h4 h5
 . rename_i v _ hid
   obtain ⟨⟨e',xs⟩,hu,hl⟩:=Option.bind_eq_some_iff.1 hl;obtain ⟨zs,hc,D5⟩:=Option.map_eq_some_iff.1 hl;obtain ⟨he,AQ⟩:=iX hc;simp only at he;subst he;obtain rfl:zs=xs:=AQ;have AG:iE E e' (.cB id0 none)=some (zs,id0::bz v):=by
    simp only [iE,hid,hu,acf];exact congrArg (Option.map _) hc
   obtain ⟨a,cap,_,h1,_,_,_,_,_⟩:=gL hv hE hid hu;obtain ⟨f,hr,hg⟩:=gM hv hE (x:= .slice a zs.length cap) (by simp only [an];exact ⟨_,_,_,_,h1,rfl⟩) AG;have oF:zs.length≤cap∧(0<cap→∃ b o,a=some ⟨b,o,none⟩):=by
    have h2:=hr;simp only [Ty.ar] at h2;obtain ⟨a',jP,e1,oF,hi⟩:=h2;cases e1;refine ⟨oF.1,λhp=> ?_⟩;rcases hi with ⟨h0,_⟩|⟨b,o,_,_,_,ha,_⟩
    . omega
    . exact ⟨b,o,ha⟩
   refine fin hg D5 (by rw [acw];exact h1) (by omega) oF.2 ?_ (by simpa using hr);by_cases hc0:cap=0
   . exact .inl (by omega)
   . obtain ⟨b,o,rfl⟩:=oF.2 (by omega)
     exact .inr ⟨b,o,rfl,by simp⟩
 . cases hl
theorem TG (hE:∀ id x,E id=some x→s.v id=some x) {t eid:TypeId} {fr:Nat} (iI:¬ s.k fr) {e:Ty} (hu:c.P.underlying t=some (.slice eid)) (dF:e.Ok c.P eid) {vx vy:Value} {xs ys:List e.D} {fx gx F:List Nat} {d:ah} {id o0 l k:Nat}
  (rx:(Ty.sl e).ar c.fz w [vx] xs fx) (xO:kC c fp s.v E gx fx) (hy:an c μ vy d) (hp:DU E e d=some (F,id,o0,l,k,ys)) (hk:k≤o0) (hl:xs.length+l≤bA) (Ll:∀ i∈id::F,i ∉ gx)
  (gP:∀ v' w',(Builtin.append_ #[t,t] o.type #[vx,vy]).run c.P w= .ok v' w'→(execOp a.eval o).run c.P w= .ok (.value v') w'):
  oE c μ s o a w (.cB fr none,((gx++(id::F)).map λk=>(k,none))++[(fr,some (.arr e (xs++(ys.drop (o0 - k)).take l))),(id,some (.cut e (ys.drop (o0 - k+l)) (o0+l)))]):=by
 obtain ⟨f0,gps,f',wW,re,QZ,Ud,hs1,Kr,hsd,ai8⟩:=H2 h.vs hE hy hp hk;have hid:s.v id≠none:=(wW.there id (by simp)).1;have Uk:((ys.drop (o0 - k)).take l).length≤l:=by simp;omega
 have PY:∀ b∈f0,b ∉ fx:=λb h1 h2=>by
  obtain ⟨k1,AD,GK⟩:=wW.mem b h1;obtain ⟨k2,HX,Lg⟩:=xO.mem b h2;exact h.vs.sep k1 k2 (λe=>Ll k1 AD (e ▸ HX)) (wW.there k1 AD).1 (xO.there k2 HX).1 b GK Lg
 have bS:∀ b∈f0,b<w.heap.size:=λb hb=>by
  obtain ⟨k1,AD,GK⟩:=wW.mem b hb;exact h.vs.lt k1 (wW.there k1 AD).1 b GK
 obtain ⟨v',w',f,g1,ap⟩:=n0 (P:=c.P) (ty:=o.type) c hu dF rx re xO.nodup QZ (λb hb=>PY b (hs1 b hb)) (λb hb=>bS b (hs1 b hb)) (by omega);have dp:=ap.rep;simp only [Ty.ar] at dp;obtain ⟨ad,cap,ev,oF,_⟩:=dp;generalize D5:xs++(ys.drop (o0 - k)).take l=zs at ap ev oF;obtain rfl:v'= .slice ad zs.length cap:=by simpa using ev
 obtain ⟨x0,xM⟩:=Option.ne_none_iff_exists'.1 hid;have mF:cz c (λid=>if id=fr then .qQ ad zs.length cap e.size else μ id) w' fr f (.arr e zs):=by
  refine ⟨ad,cap,by simp,ap.rep,λb hb bS=> ?_⟩;rcases ap.from_ b hb with ⟨h1,_⟩|h1|h1
  . have:=h.ev.size;omega
  . exact xO.may b h1 bS
  . exact wW.may b (hs1 b h1) bS
 obtain ⟨q1,q2⟩:=h.new iI (gx++(id::F)) _ _ _ (λdC hn hr b b8=>ap.heap b (λhbx=>by
  obtain ⟨k,hk,oz⟩:=xO.mem b hbx;exact h.vs.sep dC k (λe=>hr (by rw [e];exact aeA _ hk)) hn (xO.there k hk).1 b b8 oz) (h.vs.lt dC hn b b8)) ap.size mF ap.nodup (λb hb=>by
  rcases ap.from_ b hb with h1|h1|h1
  . exact .inl h1
  . obtain ⟨k,hk,oz⟩:=xO.mem b h1
    exact .inr ⟨k,aeA _ hk,(xO.there k hk).1,oz⟩
  . obtain ⟨k,hk,oz⟩:=wW.mem b (hs1 b h1)
    exact .inr ⟨k,adO _ hk,(wW.there k hk).1,oz⟩)
 have EH:s.k id:=(h.known.v id x0 xM).1;have akE:id≠fr:=λe=>iI (e ▸ EH);have UZ:cz c (λid=>if id=fr then .qQ ad zs.length cap e.size else μ id) w' id f' (.cut e (ys.drop (o0 - k+l)) (o0+l)):=by
  refine cz.frame ai8 (λb hb=>ap.heap b (PY b (Kr b hb)) (bS b (Kr b hb))) (q1 id EH) (λ_ hi=> ?_);simp [bK.ids] at hi
 have q3:=q2.lK [] id (.cut e (ys.drop (o0 - k+l)) (o0+l)) f' (λ_ _ _ _ _=>⟨rfl,λ_ _=>rfl⟩) (λ_ _ _ _ _ _=>rfl) (abE _) UZ Ud (λb hb=>by
  obtain ⟨k1,AD,GK⟩:=wW.mem b (Kr b hb);refine ⟨h.vs.iQ k1 (wW.there k1 AD).1 b GK,aci (bS b (Kr b hb)) ap.size,λdC hv dV _ b8=> ?_⟩;rw [gq] at hv;by_cases hf:dC=fr
  . rw [aa5 hf] at b8
    rcases ap.from_ b b8 with ⟨h1,_⟩|h1|h1
    . have:=bS b (Kr b hb);omega
    . exact PY b (Kr b hb) h1
    . exact hsd b h1 hb
  . rw [aa3 hf] at hv b8
    split at hv
    . exact hv rfl
    . rename_i VF
      exact h.vs.sep dC k1 (λe=>VF (by rw [e];exact adO _ AD)) hv (wW.there k1 AD).1 b b8 GK)
 rw [F6] at q3;refine dc (gP _ _ g1) ⟨q1, ?_,q3,ap.ev h.ev (λb hb=> ?_) xO.may⟩
 . simp only [an]
   exact ⟨ad,zs.length,cap,e.size,by simp,rfl⟩
 . obtain ⟨k,hk,oz⟩:=xO.mem b hb
   exact h.vs.iQ k (xO.there k hk).1 b oz
theorem H3 (hC:iF C c.P) (hE:∀ id x,E id=some x→s.v id=some x) {cl:Call} (hcl:cl.callee= .builtin .append) {t:TypeId} {x y:Operand} (ha:cl.args.toList=[x,y]) (JO:cl.argTypes.toList=[t,t]) (ho:o.op= .call cl)
  {fr:Nat} (iI:¬ s.k fr)
  (hr:(Out.of (C.ty t) λt=> .of (rZ t) λe=>DV E e (eT s.t x) (eT s.t y) fr).eval=some r):oE c μ s o a w r:=by
 have hx:=h.ca x;have hy:=h.ca y;replace hr:=aK hr;obtain ⟨ty,ko,hr⟩:=hr;replace hr:=aK hr;obtain ⟨e,he,hr⟩:=hr;have ko:C.ty t=some (.sl e):=qR he ▸ ko;obtain ⟨eid,hu,dF⟩:=(hC.ty t _ ko).sl;unfold DV at hr;replace hr:=aK hr;obtain ⟨⟨xs,gx⟩,htx,hr⟩:=hr;obtain ⟨fx,rx,xO⟩:=gM h.vs hE hx htx;have CV:cl.args= #[x,y]:=by rw [← ha]
 have Lb:cl.argTypes= #[t,t]:=by rw [← JO]
 have gP:∀ v' w',(Builtin.append_ #[t,t] o.type #[a.eval x,a.eval y]).run c.P w= .ok v' w'→(execOp a.eval o).run c.P w= .ok (.value v') w':=λv' w' Lo=>by
  simp [execOp,ho,resolve,hcl,CV,Lb,invoke,builtin,Lo]
 have lM:∀ b∈fx,b<w.heap.size:=Ty.gS _ rx;split at hr
 . rename_i J8
   replace hr:=aK hr;obtain ⟨ys,Lf,hr⟩:=hr;split at hr
   . cases hr
   rcases bX hr with ⟨hl,hr⟩|⟨_,hr⟩
   . have hl:xs.length+ys.length≤bA:=abJ hl
     have hr:=aa6 hr;subst hr;have re:=Src.J7 (z:=c.fz) J8 (nX (S':=λ_=>True) h.vs h.ev hE (λ_ _=>trivial) (λ_ _ _ _=>trivial) hy Lf);obtain ⟨v',w',f,g1,g2⟩:=n0 (P:=c.P) (ty:=o.type) c hu dF rx re xO.nodup (by simp) (by simp) (by simp) hl;have:=kP h iI g2 (gy:=[]) xO (by simp) (gP _ _ g1);simpa using this
   . cases hr
 rcases Bool.eq_false_or_eq_true e.mC with EY|EY
 . rw [aa5 EY] at hr
   replace hr:=aK hr;obtain ⟨ys,Lf,hr⟩:=hr;split at hr
   . cases hr
   rcases bX hr with ⟨hl,hr⟩|⟨_,hr⟩
   . have hl:xs.length+ys.length≤bA:=abJ hl
     have hr:=aa6 hr;subst hr;have re:=H0 hE h.vs h.ev EY hy Lf;obtain ⟨v',w',f,g1,g2⟩:=n0 (P:=c.P) (ty:=o.type) c hu dF rx re xO.nodup (by simp) (by simp) (by simp) hl;have:=kP h iI g2 (gy:=[]) xO (by simp) (gP _ _ g1);simpa using this
   . cases hr
 rw [aa3 (by rw [EY];exact Bool.false_ne_true)] at hr;split at hr
 . rename_i p hp
   obtain ⟨F,id,o0,l,k,ys⟩:=p;split at hr
   . cases hr
   rename_i Ll;rcases bX hr with ⟨hl,hr⟩|⟨_,hr⟩
   . obtain ⟨hk,hl⟩:k≤o0∧xs.length+l≤bA:=abJ hl
     have hr:=aa6 hr;subst hr;exact TG h hE iI hu dF rx xO hy hp hk hl (λi hi hg=>Ll (List.any_eq_true.2 ⟨i,hi,by simpa using hg⟩)) gP
   . cases hr
 replace hr:=aK hr;obtain ⟨⟨ys,gy⟩,Lf,hr⟩:=hr;split at hr
 . cases hr
 rename_i Ll;rcases bX hr with ⟨hl,hr⟩|⟨_,hr⟩
 . have hl:xs.length+ys.length≤bA:=abJ hl
   have hr:=aa6 hr;subst hr;obtain ⟨fy,ry,hgy⟩:=gM h.vs hE hy Lf;obtain ⟨gps,re,fq⟩:=Src.TF ry;have hd:∀ b∈gps.flatten,b ∉ fx:=λb h1 h2=>by
    obtain ⟨k1,AD,GK⟩:=hgy.mem b (fq.subset h1);obtain ⟨k2,HX,Lg⟩:=xO.mem b h2;exact h.vs.sep k1 k2 (λe=>Ll (List.any_eq_true.2 ⟨k1,AD,by simpa [e] using HX⟩)) (hgy.there k1 AD).1 (xO.there k2 HX).1 b GK Lg
   obtain ⟨v',w',f,g1,g2⟩:=n0 (P:=c.P) (ty:=o.type) c hu dF rx re xO.nodup (hgy.nodup.sublist fq) hd (λb hb=>Ty.gS _ ry b (fq.subset hb)) hl;exact kP h iI g2 xO (λb hb=>by
    obtain ⟨k,hk,oz⟩:=hgy.mem b (fq.subset hb);exact ⟨⟨k,hk,(hgy.there k hk).1,oz⟩,hgy.may b (fq.subset hb)⟩) (gP _ _ g1)
 . cases hr
theorem Gi (hC:iF C c.P) (hE:∀ id x,E id=some x→s.v id=some x) {cl:Call} (hcl:cl.callee= .builtin .append) {t t':TypeId} {x y:Operand} (ha:cl.args.toList=[x,y]) (JO:cl.argTypes.toList=[t,t']) (ho:o.op= .call cl)
  {fr:Nat} (iI:¬ s.k fr)
  (hr:(Out.of (C.ty t) λt=> .of (rZ t) λe=> .of (C.ty t') λt'=>if t'.isInt=true then DW E e (eT s.t x) (eT s.t y) fr else .fail).eval=some r):oE c μ s o a w r:=by
 have hx:=h.ca x;have hy:=h.ca y;obtain ⟨ty,ko,hr⟩:=aK hr;obtain ⟨e,he,hr⟩:=aK hr;obtain ⟨ty',aja,hr⟩:=aK hr;have ko:C.ty t=some (.sl e):=qR he ▸ ko;obtain ⟨eid,hu,dF⟩:=(hC.ty t _ ko).sl;split at hr
 case isFalse=>cases hr
 rename_i hint;have Ln:∃ kn,c.P.underlying t'=some (.int kn):=by
  have PW:=hC.ty t' ty' aja;cases ty' with
  |int k=>simp only [Ty.Ok] at PW;exact ⟨k,PW.2⟩
  |_=>cases hint
 obtain ⟨kn,Ln⟩:=Ln;unfold DW at hr;split at hr
 case h_2=>cases hr
 rename_i kq n hyv;obtain ⟨⟨xs,gx⟩,htx,hr⟩:=aK hr;obtain ⟨fx,rx,xO⟩:=gM h.vs hE hx htx;rw [hyv] at hy;simp only [an] at hy;have CV:cl.args= #[x,y]:=by rw [← ha]
 have Lb:cl.argTypes= #[t,t']:=by rw [← JO]
 have gP:∀ v' w',(Builtin.append_ #[t,t'] o.type #[a.eval x,a.eval y]).run c.P w= .ok v' w'→(execOp a.eval o).run c.P w= .ok (.value v') w':=λv' w' Lo=>by
  simp [execOp,ho,resolve,hcl,CV,Lb,invoke,builtin,Lo]
 rcases bX hr with ⟨hl,hr⟩|⟨_,hr⟩
 . have hl:0≤n∧xs.length+n.toNat≤bA:=abJ hl
   obtain ⟨m,rfl⟩:∃ m:Nat,n=(m:Int):=⟨n.toNat,by omega⟩
   have hr:=aa6 hr;subst hr;obtain ⟨v',w',f,g1,g2⟩:=Gh (P:=c.P) (ty:=o.type) c (kq:=kq) hu Ln dF (n:=m) rx xO.nodup (by simpa using hl.2);have:=kP h iI g2 (gy:=[]) xO (by simp) (gP _ _ (by rw [hy];exact g1));simpa using this
 . cases hr
omit h in
theorem P0 {α:Type} {xs ys:List α} {o n:Nat} (h1:o+n≤xs.length) (h2:n≤ys.length) (i:Nat):(xs.take o++ys.take n++xs.drop (o+n))[i]? =if o≤i∧i<o+n then ys[i - o]? else xs[i]? :=by
 have l1:(xs.take o).length=o:=by simp;omega
 have l2:(ys.take n).length=n:=by simp;omega
 by_cases q1:i<o
 . rw [acj,ady (by omega),ab9 q1,aa3 (by omega)]
 by_cases q2:i<o+n
 . rw [ady (by rw [abz];omega),acT (by omega),l1,ab9 (by omega),aa5 (by omega)]
 . rw [acT (by rw [abz];omega),ab8,aa3 (by omega),abz,l1,l2]
   congr 1;omega
omit h in
theorem P1 {α:Type} {xs ys:List α} {o n:Nat} (h1:o+n≤xs.length) (h2:n≤ys.length):(xs.take o++ys.take n++xs.drop (o+n)).length=xs.length:=by simp;omega
omit h in
theorem H4 {C:Array Value} {news:List Value} {O o n sz i m:Nat} (hl:news.length=n*sz) (hC:O+m*sz≤C.size) (hon:o+n≤m) (hi:i<m):
  ((spliced C (O+o*sz) news).toList.drop (O+i*sz)).take sz=if o≤i∧i<o+n then (news.drop ((i - o)*sz)).take sz else (C.toList.drop (O+i*sz)).take sz:=by
 have jN:(i+1)*sz≤m*sz:=abX _ hi;have hom:(o+n)*sz≤m*sz:=abX _ hon;rw [acg] at jN hom;apply acB;intro j;by_cases hj:j<sz
 . rw [ab9 hj,ab8,acm,fu (by omega)]
   by_cases q:o≤i∧i<o+n
   . have e1:o*sz≤i*sz:=abX _ q.1
     have e2:(i+1)*sz≤(o+n)*sz:=abX _ q.2;rw [acg,acg] at e2;rw [aa5 (by omega),aa5 q,ab9 hj,ab8];congr 1;rw [Nat.sub_mul];omega
   . have sx:¬ (O+o*sz≤O+i*sz+j∧O+i*sz+j<O+o*sz+news.length):=by
      rintro ⟨g1,g2⟩
      rcases acH i o with g|g
      . have:=abX sz (show i+1≤o from g)
        rw [acg] at this;omega
      . have:=abX sz (show o+n≤i by omega)
        rw [acg] at this;omega
     rw [aa3 q,ab9 hj,ab8,aa3 sx,acm]
 . have hz:∀ l:List Value,(l.take sz)[j]? =none:=λl=>acI (by simp;omega)
   split<;>rw [hz,hz]
omit h in
theorem Lp {P:Program} {w:World} (t t' ty e:TypeId) (i:TypeInfo) (ht:P.underlying t=some (.slice e)) (hi:P.info? e=some i) (s a:Option Addr) (cX fe m c:Nat) (h:min m cX=0):
  (Builtin.copy_ #[t,t'] ty #[.slice s cX fe, .slice a m c]).run P w= .ok (.int .i64 0) w:=by
 cases s<;>cases a<;>simp [Builtin.copy_,run_underlying ht,sizeOf,typeInfo,hi,Builtin.lenOf,h,Builtin.firstCells,loadCells,loadCellsFrom,storeCells,goInt]
omit h in
theorem P2 {P:Program} {w:World} (t t' ty e:TypeId) (i:TypeInfo) (ht:P.underlying t=some (.slice e)) (hi:P.info? e=some i) (g o cX fe:Nat) (cur:Array Value) (T:TypeId) (hg:w.heap[g]? =some (.cells cur T (0,0)))
  (a:Addr) (m c n:Nat) (news:List Value) (hn:min m cX=n) (hl:news.length=n*i.size) (J6:∀ j u,news[j]? =some u→w.cell? (a.add j)=some u) (h1:∀ u∈news,u.oneCell'=true) (xc:o+news.length≤cur.size):
  (Builtin.copy_ #[t,t'] ty #[.slice (some ⟨g,o,none⟩) cX fe, .slice (some a) m c]).run P w= .ok (.int .i64 n) (w.setRow g (spliced cur o news)):=by
 have hf:=run_firstCells_some (P:=P) w i.size n a m c news hl J6;have pU:=run_storeCells_at P g o T news 0 cur w hg (by simpa using xc) h1;simp only [ae9] at pU;simp [Builtin.copy_,run_underlying ht,sizeOf,typeInfo,hi,Builtin.lenOf,hn,hf,pU,spliced,goInt]
theorem P3 (hC:iF C c.P) (hE:∀ id x,E id=some x→s.v id=some x) {cl:Call} (hcl:cl.callee= .builtin .copy) {t t':TypeId} {x y:Operand} (ha:cl.args.toList=[x,y]) (JO:cl.argTypes.toList=[t,t']) (ho:o.op= .call cl)
  (hr:(Out.of (C.ty t) λt=> .of (rZ t) λe=>Pu E e (eT s.t x) (eT s.t y)).eval=some r):oE c μ s o a w r:=by
 have hx:=h.ca x;have hy:=h.ca y;replace hr:=aK hr;obtain ⟨ty,ko,hr⟩:=hr;replace hr:=aK hr;obtain ⟨e,he,hr⟩:=hr;have ko:C.ty t=some (.sl e):=qR he ▸ ko;obtain ⟨eid,hu,dF⟩:=(hC.ty t _ ko).sl;obtain ⟨i,z,hi,hs,hb,hz,QI,mv⟩:=dF.base;have CV:cl.args= #[x,y]:=by rw [← ha]
 have Lb:cl.argTypes= #[t,t']:=by rw [← JO]
 have gP:∀ v' w',(Builtin.copy_ #[t,t'] o.type #[a.eval x,a.eval y]).run c.P w= .ok v' w'→(execOp a.eval o).run c.P w= .ok (.value v') w':=λv' w' Lo=>by
  simp [execOp,ho,resolve,hcl,CV,Lb,invoke,builtin,Lo]
 unfold Pu at hr;split at hr
 case h_2=>cases hr
 rename_i id vw ex;split at hr
 case isFalse=>cases hr
 rename_i J8;replace hr:=aK hr;obtain ⟨v,hv,hr⟩:=hr;replace hr:=aK hr;obtain ⟨⟨e',xs'⟩,huf,hr⟩:=hr;replace hr:=aK hr;obtain ⟨xs,AQ,hr⟩:=hr;replace hr:=aK hr;obtain ⟨ys,Lf,hr⟩:=hr;obtain ⟨he',QK⟩:=iX AQ;simp only at he';clear AQ;subst he';subst QK;replace hr:=aa6 hr;subst hr;obtain ⟨ad,cap,f,g1,g2,g3,g4,g5,g6⟩:=gL h.vs hE hv huf;have re:=Src.J7 (z:=c.fz) J8 (nX (S':=λ_=>True) h.vs h.ev hE (λ_ _=>trivial) (λ_ _ _ _=>trivial) hy Lf);obtain ⟨ay,cy,hye,hgl,re⟩:=re
 -- where it goes
 have H5:∃ a' c',a.eval x= .slice a' ((vw.map (·.2)).getD (List.length xs)) c'∧((vw.map (·.1)).getD 0+(vw.map (·.2)).getD (List.length xs)≤(List.length xs))∧
   ((vw.map (·.2)).getD (List.length xs)=0∨∃ b O,ad=some ⟨b,O,none⟩∧a'=some ⟨b,O+(vw.map (·.1)).getD 0*e'.size,none⟩):=by
  rw [ex] at hx;have akI:(List.length xs)≤cap:=by
   simp only [Ty.ar] at g2;obtain ⟨_,_,q,hq,_⟩:=g2;simp only [afK,Value.slice.injEq] at q;omega
  have abN:(List.length xs)=0∨∃ b O,ad=some ⟨b,O,none⟩:=by
   simp only [Ty.ar] at g2;obtain ⟨_,_,q,hq,hor⟩:=g2;simp only [afK,Value.slice.injEq] at q;rcases hor with h0|⟨b,O,_,_,_,b8,_⟩
   . left;omega
   . right;exact ⟨b,O,by rw [q.1.1,b8]⟩
  rcases vw with _|⟨vo,vl⟩
  . simp only [an] at hx
    obtain ⟨a0,ajc,K5,sz0,q1,q2⟩:=hx;rw [g1] at q1;cases q1;refine ⟨_,_,q2,by simp, ?_⟩;rcases abN with h0|⟨b,O,h0⟩
    . exact .inl h0
    . exact .inr ⟨b,O,h0,by simpa using h0⟩
  . simp only [an] at hx
    obtain ⟨a0,ajc,K5,sz0,a1,q1,q2,q3,q4,q5⟩:=hx;rw [g1] at q1;cases q1;refine ⟨_,_,q4,q2, ?_⟩;rcases q5 with q5|⟨b,O,q5,q6⟩
    . left;show vl=0;omega
    . right;exact ⟨b,O,q5,q6⟩
 generalize (vw.map (·.2)).getD (List.length xs)=l at*;generalize (vw.map (·.1)).getD 0=off at*;obtain ⟨a',c',QK,mu,H5⟩:=H5;have oS:f.Nodup:=g3.nodup_iff.2 (h.vs.jm _ g4 λk hk=>(g5 k hk).1);have uQ:∀ (w':World) (zs:List e'.D),zs.length=(List.length xs)→(Ty.sl e').ar c.fz w' [.slice ad zs.length cap] zs f→w.heap.size≤w'.heap.size→(∀ k,s.v k≠none→k≠id→k ∉ bz v→∀ b∈fp k,w'.heap[b]? =w.heap[b]?)→
   cJ c μ (λk=>if k=id then f else fp k) (cp s.v (((bz v).map λk=>(k,none))++[(id,some (.arr e' zs))])) w':=λw' zs Tz dp ue TB=>
  h.vs.kN (μ':=μ) h.ev (bz v) id (.arr e' zs) f (λ_ _ _ _ _=>⟨rfl,λ_ _=>rfl⟩) TB ue ⟨ad,cap,by rw [g1,Tz],dp,g6⟩ oS (λb b8=>by
   obtain ⟨k,hk,oz⟩:=List.mem_flatMap.1 (g3.mem_iff.1 b8);rcases abF.1 hk with e1|e1
   . exact .inr ⟨k, .inl e1,(g5 k hk).1,oz⟩
   . exact .inr ⟨k, .inr e1,(g5 k hk).1,oz⟩)
 by_cases qY:min l ys.length=0
 . have e1:List.take off xs++ys.take (min l ys.length)++List.drop (off+min l ys.length) xs=xs:=by
    rw [qY,afO,acG,ae9];exact afQ off xs
   have Lo:=Lp (P:=c.P) (w:=w) t t' o.type eid i hu hi a' ay l c' ys.length cy (by rw [Nat.min_comm];exact qY);rw [← QK, ← hye] at Lo;refine dc (gP _ _ Lo) ⟨λ_ _=>rfl, ?_,uQ w _ (by rw [e1]) (by rw [e1];exact g2) (abE _) λ_ _ _ _ _ _=>rfl,h.ev⟩;simp only [an];rw [qY];rfl
 . obtain ⟨b,O,VB,CV⟩:∃ b O,ad=some ⟨b,O,none⟩∧a'=some ⟨b,O+off*e'.size,none⟩:=by
    rcases H5 with h0|h0
    . exact absurd (by omega) qY
    . exact h0
   subst VB;subst CV;have dV:ys≠[]:=λe0=>qY (by rw [e0];simp);obtain ⟨TE,oy,hay,hsi⟩:∃ b o,ay=some ⟨b,o,none⟩∧∀ (i:Nat) (y:e'.D) (f:List Nat),ys[i]? =some y→(List.replicate ys.length ([]:List Nat))[i]? =some f→e'.ar c.fz w (aE w b (o+i*e'.size) e'.size) y f:=by
    rcases re with h0|h0
    . exact absurd h0 dV
    . exact h0
   subst hay;obtain ⟨CY,TY,frY,q1,q2,q3,q4,q5⟩:=Src.cells hgl mv dV hsi;have jS:∀ j u,(aE w TE oy (ys.length*e'.size))[j]? =some u→w.cell? ((⟨TE,oy,none⟩:Addr).add j)=some u:=λj u hu=>by
    rw [Addr.add_lit];exact gE hu
   have Tu:min l ys.length≤ys.length:=Nat.min_le_right _ _;have Es:off+min l ys.length≤(List.length xs):=by have:=Nat.min_le_left l ys.length;omega
   generalize hn:min l ys.length=n at*;generalize aE w TE oy (ys.length*e'.size)=all at q3 q4 q5 jS;have hnm:n*e'.size≤ys.length*e'.size:=abX _ Tu;have hlen:(all.take (n*e'.size)).length=n*e'.size:=by simp;omega
   have g2':=g2;simp only [Ty.ar] at g2';obtain ⟨_,_,qe,oF,hor⟩:=g2';simp only [afK,Value.slice.injEq,afr] at qe;obtain ⟨rfl,_,rfl⟩:=qe;rcases hor with ⟨h0,_⟩|⟨b2,O2,CC,EE,fps,hbe,Lm,hCs,uH,hfe,hxi⟩
   . exact absurd (by omega) qY
   . cases hbe
     have VG:∀ f'∈fps,f'=[]:=λf' AE=>by
      obtain ⟨k,hk,rfl⟩:=adf AE;exact Ty.pD e' J8 (hxi k (@getElem (List e'.D) Nat e'.D _ _ xs k (uH ▸ hk)) _ (aa2 _) (aa2 _))
     have Uf:f=[b]:=by rw [hfe,List.flatten_eq_nil_iff.2 VG]
     have hxc:(List.length xs)*e'.size≤cap*e'.size:=abX _ oF.1;have hxm:(off+n)*e'.size≤(List.length xs)*e'.size:=abX _ Es;rw [acg] at hxm;have Lo:=P2 (P:=c.P) (w:=w) t t' o.type eid i hu hi b (O+off*e'.size) l c' CC EE Lm ⟨TE,oy,none⟩ ys.length cy n (all.take (n*e'.size)) (by rw [Nat.min_comm];exact hn) (by rw [hs];exact hlen)
      (λj u yT=>jS j u (by
       rw [afD] at yT;split at yT
       . exact yT
       . cases yT)) (λu yT=>q5 u (afn yT)) (by rw [hlen];omega)
     rw [← QK, ← hye] at Lo;have afH:(spliced CC (O+off*e'.size) (all.take (n*e'.size))).size=CC.size:=cD (by rw [hlen];omega);have Tz:=P1 Es Tu;have dp:(Ty.sl e').ar c.fz (w.setRow b (spliced CC (O+off*e'.size) (all.take (n*e'.size)))) [.slice (some ⟨b,O,none⟩) (List.length (List.take off xs++ys.take n++List.drop (off+n) xs)) cap] (List.take off xs++ys.take n++List.drop (off+n) xs) f:=by
      have aje:(List.replicate (List.length (List.take off xs++ys.take n++List.drop (off+n) xs)) ([]:List Nat)).flatten=[]:=List.flatten_eq_nil_iff.2 λl hm=>(List.mem_replicate.1 hm).2;have:=Ge (z:=c.fz) (w:=w.setRow b (spliced CC (O+off*e'.size) (all.take (n*e'.size)))) (e:=e') (xs:=List.take off xs++ys.take n++List.drop (off+n) xs) (fps:=List.replicate (List.length (List.take off xs++ys.take n++List.drop (off+n) xs)) []) (cap:=cap) (o:=O)
       (setRow_heap w b CC _ EE _ Lm) (by rw [Tz];exact oF) (by rw [afH];exact hCs) ⟨by simp,λk y' f' nO AE=> ?_⟩
      . rw [aje] at this
        rw [Uf];exact this
      . have VA:f'=[]:=by rw [acK] at AE;split at AE<;>simp_all
        subst VA;have hk:k<(List.length xs):=by have:=(List.getElem?_eq_some_iff.1 nO).1;rw [Tz] at this;exact this
        have hkm:(k+1)*e'.size≤(List.length xs)*e'.size:=abX _ hk;rw [acg] at hkm;have hch:=H4 (C:=CC) (O:=O) (o:=off) (n:=n) (sz:=e'.size) (i:=k) (m:=(List.length xs)) hlen (by omega) Es hk;rw [Tz,List.drop_take,aga,List.take_take,Nat.min_eq_left (by omega),hch];rw [P0 Es Tu] at nO;by_cases q:off≤k∧k<off+n
        . rw [aa5 q] at nO ⊢
          have Ct:(k - off+1)*e'.size≤n*e'.size:=abX _ (by omega);rw [acg] at Ct;have:=q4.2 (k - off) y' [] nO (by rw [acK,aa5 (by have:=(List.getElem?_eq_some_iff.1 nO).1;exact this)]);rw [List.drop_take,List.take_take,Nat.min_eq_left (by omega)];exact Ty.cR e' this (by simp)
        . rw [aa3 q] at nO ⊢
          have:=hxi k y' _ nO (aa2 (by rw [uH];exact hk));rw [VG _ (acb _),ck Lm] at this;exact Ty.cR e' this (by simp)
     have abO:b∈f:=by rw [Uf];simp
     refine dc (gP _ _ Lo) ⟨λ_ _=>rfl,by simp only [an],uQ _ _ Tz dp (by simp) (λk hk dV hnr b' b8=> ?_), ?_⟩
     . refine setRow_other w b b' _ λe1=> ?_
       subst e1;obtain ⟨k',kH,D8⟩:=List.mem_flatMap.1 (g3.mem_iff.1 abO);refine h.vs.sep k k' ?_ hk (g5 k' kH).1 b' b8 D8
       rintro rfl
       rcases abF.1 kH with e2|e2
       . exact dV e2
       . exact hnr e2
     . refine h.ev.setRow Lm (λhsS=> ?_) afH λbS j hj=>absurd (g6 b abO bS j) hj
       obtain ⟨k',kH,D8⟩:=List.mem_flatMap.1 (g3.mem_iff.1 abO);exact h.vs.iQ k' (g5 k' kH).1 b D8 hsS
omit h in
theorem Ev.TH {c:Ctx} {w:World} (h:Ev c w) (t:ByteArray) (p:Nat):Ev c (w.alloc (.stringIter t p)) where
 size:=by simp;have:=h.size;omega
 os:=h.os
 output:=h.output
 S b hb:=by
   have:=c.hS.1 b hb;have:=h.size;rw [heap_alloc_old w _ b (by omega)];exact h.S b hb
 wH b hb:=by
  have:=h.size;rw [heap_alloc_old w _ b (by omega)];exact h.wH b hb
 frozen a ha:=by
  have:=h.size;rw [← h.frozen a ha];simp only [World.frozen?];rw [heap_alloc_old w _ a.block (by omega)]
omit h in
theorem Ev.iterAt {c:Ctx} {w:World} (h:Ev c w) {b:Nat} {t:ByteArray} {p:Nat} (hb:w.heap[b]? =some (.stringIter t p)) (hs:¬ c.S b) (hm:b<c.w0.heap.size→c.M b 0) (p':Nat):Ev c (w.iterAt b t p') where
 size:=by rw [Lib.iterAt_size];exact h.size
 os:=h.os
 output:=h.output
 S b' b8:=by
   have:b'≠b:=λe=>hs (e ▸ b8);rw [Lib.iterAt_other w b b' t p' this];exact h.S b' b8
 wH b' b8:=by
  by_cases e:b'=b
  . subst e
    rw [Lib.iterAt_heap w b' t p p' hb];rcases h.wH b' b8 with h1|⟨_,_,_,_,h1,_⟩|⟨_,t',q,q',h0,h1⟩
    . exact .inr (.inr ⟨hm b8,t,p,p',by rw [← h1,hb],rfl⟩)
    . rw [hb] at h1;cases h1
    . rw [hb] at h1;cases h1
      exact .inr (.inr ⟨hm b8,_,_,_,h0,rfl⟩)
  . rw [Lib.iterAt_other w b b' t p' e];exact h.wH b' b8
 frozen a ha:=by
  rw [← h.frozen a ha];simp only [World.frozen?];by_cases e:a.block=b
  . rw [e,Lib.iterAt_heap w b t p p' hb,hb]
  . rw [Lib.iterAt_other w b a.block t p' e]
theorem Lq (hC:iF C c.P) {t:TypeId} {x:Operand} (ho:o.op= .range t x) {fr:Nat} (iI:¬ s.k fr)
  (hr:(Out.of (C.ty t) λt=>match t,eT s.t x with
  | .str, .s l=> .ret (.vptr fr 0,[(fr,some (.it l 0))])
  |_,_=> .fail).eval=some r):oE c μ s o a w r:=by
 have hx:=h.ca x;obtain ⟨ty,ko,hr⟩:=aK hr;have dF:=hC.ty t ty ko;split at hr
 . rename_i l e
   rw [e] at hx;simp only [an] at hx;simp only [Ty.Ok] at dF;have hr:=aa6 hr;subst hr;obtain ⟨q1,q2⟩:=h.new iI [] (.at w.heap.size 0) (.it l 0) [w.heap.size] (w':=w.alloc (.stringIter ⟨l.toArray⟩ 0))
    (λid hn _ b hb=>heap_alloc_old w _ b (h.vs.lt id hn b hb)) (by simp) ⟨w.heap.size,by simp,rfl,heap_alloc_new w _,hx.2,λbS=>by have:=h.ev.size;omega⟩ (by simp) (by simp)
   refine dc (v':= .pointer (some ⟨w.heap.size,0,none⟩)) ?_ ⟨q1, ?_,q2,h.ev.TH _ _⟩
   . have hu:(underlying t).run c.P w= .ok .string w:=run_underlying dF.2 w
     simp [execOp,ho,Instr.range,hx.1,hu,newObj,Sem.run]
   . simp only [an];exact ⟨w.heap.size,0,by simp,rfl⟩
 . cases hr
theorem P4 (hE:∀ id x,E id=some x→s.v id=some x) {x:Operand} (ho:o.op= .next x true) (hr:(Px E (eT s.t x)).eval=some r):oE c μ s o a w r:=by
 have hx:=h.ca x;unfold Px at hr;split at hr
 case h_2=>cases hr
 rename_i id e;rw [e] at hx;simp only [an] at hx;obtain ⟨B,o',afI,hv⟩:=hx;split at hr
 case h_2=>cases hr
 rename_i t p hid;have hid:=hE id _ hid;obtain ⟨B0,zI,hfp,hB,afE,hM⟩:=h.vs.rel id _ hid;rw [zI] at afI;cases afI;have gP:∀ v' w',(Instr.next (.pointer (some ⟨B,0,none⟩)) true o.type).run c.P w= .ok v' w'→(execOp a.eval o).run c.P w= .ok (.value v') w':=λv' w' Lo=>by
  simp [execOp,ho,hv,Lo]
 have ue:ByteArray.size ⟨t.toArray⟩=t.length:=by simp [ByteArray.size]
 rcases bX hr with ⟨hp,hr⟩|⟨hp,hr⟩
 . have hp:p<t.length:=abJ hp
   rw [show nth t p=some t[p] from aa2 hp] at hr;replace hr:(Out.ite (decide (t[p].toNat<128)) (.ret (.FQ [.b true, .i .i64 (p:Int), .i .i32 (t[p].toNat:Int)],[(id,some (.it t (p+1)))])) .fail:Out gY).eval=some r:=hr;rcases bX hr with ⟨ha,hr⟩|⟨_,hr⟩
   . have ha:t[p].toNat<128:=abJ ha
     have hr:=aa6 hr;subst hr;have Ht:∀ Cr,(ByteArray.mk t.toArray)[p]'Cr=t[p]:=λ_=>by simp [ByteArray.getElem_eq_getElem_data]
     have g1:=Lib.run_next_ascii_at (P:=c.P) w B ⟨t.toArray⟩ p o.type hB (by rw [ue];exact hp) (by rw [Ht];exact ha);rw [Ht] at g1;have hbS:¬ c.S B:=h.vs.iQ id (by rw [hid];simp) B (by rw [hfp];simp);have py:=h.vs.kN (μ':=μ) (w':=w.iterAt B ⟨t.toArray⟩ (p+1)) h.ev [] id (.it t (p+1)) [B] (λ_ _ _ _ _=>⟨rfl,λ_ _=>rfl⟩)
      (λk hk dV _ b hb=>Lib.iterAt_other w B b _ _ λeb=>h.vs.sep k id dV hk (by rw [hid];simp) b hb (by rw [hfp,eb];simp)) (by rw [Lib.iterAt_size];exact abE _)
      ⟨B,zI,rfl,Lib.iterAt_heap w B _ p _ hB,afE,hM⟩ (by simp) (λb hb=> .inr ⟨id, .inl rfl,by rw [hid];simp,by rw [hfp];exact hb⟩)
     refine dc (gP _ _ g1) ⟨λ_ _=>rfl, ?_,by simpa using py,h.ev.iterAt hB hbS hM _⟩;simp [an,ai]
   . cases hr
 . have hp:¬ p<t.length:=by simpa using hp
   have hr:=aa6 hr;subst hr;refine bq h (gP _ _ (Lib.run_next_end_at (P:=c.P) w B ⟨t.toArray⟩ p o.type hB (by rw [ue];exact hp))) ?_;simp [an,ai]
end
end
section
open Go
def kE (P:Program) (f:FuncId) (args:Array Value) (w:World) (R:Value→World→Prop):Prop:=
 (∃ fn,P.funcs[f]? =some fn∧(fn.name== "runtime.NumGoroutine")=false∧fn.body.isNone=false)∧
 Calls P f args w fun
  | .returned v,w'=>R v w'
  |_,_=>False
def iZ (C:Cx) (P:Program):Prop:=
 ∀ (f:Nat) (ds:List ah) (E:Env) (fr:Nat) (r:gY),(C.call f ds E fr).eval=some r→
   ∀ (c:Ctx) (μ:Nat→Loc) (fp:Nat→List Nat) (s:kM) (w:World) (vs:List Value),c.P=P→cJ c μ fp s.v w→om s→Ev c w→ai c μ vs ds→(∀ id∈ah.bC ds,s.k id)→
     (∀ id x,E id=some x→s.v id=some x)→(∀ id,fr≤id→id<fr+64→¬ s.k id)→
     kE P f vs.toArray w λv' w'=>∃ c' μ' fp',Ext c c'∧DZ c' μ s r v' w' μ' fp'
def n3 (c:Ctx) (μ:Nat→Loc) (s:kM) (o:Oper) (a:Act) (w:World) (r:gY):Prop:=
 ∀ (K:Act→World→Prop) (Q:Exit→Act→World→Prop),(∀ c' v' w' μ' fp',Ext c c'→DZ c' μ s r v' w' μ' fp'→K (a.put o.dst v') w')→o.wp c.P a w K Q
theorem oE.ext {c:Ctx} {μ:Nat→Loc} {s:kM} {o:Oper} {a:Act} {w:World} {r:gY} (h:oE c μ s o a w r):n3 c μ s o a w r:=
 λK Q hK=>h K Q λv' w' μ' fp' hp=>hK c v' w' μ' fp' (Ext.refl c) hp
theorem kE.run {P:Program} {f:FuncId} {args:Array Value} {w:World} {R:Value→World→Prop} (h:kE P f args w R):(callFunc f args).run P w= .ok (.enter f args) w:=by
 obtain ⟨⟨fn,h1,h2,h3⟩,_⟩:=h;have h2:¬ (fn.name= "runtime.NumGoroutine"):=by simpa using h2
 cases hb:fn.body with
 |none=>grind
 |some b=>simp_all [callFunc]
theorem TI {α β:Type} (f:α→β) (l:Array α):(List.map f l.toList).toArray=l.map f:=by grind
theorem P5 {α β:Type} (f:α→β) (l:Array α) (m:Array β):(List.map f l.toList++m.toList).toArray=l.map f++m:=by grind
mutual
theorem Ty.pE:(t:Ty)→t.Az.mC=true
 | .bool=>rfl
 | .int _=>rfl
 | .str=>rfl
 | .hole=>rfl
 | .sl _=>rfl
 | .fz _=>rfl
 | .st fs=>by simp only [Ty.Az,Ty.mC];exact aI.pE fs
theorem aI.pE:(t:aI)→t.Az.mC=true
 | .nil=>rfl
 | .cons t ts=>by simp_all [aI.Az,aI.mC,Ty.pE,aI.pE]
end
theorem P6 {α β:Type} (h:α=β) (xs:List α):(cast (congrArg List h) xs).length=xs.length:=by subst h;rfl
theorem P7 {α β:Type} (h:α=β) (xs:List α) (j:Nat):(cast (congrArg List h) xs)[j]? =(xs[j]?).map (cast h):=by subst h;grind
section
variable {c:Ctx} {μ:Nat→Loc} {fp:Nat→List Nat} {s:kM} {n:Nat} {o:Oper} {a:Act} {w:World} {r:gY} {C:Cx} {E:Env}
variable (h:il c μ fp s n a w)
include h
omit h in
theorem zW {f:FuncId} {args:Array Value} (gP:(execOp a.eval o).run c.P w=(callFunc f args).run c.P w) (hc:kE c.P f args w λv' w'=>∃ c' μ' fp',Ext c c'∧DZ c' μ s r v' w' μ' fp'):n3 c μ s o a w r:=by
 intro K Q hK;simp only [Oper.wp,gP,hc.run,Oper.upon_enter];refine Calls.mono hc.2 λe w' he=> ?_;grind
theorem zX:∀ (l:List Operand),ai c μ (l.map a.eval) (l.map (eT s.t))
 |[]=>by simp [ai]
 |x::l=>by simp only [acd,ai];exact ⟨_,_,rfl,h.ca x,zX l⟩
theorem zY (l:List Operand):∀ id∈ah.bC (l.map (eT s.t)),s.k id:=by
 intro id hi;obtain ⟨d,hd,hid⟩:=gb.1 hi;obtain ⟨x,_,rfl⟩:=List.mem_map.1 hd;exact h.zR x id hid
omit h in
theorem TJ {r0:gY} (hE:∀ id x,E id=some x→s.v id=some x) (hs:n3 c μ s o a w r0) (hr:(abx E r0).eval=some r):n3 c μ s o a w r:=by
 unfold abx at hr;split at hr
 case h_2=>cases hr
 rename_i id i off;split at hr
 case h_2=>cases hr
 rename_i e xs hid;obtain ⟨ys,Lf,hr⟩:=aK hr;change List e.Az.D at ys;obtain rfl:=aa6 hr;intro K Q hK;refine hs K Q λc' v' w' μ' fp' Gj hp=> ?_;have hsv:s.v id=some (.arr e xs):=hE id _ hid;have uj:cJ c' μ' fp' s.v w':=hp.vs;obtain ⟨ad,cap,hm,dp,PM⟩:=uj.rel id _ hsv;have dV:s.v id≠none:=by rw [hsv];simp
 have oS:=uj.nodup id _ hsv;obtain ⟨hz,_⟩:=Ty.nR Lf;have ue:e.Az.size=e.size:=by
  have hz:e.lT e.Az=true:=hz;grind [Ty.jH]
 have afJ:=dp;simp only [Ty.ar] at dp;obtain ⟨a0,K5,e0,oF,dp⟩:=dp;cases e0;have hI:∃ G:List Nat,(∀ b∈G,b∈fp' id)∧∀ (S':Nat→Prop) (r8:Dd S' w'),(∀ b,c'.S b→S' b)→(∀ b∈G,S' b)→∃ f',(∀ b∈f',b∈fp' id∧b ∉ G)∧f'.Nodup∧ad=ad∧List.length ys=List.length xs∧
   (Ty.sl e.Az).ar (c'.next w' S' r8).fz w' [.slice ad (List.length ys) cap] ys f':=by
  rcases dp with ⟨h0,h1⟩|⟨b,oo,CC,T,fps,rfl,hb,hCs,uH,hfe,hi⟩
  . refine ⟨[],by simp,λS' r8 _ _=>⟨[],by simp,by simp,rfl, ?_⟩⟩
    have xM:xs=[]:=by simp_all
    subst xM;have hS0:=zV (S:=λ_=>True) (w:=w') (cs:=[.slice ad 0 cap]) Lf (by simp only [Ty.aN];grind);simp only [Ty.aN] at hS0;obtain ⟨a1,amn,e1,_,_⟩:=hS0;have hl:List.length ys=0:=by
     simp only [afK,Value.slice.injEq,afr] at e1;exact e1.2.1.symm
    refine ⟨hl, ?_⟩;simp only [Ty.ar];exact ⟨ad,cap,rfl,⟨by omega,by omega⟩, .inl ⟨h0,trivial⟩⟩
  . refine ⟨fps.flatten,by grind,λS' r8 h1 h2=>⟨[b], ?_,by simp,rfl, ?_⟩⟩
    . grind
    -- items, as what is only read
    have hS0:(Ty.sl e).aN (λb'=>S' b'∨b'=b) w' [.slice (some ⟨b,oo,none⟩) xs.length cap] xs:=by
     refine Ty.ga (z:=c'.fz) (λb' b8=>⟨.inl (h1 b' b8),hp.ev.S b' b8⟩) _ afJ λb' b8=> ?_;grind
    have hI:∀ (j:Nat) (x:e.D),xs[j]? =some x→e.aN S' w' (aE w' b (oo+j*e.size) e.size) x:=by
     intro j x hx;have bS:j<fps.length:=by grind
     refine Ty.ga (z:=c'.fz) (λb' b8=>⟨h1 b' b8,hp.ev.S b' b8⟩) _ (hi j x fps[j] hx (aa2 bS)) λb' b8=>h2 b' ?_;grind [List.mem_flatten,List.getElem_mem]
    have Br:e.lT e.Az=true:=hz;have hyv:ys=cast (congrArg List (Ty.ij e e.Az Br)) xs:=(Ty.nR Lf).2;have hlen:List.length ys=List.length xs:=by grind [P6,Ty.ij]
    refine ⟨hlen, ?_⟩;simp only [Ty.ar];refine ⟨_,cap,rfl,⟨by omega,by omega⟩, .inr ⟨b,oo,CC,T,List.replicate ys.length [],rfl,hb,by grind,by simp,by simp,λj y f hy hf=> ?_⟩⟩;have hf:(List.replicate (List.length ys) ([]:List Nat))[j]? =some f:=hf;have VA:f=[]:=by grind
    subst VA;rw [ue];have hy:ys[j]? =some y:=hy;have QT:j<xs.length:=by grind
    have hx:=hI j xs[j] (aa2 QT);have GR:y=cast (Ty.ij e e.Az Br) xs[j]:=by
     have:=P7 (Ty.ij e e.Az Br) xs j;grind
    rw [GR];exact Ty.nt (c:=c'.next w' S' r8) _ (Ty.pE e) (Ty.ik e e.Az Br _ _ hx)
 obtain ⟨G,hG,hI⟩:=hI
 let S':Nat→Prop:=λb=>c'.S b∨b∈G
 have r8:Dd S' w':=by
  refine ⟨?_,c'.hS.2.mono (λb hb=> .inl hb) hp.ev.S⟩
  rintro b (hb|hb)
  . exact aci (c'.hS.1 b hb) hp.ev.size
  . exact uj.lt id dV b (hG b hb)
 obtain ⟨f',AE,Ro,_,hlen,jB⟩:=hI S' r8 (λb hb=> .inl hb) (λb hb=> .inr hb);have xd:Ext c' (c'.next w' S' r8):=Ext.next hp.ev (λb hb=> .inl hb) (by grind)
 have wX:cJ c' μ' fp' (λk=>if k=id then none else s.v k) w':=by
  refine ⟨λk x hx=> ?_,λk x hx=> ?_,λk k' UH hk kH=> ?_,λk hk=> ?_,λk hk=> ?_⟩
  . replace hx:(if k=id then none else s.v k)=some x:=hx
    split at hx
    . cases hx
    . exact uj.rel k x hx
  . replace hx:(if k=id then none else s.v k)=some x:=hx
    split at hx
    . cases hx
    . exact uj.nodup k x hx
  . refine uj.sep k k' UH ?_ ?_
    . grind
    grind
  . refine uj.iQ k ?_
    grind
  . refine uj.lt k ?_
    grind
 have amo:∀ k,(if k=id then none else s.v k)≠none→∀ b∈fp' k,b ∉ fp' id:=λk hk b hb=>by
  have hki:k≠id:=by grind
  exact uj.sep k id hki (by grind) dV b hb
 have Q7:cJ (c'.next w' S' r8) μ' fp' (λk=>if k=id then none else s.v k) w':=wX.next xd λk hk b hb hs=>by
  rcases hs with hs|hs
  . exact wX.iQ k hk b hb hs
  grind
 have mF:cz (c'.next w' S' r8) μ' w' id f' (.arr e.Az ys):=by
  refine ⟨ad,cap,by grind,jB,λb hb bS j=> ?_⟩;show c'.M b j∨c'.w0.heap.size≤b;grind
 have hv2:=Q7.lK [] id (.arr e.Az ys) f' (by grind) (λ_ _ _ _ _ _=>rfl) (abE _) mF Ro (λb hb=>by
  refine ⟨?_,uj.lt id dV b (AE b hb).1,by grind⟩
  rintro (hs|hs)
  . exact uj.iQ id dV b (AE b hb).1 hs
  grind)
 refine hK (c'.next w' S' r8) v' w' μ' (λk=>if k=id then f' else fp' k) (Gj.trans xd) ⟨hp.agree, ?_, ?_,Ev.start _⟩
 . have:=hp.val
   grind [an]
 grind [cp,id]
theorem H6 (hC:iF C c.P) (hE:∀ id x,E id=some x→s.v id=some x) {t:TypeId} {x y:Operand} (ho:o.op= .store t x y) {kd:Nat}
  (hr:(Out.of (C.ty t) λt=>DX E kd t (eT s.t x) (eT s.t y)).eval=some r):n3 c μ s o a w r:=by
 by_cases hk6:kd=6
 case neg=>
  refine (BK h hC hE ho (kd:=kd) ?_).ext;simp_all [DX]
 obtain ⟨ty,ko,hr⟩:=aK hr;unfold DX at hr;rw [aa5 hk6] at hr;split at hr
 case h_2=>cases hr
 rename_i id hy;split at hr
 case h_2=>cases hr
 rename_i e xs hid;rw [Out.mW] at hr;obtain ⟨r0,hr0,hr⟩:=Option.bind_eq_some_iff.1 hr;obtain rfl:=aa6 hr
 -- the value is what a place holds
 cases y with
 |const v=>exact absurd hy (by simp only [eT];unfold ofValue;grind)
 |func f=>cases hy
 |global g=>cases hy
 |tmp j=>
 have hyj:s.t j= .cB id none:=hy;have hsv:s.v id=some (.arr e xs):=hE id _ hid;obtain ⟨ad,cap,hm,dp,PM⟩:=h.vs.rel id _ hsv;have dV:s.v id≠none:=by rw [hsv];simp
 have htm:=h.tm j;rw [hyj] at htm;simp only [an] at htm;obtain ⟨ad',len,jP,sz,oH,H7⟩:=htm;rw [hm] at oH;cases oH
 let S':Nat→Prop:=λb=>c.S b∨b∈fp id
 have r8:Dd S' w:=by
  refine ⟨?_,c.hS.2.mono (λb hb=> .inl hb) h.ev.S⟩
  rintro b (hb|hb)
  . exact aci (c.hS.1 b hb) h.ev.size
  . exact h.vs.lt id dV b hb
 have xd:Ext c (c.next w S' r8):=Ext.next h.ev (λb hb=> .inl hb) (by grind)
 have wX:cJ c μ fp (λk=>if k=id then none else s.v k) w:=by
  refine ⟨λk x hx=> ?_,λk x hx=> ?_,λk k' UH hk kH=> ?_,λk hk=> ?_,λk hk=> ?_⟩
  . replace hx:(if k=id then none else s.v k)=some x:=hx
    split at hx
    . cases hx
    . exact h.vs.rel k x hx
  . replace hx:(if k=id then none else s.v k)=some x:=hx
    split at hx
    . cases hx
    . exact h.vs.nodup k x hx
  . refine h.vs.sep k k' UH ?_ ?_
    . grind
    grind
  . refine h.vs.iQ k ?_
    grind
  . refine h.vs.lt k ?_
    grind
 have Q7:cJ (c.next w S' r8) μ fp (λk=>if k=id then none else s.v k) w:=wX.next xd λk hk b hb hs=>by
  rcases hs with hs|hs
  . exact wX.iQ k hk b hb hs
  . have hki:k≠id:=by grind
    exact h.vs.sep k id hki (by grind) dV b hb hs
 let s':kM:={ t:=λi=>if i=j then .ro e xs none else s.t i,v:=λk=>if k=id then none else s.v k,k:=s.k }
 have h':il (c.next w S' r8) μ fp s' n a w:=by
  refine ⟨λi=> ?_,h.n,h.defers,Q7,⟨λi dC hi=> ?_,λdC x hx=> ?_⟩,Ev.start _,λi hi=>h.fix i hi⟩
  . show an (c.next w S' r8) μ (a.tmps.getD i Go.undef) (if i=j then .ro e xs none else s.t i)
    split
    . rename_i Dr
      subst Dr;rw [H7];simp only [an];exact ⟨Ty.ga (z:=c.fz) (S:=S') (w:=w) (λb hb=>⟨.inl hb,h.ev.S b hb⟩) _ dp λb hb=> .inr hb,by grind⟩
    . exact an.ext xd _ (h.tm i)
  . replace hi:dC∈(if i=j then ah.ro e xs none else s.t i).ids:=hi
    split at hi
    . cases hi
    . exact h.known.t i dC hi
  . replace hx:(if dC=id then none else s.v dC)=some x:=hx
    split at hx
    . cases hx
    . exact h.known.v dC x hx
 have QK:eT s'.t x=eT s.t x:=by
  cases x with
  |tmp i=>
   by_cases Dr:i=j
   . subst Dr
     exfalso;have:eT s.t (.tmp i)= .cB id none:=hyj;rw [this] at hr0;cases hr0
   . exact aa3 Dr
  |_=>rfl
 have abP:=BK h' (C:=C) (E:=λk=>if k=id then none else E k) (by exact hC) (by grind) ho (kd:=kd) (r:=r0) (by
  rw [QK];show (Out.of (C.ty t) λt=>zx _ kd t (eT s.t x) (if j=j then .ro e xs none else s.t j)).eval=some r0;rw [aa5 rfl,ko];exact hr0)
 intro K Q hK;exact abP K Q λv' w' μ' fp' hp=>hK _ v' w' μ' fp' xd ⟨hp.agree,hp.val,hp.vs,hp.ev⟩
theorem BM (hC:iF C c.P) (hF:iZ C c.P) (hE:∀ id x,E id=some x→s.v id=some x) {fr:Nat} (iI:∀ id,fr≤id→id<fr+64→¬ s.k id)
  (hr:(core0 C o.op o.type (eT s.t) E fr).eval=some r):n3 c μ s o a w r:=by
 have h0:¬ s.k fr:=by grind
 unfold core0 at hr;split at hr
 . exact (J2 h (.inl ‹_›) h0 hr).ext
 . exact (J2 h (.inr ‹_›) h0 hr).ext
 . exact (PO h ‹_› hr).ext
 . exact (Ld h hC ‹_› iI hr).ext
 . exact (Tx h ‹_› h0 hr).ext
 . exact (Lk h hC ‹_› iI hr).ext
 . exact (zU h hC hE ‹_› h0 hr).ext
 . exact (PT h hC hE ‹_› iI hr).ext
 . exact H6 h hC hE ‹_› hr
 . exact (D2 h ‹_› hr).ext
 . exact (HW h hC ‹_› hr).ext
 . exact (K9 h hC ‹_› hr).ext
 . exact (PQ h ‹_› hr).ext
 . exact (F5 h hC hE ‹_› hr).ext
 . exact (AU h hC ‹_› hr).ext
 . exact (K8 h hC.ty ‹_› hr).ext
 . unfold ae6 at hr
   split at hr
   . rw [Out.mW] at hr
     obtain ⟨r0,hr0,hr⟩:=Option.bind_eq_some_iff.1 hr;exact TJ hE (rv h hC hE ‹_› hr0).ext hr
   . exact (rv h hC hE ‹_› hr).ext
 . rename_i t x y ho
   replace hr:=aK hr;obtain ⟨ty,ko,hr⟩:=hr;have dF:=hC.ty t ty ko;cases ty with
   |str=>
    simp only [Ty.Ok] at dF;refine (K7 h ho dF.2 ?_).ext;grind
   |_=>
    replace hr:=aK hr;obtain ⟨_,_,hr⟩:=hr;cases hr
 . exact (F2 h ‹_› hr).ext
 . exact (AY h hC ‹_› h0 hr).ext
 . exact (Lc h hC hE ‹_› hr).ext
 . exact (Lq h hC ‹_› h0 hr).ext
 . exact (P4 h hE ‹_› hr).ext
 . exact (D3 h ‹_› hr).ext
 . rename_i cl args argTypes ho
   split at hr
   . exact (Tt h hC hE rfl ‹_› ‹_› ho hr).ext
   . cases hr
 . rename_i cl args argTypes ho
   split at hr
   . split at hr
     . rename_i e;subst e
       exact (H3 h hC hE rfl ‹_› ‹_› ho h0 hr).ext
     . exact (Gi h hC hE rfl ‹_› ‹_› ho h0 hr).ext
   . cases hr
 . rename_i cl args argTypes ho
   split at hr
   . exact (P3 h hC hE rfl ‹_› ‹_› ho hr).ext
   . cases hr
 . rename_i f args _ ho
   refine zW (f:=f) (args:=(args.toList.map a.eval).toArray) ?_ (hF f _ E fr r hr c μ fp s w _ rfl h.vs h.known h.ev (zX h _) (zY h _) hE iI);simp [execOp,ho,resolve,Deferred.ofValue,Act.eval,invoke,TI]
 . rename_i f args _ ho
   split at hr
   . rename_i g nS e
     have hv:=h.ca (.tmp f);rw [e] at hv;simp only [an] at hv;obtain ⟨cv,hv,hcv⟩:=hv;refine zW (f:=g) (args:=(args.toList.map a.eval++cv.toList).toArray) ?_
      (hF g _ E fr r hr c μ fp s w _ rfl h.vs h.known h.ev ((zX h _).append hcv) (λid hi=> ?_) hE iI)
     . grind [execOp,resolve,Deferred.ofValue,invoke,P5]
     . rw [po,abp] at hi
       rcases hi with hi|hi
       . exact zY h _ id hi
       . exact h.zR (.tmp f) id (by grind [ah.ids])
   . cases hr
 . cases hr
omit h in
theorem BN {id:Nat} {x:bK}:∀ (u:nw) (v:Env),BB u id=some x→cp v u id=some x
 |[],_,h=>by cases h
 |(k,y)::r,v,h=>by
  simp only [BB] at h;simp only [cp];cases hl:BB r id with
  |some z=>rw [hl] at h;cases h;exact BN r _ hl
  |none=>
   rw [hl] at h;simp only at h;split at h
   . rename_i hk
     obtain ⟨rfl,ha⟩:=hk;have:∀ (r:nw) (v:Env),(r.all λz=>z.1 != k)=true→cp v r k=v k:=by
      intro r
      induction r with
      |nil=>intro v _;rfl
      |cons q r ih=>
       intro v hq;simp only [ack,aa4,bne_iff_ne,ne_eq] at hq;obtain ⟨j,z⟩:=q;simp only [cp];grind
     grind
   . cases h
omit h in
theorem P8 {d d':ah} {u:nw} {id:Nat} {e:Ty} {xs:List e.D} (hs:n3 c μ s o a w (d,u)) (hl:BB u id=some (.arr e xs))
  (H7:∀ c' zZ μ' v',Ext c' zZ→(∀ x,an c' μ' x (.cB id none)→an zZ μ' x (.ro e xs none))→an c' μ' v' d→an zZ μ' v' d'):n3 c μ s o a w (d',u++[(id,none)]):=by
 intro K Q hK;refine hs K Q λc' v' w' μ' fp' Gj hp=> ?_;have hid:cp s.v u id=some (.arr e xs):=BN u s.v hl;obtain ⟨ad',jP,oH,dp,PM⟩:=hp.vs.rel id _ hid;have dV:cp s.v u id≠none:=by rw [hid];simp
 let S':Nat→Prop:=λb=>c'.S b∨b∈fp' id
 have r8:Dd S' w':=by
  refine ⟨?_,c'.hS.2.mono (λb hb=> .inl hb) hp.ev.S⟩
  rintro b (hb|hb)
  . exact aci (c'.hS.1 b hb) hp.ev.size
  . exact hp.vs.lt id dV b hb
 have xd:Ext c' (c'.next w' S' r8):=Ext.next hp.ev (λb hb=> .inl hb) (by grind)
 have hu:cp s.v (u++[(id,none)])=λk=>if k=id then none else cp s.v u k:=by rw [dn];rfl
 have wX:cJ c' μ' fp' (cp s.v (u++[(id,none)])) w':=by
  rw [hu];refine ⟨λk x hx=> ?_,λk x hx=> ?_,λk k' UH hk kH=> ?_,λk hk=> ?_,λk hk=> ?_⟩
  . replace hx:(if k=id then none else cp s.v u k)=some x:=hx
    split at hx
    . cases hx
    . exact hp.vs.rel k x hx
  . replace hx:(if k=id then none else cp s.v u k)=some x:=hx
    split at hx
    . cases hx
    . exact hp.vs.nodup k x hx
  . refine hp.vs.sep k k' UH ?_ ?_
    . grind
    grind
  . refine hp.vs.iQ k ?_
    grind
  . refine hp.vs.lt k ?_
    grind
 have Q7:cJ (c'.next w' S' r8) μ' fp' (cp s.v (u++[(id,none)])) w':=wX.next xd λk hk b hb hs=>by
  rcases hs with hs|hs
  . exact wX.iQ k hk b hb hs
  . have hki:k≠id:=by grind
    refine hp.vs.sep k id hki ?_ dV b hb hs;grind
 refine hK _ _ _ μ' fp' (Gj.trans xd) ⟨hp.agree,H7 _ _ _ _ xd (λx hx=> ?_) hp.val,Q7,Ev.start _⟩;simp only [an] at hx ⊢;obtain ⟨ad,len,cap,sz,hm,rfl⟩:=hx;rw [oH] at hm;cases hm;exact ⟨Ty.ga (z:=c'.fz) (S:=S') (w:=w') (λb hb=>⟨.inl hb,hp.ev.S b hb⟩) _ dp λb hb=> .inr hb,by grind⟩
omit h in
theorem z6 (W:ah→ah) (hW:∀ c' zZ μ' v' x x',Ext c' zZ→(∀ v,an c' μ' v x→an zZ μ' v x')→an c' μ' v' (W x)→an zZ μ' v' (W x')) {m i:Nat} {d:ah} {u:nw} {q:ah×nw}
  (hs:n3 c μ s o a w (W d,u)) (hq:zy m i d u=some q):n3 c μ s o a w (W q.1,q.2):=by
 unfold zy at hq;split at hq
 . split at hq
   . split at hq
     . rename_i hl
       obtain rfl:=aa6 hq;grind [P8]
     . cases hq
   grind
 grind
omit h in
theorem ai.split {c:Ctx} {μ:Nat→Loc}:{vs:List Value}→(ds:List ah)→{es:List ah}→ai c μ vs (ds++es)→∃ v1 v2,vs=v1++v2∧ai c μ v1 ds∧ai c μ v2 es
 |vs,[],es,h=>⟨[],vs,rfl,by simp [ai],h⟩
 |vs,d::ds,es,h=>by
  simp only [List.cons_append,ai] at h;obtain ⟨v,aZ,rfl,h1,h2⟩:=h;obtain ⟨v1,v2,rfl,h3,h4⟩:=ai.split ds h2;exact ⟨v::v1,v2,rfl,by simp only [ai];grind,h4⟩
omit h in
theorem ai.at {c' zZ:Ctx} {μ':Nat→Loc} (he:Ext c' zZ) {x x':ah} (hx:∀ v,an c' μ' v x→an zZ μ' v x') (pre post:List ah) {vs:List Value} (h:ai c' μ' vs (pre++x::post)):ai zZ μ' vs (pre++x'::post):=by
 obtain ⟨v1,v2,rfl,h1,h2⟩:=ai.split pre h;refine ai.append (ai.ext he _ h1) ?_;simp only [ai] at h2 ⊢;obtain ⟨v,aZ,rfl,h3,h4⟩:=h2;exact ⟨v,aZ,rfl,hx v h3,ai.ext he _ h4⟩
omit h in
theorem BO (W:List ah→ah) (hW:∀ c' zZ μ' v' l l',Ext c' zZ→(∀ vs,ai c' μ' vs l→ai zZ μ' vs l')→an c' μ' v' (W l)→an zZ μ' v' (W l')) (m:Nat):∀ (ds:List ah) (i:Nat) (pre:List ah) (u:nw) (q:List ah×nw),
  n3 c μ s o a w (W (pre++ds),u)→JT m i ds u=some q→n3 c μ s o a w (W (pre++q.1),q.2)
 |[],i,pre,u,q,hs,hq=>by
  obtain rfl:=aa6 (show some ([],u)=some q from hq);exact hs
 |d::ds,i,pre,u,q,hs,hq=>by
  obtain ⟨q1,h1,hq⟩:=Option.bind_eq_some_iff.1 (show ((zy m i d u).bind λq=>(JT m (i+1) ds q.2).map λp=>(q.1::p.1,p.2))=some q from hq);obtain ⟨q2,h2,rfl⟩:=Option.map_eq_some_iff.1 hq;have a1:=z6 (λx=>W (pre++x::ds)) (by grind [ai.at]) hs h1;have a2:=BO W hW m ds (i+1) (pre++[q1.1]) q1.2 q2 (by grind) h2;grind
omit h in
theorem Gk (W:ah→ah) (hW:∀ c' zZ μ' v' x x',Ext c' zZ→(∀ v,an c' μ' v x→an zZ μ' v x')→an c' μ' v' (W x)→an zZ μ' v' (W x')) {m i:Nat} {d:ah} {u:nw} {q:ah×nw}
  (hs:n3 c μ s o a w (W d,u)) (hq:Py m i d u=some q):n3 c μ s o a w (W q.1,q.2):=by
 unfold Py at hq;split at hq
 . obtain ⟨q2,h2,rfl⟩:=Option.map_eq_some_iff.1 hq
   exact BO (λl=>W (.agg l)) (by grind [an]) m _ i [] u q2 hs h2
 . exact z6 W hW hs hq
omit h in
theorem BP (W:List ah→ah) (hW:∀ c' zZ μ' v' l l',Ext c' zZ→(∀ vs,ai c' μ' vs l→ai zZ μ' vs l')→an c' μ' v' (W l)→an zZ μ' v' (W l')) (m:Nat):∀ (ds:List ah) (i:Nat) (pre:List ah) (u:nw) (q:List ah×nw),
  n3 c μ s o a w (W (pre++ds),u)→JU m i ds u=some q→n3 c μ s o a w (W (pre++q.1),q.2)
 |[],i,pre,u,q,hs,hq=>by
  obtain rfl:=aa6 (show some ([],u)=some q from hq);exact hs
 |d::ds,i,pre,u,q,hs,hq=>by
  obtain ⟨q1,h1,hq⟩:=Option.bind_eq_some_iff.1 (show ((Py m i d u).bind λq=>(JU m (i+d.cells.length) ds q.2).map λp=>(q.1::p.1,p.2))=some q from hq);obtain ⟨q2,h2,rfl⟩:=Option.map_eq_some_iff.1 hq;have a1:=Gk (λx=>W (pre++x::ds)) (by grind [ai.at]) hs h1;have a2:=BP W hW m ds (i+d.cells.length) (pre++[q1.1]) q1.2 q2 (by grind) h2;grind
omit h in
theorem TK {m:Nat} {r0:gY} (hs:n3 c μ s o a w r0) (hr:(ae8 m r0).eval=some r):n3 c μ s o a w r:=by
 obtain ⟨q,hq,hr⟩:=aK hr;obtain rfl:=aa6 hr;obtain ⟨d,u⟩:=r0;unfold ae7 at hq;split at hq
 . rename_i ds hd
   obtain rfl:d= .FQ ds:=hd;obtain ⟨q2,h2,rfl⟩:=Option.map_eq_some_iff.1 hq;exact BP .FQ (by grind [an]) m ds 0 [] u q2 hs h2
 . exact Gk (λx=>x) (by grind) hs hq
theorem P9 (hC:iF C c.P) (hF:iZ C c.P) (hE:∀ id x,E id=some x→s.v id=some x) {fr:Nat} (iI:∀ id,fr≤id→id<fr+64→¬ s.k id)
  (hr:(core C o.op o.type (eT s.t) E fr).eval=some r):n3 c μ s o a w r:=by
 unfold core at hr;split at hr
 . rw [Out.mW] at hr
   obtain ⟨r0,h0,hr⟩:=Option.bind_eq_some_iff.1 hr;exact TK (by grind [BM]) hr
 grind [BM]
end
end
section
open Go
theorem ur {t:Ty} {ev H8:Operand→ah}:∀ (ps:List (Nat×Operand)) (cs:List ah),(∀ x∈ps,ev x.2=H8 x.2)→nT t ev ps cs=nT t H8 ps cs
 |[],_,_=>rfl
 |(k,x)::ps,cs,h=>by
  simp only [nT,h (k,x) (by simp)];split
  . split
    . exact ur ps _ λy hy=>h y (by simp [hy])
    . rfl
  . rfl
theorem pF {E:Env} {e:Ty} {ev H8:Operand→ah}:∀ (ps:List (Nat×Operand)) (xs:List e.D) (g:List Nat),(∀ x∈ps,ev x.2=H8 x.2)→jJ E e ev ps xs g=jJ E e H8 ps xs g
 |[],_,_,_=>rfl
 |(k,x)::ps,xs,g,h=>by
  simp only [jJ,h (k,x) (by simp)];split
  . rfl
  . congr 1
    funext y;split
    . rfl
    . exact pF ps _ _ λy hy=>h y (by simp [hy])
theorem Gl (C:Cx) (op:Op) (ty:Nat) {ev H8:Operand→ah} (E:Env) (fr:Nat) (h:∀ x∈pj op,ev x=H8 x):core0 C op ty ev E fr=core0 C op ty H8 E fr:=by
 have hm:∀ l:List Operand,(∀ x∈l,ev x=H8 x)→l.map ev=l.map H8:=λl hl=>ac7 hl;unfold core0;split<;>simp only [pj,abF,List.not_mem_nil,or_false,forall_eq_or_imp,forall_eq] at h<;>try (simp only [h];done)
 . congr 1;funext t;split
   . rw [ur _ _ λx hx=>h x.2 (List.mem_map.2 ⟨x,hx,rfl⟩)]
   . rfl
 . congr 1;funext t;congr 1;funext e;split
   . rw [pF _ _ _ λx hx=>h x.2 (List.mem_map.2 ⟨x,hx,rfl⟩)]
   . rfl
 . rename_i t x lo hi
   have hx:=h x (by simp);have hl:lo.map (λz=>lG (ev z))=lo.map λz=>lG (H8 z):=by cases lo with|none=>rfl|some z=>grind
   have hh:hi.map (λz=>lG (ev z))=hi.map λz=>lG (H8 z):=by cases hi with|none=>rfl|some z=>grind
   grind
 . rw [hm _ h]
 . grind [Call.operands]
 . rename_i args argTypes
   simp only [Call.operands,Array.empty_append] at h;split
   . grind
   . rfl
 . grind [Call.operands]
 . grind [Call.operands,Array.toList_append]
 grind [Call.operands,Array.toList_append]
theorem H9 (C:Cx) (op:Op) (ty:Nat) {ev H8:Operand→ah} (E:Env) (fr:Nat) (h:∀ x∈pj op,ev x=H8 x):core C op ty ev E fr=core C op ty H8 E fr:=by grind [core,Gl]
end
section
open Go
structure oJ where
 i:Nat
 g:Nat
 o:Oper
 op:Op
 gd:Option (Nat×Bool)
 skip:Bool
 T:List Nat
 R:List Nat
 r:gY
def oJ.mk' (l:oJ):Bool:=makes l.g l.r.2
def oJ.log (l:oJ):Log:=
 { i:=l.i,g:=l.g,mkd:=l.mk',dst:=l.o.dst,reads:=(if l.skip then [] else tmpsOf (pj l.o.op))++(l.gd.map (·.1)).toList,T:=l.T,R:=l.R,U:=l.r.2.map (·.1) }
def afM (t:Nat→ah) (op op':Op):Prop:=
 op'=op∨∃ x y z,op= .pick x y z∧((eT t x= .b true∧op'= .move y)∨(eT t x= .b false∧op'= .move z))
def uu (l:oJ) (t:Nat→ah):Prop:=
 match l.gd with
 |none=>l.skip=false
 |some (d,want)=>if l.skip then t d= .b (!want)∨t d= .undef else t d= .b want
structure J9 (C:Cx) (n:Nat) (l:oJ) (s:kM):Prop where
 guard:uu l s.t
 dst:∀ d,l.o.dst=some d→d<n
 skip:l.skip=true→l.r=(.undef,[])∧l.T=[]∧l.R=[]
 eq:l.skip=false→afM s.t l.o.op l.op
 core:l.skip=false→(core C l.op l.o.type (eT s.t) (oD l.R s.v) (l.g*64)).eval=some l.r
 res:JV l.T l.g l.r=true
 known:∀ id∈l.T,s.k id
 fresh:l.skip=false→∀ id,id / 64=l.g→¬ s.k id
def post (l:oJ) (s:kM):kM where
 t:=λj=>if l.o.dst=some j then l.r.1 else s.t j
 v:=cp s.v l.r.2
 k:=λid=>s.k id∨(l.mk'=true∧id / 64=l.g)
theorem r9 {j:Nat}:{l:List Operand}→j∈tmpsOf l↔Operand.tmp j∈l
 |[]=>by simp [tmpsOf]
 |x::l=>by
  cases x with
  |tmp k=>simp [tmpsOf,r9 (l:=l)]
  |_=>simp [tmpsOf,r9 (l:=l)]
theorem Lr {t t':Nat→ah} {x:Operand} (h:∀ j,x= .tmp j→t j=t' j):eT t x=eT t' x:=by
 cases x with
 |tmp j=>exact h j rfl
 |_=>rfl
theorem n4 (v:Env):∀ (u:nw) {id:Nat},id ∉ u.map (·.1)→cp v u id=v id
 |[],_,_=>rfl
 |(k,x)::u,id,h=>by simp_all [not_or,cp,n4]
theorem BQ (v v':Env):∀ (u:nw) {id:Nat},(v id=v' id∨id∈u.map (·.1))→cp v u id=cp v' u id
 |[],_,h=>by simp_all [cp]
 |(k,x)::u,id,h=>by
  simp only [cp];apply BQ _ _ u;grind
theorem Ls (v:Env) {a b:nw} (h:∀ id∈a.map (·.1),id ∉ b.map (·.1)):cp (cp v a) b=cp (cp v b) a:=by grind [id,n4,BQ]
theorem uv {a b:List Nat} (h:PE a b=true):∀ x∈a,x ∉ b:=by
 intro x hx hb;have:=abD.1 h x hx;simp_all
structure BR (a b:oJ):Prop where
 d1:∀ d,a.o.dst=some d→d ∉ b.log.reads∧b.o.dst≠some d
 d2:∀ d,b.o.dst=some d→d ∉ a.log.reads
 u1:∀ id∈a.r.2.map (·.1),id ∉ b.R∧id ∉ b.r.2.map (·.1)
 u2:∀ id∈b.r.2.map (·.1),id ∉ a.R
 made:a.mk'=true→∀ id∈b.T,id / 64≠a.g
theorem BR.of {a b:oJ} (h:indep a.log b.log=true):BR a b:=by
 simp only [indep,aa4] at h;obtain ⟨⟨⟨⟨h1,h2⟩,h3⟩,h4⟩,h5⟩:=h;refine ⟨λd hd=> ?_,λd hd=> ?_,λid hi=> ?_,λid hi=> ?_,λhm id hi=> ?_⟩
 . have:=uv h1 d (by simp [oJ.log,hd])
   simp only [abp,not_or] at this;refine ⟨this.1,λe=>this.2 ?_⟩;show d∈b.o.dst.toList;rw [e];simp
 . grind [uv,oJ.log]
 . have:=uv h3 id hi
   simp only [abp,not_or] at this;exact this
 . exact uv h4 id hi
 . have hm:a.log.mkd=true:=hm
   rw [hm] at h5;simp only [Bool.not_true,Bool.false_or,abD,bne_iff_ne] at h5;exact h5 id hi
theorem J9.congr {C:Cx} {n:Nat} {l:oJ} {s s':kM} (h:J9 C n l s) (ht:∀ j∈l.log.reads,s'.t j=s.t j) (hv:∀ id∈l.R,s'.v id=s.v id)
  (hk:∀ id∈l.T,s'.k id) (hf:l.skip=false→∀ id,id / 64=l.g→¬ s'.k id):J9 C n l s':=by
 have hx:l.skip=false→∀ x∈pj l.o.op,eT s'.t x=eT s.t x:=λhs x hx=>Lr λj e=>ht j (by
  subst e;simp only [oJ.log,hs,acs,if_false,abp];exact .inl (r9.2 hx))
 have hE:oD l.R s'.v=oD l.R s.v:=by
  funext id;unfold oD;by_cases hi:l.R.contains id=true
  . rw [aa5 hi,aa5 hi];exact hv id (by simpa using hi)
  . rw [aa3 hi,aa3 hi]
 have fq:∀ x∈pj l.op,l.skip=false→eT s'.t x=eT s.t x:=λx hxo hs=>by
  rcases h.eq hs with e|⟨p,q,r,e,h1⟩
  . rw [e] at hxo;exact hx hs x hxo
  . rcases h1 with ⟨_,e2⟩|⟨_,e2⟩<;>rw [e2] at hxo<;>simp only [pj,abF,List.not_mem_nil,or_false] at hxo<;>subst hxo<;>exact by grind [pj]
 refine ⟨?_,h.dst,h.skip,λhs=> ?_,λhs=> ?_,h.res,hk,hf⟩
 . have hg:=h.guard
   grind [uu,oJ.log]
 . rcases h.eq hs with e|⟨p,q,r,e,h1⟩
   . exact .inl e
   . refine .inr ⟨p,q,r,e, ?_⟩
     grind [pj]
 . rw [hE,H9 C l.op l.o.type (oD l.R s.v) (l.g*64) λx qZ=>fq x qZ hs]
   exact h.core hs
theorem swap {C:Cx} {n:Nat} {a b:oJ} {s:kM} (ha:J9 C n a s) (hb:J9 C n b (post a s)) (hi:BR a b) (hg:a.g≠b.g):
  J9 C n b s∧J9 C n a (post b s)∧post a (post b s)=post b (post a s):=by
 refine ⟨?_, ?_, ?_⟩
 . refine hb.congr (λj hj=> ?_) (λid hid=> ?_) (λid hid=> ?_) (λhs id hid hk=> ?_)
   . simp only [post]
     rw [aa3 λe=>(hi.d1 j e).1 hj]
   . simp only [post]
     rw [n4 _ _ λhu=>(hi.u1 id hu).1 hid]
   . rcases hb.known id hid with h|⟨h1,h2⟩
     . exact h
     . exact absurd h2 (hi.made h1 id hid)
   . exact hb.fresh hs id hid (.inl hk)
 . refine ha.congr (λj hj=> ?_) (λid hid=> ?_) (λid hid=> .inl (ha.known id hid)) (λhs id hid hk=> ?_)
   . simp only [post]
     rw [aa3 λe=>hi.d2 j e hj]
   . simp only [post]
     rw [n4 _ _ λhu=>hi.u2 id hu hid]
   . rcases hk with hk|⟨_,h2⟩
     . exact ha.fresh hs id hid hk
     grind
 . simp only [post,kM.mk.injEq]
   refine ⟨?_,(Ls _ λid h=>(hi.u1 id h).2).symm, ?_⟩
   . funext j
     by_cases h1:a.o.dst=some j
     . rw [aa5 h1,aa3 (hi.d1 j h1).2,aa5 h1]
     grind
   grind
def Seq (C:Cx) (n:Nat):List oJ→kM→kM→Prop
 |[],s,s'=>s=s'
 |l::L,s,s'=>J9 C n l s∧Seq C n L (post l s) s'
theorem Seq.first {C:Cx} {n:Nat} {b:oJ}:∀ {A R:List oJ} {s s':kM},Seq C n (A++b::R) s s'→(∀ a∈A,BR a b∧a.g≠b.g)→Seq C n (b::(A++R)) s s'
 |[],_,_,_,h,_=>h
 |a::A,R,s,s',h,hi=>by
  simp only [List.cons_append,Seq] at h;have:=Seq.first h.2 λx hx=>hi x (by simp [hx])
  simp only [Seq] at this;obtain ⟨q1,q2,q3⟩:=swap h.1 this.1 (hi a (by simp)).1 (hi a (by simp)).2;grind [Seq]
end
section
open Go
def z7 (s:du):Prop:=∀ d b,gU s.kn d=some b→s.t.getD d .dead= .b b
theorem cI {ρ σ:Type} {o:Out ρ} {f:ρ→Out σ} {r:σ} (h:(o.bind f).eval=some r):∃ x,o.eval=some x∧(f x).eval=some r:=by grind [Out.mW,Option.bind_eq_some_iff]
theorem uw {s:du} (h:z7 s) {x:Operand} {b:Bool} (hx:HP s.kn x=some b):eT s.f.t x= .b b:=by
 unfold HP at hx;split at hx
 . cases hx;rfl
 . exact h _ _ hx
 . cases hx
theorem abQ {s:du} (h:z7 s) (op:Op):afM s.f.t op (Vy s.kn op):=by
 unfold Vy;split
 . rename_i x y z
   split
   . rename_i e;exact .inr ⟨x,y,z,rfl, .inl ⟨uw h e,rfl⟩⟩
   . rename_i e;exact .inr ⟨x,y,z,rfl, .inr ⟨uw h e,rfl⟩⟩
   . exact .inl rfl
 . exact .inl rfl
theorem Ec (a b:List (Nat×Bool)) (d:Nat):gU (a++b) d=(gU a d).or (gU b d):=by
 induction a with
 |nil=>simp [gU]
 |cons x a ih=>
  grind [gU]
theorem z8 (kn:List (Nat×Bool)) (dst:Option Nat) (d:Nat) (b:Bool) (h:gU (JW kn dst) d=some b):dst≠some d∧gU kn d=some b:=by
 cases dst with
 |none=>exact ⟨by simp,h⟩
 |some e=>
  simp only [JW] at h
  induction kn with
  |nil=>simp [gU] at h
  |cons x kn ih=>
   obtain ⟨j,y⟩:=x;simp only [acS] at h;split at h
   . rename_i dV
     simp only [gU] at h ⊢;grind
   . rename_i dV
     have:=ih h;refine ⟨this.1, ?_⟩;simp only [gU];rw [aa3]
     . exact this.2
     . rintro rfl
       simp only [bne_iff_ne,ne_eq,Decidable.not_not] at dV;exact this.1 (by simp [dV])
theorem Aa {t:List ah} {d j:Nat} {v x:ah} (h:d<t.length):(t.set d v).getD j x=if d=j then v else t.getD j x:=by grind
theorem ux {t:List ah} {dst:Option Nat} (h:BC t dst=true) (v:ah) (j:Nat):(FU t dst v).getD j .dead=if dst=some j then v else t.getD j .dead:=by
 cases dst with
 |none=>simp [FU]
 |some d=>
  simp only [BC,abS] at h;grind [FU,Aa,Option.some.injEq]
theorem mj (t:List ah) (dst:Option Nat) (v:ah):(FU t dst v).length=t.length:=by cases dst<;>simp [FU]
theorem Ia {s:kM} (h:om s) (op:Op):∀ id∈tids op s.t s.v,s.k id:=by
 have step:∀ l:List Nat,(∀ id∈l,s.k id)→∀ id∈cl s.v l,s.k id:=by
  intro l hl id hi;simp only [cl,abp,List.mem_flatMap] at hi;rcases hi with hi|⟨k,hk,hi⟩
  . exact hl id hi
  . unfold PA at hi
    split at hi
    . rename_i x hx
      exact (h.v k x hx).2 id hi
    . cases hi
 refine step _ (step _ (step _ ?_));intro id hi;obtain ⟨x,_,hi⟩:=List.mem_flatMap.1 hi;cases x with
 |tmp j=>exact h.t j id hi
 |const v=>simp only [eT,ofValue] at hi;grind [ah.ids]
 |func f=>grind [eT,ah.ids,ah.bC]
 |global g=>grind [eT,ah.ids]
theorem sa {s:kM} {l:oJ} (hT:∀ id∈l.T,s.k id) {id:Nat} (h:PB l.T l.g (makes l.g l.r.2) id=true):(post l s).k id:=by
 simp only [PB,acQ,aa4,acy] at h;rcases h with h|h
 . exact .inl (by grind)
 . exact .inr h
theorem Gm {v:Env}:∀ {u:nw} {id:Nat} {x:bK},cp v u id=some x→v id=some x∨(id,some x)∈u
 |[],_,_,h=> .inl h
 |(k,y)::u,id,x,h=>by
  simp only [cp] at h;rcases Gm h with h|h
  . grind
  grind
theorem om.post {C:Cx} {n:Nat} {s:kM} {l:oJ} (h:om s) (hp:J9 C n l s):om (post l s):=by
 have hr:=hp.res;simp only [JV,aa4,abD] at hr;refine ⟨λj id hi=> ?_,λid x hx=> ?_⟩
 . have hi:id∈(if l.o.dst=some j then l.r.1 else s.t j).ids:=hi
   split at hi
   . exact sa hp.known (hr.1 id hi)
   . exact .inl (h.t j id hi)
 . rcases Gm hx with hx|hx
   . exact ⟨.inl (h.v id x hx).1,λdC hi=> .inl ((h.v id x hx).2 dC hi)⟩
   . have:=hr.2 _ hx
     simp only [Vx,aa4,abD] at this;exact ⟨sa hp.known this.1,λdC hi=>sa hp.known (this.2 dC hi)⟩
theorem fv:∀ (a b:List (Nat×bK)) (id:Nat),bf (a++b) id=match bf a id with|some x=>some x|none=>bf b id
 |[],_,_=>rfl
 |(k,x)::r,b,id=>by
  simp only [List.cons_append,bf];by_cases h:k=id
  . grind
  . rw [aa3 h,aa3 h];exact fv r b id
theorem vV:∀ {w:List (Nat×bK)} {id:Nat},id ∉ w.map (·.1)→bf w id=none
 |[],_,_=>rfl
 |(k,x)::r,id,h=>by
  simp only [acd,abF,not_or] at h;simp only [bf];rw [aa3 (λe=>h.1 e.symm)];exact vV h.2
theorem Ka (w:List (Nat×bK)):∀ (u:nw) (e:Env) (id:Nat),(∀ x∈u,x.1 ∉ w.map (·.1))→(match cp e u id with|some x=>some x|none=>bf w id)=cp (λj=>match e j with|some x=>some x|none=>bf w j) u id
 |[],_,_,_=>rfl
 |(k,x)::r,e,id,h=>by
  simp only [cp];rw [Ka w r _ id (by grind)];congr 1;funext j;by_cases hj:j=k
  . subst hj
    have hk:=vV (h (j,x) (by simp));grind
  grind
theorem TL {v w:List (Nat×bK)} {u:nw} (h:(u.all λx=> !(w.map (·.1)).contains x.1)=true):bf (AN v u++w)=cp (bf (v++w)) u:=by
 have h':∀ x∈u,x.1 ∉ w.map (·.1):=by grind
 funext id;rw [fv,vU,Ka w u _ id h'];congr 1;grind [fv]
theorem kr {s:du} {id:Nat} {x:bK} (h:bf s.v id=some x):s.env id=some x:=by simp_all [du.env,fv]
def sb (ops:List Oper) (o:Oper) (gd:Option (Nat×Bool)):Prop:=
 match o.guard with
 |none=>gd=none
 |some (j,want)=>∃ d,(ops[j]?).bind (·.dst)=some d∧gd=some (d,want)
theorem sb.dst {ops:List Oper} {o:Oper} {gd:Option (Nat×Bool)} (h:sb ops o gd):(gd.map (·.1)).toList=tT ops o.guard:=by
 unfold sb at h;unfold tT;grind
structure qS (C:Cx) (ops:List Oper) (g i:Nat) (o:Oper) (s s':du) (lg:Log):Prop where
 ex:∃ l:oJ,J9 C s.t.length l s.f∧s'.f=post l s.f∧l.i=i∧l.g=g∧l.o=o∧sb ops o l.gd∧l.log=lg
 kn:z7 s'
 len:s'.t.length=s.t.length
theorem Gn {C:Cx} {op:Op} {ty:Nat} {t:Operand→ah} {T:List Nat} {v:Env} {fr:Nat} {r:gY} (h:(core0 C op ty t (oD T v) fr).eval=some r):(core0 C op ty t (oD (PD T t op) v) fr).eval=some r:=by
 cases op
 case load tid x=>
  obtain ⟨ty',ko,h⟩:=aK (show (Out.of (C.ty tid) λt'=>zw (oD T v) (C.T5 (fr / 64)) t' (t x) fr).eval=some r from h);show (Out.of (C.ty tid) λt'=>zw (oD (PD T t (.load tid x)) v) (C.T5 (fr / 64)) t' (t x) fr).eval=some r;rw [ko];show (zw (oD (match t x with| .vptr id _=>T.filter (· ==id)|_=>T) v) (C.T5 (fr / 64)) ty' (t x) fr).eval=some r;generalize t x=d at h ⊢;cases d
  case vptr id off=>
   have e:oD (T.filter (· ==id)) v id=oD T v id:=by
    unfold oD;grind
   grind [zw]
  all_goals exact h
 all_goals exact h
theorem TM {C:Cx} {op:Op} {ty:Nat} {t:Operand→ah} {T:List Nat} {v:Env} {fr:Nat} {r:gY} (h:(core C op ty t (oD T v) fr).eval=some r):(core C op ty t (oD (PD T t op) v) fr).eval=some r:=by
 unfold core at h ⊢;split at h
 . rename_i hz
   rw [aa5 hz];grind [Out.mW,Option.bind_eq_some_iff,Gn]
 simp_all [Gn]
theorem Ib {C:Cx} {op:Op} {ty:Nat} {t:Operand→ah} {E:Env} {fr:Nat} {r:gY} {x:Bool} (h0:core0 C op ty t E fr=cu (.b x)) (h:(core C op ty t E fr).eval=some r):r=(.b x,[]):=by
 unfold core at h;rw [h0] at h;split at h
 . exact (aa6 (show some (ah.b x,([]:nw))=some r from h)).symm
 . exact aT h
theorem vW {C:Cx} {ops:List Oper} {g i:Nat} {o:Oper} {s s':du} {lg:Log} {gd:Option (Nat×Bool)} (hk:z7 s) (hn:om s.f) (Ed:sb ops o gd) (hg:∀ d want,gd=some (d,want)→s.f.t d= .b want)
  (h:(zz C ops g i o s).eval=some (s',lg)):qS C ops g i o s s' lg:=by
 unfold zz at h;obtain ⟨r,hr,h⟩:=cI h;split at h
 case isFalse=>cases h
 rename_i hc;obtain ⟨Lt,iI,H5,afN⟩:=hc;have h:=aa6 h;obtain ⟨rfl,rfl⟩:=Prod.mk.inj h;have abR:J9 C s.t.length { i,g,o,op:=Vy s.kn o.op,gd,skip:=false,T:=tids (Vy s.kn o.op) s.f.t s.f.v,R:=PD (tids (Vy s.kn o.op) s.f.t s.f.v) (eT s.f.t) (Vy s.kn o.op),r } s.f:=by
  refine ⟨?_, ?_,λe=>(by cases e),λ_=>abQ hk o.op,λ_=>TM hr,Lt,Ia hn _,λ_ id hid kH=> ?_⟩
  . grind [uu]
  . grind [BC]
  grind [du.f]
 refine ⟨⟨_,abR, ?_,rfl,rfl,rfl,Ed, ?_⟩, ?_,mj _ _ _⟩
 . simp only [du.f,post,kM.mk.injEq]
   refine ⟨funext λj=> ?_,TL afN,funext λid=>propext ?_⟩
   . grind [ux]
   . simp only [oJ.mk']
     grind
 . simp only [oJ.log,acs,if_false,Ed.dst,oJ.mk'];rfl
 . intro d b hf
   simp only at hf ⊢;rw [Ec] at hf;rw [ux H5];cases jB:gU (PC s.kn o.dst (Vy s.kn o.op)) d with
   |none=>
    rw [jB] at hf;obtain ⟨h1,h2⟩:=z8 _ _ _ _ hf;rw [aa3 h1];exact hk d b h2
   |some b'=>
    rw [jB] at hf;have hf:b'=b:=by simpa using hf
    subst hf;have key:∀ (x:Operand) (b0:Bool),HP s.kn x=some b0→eT (λj=>s.t.getD j .dead) x= .b b0:=λx b0 hx=>uw hk hx;unfold PC at jB;split at jB
    . rename_i x Q0
      split at jB
      . rename_i d' b0 hd1 hkx
        simp only [gU] at jB;split at jB
        . rename_i e;subst e;cases jB
          rw [aa5 hd1];rw [Q0] at hr;rw [Ib (by simp only [core0,key x _ hkx,Pw];rfl) hr]
        . cases jB
      grind [gU]
    . rename_i x Q0
      split at jB
      . rename_i d' b0 hd1 hkx
        simp only [gU] at jB;split at jB
        . rename_i e;subst e;cases jB
          rw [aa5 hd1];rw [Q0] at hr;rw [Ib (by simp only [core0,key x _ hkx,Pw];rfl) hr]
        . cases jB
      grind [gU]
    . rename_i x Q0
      split at jB
      . rename_i d' b0 hd1 hkx
        simp only [gU] at jB;split at jB
        . rename_i e;subst e;cases jB
          rw [aa5 hd1];rw [Q0] at hr;rw [Ib (by simp only [core0,key x _ hkx,unD];rfl) hr]
        . cases jB
      grind [gU]
    grind [gU]
theorem vX {C:Cx} {ops:List Oper} {g i:Nat} {o:Oper} {s s':du} {lg:Log} {gd:Option (Nat×Bool)} {d:Nat} {want:Bool} (hk:z7 s) (Ed:sb ops o gd) (e:gd=some (d,want)) (hg:s.f.t d= .b (!want)∨s.f.t d= .undef)
  (h:(zA ops g i o s).eval=some (s',lg)):qS C ops g i o s s' lg:=by
 unfold zA at h;split at h
 case isFalse=>cases h
 rename_i H5;have h:=aa6 h;obtain ⟨rfl,rfl⟩:=Prod.mk.inj h;have abR:J9 C s.t.length { i,g,o,op:=o.op,gd,skip:=true,T:=[],R:=[],r:=(.undef,[]) } s.f:=by
  refine ⟨?_, ?_,by grind,λe=>(by cases e),λe=>(by cases e),by simp [JV,ah.ids],by simp,λe=>(by cases e)⟩
  . grind [uu]
  grind [BC]
 refine ⟨⟨_,abR, ?_,rfl,rfl,rfl,Ed, ?_⟩, ?_,mj _ _ _⟩
 . simp only [du.f,post,kM.mk.injEq]
   refine ⟨funext (by grind [ux]),rfl,funext λid=>propext ?_⟩;simp [oJ.mk',makes]
 . simp [oJ.log,Ed.dst,oJ.mk',makes]
 . intro d b hf
   simp only at hf ⊢;obtain ⟨h1,h2⟩:=z8 _ _ _ _ hf;rw [ux H5,aa3 h1];exact hk d b h2
end
section
open Go
theorem Ic {s:du} {d:Nat} {b:Bool} (h:s.t.getD d .dead= .b b) (kn:List (Nat×Bool)):({ s with t:=s.t.set d (.b b),kn }:du).f=s.f:=by
 have hd:d<s.t.length:=by grind
 simp only [du.f,kM.mk.injEq,afr];refine ⟨?_,rfl⟩;grind
theorem Ee {s:du} (hk:z7 s) {d:Nat} {b:Bool} (h:s.t.getD d .dead= .b b):z7 { s with t:=s.t.set d (.b b),kn:=(d,b)::s.kn }:=by
 intro j b' hf;have hd:d<s.t.length:=by grind
 simp only [gU] at hf;simp only [Aa hd];split at hf
 . grind
 . rename_i e;rw [aa3 e];exact hk j b' hf
theorem qS.of {C:Cx} {ops:List Oper} {g i:Nat} {o:Oper} {s s1 s':du} {lg:Log} (h:qS C ops g i o s1 s' lg) (hf:s1.f=s.f) (hl:s1.t.length=s.t.length):qS C ops g i o s s' lg:=by
 obtain ⟨h1,h2,h3⟩:=h;rw [hf,hl] at h1;exact ⟨h1,h2,h3.trans hl⟩
theorem TN {C:Cx} {ops:List Oper} {g i:Nat} {o:Oper} {s s':du} {lg:Log} (hk:z7 s) (hn:om s.f) (h:(opL C ops g i o s).eval=some (s',lg)):qS C ops g i o s s' lg:=by
 unfold opL at h;split at h
 . rename_i e
   exact vW (gd:=none) hk hn (by unfold sb;simp [e]) (λd want hd=>by cases hd) h
 . rename_i j want e
   split at h
   . cases h
   . rename_i d hd
     have Ed:sb ops o (some (d,want)):=by unfold sb;simp only [e];exact ⟨d,hd,rfl⟩
     split at h
     . rename_i b hb
       have hb:=hk d b hb;split at h
       . rename_i e;subst e
         exact vW hk hn Ed (λd' afP VH=>by cases VH;exact hb) h
       . rename_i dV
         exact vX hk Ed rfl (.inl (by rw [show s.f.t d= .b b from hb];cases b<;>cases want<;>simp_all)) h
     . split at h
       . rename_i b hb
         replace h:=bX h;rcases h with ⟨hc,h⟩|⟨hc,h⟩
         . have hc:b=want:=by simpa using hc
           subst hc;have hf:=Ic hb ((d,b)::s.kn);refine (vW (Ee hk hb) (by rw [hf];exact hn) Ed (λd' afP VH=> ?_) h).of hf (by simp);cases VH;rw [hf];exact hb
         . have hc:b= !want:=by cases b<;>cases want<;>simp_all
           subst hc;have hf:=Ic hb ((d, !want)::s.kn);refine (vX (Ee hk hb) Ed rfl (.inl ?_) h).of hf (by simp);rw [hf];exact hb
       . rename_i hb
         exact vX hk Ed rfl (.inr hb) h
       . cases h
theorem wM {C:Cx} {ops:List Oper} {base:Nat}:∀ (l:List (Nat×Oper)) (s s':du) (lg lg':List Log),(nU C ops base l s lg).eval=some (s',lg')→z7 s→om s.f→
  ∃ L:List oJ,Seq C s.t.length L s.f s'.f∧z7 s'∧s'.t.length=s.t.length∧lg'=(L.map oJ.log).reverse++lg∧L.map (λd=>(d.i,d.o))=l∧∀ d∈L,d.g=base+d.i∧sb ops d.o d.gd
 |[],s,s',lg,lg',h,hk,hn=>by
  simp only [nU] at h;obtain ⟨rfl,rfl⟩:=Prod.mk.inj (aa6 h);exact ⟨[],rfl,hk,rfl,by simp,rfl,by simp⟩
 |(i,o)::r,s,s',lg,lg',h,hk,hn=>by
  simp only [nU] at h;obtain ⟨⟨s1,g1⟩,h1,h2⟩:=cI h;obtain ⟨⟨l,hp,VI,rfl,hg,rfl,Ed,rfl⟩,k2,k3⟩:=TN hk hn h1;have QZ:om s1.f:=by rw [VI];exact hn.post hp
  obtain ⟨L,q1,q2,q3,q4,q5,q6⟩:=wM r s1 s' _ lg' h2 k2 QZ;refine ⟨l::L,⟨hp,by rw [← VI, ← k3];exact q1⟩,q2,q3.trans k3, ?_,by simp [q5], ?_⟩
  . rw [q4];simp
  . intro d hd
    rcases abF.1 hd with rfl|hd
    . exact ⟨hg,Ed⟩
    . exact q6 d hd
section
variable {c:Ctx} {μ μ':Nat→Loc} {fp fp':Nat→List Nat} {s:kM} {n:Nat} {a:Act} {w w':World} {C:Cx}
theorem uy {a:Act} {dst:Option Tmp} {v:Value} {j n:Nat} (hn:n≤a.tmps.size) (hd:∀ d,dst=some d→d<n):(a.put dst v).tmps.getD j Go.undef=if dst=some j then v else a.tmps.getD j Go.undef:=by
 cases dst with
 |none=>simp [Act.put]
 |some d=>
  have:=hd d rfl;simp only [Act.put,afb, Array.getElem?_setIfInBounds,acv];grind
theorem pG (a:Act) (dst:Option Tmp) (v:Value):(a.put dst v).tmps.size=a.tmps.size:=by cases dst<;>simp [Act.put]
theorem put_defers (a:Act) (dst:Option Tmp) (v:Value):(a.put dst v).defers=a.defers:=by cases dst<;>rfl
theorem il.did {l:oJ} {v':Value} {c':Ctx} (h:il c μ fp s n a w) (hp:J9 C n l s) (e:Ext c c') (q:DZ c' μ s l.r v' w' μ' fp'):il c' μ' fp' (post l s) n (a.put l.o.dst v') w' where
 tm j:=by
  rw [uy h.n hp.dst];show an c' μ' _ (if l.o.dst=some j then l.r.1 else s.t j);split
  . exact q.val
  . exact an.ext e _ (an.mono _ (λid hi=>q.agree id (h.known.t j id hi)) (h.tm j))
 n:=by rw [pG];exact h.n
 defers:=by rw [put_defers];exact h.defers
 vs:=q.vs
 known:=h.known.post hp
 ev:=q.ev
 fix id hi:=⟨.inl (h.fix id hi).1,by rw [e.loc];exact (q.agree id (h.fix id hi).1).trans (h.fix id hi).2⟩
theorem Qa {P:Program} {o o':Oper} {a:Act} {w:World} {K:Act→World→Prop} {Q:Exit→Act→World→Prop} (hd:o'.dst=o.dst) (hr:(execOp a.eval o).run P w=(execOp a.eval o').run P w) (h:o'.wp P a w K Q):o.wp P a w K Q:=by
 unfold Oper.wp at h ⊢;rw [hr];revert h;generalize (execOp a.eval o').run P w=r;simp_all [Oper.upon]
theorem BS (hC:iF C c.P) (hF:iZ C c.P) {ops:Array Oper} {l:oJ} {K:Act→World→Prop} {Q:Exit→Act→World→Prop} (h:il c μ fp s n a w) (hp:J9 C n l s) (ho:ops[l.i]? =some l.o) (Ed:sb ops.toList l.o l.gd)
  (hK:∀ c' a' w' μ' fp',Ext c c'→il c' μ' fp' (post l s) n a' w'→K a' w'):wpOp c.P ops Q l.i K a w:=by
 unfold wpOp;simp only [ho];have hw:Region.wanted l.o (yielded ops a.tmps)= !l.skip:=by
  have hg:=hp.guard;unfold uu at hg;unfold sb at Ed;unfold Region.wanted;split at Ed
  . grind
  . rename_i j want e
    obtain ⟨d,h1,h2⟩:=Ed;rw [h2] at hg;simp only at hg;simp only [e];have h1':(ops[j]?).bind (·.dst)=some d:=by simpa using h1
    have hv:=h.tm d;unfold yielded;rw [h1'];simp only [acf];rw [afb] at hv;cases hs:l.skip with
    |false=>
     rw [hs] at hg;simp only [acs,if_false] at hg;rw [hg] at hv;simp only [an] at hv;cases ht:a.tmps[d]? with
     |none=>rw [ht] at hv;cases hv
     |some y=>grind
    |true=>
     rw [hs] at hg;simp only [ae4] at hg;rcases hg with hg|hg<;>rw [hg] at hv<;>simp only [an] at hv<;>cases ht:a.tmps[d]? with
     |none=>rfl
     |some y=>rw [ht] at hv;simp only [Option.getD_some] at hv;subst hv;first|rfl|grind
 rw [hw];cases hs:l.skip with
 |true=>
  simp only [Bool.not_true,acs,if_false];obtain ⟨e1,e2,_⟩:=hp.skip hs;exact hK c _ _ μ fp (Ext.refl c) (h.did hp (Ext.refl c) ⟨λ_ _=>rfl,by rw [e1];rfl,by rw [e1];exact h.vs,h.ev⟩)
 |false=>
  simp only [Bool.not_false,ae4];left;have hE:∀ id x,oD l.R s.v id=some x→s.v id=some x:=by grind [id,oD]
  have abP:=P9 (o:={ l.o with op:=l.op }) h hC hF hE (fr:=l.g*64) (λid h1 h2=>hp.fresh hs id (by omega)) (hp.core hs);have hwp:=abP K Q λc' v' w' μ' fp' e q=>hK c' _ _ μ' fp' e (h.did hp e q);refine Qa (o':={ l.o with op:=l.op }) rfl ?_ hwp;rcases hp.eq hs with e|⟨x,y,z,e,h1⟩
  . rw [e]
  . have hv:=h.ca x
    grind [an,execOp,asBool]
end
end
section
open Go
theorem BT (l:List Nat):∀ (after:List Edge) (s0 x:Nat),(after.foldl (λs e=>if Region.binds .any e then s ||| 2 ^ e.on ||| l.getD e.on 0 else s) s0).testBit x=true→
  s0.testBit x=true∨∃ e∈after,Region.binds .any e=true∧(x=e.on∨(l.getD e.on 0).testBit x=true)
 |[],s0,x,h=> .inl h
 |e::r,s0,x,h=>by
  simp only [acn] at h;rcases BT l r _ x h with h|⟨e',h1,h2⟩
  . grind
  grind
theorem Qb {l:List Nat} {after:List Edge} {x:Nat} (h:(bits l after).testBit x=true):∃ e∈after,Region.binds .any e=true∧(x=e.on∨(l.getD e.on 0).testBit x=true):=by
 rcases BT l after 0 x h with h|h
 . simp at h
 . exact h
theorem wN:∀ (r:List Oper) (acc:List Nat),(eW r acc).take acc.length=acc∧
  ∀ (k:Nat) (o:Oper),r[k]? =some o→(eW r acc).getD (acc.length+k) 0=bits ((eW r acc).take (acc.length+k)) o.after.toList
 |[],acc=>by simp [eW]
 |o::r,acc=>by
  obtain ⟨h1,h2⟩:=wN r (acc++[bits acc o.after.toList]);simp only [abz,List.length_singleton] at h1 h2;have ht:(eW (o::r) acc).take acc.length=acc:=by
   show (eW r (acc++[bits acc o.after.toList])).take acc.length=acc;have:(eW r (acc++[bits acc o.after.toList])).take acc.length=((eW r (acc++[bits acc o.after.toList])).take (acc.length+1)).take acc.length:=by grind
   grind
  refine ⟨ht,λk o' hk=> ?_⟩;cases k with
  |zero=>
   simp only [List.getElem?_cons_zero,acv] at hk;subst hk;rw [ae9,ht];show (eW r (acc++[bits acc o.after.toList])).getD acc.length 0=_;have:(eW r (acc++[bits acc o.after.toList]))[acc.length]? =((eW r (acc++[bits acc o.after.toList])).take (acc.length+1))[acc.length]? :=by grind
   grind
  |succ k=>
   have:=h2 k o' (by simpa using hk);rw [show acc.length+(k+1)=acc.length+1+k by omega];exact this
theorem Ie {ops:List Oper} {i:Nat} {o:Oper} (ho:ops[i]? =some o) {x:Nat} (h:((eW ops []).getD i 0).testBit x=true):
  ∃ e∈o.after.toList,Region.binds .any e=true∧(x=e.on∨(e.on<i∧((eW ops []).getD e.on 0).testBit x=true)):=by
 have:=(wN ops []).2 i o ho;simp only [abA,acw] at this;grind [Qb,id]
theorem Gp:∀ (r:List Oper) (n:Nat),BD n r=true→∀ (k:Nat) (o:Oper),r[k]? =some o→∀ e∈o.after.toList,Region.binds .any e=true→e.on<n+k
 |[],_,_,k,o,hk=>by simp at hk
 |o::r,n,h,k,o',hk=>by
  simp only [BD,aa4,abD] at h;cases k with
  |zero=>
   grind
  |succ k=>
   intro e he hb;have:=Gp r (n+1) h.2 k o' (by simpa using hk) e he hb;omega
theorem pH (B:List Nat):∀ (l:List Log),tU B l=true→l.Pairwise λb a=>(B.getD b.i 0).testBit a.i=true∨indep a b=true
 |[],_=>List.Pairwise.nil
 |b::r,h=>by
  simp only [tU,aa4,abD,acQ] at h;exact List.Pairwise.cons (λa ha=>h.1 a ha) (pH B r h.2)
section
variable {c:Ctx} {n:Nat} {C:Cx}
theorem BU {ops:Array Oper} {Q:Exit→Act→World→Prop} {sf:kM} {P:Program} (hC:iF C P) (hF:iZ C P) {c0:Ctx} (hP:c0.P=P) (hQ:∀ c μ fp a w,Ext c0 c→il c μ fp sf n a w→Q .normal a w):
  ∀ (L:List oJ) (s:kM) (μ:Nat→Loc) (fp:Nat→List Nat) (a:Act) (w:World) (c:Ctx),Ext c0 c→Seq C n L s sf→(∀ d∈L,ops[d.i]? =some d.o∧sb ops.toList d.o d.gd)→il c μ fp s n a w→wpOps P ops Q (L.map (·.i)) a w
 |[],s,μ,fp,a,w,c,e,hs,_,h=>by
  simp only [Seq] at hs;subst hs;exact hQ c μ fp a w e h
 |d::L,s,μ,fp,a,w,c,e,hs,hL,h=>by
  have hcP:c.P=P:=e.P.trans hP;rw [acd,wpOps_cons];have:=BS (Q:=Q) (by rw [hcP];exact hC) (by rw [hcP];exact hF) h hs.1 (hL d (by simp)).1 (hL d (by simp)).2 λc' a' w' μ' fp' e' h'=>BU hC hF hP hQ L _ μ' fp' a' w' c' (e.trans e') hs.2 (λx hx=>hL x (by simp [hx])) h';rw [hcP] at this;exact this
theorem BV {ops:Array Oper} {listed:Array Bool} {i:Nat} (h:i∈Region.ready .any ops listed):
  i<ops.size∧listed.getD i true=false∧∃ o,ops[i]? =some o∧∀ e∈o.after.toList,Region.binds .any e=true→listed.getD e.on false=true:=by
 unfold Region.ready at h;simp only [List.mem_filter,List.mem_range,aa4,acJ] at h;obtain ⟨h1,h2,h3⟩:=h;cases ho:ops[i]? with
 |none=>grind
 |some o=>
  rw [ho] at h3;simp only [adu,Option.getD_some] at h3;refine ⟨h1,h2,o,rfl,λe he hb=> ?_⟩;grind [Array.all_eq_true_iff_forall_mem]
theorem Qc {ops:Array Oper} {listed:Array Bool} {i:Nat} {o:Oper} (h1:i<ops.size) (h2:listed.getD i true=false) (ho:ops[i]? =some o) (h:∀ e∈o.after.toList,Region.binds .any e=true→listed.getD e.on false=true):
  i∈Region.ready .any ops listed:=by
 unfold Region.ready;grind
structure Left (C:Cx) (n:Nat) (ops:Array Oper) (base:Nat) (listed:Array Bool) (R:List oJ) (s sf:kM):Prop where
 size:listed.size=ops.size
 left:∀ i,i<ops.size→(listed.getD i true=false↔∃ d∈R,d.i=i)
 sorted:R.Pairwise λa b=>a.i<b.i
 inv:∀ j,j<ops.size→listed.getD j true=true→∀ x,((eW ops.toList []).getD j 0).testBit x=true→listed.getD x false=true
 indep:R.Pairwise λa b=>((eW ops.toList []).getD b.i 0).testBit a.i=true∨indep a.log b.log=true
 all:∀ d∈R,ops[d.i]? =some d.o∧sb ops.toList d.o d.gd∧d.g=base+d.i
 seq:Seq C n R s sf
theorem BW {l:Array Bool} {i:Nat} (h:i<l.size):l.getD i false=l.getD i true:=by grind
theorem Left.done {ops:Array Oper} {base:Nat} {listed:Array Bool} {R:List oJ} {s sf:kM} (h:Left C n ops base listed R s sf) (hb:BD 0 ops.toList=true) (hr:Region.ready .any ops listed=[]):s=sf:=by
 cases R with
 |nil=>exact h.seq
 |cons d R=>
  exfalso;obtain ⟨ho,_,_⟩:=h.all d (by simp);have hi:d.i<ops.size:=(by grind)
  have:d.i∈Region.ready .any ops listed:=by
   refine Qc hi ((h.left d.i hi).2 ⟨d,by simp,rfl⟩) ho λe he hbe=> ?_;have bS:=Gp ops.toList 0 hb d.i d.o (by simpa using ho) e he hbe;rw [acw] at bS;rw [BW (by rw [h.size];omega)];cases hl:listed.getD e.on true with
   |true=>rfl
   |false=>
    obtain ⟨d',VH,e'⟩:=(h.left e.on (by omega)).1 hl;rcases abF.1 VH with rfl|VH
    . omega
    . have:=List.rel_of_pairwise_cons h.sorted VH
      omega
  grind
theorem BX {ops:Array Oper} {base:Nat} {Q:Exit→Act→World→Prop} {sf:kM} {P:Program} (hC:iF C P) (hF:iZ C P) {c0:Ctx} (hP:c0.P=P) (hb:BD 0 ops.toList=true) (hQ:∀ c μ fp a w,Ext c0 c→il c μ fp sf n a w→Q .normal a w):
  ∀ (fuel:Nat) (listed:Array Bool) (R:List oJ) (s:kM) (μ:Nat→Loc) (fp:Nat→List Nat) (a:Act) (w:World) (c:Ctx),Ext c0 c→R.length≤fuel→Left C n ops base listed R s sf→il c μ fp s n a w→wpAny P .any ops Q fuel listed a w
 |0,listed,R,s,μ,fp,a,w,c,ec,hl,h,hx=>by
  obtain rfl:R=[]:=by grind
  have hr:Region.ready .any ops listed=[]:=by
   cases hr:Region.ready .any ops listed with
   |nil=>rfl
   |cons i r=>
    obtain ⟨h1,h2,_⟩:=BV (i:=i) (by rw [hr];simp);obtain ⟨d,hd,_⟩:=(h.left i h1).1 h2;simp at hd
  exact ⟨hr,by have:=h.done hb hr;grind⟩
 |fuel+1,listed,R,s,μ,fp,a,w,c,ec,hl,h,hx=>by
  have hcP:c.P=P:=ec.P.trans hP;refine ⟨λhr=>by have:=h.done hb hr;grind,λi hi=> ?_⟩;obtain ⟨h1,h2,o,ho,afR⟩:=BV hi;obtain ⟨d,hd,rfl⟩:=(h.left i h1).1 h2;obtain ⟨A,A',rfl⟩:=List.append_of_mem hd;obtain ⟨hod,Ed,hgb⟩:=h.all d hd;rw [hod] at ho;cases ho
  -- what is done ahead of it is listed
  have ajj:∀ x,((eW ops.toList []).getD d.i 0).testBit x=true→listed.getD x false=true:=by
   intro x hxb;obtain ⟨e,he,hbe,h3⟩:=Ie (by simpa using hod) hxb;have hle:=afR e he hbe;rcases h3 with rfl|⟨bS,h3⟩
   . exact hle
   . exact h.inv e.on (by omega) (by grind) x h3
  have akN:=List.pairwise_append.1 h.sorted;have ajl:=List.pairwise_append.1 h.indep;have abT:∀ x∈A,BR x d∧x.g≠d.g:=by
   intro x hxA;have bS:x.i<d.i:=by grind
   refine ⟨?_, ?_⟩
   . rcases ajl.2.2 x hxA d (by simp) with GK|GK
     . exfalso
       have:=ajj x.i GK;rw [BW (by rw [h.size];omega),(h.left x.i (by omega)).2 (by grind)] at this;cases this
     grind [BR.of]
   . rw [(h.all x (by simp [hxA])).2.2,hgb];omega
  have afS:=h.seq.first abT
  rw [← hcP];refine BS (by grind) (by grind) hx afS.1 hod Ed λc' a' w' μ' fp' e' qZ=> ?_;rw [hcP];have fq:(A++A').Sublist (A++d::A'):=(by grind)
  have dV:∀ x∈A++A',x.i≠d.i:=by grind [List.rel_of_pairwise_cons]
  have Fe:∀ j abU,j<ops.size→(listed.setIfInBounds d.i true).getD j abU=if d.i=j then true else listed.getD j abU:=by
   intro j abU hj;have QT:j<listed.size:=by rw [h.size];exact hj
   simp only [afb, Array.getElem?_setIfInBounds];grind
  refine BX hC hF hP hb hQ fuel _ (A++A') _ μ' fp' a' w' c' (ec.trans e') (by grind) ⟨by simp [h.size], ?_,h.sorted.sublist fq, ?_,h.indep.sublist fq,λx hxm=>h.all x (fq.subset hxm),afS.2⟩ qZ
  . intro j hj
    rw [Fe j true hj];by_cases e:d.i=j
    . grind
    . rw [aa3 e,h.left j hj]
      grind
  . intro j hj hlj x hxb
    have key:listed.getD x false=true:=by
     rw [Fe j true hj] at hlj;by_cases e:d.i=j
     . grind
     . rw [aa3 e] at hlj
       exact h.inv j hj hlj x hxb
    have AQ:x<ops.size:=by
     rcases acH x listed.size with bS|GP
     . rw [h.size] at bS;exact bS
     grind
    simp_all
end
end
end Go.Proofs.YtnlleofnjkeimaaGreatDoor.Dm
