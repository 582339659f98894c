/- f -/
import Derived.Test.YtohagdoklnkljaaGreatJ11
import Derived.Test.YtohagdoklnkljaaGreatJ10
import Derived.Test.YtohagdoklnkljaaGreatJ5
namespace Go.Proofs.YtohagdoklnkljaaGreat.Dm
section
open Go Go.ChangeShapes Go.WideShapes Go.ChangeAt Go.RowKit
section
variable {x tl:Int} {u u':UT} {p:af} {l l':List ET} {β:Type} {n m:Nat} {v w code:Int}
def eJ (w:Int) (u:UT):Prop:=∃ q∈bu u,q.1=w∧cQ q≠6
theorem eJ.set {f:af→af} (h:eJ w u) (hf:∀ q,(f q).1=q.1) (h6:v=w→∀ q,cQ q≠6→cQ (f q)≠6):eJ w (de v f u):=by
 obtain ⟨q,hq,rfl,q6⟩:=h;by_cases e:q.1=v
 . exact ⟨f q,gh.2 ⟨q,hq,aaK e⟩,hf q,h6 e.symm q q6⟩
 . exact ⟨q,gh.2 ⟨q,hq,aap e⟩,rfl,q6⟩
theorem eJ.jS (h:eJ w u):eJ w (gB v u):=eJ.set (u:=u) (v:=v) (f:=kS 1 0) h (fun _=>rfl) fun _ _ _=>by show (1:Int)≠6;omega
theorem eJ.fold {α:Type} {f:UT→α→UT}:∀ {a:List α} {u:UT},(∀ y∈a,∀ u,eJ w u→eJ w (f u y))→eJ w u→eJ w (a.foldl f u)
 |[],_,_,h=>h
 |y::a,u,hf,h=>eJ.fold (a:=a) (fun z hz=>hf z (by simp [hz])) (hf y (by simp) u h)
theorem eJ.cZ {t:Int} (h:eJ w u):eJ w (fD t u):=eJ.fold (f:=fun u v=>gB v u) (fun _ _ _ h=>h.jS) h
theorem eJ.fds {f:List Int} (h:eJ w u):eJ w (de v (cm f) u):=h.set (fun _=>rfl) fun _ _ q=>q
theorem eJ.close {k:Nat} (h:eJ w u):eJ w (kW v k u):=by
 unfold kW;split
 . exact h
 split
 . exact h
 split
 . exact h
 split
 . exact h.fds
 split
 . exact h.fds
 split
 . exact eJ.cZ (u:=bx _ (de v _ u)) h.fds
 . exact h.fds
theorem eJ.Fl {k:Nat} (h:eJ w u):eJ w (cq v k u):=eJ.fold (f:=kx v) (fun j _ u h=>by
 unfold kx;split
 . exact h
 . split
   . exact h
   . exact h.close) h
theorem eJ.kid {q:af} (hq:q.1=w→cQ q≠6) (h:eJ w u):eJ w (qa v u q):=by
 unfold qa;split
 . split
   . rename_i e6
     obtain ⟨r,hr,rfl,r6⟩:=h;exact ⟨r,iL.2 ⟨hr,fun e=>hq e.symm e6⟩,rfl,r6⟩
   . exact h.set (fun _=>rfl) fun _ _ q=>q
 . exact h
theorem eJ.kids {ks:List af} (hq:∀ q∈ks,q.1=w→cQ q≠6) (h:eJ w u):eJ w (gk v ks u):=eJ.fold (f:=qa v) (fun q hm _ h=>h.kid (hq q hm)) h
theorem eJ.last (h:eJ w u) (dW:w≠v):eJ w (Fe v code u):=by
 have hz:eJ w (de v (fun p=>ga code (kS 6 0 p)) (dA (·.erase v) u)):=eJ.set (u:=dA (·.erase v) u) h (fun _=>rfl) fun e=>absurd e.symm dW;unfold Fe;split
 . exact h
 split
 . obtain ⟨r,hr,rfl,r6⟩:=h
   exact ⟨r,iL.2 ⟨hr,dW⟩,rfl,r6⟩
 split
 . exact hz
 split
 . exact hz.jS
 . exact hz
theorem eJ.ends (hI:aN 0 tl u) (hp:p∈bu u) (h1:cQ p=1) (h:eJ w u) (dW:w≠p.1):eJ w (jd p.1 code u):=by
 obtain ⟨_,_,_,_,_,_,_,hD,_⟩:=tL hI hp h1;have hd:eJ w (lT p.1 (cq p.1 4 u)):=h.Fl.set (fun _=>rfl) fun _ _ q=>q;refine eJ.last (eJ.kids (fun q hq e=> ?_) hd) dW;obtain ⟨r,hr,e2,r6⟩:=hd;rw [hD.cT.inj hq hr (e.trans e2.symm)];exact r6
theorem eJ.exit (hI:aN 0 tl u) (hp:p∈bu u) (h6:cQ p≠6) (h:eJ w u) (dW:w≠p.1):eJ w (pq p.1 code u):=by
 unfold pq;rw [show ee ao (bu u) p.1=some p from dP hI.cT hp];simp only;split
 . rename_i h1;exact eJ.ends hI hp h1 h dW
 . rename_i h1
   exact eJ.ends (p:=kS 1 0 p) (z8 hI hp h6 h1) ((bf hI.cT hp).2 (.inl rfl)) rfl h.jS dW
def CR (p:af) (c:ag) (u:UT):UT:=match ee ao (bu u) (dj c 0) with
 |none=>cI p.1 c (-1) u
 |some q=>if cQ q=6 then cI p.1 c (-1) u else if dj c 0=p.1 then pq p.1 (-1) u else cI p.1 c 0 (pq (dj c 0) (-1) u)
theorem ac7 (h:aN 0 tl u) (hp:p∈bu u) (h1:cQ p=1) {c:ag} (hc:aR c.1 c.2.1=true):aN 0 tl (CR p c u):=by
 unfold CR;split
 . exact cu h hp hc (by rfl)
 . rename_i q e
   obtain ⟨hq,e⟩:=z7 e;have e:q.1=dj c 0:=e;split
   . exact cu h hp hc (by rfl)
   . rename_i q6
     split
     . exact Ai h hp (by omega) (by rfl)
     . rename_i dW
       rw [← e] at dW ⊢;obtain ⟨r,hr,er,_⟩:=eJ.exit (code:= -1) h hq q6 ⟨p,hp,rfl,by omega⟩ (Ne.symm dW);rw [← er];exact cu (Ai h hq q6 (by rfl)) hr hc (by rfl)
theorem ac8 (h:aN 0 tl u) (hp:p∈bu u) (h1:cQ p=1) {c:ag} (hc:aR c.1 c.2.1=true) (hl:l.length≤96000):Gv (Qw (gb u l,pT p,c,())) (CR p c u) l 100:=by
 have s6:nth c.2.1 (Int.toNat (0:Int))=some (dj c 0):=(eK hc (k:=0) (by omega)).1;unfold CR;show Gv (Out.eval (EP _)) _ _ _;dsimp only [EP,gb];refine Gv.step (ab (by rfl)) ?_;refine Gv.step (aa s6) ?_;cases e:ee ao (bu u) (dj c 0) with
 |none=>
  have QM:ak u.2.2.2.1 (dj c 0)= -1:=by
   unfold ak dv;rw [lM fun y hy ey=>by have:=List.find?_eq_none.1 e y hy;exact this (by simpa using ey)];rfl
  rw [QM];refine Gv.step (ae (by rfl)) ?_;exact bY h.cT hp hc (by rfl) (by omega) (by omega)
 |some q=>
  obtain ⟨hq,eq⟩:=z7 e;have eq:q.1=dj c 0:=eq;obtain ⟨i,hi,Ff,iU⟩:=bD h.cT hq;have cU:ak u.2.2.2.1 (dj c 0)=(i:Int):=by rw [← eq];exact hi
  have s4:nth u.2.2.2.1 i=some q:=iU;have acM:i<u.2.2.2.1.length:=Ff;rw [cU];simp only [aaH];refine Gv.step (ab (aJ (by omega))) ?_;refine Gv.step (ab (aaa (by omega))) ?_;refine Gv.step (aa s4) ?_;by_cases q6:cQ q=6
  . rw [aaK q6]
    refine Gv.step (ab (di q6)) ?_;exact bY h.cT hp hc (by rfl) (by omega) (by omega)
  rw [aap q6];refine Gv.step (ae (eB q6)) ?_;refine Gv.step (ab (by rfl)) ?_;refine Gv.step (aa s6) ?_;by_cases me:dj c 0=p.1
  . rw [aaK me]
    refine Gv.step (ab (di me)) ?_;obtain ⟨l1,e1,JE⟩:=Fg (code:= -1) h hp (by omega) (by rfl) (l:=l) (by omega);exact Gv.step (aa e1) (Gv.ret (l':=l1) (by omega))
  rw [aap me];refine Gv.step (ae (eB me)) ?_;refine Gv.step (ab (by rfl)) ?_;refine Gv.step (aa s6) ?_;rw [← eq] at me ⊢;obtain ⟨l1,e1,JE⟩:=Fg (code:= -1) h hq q6 (by rfl) (l:=l) (by omega);refine Gv.step (aa e1) ?_;obtain ⟨r,hr,er,_⟩:=eJ.exit (code:= -1) h hq q6 ⟨p,hp,rfl,by omega⟩ (Ne.symm me);have hX:=Ai (code:= -1) h hq q6 (by rfl);rw [← er];exact bY hX.cT hr hc (by rfl) (l1:=l1) (by omega) (by omega)
def kg (p:af) (c:ag) (u:UT):UT:=match ofO p (dj c 0) u with
 |none=>cI p.1 c (-1) u
 |some _=>cI p.1 c 0 (kW p.1 (dj c 0).toNat u)
def Aq (p:af) (c:ag) (u:UT):UT:=dA (fun rd=>rd.erase p.1++[p.1]) (cI p.1 c 0 u)
def JR (p:af) (c:ag) (k:Int) (u:UT):UT:=
 if k=1 then pq p.1 (dj c 0) u else if k=2 then CK p c u else if k=3 then CM p c u else if k=4 then cI p.1 c p.1 u
 else if k=5 then CN p c u else if k=6 then lE p c u else if k=7 then kg p c u else if k=8 then CQ p c u
 else if k=9 then w8 p c u else if k=10 then lF p c u else if k=11 then N0 p c u else if k=12 then wY p c u
 else if k=13 then CR p c u else if k=14 then rz p c u else if k=15 then cI p.1 c u.2.1 u else if k=16 then CO p c u
 else if k=17 then Aq p c u else cI p.1 c (-1) u
theorem G3 (h:aN 0 tl u) (hp:p∈bu u) (h1:cQ p=1) {c:ag} (hc:aR c.1 c.2.1=true):aN 0 tl (kg p c u):=by
 unfold kg;rcases GZ h hp (dj c 0) with ⟨e,_⟩|⟨o,ho,j,hj,_,hf,e,_⟩
 . rw [e];exact cu h hp hc (by rfl)
 . rw [e]
   simp only;rw [hj,aaH];exact cu (p:=cm ((aA p).set j (-1)) p) (Fa h hp h1 ho hf) (wT h hp h1 ho hf) hc (by rfl)
theorem VR (h:aN 0 tl u) (hp:p∈bu u) (h1:cQ p=1) {c:ag} (hc:aR c.1 c.2.1=true):aN 0 tl (Aq p c u):=by
 have hT:=cu h hp hc (y:=0) (by rfl);have hm:p.1∈m8 (cI p.1 c 0 u):=h.ready hp h1;exact Inv.perm hT ((List.perm_append_comm (l₁:=(m8 (cI p.1 c 0 u)).erase p.1) (l₂:=[p.1])).trans (List.perm_cons_erase hm).symm)
theorem G4 (h:aN x tl u) (hp:p∈bu u):b6 p.1=true:=cY (by have:=(h.ctx p hp).pid;have:=h.GI;omega)
theorem ahp (h:aN 0 tl u) (ht:tl≤u.2.1) (hp:p∈bu u) (h1:cQ p=1) {c:ag} (hc:aR c.1 c.2.1=true) (k:Int):aN 0 tl (JR p c k u):=by
 unfold JR;have xO:=h.xO;by_cases e1:k=1
 . rw [aaK e1];exact Ai h hp (by omega) (eK hc (by omega)).2
 rw [aap e1];by_cases e2:k=2
 . rw [aaK e2];exact acQ h hp h1 hc
 rw [aap e2];by_cases e3:k=3
 . rw [aaK e3];exact acU h hp h1 hc
 rw [aap e3];by_cases e4:k=4
 . rw [aaK e4];exact cu h hp hc (G4 h hp)
 rw [aap e4];by_cases e5:k=5
 . rw [aaK e5];exact acZ h hp h1 hc
 rw [aap e5];by_cases e6:k=6
 . rw [aaK e6];exact JL h hp h1 hc
 rw [aap e6];by_cases e7:k=7
 . rw [aaK e7];exact G3 h hp h1 hc
 rw [aap e7];by_cases e8:k=8
 . rw [aaK e8];exact ac5 h hp h1 hc
 rw [aap e8];by_cases e9:k=9
 . rw [aaK e9];exact VP h hp h1 hc
 rw [aap e9];by_cases e10:k=10
 . rw [aaK e10];exact JO h hp h1 hc
 rw [aap e10];by_cases e11:k=11
 . rw [aaK e11];exact ahg h hp h1 hc
 rw [aap e11];by_cases e12:k=12
 . rw [aaK e12];exact VK h ht hp h1 hc
 rw [aap e12];by_cases e13:k=13
 . rw [aaK e13];exact ac7 h hp h1 hc
 rw [aap e13];by_cases e14:k=14
 . rw [aaK e14];exact QZ h hp hc
 rw [aap e14];by_cases e15:k=15
 . rw [aaK e15];exact cu h hp hc (cY (by omega))
 rw [aap e15];by_cases e16:k=16
 . rw [aaK e16];exact ac1 h hp h1 hc
 rw [aap e16];by_cases e17:k=17
 . rw [aaK e17];exact VR h hp h1 hc
 rw [aap e17];exact cu h hp hc (by rfl)
theorem Gv.hand {γ:Type} {r:Option ((WT×Unit)×γ)} {v:UT} {z:β} (h:Gv r v l n) (hn:n≤m):Gv (Out.get r fun ((b9,_),_)=>Out.ret ((b9,()),z)).eval v l m:=by
 obtain ⟨l',y,e,hl⟩:=h;exact Gv.step (aa e) (Gv.ret (l':=l') (by omega))
theorem G5 {z:β} (h:aN 0 tl u) (hp:p∈bu u) (h1:cQ p=1) {c:ag} (hc:aR c.1 c.2.1=true) (hl:l.length≤96000):
  Gv (Out.get (tG (u,pT p,(dj c 0,()),())) fun ((_,y9b,_),_)=>
   .ite (!y9b.1) (.get (bE (gb u l,(p.1,()),c,(-1,()),())) fun ((m3,_),_)=> .ret ((m3,()),z))
   (.ite (decide (0≤(0:Int))) (.get (nth c.2.1 (Int.toNat (0:Int))) fun wC=>
    .get (wM (gb u l,(p.1,()),(wC,()),())) fun ((m4,_),_)=>
    .get (bE (m4,(p.1,()),c,(0,()),())) fun ((ox,_),_)=> .ret ((ox,()),z)) .fail)).eval (kg p c u) l 100:=by
 have s6:nth c.2.1 (Int.toNat (0:Int))=some (dj c 0):=(eK hc (k:=0) (by omega)).1;unfold kg;rcases GZ h hp (dj c 0) with ⟨e,ev⟩|⟨o,ho,j,hj,_,hf,e,ev⟩
 . rw [e]
   refine Gv.step (aa ev) ?_;refine Gv.step (ab (by rfl)) ?_;exact bY h.cT hp hc (by rfl) (by omega) (by omega)
 . rw [e]
   simp only;refine Gv.step (aa ev) ?_;refine Gv.step (ae (by rfl)) ?_;refine Gv.step (ab (by rfl)) ?_;refine Gv.step (aa s6) ?_;obtain ⟨l1,e1,JE⟩:=LH h hp h1 ho hf (l:=l) (by omega);rw [hj,aaH];refine Gv.step (aa e1) ?_;exact bY (p:=cm ((aA p).set j (-1)) p) (Fa h hp h1 ho hf).cT (wT h hp h1 ho hf) hc (by rfl) (l1:=l1) (by omega) (by omega)
theorem VS {z:β} (h:aN 0 tl u) (hp:p∈bu u) (h1:cQ p=1) {c:ag} (hc:aR c.1 c.2.1=true) (hl:l.length≤96000):
  Gv (Out.get (bE (gb u l,(p.1,()),c,(0,()),())) fun ((Qq,_),_)=>
   .get (bX ((22,()),(p.1,()),(0,()),(0,()),())) fun ((Jy,_),_)=>
   .get (bB (Qq,Jy,())) fun ((Qr,_),_)=>
   .get (bX ((21,()),(p.1,()),(0,()),(0,()),())) fun ((Qs,_),_)=>
   .get (bB (Qr,Qs,())) fun ((acw,_),_)=> .ret ((acw,()),z)).eval (Aq p c u) l 100:=by
 obtain ⟨l1,e1,JE⟩:=E6 h.cT hp hc (y:=0) (by rfl) (l:=l) (by omega);have hm:p.1∈m8 u:=h.ready hp h1;have Fm:=pZ h;obtain ⟨nx,tk,pg,ps,os,pi,fi,rd,ou,_⟩:=u;have bZ:(rd.erase p.1).length<6:=by
  have:=List.length_erase_of_mem (show p.1∈rd from hm);have:rd.length≤6:=Fm;have:0<rd.length:=List.length_pos_of_mem (show p.1∈rd from hm);omega
 have d1:=eT (l:=l1) (zh (nx:=nx) (tk:=tk) (pg:=pg) (ps:=bO ps p.1 (pA (sZ c 0 0))) (os:=os) (pi:=pi) (fi:=fi) (ou:=ou) (b:=0) (c:=0) (l:=[]) (show p.1∈rd from hm) (aa3 Fm (by omega))) (by omega);have d2:=eT (l:=l1++[eE 22 p.1 0 0]) (zg (nx:=nx) (tk:=tk) (pg:=pg) (ps:=bO ps p.1 (pA (sZ c 0 0))) (os:=os) (pi:=pi) (fi:=fi) (ou:=ou) (k:=p.1) (b:=0) (c:=0) (l:=[]) bZ) (by rw [bc];omega);refine Gv.step (aa e1) ?_;refine Gv.step (aa rfl) ?_;refine Gv.step (aa d1) ?_;refine Gv.step (aa rfl) ?_;refine Gv.step (aa d2) ?_;exact Gv.ret (v:=Aq p c (nx,tk,pg,ps,os,pi,fi,rd,ou,())) (l':=l1++[eE 22 p.1 0 0]++[eE 21 p.1 0 0]) (by rw [bc,bc];omega)
theorem ahq (h:aN 0 tl u) (hp:p∈bu u) (h1:cQ p=1) {c:ag} (hc:aR c.1 c.2.1=true) (k:Int) (hl:l.length≤96000):Gv (QA (gb u l,pT p,c,(k,()),())) (JR p c k u) l 100:=by
 have s6:nth c.2.1 (Int.toNat (0:Int))=some (dj c 0):=(eK hc (k:=0) (by omega)).1;have xO:=h.xO;unfold JR;show Gv (Out.eval (EW _)) _ _ _;dsimp only [EW];by_cases e1:k=1
 . rw [aaK e1]
   refine Gv.step (ab (di e1)) ?_;refine Gv.step (ab (by rfl)) ?_;refine Gv.step (aa s6) ?_;obtain ⟨l1,e1,JE⟩:=Fg (code:=dj c 0) h hp (by omega) (eK hc (by omega)).2 (l:=l) (by omega);exact Gv.step (aa e1) (Gv.ret (l':=l1) (by omega))
 rw [aap e1];refine Gv.step (ae (eB e1)) ?_;by_cases e2:k=2
 . rw [aaK e2];exact Gv.step (ab (di e2)) (Gv.hand (acS h hp h1 hc (l:=l) (by omega)) (by omega))
 rw [aap e2];refine Gv.step (ae (eB e2)) ?_;by_cases e3:k=3
 . rw [aaK e3];exact Gv.step (ab (di e3)) (Gv.hand (acV h hp h1 hc (l:=l) (by omega)) (by omega))
 rw [aap e3];refine Gv.step (ae (eB e3)) ?_;by_cases e4:k=4
 . rw [aaK e4];exact Gv.step (ab (di e4)) (bY h.cT hp hc (G4 h hp) (by omega) (by omega))
 rw [aap e4];refine Gv.step (ae (eB e4)) ?_;by_cases e5:k=5
 . rw [aaK e5];exact Gv.step (ab (di e5)) (Gv.hand (ac0 h hp hc (l:=l) (by omega)) (by omega))
 rw [aap e5];refine Gv.step (ae (eB e5)) ?_;by_cases e6:k=6
 . rw [aaK e6];exact Gv.step (ab (di e6)) (Gv.hand (JM h hp hc (l:=l) (by omega)) (by omega))
 rw [aap e6];refine Gv.step (ae (eB e6)) ?_;by_cases e7:k=7
 . rw [aaK e7]
   refine Gv.step (ab (di e7)) ?_;refine Gv.step (ab (by rfl)) ?_;refine Gv.step (aa s6) ?_;exact G5 h hp h1 hc hl
 rw [aap e7];refine Gv.step (ae (eB e7)) ?_;by_cases e8:k=8
 . rw [aaK e8];exact Gv.step (ab (di e8)) (Gv.hand (ac6 h hp h1 hc (l:=l) (by omega)) (by omega))
 rw [aap e8];refine Gv.step (ae (eB e8)) ?_;by_cases e9:k=9
 . rw [aaK e9];exact Gv.step (ab (di e9)) (Gv.hand (VQ h hp h1 hc (l:=l) (by omega)) (by omega))
 rw [aap e9];refine Gv.step (ae (eB e9)) ?_;by_cases e10:k=10
 . rw [aaK e10];exact Gv.step (ab (di e10)) (Gv.hand (JP h hp hc (l:=l) (by omega)) (by omega))
 rw [aap e10];refine Gv.step (ae (eB e10)) ?_;by_cases e11:k=11
 . rw [aaK e11];exact Gv.step (ab (di e11)) (Gv.hand (ahh h hp hc (l:=l) (by omega)) (by omega))
 rw [aap e11];refine Gv.step (ae (eB e11)) ?_;by_cases e12:k=12
 . rw [aaK e12];exact Gv.step (ab (di e12)) (Gv.hand (VL h hp h1 hc (l:=l) (by omega)) (by omega))
 rw [aap e12];refine Gv.step (ae (eB e12)) ?_;by_cases e13:k=13
 . rw [aaK e13];exact Gv.step (ab (di e13)) (Gv.hand (ac8 h hp h1 hc (l:=l) (by omega)) (by omega))
 rw [aap e13];refine Gv.step (ae (eB e13)) ?_;by_cases e14:k=14
 . rw [aaK e14];exact Gv.step (ab (di e14)) (Gv.hand (Q0 h hp hc (l:=l) (by omega)) (by omega))
 rw [aap e14];refine Gv.step (ae (eB e14)) ?_;by_cases e15:k=15
 . rw [aaK e15];exact Gv.step (ab (di e15)) (bY h.cT hp hc (cY (by omega)) (by omega) (by omega))
 rw [aap e15];refine Gv.step (ae (eB e15)) ?_;by_cases e16:k=16
 . rw [aaK e16];exact Gv.step (ab (di e16)) (Gv.hand (ac2 h hp h1 hc (l:=l) (by omega)) (by omega))
 rw [aap e16];refine Gv.step (ae (eB e16)) ?_;by_cases e17:k=17
 . rw [aaK e17];exact Gv.step (ab (di e17)) (VS h hp h1 hc hl)
 rw [aap e17];refine Gv.step (ae (eB e17)) ?_;exact bY h.cT hp hc (by rfl) (by omega) (by omega)
end
end
section
open Go Go.ChangeShapes Go.WideShapes Go.ChangeAt Go.RowKit
section
abbrev Ut:Type:=Int×Int×Int×Int×Unit
def j6 (c:ag) (a:Int):Int:=dj c a.toNat
def JS (c:ag) (a v:Int):ag:=(c.1+1,c.2.1.set a.toNat v,())
abbrev flt (c:ag):ag×Ut:=(c,2, -1,0,0,())
abbrev Fo:Ut:=(0, -1,0,0,())
def adj (i:aw) (c:ag):Int:=if i.1=3 then j6 c i.2.2.1 - j6 c i.2.2.2.1 else j6 c i.2.2.1+j6 c i.2.2.2.1
def G6 (i:aw) (c:ag) (m:List Int):ag×Ut:=
 if i.1=1 then (JS c i.2.1 i.2.2.1,Fo)
 else if i.1=2∨i.1=3 then (if b6 (adj i c)=true then (JS c i.2.1 (adj i c),Fo) else flt c)
 else if i.1=4∨i.1=5 then (if j6 c i.2.2.1<0∨(m.length:Nat)≤j6 c i.2.2.1 then flt c else if i.1=4 then (JS c i.2.1 (m.getD (j6 c i.2.2.1).toNat 0),Fo) else ((c.1+1,c.2),(0,j6 c i.2.2.1,j6 c i.2.1,0,())))
 else if i.1=6 then ((i.2.1,c.2),Fo)
 else if i.1=7 then ((if j6 c i.2.1=0 then i.2.2.1 else c.1+1,c.2),Fo)
 else ((c.1+1,c.2),(1, -1,0,i.2.1,()))
def Ar (pr:List aw) (c:ag) (m:List Int):ag×Ut:=match nth pr c.1.toNat with
 |none=>flt c
 |some i=>G6 i c m
abbrev CS (a:Int):Prop:=0≤a∧a<4
theorem CT {i:aw} (h:dt i=true):(i.1=1∧CS i.2.1∧b6 i.2.2.1=true)∨((i.1=2∨i.1=3)∧CS i.2.1∧CS i.2.2.1∧CS i.2.2.2.1)∨((i.1=4∨i.1=5)∧CS i.2.1∧CS i.2.2.1)∨
  (i.1=6∧0≤i.2.1∧i.2.1≤40)∨(i.1=7∧CS i.2.1∧0≤i.2.2.1∧i.2.2.1≤40)∨(i.1=8∧1≤i.2.1∧i.2.1≤20):=by
 obtain ⟨o,a,b,c,_⟩:=i;have h:gl o a b c=true:=h;unfold gl at h;by_cases e1:o=1
 . subst e1;simp [cM] at h;exact .inl ⟨rfl,h.1,h.2.1⟩
 by_cases e2:o=2
 . subst e2;simp [cM] at h;exact .inr (.inl ⟨.inl rfl,h.1,h.2.1,h.2.2⟩)
 by_cases e3:o=3
 . subst e3;simp [cM] at h;exact .inr (.inl ⟨.inr rfl,h.1,h.2.1,h.2.2⟩)
 by_cases e4:o=4
 . subst e4;simp [cM] at h;exact .inr (.inr (.inl ⟨.inl rfl,h.1,h.2.1⟩))
 by_cases e5:o=5
 . subst e5;simp [cM] at h;exact .inr (.inr (.inl ⟨.inr rfl,h.1,h.2.1⟩))
 by_cases e6:o=6
 . subst e6;simp [dC] at h;exact .inr (.inr (.inr (.inl ⟨rfl,h.1⟩)))
 by_cases e7:o=7
 . subst e7;simp [cM,dC] at h;exact .inr (.inr (.inr (.inr (.inl ⟨rfl,h.1,h.2.1⟩))))
 by_cases e8:o=8
 . subst e8;simp [dC] at h;exact .inr (.inr (.inr (.inr (.inr ⟨rfl,h.1⟩))))
 . simp [e1,e2,e3,e4,e5,e6,e7,e8] at h
variable {c:ag} {i:aw} {m:List Int} {a v:Int} {pr:List aw}
theorem eP (hc:aR c.1 c.2.1=true) (ha:CS a):nth c.2.1 a.toNat=some (j6 c a)∧b6 (j6 c a)=true:=eK hc (by omega)
theorem nE {n:Int}:m9 n=true↔0≤n∧n≤40:=fF
theorem Fp {pc:Int} (hc:aR c.1 c.2.1=true) (h:0≤pc∧pc≤40):aR pc c.2.1=true:=by
 obtain ⟨_,h2,h3⟩:=dm hc;unfold aR;rw [nE.2 h,h3];simp [h2]
theorem JT (hc:aR c.1 c.2.1=true) (h:c.1<40) (hv:b6 v=true):aR (JS c a v).1 (JS c a v).2.1=true:=by
 have:=nE.1 (dm hc).1;exact rq (pc:=c.1+1) (Fp hc (by omega)) hv
structure G7 (r:ag×Ut) (m:List Int):Prop where
 kind:r.2.1=0∨r.2.1=1∨r.2.1=2
 kP:r.2.1≠2→aR r.1.1 r.1.2.1=true
 addr:0≤r.2.2.1→r.2.2.1<(m.length:Nat)∧b6 r.2.2.2.1=true
theorem JU:G7 (flt c) m:=⟨.inr (.inr rfl),fun h=>absurd rfl h,fun h=>absurd (show (0:Int)≤ -1 from h) (by omega)⟩
theorem uS (h:aR c.1 c.2.1=true):G7 (c,Fo) m:=⟨.inl rfl,fun _=>h,fun h=>absurd (show (0:Int)≤ -1 from h) (by omega)⟩
theorem Q5 (hm:aG m=true) (k:Nat):b6 (m.getD k 0)=true:=qd hm
theorem VT (hi:dt i=true) (hc:aR c.1 c.2.1=true) (h:c.1<40) (hm:aG m=true):G7 (G6 i c m) m:=by
 have hp:=nE.1 (dm hc).1;have hn:aR (c.1+1) c.2.1=true:=Fp hc (by omega);unfold G6;rcases CT hi with ⟨e,h1,h2⟩|⟨e,h1,h2,h3⟩|⟨e,h1,h2⟩|⟨e,h1⟩|⟨e,h1,h2⟩|⟨e,h1⟩
 . rw [aaK e];exact uS (JT hc h h2)
 . rw [aap (by omega),aaK e]
   split
   . rename_i hw;exact uS (JT hc h hw)
   . exact JU
 . rw [aap (by omega),aap (by omega),aaK e]
   split
   . exact JU
   . rename_i hb
     split
     . exact uS (JT hc h (Q5 hm _))
     . exact ⟨.inl rfl,fun _=>hn,fun _=>⟨by show j6 c _<_;omega,(eP hc h1).2⟩⟩
 . rw [aap (by omega),aap (by omega),aap (by omega),aaK e]
   exact uS (c:=(i.2.1,c.2)) (Fp (c:=c) hc h1)
 . rw [aap (by omega),aap (by omega),aap (by omega),aap (by omega),aaK e]
   refine uS (c:=(_,c.2)) ?_;show aR (if _ then _ else _) c.2.1=true;split
   . exact Fp (c:=c) hc h2
   . exact hn
 . rw [aap (by omega),aap (by omega),aap (by omega),aap (by omega),aap (by omega)]
   exact ⟨.inr (.inl rfl),fun _=>hn,fun h=>absurd (show (0:Int)≤ -1 from h) (by omega)⟩
theorem G8 (h:bT pr=true) {k:Nat} {i:aw} (hk:nth pr k=some i):dt i=true∧k<40:=by
 unfold bT at h;rw [aaE,ack] at h;have mA:pr[k]? =some i:=hk;have:=List.getElem?_eq_some_iff.1 mA;obtain ⟨bZ,_⟩:=this;exact ⟨aa1.1 h.2 i (aeJ mA),by omega⟩
theorem LM (h:bT pr=true) (hc:aR c.1 c.2.1=true) (hm:aG m=true):G7 (Ar pr c m) m:=by
 have hp:=nE.1 (dm hc).1;unfold Ar;split
 . exact JU
 . rename_i i e
   obtain ⟨h1,h2⟩:=G8 h e;exact VT h1 hc (by omega) hm
abbrev ex1 (r:ag×Ut):Option ((ag×Ut×Unit)×(Unit×XI)):=some ((r.1,r.2,()),((),(),(),()))
theorem adk:Q6 ()=some ((Fo,()),()):=rfl
theorem J_V {n:Int} (hc:aR c.1 c.2.1=true) (ha:CS a):(zl (c.1+1) n c.1 a 0 (-1) 0 0 c.2.1).eval=ex1 (if b6 n=true then (JS c a n,Fo) else flt c):=by
 have hl:=(dm hc).2.1;dsimp only [zl];by_cases hw:b6 n=true
 . rw [aaK hw]
   refine (ae (by rw [hw];rfl)).trans ?_;refine (ab (aaa (by omega))).trans ?_;exact (aa (eP hc ha).1).trans rfl
 . rw [aap hw]
   refine (ab (by cases e:b6 n with|true=>exact absurd e hw|false=>rfl)).trans ?_;exact (aa rfl).trans rfl
theorem alE {n:Int} (hc:aR c.1 c.2.1=true) (ha:CS a):(zm (c.1+1) n c.1 a 0 (-1) 0 0 c.2.1).eval=ex1 (if b6 n=true then (JS c a n,Fo) else flt c):=by
 have hl:=(dm hc).2.1;dsimp only [zm];by_cases hw:b6 n=true
 . rw [aaK hw]
   refine (ae (by rw [hw];rfl)).trans ?_;refine (ab (aaa (by omega))).trans ?_;exact (aa (eP hc ha).1).trans rfl
 . rw [aap hw]
   refine (ab (by cases e:b6 n with|true=>exact absurd e hw|false=>rfl)).trans ?_;exact (aa rfl).trans rfl
theorem w9 (hc:aR c.1 c.2.1=true) (ha:CS a): -1000000≤j6 c a∧j6 c a≤1000000:=fF.1 (eP hc ha).2
theorem VU (h:bT pr=true) (hc:aR c.1 c.2.1=true) (_:m.length≤1000):QB ((pr,()),c,(m,()),())=ex1 (Ar pr c m):=by
 have hp:=nE.1 (dm hc).1;have hl:=(dm hc).2.1;have hw1:IntKind.i64.wrap (c.1+1)=c.1+1:=cS (by omega) (by omega);unfold Ar;show Out.eval (Fq _)=_;dsimp only [Fq];by_cases bZ:c.1≥(pr.length:Nat)
 . rw [show nth pr c.1.toNat=none from aeH (by omega)]
   refine (ab (aaa bZ)).trans ?_;exact (aa rfl).trans rfl
 refine (ae (aae bZ)).trans ?_;refine (ab (aaa hp.1)).trans ?_;cases e:nth pr c.1.toNat with
 |none=>have:=List.getElem?_eq_none_iff.1 (show pr[c.1.toNat]? =none from e);omega
 |some i=>
 refine (aa rfl).trans ?_;refine (aa adk).trans ?_;rw [hw1];show _=ex1 (G6 i c m);unfold G6;have hk:∀ {x y:Int},x≠y→(x==y)=false:=fun h=>eB h;rcases CT (G8 h e).1 with ⟨e,h1,h2⟩|⟨e,h1,h2,h3⟩|⟨e,h1,h2⟩|⟨e,h1⟩|⟨e,h1,h2⟩|⟨e,h1⟩
 . rw [aaK e]
   refine (ab (di e)).trans ?_;refine (ab (aaa (by omega))).trans ?_;exact (aa (eP hc h1).1).trans rfl
 . rw [aap (by omega),aaK e]
   have r2:=w9 hc h2;have r3:=w9 hc h3;have hs:IntKind.i64.wrap (j6 c i.2.2.1 - j6 c i.2.2.2.1)=j6 c i.2.2.1 - j6 c i.2.2.2.1:=cS (by omega) (by omega);have ha:IntKind.i64.wrap (j6 c i.2.2.1+j6 c i.2.2.2.1)=j6 c i.2.2.1+j6 c i.2.2.2.1:=cS (by omega) (by omega);refine (ae (hk (by omega))).trans ?_;unfold adj;rcases e with e|e
   . rw [aap (show ¬ i.1=3 by omega)]
     refine (ab (di e)).trans ?_;refine (ab (aaa (by omega))).trans ?_;refine (aa (eP hc h2).1).trans ?_;refine (ab (aaa (by omega))).trans ?_;refine (aa (eP hc h3).1).trans ?_;refine (ae (hk (by omega))).trans ?_;rw [ha];exact J_V hc h1
   . rw [aaK e]
     refine (ae (hk (by omega))).trans ?_;refine (ab (di e)).trans ?_;refine (ab (aaa (by omega))).trans ?_;refine (aa (eP hc h2).1).trans ?_;refine (ab (aaa (by omega))).trans ?_;refine (aa (eP hc h3).1).trans ?_;refine (ab (di e)).trans ?_;refine (ab (aaa (by omega))).trans ?_;refine (aa (eP hc h2).1).trans ?_;refine (ab (aaa (by omega))).trans ?_;refine (aa (eP hc h3).1).trans ?_;rw [hs];exact alE hc h1
 . rw [aap (by omega),aap (by omega),aaK e]
   have r2:=w9 hc h2;refine (ae (hk (by omega))).trans ?_;refine (ae (hk (by omega))).trans ?_;refine (ae (hk (by omega))).trans ?_;have hg:∀ {k:Int},0≤k→k<(m.length:Nat)→nth m k.toNat=some (m.getD k.toNat 0):=fun {k} h0 hk=>by
    show m[k.toNat]? =_;rw [adg,aaf (by omega)];rfl
   rcases e with e|e
   . refine (ab (di e)).trans ?_
     refine (ab (aaa (by omega))).trans ?_;refine (aa (eP hc h2).1).trans ?_;by_cases q1:j6 c i.2.2.1<0
     . rw [aaK (.inl q1)]
       refine (ae (aO q1)).trans ?_;exact (aa rfl).trans rfl
     refine (ab (aJ q1)).trans ?_;by_cases q2:(m.length:Nat)≤j6 c i.2.2.1
     . rw [aaK (.inr q2)]
       refine (ab (aaa q2)).trans ?_;exact (aa rfl).trans rfl
     rw [aap (by omega),aaK e];refine (ae (aae q2)).trans ?_;refine (ab (di e)).trans ?_;refine (ab (aaa (by omega))).trans ?_;refine (aa (hg (by omega) (by omega))).trans ?_;refine (ab (aaa (by omega))).trans ?_;exact (aa (eP hc h1).1).trans rfl
   . refine (ae (hk (by omega))).trans ?_
     refine (ab (di e)).trans ?_;refine (ab (aaa (by omega))).trans ?_;refine (aa (eP hc h2).1).trans ?_;by_cases q1:j6 c i.2.2.1<0
     . rw [aaK (.inl q1)]
       refine (ae (aO q1)).trans ?_;exact (aa rfl).trans rfl
     refine (ab (aJ q1)).trans ?_;by_cases q2:(m.length:Nat)≤j6 c i.2.2.1
     . rw [aaK (.inr q2)]
       refine (ab (aaa q2)).trans ?_;exact (aa rfl).trans rfl
     rw [aap (by omega),aap (by omega)];refine (ae (aae q2)).trans ?_;refine (ae (hk (by omega))).trans ?_;refine (ab (aaa (by omega))).trans ?_;exact (aa (eP hc h1).1).trans rfl
 . rw [aap (by omega),aap (by omega),aap (by omega),aaK e]
   refine (ae (hk (by omega))).trans ?_;refine (ae (hk (by omega))).trans ?_;refine (ae (hk (by omega))).trans ?_;refine (ae (hk (by omega))).trans ?_;refine (ae (hk (by omega))).trans ?_;exact (ab (di e)).trans rfl
 . rw [aap (by omega),aap (by omega),aap (by omega),aap (by omega),aaK e]
   refine (ae (hk (by omega))).trans ?_;refine (ae (hk (by omega))).trans ?_;refine (ae (hk (by omega))).trans ?_;refine (ae (hk (by omega))).trans ?_;refine (ae (hk (by omega))).trans ?_;refine (ae (hk (by omega))).trans ?_;refine (ab (di e)).trans ?_;refine (ab (aaa (by omega))).trans ?_;refine (aa (eP hc h1).1).trans ?_;by_cases q:j6 c i.2.1=0
   . rw [aaK q];exact (ab (di q)).trans rfl
   . rw [aap q];exact (ae (eB q)).trans rfl
 . rw [aap (by omega),aap (by omega),aap (by omega),aap (by omega),aap (by omega)]
   refine (ae (hk (by omega))).trans ?_;refine (ae (hk (by omega))).trans ?_;refine (ae (hk (by omega))).trans ?_;refine (ae (hk (by omega))).trans ?_;refine (ae (hk (by omega))).trans ?_;refine (ae (hk (by omega))).trans ?_;exact (ae (hk (by omega))).trans rfl
end
end
section
open Go Go.ChangeShapes Go.WideShapes Go.ChangeAt Go.RowKit
section
variable {x tl:Int} {u u':UT} {p:af} {l l':List ET} {β:Type} {n m:Nat}
def Q7 (p:af) (a v:Int) (u:UT):UT:=de p.1 (kI ((cp p).set a.toNat v)) u
def Fs (p:af) (r:ag×Ut) (u:UT):UT:=if r.2.1=2 then pq p.1 (-1) u else if r.2.1=1 then JR p r.1 r.2.2.2.2.1 u
 else if 0≤r.2.2.1 then Q7 p r.2.2.1 r.2.2.2.1 (B4 p.1 r.1 u) else B4 p.1 r.1 u
def As (u:UT):UT:=match m8 u with
 |[]=>u
 |v::_=>match ee ao (bu u) v with
  |none=>u
  |some p=>match nth u.2.2.1 (pPg p).toNat with
   |none=>u
   |some pr=>Fs p (Ar pr (zN p) (cp p)) u
theorem Q8 (h:aN 0 tl u) {v:Int} {r:List Int} (e:m8 u=v::r):∃ p∈bu u,p.1=v∧cQ p=1∧∃ pr,nth u.2.2.1 (pPg p).toNat=some pr∧bT pr=true∧As u=Fs p (Ar pr (zN p) (cp p)) u:=by
 have hm:v∈aL (bu u):=h.Gp.mem_iff.1 (show v∈m8 u by rw [e];simp);obtain ⟨p,hp,rfl,h1⟩:=PJ.1 hm;have uv:=(h.loc p hp).pg;have hpo:=h.uv;unfold cD at hpo;simp only [aaE] at hpo;have hn:nth u.2.2.1 (pPg p).toNat=some (u.2.2.1[(pPg p).toNat]'(by omega)):=aaf _;refine ⟨p,hp,rfl,h1,_,hn,aa1.1 hpo.2 _ (acD _), ?_⟩;unfold As;rw [e];simp only;rw [show ee ao (bu u) p.1=some p from dP h.cT hp];simp only;rw [hn]
theorem N2 {a:List Int} (h:aG a=true) {v:Int} (hv:b6 v=true) (k:Nat):aG (a.set k v)=true:=aa1.2 fun y hy=>by
 rcases af4 hy with q|rfl
 . exact aa1.1 h y q
 . exact hv
theorem adl (h:aN 0 tl u) (hp:p∈bu u) (h1:cQ p=1) {a v:Int} (ha:0≤a∧a<((cp p).length:Nat)) (hv:b6 v=true):aN 0 tl (Q7 p a v u):=by
 have hm:=(h.loc p hp).mem;refine Inv.mem h hp ?_ (by omega) ?_ ?_
 . rw [aag];exact ⟨hm.1,hm.2.1,N2 hm.2.2 hv _⟩
 . rw [aag];omega
 . have ht:my (bu u)≤64:=h.Jq
   rw [aag];show my (bu u)+_≤_;omega
theorem adm {r:ag×Ut} (h:aN 0 tl u) (ht:tl≤u.2.1) (hp:p∈bu u) (h1:cQ p=1) (hd:G7 r (cp p)):aN 0 tl (Fs p r u):=by
 unfold Fs;by_cases k2:r.2.1=2
 . rw [aaK k2];exact Ai h hp (by omega) (by rfl)
 rw [aap k2];have hc:=hd.kP k2;by_cases k1:r.2.1=1
 . rw [aaK k1];exact ahp h ht hp h1 hc _
 rw [aap k1];have hA:=LD h hp hc;split
 . rename_i ha
   exact adl (p:=pA r.1 p) hA ((bf h.cT hp).2 (.inl rfl)) h1 ⟨ha,(hd.addr ha).1⟩ (hd.addr ha).2
 . exact hA
theorem ahr (h:aN 0 tl u) (ht:tl≤u.2.1):aN 0 tl (As u):=by
 cases e:m8 u with
 |nil=>unfold As;rw [e];exact h
 |cons v r=>
  obtain ⟨p,hp,rfl,h1,pr,_,dB,er⟩:=Q8 h e;rw [er];exact adm h ht hp h1 (LM dB (h.loc p hp).kP (h.loc p hp).mem.2.2)
theorem ahs (h:aN 0 tl u):Gv (QC (u,())) (As u) [] 110:=by
 have hL:bV=68719476736:=rfl;show Gv (Out.eval (EX _)) _ _ _;dsimp only [EX];cases e:m8 u with
 |nil=>
  have e':u.2.2.2.2.2.2.2.1=[]:=e;refine Gv.step (ab (by rw [e'];rfl)) ?_;have er:As u=u:=by unfold As;rw [e]
  rw [er];exact Gv.ret (l':=[]) (by omega)
 |cons v r=>
  have e':u.2.2.2.2.2.2.2.1=v::r:=e;obtain ⟨p,hp,rfl,h1,pr,hpr,dB,er⟩:=Q8 h e;rw [er];have JN:=h.loc p hp;have hcp:=dm JN.kP;have hm:=JN.mem;have hf:=JN.fds;have uv:=JN.pg;obtain ⟨i,hi,Ff,iU⟩:=bD h.cT hp;have cU:ak u.2.2.2.1 p.1=(i:Int):=hi;have s4:nth u.2.2.2.1 i=some p:=iU;have acM:i<u.2.2.2.1.length:=Ff;have hd:=LM dB JN.kP hm.2.2;have hx:=VU dB JN.kP (m:=cp p) (by omega);generalize Ar pr (zN p) (cp p)=r at hd hx;refine Gv.step (ae (by rw [e'];simp only [aai];exact eB (by omega))) ?_;refine Gv.step (ab (aaa (by rw [e',aai];omega))) ?_;refine Gv.step (aa (by rw [e'];rfl)) ?_;rw [cU];simp only [aaH];refine Gv.step (ab (aaa (by omega))) ?_;refine Gv.step (aa s4) ?_;have aht:et p.1 p.2.1 p.2.2.1 p.2.2.2.1 p.2.2.2.2.1.1 p.2.2.2.2.1.2.1 p.2.2.2.2.2.1 p.2.2.2.2.2.2.1 p.2.2.2.2.2.2.2.1 p.2.2.2.2.2.2.2.2.1=some (p.1,p.2.1,p.2.2.1,p.2.2.2.1,p.2.2.2.2.1.1,p.2.2.2.2.1.2.1,p.2.2.2.2.2.1,p.2.2.2.2.2.2.1,p.2.2.2.2.2.2.2.1,p.2.2.2.2.2.2.2.2.1):=aaK (by
   have a1:p.2.2.2.2.1.2.1.length=4:=hcp.2.1;have a2:p.2.2.2.2.2.1.length≤12:=hm.1;have a3:p.2.2.2.2.2.2.1.length=4:=hf;omega)
  refine Gv.step (aa aht) ?_;refine Gv.step (ab (aaa uv)) ?_;refine Gv.step (aa hpr) ?_;refine Gv.step (ab (aaa (by
   have a1:p.2.2.2.2.1.2.1.length=4:=hcp.2.1;simp only [aat];omega))) ?_
  refine Gv.step (aa hx) ?_;rw [jc iU];dsimp only;unfold Fs;by_cases k2:r.2.1=2
  . rw [aaK k2]
    refine Gv.step (ab (di k2)) ?_;obtain ⟨l1,e1,JE⟩:=Fg (code:= -1) h hp (by omega) (by rfl) (l:=[]) (by simp);exact Gv.step (aa e1) (Gv.ret (l':=l1) (by omega))
  rw [aap k2];refine Gv.step (ae (eB k2)) ?_;have hc:=hd.kP k2;by_cases k1:r.2.1=1
  . rw [aaK k1]
    refine Gv.step (ab (di k1)) ?_;exact Gv.hand (ahq h hp h1 hc r.2.2.2.2.1 (l:=[]) (by simp)) (by omega)
  rw [aap k1];refine Gv.step (ae (eB k1)) ?_;have hcv:=ag4 h.cT hp hc (l:=[]) (by simp);refine Gv.step (aa hcv) ?_;by_cases ha:0≤r.2.2.1
  . rw [aaK ha]
    refine Gv.step (ab (aaa ha)) ?_;have s5:bS ao (bO u.2.2.2.1 p.1 (pA r.1)):=dR h.cT fun _ _ _=>rfl;have Gr:pA r.1 p∈bO u.2.2.2.1 p.1 (pA r.1):=(bf h.cT hp).2 (.inl rfl);obtain ⟨nx,tk,pg,ps,os,pi,fi,rd,ou,_⟩:=u;have d1:=eT (l:=[]++[(1,p.1,r.1.1,0,r.1.2.1,())]) (Vu (nx:=nx) (tk:=tk) (pg:=pg) (os:=os) (pi:=pi) (fi:=fi) (rd:=rd) (ou:=ou) (b:=r.2.2.1) (c:=r.2.2.2.1) (l:=[]) s5 Gr ⟨ha,(hd.addr ha).1⟩ (hd.addr ha).2) (by rw [bc];simp);refine Gv.step (aa rfl) ?_;refine Gv.step (aa d1) ?_;exact Gv.ret (v:=Q7 p r.2.2.1 r.2.2.2.1 (B4 p.1 r.1 (nx,tk,pg,ps,os,pi,fi,rd,ou,()))) (l':=[]++[(1,p.1,r.1.1,0,r.1.2.1,())]++[eE 2 p.1 r.2.2.1 r.2.2.2.1]) (by rw [bc,bc];simp)
  . rw [aap ha]
    refine Gv.step (ae (aae ha)) ?_;exact Gv.ret (l':=[]++[(1,p.1,r.1.1,0,r.1.2.1,())]) (by rw [bc];simp)
end
end
section
open Go Go.ChangeShapes Go.WideShapes Go.ChangeAt Go.RowKit
section
variable {x tl:Int} {u u':UT} {p:af} {l l':List ET} {β:Type} {n m:Nat}
def kX (tk:Int) (p:af):Bool:=cQ p==2&&decide (pO p≤tk)
def ei (tk:Int) (ps:List af):List Int:=(ps.filter (kX tk)).map ao
def yE (u:UT):UT:=if 2≤(m8 u).length then dA (fun rd=>rd.erase (rd.headD 0)++[rd.headD 0]) u else u
def gm (u:UT):UT:=(u.1,u.2.1+1,u.2.2)
def upU (u:UT):UT:=gj (ei u.2.1 (bu u)) u
def mI (u:UT):UT:=if 1000000≤u.2.1 then u else upU (yE (gm u))
theorem lV {tk:Int}:kX tk p=true↔cQ p=2∧pO p≤tk:=by unfold kX;simp
theorem kY (h:aN x tl u) (tk:Int):kV (ei tk (bu u)) u:=by
 refine ⟨(show ((bu u).map ao).Nodup from h.cT.nodup).sublist (List.filter_sublist.map ao),fun v hv=> ?_⟩;obtain ⟨p,hp,rfl⟩:=List.mem_map.1 hv;have E7:=List.mem_filter.1 hp;have:=(lV.1 E7.2).1;exact ⟨p,E7.1,rfl,by omega,by omega⟩
theorem uT:∀ (vs:List Int) (u:UT),(gj vs u).2.1=u.2.1
 |[],_=>rfl
 |v::vs,u=>uT vs (gB v u)
theorem tf {q:af}:∀ (vs:List Int) (u:UT),q∈bu (gj vs u)→cQ q=1∨(q∈bu u∧q.1 ∉ vs)
 |[],_,h=> .inr ⟨h,by simp⟩
 |v::vs,u,h=>by
  rcases tf vs (gB v u) h with h1|⟨h1,h2⟩
  . exact .inl h1
  . obtain ⟨z,hz,e⟩:=gh.1 (show q∈bO (bu u) v (kS 1 0) from h1)
    by_cases k:ao z=v
    . rw [aaK k] at e;subst e;exact .inl rfl
    . rw [aap k] at e;subst e;exact .inr ⟨hz,by rw [abE];exact fun h=>h.elim (fun e=>k e) h2⟩
theorem Q9 (h:aN x tl u):aN x tl (yE u):=by
 unfold yE;split
 . rename_i h2
   obtain ⟨v,r,e⟩:∃ v r,m8 u=v::r:=by
    cases e:m8 u with
    |nil=>rw [e] at h2;simp at h2
    |cons v r=>exact ⟨v,r,rfl⟩
   refine Inv.perm h ?_;show ((m8 u).erase ((m8 u).headD 0)++[(m8 u).headD 0]).Perm (m8 u);rw [e];show (((v::r).erase v)++[v]).Perm (v::r);rw [List.erase_cons_head];exact List.perm_append_comm
 . exact h
theorem JV (h:aN x tl u) (hl:¬ 1000000≤u.2.1):aN x tl (gm u):=Inv.tick h (by omega)
theorem alG (h:aN x tl u):aN x u.2.1 (upU u):=by
 refine Inv.agD (wQ h (kY h u.2.1)) fun q hq h2=> ?_;rcases tf _ _ hq with e|⟨e1,e2⟩
 . omega
 . refine Classical.byContradiction fun hn=>e2 (List.mem_map.2 ⟨q,List.mem_filter.2 ⟨e1,lV.2 ⟨h2,by omega⟩⟩,rfl⟩)
theorem ado (h:aN 0 u.2.1 u):aN 0 (mI u).2.1 (mI u):=by
 unfold mI;split
 . exact h
 . rename_i hl
   have:=alG (Q9 (JV h hl));rw [show (upU (yE (gm u))).2.1=(yE (gm u)).2.1 from uT _ _];exact this
theorem alH (h:aN x tl u) (hl:l.length≤99900):Gv (zd 0 0 u.1 u.2.1 [] [] [] [] [] [] [] [] u.2.2.1 u.2.2.2.1 u.2.2.2.2.1 u.2.2.2.2.2.1 u.2.2.2.2.2.2.1 u.2.2.2.2.2.2.2.1 u.2.2.2.2.2.2.2.2.1 l).eval (upU u) l 12:=by
 obtain ⟨nx,tk,pg,ps,os,pi,fi,rd,ou,_⟩:=u;have hL:bV=68719476736:=rfl;have hB:aS=9223372036854775807:=rfl;have CH:ps.length≤6:=h.np;have h1:=foldl_loop (f:=rh) (fun (acc:List Int) i=>acc.length≤i) (fun acc (p:af)=>if kX tk p=true then acc++[p.1] else acc) ps
  (fun acc i=>(((i:Int),()),((0,0,()),(nx,tk,()),acc,([]:List (List aw)),([]:List af),([]:List ah),([]:List ag),([]:List ag),([]:List Int),([]:List Int),([]:List ET),pg,ps,os,pi,fi,rd,ou,l,())))
  (fun acc=>((),((0,0,()),(nx,tk,()),acc,([]:List (List aw)),([]:List af),([]:List ah),([]:List ag),([]:List ag),([]:List Int),([]:List Int),([]:List ET),pg,ps,os,pi,fi,rd,ou,l,())))
  (fun i hi acc ha=> ?_) (fun acc _=> ?_) (fun i hi acc ha=> ?_) (by omega) [] (abD 0)
 . have acG:∀ (a:List af) (acc:List Int),a.foldl (fun acc (p:af)=>if kX tk p=true then acc++[p.1] else acc) acc=acc++ei tk a:=by
    intro a
    induction a with
    |nil=>intro acc;simp [ei]
    |cons p r ih=>
     intro acc;rw [ade,ih];unfold ei;rw [afT];by_cases q:kX tk p=true
     . rw [aaK q,aaK q];simp [ao]
     . rw [aap q,aap q]
   rw [acG,aaL] at h1;have ha:=kY h tk;have hlen:(ei tk ps).length≤6:=by
    unfold ei;rw [aeN];exact aa3 (aga _ _) CH
   have E8:kV (ei tk ps) (nx,tk,pg,ps,os,pi,fi,rd,ou,()):=ha;unfold upU;show Gv _ (gj (ei tk ps) (nx,tk,pg,ps,os,pi,fi,rd,ou,())) _ _;generalize ei tk ps=vs at h1 E8 hlen;have h2:=foldl_loop (f:=ri) (fun (d:UT×List ET) i=>aN x tl d.1∧kV (vs.drop i) d.1∧d.2.length=l.length+2*i) (fun (d:UT×List ET) v=>(gB v d.1,mF v d.2)) vs
    (fun d i=>(((i:Int),()),((0,0,()),(d.1.1,d.1.2.1,()),vs,([]:List (List aw)),([]:List af),([]:List ah),([]:List ag),([]:List ag),([]:List Int),([]:List Int),([]:List ET),d.1.2.2.1,d.1.2.2.2.1,d.1.2.2.2.2.1,d.1.2.2.2.2.2.1,d.1.2.2.2.2.2.2.1,d.1.2.2.2.2.2.2.2.1,d.1.2.2.2.2.2.2.2.2.1,d.2,())))
    (fun d=>((),((0,0,()),(d.1.1,d.1.2.1,()),([]:List (List aw)),([]:List af),([]:List ah),([]:List ag),([]:List ag),([]:List Int),([]:List Int),([]:List ET),d.1.2.2.1,d.1.2.2.2.1,d.1.2.2.2.2.1,d.1.2.2.2.2.2.1,d.1.2.2.2.2.2.2.1,d.1.2.2.2.2.2.2.2.1,d.1.2.2.2.2.2.2.2.2.1,d.2,())))
    (fun i hi d hd=> ?_) (fun d _=> ?_) (fun i hi d hd=> ?_) (by omega) ((nx,tk,pg,ps,os,pi,fi,rd,ou,()),l) ⟨h,E8,rfl⟩
   . have QK:∀ (vs:List Int) (d:UT×List ET),vs.foldl (fun (d:UT×List ET) v=>(gB v d.1,mF v d.2)) d=(gj vs d.1,wR vs d.2):=by
      intro vs
      induction vs with
      |nil=>intro d;rfl
      |cons v r ih=>intro d;rw [ade,ih];rfl
     rw [QK] at h2;dsimp only [zd];refine Gv.step (aa h1) ?_;refine Gv.step (aa h2) ?_;exact Gv.ret (v:=gj vs (nx,tk,pg,ps,os,pi,fi,rd,ou,())) (l':=wR vs l) (by rw [tI];omega)
   . obtain ⟨hI,hA,CI⟩:=hd
     have hn:nth vs i=some vs[i]:=aaf hi;have hw:IntKind.i64.wrap ((i:Int)+1)=((i+1:Nat):Int):=ar (by omega);rw [acN hi] at hA;obtain ⟨q,hq,O9,q1,q6⟩:=hA.2 vs[i] afS;have hv:=E5 hI hq q1 (l:=d.2) (by omega);rw [O9] at hv;show Out.eval (ri _)=_;dsimp only [ri];simp only [aaH,hw];refine (ab (aaa (by omega))).trans ?_;refine (ab (aaa (by omega))).trans ?_;refine (aa hn).trans ?_;refine (aa hv).trans ?_;rfl
   . show Out.eval (ri _)=_
     dsimp only [ri];refine (ae (aae (by omega))).trans ?_;rfl
   . obtain ⟨hI,hA,CI⟩:=hd
     rw [acN hi] at hA;have:=hA.tail hI;exact ⟨this.1,this.2,by show (mF _ _).length=_;rw [bc,bc];omega⟩
 . have hn:nth ps i=some ps[i]:=aaf hi
   have hw:IntKind.i64.wrap ((i:Int)+1)=((i+1:Nat):Int):=ar (by omega);have Z9:acc.length+1≤bV:=by omega
   generalize ps[i]=p at hn;have Pj:(i:Int)<(ps.length:Int):=by omega
   show Out.eval (rh _)=_;dsimp only [rh,kX,cQ,pO];simp only [aaH,hw];by_cases e2:p.2.2.1=2
   . by_cases e3:p.2.2.2.2.2.2.2.1≤tk
     . simp [Out.eval,cond_eq_ite,Pj,hn,e2,e3,Z9]
     . simp [Out.eval,cond_eq_ite,Pj,hn,e2,e3]
   . simp [Out.eval,cond_eq_ite,Pj,hn,e2]
 . show Out.eval (rh _)=_
   dsimp only [rh];refine (ae (aae (by omega))).trans ?_;rfl
 . split
   . rw [aao];show acc.length+1≤i+1;omega
   . omega
theorem adp (h:aN 0 u.2.1 u):Gv (QE (u,())) (mI u) [] 20:=by
 have xO:=h.xO;show Gv (Out.eval (EY _)) _ _ _;dsimp only [EY];unfold mI;by_cases hl:1000000≤u.2.1
 . rw [aaK hl]
   refine Gv.step (ab (aaa hl)) ?_;exact Gv.ret (l':=[]) (by omega)
 rw [aap hl];refine Gv.step (ae (aae hl)) ?_;have hN:=JV h hl;have Fm:=pZ hN;have hup:= @alH 0 u.2.1 (yE (gm u));have hR:=Q9 hN;unfold yE at hup hR ⊢;obtain ⟨nx,tk,pg,ps,os,pi,fi,rd,ou,_⟩:=u;have d0:=eT (l:=[]) (VE (nx:=nx) (tk:=tk) (pg:=pg) (ps:=ps) (os:=os) (pi:=pi) (fi:=fi) (rd:=rd) (ou:=ou) (k:=0) (b:=0) (c:=0) (l:=[]) xO.1 (Int.not_le.1 hl)) (by simp);refine Gv.step (aa rfl) ?_;refine Gv.step (aa d0) ?_;by_cases h2:2≤rd.length
 . rw [aaK (show 2≤(m8 (gm (nx,tk,pg,ps,os,pi,fi,rd,ou,()))).length from h2)] at hup hR ⊢
   obtain ⟨v,w,r,rfl⟩:∃ v w r,rd=v::w::r:=by
    match rd,h2 with
    |v::w::r,_=>exact ⟨v,w,r,rfl⟩
   have Fm:(v::w::r).length≤6:=Fm;have he:(v::w::r).erase v=w::r:=List.erase_cons_head v _;have d1:=eT (l:=[]++[eE 24 0 0 0]) (zh (nx:=nx) (tk:=tk+1) (pg:=pg) (ps:=ps) (os:=os) (pi:=pi) (fi:=fi) (ou:=ou) (b:=0) (c:=0) (l:=[]) (show v∈v::w::r by simp) (by omega)) (by rw [bc];simp);have d2:=eT (l:=[]++[eE 24 0 0 0]++[eE 22 v 0 0]) (zg (nx:=nx) (tk:=tk+1) (pg:=pg) (ps:=ps) (os:=os) (pi:=pi) (fi:=fi) (ou:=ou) (k:=v) (b:=0) (c:=0) (l:=[]) (rd:=(v::w::r).erase v) (by rw [he];simp only [aai] at Fm ⊢; omega)) (by rw [bc,bc];simp);refine Gv.step (ab (aaa (by show ((List.length (v::w::r):Nat):Int)≥2;simp only [aai];omega))) ?_;refine Gv.step (ab (aaa (by show (0:Int)≤0∧(0:Int)<((List.length (v::w::r):Nat):Int);simp only [aai];omega))) ?_;refine Gv.step (aa (show nth (v::w::r) (Int.toNat 0)=some v from rfl)) ?_;refine Gv.step (aa rfl) ?_;refine Gv.step (aa d1) ?_;refine Gv.step (aa rfl) ?_;refine Gv.step (aa d2) ?_;exact (hup hR (l:=[]++[eE 24 0 0 0]++[eE 22 v 0 0]++[eE 21 v 0 0]) (by rw [bc,bc,bc];simp)).from (by rw [bc,bc,bc];simp)
 . rw [aap (show ¬ 2≤(m8 (gm (nx,tk,pg,ps,os,pi,fi,rd,ou,()))).length from h2)] at hup hR ⊢
   refine Gv.step (ae (aae (by show ¬ ((List.length rd:Nat):Int)≥2;omega))) ?_;exact (hup hR (l:=[]++[eE 24 0 0 0]) (by rw [bc];simp)).from (by rw [bc];simp)
end
end
section
open Go Go.ChangeShapes Go.WideShapes Go.ChangeAt Go.RowKit
section
variable {x tl:Int} {u u' w:UT} {p:af} {l l':List ET} {β:Type} {n m:Nat} {v code:Int}
structure aB (u u':UT):Prop where
 tick:u'.2.1=u.2.1
 next:u.1≤u'.1
 pg:u'.2.2.1=u.2.2.1
 out:uOu u <+: uOu u'
 pid:∀ q∈bu u',(∃ p∈bu u,p.1=q.1)∨u.1≤q.1
theorem aB.refl:aB u u:=⟨rfl,afK _,rfl,agc,fun q hq=> .inl ⟨q,hq,rfl⟩⟩
theorem aB.trans (h:aB u w) (k:aB w u'):aB u u':=⟨k.tick.trans h.tick,Int.le_trans h.next k.next,k.pg.trans h.pg,h.out.trans k.out,fun q hq=>by
 rcases k.pid q hq with ⟨p,hp,e⟩|e
 . rw [← e];exact h.pid p hp
 . exact .inr (Int.le_trans h.next e)⟩
theorem aB.procs {f:List af→List af} (h:aB u w) (hf:∀ a,∀ q∈f a,∃ p∈a,p.1=q.1):aB u (fS f w):=h.trans ⟨rfl,afK _,rfl,agc,fun q hq=> .inl (hf _ q hq)⟩
theorem aB.set {f:af→af} (h:aB u w) (hf:∀ q,(f q).1=q.1):aB u (de v f w):=h.procs fun a q hq=>by
 obtain ⟨z,hz,e⟩:=gh.1 hq;refine ⟨z,hz, ?_⟩;rw [← e];split
 . exact (hf z).symm
 . rfl
theorem aB.rm (h:aB u w):aB u (fS (fun ps=>ux ps v) w):=h.procs fun _ q hq=>⟨q,(iL.1 hq).1,rfl⟩
theorem aB.opens {f:List ah→List ah} (h:aB u w):aB u (bx f w):=h.trans ⟨rfl,afK _,rfl,agc,fun q hq=> .inl ⟨q,hq,rfl⟩⟩
theorem aB.cO {f:List ag→List ag} (h:aB u w):aB u (gE f w):=h.trans ⟨rfl,afK _,rfl,agc,fun q hq=> .inl ⟨q,hq,rfl⟩⟩
theorem aB.files {f:List ag→List ag} (h:aB u w):aB u (kU f w):=h.trans ⟨rfl,afK _,rfl,agc,fun q hq=> .inl ⟨q,hq,rfl⟩⟩
theorem aB.ready {f:List Int→List Int} (h:aB u w):aB u (dA f w):=h.trans ⟨rfl,afK _,rfl,agc,fun q hq=> .inl ⟨q,hq,rfl⟩⟩
theorem aB.outs (h:aB u w):aB u (VO v w):=h.trans ⟨rfl,afK _,rfl,List.prefix_append _ _,fun q hq=> .inl ⟨q,hq,rfl⟩⟩
theorem aB.spawn (h:aB u w):aB u (oB p w):=h.trans ⟨rfl,by show w.1≤w.1+1;omega,rfl,agc,fun q hq=>by
 rcases aaN.1 hq with e|e
 . exact .inl ⟨q,e,rfl⟩
 . rw [adi.1 e];exact .inr (afK _)⟩
theorem aB.jS (h:aB u w):aB u (gB v w):=(h.set (f:=kS 1 0) fun _=>rfl).ready
theorem aB.block {s t:Int} (h:aB u w):aB u (tH v s t w):=(h.set (f:=kS s t) fun _=>rfl).ready
theorem aB.kP {c:ag} (h:aB u w):aB u (B4 v c w):=h.set (f:=pA c) fun _=>rfl
theorem aB.told {c:ag} {y:Int} (h:aB u w):aB u (cI v c y w):=h.kP
theorem aB.je {c:ag} {y z:Int} (h:aB u w):aB u (iz v c y z w):=h.kP
theorem aB.fold {α:Type} {f:UT→α→UT} (hf:∀ w y,aB u w→aB u (f w y)):∀ {a:List α} {w:UT},aB u w→aB u (a.foldl f w)
 |[],_,h=>h
 |y::a,w,h=>aB.fold hf (a:=a) (hf w y h)
theorem aB.VV {vs:List Int} (h:aB u w):aB u (gj vs w):=aB.fold (f:=fun u v=>gB v u) (fun _ _ h=>h.jS) h
theorem aB.cZ {t:Int} (h:aB u w):aB u (fD t w):=h.VV
theorem aB.ite {c:Prop} [Decidable c] {a b:UT} (h:aB u a) (k:aB u b):aB u (if c then a else b):=by split<;>assumption
theorem aB.close {k:Nat} (h:aB u w):aB u (kW v k w):=by unfold kW;(repeat' first|assumption|exact aB.refl|(intro _;rfl)|apply aB.told|apply aB.je|apply aB.kP|apply aB.block|apply aB.jS|apply aB.cZ|apply aB.set|apply aB.rm|apply aB.opens|apply aB.cO|apply aB.files|apply aB.ready|apply aB.outs|apply aB.spawn|apply aB.ite|split)
theorem aB.Fl {k:Nat} (h:aB u w):aB u (cq v k w):=aB.fold (f:=kx v) (fun w j h=>by
 unfold kx;split
 . exact h
 . split
   . exact h
   . exact h.close) h
theorem aB.kids {ks:List af} (h:aB u w):aB u (gk v ks w):=aB.fold (f:=qa v) (fun w j h=>by unfold qa;(repeat' first|assumption|exact aB.refl|(intro _;rfl)|apply aB.told|apply aB.je|apply aB.kP|apply aB.block|apply aB.jS|apply aB.cZ|apply aB.set|apply aB.rm|apply aB.opens|apply aB.cO|apply aB.files|apply aB.ready|apply aB.outs|apply aB.spawn|apply aB.ite|split)) h
theorem aB.last (h:aB u w):aB u (Fe v code w):=by unfold Fe;(repeat' first|assumption|exact aB.refl|(intro _;rfl)|apply aB.told|apply aB.je|apply aB.kP|apply aB.block|apply aB.jS|apply aB.cZ|apply aB.set|apply aB.rm|apply aB.opens|apply aB.cO|apply aB.files|apply aB.ready|apply aB.outs|apply aB.spawn|apply aB.ite|split)
theorem aB.drop (h:aB u w):aB u (lT v w):=h.set (f:=kI []) fun _=>rfl
theorem aB.ends (h:aB u w):aB u (jd v code w):=by
 unfold jd;exact h.Fl.drop.kids.last
theorem aB.exit (h:aB u w):aB u (pq v code w):=by
 unfold pq;split
 . exact h
 . split
   . exact h.ends
   . exact h.jS.ends
theorem aB.sys {c:ag} {k:Int}:aB u (JR p c k u):=by
 unfold JR;refine aB.ite ?_ ?_
 . exact aB.refl.exit
 refine aB.ite ?_ ?_
 . unfold CK;(repeat' first|assumption|exact aB.refl|(intro _;rfl)|apply aB.told|apply aB.je|apply aB.kP|apply aB.block|apply aB.jS|apply aB.cZ|apply aB.set|apply aB.rm|apply aB.opens|apply aB.cO|apply aB.files|apply aB.ready|apply aB.outs|apply aB.spawn|apply aB.ite|split)
 refine aB.ite ?_ ?_
 . unfold CM;(repeat' first|assumption|exact aB.refl|(intro _;rfl)|apply aB.told|apply aB.je|apply aB.kP|apply aB.block|apply aB.jS|apply aB.cZ|apply aB.set|apply aB.rm|apply aB.opens|apply aB.cO|apply aB.files|apply aB.ready|apply aB.outs|apply aB.spawn|apply aB.ite|split)
 refine aB.ite ?_ ?_
 . (repeat' first|assumption|exact aB.refl|(intro _;rfl)|apply aB.told|apply aB.je|apply aB.kP|apply aB.block|apply aB.jS|apply aB.cZ|apply aB.set|apply aB.rm|apply aB.opens|apply aB.cO|apply aB.files|apply aB.ready|apply aB.outs|apply aB.spawn|apply aB.ite|split)
 refine aB.ite ?_ ?_
 . unfold CN;(repeat' first|assumption|exact aB.refl|(intro _;rfl)|apply aB.told|apply aB.je|apply aB.kP|apply aB.block|apply aB.jS|apply aB.cZ|apply aB.set|apply aB.rm|apply aB.opens|apply aB.cO|apply aB.files|apply aB.ready|apply aB.outs|apply aB.spawn|apply aB.ite|split)
 refine aB.ite ?_ ?_
 . unfold lE tO;(repeat' first|assumption|exact aB.refl|(intro _;rfl)|apply aB.told|apply aB.je|apply aB.kP|apply aB.block|apply aB.jS|apply aB.cZ|apply aB.set|apply aB.rm|apply aB.opens|apply aB.cO|apply aB.files|apply aB.ready|apply aB.outs|apply aB.spawn|apply aB.ite|split)
 refine aB.ite ?_ ?_
 . unfold kg
   split
   . (repeat' first|assumption|exact aB.refl|(intro _;rfl)|apply aB.told|apply aB.je|apply aB.kP|apply aB.block|apply aB.jS|apply aB.cZ|apply aB.set|apply aB.rm|apply aB.opens|apply aB.cO|apply aB.files|apply aB.ready|apply aB.outs|apply aB.spawn|apply aB.ite|split)
   . exact aB.refl.close.told
 refine aB.ite ?_ ?_
 . unfold CQ wZ nD;(repeat' first|assumption|exact aB.refl|(intro _;rfl)|apply aB.told|apply aB.je|apply aB.kP|apply aB.block|apply aB.jS|apply aB.cZ|apply aB.set|apply aB.rm|apply aB.opens|apply aB.cO|apply aB.files|apply aB.ready|apply aB.outs|apply aB.spawn|apply aB.ite|split)
 refine aB.ite ?_ ?_
 . unfold w8 rA lG;(repeat' first|assumption|exact aB.refl|(intro _;rfl)|apply aB.told|apply aB.je|apply aB.kP|apply aB.block|apply aB.jS|apply aB.cZ|apply aB.set|apply aB.rm|apply aB.opens|apply aB.cO|apply aB.files|apply aB.ready|apply aB.outs|apply aB.spawn|apply aB.ite|split)
 refine aB.ite ?_ ?_
 . unfold lF Am;(repeat' first|assumption|exact aB.refl|(intro _;rfl)|apply aB.told|apply aB.je|apply aB.kP|apply aB.block|apply aB.jS|apply aB.cZ|apply aB.set|apply aB.rm|apply aB.opens|apply aB.cO|apply aB.files|apply aB.ready|apply aB.outs|apply aB.spawn|apply aB.ite|split)
 refine aB.ite ?_ ?_
 . unfold N0 dup2;(repeat' first|assumption|exact aB.refl|(intro _;rfl)|apply aB.told|apply aB.je|apply aB.kP|apply aB.block|apply aB.jS|apply aB.cZ|apply aB.set|apply aB.rm|apply aB.opens|apply aB.cO|apply aB.files|apply aB.ready|apply aB.outs|apply aB.spawn|apply aB.ite|split)
 refine aB.ite ?_ ?_
 . unfold wY;(repeat' first|assumption|exact aB.refl|(intro _;rfl)|apply aB.told|apply aB.je|apply aB.kP|apply aB.block|apply aB.jS|apply aB.cZ|apply aB.set|apply aB.rm|apply aB.opens|apply aB.cO|apply aB.files|apply aB.ready|apply aB.outs|apply aB.spawn|apply aB.ite|split)
 refine aB.ite ?_ ?_
 . unfold CR
   split
   . (repeat' first|assumption|exact aB.refl|(intro _;rfl)|apply aB.told|apply aB.je|apply aB.kP|apply aB.block|apply aB.jS|apply aB.cZ|apply aB.set|apply aB.rm|apply aB.opens|apply aB.cO|apply aB.files|apply aB.ready|apply aB.outs|apply aB.spawn|apply aB.ite|split)
   . split
     . (repeat' first|assumption|exact aB.refl|(intro _;rfl)|apply aB.told|apply aB.je|apply aB.kP|apply aB.block|apply aB.jS|apply aB.cZ|apply aB.set|apply aB.rm|apply aB.opens|apply aB.cO|apply aB.files|apply aB.ready|apply aB.outs|apply aB.spawn|apply aB.ite|split)
     . split
       . exact aB.refl.exit
       . exact aB.refl.exit.told
 refine aB.ite ?_ ?_
 . unfold rz;(repeat' first|assumption|exact aB.refl|(intro _;rfl)|apply aB.told|apply aB.je|apply aB.kP|apply aB.block|apply aB.jS|apply aB.cZ|apply aB.set|apply aB.rm|apply aB.opens|apply aB.cO|apply aB.files|apply aB.ready|apply aB.outs|apply aB.spawn|apply aB.ite|split)
 refine aB.ite ?_ ?_
 . (repeat' first|assumption|exact aB.refl|(intro _;rfl)|apply aB.told|apply aB.je|apply aB.kP|apply aB.block|apply aB.jS|apply aB.cZ|apply aB.set|apply aB.rm|apply aB.opens|apply aB.cO|apply aB.files|apply aB.ready|apply aB.outs|apply aB.spawn|apply aB.ite|split)
 refine aB.ite ?_ ?_
 . unfold CO;(repeat' first|assumption|exact aB.refl|(intro _;rfl)|apply aB.told|apply aB.je|apply aB.kP|apply aB.block|apply aB.jS|apply aB.cZ|apply aB.set|apply aB.rm|apply aB.opens|apply aB.cO|apply aB.files|apply aB.ready|apply aB.outs|apply aB.spawn|apply aB.ite|split)
 refine aB.ite ?_ ?_
 . unfold Aq;(repeat' first|assumption|exact aB.refl|(intro _;rfl)|apply aB.told|apply aB.je|apply aB.kP|apply aB.block|apply aB.jS|apply aB.cZ|apply aB.set|apply aB.rm|apply aB.opens|apply aB.cO|apply aB.files|apply aB.ready|apply aB.outs|apply aB.spawn|apply aB.ite|split)
 . (repeat' first|assumption|exact aB.refl|(intro _;rfl)|apply aB.told|apply aB.je|apply aB.kP|apply aB.block|apply aB.jS|apply aB.cZ|apply aB.set|apply aB.rm|apply aB.opens|apply aB.cO|apply aB.files|apply aB.ready|apply aB.outs|apply aB.spawn|apply aB.ite|split)
theorem aB.Fs {r:ag×Ut}:aB u (Fs p r u):=by
 unfold Dm.Fs;split
 . exact aB.refl.exit
 split
 . exact aB.sys
 split
 . exact aB.refl.kP.set fun _=>rfl
 . exact aB.refl.kP
theorem aB.run:aB u (As u):=by
 unfold As;split
 . exact aB.refl
 split
 . exact aB.refl
 split
 . exact aB.refl
 . exact aB.Fs
abbrev fB (u:UT):Prop:=aN 0 u.2.1 u
theorem gX:dz u.1 u.2.1 u.2.2.1 u.2.2.2.1 u.2.2.2.2.1 u.2.2.2.2.2.1 u.2.2.2.2.2.2.1 u.2.2.2.2.2.2.2.1 u.2.2.2.2.2.2.2.2.1=true↔fB u:=Js
theorem ahu (h:fB u):fB (As u):=by
 have:=ahr h (afK _);unfold fB;rw [(aB.run (u:=u)).tick];exact this
theorem Ft (h:fB u):fB (mI u):=ado h
end
end
section
open Go Go.ChangeShapes Go.WideShapes Go.ChangeAt Go.RowKit
abbrev ahv:=(t4×Unit)×(Unit×Unit)
def LN:t4×Unit→Out ahv
|(a0,_)=>
 .get (QC (a0,())) fun ((eu,_),_)=>
 .ret (((eu.1,eu.2.1,eu.2.2.1,eu.2.2.2.1,eu.2.2.2.2.1,eu.2.2.2.2.2.1,eu.2.2.2.2.2.2.1,eu.2.2.2.2.2.2.2.1,eu.2.2.2.2.2.2.2.2.1,()),()),((),()))
def Ra (x:t4×Unit):=(LN x).eval
def k69:bM:=cw 69 false [i4] [none] [i4] LN
theorem adq:k69.Ok Tryz.prog:=bA bF [] [] [ag0] ⟨Vr,trivial⟩ (fun _=>none) Tryz.f69 [.cell 2 31] fun x=>by kernel_rfl
abbrev ahw:=(t4×Unit)×(Unit×Unit)
def LO:t4×Unit→Out ahw
|(a0,_)=>
 .get (QE (a0,())) fun ((eu,_),_)=>
 .ret (((eu.1,eu.2.1,eu.2.2.1,eu.2.2.2.1,eu.2.2.2.2.1,eu.2.2.2.2.2.1,eu.2.2.2.2.2.2.1,eu.2.2.2.2.2.2.2.1,eu.2.2.2.2.2.2.2.2.1,()),()),((),()))
def Rb (x:t4×Unit):=(LO x).eval
def k56:bM:=cw 56 false [i4] [none] [i4] LO
theorem Rc:k56.Ok Tryz.prog:=bA bF [] [] [ag2] ⟨Vt,trivial⟩ (fun _=>none) Tryz.f56 [.cell 2 31] fun x=>by kernel_rfl
abbrev ahx:=(t4×Unit)×(Unit×Unit)
def anD:t5×Unit→Out ahx
|(a0,_)=>
 .ite (!(dz a0.1 a0.2.1 a0.2.2.1 a0.2.2.2.1 a0.2.2.2.2.1 a0.2.2.2.2.2.1 a0.2.2.2.2.2.2.1 a0.2.2.2.2.2.2.2.1 a0.2.2.2.2.2.2.2.2.1))
 (.ret (((0,0,([]:List (List aw)),([]:List af),([]:List ah),([]:List ag),([]:List ag),([]:List Int),([]:List Int),()),()),((),())))
 (.get (Re (a0,())) fun ((eu,_),_)=>
 .get (Ra (eu,())) fun ((b9,_),_)=>
 .get (Fu (b9,())) fun ((dF,_),_)=>
 .ret ((dF,()),((),())))
abbrev ahy:=(t4×Unit)×(Unit×Unit)
def LP:t5×Unit→Out ahy
|(a0,_)=>
 .ite (!(dz a0.1 a0.2.1 a0.2.2.1 a0.2.2.2.1 a0.2.2.2.2.1 a0.2.2.2.2.2.1 a0.2.2.2.2.2.2.1 a0.2.2.2.2.2.2.2.1 a0.2.2.2.2.2.2.2.2.1))
 (.ret (((0,0,([]:List (List aw)),([]:List af),([]:List ah),([]:List ag),([]:List ag),([]:List Int),([]:List Int),()),()),((),())))
 (.get (Re (a0,())) fun ((eu,_),_)=>
 .get (Rb (eu,())) fun ((b9,_),_)=>
 .get (Fu (b9,())) fun ((dF,_),_)=>
 .ret ((dF,()),((),())))
def aah (x:t5×Unit):=(LP x).eval
def k23:bM:=cw 23 false [i5] [none] [i4] LP
theorem adr:k23.Ok Tryz.prog:=bA bF [] [] [k54,k39,k56,ads] ⟨Rf,adt,Rc,LQ,trivial⟩ (fun _=>none) Tryz.f23 [.cell 2 31] fun x=>by kernel_rfl
abbrev ahz:=(t4×t10×Unit)×(Unit×Unit)
abbrev Rg:=(List (List aw)×Int×Unit)×((Int×Int×Unit)×(Int×Int×Unit)×List (List aw)×List af×List ah×List ag×List ag×List Int×List Int×Cz)
def xa:Rg→Out (Round Rg ((Unit)×((Int×Int×Unit)×(Int×Int×Unit)×List (List aw)×List af×List ah×List ag×List ag×List Int×List Int×Cz)) Empty)
|((p0,p1,_),(p2,p3,_),(p4,p5,_),p6,p7,p8,p9,cz,cE,dp,dh,du,cP,dG,dX,ep,eZ,_)=>
 .ite (decide (p1<((List.length p0:Nat):Int)))
 (.ite (decide (0≤p1))
 (.get (nth p0 (Int.toNat p1)) fun y1=>
 .ite (decide (List.length ([]:List aw)+List.length y1≤bV))
 (.ite (decide (List.length dh+List.length ([(([]:List aw)++y1)]:List (List aw))≤bV))
 (.ret (.again ((p0,(IntKind.i64.wrap (p1+1)),()),((p2,p3,()),(p4,p5,()),p6,p7,p8,p9,cz,cE,dp,(dh++([(([]:List aw)++y1)]:List (List aw))),du,cP,dG,dX,ep,eZ,()))))
 .fail)
 .fail)
 .fail)
 (.ret (.out ((),((p2,p3,()),(p4,p5,()),p6,p7,p8,p9,cz,cE,dp,dh,du,cP,dG,dX,ep,eZ,()))))
def LR:t3×Unit→Out ahz
|(a0,_)=>
 .ite (!(cD a0.1))
 (.ret (((0,0,([]:List (List aw)),([]:List af),([]:List ah),([]:List ag),([]:List ag),([]:List Int),([]:List Int),()),(false,()),()),((),())))
 (.get (b5 xa bn ((a0.1,0,()),((0,0,()),(2,0,()),([]:List (List aw)),([]:List af),([]:List ah),([]:List ag),([]:List ag),([]:List Int),([]:List Int),([]:List (List aw)),([]:List af),([(0,1,0,0,2,())]:List ah),([]:List ag),([]:List ag),([(1:Int)]:List Int),([]:List Int),()))) fun (_,_,(Es,yr,_),_,_,_,_,_,_,_,yu,_,yv,uC,yw,wK,yx,_)=>
 .get (pW ((4,()),())) fun ((b9,_),_)=>
 .get (pW ((4,()),())) fun ((dF,_),_)=>
 .ret (((Es,yr,yu,([(1,0,1,0,(0,b9),dF.1,([0,0, -1,(-1:Int)]:List Int),0,0,())]:List af),yv,uC,yw,wK,yx,()),(true,()),()),((),())))
def aaj (x:t3×Unit):=(LR x).eval
abbrev Rh:List (Nat×dT):=[(64000000, .var [.i .i64, .i .i64, .aP 64000002, .aP 64000003, .aP 64000004, .aP 64000005, .aP 64000006, .aP 64000007, .aP 64000008]),(64000001, .var [.i .i64, .i .i64, .aP 64000009, .aP 64000010, .aP 64000011, .aP 64000012, .aP 64000013, .aP 64000014, .aP 64000015]),(64000002, .arr (.fz b8)),(64000003, .arr eM),(64000004, .arr cH),(64000005, .arr bW),(64000006, .arr bW),(64000007, .arr br),(64000008, .arr br),(64000009, .arr (.fz b8)),(64000010, .arr eM),(64000011, .arr cH),(64000012, .arr bW),(64000013, .arr bW),(64000014, .arr br),(64000015, .arr br)]
def ahA:Nat→Option aq:=fun n=>bU [(0,⟨⟨[.ro (.fz b8) (some 0), .dead, .vptr 64000000 0, .dead, .vptr 64000001 0, .i .i64]++dd 33,Rh⟩,⟨[.dead, .dead, .vptr 64000000 0, .dead, .vptr 64000001 0]++dd 34,Rh⟩,none,false⟩)] n
def k48:bM:=cw 48 false [i3] [none] [i4,i10] LR
theorem adu:k48.Ok Tryz.prog:=bA bF [1800,2049] [(1800,1),(2049,1)] [Fv,k95] ⟨LS,EU,trivial⟩ ahA Tryz.f48 [.cell 2 31, .tmp 3] fun x=>by kernel_rfl
end
section
open Go Go.ChangeShapes Go.WideShapes Go.ChangeAt Go.RowKit
section
variable {x tl:Int} {u u' w:UT} {p:af} {l l':List ET} {β:Type} {n m:Nat} {v code:Int}
theorem fl {α:Type}:∀ (a acc:List α),a.foldl (fun acc y=>acc++[y]) acc=acc++a
 |[],acc=>by simp
 |y::a,acc=>by rw [ade,fl a];simp
theorem nF {l:List aw} (h:bT l=true):l.length≤40:=abH (Bool.and_eq_true_iff.1 h).1
theorem VW {pg:List (List aw)} (h:cD pg=true):JW ((pg,()),())=some (((pg,()),()),((),())):=by
 unfold cD at h;simp only [aaE,ack] at h;have hL:bV=68719476736:=rfl;have hB:aS=9223372036854775807:=rfl;have h1:=foldl_loop (f:=rB) (fun (acc:List (List aw)) i=>acc.length=i) (fun acc y=>acc++[y]) pg
  (fun acc i=>((pg,(i:Int),()),(acc,()))) (fun acc=>((),(acc,()))) (fun i hi acc ha=> ?_) (fun acc _=> ?_) (fun i hi acc ha=> ?_) (by omega) [] rfl
 . rw [fl,aaL] at h1
   show Out.eval (Fw _)=_;dsimp only [Fw];exact (aa h1).trans rfl
 . have hn:nth pg i=some pg[i]:=aaf hi
   have hw:IntKind.i64.wrap ((i:Int)+1)=((i+1:Nat):Int):=ar (by omega);have hp:=nF (aa1.1 h.2 _ (acD hi));show Out.eval (rB _)=_;dsimp only [rB];simp only [aaH,hw];refine (ab (aaa (by omega))).trans ?_;refine (ab (aaa (by omega))).trans ?_;refine (aa hn).trans ?_;refine (ab (aaa (by simp only [aat];omega))).trans ?_;refine (ab (aaa (by simp only [aai,aat];omega))).trans ?_;rfl
 . show Out.eval (rB _)=_
   dsimp only [rB];refine (ae (aae (by omega))).trans ?_;rfl
 . rw [aao,ha];rfl
theorem Ri {pg:List (List aw)} (h:cD pg=true):Fx ((pg,()),())=some (((pg,()),()),((),())):=by
 unfold cD at h;simp only [aaE,ack] at h;have hL:bV=68719476736:=rfl;have hB:aS=9223372036854775807:=rfl;have h1:=foldl_loop (f:=nG) (fun (acc:List (List aw)) i=>acc.length=i) (fun acc y=>acc++[y]) pg
  (fun acc i=>(((i:Int),()),(pg,acc,()))) (fun acc=>((),(acc,()))) (fun i hi acc ha=> ?_) (fun acc _=> ?_) (fun i hi acc ha=> ?_) (by omega) [] rfl
 . rw [fl,aaL] at h1
   show Out.eval (zn _)=_;dsimp only [zn];exact (aa h1).trans rfl
 . have hn:nth pg i=some pg[i]:=aaf hi
   have hw:IntKind.i64.wrap ((i:Int)+1)=((i+1:Nat):Int):=ar (by omega);have hp:=nF (aa1.1 h.2 _ (acD hi));show Out.eval (nG _)=_;dsimp only [nG];simp only [aaH,hw];refine (ab (aaa (by omega))).trans ?_;refine (ab (aaa (by omega))).trans ?_;refine (aa hn).trans ?_;refine (ab (aaa (by simp only [aat];omega))).trans ?_;refine (ab (aaa (by simp only [aai,aat];omega))).trans ?_;rfl
 . show Out.eval (nG _)=_
   dsimp only [nG];refine (ae (aae (by omega))).trans ?_;rfl
 . rw [aao,ha];rfl
theorem xb (h:aN x tl u) (hp:p∈bu u):et p.1 p.2.1 p.2.2.1 p.2.2.2.1 p.2.2.2.2.1.1 p.2.2.2.2.1.2.1 p.2.2.2.2.2.1 p.2.2.2.2.2.2.1 p.2.2.2.2.2.2.2.1 p.2.2.2.2.2.2.2.2.1=some (p.1,p.2.1,p.2.2.1,p.2.2.2.1,p.2.2.2.2.1.1,p.2.2.2.2.1.2.1,p.2.2.2.2.2.1,p.2.2.2.2.2.2.1,p.2.2.2.2.2.2.2.1,p.2.2.2.2.2.2.2.2.1):=aaK (by
 have hL:bV=68719476736:=rfl;have JN:=h.loc p hp;have a1:p.2.2.2.2.1.2.1.length=4:=(dm JN.kP).2.1;have a2:p.2.2.2.2.2.1.length≤12:=JN.mem.1;have a3:p.2.2.2.2.2.2.1.length=4:=JN.fds;omega)
theorem adv (h:aN x tl u):Re (u,())=some ((u,()),((),())):=by
 have hL:bV=68719476736:=rfl;have hB:aS=9223372036854775807:=rfl;have lU:=nA h;have Gs:=uN h;have qQ:=xR h;have Fm:=pZ h;have yN:=h.yN.1;have CH:=h.np;have uv:=VW h.uv;have hpc:=fun (p:af) (hp:p∈bu u)=>xb h hp;have hpd:=fun (y:ag) (hy:y∈uM u)=>(h.uw y hy).data.1;have BO:=fun (y:ag) (hy:y∈uy u)=>(jz h hy).1;obtain ⟨nx,tk,pg,ps,os,pi,fi,rd,ou,_⟩:=u;have lU:os.length≤1000:=aa3 lU (by omega);have Gs:pi.length≤1000:=aa3 Gs (by omega);have qQ:fi.length≤1000:=aa3 qQ (by omega);have Fm:rd.length≤6:=Fm;have yN:ou.length≤60:=yN;have CH:ps.length≤6:=CH;have uv:JW ((pg,()),())=some (((pg,()),()),((),())):=uv;have h0:=foldl_loop (f:=xc) (fun (acc:List af) i=>acc.length=i) (fun acc y=>acc++[y]) ps
  (fun acc i=>(((i:Int),()),((nx,tk,pg,ps,os,pi,fi,rd,ou,()),(0,0,()),(nx,tk,os,pi,fi,rd,ou,()),[],[],[],[],[],[],[],pg,acc,())))
  (fun acc=>((),((nx,tk,pg,ps,os,pi,fi,rd,ou,()),(0,0,()),(nx,tk,os,pi,fi,rd,ou,()),[],[],[],[],[],[],[],pg,acc,()))) (fun i hi acc ha=> ?_) (fun acc _=> ?_) (fun i hi acc ha=> ?_) (by omega) [] rfl
 . rw [fl,aaL] at h0
   have h2:=foldl_loop (f:=xd) (fun (acc:List ag) i=>acc.length=i) (fun acc y=>acc++[y]) pi
    (fun acc i=>(((i:Int),()),((nx,tk,pg,ps,os,pi,fi,rd,ou,()),(0,0,()),(nx,tk,fi,rd,ou,()),[],[],[],[],[],[],[],pg,ps,os,acc,())))
    (fun acc=>((),((nx,tk,pg,ps,os,pi,fi,rd,ou,()),(0,0,()),(nx,tk,fi,rd,ou,()),[],[],[],[],[],[],[],pg,ps,os,acc,()))) (fun i hi acc ha=> ?_) (fun acc _=> ?_) (fun i hi acc ha=> ?_) (by omega) [] rfl
   . rw [fl,aaL] at h2
     have h4:=foldl_loop (f:=xe) (fun (acc:List ag) i=>acc.length=i) (fun acc y=>acc++[y]) fi
      (fun acc i=>(((i:Int),()),((nx,tk,pg,ps,os,pi,fi,rd,ou,()),(0,0,()),(nx,tk,rd,ou,()),[],[],[],[],[],[],[],pg,ps,os,pi,acc,())))
      (fun acc=>((),((nx,tk,pg,ps,os,pi,fi,rd,ou,()),(0,0,()),(nx,tk,rd,ou,()),[],[],[],[],[],[],[],pg,ps,os,pi,acc,()))) (fun i hi acc ha=> ?_) (fun acc _=> ?_) (fun i hi acc ha=> ?_) (by omega) [] rfl
     . rw [fl,aaL] at h4
       show Out.eval (LU _)=_;dsimp only [LU];refine (aa uv).trans ?_;refine (aa h0).trans ?_;dsimp only;refine (ab (aaa (by simp only [aat];omega))).trans ?_;refine (aa h2).trans ?_;refine (aa h4).trans ?_;dsimp only;refine (ab (aaa (by simp only [aat];omega))).trans ?_;refine (ab (aaa (by simp only [aat];omega))).trans ?_;rfl
     . have hn:nth fi i=some fi[i]:=aaf hi
       have hw:IntKind.i64.wrap ((i:Int)+1)=((i+1:Nat):Int):=ar (by omega);have hd:=BO _ (acD hi);show Out.eval (xe _)=_;dsimp only [xe];simp only [aaH,hw];refine (ab (aaa (by omega))).trans ?_;refine (ab (aaa (by omega))).trans ?_;refine (aa hn).trans ?_;refine (ab (aaa (by omega))).trans ?_;refine (aa hn).trans ?_;refine (ab (aaa (by simp only [aat];omega))).trans ?_;refine (ab (aaa (by simp only [aai,aat];omega))).trans ?_;rfl
     . show Out.eval (xe _)=_
       dsimp only [xe];refine (ae (aae (by omega))).trans ?_;rfl
     . rw [aao,ha];rfl
   . have hn:nth pi i=some pi[i]:=aaf hi
     have hw:IntKind.i64.wrap ((i:Int)+1)=((i+1:Nat):Int):=ar (by omega);have hd:=hpd _ (acD hi);show Out.eval (xd _)=_;dsimp only [xd];simp only [aaH,hw];refine (ab (aaa (by omega))).trans ?_;refine (ab (aaa (by omega))).trans ?_;refine (aa hn).trans ?_;refine (ab (aaa (by omega))).trans ?_;refine (aa hn).trans ?_;refine (ab (aaa (by simp only [aat];omega))).trans ?_;refine (ab (aaa (by simp only [aai,aat];omega))).trans ?_;rfl
   . show Out.eval (xd _)=_
     dsimp only [xd];refine (ae (aae (by omega))).trans ?_;rfl
   . rw [aao,ha];rfl
 . have hn:nth ps i=some ps[i]:=aaf hi
   have hw:IntKind.i64.wrap ((i:Int)+1)=((i+1:Nat):Int):=ar (by omega);have hc:=hpc _ (acD hi);show Out.eval (xc _)=_;dsimp only [xc];simp only [aaH,hw];refine (ab (aaa (by omega))).trans ?_;refine (ab (aaa (by omega))).trans ?_;refine (aa hn).trans ?_;refine (aa hc).trans ?_;refine (ab (aaa (by simp only [aai,aat];omega))).trans ?_;rfl
 . show Out.eval (xc _)=_
   dsimp only [xc];refine (ae (aae (by omega))).trans ?_;rfl
 . rw [aao,ha];rfl
theorem LV (h:aN x tl u):Fu (u,())=some ((u,()),((),())):=by
 have hL:bV=68719476736:=rfl;have hB:aS=9223372036854775807:=rfl;have lU:=nA h;have Gs:=uN h;have qQ:=xR h;have Fm:=pZ h;have yN:=h.yN.1;have CH:=h.np;have uv:=Ri h.uv;have hpc:=fun (p:af) (hp:p∈bu u)=>xb h hp;have hpd:=fun (y:ag) (hy:y∈uM u)=>(h.uw y hy).data.1;have BO:=fun (y:ag) (hy:y∈uy u)=>(jz h hy).1;obtain ⟨nx,tk,pg,ps,os,pi,fi,rd,ou,_⟩:=u;have lU:os.length≤1000:=aa3 lU (by omega);have Gs:pi.length≤1000:=aa3 Gs (by omega);have qQ:fi.length≤1000:=aa3 qQ (by omega);have Fm:rd.length≤6:=Fm;have yN:ou.length≤60:=yN;have CH:ps.length≤6:=CH;have uv:Fx ((pg,()),())=some (((pg,()),()),((),())):=uv;have h0:=foldl_loop (f:=rC) (fun (acc:List af) i=>acc.length=i) (fun acc y=>acc++[y]) ps
  (fun acc i=>(((i:Int),()),((nx,tk,()),(0,0,()),(nx,tk,()),ps,os,pi,fi,rd,ou,[],[],[],[],[],[],[],pg,acc,())))
  (fun acc=>((),((nx,tk,()),(0,0,()),(nx,tk,()),ps,os,pi,fi,rd,ou,[],[],[],[],[],[],[],pg,acc,()))) (fun i hi acc ha=> ?_) (fun acc _=> ?_) (fun i hi acc ha=> ?_) (by omega) [] rfl
 . rw [fl,aaL] at h0
   have h2:=foldl_loop (f:=rD) (fun (acc:List ag) i=>acc.length=i) (fun acc y=>acc++[y]) pi
    (fun acc i=>(((i:Int),()),((nx,tk,()),(0,0,()),(nx,tk,()),ps,os,pi,fi,rd,ou,[],[],[],[],[],[],[],pg,ps,os,acc,())))
    (fun acc=>((),((nx,tk,()),(0,0,()),(nx,tk,()),ps,os,pi,fi,rd,ou,[],[],[],[],[],[],[],pg,ps,os,acc,()))) (fun i hi acc ha=> ?_) (fun acc _=> ?_) (fun i hi acc ha=> ?_) (by omega) [] rfl
   . rw [fl,aaL] at h2
     have h4:=foldl_loop (f:=rE) (fun (acc:List ag) i=>acc.length=i) (fun acc y=>acc++[y]) fi
      (fun acc i=>(((i:Int),()),((nx,tk,()),(0,0,()),(nx,tk,()),ps,os,pi,fi,rd,ou,[],[],[],[],[],[],[],pg,ps,os,pi,acc,())))
      (fun acc=>((),((nx,tk,()),(0,0,()),(nx,tk,()),ps,os,pi,fi,rd,ou,[],[],[],[],[],[],[],pg,ps,os,pi,acc,()))) (fun i hi acc ha=> ?_) (fun acc _=> ?_) (fun i hi acc ha=> ?_) (by omega) [] rfl
     . rw [fl,aaL] at h4
       show Out.eval (Fy _)=_;dsimp only [Fy];refine (aa uv).trans ?_;refine (aa h0).trans ?_;dsimp only;refine (ab (aaa (by simp only [aat];omega))).trans ?_;refine (aa h2).trans ?_;refine (aa h4).trans ?_;dsimp only;refine (ab (aaa (by simp only [aat];omega))).trans ?_;refine (ab (aaa (by simp only [aat];omega))).trans ?_;rfl
     . have hn:nth fi i=some fi[i]:=aaf hi
       have hw:IntKind.i64.wrap ((i:Int)+1)=((i+1:Nat):Int):=ar (by omega);have hd:=BO _ (acD hi);show Out.eval (rE _)=_;dsimp only [rE];simp only [aaH,hw];refine (ab (aaa (by omega))).trans ?_;refine (ab (aaa (by omega))).trans ?_;refine (aa hn).trans ?_;refine (ab (aaa (by omega))).trans ?_;refine (aa hn).trans ?_;refine (ab (aaa (by simp only [aat];omega))).trans ?_;refine (ab (aaa (by simp only [aai,aat];omega))).trans ?_;rfl
     . show Out.eval (rE _)=_
       dsimp only [rE];refine (ae (aae (by omega))).trans ?_;rfl
     . rw [aao,ha];rfl
   . have hn:nth pi i=some pi[i]:=aaf hi
     have hw:IntKind.i64.wrap ((i:Int)+1)=((i+1:Nat):Int):=ar (by omega);have hd:=hpd _ (acD hi);show Out.eval (rD _)=_;dsimp only [rD];simp only [aaH,hw];refine (ab (aaa (by omega))).trans ?_;refine (ab (aaa (by omega))).trans ?_;refine (aa hn).trans ?_;refine (ab (aaa (by omega))).trans ?_;refine (aa hn).trans ?_;refine (ab (aaa (by simp only [aat];omega))).trans ?_;refine (ab (aaa (by simp only [aai,aat];omega))).trans ?_;rfl
   . show Out.eval (rD _)=_
     dsimp only [rD];refine (ae (aae (by omega))).trans ?_;rfl
   . rw [aao,ha];rfl
 . have hn:nth ps i=some ps[i]:=aaf hi
   have hw:IntKind.i64.wrap ((i:Int)+1)=((i+1:Nat):Int):=ar (by omega);have hc:=hpc _ (acD hi);show Out.eval (rC _)=_;dsimp only [rC];simp only [aaH,hw];refine (ab (aaa (by omega))).trans ?_;refine (ab (aaa (by omega))).trans ?_;refine (aa hn).trans ?_;refine (aa hc).trans ?_;refine (ab (aaa (by simp only [aai,aat];omega))).trans ?_;rw [jc (show ps[i]? =some ps[i] from hn)];rfl
 . show Out.eval (rC _)=_
   dsimp only [rC];refine (ae (aae (by omega))).trans ?_;rfl
 . rw [aao,ha];rfl
abbrev Un (r:UT):Option ((UT×Unit)×(Unit×Unit)):=some ((r,()),((),()))
theorem adw (h:aN 0 tl u):Ra (u,())=Un (As u):=by
 obtain ⟨l',z,e,_⟩:=ahs h;show Out.eval (LN _)=_;dsimp only [LN];exact (aa e).trans rfl
theorem LW (h:fB u):Rb (u,())=Un (mI u):=by
 obtain ⟨l',z,e,_⟩:=adp h;show Out.eval (LO _)=_;dsimp only [LO];exact (aa e).trans rfl
abbrev aak:UT:=(0,0,[],[],[],[],[],[],[],())
open Classical in
open Classical in
noncomputable def xT (u:UT):UT:=if fB u then mI u else aak
theorem adx (u:UT):aah (u,())=Un (xT u):=by
 show Out.eval (LP _)=_;dsimp only [LP];unfold xT;by_cases h:fB u
 . rw [aaK h]
   refine (ae (by rw [gX.2 h];rfl)).trans ?_;refine (aa (adv h)).trans ?_;refine (aa (LW h)).trans ?_;exact (aa (LV (Ft h))).trans rfl
 . rw [aap h]
   exact (ab (by rw [Bool.eq_false_iff.2 fun e=>h (gX.1 e)];rfl)).trans rfl
def aal (pg:List (List aw)):UT:=(2,0,pg,[(1,0,1,0,(0,[0,0,0,0],()),[0,0,0,0],[0,0, -1, -1],0,0,())],[(0,1,0,0,2,())],[],[],[1],[],())
theorem ady {pg:List (List aw)} (h:cD pg=true):fB (aal pg):=by
 refine gX.1 ?_;have h':=h;unfold cD at h;simp only [aaE,ack] at h;show dz 2 0 pg [(1,0,1,0,(0,[0,0,0,0],()),[0,0,0,0],[0,0, -1, -1],0,0,())] [(0,1,0,0,2,())] [] [] [1] []=true;unfold dz;rw [h'];have h1:=h.1.1;have h4:=h.1.2;generalize List.length pg=n at h1 h4 ⊢;have hn:n=1∨n=2∨n=3∨n=4:=by omega
 rcases hn with rfl|rfl|rfl|rfl<;>first|decide|rfl
theorem adz {pg:List (List aw)}:aaj ((pg,()),())=some (if cD pg=true then ((aal pg,(true,()),()),((),())) else ((aak,(false,()),()),((),()))):=by
 have hL:bV=68719476736:=rfl;have hB:aS=9223372036854775807:=rfl;show Out.eval (LR _)=_;dsimp only [LR];by_cases h:cD pg=true
 case neg=>
  rw [aap h];exact (ab (by rw [Bool.eq_false_iff.2 h];rfl)).trans rfl
 rw [aaK h];refine (ae (by rw [h];rfl)).trans ?_;unfold cD at h;simp only [aaE,ack] at h;have h1:=foldl_loop (f:=xa) (fun (acc:List (List aw)) i=>acc.length=i) (fun acc y=>acc++[y]) pg
  (fun acc i=>((pg,(i:Int),()),((0,0,()),(2,0,()),[],[],[],[],[],[],[],acc,[],[(0,1,0,0,2,())],[],[],[1],[],())))
  (fun acc=>((),((0,0,()),(2,0,()),[],[],[],[],[],[],[],acc,[],[(0,1,0,0,2,())],[],[],[1],[],()))) (fun i hi acc ha=> ?_) (fun acc _=> ?_) (fun i hi acc ha=> ?_) (by omega) [] rfl
 . rw [fl,aaL] at h1
   have hz:pW ((4,()),())=some ((([0,0,0,0],()),()),((),())):=rfl;refine (aa h1).trans ?_;refine (aa hz).trans ?_;exact (aa hz).trans rfl
 . have hn:nth pg i=some pg[i]:=aaf hi
   have hw:IntKind.i64.wrap ((i:Int)+1)=((i+1:Nat):Int):=ar (by omega);have hp:=nF (aa1.1 h.2 _ (acD hi));show Out.eval (xa _)=_;dsimp only [xa];simp only [aaH,hw];refine (ab (aaa (by omega))).trans ?_;refine (ab (aaa (by omega))).trans ?_;refine (aa hn).trans ?_;refine (ab (aaa (by simp only [aat];omega))).trans ?_;refine (ab (aaa (by simp only [aai,aat];omega))).trans ?_;rfl
 . show Out.eval (xa _)=_
   dsimp only [xa];refine (ae (aae (by omega))).trans ?_;rfl
 . rw [aao,ha];rfl
end
end
section
open Go Go.ChangeShapes Go.WideShapes Go.ChangeAt Go.RowKit
end
section
open Go Go.ChangeShapes Go.WideShapes Go.ChangeAt Go.RowKit
theorem iN {ρ:Type} (o:Option ρ):(Out.get o fun y=> .ret y).eval=o:=by cases o<;>rfl
def iq {ρ:Type} (o:Option ρ) (Q:ρ→Prop):Prop:=∃ y,o=some y∧Q y
theorem bq {ρ:Type} {r:ρ} {Q:ρ→Prop} (h:Q r):iq (Out.ret r).eval Q:=⟨r,rfl,h⟩
theorem bH {ρ:Type} {c:Bool} {a b:Out ρ} {Q:ρ→Prop} (ha:c=true→iq a.eval Q) (hb:c=false→iq b.eval Q):iq (Out.ite c a b).eval Q:=by
 cases c
 . exact hb rfl
 . exact ha rfl
theorem fa {ρ:Type} {c:Bool} {a b:Out ρ} {Q:ρ→Prop} (hc:c=true) (ha:iq a.eval Q):iq (Out.ite c a b).eval Q:=by subst hc;exact ha
theorem tg {ρ:Type} {c:Bool} {a b:Out ρ} {Q:ρ→Prop} (hc:c=false) (hb:iq b.eval Q):iq (Out.ite c a b).eval Q:=by subst hc;exact hb
theorem bj {ρ α:Type} {o:Option α} {k:α→Out ρ} {P:α→Prop} {Q:ρ→Prop} (h:iq o P) (hk:∀ y,P y→iq (k y).eval Q):iq (Out.get o k).eval Q:=by
 obtain ⟨y,rfl,p⟩:=h;exact hk y p
def JX {α β γ:Type} (I:α→Prop) (O:β→Prop) (R:γ→Prop):Round α β γ→Prop
 | .again x=>I x
 | .out y=>O y
 | .ret z=>R z
theorem lH {α β:Type} {f:α→Out (Round α β Empty)} (I:α→Prop) (m:α→Nat) (O:β→Prop) (h:∀ x,I x→iq (f x).eval (JX (fun x'=>I x'∧m x'<m x) O fun _=>False)):
  ∀ (n:Nat) (x:α),I x→m x<n→iq (b5 f n x) O
 |0,x,_,hn=>absurd hn (Nat.not_lt_zero _)
 |n+1,x,hx,hn=>by
  obtain ⟨r,e,hr⟩:=h x hx;cases r with
  |again x'=>rw [xS e];exact lH I m O h n x' hr.1 (by have:=hr.2;omega)
  |out y=>exact ⟨y,Ac e (by omega),hr⟩
  |ret z=>exact z.elim
theorem Au (z:Int) {b:Nat} (hb:b≤aS):0≤IntKind.i64.wrap (((BitVec.ofInt (IntKind.bits .i64) z &&& BitVec.ofInt (IntKind.bits .i64) ((b:Nat):Int)).toNat:Nat):Int)∧IntKind.i64.wrap (((BitVec.ofInt (IntKind.bits .i64) z &&& BitVec.ofInt (IntKind.bits .i64) ((b:Nat):Int)).toNat:Nat):Int)≤b:=by
 have h:(BitVec.ofInt 64 z &&& BitVec.ofInt 64 ((b:Nat):Int)).toNat≤b:=by
  rw [BitVec.toNat_and,N3,BitVec.toNat_ofNat,Nat.mod_eq_of_lt (af3 hb (by decide))];exact Nat.and_le_right
 have e:IntKind.i64.wrap (((BitVec.ofInt (IntKind.bits .i64) z &&& BitVec.ofInt (IntKind.bits .i64) ((b:Nat):Int)).toNat:Nat):Int)=_:=Rj (aa3 h hb);rw [e];have h:(BitVec.ofInt (IntKind.bits .i64) z &&& BitVec.ofInt (IntKind.bits .i64) ((b:Nat):Int)).toNat≤b:=h;omega
abbrev Rk:=(List (Int)×Int×Int×Unit)×(Unit)
def Rl:Rk→Out (Round Rk ((List (Int)×Int×Unit)×(Unit)) Empty)
|((p0,p1,p2,_),_)=>
 .ite ((decide (p2<((List.length p0:Nat):Int)))==true)
 (.ite (decide (p2<(4000:Int)))
 (.ite (decide (0≤p2))
 (.get (nth p0 (Int.toNat p2)) fun y1=>
 .ret (.again ((p0,(IntKind.i64.wrap (((BitVec.ofInt (IntKind.bits IntKind.i64) (IntKind.i64.wrap ((IntKind.i64.wrap ((IntKind.i64.wrap (p1*(131:Int)))+(IntKind.i64.wrap y1)))+(7:Int))) &&& BitVec.ofInt (IntKind.bits IntKind.i64) (1073741823:Int)).toNat:Int))),(IntKind.i64.wrap (p2+(1:Int))),()),())))
 .fail)
 (.ret (.out ((p0,p1,()),()))))
 (.ret (.out ((p0,p1,()),())))
def Av (a0:List Int):Out ((XE×Unit)×(Unit×Unit)):=
 .get (b5 Rl bn ((a0,(IntKind.i64.wrap ((10101:Int)+((List.length a0:Nat):Int))),(0:Int),()),())) fun y1=>
 .ret (((y1.1.1,(0:Int),y1.1.2.1,()),()),((),()))
def ahD:Nat→Option aq:=fun n=>bU [(0,⟨⟨[.ro (.int .u8) (some 0), .dead, .dead, .i .i64, .i .i64]++dd 27,[]⟩,⟨[.ro (.int .u8) (some 0), .dead, .dead, .i .i64]++dd 28,[]⟩,none,false⟩)] n
def LX:=fun a0=>(Av a0).eval
def k32:bM:={ f:=32,lend:=false,aK:=[⟨false,false,[.ro (.int .u8)]⟩],lay:=[none],rs:=[⟨true,false,[.ro (.int .u8), .i .i64, .i .i64]⟩],F:=fun x=> .get (LX x.1.1) fun y=> .ret y }
theorem adA (x:az k32.aK):bo [] ahD Tryz.f32 k32 [.tmp 2] x=Av x.1.1:=by kernel_rfl
theorem adB:k32.Ok Tryz.prog:=aU [] trivial adA fun _ _ _ hy=>(iN _).symm.trans hy
theorem JY {b:List Int} (hb:b.length≤aS):iq (LX b) fun y=>y.1.1.1=b∧y.1.1.2.1=0:=by
 unfold LX Av;refine bj (P:=fun y=>y.1.1=b) (lH (fun x=>x.1.1=b∧0≤x.1.2.2.1∧x.1.2.2.1≤(b.length:Int)) (fun x=>(b.length - x.1.2.2.1.toNat)) _ (fun x hx=> ?_) _ _ ⟨rfl,by simp,by simp⟩ (by simp;exact fL hb)) fun y hy=>bq ⟨hy,rfl⟩;obtain ⟨⟨l,h,i,_⟩,_⟩:=x;obtain ⟨e1,h1,h2⟩:=hx;simp only at e1 h1 h2;subst e1;unfold Rl;refine bH (fun h3=> ?_) (fun _=>bq rfl);have h3:i<(l.length:Int):=abH (by simpa using h3);refine bH (fun _=> ?_) (fun _=>bq rfl);refine fa (aaa h1) (bj (P:=fun _=>True) ⟨_,aaf (show i.toNat<l.length by omega),trivial⟩ fun y _=>bq ?_);have w:IntKind.i64.wrap (i+1)=i+1:=cS (by omega) (by unfold aS at hb;omega);exact ⟨⟨rfl,by simp only [w];omega,by simp only [w];omega⟩,by simp only [w];omega⟩
def xf (a0:List Int) (a1:Int) (a2:Int):Out (((Int×Unit)×Unit)×((Int×Int×Unit)×Unit)):=
 .ite (decide ((33:Int)<0))
 .fail
 (.ite (decide ((45:Int)<0))
 .fail
 (.ite (decide (a1<((List.length a0:Nat):Int)))
 (.ite (decide (0≤a1))
 (.get (nth a0 (Int.toNat a1)) fun y1=>
 .ret ((((IntKind.i64.wrap (((BitVec.ofInt (IntKind.bits IntKind.i64) (IntKind.i64.wrap ((IntKind.i64.wrap (((BitVec.ofInt (IntKind.bits IntKind.i64) (IntKind.i64.wrap (((BitVec.ofInt (IntKind.bits IntKind.i64) (Int.fdiv (IntKind.i64.wrap ((IntKind.i64.wrap (a2*(6364136223846793005:Int)))+(1442695040888963407:Int))) (2 ^ (min (Int.toNat (33:Int)) (IntKind.bits IntKind.i64)))) ^^^ BitVec.ofInt (IntKind.bits IntKind.i64) (Int.fdiv (IntKind.i64.wrap ((IntKind.i64.wrap (a2*(6364136223846793005:Int)))+(1442695040888963407:Int))) (2 ^ (min (Int.toNat (45:Int)) (IntKind.bits IntKind.i64))))).toNat:Int))) &&& BitVec.ofInt (IntKind.bits IntKind.i64) (255:Int)).toNat:Int)))+(IntKind.i64.wrap y1))) &&& BitVec.ofInt (IntKind.bits IntKind.i64) (255:Int)).toNat:Int))),()),()),(((IntKind.i64.wrap (a1+(1:Int))),(IntKind.i64.wrap ((IntKind.i64.wrap (a2*(6364136223846793005:Int)))+(1442695040888963407:Int))),()),())))
 .fail)
 (.ret ((((IntKind.i64.wrap (((BitVec.ofInt (IntKind.bits IntKind.i64) (IntKind.i64.wrap (((BitVec.ofInt (IntKind.bits IntKind.i64) (Int.fdiv (IntKind.i64.wrap ((IntKind.i64.wrap (a2*(6364136223846793005:Int)))+(1442695040888963407:Int))) (2 ^ (min (Int.toNat (33:Int)) (IntKind.bits IntKind.i64)))) ^^^ BitVec.ofInt (IntKind.bits IntKind.i64) (Int.fdiv (IntKind.i64.wrap ((IntKind.i64.wrap (a2*(6364136223846793005:Int)))+(1442695040888963407:Int))) (2 ^ (min (Int.toNat (45:Int)) (IntKind.bits IntKind.i64))))).toNat:Int))) &&& BitVec.ofInt (IntKind.bits IntKind.i64) (255:Int)).toNat:Int))),()),()),((a1,(IntKind.i64.wrap ((IntKind.i64.wrap (a2*(6364136223846793005:Int)))+(1442695040888963407:Int))),()),())))))
def qf:=fun a0 a1 a2=>(xf a0 a1 a2).eval
def Rm:bM:={ f:=118,lend:=true,aK:=[⟨true,false,[.ro (.int .u8), .i .i64, .i .i64]⟩],lay:=[none],rs:=[⟨false,false,[.i .i64]⟩],F:=fun x=> .get (qf x.1.1 x.1.2.1 x.1.2.2.1) fun y=> .ret y }
theorem VX (x:az Rm.aK):bo [] (fun _=>none) Tryz.f118 Rm [.tmp 2] x=xf x.1.1 x.1.2.1 x.1.2.2.1:=by kernel_rfl
theorem VY:Rm.Ok Tryz.prog:=aU [] trivial VX fun _ _ _ hy=>(iN _).symm.trans hy
theorem qg {b:List Int} {i h:Int} (hb:b.length≤aS) (hi:0≤i):iq (qf b i h) fun y=>(0≤y.1.1.1∧y.1.1.1≤255)∧0≤y.2.1.1:=by
 unfold qf xf;refine tg rfl (tg rfl (bH (fun h1=> ?_) fun _=>bq ?_))
 . have h1:i<(b.length:Int):=abH h1
   refine fa (aaa hi) (bj (P:=fun _=>True) ⟨_,aaf (show i.toNat<b.length by omega),trivial⟩ fun y _=>bq ?_);refine ⟨Au _ (b:=255) (by decide), ?_⟩
   . show 0≤IntKind.i64.wrap (i+1)
     rw [cS (by omega) (by unfold aS at hb;omega)];omega
 . exact ⟨Au _ (b:=255) (by decide),hi⟩
def Aw (a0:List Int) (a1:Int) (a2:Int) (a3:Int):Out (((Int×Unit)×Unit)×((Int×Int×Unit)×Unit×Unit)):=
 .ite (decide (a3≤(0:Int)))
 (.ret ((((0:Int),()),()),((a1,a2,()),(),())))
 (.ite (decide (a3≤(256:Int)))
 (.get (qf a0 a1 a2) fun y1=>
 .ite (a3==0)
 .fail
 (.ret ((((Int.tmod y1.1.1.1 a3),()),()),((y1.2.1.1,y1.2.1.2.1,()),(),()))))
 (.get (qf a0 a1 a2) fun y2=>
 .get (qf a0 y2.2.1.1 y2.2.1.2.1) fun y3=>
 .get (qf a0 y3.2.1.1 y3.2.1.2.1) fun y4=>
 .get (qf a0 y4.2.1.1 y4.2.1.2.1) fun y5=>
 .ite (a3==0)
 .fail
 (.ret ((((Int.tmod (IntKind.i64.wrap ((IntKind.i64.wrap ((IntKind.i64.wrap ((IntKind.i64.wrap (y2.1.1.1*(16777216:Int)))+(IntKind.i64.wrap (y3.1.1.1*(65536:Int)))))+(IntKind.i64.wrap (y4.1.1.1*(256:Int)))))+y5.1.1.1)) a3),()),()),((y5.2.1.1,y5.2.1.2.1,()),(),())))))
def fv:=fun a0 a1 a2 a3=>(Aw a0 a1 a2 a3).eval
def Pa:bM:={ f:=43,lend:=true,aK:=[⟨true,false,[.ro (.int .u8), .i .i64, .i .i64]⟩,⟨false,false,[.i .i64]⟩],lay:=[none,none],rs:=[⟨false,false,[.i .i64]⟩],F:=fun x=> .get (fv x.1.1 x.1.2.1 x.1.2.2.1 x.2.1.1) fun y=> .ret y }
theorem adC (x:az Pa.aK):bo [Rm] (fun _=>none) Tryz.f43 Pa [.tmp 4] x=Aw x.1.1 x.1.2.1 x.1.2.2.1 x.2.1.1:=by kernel_rfl
theorem tQ:Pa.Ok Tryz.prog:=aU [Rm] ⟨VY,trivial⟩ adC fun _ _ _ hy=>(iN _).symm.trans hy
theorem xU {x n:Int} (hx:0≤x) (hn:0<n):0≤Int.tmod x n∧Int.tmod x n<n:=⟨Int.tmod_nonneg _ hx,Int.tmod_lt_of_pos _ hn⟩
theorem b7 {b:List Int} {i h n:Int} (hb:b.length≤aS) (hi:0≤i):iq (fv b i h n) fun y=>(0≤y.1.1.1∧(0<n→y.1.1.1<n)∧(n≤0→y.1.1.1=0))∧0≤y.2.1.1:=by
 unfold fv Aw;refine bH (fun h1=>bq ?_) fun h1=> ?_
 . have:=abH h1
   exact ⟨⟨afK _,fun h=>by omega,fun _=>rfl⟩,hi⟩
 have h1:=ahe h1;have hz:(n==0)=false:=by simp;omega
 refine bH (fun h2=>bj (qg hb hi) fun y hy=>tg hz (bq ?_)) fun h2=> ?_
 . have:=xU hy.1.1 (show 0<n by omega)
   exact ⟨⟨this.1,fun _=>this.2,fun h=>by omega⟩,hy.2⟩
 . refine bj (qg hb hi) fun y hy=>bj (qg hb hy.2) fun z CU=>bj (qg hb CU.2) fun u hu=>bj (qg hb hu.2) fun v hv=>tg hz (bq ?_)
   have e1:=hy.1;have e2:=CU.1;have e3:=hu.1;have e4:=hv.1;have w1:IntKind.i64.wrap (y.1.1.1*16777216)=y.1.1.1*16777216:=cS (by omega) (by omega);have w2:IntKind.i64.wrap (z.1.1.1*65536)=z.1.1.1*65536:=cS (by omega) (by omega);have w3:IntKind.i64.wrap (u.1.1.1*256)=u.1.1.1*256:=cS (by omega) (by omega);have w4:IntKind.i64.wrap (y.1.1.1*16777216+z.1.1.1*65536)=y.1.1.1*16777216+z.1.1.1*65536:=cS (by omega) (by omega);have w5:IntKind.i64.wrap (y.1.1.1*16777216+z.1.1.1*65536+u.1.1.1*256)=y.1.1.1*16777216+z.1.1.1*65536+u.1.1.1*256:=cS (by omega) (by omega);have w6:IntKind.i64.wrap (y.1.1.1*16777216+z.1.1.1*65536+u.1.1.1*256+v.1.1.1)=y.1.1.1*16777216+z.1.1.1*65536+u.1.1.1*256+v.1.1.1:=cS (by omega) (by omega);have:=xU (show 0≤y.1.1.1*16777216+z.1.1.1*65536+u.1.1.1*256+v.1.1.1 by omega) (show 0<n by omega);simp only [w1,w2,w3,w4,w5,w6];exact ⟨⟨this.1,fun _=>this.2,fun h=>by omega⟩,hv.2⟩
def Ax (a0:List Int) (a1:Int) (a2:Int) (a3:Int):Out (((Bool×Unit)×Unit)×((Int×Int×Unit)×Unit×Unit)):=
 .get (fv a0 a1 a2 a3) fun y1=>
 .ret (((((y1.1.1.1==(0:Int))),()),()),((y1.2.1.1,y1.2.1.2.1,()),(),()))
def CV:=fun a0 a1 a2 a3=>(Ax a0 a1 a2 a3).eval
def k46:bM:={ f:=46,lend:=true,aK:=[⟨true,false,[.ro (.int .u8), .i .i64, .i .i64]⟩,⟨false,false,[.i .i64]⟩],lay:=[none,none],rs:=[⟨false,false,[.b]⟩],F:=fun x=> .get (CV x.1.1 x.1.2.1 x.1.2.2.1 x.2.1.1) fun y=> .ret y }
theorem adD (x:az k46.aK):bo [Pa] (fun _=>none) Tryz.f46 k46 [.tmp 4] x=Ax x.1.1 x.1.2.1 x.1.2.2.1 x.2.1.1:=by kernel_rfl
theorem JZ:k46.Ok Tryz.prog:=aU [Pa] ⟨tQ,trivial⟩ adD fun _ _ _ hy=>(iN _).symm.trans hy
theorem Ay {b:List Int} {i h n:Int} (hb:b.length≤aS) (hi:0≤i):iq (CV b i h n) fun y=>0≤y.2.1.1:=by
 unfold CV Ax;exact bj (b7 hb hi) fun y hy=>bq hy.2
def Az (a0:List Int) (a1:Int) (a2:Int) (a3:List Int):Out (((Int×Unit)×Unit)×((Int×Int×Unit)×Unit×Unit)):=
 .get (fv a0 a1 a2 ((List.length a3:Nat):Int)) fun y1=>
 .ite (decide (0≤y1.1.1.1))
 (.get (nth a3 (Int.toNat y1.1.1.1)) fun y2=>
 .ret (((y2,()),()),((y1.2.1.1,y1.2.1.2.1,()),(),())))
 .fail
def th:=fun a0 a1 a2 a3=>(Az a0 a1 a2 a3).eval
def k94:bM:={ f:=94,lend:=true,aK:=[⟨true,false,[.ro (.int .u8), .i .i64, .i .i64]⟩,⟨false,false,[.ro (.int .i64)]⟩],lay:=[none,none],rs:=[⟨false,false,[.i .i64]⟩],F:=fun x=> .get (th x.1.1 x.1.2.1 x.1.2.2.1 x.2.1.1) fun y=> .ret y }
theorem adE (x:az k94.aK):bo [Pa] (fun _=>none) Tryz.f94 k94 [.tmp 4] x=Az x.1.1 x.1.2.1 x.1.2.2.1 x.2.1.1:=by kernel_rfl
theorem Rn:k94.Ok Tryz.prog:=aU [Pa] ⟨tQ,trivial⟩ adE fun _ _ _ hy=>(iN _).symm.trans hy
theorem lW {b:List Int} {i h:Int} {l:List Int} (hb:b.length≤aS) (hi:0≤i) (hl:0<l.length):iq (th b i h l) fun y=>y.1.1.1∈l∧0≤y.2.1.1:=by
 unfold th Az;refine bj (b7 hb hi) fun y hy=> ?_;have h1:=hy.1.1;have h2:=hy.1.2.1 (by omega);refine fa (aaa h1) (bj (P:=fun x=>x∈l) ⟨_,aaf (show y.1.1.1.toNat<l.length by omega),acD _⟩ fun x hx=>bq ⟨hx,hy.2⟩)
def AA (a0:List Int) (a1:Int):Out (((Int×Unit)×Unit)×XI):=
 .ite ((20:Int)==0)
 .fail
 (.ite (decide ((IntKind.i64.wrap ((2:Int)+(IntKind.i64.wrap (Int.tdiv ((List.length a0:Nat):Int) (20:Int)))))>a1))
 (.ret (((a1,()),()),((),(),())))
 (.ret ((((IntKind.i64.wrap ((2:Int)+(IntKind.i64.wrap (Int.tdiv ((List.length a0:Nat):Int) (20:Int))))),()),()),((),(),()))))
def G9:=fun a0 a1=>(AA a0 a1).eval
def k34:bM:={ f:=34,lend:=true,aK:=[⟨false,false,[.ro (.int .u8)]⟩,⟨false,false,[.i .i64]⟩],lay:=[none,none],rs:=[⟨false,false,[.i .i64]⟩],F:=fun x=> .get (G9 x.1.1 x.2.1.1) fun y=> .ret y }
theorem adF (x:az k34.aK):bo [] (fun _=>none) Tryz.f34 k34 [.tmp 4] x=AA x.1.1 x.2.1.1:=by kernel_rfl
theorem adG:k34.Ok Tryz.prog:=aU [] trivial adF fun _ _ _ hy=>(iN _).symm.trans hy
theorem Ha {b:List Int} {n:Int} (_:b.length≤aS):iq (G9 b n) fun y=>y.1.1.1≤n:=by
 unfold G9 AA;refine tg rfl (bH (fun h=>bq (afK _)) fun h=>bq ?_);have:=ahe h;show IntKind.i64.wrap _≤n;omega
def LY (a0:List Int):Out (((Bool×Unit)×Unit)×(Unit×Unit)):=
 .ret ((((decide (((List.length a0:Nat):Int)>(1048576:Int))),()),()),((),()))
def adH (c:List Int):Bool:=decide (((c.length:Nat):Int)>1048576)
def k7:bM:={ f:=7,lend:=true,aK:=[⟨false,false,[.ro (.int .u8)]⟩],lay:=[none],rs:=[⟨false,false,[.b]⟩],F:=fun x=> .ret ((((adH x.1.1),()),()),((),())) }
theorem ahF (x:az k7.aK):bo [] (fun _=>none) Tryz.f7 k7 [.tmp 2] x=LY x.1.1:=by kernel_rfl
theorem ahG (hr:∀ x:(List Int×Unit)×Unit,aD k7.aK x→(LY x.1.1).eval=(k7.F x).eval):k7.Ok Tryz.prog:=aU [] trivial ahF fun x hw _ hy=>(hr x hw).trans hy
theorem ahH:k7.Ok Tryz.prog:=ahG fun _ _=>rfl
end
section
open Go Go.ChangeShapes Go.WideShapes Go.ChangeAt Go.RowKit
def alK:List (Nat×Ty):=[(24,(.sl (.fz b8))),(25,(.sl (.st (.cons (.int .i64) (.cons (.int .i64) (.cons (.int .i64) (.cons (.int .i64) (.cons bW (.cons (.fz (.int .i64)) (.cons (.fz (.int .i64)) (.cons (.int .i64) (.cons (.int .i64) .nil)))))))))))),(27,(.sl bW)),(28,(.sl bW)),(30,(.st (.cons (.int .i64) (.cons (.int .i64) (.cons (.sl (.fz b8)) (.cons (.sl (.st (.cons (.int .i64) (.cons (.int .i64) (.cons (.int .i64) (.cons (.int .i64) (.cons bW (.cons (.fz (.int .i64)) (.cons (.fz (.int .i64)) (.cons (.int .i64) (.cons (.int .i64) .nil))))))))))) (.cons (.sl cH) (.cons (.sl bW) (.cons (.sl bW) (.cons (.sl (.int .i64)) (.cons (.sl (.int .i64)) .nil))))))))))),(31,(.st (.cons (.int .i64) (.cons (.int .i64) (.cons (.sl (.fz b8)) (.cons (.sl (.st (.cons (.int .i64) (.cons (.int .i64) (.cons (.int .i64) (.cons (.int .i64) (.cons bW (.cons (.fz (.int .i64)) (.cons (.fz (.int .i64)) (.cons (.int .i64) (.cons (.int .i64) .nil))))))))))) (.cons (.sl cH) (.cons (.sl bW) (.cons (.sl bW) (.cons (.sl (.int .i64)) (.cons (.sl (.int .i64)) .nil))))))))))),(32,ld),(33,ld),(39,(.sl ld)),(47,bW),(48,bW),(49,(.st (.cons (.int .i64) (.cons (.int .i64) (.cons (.int .i64) (.cons (.int .i64) (.cons bW (.cons (.fz (.int .i64)) (.cons (.fz (.int .i64)) (.cons (.int .i64) (.cons (.int .i64) .nil))))))))))),(50,(.st (.cons (.int .i64) (.cons (.int .i64) (.cons (.int .i64) (.cons (.int .i64) (.cons bW (.cons (.fz (.int .i64)) (.cons (.fz (.int .i64)) (.cons (.int .i64) (.cons (.int .i64) .nil))))))))))),(56,(.sl (.fz b8))),(57,(.sl (.st (.cons (.int .i64) (.cons (.int .i64) (.cons (.int .i64) (.cons (.int .i64) (.cons bW (.cons (.fz (.int .i64)) (.cons (.fz (.int .i64)) (.cons (.int .i64) (.cons (.int .i64) .nil)))))))))))),(59,(.sl bW)),(60,(.sl bW)),(61,(.st (.cons (.int .i64) (.cons (.int .i64) (.cons (.sl (.fz b8)) (.cons (.sl (.st (.cons (.int .i64) (.cons (.int .i64) (.cons (.int .i64) (.cons (.int .i64) (.cons bW (.cons (.fz (.int .i64)) (.cons (.fz (.int .i64)) (.cons (.int .i64) (.cons (.int .i64) .nil))))))))))) (.cons (.sl cH) (.cons (.sl bW) (.cons (.sl bW) (.cons (.sl (.int .i64)) (.cons (.sl (.int .i64)) .nil))))))))))),(62,(.st (.cons (.int .i64) (.cons (.int .i64) (.cons (.sl (.fz b8)) (.cons (.sl (.st (.cons (.int .i64) (.cons (.int .i64) (.cons (.int .i64) (.cons (.int .i64) (.cons bW (.cons (.fz (.int .i64)) (.cons (.fz (.int .i64)) (.cons (.int .i64) (.cons (.int .i64) .nil))))))))))) (.cons (.sl cH) (.cons (.sl bW) (.cons (.sl bW) (.cons (.sl (.int .i64)) (.cons (.sl (.int .i64)) .nil))))))))))),(79,bW),(80,bW),(90,(.st (.cons (.st (.cons (.int .i64) (.cons (.int .i64) (.cons (.sl (.fz b8)) (.cons (.sl (.st (.cons (.int .i64) (.cons (.int .i64) (.cons (.int .i64) (.cons (.int .i64) (.cons bW (.cons (.fz (.int .i64)) (.cons (.fz (.int .i64)) (.cons (.int .i64) (.cons (.int .i64) .nil))))))))))) (.cons (.sl cH) (.cons (.sl bW) (.cons (.sl bW) (.cons (.sl (.int .i64)) (.cons (.sl (.int .i64)) .nil)))))))))) (.cons (.sl ld) .nil)))),(91,(.st (.cons (.st (.cons (.int .i64) (.cons (.int .i64) (.cons (.sl (.fz b8)) (.cons (.sl (.st (.cons (.int .i64) (.cons (.int .i64) (.cons (.int .i64) (.cons (.int .i64) (.cons bW (.cons (.fz (.int .i64)) (.cons (.fz (.int .i64)) (.cons (.int .i64) (.cons (.int .i64) .nil))))))))))) (.cons (.sl cH) (.cons (.sl bW) (.cons (.sl bW) (.cons (.sl (.int .i64)) (.cons (.sl (.int .i64)) .nil)))))))))) (.cons (.sl ld) .nil)))),(101,(.st (.cons (.int .i64) (.cons bW (.cons (.int .i64) (.cons (.int .i64) .nil)))))),(102,(.st (.cons (.int .i64) (.cons bW (.cons (.int .i64) (.cons (.int .i64) .nil)))))),(127,bW),(128,bW),(153,(.st (.cons (.st (.cons (.int .i64) (.cons (.int .i64) (.cons (.sl (.fz b8)) (.cons (.sl (.st (.cons (.int .i64) (.cons (.int .i64) (.cons (.int .i64) (.cons (.int .i64) (.cons bW (.cons (.fz (.int .i64)) (.cons (.fz (.int .i64)) (.cons (.int .i64) (.cons (.int .i64) .nil))))))))))) (.cons (.sl cH) (.cons (.sl bW) (.cons (.sl bW) (.cons (.sl (.int .i64)) (.cons (.sl (.int .i64)) .nil)))))))))) (.cons (.sl ld) .nil)))),(154,(.st (.cons (.st (.cons (.int .i64) (.cons (.int .i64) (.cons (.sl (.fz b8)) (.cons (.sl (.st (.cons (.int .i64) (.cons (.int .i64) (.cons (.int .i64) (.cons (.int .i64) (.cons bW (.cons (.fz (.int .i64)) (.cons (.fz (.int .i64)) (.cons (.int .i64) (.cons (.int .i64) .nil))))))))))) (.cons (.sl cH) (.cons (.sl bW) (.cons (.sl bW) (.cons (.sl (.int .i64)) (.cons (.sl (.int .i64)) .nil)))))))))) (.cons (.sl ld) .nil)))),(165,bW),(166,(.st (.cons (.int .i64) (.cons (.int .i64) (.cons (.int .i64) (.cons (.int .i64) (.cons bW (.cons (.fz (.int .i64)) (.cons (.fz (.int .i64)) (.cons (.int .i64) (.cons (.int .i64) .nil))))))))))),(167,(.st (.cons (.int .i64) (.cons (.int .i64) (.cons (.int .i64) (.cons (.int .i64) (.cons bW (.cons (.fz (.int .i64)) (.cons (.fz (.int .i64)) (.cons (.int .i64) (.cons (.int .i64) .nil))))))))))),(169,bW),(171,bW)]++KV
theorem VZ:BU Tryz.prog alK=true:=by kernel_rfl
abbrev adI:=(t6×Unit)×(b17×Unit)
def FA:t17×Unit→Out adI
|(a0,_)=>
 .get (fv a0.1 a0.2.1 a0.2.2.1 (4:Int)) fun y1=>
 .get (fv a0.1 y1.2.1.1 y1.2.1.2.1 (4:Int)) fun y2=>
 .get (fv a0.1 y2.2.1.1 y2.2.1.2.1 (12:Int)) fun y3=>
 .ite ((y3.1.1.1==(0:Int)))
 (.get (th a0.1 y3.2.1.1 y3.2.1.2.1 ([(0:Int),(1:Int),(2:Int),(3:Int),(4:Int),(7:Int),(-1:Int),(9:Int)]:List Int)) fun y5=>
 .ret ((((1:Int),y1.1.1.1,y5.1.1.1,(0:Int),()),()),((y5.2.1.1,y5.2.1.2.1,()),())))
 (.ite ((y3.1.1.1==(1:Int)))
 (.get (th a0.1 y3.2.1.1 y3.2.1.2.1 ([(0:Int),(1:Int),(2:Int),(3:Int),(4:Int),(7:Int),(-1:Int),(9:Int)]:List Int)) fun y6=>
 .ret ((((1:Int),y1.1.1.1,y6.1.1.1,(0:Int),()),()),((y6.2.1.1,y6.2.1.2.1,()),())))
 (.ite ((y3.1.1.1==(2:Int)))
 (.get (th a0.1 y3.2.1.1 y3.2.1.2.1 ([(0:Int),(1:Int),(2:Int),(3:Int),(4:Int),(7:Int),(-1:Int),(9:Int)]:List Int)) fun y7=>
 .ret ((((1:Int),y1.1.1.1,y7.1.1.1,(0:Int),()),()),((y7.2.1.1,y7.2.1.2.1,()),())))
 (.ite ((y3.1.1.1==(3:Int)))
 (.get (fv a0.1 y3.2.1.1 y3.2.1.2.1 (4:Int)) fun y8=>
 .ret ((((2:Int),y1.1.1.1,y2.1.1.1,y8.1.1.1,()),()),((y8.2.1.1,y8.2.1.2.1,()),())))
 (.ite ((y3.1.1.1==(4:Int)))
 (.get (fv a0.1 y3.2.1.1 y3.2.1.2.1 (4:Int)) fun y9=>
 .ret ((((3:Int),y1.1.1.1,y2.1.1.1,y9.1.1.1,()),()),((y9.2.1.1,y9.2.1.2.1,()),())))
 (.ite ((y3.1.1.1==(5:Int)))
 (.ret ((((4:Int),y1.1.1.1,y2.1.1.1,(0:Int),()),()),((y3.2.1.1,y3.2.1.2.1,()),())))
 (.ite ((y3.1.1.1==(6:Int)))
 (.ret ((((5:Int),y1.1.1.1,y2.1.1.1,(0:Int),()),()),((y3.2.1.1,y3.2.1.2.1,()),())))
 (.ite ((y3.1.1.1==(7:Int)))
 (.get (fv a0.1 y3.2.1.1 y3.2.1.2.1 (12:Int)) fun Gm=>
 .ret ((((6:Int),Gm.1.1.1,(0:Int),(0:Int),()),()),((Gm.2.1.1,Gm.2.1.2.1,()),())))
 (.ite ((y3.1.1.1==(8:Int)))
 (.get (fv a0.1 y3.2.1.1 y3.2.1.2.1 (12:Int)) fun wC=>
 .ret ((((7:Int),y1.1.1.1,wC.1.1.1,(0:Int),()),()),((wC.2.1.1,wC.2.1.2.1,()),())))
 (.get (fv a0.1 y3.2.1.1 y3.2.1.2.1 (17:Int)) fun pL=>
 .ret ((((8:Int),(IntKind.i64.wrap ((1:Int)+pL.1.1.1)),(0:Int),(0:Int),()),()),((pL.2.1.1,pL.2.1.2.1,()),())))))))))))
def Ro (x:t17×Unit):=(FA x).eval
def ahJ:bM:=cw 205 true [i17] [none] [i6] FA
theorem V0:ahJ.Ok Tryz.prog:=bA eo [] [] [Pa,k94] ⟨tQ,Rn,trivial⟩ (fun _=>none) Tryz.f205 [.cell 2 138] fun x=>by kernel_rfl
abbrev adJ:=(t18×Unit)×(b17×Unit×Unit)
abbrev LZ:=(Int×Unit)×(XE×List aw×Unit)
def L0:LZ→Out (Round LZ ((Unit)×(List aw×XE×Unit)) Empty)
|((p0,_),(p1,p2,p3,_),p4,_)=>
 .ite (decide (p0>(0:Int)))
 (.get (Ro ((p1,p2,p3,()),())) fun ((eu,_),(BN,_))=>
 .ite (decide (List.length p4+List.length ([eu]:List aw)≤bV))
 (.ret (.again (((IntKind.i64.wrap (p0 - (1:Int))),()),((p1,BN.1,BN.2.1,()),(p4++([eu]:List aw)),()))))
 .fail)
 (.ret (.out ((),(p4,(p1,p2,p3,()),()))))
def FB:t17×t1×Unit→Out adJ
|(a0,a1,_)=>
 .get (fv a0.1 a0.2.1 a0.2.2.1 (IntKind.i64.wrap (a1.1+(1:Int)))) fun y1=>
 .get (b5 L0 bn ((y1.1.1.1,()),((a0.1,y1.2.1.1,y1.2.1.2.1,()),([]:List aw),()))) fun y2=>
 .ret (((y2.2.1,()),()),((y2.2.2.1.2.1,y2.2.2.1.2.2.1,()),(),()))
def Rp (x:t17×t1×Unit):=(FB x).eval
def adK:Nat→Option aq:=fun n=>bU [(0,⟨⟨[.vptr 0 0]++dd 4++[.aP 64000000, .i .i64]++dd 15,[(0, .var [.ro (.int .u8) (some 1), .i .i64, .i .i64]),(64000000, .arr b8)]⟩,⟨[.vptr 0 0]++dd 4++[.aP 64000000]++dd 16,[(64000000, .arr b8),(0, .var [.ro (.int .u8) (some 1), .i .i64, .i .i64])]⟩,none,false⟩)] n
def ahK:bM:=cw 119 true [i17,i1] [none,none] [i18] FB
theorem V1:ahK.Ok Tryz.prog:=bA eo [] [] [Pa,ahJ] ⟨tQ,V0,trivial⟩ adK Tryz.f119 [.tmp 4] fun x=>by kernel_rfl
abbrev ahL:=(t2×Unit)×(b17×Unit)
abbrev J0:=(List aw×List aw×List aw×Int×Unit)×(XE×List (List aw)×Unit)
def Rq:J0→Out (Round J0 ((Unit)×(List (List aw)×XE×Unit)) Empty)
|((p0,p1,p2,p3,_),(p4,p5,p6,_),p7,_)=>
 .ite (decide (p3>(0:Int)))
 (.get (fv p4 p5 p6 (5:Int)) fun y1=>
 .ite ((y1.1.1.1==(0:Int)))
 (.ite (decide (List.length p7+List.length ([p0]:List (List aw))≤bV))
 (.ret (.again ((p0,p1,p2,(IntKind.i64.wrap (p3 - (1:Int))),()),((p4,y1.2.1.1,y1.2.1.2.1,()),(p7++([p0]:List (List aw))),()))))
 .fail)
 (.ite ((y1.1.1.1==(1:Int)))
 (.ite (decide (List.length p7+List.length ([p1]:List (List aw))≤bV))
 (.ret (.again ((p0,p1,p2,(IntKind.i64.wrap (p3 - (1:Int))),()),((p4,y1.2.1.1,y1.2.1.2.1,()),(p7++([p1]:List (List aw))),()))))
 .fail)
 (.ite ((y1.1.1.1==(2:Int)))
 (.ite (decide (List.length p7+List.length ([p2]:List (List aw))≤bV))
 (.ret (.again ((p0,p1,p2,(IntKind.i64.wrap (p3 - (1:Int))),()),((p4,y1.2.1.1,y1.2.1.2.1,()),(p7++([p2]:List (List aw))),()))))
 .fail)
 (.get (Rp ((p4,y1.2.1.1,y1.2.1.2.1,()),((16:Int),()),())) fun ((b9,_),(pH,_))=>
 .ite (decide (List.length p7+List.length ([b9.1]:List (List aw))≤bV))
 (.ret (.again ((p0,p1,p2,(IntKind.i64.wrap (p3 - (1:Int))),()),((p4,pH.1,pH.2.1,()),(p7++([b9.1]:List (List aw))),()))))
 .fail))))
 (.ret (.out ((),(p7,(p4,p5,p6,()),()))))
def L1:t17×Unit→Out ahL
|(a0,_)=>
 .get (fv a0.1 a0.2.1 a0.2.2.1 (3:Int)) fun y1=>
 .get (fv a0.1 y1.2.1.1 y1.2.1.2.1 (3:Int)) fun y2=>
 .get (b5 Rq bn ((([((8:Int),(2:Int),(0:Int),(0:Int),()),((7:Int),(0:Int),(5:Int),(0:Int),()),((8:Int),(3:Int),(0:Int),(0:Int),()),((8:Int),(17:Int),(0:Int),(0:Int),()),((6:Int),(2:Int),(0:Int),(0:Int),()),((1:Int),(0:Int),(1:Int),(0:Int),()),((1:Int),(1:Int),(7:Int),(0:Int),()),((8:Int),(9:Int),(0:Int),(0:Int),()),((1:Int),(0:Int),(3:Int),(0:Int),()),((8:Int),(1:Int),(0:Int),(0:Int),())]:List aw),([((8:Int),(10:Int),(0:Int),(0:Int),()),((1:Int),(2:Int),(0:Int),(0:Int),()),((2:Int),(3:Int),(0:Int),(2:Int),()),((8:Int),(2:Int),(0:Int),(0:Int),()),((7:Int),(0:Int),(9:Int),(0:Int),()),((1:Int),(0:Int),(3:Int),(0:Int),()),((1:Int),(1:Int),(8:Int),(0:Int),()),((8:Int),(9:Int),(0:Int),(0:Int),()),((6:Int),(5:Int),(0:Int),(0:Int),()),((1:Int),(0:Int),(2:Int),(0:Int),()),((8:Int),(8:Int),(0:Int),(0:Int),()),((1:Int),(0:Int),(1:Int),(0:Int),()),((8:Int),(9:Int),(0:Int),(0:Int),()),((6:Int),(9:Int),(0:Int),(0:Int),())]:List aw),([((1:Int),(0:Int),y1.1.1.1,(0:Int),()),((1:Int),(1:Int),(1:Int),(0:Int),()),((8:Int),(6:Int),(0:Int),(0:Int),()),((2:Int),(3:Int),(0:Int),(2:Int),()),((1:Int),(1:Int),(5:Int),(0:Int),()),((8:Int),(9:Int),(0:Int),(0:Int),()),((8:Int),(11:Int),(0:Int),(0:Int),()),((8:Int),(5:Int),(0:Int),(0:Int),()),((1:Int),(0:Int),(2:Int),(0:Int),()),((8:Int),(12:Int),(0:Int),(0:Int),()),((8:Int),(15:Int),(0:Int),(0:Int),()),((1:Int),(0:Int),(1:Int),(0:Int),()),((8:Int),(16:Int),(0:Int),(0:Int),())]:List aw),(IntKind.i64.wrap ((1:Int)+y2.1.1.1)),()),((a0.1,y2.2.1.1,y2.2.1.2.1,()),([]:List (List aw)),()))) fun y3=>
 .ret (((y3.2.1,()),()),((y3.2.2.1.2.1,y3.2.2.1.2.2.1,()),()))
def aam (x:t17×Unit):=(L1 x).eval
def ahM:Nat→Option aq:=fun n=>bU [(0,⟨⟨[.vptr 0 0, .dead, .dead, .ro b8 none, .ro b8 none, .ro b8 none, .aP 64000000, .i .i64]++dd 76,[(0, .var [.ro (.int .u8) (some 1), .i .i64, .i .i64]),(64000000, .arr (.fz b8))]⟩,⟨[.vptr 0 0]++dd 5++[.aP 64000000]++dd 77,[(64000000, .arr (.fz b8)),(0, .var [.ro (.int .u8) (some 1), .i .i64, .i .i64])]⟩,none,false⟩)] n
def k44:bM:=cw 44 false [i17] [none] [i2] L1
theorem adL:k44.Ok Tryz.prog:=bA bF [267,527,784,2307] [(267,1),(527,1),(784,1),(2307,1)] [Pa,ahK] ⟨tQ,V1,trivial⟩ ahM Tryz.f44 [.tmp 2] fun x=>by kernel_rfl
abbrev ahN:=(t4×Unit)×(b17×Unit×Unit)
abbrev J1:=(Int×Unit)×(XE×(Int×Int×Unit)×(Int×Int×Unit)×List (List aw)×List af×List ah×List ag×List ag×List Int×List Int×Cz)
def Rr:J1→Out (Round J1 ((Unit)×((Int×Int×Unit)×(Int×Int×Unit)×List (List aw)×List af×List ah×List ag×List ag×List Int×List Int×List (List aw)×List af×List ah×List ag×List ag×List Int×List Int×XE×Unit)) Empty)
|((p0,_),(p1,p2,p3,_),(p4,p5,_),(p6,p7,_),p8,p9,cz,cE,dp,dh,du,cP,dG,dX,ep,eZ,fR,fZ,_)=>
 .ite (decide (p0>(0:Int)))
 (.get (CV p1 p2 p3 (8:Int)) fun y1=>
 .ite y1.1.1.1
 (.get (Rb ((p6,p7,cP,dG,dX,ep,eZ,fR,fZ,()),())) fun ((b9,_),_)=>
 .ret (.again (((IntKind.i64.wrap (p0 - (1:Int))),()),((p1,y1.2.1.1,y1.2.1.2.1,()),(p4,p5,()),(b9.1,b9.2.1,()),p8,p9,cz,cE,dp,dh,du,b9.2.2.1,b9.2.2.2.1,b9.2.2.2.2.1,b9.2.2.2.2.2.1,b9.2.2.2.2.2.2.1,b9.2.2.2.2.2.2.2.1,b9.2.2.2.2.2.2.2.2.1,()))))
 (.get (Ra ((p6,p7,cP,dG,dX,ep,eZ,fR,fZ,()),())) fun ((dF,_),_)=>
 .ret (.again (((IntKind.i64.wrap (p0 - (1:Int))),()),((p1,y1.2.1.1,y1.2.1.2.1,()),(p4,p5,()),(dF.1,dF.2.1,()),p8,p9,cz,cE,dp,dh,du,dF.2.2.1,dF.2.2.2.1,dF.2.2.2.2.1,dF.2.2.2.2.2.1,dF.2.2.2.2.2.2.1,dF.2.2.2.2.2.2.2.1,dF.2.2.2.2.2.2.2.2.1,())))))
 (.ret (.out ((),((p4,p5,()),(p6,p7,()),p8,p9,cz,cE,dp,dh,du,cP,dG,dX,ep,eZ,fR,fZ,(p1,p2,p3,()),()))))
def L2:t17×t1×Unit→Out ahN
|(a0,a1,_)=>
 .get (aam (a0,())) fun ((eu,_),(BN,_))=>
 .get (aaj (eu,())) fun ((b9,_),_)=>
 .get (fv a0.1 BN.1 BN.2.1 a1.1) fun y3=>
 .get (b5 Rr bn ((y3.1.1.1,()),((a0.1,y3.2.1.1,y3.2.1.2.1,()),((0:Int),(0:Int),()),(b9.1,b9.2.1,()),([]:List (List aw)),([]:List af),([]:List ah),([]:List ag),([]:List ag),([]:List Int),([]:List Int),b9.2.2.1,b9.2.2.2.1,b9.2.2.2.2.1,b9.2.2.2.2.2.1,b9.2.2.2.2.2.2.1,b9.2.2.2.2.2.2.2.1,b9.2.2.2.2.2.2.2.2.1,()))) fun (_,_,(N4,N5,_),_,_,_,_,_,_,_,N6,N7,Rs,Rt,Ru,Rv,Rw,(_,alL,alM,_),_)=>
 .get (Fu ((N4,N5,N6,N7,Rs,Rt,Ru,Rv,Rw,()),())) fun ((ja,_),_)=>
 .ret ((ja,()),((alL,alM,()),(),()))
def Rx (x:t17×t1×Unit):=(L2 x).eval
def ahO:Nat→Option aq:=fun n=>bU [(0,⟨⟨[.vptr 0 0, .dead, .dead, .dead, .vptr 64000000 0, .vptr 64000001 0, .dead, .i .i64]++dd 21,[(0, .var [.ro (.int .u8) (some 1), .i .i64, .i .i64]),(64000000, .var [.i .i64, .i .i64, .aP 64000002, .aP 64000003, .aP 64000004, .aP 64000005, .aP 64000006, .aP 64000007, .aP 64000008]),(64000001, .var [.i .i64, .i .i64, .aP 64000009, .aP 64000010, .aP 64000011, .aP 64000012, .aP 64000013, .aP 64000014, .aP 64000015]),(64000002, .arr (.fz b8)),(64000003, .arr eM),(64000004, .arr cH),(64000005, .arr bW),(64000006, .arr bW),(64000007, .arr (.int .i64)),(64000008, .arr (.int .i64)),(64000009, .arr (.fz b8)),(64000010, .arr eM),(64000011, .arr cH),(64000012, .arr bW),(64000013, .arr bW),(64000014, .arr (.int .i64)),(64000015, .arr (.int .i64))]⟩,⟨[.vptr 0 0, .dead, .dead, .dead, .vptr 64000000 0, .vptr 64000001 0]++dd 23,[(64000000, .var [.i .i64, .i .i64, .aP 64000002, .aP 64000003, .aP 64000004, .aP 64000005, .aP 64000006, .aP 64000007, .aP 64000008]),(64000001, .var [.i .i64, .i .i64, .aP 64000009, .aP 64000010, .aP 64000011, .aP 64000012, .aP 64000013, .aP 64000014, .aP 64000015]),(64000002, .arr (.fz b8)),(64000003, .arr eM),(64000004, .arr cH),(64000005, .arr bW),(64000006, .arr bW),(64000007, .arr (.int .i64)),(64000008, .arr (.int .i64)),(64000009, .arr (.fz b8)),(64000010, .arr eM),(64000011, .arr cH),(64000012, .arr bW),(64000013, .arr bW),(64000014, .arr (.int .i64)),(64000015, .arr (.int .i64)),(0, .var [.ro (.int .u8) (some 1), .i .i64, .i .i64])]⟩,none,false⟩)] n
def k50:bM:=cw 50 false [i17,i1] [none,none] [i4] L2
theorem Ry:k50.Ok Tryz.prog:=bA bF [258] [(258,1)] [k44,k48,Pa,k46,k56,k69,ads] ⟨adL,adu,tQ,JZ,Rc,adq,LQ,trivial⟩ ahO Tryz.f50 [.cell 4 31] fun x=>by kernel_rfl
abbrev aan:=(t5×Unit)×(b17×Unit×Unit)
def FC (v0:Int) (v1:List Int) (v2:Int) (v3:Int) (v4:Int) (v5:Int) (v6:List (List aw)) (v7:List af) (v8:List ah) (v9:List ag) (v10:List ag) (v11:List Int) (v12:List Int):Out (aan):=
 .get (fv v1 v2 v3 (12:Int)) fun y4=>
 .ite ((y4.1.1.1==(0:Int)))
 (.get (th v1 y4.2.1.1 y4.2.1.2.1 ([(0:Int),(1:Int),(100000:Int),(100001:Int)]:List Int)) fun y5=>
 .ret (((y5.1.1.1,v5,v6,v7,v8,v9,v10,v11,v12,()),()),((y5.2.1.1,y5.2.1.2.1,()),(),())))
 (.ite ((y4.1.1.1==(1:Int)))
 (.get (th v1 y4.2.1.1 y4.2.1.2.1 ([(-1:Int),(9:Int),(1000000:Int),(1000001:Int)]:List Int)) fun y6=>
 .ret (((v4,y6.1.1.1,v6,v7,v8,v9,v10,v11,v12,()),()),((y6.2.1.1,y6.2.1.2.1,()),(),())))
 (.ite ((y4.1.1.1==(2:Int)))
 (.get (fv v1 y4.2.1.1 y4.2.1.2.1 (4:Int)) fun y7=>
 .ite (decide (List.length v11+List.length ([y7.1.1.1]:List Int)≤bV))
 (.ret (((v4,v5,v6,v7,v8,v9,v10,(v11++([y7.1.1.1]:List Int)),v12,()),()),((y7.2.1.1,y7.2.1.2.1,()),(),())))
 .fail)
 (.ite ((y4.1.1.1==(3:Int)))
 (.get (th v1 y4.2.1.1 y4.2.1.2.1 ([(1000000:Int),(1000001:Int)]:List Int)) fun y8=>
 .ite (decide (List.length v12+List.length ([y8.1.1.1]:List Int)≤bV))
 (.ret (((v4,v5,v6,v7,v8,v9,v10,v11,(v12++([y8.1.1.1]:List Int)),()),()),((y8.2.1.1,y8.2.1.2.1,()),(),())))
 .fail)
 (.ite ((y4.1.1.1==(4:Int)))
 (.get (fv v1 y4.2.1.1 y4.2.1.2.1 (9:Int)) fun y9=>
 .get (fv v1 y9.2.1.1 y9.2.1.2.1 (6:Int)) fun Gm=>
 .get (fv v1 Gm.2.1.1 Gm.2.1.2.1 (3:Int)) fun wC=>
 .ite (decide (List.length v8+List.length ([(y9.1.1.1,Gm.1.1.1,wC.1.1.1,(0:Int),(0:Int),())]:List ah)≤bV))
 (.ret (((v4,v5,v6,v7,(v8++([(y9.1.1.1,Gm.1.1.1,wC.1.1.1,(0:Int),(0:Int),())]:List ah)),v9,v10,v11,v12,()),()),((wC.2.1.1,wC.2.1.2.1,()),(),())))
 .fail)
 (.ite ((y4.1.1.1==(5:Int)))
 (.get (fv v1 y4.2.1.1 y4.2.1.2.1 (4:Int)) fun pL=>
 .ite (decide (List.length v9+List.length ([(pL.1.1.1,([]:List Int),())]:List ag)≤bV))
 (.ret (((v4,v5,v6,v7,v8,(v9++([(pL.1.1.1,([]:List Int),())]:List ag)),v10,v11,v12,()),()),((pL.2.1.1,pL.2.1.2.1,()),(),())))
 .fail)
 (.ite ((y4.1.1.1==(6:Int)))
 (.get (fv v1 y4.2.1.1 y4.2.1.2.1 (8:Int)) fun Je=>
 .ite (decide (List.length v10+List.length ([(Je.1.1.1,([(1:Int)]:List Int),())]:List ag)≤bV))
 (.ret (((v4,v5,v6,v7,v8,v9,(v10++([(Je.1.1.1,([(1:Int)]:List Int),())]:List ag)),v11,v12,()),()),((Je.2.1.1,Je.2.1.2.1,()),(),())))
 .fail)
 (.ite ((y4.1.1.1==(7:Int)))
 (.ite (decide (((List.length v7:Nat):Int)>(0:Int)))
 (.get (fv v1 y4.2.1.1 y4.2.1.2.1 (8:Int)) fun O6=>
 .ite (decide (0≤v0∧v0<((List.length v7:Nat):Int)))
 (.get (nth v7 (Int.toNat v0)) fun tx=>
 .ret (((v4,v5,v6,(List.set v7 (Int.toNat v0) (tx.1,(tx.2.1,(O6.1.1.1,tx.2.2.2)))),v8,v9,v10,v11,v12,()),()),((O6.2.1.1,O6.2.1.2.1,()),(),())))
 .fail)
 (.ret (((v4,v5,v6,v7,v8,v9,v10,v11,v12,()),()),((y4.2.1.1,y4.2.1.2.1,()),(),()))))
 (.ite ((y4.1.1.1==(8:Int)))
 (.ite (decide (((List.length v7:Nat):Int)>(0:Int)))
 (.ite (decide (0≤v0∧v0<((List.length v7:Nat):Int)))
 (.get (nth v7 (Int.toNat v0)) fun Cy=>
 .get (th v1 y4.2.1.1 y4.2.1.2.1 ([(1:Int),(4:Int),(8:Int)]:List Int)) fun Um=>
 .get (pW ((Um.1.1.1,()),())) fun ((uJ,_),_)=>
 .ite (decide (List.length Cy.2.2.2.2.2.1+List.length uJ.1≤bV))
 (.ite (decide (0≤v0∧v0<((List.length v7:Nat):Int)))
 (.ite ((Int.toNat v0)==(Int.toNat v0))
 (.get (nth v7 (Int.toNat v0)) fun y19=>
 .ret (((v4,v5,v6,(List.set v7 (Int.toNat v0) (y19.1,(y19.2.1,(y19.2.2.1,(y19.2.2.2.1,(y19.2.2.2.2.1,((Cy.2.2.2.2.2.1++uJ.1),y19.2.2.2.2.2.2))))))),v8,v9,v10,v11,v12,()),()),((Um.2.1.1,Um.2.1.2.1,()),(),())))
 .fail)
 .fail)
 .fail)
 .fail)
 (.ret (((v4,v5,v6,v7,v8,v9,v10,v11,v12,()),()),((y4.2.1.1,y4.2.1.2.1,()),(),()))))
 (.ite ((y4.1.1.1==(9:Int)))
 (.ite (decide (((List.length v7:Nat):Int)>(0:Int)))
 (.ite (decide (0≤v0∧v0<((List.length v7:Nat):Int)))
 (.get (nth v7 (Int.toNat v0)) fun Rz=>
 .get (fv v1 y4.2.1.1 y4.2.1.2.1 (4:Int)) fun y21=>
 .get (fv v1 y21.2.1.1 y21.2.1.2.1 (5:Int)) fun y22=>
 .ite (decide (0≤y21.1.1.1∧y21.1.1.1<((List.length Rz.2.2.2.2.2.2.1:Nat):Int)))
 (.get (nth Rz.2.2.2.2.2.2.1 (Int.toNat y21.1.1.1)) fun _=>
 .ret (((v4,v5,v6,(List.set v7 (Int.toNat v0) (Rz.1,(Rz.2.1,(Rz.2.2.1,(Rz.2.2.2.1,(Rz.2.2.2.2.1,(Rz.2.2.2.2.2.1,((List.set Rz.2.2.2.2.2.2.1 (Int.toNat y21.1.1.1) (IntKind.i64.wrap (y22.1.1.1 - (1:Int)))),Rz.2.2.2.2.2.2.2)))))))),v8,v9,v10,v11,v12,()),()),((y22.2.1.1,y22.2.1.2.1,()),(),())))
 .fail)
 .fail)
 (.ret (((v4,v5,v6,v7,v8,v9,v10,v11,v12,()),()),((y4.2.1.1,y4.2.1.2.1,()),(),()))))
 (.ite ((y4.1.1.1==(10:Int)))
 (.ite (decide (((List.length v7:Nat):Int)>(0:Int)))
 (.get (fv v1 y4.2.1.1 y4.2.1.2.1 (4:Int)) fun y24=>
 .ite (decide (0≤v0∧v0<((List.length v7:Nat):Int)))
 (.get (nth v7 (Int.toNat v0)) fun y25=>
 .ret (((v4,v5,v6,(List.set v7 (Int.toNat v0) (y25.1,(y24.1.1.1,y25.2.2))),v8,v9,v10,v11,v12,()),()),((y24.2.1.1,y24.2.1.2.1,()),(),())))
 .fail)
 (.ret (((v4,v5,v6,v7,v8,v9,v10,v11,v12,()),()),((y4.2.1.1,y4.2.1.2.1,()),(),()))))
 (.ite (decide (((List.length v7:Nat):Int)>(0:Int)))
 (.ite (decide (0≤v0∧v0<((List.length v7:Nat):Int)))
 (.get (nth v7 (Int.toNat v0)) fun y26=>
 .ite (decide (List.length (List.set v7 (Int.toNat v0) y26)+List.length ([y26]:List af)≤bV))
 (.ret (((v4,v5,v6,((List.set v7 (Int.toNat v0) y26)++([y26]:List af)),v8,v9,v10,v11,v12,()),()),((y4.2.1.1,y4.2.1.2.1,()),(),())))
 .fail)
 .fail)
 (.ret (((v4,v5,v6,v7,v8,v9,v10,v11,v12,()),()),((y4.2.1.1,y4.2.1.2.1,()),(),()))))))))))))))
def L3:t17×t1×Unit→Out aan
|(a0,a1,_)=>
 .get (Rx (a0,a1,())) fun ((eu,_),(BN,_))=>
 .get (CV a0.1 BN.1 BN.2.1 (8:Int)) fun y2=>
 .ite (!y2.1.1.1)
 (.ret ((eu,()),((y2.2.1.1,y2.2.1.2.1,()),(),())))
 (.ite (decide (((List.length eu.2.2.2.1:Nat):Int)>(0:Int)))
 (.get (fv a0.1 y2.2.1.1 y2.2.1.2.1 ((List.length eu.2.2.2.1:Nat):Int)) fun y3=>
 FC y3.1.1.1 a0.1 y3.2.1.1 y3.2.1.2.1 eu.1 eu.2.1 eu.2.2.1 eu.2.2.2.1 eu.2.2.2.2.1 eu.2.2.2.2.2.1 eu.2.2.2.2.2.2.1 eu.2.2.2.2.2.2.2.1 eu.2.2.2.2.2.2.2.2.1)
 (FC (0:Int) a0.1 y2.2.1.1 y2.2.1.2.1 eu.1 eu.2.1 eu.2.2.1 eu.2.2.2.1 eu.2.2.2.2.1 eu.2.2.2.2.2.1 eu.2.2.2.2.2.2.1 eu.2.2.2.2.2.2.2.1 eu.2.2.2.2.2.2.2.2.1))
def aaq (x:t17×t1×Unit):=(L3 x).eval
def k33:bM:=cw 33 false [i17,i1] [none,none] [i5] L3
theorem adM:k33.Ok Tryz.prog:=bA VZ [5893] [(2310,4),(2311,1),(5893,1)] [k50,k46,Pa,k94,k95] ⟨Ry,JZ,tQ,Rn,EU,trivial⟩ (fun _=>none) Tryz.f33 [.cell 4 31] fun x=>by kernel_rfl
abbrev ahQ:=(t5×Unit)×(Unit×Unit)
abbrev FD:=(Int×Unit)×((Int×Int×Unit)×(Int×Int×Unit)×List (List aw)×List af×List ah×List ag×List ag×List Int×List Int×Cz)
def RA:FD→Out (Round FD ((Unit)×((Int×Int×Unit)×(Int×Int×Unit)×List (List aw)×List af×List ah×List ag×List ag×List Int×List Int×Cz)) Empty)
|((p0,_),(p1,p2,_),(p3,p4,_),p5,p6,p7,p8,p9,cz,cE,dp,dh,du,cP,dG,dX,ep,_)=>
 .ite (decide (p0<((List.length dh:Nat):Int)))
 (.ite (decide (0≤p0∧p0<((List.length dh:Nat):Int)))
 (.get (nth dh (Int.toNat p0)) fun y1=>
 .ite (((y1.2.2.1==(1:Int)))==false)
 (.ite (decide (0≤p0∧p0<((List.length dh:Nat):Int)))
 (.get (nth dh (Int.toNat p0)) fun y2=>
 .ite ((y2.2.2.1==(2:Int)))
 (.ite (decide (0≤p0∧p0<((List.length dh:Nat):Int)))
 (.get (nth dh (Int.toNat p0)) fun y3=>
 .ite (decide (0≤p0∧p0<((List.length (List.set dh (Int.toNat p0) (y3.1,(y3.2.1,((3:Int),y3.2.2.2)))):Nat):Int)))
 (.get (nth (List.set dh (Int.toNat p0) (y3.1,(y3.2.1,((3:Int),y3.2.2.2)))) (Int.toNat p0)) fun y4=>
 .ret (.again (((IntKind.i64.wrap (p0+(1:Int))),()),((p1,p2,()),(p3,p4,()),p5,p6,p7,p8,p9,cz,cE,dp,(List.set (List.set dh (Int.toNat p0) (y3.1,(y3.2.1,((3:Int),y3.2.2.2)))) (Int.toNat p0) (y4.1,(y4.2.1,(y4.2.2.1,(y4.2.2.2.1,(y4.2.2.2.2.1,(y4.2.2.2.2.2.1,(y4.2.2.2.2.2.2.1,((0:Int),y4.2.2.2.2.2.2.2.2))))))))),du,cP,dG,dX,ep,()))))
 .fail)
 .fail)
 (.ret (.again (((IntKind.i64.wrap (p0+(1:Int))),()),((p1,p2,()),(p3,p4,()),p5,p6,p7,p8,p9,cz,cE,dp,dh,du,cP,dG,dX,ep,())))))
 .fail)
 (.ite (decide (0≤p0∧p0<((List.length dh:Nat):Int)))
 (.get (nth dh (Int.toNat p0)) fun y5=>
 .ite (decide (0≤p0∧p0<((List.length (List.set dh (Int.toNat p0) (y5.1,(y5.2.1,((3:Int),y5.2.2.2)))):Nat):Int)))
 (.get (nth (List.set dh (Int.toNat p0) (y5.1,(y5.2.1,((3:Int),y5.2.2.2)))) (Int.toNat p0)) fun y6=>
 .ret (.again (((IntKind.i64.wrap (p0+(1:Int))),()),((p1,p2,()),(p3,p4,()),p5,p6,p7,p8,p9,cz,cE,dp,(List.set (List.set dh (Int.toNat p0) (y5.1,(y5.2.1,((3:Int),y5.2.2.2)))) (Int.toNat p0) (y6.1,(y6.2.1,(y6.2.2.1,(y6.2.2.2.1,(y6.2.2.2.2.1,(y6.2.2.2.2.2.1,(y6.2.2.2.2.2.2.1,((0:Int),y6.2.2.2.2.2.2.2.2))))))))),du,cP,dG,dX,ep,()))))
 .fail)
 .fail))
 .fail)
 (.ret (.out ((),((p1,p2,()),(p3,p4,()),p5,p6,p7,p8,p9,cz,cE,dp,dh,du,cP,dG,dX,ep,()))))
def L4:t19×Unit→Out ahQ
|(a0,_)=>
 .get (LX a0.1) fun y1=>
 .get (CV y1.1.1.1 y1.1.1.2.1 y1.1.1.2.2.1 (2:Int)) fun y2=>
 .ite y2.1.1.1
 (.get (G9 a0.1 (250:Int)) fun y3=>
 .get (aaq ((y1.1.1.1,y2.2.1.1,y2.2.1.2.1,()),(y3.1.1.1,()),())) fun ((gA,_),_)=>
 .ret ((gA,()),((),())))
 (.get (G9 a0.1 (60:Int)) fun y5=>
 .get (Rx ((y1.1.1.1,y2.2.1.1,y2.2.1.2.1,()),(y5.1.1.1,()),())) fun ((lp,_),_)=>
 .get (b5 RA bn (((0:Int),()),(((0:Int),(0:Int),()),(lp.1,lp.2.1,()),([]:List (List aw)),([]:List af),([]:List ah),([]:List ag),([]:List ag),([]:List Int),([]:List Int),lp.2.2.1,lp.2.2.2.1,lp.2.2.2.2.1,lp.2.2.2.2.2.1,lp.2.2.2.2.2.2.1,lp.2.2.2.2.2.2.2.1,lp.2.2.2.2.2.2.2.2.1,()))) fun (_,_,(abo,abp,_),_,_,_,_,_,_,_,abq,abr,abt,abu,abv,_,abw,_)=>
 .ret (((abo,abp,abq,abr,abt,abu,abv,([]:List Int),abw,()),()),((),())))
def aar (x:t19×Unit):=(L4 x).eval
abbrev RB:List (Nat×dT):=[(64000000, .var [.i .i64, .i .i64, .aP 64000002, .aP 64000003, .aP 64000004, .aP 64000005, .aP 64000006, .aP 64000007, .aP 64000008]),(64000001, .var [.i .i64, .i .i64, .aP 64000009, .aP 64000010, .aP 64000011, .aP 64000012, .aP 64000013, .aP 64000014, .aP 64000015]),(64000002, .arr (.fz b8)),(64000003, .arr eM),(64000004, .arr cH),(64000005, .arr bW),(64000006, .arr bW),(64000007, .arr (.int .i64)),(64000008, .arr (.int .i64)),(64000009, .arr (.fz b8)),(64000010, .arr eM),(64000011, .arr cH),(64000012, .arr bW),(64000013, .arr bW),(64000014, .arr (.int .i64)),(64000015, .arr (.int .i64))]
def ahR:Nat→Option aq:=fun n=>bU [(0,⟨⟨[.dead, .dead, .vptr 64000000 0, .dead, .vptr 64000001 0, .i .i64]++dd 48,RB⟩,⟨[.dead, .dead, .vptr 64000000 0, .dead, .vptr 64000001 0]++dd 49,RB⟩,none,false⟩)] n
def k19:bM:=cw 19 false [i19] [none] [i5] L4
theorem adN:k19.Ok Tryz.prog:=bA bF [] [] [k32,k46,k34,k33,k50] ⟨adB,JZ,adG,adM,Ry,trivial⟩ ahR Tryz.f19 [.cell 2 31] fun x=>by kernel_rfl
end
section
open Go Go.ChangeShapes Go.WideShapes Go.ChangeAt Go.RowKit
section
variable {b:List Int} {i h:Int}
theorem ik1 {r v:Int} (hr:CS r) (hv: -1000000≤v∧v≤1000000):dt (1,r,v,0,())=true:=by unfold dt gl;simp [cM,dC,hr.1,hr.2,hv.1,hv.2]
theorem ik2 {r q s:Int} (hr:CS r) (hq:CS q) (hs:CS s):dt (2,r,q,s,())=true∧dt (3,r,q,s,())=true:=by unfold dt gl;simp [cM,hr.1,hr.2,hq.1,hq.2,hs.1,hs.2]
theorem ik4 {r q:Int} (hr:CS r) (hq:CS q):dt (4,r,q,0,())=true∧dt (5,r,q,0,())=true:=by unfold dt gl;simp [cM,hr.1,hr.2,hq.1,hq.2]
theorem ik6 {v:Int} (hv:0≤v∧v≤40):dt (6,v,0,0,())=true:=by unfold dt gl;simp [dC,hv.1,hv.2]
theorem ik7 {r v:Int} (hr:CS r) (hv:0≤v∧v≤40):dt (7,r,v,0,())=true:=by unfold dt gl;simp [cM,dC,hr.1,hr.2,hv.1,hv.2]
theorem ik8 {v:Int} (hv:1≤v∧v≤20):dt (8,v,0,0,())=true:=by unfold dt gl;simp [dC,hv.1,hv.2]
theorem V2 (hb:b.length≤aS) (hi:0≤i):iq (Ro ((b,i,h,()),())) fun y=>dt y.1.1=true∧0≤y.2.1.1:=by
 show iq (Out.eval (FA _)) _;dsimp only [FA];refine bj (b7 hb hi) fun y hy=>bj (b7 hb hy.2) fun z hz=>bj (b7 hb hz.2) fun u hu=> ?_;have r1:CS y.1.1.1:=⟨hy.1.1,hy.1.2.1 (by decide)⟩
 have r2:CS z.1.1.1:=⟨hz.1.1,hz.1.2.1 (by decide)⟩
 have pk:∀ v:Int,v∈[(0:Int),1,2,3,4,7, -1,9]→ -1000000≤v∧v≤1000000:=fun v hv=>by simp at hv;omega
 refine bH (fun _=>bj (lW hb hu.2 (by decide)) fun v hv=>bq ⟨ik1 r1 (pk _ hv.1),hv.2⟩) fun _=> ?_;refine bH (fun _=>bj (lW hb hu.2 (by decide)) fun v hv=>bq ⟨ik1 r1 (pk _ hv.1),hv.2⟩) fun _=> ?_;refine bH (fun _=>bj (lW hb hu.2 (by decide)) fun v hv=>bq ⟨ik1 r1 (pk _ hv.1),hv.2⟩) fun _=> ?_;refine bH (fun _=>bj (b7 hb hu.2) fun v hv=>bq ⟨(ik2 r1 r2 ⟨hv.1.1,hv.1.2.1 (by decide)⟩).1,hv.2⟩) fun _=> ?_;refine bH (fun _=>bj (b7 hb hu.2) fun v hv=>bq ⟨(ik2 r1 r2 ⟨hv.1.1,hv.1.2.1 (by decide)⟩).2,hv.2⟩) fun _=> ?_;refine bH (fun _=>bq ⟨(ik4 r1 r2).1,hu.2⟩) fun _=>bH (fun _=>bq ⟨(ik4 r1 r2).2,hu.2⟩) fun _=> ?_;refine bH (fun _=>bj (b7 hb hu.2) fun v hv=>bq ⟨ik6 ⟨hv.1.1,by have:=hv.1.2.1 (by decide);omega⟩,hv.2⟩) fun _=> ?_;refine bH (fun _=>bj (b7 hb hu.2) fun v hv=>bq ⟨ik7 r1 ⟨hv.1.1,by have:=hv.1.2.1 (by decide);omega⟩,hv.2⟩) fun _=> ?_;refine bj (b7 hb hu.2) fun v hv=>bq ⟨?_,hv.2⟩;have h1:=hv.1.1;have h2:=hv.1.2.1 (by decide);have w:IntKind.i64.wrap ((1:Int)+v.1.1.1)=1+v.1.1.1:=cS (by omega) (by omega);rw [w];exact ik8 (by omega)
theorem N8 {p:List aw} {x:aw} (hp:p.all dt=true) (hx:dt x=true):(p++[x]).all dt=true:=by rw [afW,hp];simp [hx]
theorem N9 (hb:b.length≤aS) (hi:0≤i):iq (Rp ((b,i,h,()),(16,()),())) fun y=>bT y.1.1.1=true∧0≤y.2.1.1:=by
 show iq (Out.eval (FB _)) _;dsimp only [FB];refine bj (b7 hb hi) fun y hy=> ?_;have h1:=hy.1.1;have h2:y.1.1.1<17:=hy.1.2.1 (by decide);refine bj (P:=fun x=>(x.2.1.length≤16∧x.2.1.all dt=true)∧0≤x.2.2.1.2.1) (lH (fun x=>x.2.1.1=b∧0≤x.1.1∧0≤x.2.1.2.1∧(x.2.2.1.length:Int)+x.1.1≤16∧x.2.2.1.all dt=true) (fun x=>x.1.1.toNat) _ (fun x hx=> ?_) _ _ ?_ ?_) fun x hx=>bq ⟨?_,hx.2⟩
 . obtain ⟨⟨k,_⟩,⟨b',i,h,_⟩,out,_⟩:=x
   obtain ⟨e1,h1,h2,h3,h4⟩:=hx;simp only at e1 h1 h2 h3 h4;subst e1;dsimp only [L0];refine bH (fun h4=> ?_) (fun h4=>bq ?_)
   . have h4:k>0:=abH h4
     have w:IntKind.i64.wrap (k - 1)=k - 1:=cS (by omega) (by omega);refine bj (V2 hb h2) fun u hu=> ?_;obtain ⟨⟨ua,_⟩,⟨⟨ui,uh,_⟩,_⟩⟩:=u;refine fa (aaa (by rw [AB];simp;omega)) (bq ?_);exact ⟨⟨rfl,by simp only [w];omega,hu.2,by simp only [w];simp;omega,N8 ‹_› hu.1⟩,by simp only [w];omega⟩
   . exact ⟨⟨by simp only at *; omega, ‹_›⟩,h2⟩
 . exact ⟨rfl,h1,hy.2,by simp;omega,rfl⟩
 . exact af3 (show y.1.1.1.toNat≤16 by omega) (by decide)
 . unfold bT
   rw [aaE,ack];exact ⟨aa3 hx.1.1 (by decide),hx.1.2⟩
theorem J2 {g:List (List aw)} {x:List aw} (hg:g.all bT=true) (hx:bT x=true):(g++[x]).all bT=true:=by rw [afW,hg];simp [hx]
theorem Oa (hb:b.length≤aS) (hi:0≤i):iq (aam ((b,i,h,()),())) fun y=>cD y.1.1.1=true∧0≤y.2.1.1:=by
 show iq (Out.eval (L1 _)) _;dsimp only [L1];refine bj (b7 hb hi) fun y hy=>bj (b7 hb hy.2) fun z hz=> ?_;have h1:=hz.1.1;have h2:z.1.1.1<3:=hz.1.2.1 (by decide);have y1:=hy.1.1;have y2:y.1.1.1<3:=hy.1.2.1 (by decide);have w0:IntKind.i64.wrap ((1:Int)+z.1.1.1)=1+z.1.1.1:=cS (by omega) (by omega);refine bj (P:=fun x=>((1≤x.2.1.length∧x.2.1.length≤3)∧x.2.1.all bT=true)∧0≤x.2.2.1.2.1) (lH (fun x=>(x.2.1.1=b∧0≤x.1.2.2.2.1∧0≤x.2.1.2.1∧(x.2.2.1.length:Int)+x.1.2.2.2.1≤3∧1≤(x.2.2.1.length:Int)+x.1.2.2.2.1)∧(bT x.1.1=true∧bT x.1.2.1=true∧bT x.1.2.2.1=true)∧x.2.2.1.all bT=true) (fun x=>x.1.2.2.2.1.toNat) _ (fun x hx=> ?_) _ _ ?_ ?_) fun x hx=>bq ⟨?_,hx.2⟩
 . obtain ⟨⟨p1,p2,p3,k,_⟩,⟨b',i,h,_⟩,out,_⟩:=x
   obtain ⟨⟨e1,h1,h2,h3,h4⟩,⟨q1,q2,q3⟩,q4⟩:=hx;simp only at e1 h1 h2 h3 h4 q1 q2 q3 q4;subst e1;dsimp only [Rq];refine bH (fun h5=> ?_) (fun h5=>bq ?_)
   . have h5:k>0:=abH h5
     have w:IntKind.i64.wrap (k - 1)=k - 1:=cS (by omega) (by omega);have lim:∀ v:List aw,decide (List.length out+List.length ([v]:List (List aw))≤bV)=true:=fun v=>aaa (by rw [AB];simp;omega);have fin:∀ (v:List aw) (i h:Int),bT v=true→0≤i→JX (fun x:J0=>((x.2.1.1=b'∧0≤x.1.2.2.2.1∧0≤x.2.1.2.1∧(x.2.2.1.length:Int)+x.1.2.2.2.1≤3∧1≤(x.2.2.1.length:Int)+x.1.2.2.2.1)∧(bT x.1.1=true∧bT x.1.2.1=true∧bT x.1.2.2.1=true)∧x.2.2.1.all bT=true)∧x.1.2.2.2.1.toNat<k.toNat) (fun x:(Unit)×(List (List aw)×XE×Unit)=>((1≤x.2.1.length∧x.2.1.length≤3)∧x.2.1.all bT=true)∧0≤x.2.2.1.2.1) (fun _:Empty=>False)
       (.again ((p1,p2,p3,IntKind.i64.wrap (k - 1),()),((b',i,h,()),(out++([v]:List (List aw))),()))):=fun v i h hv hi=>by
      refine ⟨⟨⟨rfl, ?_,hi, ?_, ?_⟩,⟨q1,q2,q3⟩,J2 q4 hv⟩, ?_⟩<;>simp only [w,aao,aai,aat]<;>omega
     refine bj (b7 hb h2) fun u hu=>bH (fun _=>fa (lim _) (bq (fin _ _ _ q1 hu.2))) fun _=>bH (fun _=>fa (lim _) (bq (fin _ _ _ q2 hu.2))) fun _=>bH (fun _=>fa (lim _) (bq (fin _ _ _ q3 hu.2))) fun _=> ?_;refine bj (N9 hb hu.2) fun v hv=> ?_;obtain ⟨⟨⟨va,_⟩,_⟩,⟨⟨vi,vh,_⟩,_⟩⟩:=v;exact fa (lim _) (bq (fin _ _ _ hv.1 hv.2))
   . have h5:¬ k>0:=ahe h5
     exact ⟨⟨⟨by simp only;omega,by simp only;omega⟩,q4⟩,h2⟩
 . have hf:dt (1,0,y.1.1.1,0,())=true:=ik1 ⟨by decide,by decide⟩ (by omega)
   refine ⟨⟨rfl, ?_,hz.2, ?_, ?_⟩,⟨by rfl,by rfl, ?_⟩,rfl⟩
   . simp only [w0];omega
   . simp only [w0,aat];omega
   . simp only [w0,aat];omega
   . unfold bT
     simp only [acY,hf];rfl
 . simp only [w0]
   exact af3 (show (1+z.1.1.1).toNat≤3 by omega) (by decide)
 . unfold cD
   rw [aaE,aaE,ack,ack];exact ⟨⟨hx.1.1.1,aa3 hx.1.1.2 (by decide)⟩,hx.1.2⟩
end
end
section
open Go Go.ChangeShapes Go.WideShapes Go.ChangeAt Go.RowKit
section
variable {b:List Int} {i h:Int}
theorem iV {ρ α:Type} {o:Option α} {z:α} {k:α→Out ρ} {Q:ρ→Prop} (e:o=some z) (hk:iq (k z).eval Q):iq (Out.get o k).eval Q:=by subst e;exact hk
abbrev ahS (x:J1):UT:=(x.2.2.2.1.1,x.2.2.2.1.2.1,x.2.2.2.2.2.2.2.2.2.2.2.1,x.2.2.2.2.2.2.2.2.2.2.2.2.1,x.2.2.2.2.2.2.2.2.2.2.2.2.2.1,x.2.2.2.2.2.2.2.2.2.2.2.2.2.2.1,x.2.2.2.2.2.2.2.2.2.2.2.2.2.2.2.1,x.2.2.2.2.2.2.2.2.2.2.2.2.2.2.2.2.1,x.2.2.2.2.2.2.2.2.2.2.2.2.2.2.2.2.2.1,())
abbrev aas:Type:=(Unit)×((Int×Int×Unit)×(Int×Int×Unit)×List (List aw)×List af×List ah×List ag×List ag×List Int×List Int×List (List aw)×List af×List ah×List ag×List ag×List Int×List Int×XE×Unit)
abbrev ahT (x:aas):UT:=(x.2.2.1.1,x.2.2.1.2.1,x.2.2.2.2.2.2.2.2.2.2.1,x.2.2.2.2.2.2.2.2.2.2.2.1,x.2.2.2.2.2.2.2.2.2.2.2.2.1,x.2.2.2.2.2.2.2.2.2.2.2.2.2.1,x.2.2.2.2.2.2.2.2.2.2.2.2.2.2.1,x.2.2.2.2.2.2.2.2.2.2.2.2.2.2.2.1,x.2.2.2.2.2.2.2.2.2.2.2.2.2.2.2.2.1,())
theorem Hb {n:Int} (hb:b.length≤aS) (hi:0≤i) (hn:n≤1000):iq (Rx ((b,i,h,()),(n,()),())) fun y=>fB y.1.1∧0≤y.2.1.1:=by
 show iq (Out.eval (L2 _)) _;dsimp only [L2];refine bj (Oa hb hi) fun y hy=> ?_;obtain ⟨⟨⟨pg,_⟩,_⟩,⟨⟨ui,uh,_⟩,_⟩⟩:=y;obtain ⟨hp,hu⟩:=hy;refine iV (adz.trans (by rw [aaK hp])) ?_;refine bj (b7 hb hu) fun z hz=> ?_;have h1:=hz.1.1;have h2:z.1.1.1≤1000:=by
  by_cases q:0<n
  . have:=hz.1.2.1 q;omega
  . rw [hz.1.2.2 (by omega)];decide
 have hR:=ady hp;refine bj (P:=fun x:aas=>fB (ahT x)∧0≤x.2.2.2.2.2.2.2.2.2.2.2.2.2.2.2.2.2.1.2.1) (lH (fun x=>x.2.1.1=b∧0≤x.2.1.2.1∧x.1.1≤1000∧fB (ahS x)) (fun x=>x.1.1.toNat) _ (fun x hx=> ?_) _ _ ?_ ?_) fun x hx=> ?_
 . obtain ⟨⟨k,_⟩,⟨b',i,h,_⟩,⟨d1,d2,_⟩,⟨nx,tk,_⟩,e1,e2,e3,e4,e5,e6,e7,pg,ps,os,pi,fi,rd,ou,_⟩:=x
   obtain ⟨e1,h2,hk,h3⟩:=hx;simp only at e1 h2 hk;have h3:fB (nx,tk,pg,ps,os,pi,fi,rd,ou,()):=h3;subst e1;dsimp only [Rr];refine bH (fun h5=> ?_) (fun h5=>bq ⟨h3,h2⟩);have h5:k>0:=abH h5;have w:IntKind.i64.wrap (k - 1)=k - 1:=cS (by omega) (by omega);refine bj (Ay hb h2) fun u hu=>bH (fun _=>iV (LW h3) ?_) fun _=>iV (adw h3) ?_
   . exact bq ⟨⟨rfl,hu,by simp only [w];omega,Ft h3⟩,by simp only [w];omega⟩
   . exact bq ⟨⟨rfl,hu,by simp only [w];omega,ahu h3⟩,by simp only [w];omega⟩
 . exact ⟨rfl,hz.2,h2,hR⟩
 . exact af3 (show z.1.1.1.toNat≤1000 by omega) (by decide)
 . obtain ⟨_,⟨d1,d2,_⟩,⟨nx,tk,_⟩,e1,e2,e3,e4,e5,e6,e7,pg,ps,os,pi,fi,rd,ou,⟨b',i,h,_⟩,_⟩:=x
   obtain ⟨h3,h4⟩:=hx;have h3:fB (nx,tk,pg,ps,os,pi,fi,rd,ou,()):=h3;exact iV (LV h3) (bq ⟨h3,h4⟩)
end
end
section
open Go Go.ChangeShapes Go.WideShapes Go.ChangeAt Go.RowKit
section
variable {b:List Int} {i h:Int} {u:UT}
structure V3 (nx tk:Int) (pg:List (List aw)) (ps:List af) (os:List ah) (pi fi:List ag) (rd ou:List Int):Prop where
 pg:cD pg=true
 np:ps.length≤7
 pr:∀ p∈ps,(zN p).2.1.length≤4∧(cp p).length≤20∧(aA p).length≤4
 os:os.length≤9
 RC:pi.length≤4
 pi:∀ y∈pi,y.2.1.length≤4
 nf:fi.length≤7
 fi:∀ y∈fi,y.2.1.length≤8
 rd:rd.length≤7
 ou:ou.length≤61
abbrev lk (u:UT):Prop:=V3 u.1 u.2.1 u.2.2.1 u.2.2.2.1 u.2.2.2.2.1 u.2.2.2.2.2.1 u.2.2.2.2.2.2.1 u.2.2.2.2.2.2.2.1 u.2.2.2.2.2.2.2.2.1
theorem oD (h:fB u):lk u:=⟨h.uv,aa3 h.np (by omega),fun p hp=>by
 have hl:=h.loc p hp;exact ⟨af5 (dm hl.kP).2.1,aa3 hl.mem.1 (by omega),af5 hl.fds⟩,aa3 (nA h) (by omega),aa3 (uN h) (by omega),fun y hy=>(h.uw y hy).data.1,aa3 (xR h) (by omega),fun y hy=>(jz h hy).1,aa3 (pZ h) (by omega),aa3 h.yN.1 (by omega)⟩
theorem AD {α:Type} {a:List α} {x y:α} (h:y∈a++[x]):y∈a∨y=x:=by simpa using h
theorem V4 {n:Int} (h:n=1∨n=4∨n=8):∃ l:List Int,pW ((n,()),())=some (((l,()),()),((),()))∧l.length≤8:=by
 rcases h with rfl|rfl|rfl
 . exact ⟨[0],rfl,by decide⟩
 . exact ⟨[0,0,0,0],rfl,by decide⟩
 . exact ⟨[0,0,0,0,0,0,0,0],rfl,by decide⟩
theorem Hc {nx tk k:Int} {pg:List (List aw)} {ps:List af} {os:List ah} {pi fi:List ag} {rd ou:List Int} (hb:b.length≤aS) (hi:0≤i) (hR:fB (nx,tk,pg,ps,os,pi,fi,rd,ou,())) (hk:0≤k∧(0<ps.length→k<(ps.length:Nat))):
  iq (FC k b i h nx tk pg ps os pi fi rd ou).eval fun y=>lk y.1.1∧0≤y.2.1.1:=by
 have hL:=AB;have T:lk (nx,tk,pg,ps,os,pi,fi,rd,ou,()):=oD hR;have hps:ps.length≤6:=hR.np;have hos:os.length≤8:=nA hR;have uw:pi.length≤3:=uN hR;have Gn:fi.length≤6:=xR hR;have Gp:rd.length≤6:=pZ hR;have yN:ou.length≤60:=hR.yN.1;have J3:0<ps.length→∃ p∈ps,nth ps k.toNat=some p∧(zN p).2.1.length=4∧(cp p).length≤12∧(aA p).length=4:=fun h0=>by
  have:=hk.2 h0;have hm:ps[k.toNat]'(by omega)∈ps:=acD _;have hl:=hR.loc _ hm;exact ⟨_,hm,aaf _,(dm hl.kP).2.1,hl.mem.1,hl.fds⟩
 have Hd:∀ {p':af},((zN p').2.1.length≤4∧(cp p').length≤20∧(aA p').length≤4)→lk (nx,tk,pg,ps.set k.toNat p',os,pi,fi,rd,ou,()):=fun {p'} E7=>by
  refine ⟨T.pg, ?_,fun q hq=> ?_,T.os,T.RC,T.pi,T.nf,T.fi,T.rd,T.ou⟩
  . show (ps.set _ _).length≤7
    rw [aag];omega
  . rcases af4 hq with e|e
    . exact T.pr q e
    . rw [e];exact E7
 have CW:∀ {α:Type} (a:List α) (x:α),(a++[x]).length=a.length+1:=fun a x=>by rw [aao];rfl
 dsimp only [FC];refine bj (b7 hb hi) fun y hy=> ?_;refine bH (fun _=>bj (lW hb hy.2 (by decide)) fun z hz=>bq ⟨⟨T.pg,T.np,T.pr,T.os,T.RC,T.pi,T.nf,T.fi,T.rd,T.ou⟩,hz.2⟩) fun _=> ?_;refine bH (fun _=>bj (lW hb hy.2 (by decide)) fun z hz=>bq ⟨⟨T.pg,T.np,T.pr,T.os,T.RC,T.pi,T.nf,T.fi,T.rd,T.ou⟩,hz.2⟩) fun _=> ?_;refine bH (fun _=>bj (b7 hb hy.2) fun z hz=>fa (aaa (by simp only [aai,aat];omega)) (bq ⟨⟨T.pg,T.np,T.pr,T.os,T.RC,T.pi,T.nf,T.fi,by rw [CW];omega,T.ou⟩,hz.2⟩)) fun _=> ?_;refine bH (fun _=>bj (lW hb hy.2 (by decide)) fun z hz=>fa (aaa (by simp only [aai,aat];omega)) (bq ⟨⟨T.pg,T.np,T.pr,T.os,T.RC,T.pi,T.nf,T.fi,T.rd,by rw [CW];omega⟩,hz.2⟩)) fun _=> ?_;refine bH (fun _=>bj (b7 hb hy.2) fun z hz=>bj (b7 hb hz.2) fun z2 hz2=>bj (b7 hb hz2.2) fun z3 hz3=>fa (aaa (by simp only [aai,aat];omega)) (bq ⟨⟨T.pg,T.np,T.pr,by rw [CW];omega,T.RC,T.pi,T.nf,T.fi,T.rd,T.ou⟩,hz3.2⟩)) fun _=> ?_;refine bH (fun _=>bj (b7 hb hy.2) fun z hz=>fa (aaa (by simp only [aai,aat];omega)) (bq ⟨⟨T.pg,T.np,T.pr,T.os,by rw [CW];omega,fun y hy=>(AD hy).elim (T.pi y) fun e=>by rw [e];exact afO _,T.nf,T.fi,T.rd,T.ou⟩,hz.2⟩)) fun _=> ?_;refine bH (fun _=>bj (b7 hb hy.2) fun z hz=>fa (aaa (by simp only [aai,aat];omega)) (bq ⟨⟨T.pg,T.np,T.pr,T.os,T.RC,T.pi,by rw [CW];omega,fun y hy=>(AD hy).elim (T.fi y) fun e=>by rw [e];show 1≤8;omega,T.rd,T.ou⟩,hz.2⟩)) fun _=> ?_;have same:iq (Out.ret (((nx,tk,pg,ps,os,pi,fi,rd,ou,()),()),((y.2.1.1,y.2.1.2.1,()),(),()))).eval fun y=>lk y.1.1∧0≤y.2.1.1:=bq ⟨T,hy.2⟩;by_cases h0:((ps.length:Nat):Int)>0
 case neg=>
  refine bH (fun _=>tg (aae h0) same) fun _=>bH (fun _=>tg (aae h0) same) fun _=>bH (fun _=>tg (aae h0) same) fun _=>bH (fun _=>tg (aae h0) same) fun _=>tg (aae h0) same
 obtain ⟨p,hp,hn,l1,l2,l3⟩:=J3 (by omega);have hkk:=hk.2 (by omega);have iU:decide (0≤k∧k<((ps.length:Nat):Int))=true:=aaa ⟨hk.1,hkk⟩;have h0:decide (((ps.length:Nat):Int)>0)=true:=aaa h0;refine bH (fun _=>fa h0 (bj (b7 hb hy.2) fun z hz=>fa iU (iV hn (bq ⟨Hd ⟨af5 l1,by show (cp p).length≤20;omega,af5 l3⟩,hz.2⟩)))) fun _=> ?_;refine bH (fun _=>fa h0 (fa iU (iV hn (bj (lW hb hy.2 (by decide)) fun z hz=> ?_)))) fun _=> ?_
 . obtain ⟨l,e,hl⟩:=V4 (n:=z.1.1.1) (by have:=hz.1;simp at this;omega)
   refine iV e (fa (aaa (by show (cp p).length+l.length≤bV;omega)) (fa iU (fa (by simp) (iV hn (bq ⟨Hd ⟨af5 l1, ?_,af5 l3⟩,hz.2⟩)))));show (cp p++l).length≤20;rw [aao];omega
 refine bH (fun _=>fa h0 (fa iU (iV hn (bj (b7 hb hy.2) fun z hz=>bj (b7 hb hz.2) fun z2 hz2=> ?_)))) fun _=> ?_
 . have z0:=hz.1.1
   have z4:z.1.1.1<4:=hz.1.2.1 (by decide);refine fa (aaa ⟨z0,by show z.1.1.1<(((aA p).length:Nat):Int);omega⟩) (iV (aaf (show z.1.1.1.toNat<(aA p).length by omega)) (bq ⟨Hd ⟨af5 l1,by show (cp p).length≤20;omega, ?_⟩,hz2.2⟩));show ((aA p).set _ _).length≤4;rw [aag];omega
 refine bH (fun _=>fa h0 (bj (b7 hb hy.2) fun z hz=>fa iU (iV hn (bq ⟨Hd ⟨af5 l1,by show (cp p).length≤20;omega,af5 l3⟩,hz.2⟩)))) fun _=> ?_;refine fa h0 (fa iU (iV hn ?_));rw [jc hn];refine fa (aaa (by simp only [aai,aat];omega)) (bq ⟨⟨T.pg,by rw [CW];omega,fun q hq=>(AD hq).elim (T.pr q) fun e=>by rw [e];exact T.pr p hp,T.os,T.RC,T.pi,T.nf,T.fi,T.rd,T.ou⟩,hy.2⟩)
theorem V5 {n:Int} (hb:b.length≤aS) (hi:0≤i) (hn:n≤1000):iq (aaq ((b,i,h,()),(n,()),())) fun y=>lk y.1.1∧0≤y.2.1.1:=by
 show iq (Out.eval (L3 _)) _;dsimp only [L3];refine bj (Hb hb hi hn) fun y hy=> ?_;obtain ⟨⟨⟨nx,tk,pg,ps,os,pi,fi,rd,ou,_⟩,_⟩,⟨⟨ui,uh,_⟩,_⟩⟩:=y;obtain ⟨hR,hu⟩:=hy;refine bj (Ay hb hu) fun z hz=>bH (fun _=>bq ⟨oD hR,hz⟩) fun _=> ?_;refine bH (fun h0=>bj (b7 hb hz) fun w hw=> ?_) fun h0=> ?_
 . have h0:((ps.length:Nat):Int)>0:=abH h0
   exact Hc hb hw.2 hR ⟨hw.1.1,fun _=>hw.1.2.1 h0⟩
 . have h0:¬ ((ps.length:Nat):Int)>0:=ahe h0
   exact Hc hb hz hR ⟨afK 0,fun e=>absurd (show ((ps.length:Nat):Int)>0 by have e:0<ps.length:=e;omega) h0⟩
end
end
section
open Go Go.ChangeShapes Go.WideShapes Go.ChangeAt Go.RowKit
section
variable {b:List Int} {i h:Int} {u:UT}
theorem V3.alS {nx tk:Int} {pg:List (List aw)} {ps:List af} {os:List ah} {pi fi:List ag} {rd ou:List Int} (T:V3 nx tk pg ps os pi fi rd ou) {k:Nat} {p p':af} (hp:ps[k]? =some p) (h1:(zN p').2.1=(zN p).2.1) (h2:cp p'=cp p) (h3:aA p'=aA p):V3 nx tk pg (ps.set k p') os pi fi rd ou:=
 ⟨T.pg,by rw [aag];exact T.np,fun q hq=>by
  rcases af4 hq with e|e
  . exact T.pr q e
  . rw [e,h1,h2,h3];exact T.pr p (aeJ hp),T.os,T.RC,T.pi,T.nf,T.fi,T.rd,T.ou⟩
abbrev ahV (x:FD):UT:=(x.2.2.1.1,x.2.2.1.2.1,x.2.2.2.2.2.2.2.2.2.2.1,x.2.2.2.2.2.2.2.2.2.2.2.1,x.2.2.2.2.2.2.2.2.2.2.2.2.1,x.2.2.2.2.2.2.2.2.2.2.2.2.2.1,x.2.2.2.2.2.2.2.2.2.2.2.2.2.2.1,x.2.2.2.2.2.2.2.2.2.2.2.2.2.2.2.1,x.2.2.2.2.2.2.2.2.2.2.2.2.2.2.2.2.1,())
abbrev V6:Type:=(Unit)×((Int×Int×Unit)×(Int×Int×Unit)×List (List aw)×List af×List ah×List ag×List ag×List Int×List Int×List (List aw)×List af×List ah×List ag×List ag×List Int×List Int×Unit)
abbrev ahW (x:V6):UT:=(x.2.2.1.1,x.2.2.1.2.1,x.2.2.2.2.2.2.2.2.2.2.1,x.2.2.2.2.2.2.2.2.2.2.2.1,x.2.2.2.2.2.2.2.2.2.2.2.2.1,x.2.2.2.2.2.2.2.2.2.2.2.2.2.1,x.2.2.2.2.2.2.2.2.2.2.2.2.2.2.1,x.2.2.2.2.2.2.2.2.2.2.2.2.2.2.2.1,x.2.2.2.2.2.2.2.2.2.2.2.2.2.2.2.2.1,())
theorem Ob (hb:b.length≤aS):iq (aar ((b,()),())) fun y=>lk y.1.1:=by
 have hB:aS=9223372036854775807:=rfl;show iq (Out.eval (L4 _)) _;dsimp only [L4];refine bj (JY hb) fun c hc=> ?_;have h0:0≤c.1.1.2.1:=by rw [hc.2];exact afK _
 rw [hc.1];refine bj (Ay hb h0) fun z hz=>bH (fun _=>bj (Ha hb) fun w hw=> ?_) fun _=>bj (Ha hb) fun w hw=> ?_
 . refine bj (V5 hb hz (by omega)) fun y hy=> ?_
   obtain ⟨⟨y,_⟩,_⟩:=y;exact bq hy.1
 refine bj (Hb hb hz (by omega)) fun y hy=> ?_;obtain ⟨⟨⟨nx,tk,pg,ps,os,pi,fi,rd,ou,_⟩,_⟩,_⟩:=y;have T:lk (nx,tk,pg,ps,os,pi,fi,rd,ou,()):=oD hy.1;refine bj (P:=fun x:V6=>lk (ahW x)) (lH (fun x=>0≤x.1.1∧x.1.1≤(x.2.2.2.2.2.2.2.2.2.2.2.1.length:Int)∧lk (ahV x)) (fun x=>x.2.2.2.2.2.2.2.2.2.2.2.1.length - x.1.1.toNat) _ (fun x hx=> ?_) _ _ ?_ ?_) fun x hx=> ?_
 . obtain ⟨⟨k,_⟩,⟨d1,d2,_⟩,⟨nx,tk,_⟩,e1,e2,e3,e4,e5,e6,e7,pg,ps,os,pi,fi,rd,ou,_⟩:=x
   obtain ⟨h1,h2,T⟩:=hx;simp only at h1 h2;have T:lk (nx,tk,pg,ps,os,pi,fi,rd,ou,()):=T;have hps:ps.length≤7:=T.np;dsimp only [RA];refine bH (fun h5=> ?_) (fun h5=>bq T);have h5:k<((ps.length:Nat):Int):=abH h5;have w:IntKind.i64.wrap (k+1)=k+1:=cS (by omega) (by omega);have iU:decide (0≤k∧k<((ps.length:Nat):Int))=true:=aaa ⟨h1,h5⟩;have hn:nth ps k.toNat=some (ps[k.toNat]'(by omega)):=aaf _;generalize ps[k.toNat]'(by omega)=p at hn;have fin:iq (Out.ite (decide (0≤k∧k<((ps.length:Nat):Int))) (.get (nth ps k.toNat) fun y3=> .ite (decide (0≤k∧k<((List.length (List.set ps (Int.toNat k) (y3.1,(y3.2.1,((3:Int),y3.2.2.2)))):Nat):Int)))
     (.get (nth (List.set ps (Int.toNat k) (y3.1,(y3.2.1,((3:Int),y3.2.2.2)))) (Int.toNat k)) fun y4=>
     .ret (Round.again (((IntKind.i64.wrap (k+(1:Int))),()),((d1,d2,()),(nx,tk,()),e1,e2,e3,e4,e5,e6,e7,pg,(List.set (List.set ps (Int.toNat k) (y3.1,(y3.2.1,((3:Int),y3.2.2.2)))) (Int.toNat k) (y4.1,(y4.2.1,(y4.2.2.1,(y4.2.2.2.1,(y4.2.2.2.2.1,(y4.2.2.2.2.2.1,(y4.2.2.2.2.2.2.1,((0:Int),y4.2.2.2.2.2.2.2.2))))))))),os,pi,fi,rd,ou,())))) .fail) .fail:Out (Round FD V6 Empty)).eval
     (JX (fun x'=>(0≤x'.1.1∧x'.1.1≤(x'.2.2.2.2.2.2.2.2.2.2.2.1.length:Int)∧lk (ahV x'))∧x'.2.2.2.2.2.2.2.2.2.2.2.1.length - x'.1.1.toNat<ps.length - k.toNat) (fun x:V6=>lk (ahW x)) fun _=>False):=by
    refine fa iU (iV hn (fa (aaa (by rw [aag];exact ⟨h1,h5⟩)) (iV (aH (by omega)) (bq ⟨⟨?_, ?_, ?_⟩, ?_⟩))))
    . simp only [w];omega
    . simp only [w,aag];omega
    . rw [List.set_set]
      exact T.alS hn rfl rfl rfl
    . simp only [w,aag];omega
   refine fa iU (iV hn (bH (fun _=>fa iU (iV hn (bH (fun _=>fin) fun _=>bq ?_))) fun _=>fin));exact ⟨⟨by simp only [w];omega,by simp only [w];omega,T⟩,by simp only [w];omega⟩
 . exact ⟨afK 0,by show (0:Int)≤((ps.length:Nat):Int);omega,T⟩
 . have:ps.length≤7:=T.np
   exact fL (by show ps.length - 0≤aS;omega)
 . obtain ⟨_,⟨d1,d2,_⟩,⟨nx,tk,_⟩,e1,e2,e3,e4,e5,e6,e7,pg,ps,os,pi,fi,rd,ou,_⟩:=x
   have T:lk (nx,tk,pg,ps,os,pi,fi,rd,ou,()):=hx;exact bq ⟨T.pg,T.np,T.pr,T.os,T.RC,T.pi,T.nf,T.fi,afO _,T.ou⟩
end
end
section
open Go Go.ChangeShapes Go.WideShapes Go.ChangeAt Go.RowKit
end
section
open Go Go.ChangeShapes Go.WideShapes Go.ChangeAt Go.RowKit
abbrev RD:=(List Int×List Int×Int×Unit)×(Unit)
def AE:RD→Out (Round RD ((Unit)×(Unit)) ((Bool×Unit)×(Unit)))
|((p0,p1,p2,_),_)=>
 .ite (decide (p2<((List.length p0:Nat):Int)))
 (.ite (decide (0≤p2))
 (.get (nth p0 (Int.toNat p2)) fun y1=>
 .ite (decide (0≤p2))
 (.get (nth p1 (Int.toNat p2)) fun y2=>
 .ite ((y1 != y2))
 (.ret (.ret ((false,()),())))
 (.ret (.again ((p0,p1,(IntKind.i64.wrap (p2+(1:Int))),()),()))))
 .fail)
 .fail)
 (.ret (.out ((),())))
def uU (a0:List Int) (a1:List Int):Out (((Bool×Unit)×Unit)×XI):=
 .ite ((((List.length a0:Nat):Int) != ((List.length a1:Nat):Int)))
 (.ret (((false,()),()),((),(),())))
 (.get (iter AE bn ((a0,a1,(0:Int),()),())) fun y1=> .alt y1 (fun _=>
 .ret (((true,()),()),((),(),()))) (fun y3=>
 .ret (((y3.1.1,()),()),((),(),()))))
def ahX:Nat→Option aq:=fun n=>bU [(0,⟨⟨[.ro (.int .i64) (some 0), .ro (.int .i64) (some 1), .dead, .dead, .dead, .i .i64]++dd 20,[]⟩,⟨dd 26,[]⟩,some ⟨dd 4++[.b]++dd 21,[]⟩,false⟩)] n
def Uu:bM:={ f:=18,lend:=true,aK:=[⟨false,false,[.ro (.int .i64)]⟩,⟨false,false,[.ro (.int .i64)]⟩],lay:=[none,none],rs:=[⟨false,false,[.b]⟩],F:=fun x=> .ret ((((eU x.1.1 x.2.1.1),()),()),((),(),())) }
theorem adO (x:az Uu.aK):bo [] ahX Tryz.f18 Uu [.tmp 4] x=uU x.1.1 x.2.1.1:=by kernel_rfl
theorem adP (hr:∀ x:(List Int×Unit)×(List Int×Unit)×Unit,aD Uu.aK x→(uU x.1.1 x.2.1.1).eval=(Uu.F x).eval):Uu.Ok Tryz.prog:=aU [] trivial adO fun x hw _ hy=>(hr x hw).trans hy
theorem J4:Uu.Ok Tryz.prog:=by
 refine adP fun x hw=> ?_;obtain ⟨⟨a,_⟩,⟨b,_⟩,_⟩:=x;have ha:a.length≤aS:=hw.1.1.1;show (uU a b).eval=some (((eU a b,()),()),((),((),())));unfold uU;by_cases hl:a.length=b.length
 . rw [ae (J5 hl)]
   have:=FE (f:=AE) a b (fun i=>((a,(b,(((i:Nat):Int),()))),())) (y:=((),())) (z:=((false,()),())) hl ha
    (fun i hi cU he=>by
     have:=ar (i:=i) (by omega);simp [AE,Out.eval,hi,cU,he,this])
    (fun i hi cU he=>by simp [AE,Out.eval,hi,cU,he,cond_eq_ite])
    (by simp [AE,Out.eval])
   refine (aa this).trans ?_;unfold eU;by_cases Gt:a=b
   . simp only [aaK Gt,aaa Gt];rfl
   . simp only [aap Gt,aae Gt];rfl
 . rw [ab (J6 hl)]
   have:eU a b=false:=aae fun e=>hl (by rw [e]);rw [this];rfl
abbrev RE:=(List ag×List ag×Int×Unit)×(Unit)
def xg:RE→Out (Round RE ((Unit)×(Unit)) ((Bool×Unit)×(Unit)))
|((p0,p1,p2,_),_)=>
 .ite (decide (p2<((List.length p0:Nat):Int)))
 (.ite (decide (0≤p2))
 (.get (nth p0 (Int.toNat p2)) fun y1=>
 .ite (decide (0≤p2))
 (.get (nth p1 (Int.toNat p2)) fun y2=>
 .ite (((y1.1 != y2.1))==false)
 (.ite (decide (0≤p2))
 (.get (nth p0 (Int.toNat p2)) fun y3=>
 .ite (decide (0≤p2))
 (.get (nth p1 (Int.toNat p2)) fun y4=>
 .ite (!(eU y3.2.1 y4.2.1))
 (.ret (.ret ((false,()),())))
 (.ret (.again ((p0,p1,(IntKind.i64.wrap (p2+(1:Int))),()),()))))
 .fail)
 .fail)
 (.ret (.ret ((false,()),()))))
 .fail)
 .fail)
 (.ret (.out ((),())))
def uV (a0:List ag) (a1:List ag):Out (((Bool×Unit)×Unit)×XI):=
 .ite ((((List.length a0:Nat):Int) != ((List.length a1:Nat):Int)))
 (.ret (((false,()),()),((),(),())))
 (.get (iter xg bn ((a0,a1,(0:Int),()),())) fun y1=> .alt y1 (fun _=>
 .ret (((true,()),()),((),(),()))) (fun y3=>
 .ret (((y3.1.1,()),()),((),(),()))))
def ahY:Nat→Option aq:=fun n=>bU [(0,⟨⟨[.ro ck (some 0), .ro ck (some 1), .dead, .dead, .dead, .i .i64]++dd 36,[]⟩,⟨dd 42,[]⟩,some ⟨dd 4++[.b]++dd 37,[]⟩,false⟩)] n
def k40:bM:={ f:=40,lend:=true,aK:=[⟨false,false,[.ro ck]⟩,⟨false,false,[.ro ck]⟩],lay:=[none,none],rs:=[⟨false,false,[.b]⟩],F:=fun x=> .ret ((((nH x.1.1 x.2.1.1),()),()),((),(),())) }
theorem adR (x:az k40.aK):bo [Uu] ahY Tryz.f40 k40 [.tmp 4] x=uV x.1.1 x.2.1.1:=by kernel_rfl
theorem adS (hr:∀ x:(List ag×Unit)×(List ag×Unit)×Unit,aD k40.aK x→(uV x.1.1 x.2.1.1).eval=(k40.F x).eval):k40.Ok Tryz.prog:=aU [Uu] ⟨J4,trivial⟩ adR fun x hw _ hy=>(hr x hw).trans hy
theorem adT:k40.Ok Tryz.prog:=by
 refine adS fun x hw=> ?_;obtain ⟨⟨a,_⟩,⟨b,_⟩,_⟩:=x;have ha:a.length≤aS:=hw.1.1.1;show (uV a b).eval=some (((nH a b,()),()),((),((),())));unfold uV;by_cases hl:a.length=b.length
 . rw [ae (J5 hl)]
   have:=FE (f:=xg) a b (fun i=>((a,(b,(((i:Nat):Int),()))),())) (y:=((),())) (z:=((false,()),())) hl ha
    (fun i hi cU he=>by
     have:=ar (i:=i) (by omega);simp [xg,Out.eval,hi,cU,he,this,eU])
    (fun i hi cU he=>by
     have hx:a[i]=(a[i].1,(a[i].2.1,())):=rfl;have hy:b[i]=(b[i].1,(b[i].2.1,())):=rfl;by_cases q1:a[i].1=b[i].1
     . have q2:¬ a[i].2.1=b[i].2.1:=fun q=>he (by rw [hx,hy,q1,q])
       simp [xg,Out.eval,hi,cU,q2,eU]
     . simp [xg,Out.eval,hi,cU,q1,cond_eq_ite])
    (by simp [xg,Out.eval])
   refine (aa this).trans ?_;unfold nH;by_cases Gt:a=b
   . simp only [aaK Gt,aaa Gt];rfl
   . simp only [aap Gt,aae Gt];rfl
 . rw [ab (J6 hl)]
   have:nH a b=false:=aae fun e=>hl (by rw [e]);rw [this];rfl
end
section
open Go Go.ChangeShapes Go.WideShapes Go.ChangeAt Go.RowKit
abbrev ahZ:=(t10×Unit)×(Unit×Unit)
abbrev RF:=(Int×Unit)×(bw×Unit)
def qh:RF→Out (Round RF ((Unit)×(Unit)) ((Bool×Unit)×(Unit)))
|((p0,_),(p1,p2,p3,p4,p5,p6,p7,p8,p9,_),_)=>
 .ite (decide (p0<((List.length p4:Nat):Int)))
 (.ite (decide (0≤p0))
 (.get (nth p4 (Int.toNat p0)) fun y1=>
 .ite (((y1.2.2.1==1))==false)
 (.ite (decide (0≤p0))
 (.get (nth p4 (Int.toNat p0)) fun y2=>
 .ite ((y2.2.2.1==2))
 (.ret (.ret ((false,()),())))
 (.ret (.again (((IntKind.i64.wrap (p0+1)),()),((p1,p2,p3,p4,p5,p6,p7,p8,p9,()),())))))
 .fail)
 (.ret (.ret ((false,()),()))))
 .fail)
 (.ret (.out ((),())))
def L5:t11×Unit→Out ahZ
|(a0,_)=>
 .ite ((!(dz a0.1 a0.2.1 a0.2.2.1 a0.2.2.2.1 a0.2.2.2.2.1 a0.2.2.2.2.2.1 a0.2.2.2.2.2.2.1 a0.2.2.2.2.2.2.2.1 a0.2.2.2.2.2.2.2.2.1))==false)
 (.ite ((((List.length a0.2.2.2.1:Nat):Int)==0))
 (.ret (((false,()),()),((),())))
 (.get (iter qh bn ((0,()),((a0.1,a0.2.1,a0.2.2.1,a0.2.2.2.1,a0.2.2.2.2.1,a0.2.2.2.2.2.1,a0.2.2.2.2.2.2.1,a0.2.2.2.2.2.2.2.1,a0.2.2.2.2.2.2.2.2.1,()),()))) fun y1=> .alt y1 (fun _=>
 .ret (((true,()),()),((),()))) (fun y3=>
 .ret (((y3.1.1,()),()),((),())))))
 (.ret (((false,()),()),((),())))
def aau (x:t11×Unit):=(L5 x).eval
def ah0:Nat→Option aq:=fun n=>bU [(0,⟨⟨[.dead, .vptr 64000000 0, .dead, .i .i64]++dd 32,[(64000000, .var [.i .i64, .i .i64, .ro (.sl b8) (some 0), .ro jr (some 1), .ro cH (some 2), .ro ck (some 3), .ro ck (some 4), .ro br (some 5), .ro br (some 6)])]⟩,⟨dd 36,[]⟩,some ⟨[.dead, .dead, .b]++dd 33,[]⟩,false⟩)] n
def k21:bM:=cw 21 true [i11] [none] [i10] L5
theorem adU:k21.Ok Tryz.prog:=bA eo [] [] [k54] ⟨Rf,trivial⟩ ah0 Tryz.f21 [.tmp 2] fun x=>by kernel_rfl
abbrev ah1:=(t10×Unit)×(Unit×Unit)
def L6:t15×Unit→Out ah1
|(a0,_)=>
 .ite (((a0.2.2.1==1))==false)
 (.ret (((((a0.2.2.1==2)),()),()),((),())))
 (.ret (((true,()),()),((),())))
def aav (x:t15×Unit):=(L6 x).eval
def k53:bM:=cw 53 true [i15] [none] [i10] L6
theorem adV:k53.Ok Tryz.prog:=bA eo [] [] [] trivial (fun _=>none) Tryz.f53 [.tmp 2] fun x=>by kernel_rfl
abbrev RG:=(t1×Unit)×(Unit×Unit)
abbrev CX:=XS×(Unit)
def jA (x:CX):Out (Round CX ((Unit)×(Unit)) ((Int×Unit)×(Unit))):=
 .ite (decide (x.1.2.2.1<x.1.2.1))
 (.ite (decide (0≤x.1.2.2.1))
 (.get (nth x.1.1 (Int.toNat x.1.2.2.1)) fun y1=>
 .get (aav ((y1.1,y1.2.1,y1.2.2.1,y1.2.2.2.1,y1.2.2.2.2.1.1,y1.2.2.2.2.1.2.1,y1.2.2.2.2.2),())) fun ((b9,_),_)=>
 .ite b9.1
 (.ret (.ret ((x.1.2.2.1,()),())))
 (.ret (.again ((x.1.1,x.1.2.1,(IntKind.i64.wrap (x.1.2.2.1+1)),()),()))))
 .fail)
 (.ret (.out ((),())))
def uW:t31×Unit→Out RG
|(a0,_)=>
 .get (iter jA bn ((a0.1,((List.length a0.1:Nat):Int),0,()),())) fun y1=> .alt y1 (fun _=>
 .ret (((-1,()),()),((),()))) (fun y3=>
 .ret (((y3.1.1,()),()),((),())))
def He (x:t31×Unit):=(uW x).eval
def RH:Nat→Option aq:=fun n=>bU [(0,⟨⟨[.ro jr (some 0), .fn 53 []]++dd 5++[.i .i64, .i .i64]++dd 10,[]⟩,⟨dd 19,[]⟩,some ⟨dd 4++[.i .i64]++dd 14,[]⟩,false⟩)] n
def RI:bM:=cw 134 true [i31] [none,some (53,0)] [i1] uW
theorem Oc:RI.Ok Tryz.prog:=bA eo [] [] [k53] ⟨adV,trivial⟩ RH Tryz.f134 [.tmp 4] fun x=>by kernel_rfl
abbrev V7:=(t10×Unit)×(Unit×Unit)
def zo:t31×Unit→Out V7
|(a0,_)=>
 .get (He (a0,())) fun ((eu,_),_)=>
 .ret ((((decide (eu.1≥(0:Int))),()),()),((),()))
def L7 (x:t31×Unit):=(zo x).eval
def aaw:bM:=cw 52 true [i31] [none,some (53,0)] [i10] zo
theorem RJ:aaw.Ok Tryz.prog:=bA eo [] [] [RI] ⟨Oc,trivial⟩ (fun _=>none) Tryz.f52 [.tmp 4] fun x=>by kernel_rfl
abbrev ah2:=(t10×Unit)×(Unit×Unit)
def L8:t11×Unit→Out ah2
|(a0,_)=>
 .get (kr a0.1 a0.2.1 a0.2.2.1 a0.2.2.2.1 a0.2.2.2.2.1 a0.2.2.2.2.2.1 a0.2.2.2.2.2.2.1 a0.2.2.2.2.2.2.2.1 a0.2.2.2.2.2.2.2.2.1) fun y1=>
 .ite (y1==true)
 (.ite ((decide (((List.length a0.2.2.2.1:Nat):Int)>0))==true)
 (.get (L7 ((a0.2.2.2.1,()),())) fun ((b9,_),_)=>
 .ret ((((!b9.1),()),()),((),())))
 (.ret (((false,()),()),((),()))))
 (.ret (((false,()),()),((),())))
def L9 (x:t11×Unit):=(L8 x).eval
def k20:bM:=cw 20 true [i11] [none] [i10] L8
theorem adW:k20.Ok Tryz.prog:=bA eo [] [] [PD,aaw] ⟨zM,RJ,trivial⟩ (fun _=>none) Tryz.f20 [.tmp 2] fun x=>by kernel_rfl
abbrev ah3:=(t10×Unit)×XI
def Ma:t15×t15×Unit→Out ah3
|(a0,a1,_)=>
 .ite (((a0.1==a1.1))==true)
 (.ite (((a0.2.1==a1.2.1))==true)
 (.ite (((a0.2.2.1==a1.2.2.1))==true)
 (.ite (((a0.2.2.2.1==a1.2.2.2.1))==true)
 (.ite (((a0.2.2.2.2.1==a1.2.2.2.2.1))==true)
 (.ite ((eU a0.2.2.2.2.2.1 a1.2.2.2.2.2.1)==true)
 (.ite ((eU a0.2.2.2.2.2.2.1 a1.2.2.2.2.2.2.1)==true)
 (.ite ((eU a0.2.2.2.2.2.2.2.1 a1.2.2.2.2.2.2.2.1)==true)
 (.ite (((a0.2.2.2.2.2.2.2.2.1==a1.2.2.2.2.2.2.2.2.1))==true)
 (.ret (((((a0.2.2.2.2.2.2.2.2.2.1==a1.2.2.2.2.2.2.2.2.2.1)),()),()),((),(),())))
 (.ret (((false,()),()),((),(),()))))
 (.ret (((false,()),()),((),(),()))))
 (.ret (((false,()),()),((),(),()))))
 (.ret (((false,()),()),((),(),()))))
 (.ret (((false,()),()),((),(),()))))
 (.ret (((false,()),()),((),(),()))))
 (.ret (((false,()),()),((),(),()))))
 (.ret (((false,()),()),((),(),()))))
 (.ret (((false,()),()),((),(),())))
def aax (x:t15×t15×Unit):=(Ma x).eval
def k42:bM:=cw 42 true [i15,i15] [none,none] [i10] Ma
theorem adX:k42.Ok Tryz.prog:=bA eo [] [] [Uu] ⟨J4,trivial⟩ (fun _=>none) Tryz.f42 [.tmp 4] fun x=>by kernel_rfl
abbrev ah4:=(t10×Unit)×XI
abbrev RK:=(List aw×List aw×Int×Unit)×(Unit)
def xh:RK→Out (Round RK ((Unit)×(Unit)) ((Bool×Unit)×(Unit)))
|((p0,p1,p2,_),_)=>
 .ite (decide (p2<((List.length p0:Nat):Int)))
 (.ite (decide (0≤p2))
 (.get (nth p0 (Int.toNat p2)) fun y1=>
 .ite (decide (0≤p2))
 (.get (nth p1 (Int.toNat p2)) fun y2=>
 .ite (!((y1.1==y2.1)&&((y1.2.1==y2.2.1)&&((y1.2.2.1==y2.2.2.1)&&((y1.2.2.2.1==y2.2.2.2.1)&&true)))))
 (.ret (.ret ((false,()),())))
 (.ret (.again ((p0,p1,(IntKind.i64.wrap (p2+1)),()),()))))
 .fail)
 .fail)
 (.ret (.out ((),())))
def Mb:t8×t8×Unit→Out ah4
|(a0,a1,_)=>
 .ite ((((List.length a0.1:Nat):Int) != ((List.length a1.1:Nat):Int)))
 (.ret (((false,()),()),((),(),())))
 (.get (iter xh bn ((a0.1,a1.1,0,()),())) fun y1=> .alt y1 (fun _=>
 .ret (((true,()),()),((),(),()))) (fun y3=>
 .ret (((y3.1.1,()),()),((),(),()))))
def aay (x:t8×t8×Unit):=(Mb x).eval
def ah5:Nat→Option aq:=fun n=>bU [(0,⟨⟨[.ro b8 (some 0), .ro b8 (some 1), .dead, .dead, .dead, .i .i64]++dd 20,[]⟩,⟨dd 26,[]⟩,some ⟨dd 4++[.b]++dd 21,[]⟩,false⟩)] n
def k41:bM:=cw 41 true [i8,i8] [none,none] [i10] Mb
theorem adY:k41.Ok Tryz.prog:=bA eo [] [] [] trivial ah5 Tryz.f41 [.tmp 4] fun x=>by kernel_rfl
end
section
open Go Go.ChangeShapes Go.WideShapes Go.ChangeAt Go.RowKit
section
variable {nx tk k b c:Int} {pg:List (List aw)} {ps:List af} {os:List ah} {pi fi:List ag} {rd ou l:List Int} {p:af} {u u' v:UT}
abbrev Mc (u:UT):Option (((Bool×Unit)×Unit)×(UT×Unit×Unit)):=some (((true,()),()),(u,(),()))
theorem CZ:∀ {rd:List Int},k∈rd→∃ j,rd.findIdx? (fun y=>k==y)=some j∧j<rd.length∧rd.take j++rd.drop (j+1)=rd.erase k
 |[],h=>by simp at h
 |y::r,h=>by
  rw [List.findIdx?_cons,List.erase_cons];by_cases e:k=y
  . subst e
    exact ⟨0,by simp,by simp,by simp⟩
  . have e':¬ y=k:=fun q=>e q.symm
    have hr:k∈r:=by simpa [e] using h
    obtain ⟨j,h1,h2,h3⟩:=CZ hr;refine ⟨j+1,by simp [e,h1],by simp only [aai];omega, ?_⟩;rw [aap (by simpa using e'), ← h3];rfl
theorem RL (hm:k∈rd) (hl:rd.length≤1000):mB ((nx,tk,pg,ps,os,pi,fi,rd,ou,()),(22,k,b,c,l,()),())=Mc (nx,tk,pg,ps,os,pi,fi,rd.erase k,ou,()):=by
 obtain ⟨j,h1,h2,h3⟩:=CZ hm;have hi:gS rd k=(j:Int):=by unfold gS;rw [h1];rfl
 have hw:IntKind.i64.wrap ((j:Int)+1)=((j+1:Nat):Int):=ar (by have hB:aS=9223372036854775807:=rfl;omega);have hd:oh rd (j:Int) ((j+1:Nat):Int)=some (rd.erase k):=by
  unfold oh;rw [aaK (by omega),aaH,aaH,h3]
 have key:tz ((nx,tk,pg,ps,os,pi,fi,rd,ou,()),(22,k,b,c,l,()),())=Mc (nx,tk,pg,ps,os,pi,fi,rd.erase k,ou,()):=by
  show Out.eval (pM _)=_;dsimp only [pM];rw [hi,hw]
  repeat' (first
   |refine (ae (by first|assumption|exact aae (by omega)|exact aO (by omega)|exact aZ (by omega)|rfl|fail)).trans ?_
   |refine (ab (by first|assumption|exact aaa (by omega)|exact aJ (by omega)|exact aY (by omega)|rfl|exact aaP _|exact aaa (by simp only [aaL,aao,aai,aat,aag];omega)|fail)).trans ?_
   |refine (aa (by first|assumption|exact aH (by first|omega|(simp only [aag];omega))|fail)).trans ?_)
  rfl
 show Out.eval (tc _)=_;dsimp only [tc]
 repeat' (first
  |refine (ae (by first|assumption|exact aae (by omega)|exact aO (by omega)|exact aZ (by omega)|rfl|fail)).trans ?_
  |refine (ab (by first|assumption|exact aaa (by omega)|exact aJ (by omega)|exact aY (by omega)|rfl|exact aaP _|exact aaa (by simp only [aaL,aao,aai,aat,aag];omega)|fail)).trans ?_
  |refine (aa (by first|assumption|exact aH (by first|omega|(simp only [aag];omega))|fail)).trans ?_)
 rfl
theorem AF (hl:rd.length<6):mB ((nx,tk,pg,ps,os,pi,fi,rd,ou,()),(21,k,b,c,l,()),())=Mc (nx,tk,pg,ps,os,pi,fi,rd++[k],ou,()):=by
 have hL:bV=68719476736:=rfl;have key:tz ((nx,tk,pg,ps,os,pi,fi,rd,ou,()),(21,k,b,c,l,()),())=Mc (nx,tk,pg,ps,os,pi,fi,rd++[k],ou,()):=by
  show Out.eval (pM _)=_;dsimp only [pM]
  repeat' (first
   |refine (ae (by first|assumption|exact aae (by omega)|exact aO (by omega)|exact aZ (by omega)|rfl|fail)).trans ?_
   |refine (ab (by first|assumption|exact aaa (by omega)|exact aJ (by omega)|exact aY (by omega)|rfl|exact aaP _|exact aaa (by simp only [aai,aat];omega)|fail)).trans ?_
   |refine (aa (by first|assumption|exact aH (by first|omega|(simp only [aag];omega))|fail)).trans ?_)
  rfl
 show Out.eval (tc _)=_;dsimp only [tc]
 repeat' (first
  |refine (ae (by first|assumption|exact aae (by omega)|exact aO (by omega)|exact aZ (by omega)|rfl|fail)).trans ?_
  |refine (ab (by first|assumption|exact aaa (by omega)|exact aJ (by omega)|exact aY (by omega)|rfl|exact aaP _|exact aaa (by simp only [aaL,aao,aai,aat,aag];omega)|fail)).trans ?_
  |refine (aa (by first|assumption|exact aH (by first|omega|(simp only [aag];omega))|fail)).trans ?_)
 rfl
theorem RM (h0:0≤tk) (hl:tk<1000000):mB ((nx,tk,pg,ps,os,pi,fi,rd,ou,()),(24,k,b,c,l,()),())=Mc (nx,tk+1,pg,ps,os,pi,fi,rd,ou,()):=by
 have hw:IntKind.i64.wrap (tk+1)=tk+1:=cS (by omega) (by omega);have key:tz ((nx,tk,pg,ps,os,pi,fi,rd,ou,()),(24,k,b,c,l,()),())=Mc (nx,tk+1,pg,ps,os,pi,fi,rd,ou,()):=by
  show Out.eval (pM _)=_;dsimp only [pM];rw [hw]
  repeat' (first
   |refine (ae (by first|assumption|exact aae (by omega)|exact aO (by omega)|exact aZ (by omega)|rfl|fail)).trans ?_
   |refine (ab (by first|assumption|exact aaa (by omega)|exact aJ (by omega)|exact aY (by omega)|rfl|exact aaP _|exact aaa (by simp only [aaL,aao,aai,aat,aag];omega)|fail)).trans ?_
   |refine (aa (by first|assumption|exact aH (by first|omega|(simp only [aag];omega))|fail)).trans ?_)
  rfl
 show Out.eval (tc _)=_;dsimp only [tc]
 repeat' (first
  |refine (ae (by first|assumption|exact aae (by omega)|exact aO (by omega)|exact aZ (by omega)|rfl|fail)).trans ?_
  |refine (ab (by first|assumption|exact aaa (by omega)|exact aJ (by omega)|exact aY (by omega)|rfl|exact aaP _|exact aaa (by simp only [aaL,aao,aai,aat,aag];omega)|fail)).trans ?_
  |refine (aa (by first|assumption|exact aH (by first|omega|(simp only [aag];omega))|fail)).trans ?_)
 rfl
theorem C3 (h:bS ao ps) (hp:p∈ps):mB ((nx,tk,pg,ps,os,pi,fi,rd,ou,()),(3,p.1,b,c,l,()),())=Mc (nx,tk,pg,bO ps p.1 (kS b c),os,pi,fi,rd,ou,()):=by
 obtain ⟨i,hi,bZ,hn⟩:=bD h hp;have cU:ak ps p.1=(i:Int):=hi;have nz:nth ps i=some p:=hn;have key:Jf ((nx,tk,pg,ps,os,pi,fi,rd,ou,()),((i:Int),()),(3,p.1,b,c,l,()),())=some (((true,()),()),((nx,tk,pg,bO ps p.1 (kS b c),os,pi,fi,rd,ou,()),(),(),())):=by
  show Out.eval (D3 _)=_;rw [show bO ps p.1 (kS b c)=ps.set i ((kS b c) p) from (fk h hn _ rfl).symm];dsimp only [D3];simp only [aaH]
  repeat' (first
   |refine (ae (by first|assumption|exact aae (by omega)|exact aO (by omega)|exact aZ (by omega)|rfl|fail)).trans ?_
   |refine (ab (by first|assumption|exact aaa (by omega)|exact aJ (by omega)|exact aY (by omega)|rfl|exact aaP _|exact aaa (by simp only [aaL,aao,aai,aat,aag];omega)|fail)).trans ?_
   |refine (aa (by first|assumption|exact aH (by first|omega|(simp only [aag];omega))|fail)).trans ?_)
  simp only [List.set_set];rfl
 show Out.eval (tc _)=_;dsimp only [tc]
 repeat' (first
  |refine (ae (by first|assumption|exact aae (by omega)|exact aO (by omega)|exact aZ (by omega)|rfl|fail)).trans ?_
  |refine (ab (by first|assumption|exact aaa (by omega)|exact aJ (by omega)|exact aY (by omega)|rfl|exact aaP _|exact aaa (by simp only [aaL,aao,aai,aat,aag];omega)|fail)).trans ?_
  |refine (aa (by first|assumption|exact aH (by first|omega|(simp only [aag];omega))|fail)).trans ?_)
 dsimp only [mX];rw [cU];refine (aa key).trans ?_;rfl
end
end
section
open Go Go.ChangeShapes Go.WideShapes Go.ChangeAt Go.RowKit
section
variable {x tl:Int} {u u' v:UT} {p:af} {l l':List ET} {e:ET}
theorem Hf (h:mB (u,e,())=Mc u') (hl:l.length≤100000):CA (gb u l,e,())=some ((),(gb u' (l++[e]),(),())):=by
 have hL:bV=68719476736:=rfl;show Out.eval (K8 _)=_;dsimp only [K8];refine (ab (aaa (by simp only [aai,aat];omega))).trans ?_;refine (aa h).trans ?_;rfl
theorem RN (h:bS ao (bu u)) (hp:p∈bu u) {s t:Int} (hl:l.length≤100000):PA (gb u l,(p.1,()),(s,()),(t,()),())=some ((),(gb (de p.1 (kS s t) u) (l++[eE 3 p.1 s t]),(),(),(),())):=by
 show Out.eval (Ed _)=_;dsimp only [Ed];refine (aa (Hf (u':=de p.1 (kS s t) u) (C3 h hp) hl)).trans ?_;rfl
theorem V8 (h:aN x tl u) (hp:p∈bu u) (h1:cQ p≠1) (hl:l.length≤99990):PB (gb u l,(p.1,()),())=some ((),(gb (gB p.1 u) (mF p.1 l),(),())):=by
 show Out.eval (Ee _)=_;dsimp only [Ee];refine (aa (RN h.cT hp (by omega))).trans ?_;refine (aa (Hf (u:=de p.1 (kS 1 0) u) (u':=gB p.1 u) (AF (QJ h hp h1)) (by rw [bc];omega))).trans ?_;rfl
inductive Ch:UT→List ET→UT→Prop
 |nil (u:UT):Ch u [] u
 |cons {u u1 u':UT} {e:ET} {l:List ET}:mB (u,e,())=Mc u1→Ch u1 l u'→Ch u (e::l) u'
theorem Ch.snoc {e:ET} {u' w:UT} (h':mB (u',e,())=Mc w):∀ {l:List ET} {u:UT},Ch u l u'→Ch u (l++[e]) w
 |_,_, .nil _=> .cons h' (.nil _)
 |_,_, .cons h1 h=> .cons h1 (h.snoc h')
def Md (u:UT) (e:ET):UT:=match mB (u,e,()) with
 |some (_,(u',_))=>u'
 |none=>u
theorem AG (h:mB (u,e,())=Mc u'):Md u e=u':=by unfold Md;rw [h]
theorem Ch.fold:∀ {l:List ET} {u u':UT},Ch u l u'→l.foldl Md u=u'
 |_,_,_, .nil _=>rfl
 |_,_,_, .cons h1 h=>by rw [ade,AG h1];exact h.fold
theorem uX {α β σ:Type} {f:σ→Out (Round σ β Empty)} (a:List α) (S:List α→Nat→σ) (y:List α→β) (ha:a.length≤1000)
  (hs:∀ i (hi:i<a.length) (acc:List α),acc.length=i→(f (S acc i)).eval=some (.again (S (acc++[a[i]]) (i+1))))
  (hy:∀ acc,(f (S acc a.length)).eval=some (.out (y acc))):b5 f bn (S [] 0)=some (y a):=by
 have hB:aS=9223372036854775807:=rfl;have h:=foldl_loop (f:=f) (fun (acc:List α) i=>acc.length=i) (fun acc y=>acc++[y]) a S y hs (fun acc _=>hy acc) (fun i hi acc e=>by rw [aao,e];rfl) (by omega) [] rfl;rw [fl,aaL] at h;exact h
theorem ju {α:Type} {a:List α} (h:a.length≤1000):dO a=some a:=aaK (by have hL:bV=68719476736:=rfl;omega)
theorem RO {pg:List (List aw)} (h:cD pg=true):Pr ((pg,()),())=some (((pg,()),()),((),())):=by
 unfold cD at h;simp only [aaE,ack] at h;have hL:bV=68719476736:=rfl;have hB:aS=9223372036854775807:=rfl;have h1:=uX (f:=wB) pg (fun acc i=>((pg,((pg.length:Nat):Int),(i:Int),()),(acc,()))) (fun acc=>((),(acc,()))) (by omega) (fun i hi acc ha=> ?_) (fun acc=> ?_)
 . show Out.eval (KY _)=_
   dsimp only [KY];exact (aa h1).trans rfl
 . have hn:nth pg i=some pg[i]:=aaf hi
   have hw:IntKind.i64.wrap ((i:Int)+1)=((i+1:Nat):Int):=ar (by omega);have hp:=nF (aa1.1 h.2 _ (acD hi));show Out.eval (wB _)=_;dsimp only [wB];simp only [aaH,hw];refine (ab (aaa (by omega))).trans ?_;refine (ab (aaa (by omega))).trans ?_;refine (aa hn).trans ?_;refine (aa (ju (by omega))).trans ?_;refine (ab (aaa (by simp only [aai,aat];omega))).trans ?_;rfl
 . show Out.eval (wB _)=_
   dsimp only [wB];refine (ae (aae (by omega))).trans ?_;rfl
theorem RP {fi:List ag} (h:fi.length≤1000) (hd:∀ y∈fi,y.2.1.length≤1000):Pp ((fi,()),())=some (((fi,()),()),((),())):=by
 have hL:bV=68719476736:=rfl;have hB:aS=9223372036854775807:=rfl;have h1:=uX (f:=qS) fi (fun acc i=>((fi,((fi.length:Nat):Int),(i:Int),()),(acc,()))) (fun acc=>((),(acc,()))) h (fun i hi acc ha=> ?_) (fun acc=> ?_)
 . show Out.eval (D2 _)=_
   dsimp only [D2];exact (aa h1).trans rfl
 . have hn:nth fi i=some fi[i]:=aaf hi
   have hw:IntKind.i64.wrap ((i:Int)+1)=((i+1:Nat):Int):=ar (by omega);have hp:=hd _ (acD hi);show Out.eval (qS _)=_;dsimp only [qS];simp only [aaH,hw];refine (ab (aaa (by omega))).trans ?_;refine (ab (aaa (by omega))).trans ?_;refine (aa hn).trans ?_;refine (aa (ju hp)).trans ?_;refine (ab (aaa (by simp only [aai,aat];omega))).trans ?_;rfl
 . show Out.eval (qS _)=_
   dsimp only [qS];refine (ae (aae (by omega))).trans ?_;rfl
theorem Me (h:aN x tl u):D9 (u,())=some ((u,()),((),())):=by
 have hL:bV=68719476736:=rfl;have hB:aS=9223372036854775807:=rfl;have lU:=nA h;have Gs:=uN h;have qQ:=xR h;have Fm:=pZ h;have yN:=h.yN.1;have CH:=h.np;have uv:=RO h.uv;have hpc:=fun (p:af) (hp:p∈bu u)=>xb h hp;have hpd:=fun (y:ag) (hy:y∈uM u)=>(h.uw y hy).data.1;have BO:=fun (y:ag) (hy:y∈uy u)=>(jz h hy).1;obtain ⟨nx,tk,pg,ps,os,pi,fi,rd,ou,_⟩:=u;have lU:os.length≤1000:=aa3 lU (by omega);have Gs:pi.length≤1000:=aa3 Gs (by omega);have qQ:fi.length≤1000:=aa3 qQ (by omega);have Fm:rd.length≤1000:=aa3 Fm (by omega);have yN:ou.length≤1000:=aa3 yN (by omega);have CH:ps.length≤1000:=aa3 CH (by omega);have uv:Pr ((pg,()),())=some (((pg,()),()),((),())):=uv;have hff:=RP qQ (fun y hy=>aa3 (BO y hy) (by omega));have h0:=uX (f:=qU) ps
  (fun acc i=>((ps,((ps.length:Nat):Int),(i:Int),()),((nx,tk,pg,ps,os,pi,fi,rd,ou,()),(0,0,()),(nx,tk,()),([]:List (List aw)),([]:List af),([]:List ah),([]:List ag),([]:List ag),([]:List Int),([]:List Int),pg,acc,os,([]:List ag),fi,rd,ou,())))
  (fun acc=>((),((nx,tk,pg,ps,os,pi,fi,rd,ou,()),(0,0,()),(nx,tk,()),([]:List (List aw)),([]:List af),([]:List ah),([]:List ag),([]:List ag),([]:List Int),([]:List Int),pg,acc,os,([]:List ag),fi,rd,ou,()))) CH (fun i hi acc ha=> ?_) (fun acc=> ?_)
 . have h2:=uX (f:=qV) pi
    (fun acc i=>((pi,((pi.length:Nat):Int),(i:Int),()),((0,0,()),(nx,tk,()),([]:List (List aw)),([]:List af),([]:List ah),([]:List ag),([]:List ag),([]:List Int),([]:List Int),pg,ps,os,acc,fi,rd,ou,())))
    (fun acc=>((),((0,0,()),(nx,tk,()),([]:List (List aw)),([]:List af),([]:List ah),([]:List ag),([]:List ag),([]:List Int),([]:List Int),pg,ps,os,acc,fi,rd,ou,()))) Gs (fun i hi acc ha=> ?_) (fun acc=> ?_)
   . show Out.eval (D8 _)=_
     dsimp only [D8];refine (aa uv).trans ?_;refine (aa (ju lU)).trans ?_;refine (aa hff).trans ?_;refine (aa (ju Fm)).trans ?_;refine (aa (ju yN)).trans ?_;refine (aa h0).trans ?_;refine (aa h2).trans ?_;rfl
   . have hn:nth pi i=some pi[i]:=aaf hi
     have hw:IntKind.i64.wrap ((i:Int)+1)=((i+1:Nat):Int):=ar (by omega);have hd:=hpd _ (acD hi);show Out.eval (qV _)=_;dsimp only [qV];simp only [aaH,hw];refine (ab (aaa (by omega))).trans ?_;refine (ab (aaa (by omega))).trans ?_;refine (aa hn).trans ?_;refine (aa (ju (aa3 hd (by omega)))).trans ?_;refine (ab (aaa (by simp only [aai,aat];omega))).trans ?_;rfl
   . show Out.eval (qV _)=_
     dsimp only [qV];refine (ae (aae (by omega))).trans ?_;rfl
 . have hn:nth ps i=some ps[i]:=aaf hi
   have hw:IntKind.i64.wrap ((i:Int)+1)=((i+1:Nat):Int):=ar (by omega);show Out.eval (qU _)=_;dsimp only [qU];simp only [aaH,hw];refine (ab (aaa (by omega))).trans ?_;refine (ab (aaa (by omega))).trans ?_;refine (aa hn).trans ?_;refine (aa (hpc _ (acD hi))).trans ?_;refine (ab (aaa (by simp only [aai,aat];omega))).trans ?_;rfl
 . show Out.eval (qU _)=_
   dsimp only [qU];refine (ae (aae (by omega))).trans ?_;rfl
theorem RQ (h:aN x tl u) (hc:Ch u l u') (hl:l.length≤100000):Py (u,(l,()),())=some ((u',(true,()),()),((),(),())):=by
 have hB:aS=9223372036854775807:=rfl;have h1:=foldl_loop (f:=wE) (fun (w:UT) i=>Ch w (l.drop i) u') Md l
  (fun w i=>((true,l,((l.length:Nat):Int),(i:Int),()),((0,0,()),(w.1,w.2.1,()),([]:List (List aw)),([]:List af),([]:List ah),([]:List ag),([]:List ag),([]:List Int),([]:List Int),w.2.2.1,w.2.2.2.1,w.2.2.2.2.1,w.2.2.2.2.2.1,w.2.2.2.2.2.2.1,w.2.2.2.2.2.2.2.1,w.2.2.2.2.2.2.2.2.1,())))
  (fun w=>((true,()),((0,0,()),(w.1,w.2.1,()),([]:List (List aw)),([]:List af),([]:List ah),([]:List ag),([]:List ag),([]:List Int),([]:List Int),w.2.2.1,w.2.2.2.1,w.2.2.2.2.1,w.2.2.2.2.2.1,w.2.2.2.2.2.2.1,w.2.2.2.2.2.2.2.1,w.2.2.2.2.2.2.2.2.1,())))
  (fun i hi w hw=> ?_) (fun w _=> ?_) (fun i hi w hw=> ?_) (by omega) u hc
 . rw [hc.fold] at h1
   show Out.eval (K7 _)=_;dsimp only [K7];refine (aa (Me h)).trans ?_;refine (aa h1).trans ?_;rfl
 . rw [acN hi] at hw
   have hn:nth l i=some l[i]:=aaf hi;have hw':IntKind.i64.wrap ((i:Int)+1)=((i+1:Nat):Int):=ar (by omega);cases hw with
   |cons h1 h2=>
    rw [AG h1];show Out.eval (wE _)=_;dsimp only [wE];simp only [aaH,hw'];refine (ab (aaa (by omega))).trans ?_;refine (ab (aaa (by omega))).trans ?_;refine (aa hn).trans ?_;refine (aa h1).trans ?_;rfl
 . show Out.eval (wE _)=_
   dsimp only [wE];refine (ae (aae (by omega))).trans ?_;rfl
 . rw [acN hi] at hw
   cases hw with
   |cons h1 h2=>rw [AG h1];exact h2
end
end
section
open Go Go.ChangeShapes Go.WideShapes Go.ChangeAt Go.RowKit
section
variable {x tl tk:Int} {u u0 u' v:UT} {p:af} {l l':List ET} {e:ET}
theorem Hg (h:(m8 u).length≤1000):kr u.1 u.2.1 u.2.2.1 u.2.2.2.1 u.2.2.2.2.1 u.2.2.2.2.2.1 u.2.2.2.2.2.2.1 u.2.2.2.2.2.2.2.1 u.2.2.2.2.2.2.2.2.1=some (dz u.1 u.2.1 u.2.2.1 u.2.2.2.1 u.2.2.2.2.1 u.2.2.2.2.2.1 u.2.2.2.2.2.2.1 u.2.2.2.2.2.2.2.1 u.2.2.2.2.2.2.2.2.1):=by
 have hL:bV=68719476736:=rfl;unfold kr;rw [aaK (show (m8 u).length≤bV by omega),Od]
theorem V9 (h:aN x tl u) (hp:p∈bu u) (h1:cQ p≠1) (hc:Ch u0 l u):Ch u0 (mF p.1 l) (gB p.1 u):=Ch.snoc (AF (QJ h hp h1)) (Ch.snoc (C3 h.cT hp) hc)
theorem na {r:List af}:ei tk (p::r)=if kX tk p=true then p.1::ei tk r else ei tk r:=by
 unfold ei;rw [afT];split<;>rfl
def uY (tk:Int) (d:UT×List ET) (p:af):UT×List ET:=if kX tk p=true then (gB p.1 d.1,mF p.1 d.2) else d
theorem C4:∀ (ps:List af) (d:UT×List ET),(ps.foldl (uY tk) d).1=gj (ei tk ps) d.1
 |[],_=>rfl
 |p::r,d=>by
  rw [ade,C4 r,na];by_cases q:kX tk p=true
  . rw [aaK q];unfold uY;rw [aaK q];rfl
  . rw [aap q];unfold uY;rw [aap q]
theorem foldl_keeps {α δ:Type} (P:δ→Nat→Prop) (g:δ→α→δ):∀ (a:List α) (n:Nat) (l:δ),(∀ i (hi:i<a.length) l,P l (n+i)→P (g l a[i]) (n+i+1))→P l n→P (a.foldl g l) (n+a.length)
 |[],_,_,_,h=>h
 |y::r,n,l,hs,h=>by
  have:=foldl_keeps P g r (n+1) (g l y) (fun i hi l hl=>by
   have:=hs (i+1) (by simp only [aai];omega) l (by rw [show n+(i+1)=n+1+i by omega];exact hl);rw [show n+(i+1)+1=n+1+i+1 by omega] at this;exact this) (hs 0 (by simp) l h)
  rw [show n+1+r.length=n+(y::r).length by simp only [aai];omega] at this;exact this
abbrev Mf (z:af):Int×Int×Int×Int×(Int×Unit×Unit)×Unit×Unit×Int×Int×Unit:=(z.1,z.2.1,z.2.2.1,z.2.2.2.1,(z.2.2.2.2.1.1,(),()),(),(),z.2.2.2.2.2.2.2.1,z.2.2.2.2.2.2.2.2.1,())
theorem aaz (h:aN x tl u) (hc:Ch u0 l u) (hl:l.length≤99900):∃ l',(Ef u.1 u.2.1 u.2.2.1 u.2.2.2.1 u.2.2.2.2.1 u.2.2.2.2.2.1 u.2.2.2.2.2.2.1 u.2.2.2.2.2.2.2.1 u.2.2.2.2.2.2.2.2.1 l).eval=some (((l',()),()),((),()))∧Ch u0 l' (upU u)∧l'.length≤l.length+12:=by
 have hB:aS=9223372036854775807:=rfl;have CH:(bu u).length≤6:=h.np
 let Q:UT×List ET→Nat→Prop:=fun d i=>aN x tl d.1∧kV (ei u.2.1 ((bu u).drop i)) d.1∧d.1.2.1=u.2.1∧Ch u0 d.2 d.1∧d.2.length≤l.length+2*i
 have hQ0:Q (u,l) 0:=⟨h,kY h u.2.1,rfl,hc,abD _⟩
 have hQs:∀ i (hi:i<(bu u).length) d,Q d i→Q (uY u.2.1 d (bu u)[i]) (i+1):=by
  intro i hi d hd;obtain ⟨hI,hA,hT,hC,hn⟩:=hd;rw [acN hi,na] at hA;unfold uY;by_cases q:kX u.2.1 (bu u)[i]=true
  . rw [aaK q] at hA ⊢
    have ht:=hA.tail hI;obtain ⟨z,hz,hzv,z1,z6⟩:=hA.2 _ afS;have hw:=V9 hI hz z1 hC;rw [hzv] at hw;exact ⟨ht.1,ht.2,hT,hw,by show (mF _ _).length≤_;rw [bc,bc];omega⟩
  . rw [aap q] at hA ⊢
    exact ⟨hI,hA,hT,hC,by omega⟩
 have adZ:=foldl_keeps Q (uY u.2.1) (bu u) 0 (u,l) (fun i hi d hd=>by rw [ada] at hd ⊢; exact hQs i hi d hd) hQ0;rw [ada] at adZ;have h1:=foldl_loop (f:=wF) Q (uY u.2.1) (bu u)
  (fun d i=>(((((bu u).length:Nat):Int),(i:Int),()),((d.1.1,d.1.2.1,()),(bu u).map Mf,d.1.2.2.1,d.1.2.2.2.1,d.1.2.2.2.2.1,d.1.2.2.2.2.2.1,d.1.2.2.2.2.2.2.1,d.1.2.2.2.2.2.2.2.1,d.1.2.2.2.2.2.2.2.2.1,d.2,())))
  (fun d=>((),((d.1.1,d.1.2.1,()),d.1.2.2.1,d.1.2.2.2.1,d.1.2.2.2.2.1,d.1.2.2.2.2.2.1,d.1.2.2.2.2.2.2.1,d.1.2.2.2.2.2.2.2.1,d.1.2.2.2.2.2.2.2.2.1,d.2,())))
  (fun i hi d hd=> ?_) (fun d _=> ?_) hQs (by omega) (u,l) hQ0
 . refine ⟨((bu u).foldl (uY u.2.1) (u,l)).2, ?_, ?_, ?_⟩
   . dsimp only [Ef]
     refine (aa (ju (by rw [aeN];show (bu u).length≤1000;omega))).trans ?_;rw [aeN];refine (aa h1).trans ?_;rfl
   . have:=adZ.2.2.2.1
     rw [C4] at this;exact this
   . have:=adZ.2.2.2.2
     omega
 . obtain ⟨hI,hA,hT,hC,hlen⟩:=hd
   have hn:nth ((bu u).map Mf) i=some (Mf (bu u)[i]):=by
    show ((bu u).map Mf)[i]? =_;rw [af6,aaf hi];rfl
   have hw:IntKind.i64.wrap ((i:Int)+1)=((i+1:Nat):Int):=ar (by omega);rw [acN hi,na] at hA;generalize (bu u)[i]=p at hn hA;show Out.eval (wF _)=_;dsimp only [wF];simp only [aaH,hw];refine (ab (aaa (by omega))).trans ?_;refine (ab (aaa (by rw [aeN];omega))).trans ?_;refine (aa hn).trans ?_;unfold uY;by_cases q:kX u.2.1 p=true
   . rw [aaK q] at hA ⊢
     obtain ⟨q1,q2⟩:=lV.1 q;obtain ⟨z,hz,hzv,z1,z6⟩:=hA.2 _ afS;have hv:=V8 hI hz z1 (l:=d.2) (by omega);rw [hzv] at hv;refine (ab (by show ((p.2.2.1==2)==true)=true;rw [show p.2.2.1=2 from q1];rfl)).trans ?_;refine (ab (aaa (by show p.2.2.2.2.2.2.2.1≤d.1.2.1;rw [hT];exact q2))).trans ?_;refine (aa hv).trans ?_;rfl
   . rw [aap q]
     by_cases q1:p.2.2.1=2
     . refine (ab (by show ((p.2.2.1==2)==true)=true;rw [q1];rfl)).trans ?_
       refine (ae (aae (by show ¬ p.2.2.2.2.2.2.2.1≤d.1.2.1;rw [hT];exact fun k=>q (lV.2 ⟨q1,k⟩)))).trans ?_;rfl
     . refine (ae (by show ((p.2.2.1==2)==true)=false;rw [show (p.2.2.1==2)=false from beq_false_of_ne q1];rfl)).trans ?_
       rfl
 . show Out.eval (wF _)=_
   dsimp only [wF];refine (ae (aae (by omega))).trans ?_;rfl
theorem Wa (h:fB u):∃ l,Z0 (u,())=some (((l,()),()),((),()))∧Ch u l (mI u)∧l.length≤100:=by
 have xO:=h.xO;have dB:=Hg (u:=u) (aa3 (pZ h) (by omega));rw [gX.2 h] at dB;have hcp:=Me h;have hN:¬ 1000000≤u.2.1→aN 0 u.2.1 (gm u):=fun hl=>JV h hl;show ∃ l,Out.eval (Lb _)=_∧_;dsimp only [Lb];unfold mI;by_cases hl:1000000≤u.2.1
 . rw [aaK hl]
   refine ⟨[], ?_, .nil _,by simp⟩;refine (aa dB).trans ?_;refine (ab rfl).trans ?_;refine (ab (by rw [show u.2.1=1000000 by omega];rfl)).trans ?_;rfl
 rw [aap hl];have hNI:=hN hl;have Fm:(m8 u).length≤6:=pZ h;have hap:mB (u,eE 24 0 0 0,())=Mc (gm u):=RM xO.1 (Int.not_le.1 hl);have hc0:Ch u ([]++[eE 24 0 0 0]) (gm u):=Ch.snoc hap (.nil _);have d0:=Hf (l:=[]) hap (by simp);by_cases h2:2≤(m8 u).length
 . obtain ⟨v,w,r,hr⟩:∃ v w r,m8 u=v::w::r:=by
    match h3:m8 u,h2 with
    |v::w::r,_=>exact ⟨v,w,r,rfl⟩
   have hR:=Q9 hNI;have ad0:yE (gm u)=dA (fun _=>(w::r)++[v]) (gm u):=by
    unfold yE;rw [aaK (show 2≤(m8 (gm u)).length from h2)];show dA (fun rd=>rd.erase (rd.headD 0)++[rd.headD 0]) (gm u)=_;obtain ⟨nx,tk,pg,ps,os,pi,fi,rd,ou,_⟩:=u;have hr:rd=v::w::r:=hr;subst hr;show (nx,tk+1,pg,ps,os,pi,fi,(v::w::r).erase v++[v],ou,())=_;rw [List.erase_cons_head];rfl
   have hp1:mB (gm u,eE 22 v 0 0,())=Mc (dA (fun _=>w::r) (gm u)):=by
    have:=RL (nx:=u.1) (tk:=u.2.1+1) (pg:=u.2.2.1) (ps:=u.2.2.2.1) (os:=u.2.2.2.2.1) (pi:=u.2.2.2.2.2.1) (fi:=u.2.2.2.2.2.2.1) (ou:=u.2.2.2.2.2.2.2.2.1) (b:=0) (c:=0) (l:=[]) (k:=v) (rd:=m8 u) (by rw [hr];simp) (by omega);rw [show (m8 u).erase v=w::r by rw [hr,List.erase_cons_head]] at this;exact this
   have Gr:mB (dA (fun _=>w::r) (gm u),eE 21 v 0 0,())=Mc (yE (gm u)):=by
    rw [ad0];exact AF (by rw [hr] at Fm;simp only [aai] at Fm ⊢; omega)
   have d1:=Hf (l:=[]++[eE 24 0 0 0]) hp1 (by simp);have d2:=Hf (l:=[]++[eE 24 0 0 0]++[eE 22 v 0 0]) Gr (by simp);obtain ⟨l',e1,e2,e3⟩:=aaz (u0:=u) hR (Ch.snoc Gr (Ch.snoc hp1 hc0)) (by simp);refine ⟨l', ?_,e2,aa3 e3 (by simp)⟩;refine (aa dB).trans ?_;refine (ab rfl).trans ?_;refine (ae (beq_false_of_ne (by omega))).trans ?_;refine (aa hcp).trans ?_;refine (aa d0).trans ?_;refine (ab (aaa (by show ((List.length (m8 u):Nat):Int)≥2;omega))).trans ?_;refine (ab (aaa (by show (0:Int)≤0∧(0:Int)<((List.length (m8 u):Nat):Int);omega))).trans ?_;refine (aa (show nth (m8 u) (Int.toNat 0)=some v by rw [hr];rfl)).trans ?_;refine (aa d1).trans ?_;refine (aa d2).trans ?_;exact e1
 . have ad0:yE (gm u)=gm u:=aap (show ¬ 2≤(m8 (gm u)).length from h2)
   rw [ad0];obtain ⟨l',e1,e2,e3⟩:=aaz (u0:=u) hNI hc0 (by simp);refine ⟨l', ?_,e2,aa3 e3 (by simp)⟩;refine (aa dB).trans ?_;refine (ab rfl).trans ?_;refine (ae (beq_false_of_ne (by omega))).trans ?_;refine (aa hcp).trans ?_;refine (aa d0).trans ?_;refine (ae (aae (by show ¬ ((List.length (m8 u):Nat):Int)≥2;omega))).trans ?_;exact e1
theorem Mg (h:(m8 u).length≤1000):PF (u,())=Un (xT u):=by
 show Out.eval (Ld _)=_;dsimp only [Ld];unfold xT;refine (aa (Hg h)).trans ?_;by_cases hR:fB u
 . rw [aaK hR,gX.2 hR]
   obtain ⟨l,e1,e2,e3⟩:=Wa hR;refine (ae rfl).trans ?_;refine (aa e1).trans ?_;exact (aa (RQ hR e2 (by omega))).trans rfl
 . rw [aap hR]
   exact (ab (by rw [Bool.eq_false_iff.2 fun e=>hR (gX.1 e)];rfl)).trans rfl
theorem FF (h:fB u) (hr:m8 u=[]):La (u,())=some ((([],()),()),((),())):=by
 show Out.eval (K9 _)=_;dsimp only [K9];have dB:=Hg (u:=u) (by rw [hr];simp);rw [gX.2 h] at dB;refine (aa dB).trans ?_;refine (ab rfl).trans ?_;refine (ab (by show (((List.length (m8 u):Nat):Int)==0)=true;rw [hr];rfl)).trans ?_;rfl
theorem J7 (h:fB u) (hr:m8 u=[]):Z1 (u,())=Un u:=by
 show Out.eval (Lc _)=_;dsimp only [Lc];have dB:=Hg (u:=u) (by rw [hr];simp);rw [gX.2 h] at dB;refine (aa dB).trans ?_;refine (ae rfl).trans ?_;refine (aa (FF h hr)).trans ?_;exact (aa (RQ h (.nil u) (by simp))).trans rfl
end
end
section
open Go Go.ChangeShapes Go.WideShapes Go.ChangeAt Go.RowKit
abbrev ah7:=(t10×Unit)×XI
abbrev RR:=(Int×Unit)×(bw×bw×Unit)
def xi:RR→Out (Round RR ((Unit)×(bw×bw×Unit)) ((Bool×Unit)×(Unit)))
|((p0,_),(p1,p2,p3,p4,p5,p6,p7,p8,p9,_),(cz,cE,dp,dh,du,cP,dG,dX,ep,_),_)=>
 .ite (decide (p0<((List.length p3:Nat):Int)))
 (.ite (decide (0≤p0))
 (.get (nth p3 (Int.toNat p0)) fun y1=>
 .ite (decide (0≤p0))
 (.get (nth dp (Int.toNat p0)) fun y2=>
 .get (aay ((y1,()),(y2,()),())) fun ((dF,_),_)=>
 .ite (!dF.1)
 (.ret (.ret ((false,()),())))
 (.ret (.again (((IntKind.i64.wrap (p0+1)),()),((p1,p2,p3,p4,p5,p6,p7,p8,p9,()),(cz,cE,dp,dh,du,cP,dG,dX,ep,()),())))))
 .fail)
 .fail)
 (.ret (.out ((),((p1,p2,p3,p4,p5,p6,p7,p8,p9,()),(cz,cE,dp,dh,du,cP,dG,dX,ep,()),()))))
abbrev RS:=(Int×Unit)×(bw×bw×Unit)
def xj:RS→Out (Round RS ((Unit)×(bw×bw×Unit)) ((Bool×Unit)×(Unit)))
|((p0,_),(p1,p2,p3,p4,p5,p6,p7,p8,p9,_),(cz,cE,dp,dh,du,cP,dG,dX,ep,_),_)=>
 .ite (decide (p0<((List.length p4:Nat):Int)))
 (.ite (decide (0≤p0))
 (.get (nth p4 (Int.toNat p0)) fun y1=>
 .ite (decide (0≤p0))
 (.get (nth dh (Int.toNat p0)) fun y2=>
 .get (aax ((y1.1,y1.2.1,y1.2.2.1,y1.2.2.2.1,y1.2.2.2.2.1.1,y1.2.2.2.2.1.2.1,y1.2.2.2.2.2),(y2.1,y2.2.1,y2.2.2.1,y2.2.2.2.1,y2.2.2.2.2.1.1,y2.2.2.2.2.1.2.1,y2.2.2.2.2.2),())) fun ((dF,_),_)=>
 .ite (!dF.1)
 (.ret (.ret ((false,()),())))
 (.ret (.again (((IntKind.i64.wrap (p0+1)),()),((p1,p2,p3,p4,p5,p6,p7,p8,p9,()),(cz,cE,dp,dh,du,cP,dG,dX,ep,()),())))))
 .fail)
 .fail)
 (.ret (.out ((),((p1,p2,p3,p4,p5,p6,p7,p8,p9,()),(cz,cE,dp,dh,du,cP,dG,dX,ep,()),()))))
abbrev RT:=(Int×Unit)×(bw×bw×Unit)
def xk:RT→Out (Round RT ((Unit)×(bw×bw×Unit)) ((Bool×Unit)×(Unit)))
|((p0,_),(p1,p2,p3,p4,p5,p6,p7,p8,p9,_),(cz,cE,dp,dh,du,cP,dG,dX,ep,_),_)=>
 .ite (decide (p0<((List.length p5:Nat):Int)))
 (.ite (decide (0≤p0))
 (.get (nth p5 (Int.toNat p0)) fun y1=>
 .ite (decide (0≤p0))
 (.get (nth du (Int.toNat p0)) fun y2=>
 .ite (!((y1.1==y2.1)&&((y1.2.1==y2.2.1)&&((y1.2.2.1==y2.2.2.1)&&((y1.2.2.2.1==y2.2.2.2.1)&&((y1.2.2.2.2.1==y2.2.2.2.2.1)&&true))))))
 (.ret (.ret ((false,()),())))
 (.ret (.again (((IntKind.i64.wrap (p0+1)),()),((p1,p2,p3,p4,p5,p6,p7,p8,p9,()),(cz,cE,dp,dh,du,cP,dG,dX,ep,()),())))))
 .fail)
 .fail)
 (.ret (.out ((),((p1,p2,p3,p4,p5,p6,p7,p8,p9,()),(cz,cE,dp,dh,du,cP,dG,dX,ep,()),()))))
abbrev RU:=(Int×Unit)×(bw×bw×Unit)
def xl:RU→Out (Round RU ((Unit)×(Unit)) ((Bool×Unit)×(Unit)))
|((p0,_),(p1,p2,p3,p4,p5,p6,p7,p8,p9,_),(cz,cE,dp,dh,du,cP,dG,dX,ep,_),_)=>
 .ite (decide (p0<((List.length p6:Nat):Int)))
 (.ite (decide (0≤p0))
 (.get (nth p6 (Int.toNat p0)) fun y1=>
 .ite (decide (0≤p0))
 (.get (nth cP (Int.toNat p0)) fun y2=>
 .ite (((y1.1 != y2.1))==false)
 (.ite (decide (0≤p0))
 (.get (nth p6 (Int.toNat p0)) fun y3=>
 .ite (decide (0≤p0))
 (.get (nth cP (Int.toNat p0)) fun y4=>
 .ite (!(eU y3.2.1 y4.2.1))
 (.ret (.ret ((false,()),())))
 (.ret (.again (((IntKind.i64.wrap (p0+1)),()),((p1,p2,p3,p4,p5,p6,p7,p8,p9,()),(cz,cE,dp,dh,du,cP,dG,dX,ep,()),())))))
 .fail)
 .fail)
 (.ret (.ret ((false,()),()))))
 .fail)
 .fail)
 (.ret (.out ((),())))
def Mh:t11×t11×Unit→Out ah7
|(a0,a1,_)=>
 .ite (((a0.1 != a1.1))==false)
 (.ite (((a0.2.1 != a1.2.1))==false)
 (.ite (((((List.length a0.2.2.1:Nat):Int) != ((List.length a1.2.2.1:Nat):Int)))==false)
 (.ite (((((List.length a0.2.2.2.1:Nat):Int) != ((List.length a1.2.2.2.1:Nat):Int)))==false)
 (.ite (((((List.length a0.2.2.2.2.1:Nat):Int) != ((List.length a1.2.2.2.2.1:Nat):Int)))==false)
 (.ite (((((List.length a0.2.2.2.2.2.1:Nat):Int) != ((List.length a1.2.2.2.2.2.1:Nat):Int)))==false)
 (.ite ((!(nH a0.2.2.2.2.2.2.1 a1.2.2.2.2.2.2.1))==false)
 (.ite ((!(eU a0.2.2.2.2.2.2.2.1 a1.2.2.2.2.2.2.2.1))==false)
 (.ite (!(eU a0.2.2.2.2.2.2.2.2.1 a1.2.2.2.2.2.2.2.2.1))
 (.ret (((false,()),()),((),(),())))
 (.get (iter xi bn ((0,()),((a0.1,a0.2.1,a0.2.2.1,a0.2.2.2.1,a0.2.2.2.2.1,a0.2.2.2.2.2.1,a0.2.2.2.2.2.2.1,a0.2.2.2.2.2.2.2.1,a0.2.2.2.2.2.2.2.2.1,()),(a1.1,a1.2.1,a1.2.2.1,a1.2.2.2.1,a1.2.2.2.2.1,a1.2.2.2.2.2.1,a1.2.2.2.2.2.2.1,a1.2.2.2.2.2.2.2.1,a1.2.2.2.2.2.2.2.2.1,()),()))) fun y1=> .alt y1 (fun y2=>
 .get (iter xj bn ((0,()),((y2.2.1.1,y2.2.1.2.1,y2.2.1.2.2.1,y2.2.1.2.2.2.1,y2.2.1.2.2.2.2.1,y2.2.1.2.2.2.2.2.1,y2.2.1.2.2.2.2.2.2.1,y2.2.1.2.2.2.2.2.2.2.1,y2.2.1.2.2.2.2.2.2.2.2.1,()),(y2.2.2.1.1,y2.2.2.1.2.1,y2.2.2.1.2.2.1,y2.2.2.1.2.2.2.1,y2.2.2.1.2.2.2.2.1,y2.2.2.1.2.2.2.2.2.1,y2.2.2.1.2.2.2.2.2.2.1,y2.2.2.1.2.2.2.2.2.2.2.1,y2.2.2.1.2.2.2.2.2.2.2.2.1,()),()))) fun y4=> .alt y4 (fun y5=>
 .get (iter xk bn ((0,()),((y5.2.1.1,y5.2.1.2.1,y5.2.1.2.2.1,y5.2.1.2.2.2.1,y5.2.1.2.2.2.2.1,y5.2.1.2.2.2.2.2.1,y5.2.1.2.2.2.2.2.2.1,y5.2.1.2.2.2.2.2.2.2.1,y5.2.1.2.2.2.2.2.2.2.2.1,()),(y5.2.2.1.1,y5.2.2.1.2.1,y5.2.2.1.2.2.1,y5.2.2.1.2.2.2.1,y5.2.2.1.2.2.2.2.1,y5.2.2.1.2.2.2.2.2.1,y5.2.2.1.2.2.2.2.2.2.1,y5.2.2.1.2.2.2.2.2.2.2.1,y5.2.2.1.2.2.2.2.2.2.2.2.1,()),()))) fun y7=> .alt y7 (fun y8=>
 .get (iter xl bn ((0,()),((y8.2.1.1,y8.2.1.2.1,y8.2.1.2.2.1,y8.2.1.2.2.2.1,y8.2.1.2.2.2.2.1,y8.2.1.2.2.2.2.2.1,y8.2.1.2.2.2.2.2.2.1,y8.2.1.2.2.2.2.2.2.2.1,y8.2.1.2.2.2.2.2.2.2.2.1,()),(y8.2.2.1.1,y8.2.2.1.2.1,y8.2.2.1.2.2.1,y8.2.2.1.2.2.2.1,y8.2.2.1.2.2.2.2.1,y8.2.2.1.2.2.2.2.2.1,y8.2.2.1.2.2.2.2.2.2.1,y8.2.2.1.2.2.2.2.2.2.2.1,y8.2.2.1.2.2.2.2.2.2.2.2.1,()),()))) fun Gm=> .alt Gm (fun _=>
 .ret (((true,()),()),((),(),()))) (fun pL=>
 .ret (((pL.1.1,()),()),((),(),())))) (fun y9=>
 .ret (((y9.1.1,()),()),((),(),())))) (fun y6=>
 .ret (((y6.1.1,()),()),((),(),())))) (fun y3=>
 .ret (((y3.1.1,()),()),((),(),())))))
 (.ret (((false,()),()),((),(),()))))
 (.ret (((false,()),()),((),(),()))))
 (.ret (((false,()),()),((),(),()))))
 (.ret (((false,()),()),((),(),()))))
 (.ret (((false,()),()),((),(),()))))
 (.ret (((false,()),()),((),(),()))))
 (.ret (((false,()),()),((),(),()))))
 (.ret (((false,()),()),((),(),())))
def aaA (x:t11×t11×Unit):=(Mh x).eval
abbrev tR:List (Nat×dT):=[(64000000, .var [.i .i64, .i .i64, .ro (.sl b8) (some 0), .ro jr (some 1), .ro cH (some 2), .ro ck (some 3), .ro ck (some 4), .ro br (some 5), .ro br (some 6)]),(64000001, .var [.i .i64, .i .i64, .ro (.sl b8) (some 7), .ro jr (some 8), .ro cH (some 9), .ro ck (some 10), .ro ck (some 11), .ro br (some 12), .ro br (some 13)])]
def ah8:Nat→Option aq:=fun n=>bU [(0,⟨⟨[.dead, .dead, .vptr 64000000 0, .vptr 64000001 0, .dead, .i .i64]++dd 167,tR⟩,⟨[.dead, .dead, .vptr 64000000 0, .vptr 64000001 0]++dd 169,tR⟩,some ⟨dd 4++[.b]++dd 168,[]⟩,false⟩),(2,⟨⟨[.dead, .dead, .vptr 64000000 0, .vptr 64000001 0, .dead, .dead, .i .i64]++dd 166,tR⟩,⟨[.dead, .dead, .vptr 64000000 0, .vptr 64000001 0]++dd 169,tR⟩,some ⟨dd 4++[.b]++dd 168,[]⟩,false⟩),(4,⟨⟨[.dead, .dead, .vptr 64000000 0, .vptr 64000001 0, .dead, .dead, .dead, .i .i64]++dd 165,tR⟩,⟨[.dead, .dead, .vptr 64000000 0, .vptr 64000001 0]++dd 169,tR⟩,some ⟨dd 4++[.b]++dd 168,[]⟩,false⟩),(6,⟨⟨[.dead, .dead, .vptr 64000000 0, .vptr 64000001 0]++dd 4++[.i .i64]++dd 164,tR⟩,⟨dd 173,[]⟩,some ⟨dd 4++[.b]++dd 168,[]⟩,false⟩)] n
def k11:bM:=cw 11 true [i11,i11] [none,none] [i10] Mh
theorem ad1:k11.Ok Tryz.prog:=bA eo [] [] [k40,Uu,k41,k42] ⟨adT,J4,adY,adX,trivial⟩ ah8 Tryz.f11 [.tmp 4] fun x=>by kernel_rfl
end
section
open Go Go.ChangeShapes Go.WideShapes Go.ChangeAt Go.RowKit
section
variable {u:UT} {p:af}
def kJ (p:af):Bool:= !(p.2.2.1==1)&& !(p.2.2.1==2)
def iW (u:UT):Bool:=dz u.1 u.2.1 u.2.2.1 u.2.2.2.1 u.2.2.2.2.1 u.2.2.2.2.2.1 u.2.2.2.2.2.2.1 u.2.2.2.2.2.2.2.1 u.2.2.2.2.2.2.2.2.1&&(decide (0<(bu u).length)&&(bu u).all kJ)
theorem RV (h:(bu u).length≤1000):aau (u,())=some (((iW u,()),()),((),())):=by
 have hB:aS=9223372036854775807:=rfl;show Out.eval (L5 _)=_;dsimp only [L5];unfold iW;cases dz u.1 u.2.1 u.2.2.1 u.2.2.2.1 u.2.2.2.2.1 u.2.2.2.2.2.1 u.2.2.2.2.2.2.1 u.2.2.2.2.2.2.2.1 u.2.2.2.2.2.2.2.2.1 with
 |false=>rfl
 |true=>
  refine (ab rfl).trans ?_;by_cases h0:(bu u).length=0
  . refine (ab (by show (((List.length (bu u):Nat):Int)==0)=true;rw [h0];rfl)).trans ?_
    rw [show decide (0<(bu u).length)=false from aae (by omega)];rfl
  . refine (ae (beq_false_of_ne (show ((List.length (bu u):Nat):Int)≠0 by omega))).trans ?_
    rw [show decide (0<(bu u).length)=true from aaa (by omega)];have h1:=AH (f:=qh) (bu u) kJ (fun i=>(((i:Int),()),(u,()))) (y:=((),())) (z:=((false,()),())) (fun i hi hp=> ?_) (fun i hi hp=> ?_) ?_ (by omega)
    . refine (aa h1).trans ?_
      cases (bu u).all kJ<;>rfl
    . have hn:nth (bu u) i=some (bu u)[i]:=aaf hi
      have hw:IntKind.i64.wrap ((i:Int)+1)=((i+1:Nat):Int):=ar (by omega);generalize (bu u)[i]=p at hn hp;unfold kJ at hp;rw [aaE] at hp;show Out.eval (qh _)=_;dsimp only [qh];simp only [aaH,hw];refine (ab (aaa (by show (i:Int)<((List.length (bu u):Nat):Int);omega))).trans ?_;refine (ab (aaa (by omega))).trans ?_;refine (aa hn).trans ?_;refine (ab (by rw [show (p.2.2.1==1)=false by simpa using hp.1];rfl)).trans ?_;refine (ab (aaa (by omega))).trans ?_;refine (aa hn).trans ?_;refine (ae (by simpa using hp.2)).trans ?_;rfl
    . have hn:nth (bu u) i=some (bu u)[i]:=aaf hi
      generalize (bu u)[i]=p at hn hp;unfold kJ at hp;show Out.eval (qh _)=_;dsimp only [qh];simp only [aaH];refine (ab (aaa (by show (i:Int)<((List.length (bu u):Nat):Int);omega))).trans ?_;refine (ab (aaa (by omega))).trans ?_;refine (aa hn).trans ?_;cases q:(p.2.2.1==1) with
      |true=>rfl
      |false=>
       refine (ab rfl).trans ?_;refine (ab (aaa (by omega))).trans ?_;refine (aa hn).trans ?_;rw [q] at hp;exact (ab (by simpa using hp)).trans rfl
    . show Out.eval (qh _)=_
      dsimp only [qh];refine (ae (aae (by show ¬ (((bu u).length:Nat):Int)<((List.length (bu u):Nat):Int);omega))).trans ?_;rfl
theorem RW:aav ((p.1,p.2.1,p.2.2.1,p.2.2.2.1,p.2.2.2.2.1.1,p.2.2.2.2.1.2.1,p.2.2.2.2.2),())=some (((!kJ p,()),()),((),())):=by
 show Out.eval (L6 _)=_;dsimp only [L6];unfold kJ;cases (p.2.2.1==1) with
 |true=>rfl
 |false=>
  refine (ab rfl).trans ?_;show some ((((p.2.2.1==2),()),()),((),()))=_;cases (p.2.2.1==2)<;>rfl
theorem Wb {ps:List af} (h:ps.length≤1000):L7 ((ps,()),())=some (((!(ps.all kJ),()),()),((),())):=by
 have hB:aS=9223372036854775807:=rfl;have h1:=dZ (f:=jA) ps (fun p=> !kJ p) (fun i=>((ps,((ps.length:Nat):Int),(i:Int),()),())) (y:=((),())) (z:=fun i=>(((i:Int),()),())) (fun i hi hp=> ?_) (fun i hi hp=> ?_) ?_ (by omega)
 . have hk:He ((ps,()),())=some (((match ps.findIdx? (fun p=> !kJ p) with|some i=>(i:Int)|none=> -1,()),()),((),())):=by
    show Out.eval (uW _)=_;dsimp only [uW];refine (aa h1).trans ?_;cases ps.findIdx? (fun p=> !kJ p)<;>rfl
   show Out.eval (zo _)=_;dsimp only [zo];refine (aa hk).trans ?_;cases q:ps.findIdx? (fun p=> !kJ p) with
   |none=>
    rw [afI] at q;rw [show ps.all kJ=true from aa1.2 fun x hx=>by simpa using q x hx];rfl
   |some i=>
    rw [aeR] at q;obtain ⟨hi,hp,_⟩:=q;rw [show ps.all kJ=false from Bool.eq_false_iff.2 fun k=>by have:=aa1.1 k _ (acD hi);rw [this] at hp;exact absurd hp (by decide)];show some (((decide ((i:Int)≥0),()),()),((),()))=_;rw [aaa (show (i:Int)≥0 by omega)];rfl
 . have hn:nth ps i=some ps[i]:=aaf hi
   have hw:IntKind.i64.wrap ((i:Int)+1)=((i+1:Nat):Int):=ar (by omega);show Out.eval (jA _)=_;dsimp only [jA];simp only [aaH,hw];refine (ab (aaa (by omega))).trans ?_;refine (ab (aaa (by omega))).trans ?_;refine (aa hn).trans ?_;refine (aa RW).trans ?_;exact (ae hp).trans rfl
 . have hn:nth ps i=some ps[i]:=aaf hi
   show Out.eval (jA _)=_;dsimp only [jA];simp only [aaH];refine (ab (aaa (by omega))).trans ?_;refine (ab (aaa (by omega))).trans ?_;refine (aa hn).trans ?_;refine (aa RW).trans ?_;exact (ab hp).trans rfl
 . show Out.eval (jA _)=_
   dsimp only [jA];exact (ae (aae (by omega))).trans rfl
theorem AI (h:(bu u).length≤1000) (hr:(m8 u).length≤1000):L9 (u,())=some (((iW u,()),()),((),())):=by
 show Out.eval (L8 _)=_;dsimp only [L8];unfold iW;refine (aa (Hg hr)).trans ?_;cases dz u.1 u.2.1 u.2.2.1 u.2.2.2.1 u.2.2.2.2.1 u.2.2.2.2.2.1 u.2.2.2.2.2.2.1 u.2.2.2.2.2.2.2.1 u.2.2.2.2.2.2.2.2.1 with
 |false=>rfl
 |true=>
  refine (ab rfl).trans ?_;by_cases h0:(bu u).length=0
  . refine (ae (by rw [show decide (((List.length u.2.2.2.1:Nat):Int)>0)=false from aae (by show ¬ ((List.length (bu u):Nat):Int)>0;omega)];rfl)).trans ?_
    rw [show decide (0<(bu u).length)=false from aae (by omega)];rfl
  . refine (ab (aY (by show ((List.length (bu u):Nat):Int)>0;omega))).trans ?_
    rw [show decide (0<(bu u).length)=true from aaa (by omega)];refine (aa (Wb h)).trans ?_;show some (((!!(bu u).all kJ,()),()),((),()))=_;cases (bu u).all kJ<;>rfl
theorem FG {a:List aw} (h:a.length≤1000):aay ((a,()),(a,()),())=some (((true,()),()),((),(),())):=by
 have hB:aS=9223372036854775807:=rfl;have h1:=kK (f:=xh) (fun i=>((a,a,(i:Int),()),())) a.length (n:=bn) (y:=((),())) (fL (by omega)) (fun i hi=> ?_) ?_
 . show Out.eval (Mb _)=_
   dsimp only [Mb];refine (ae (by simp)).trans ?_;exact (aa h1).trans rfl
 . have hn:nth a i=some a[i]:=aaf hi
   have hw:IntKind.i64.wrap ((i:Int)+1)=((i+1:Nat):Int):=ar (by omega);show Out.eval (xh _)=_;dsimp only [xh];simp only [aaH,hw];refine (ab (aaa (by omega))).trans ?_;refine (ab (aaa (by omega))).trans ?_;refine (aa hn).trans ?_;refine (ab (aaa (by omega))).trans ?_;refine (aa hn).trans ?_;exact (ae (by simp)).trans rfl
 . show Out.eval (xh _)=_
   dsimp only [xh];exact (ae (aae (by omega))).trans rfl
theorem mJ {a:List Int}:eU a a=true:=aaa rfl
theorem B6:aax ((p.1,p.2.1,p.2.2.1,p.2.2.2.1,p.2.2.2.2.1.1,p.2.2.2.2.1.2.1,p.2.2.2.2.2),(p.1,p.2.1,p.2.2.1,p.2.2.2.1,p.2.2.2.2.1.1,p.2.2.2.2.1.2.1,p.2.2.2.2.2),())=some (((true,()),()),((),(),())):=by
 show Out.eval (Ma _)=_;dsimp only [Ma];simp only [mJ,aaP];rfl
structure J8 (u:UT):Prop where
 pg:u.2.2.1.length≤1000
 pr:∀ l∈u.2.2.1,l.length≤1000
 ps:(bu u).length≤1000
 os:(fK u).length≤1000
 pi:(uM u).length≤1000
 rd:(m8 u).length≤1000
theorem AJ (h:lk u):J8 u:=by
 have uv:cD u.2.2.1=true:=h.pg;unfold cD at uv;simp only [aaE,ack] at uv;exact ⟨by omega,fun l hl=>aa3 (nF (aa1.1 uv.2 _ hl)) (by omega),aa3 h.np (by omega),aa3 h.os (by omega),aa3 h.RC (by omega),aa3 h.rd (by omega)⟩
theorem tS:J8 (xT u):=by
 unfold xT;split
 . rename_i h;exact AJ (oD (Ft h))
 . exact ⟨by decide,nofun,by decide,by decide,by decide,by decide⟩
theorem ad3 (h:J8 u):aaA (u,u,())=some (((true,()),()),((),(),())):=by
 have hB:aS=9223372036854775807:=rfl;obtain ⟨nx,tk,pg,ps,os,pi,fi,rd,ou,_⟩:=u;have uv:pg.length≤1000:=h.pg;have hp:∀ i (hi:i<pg.length),pg[i].length≤1000:=fun i hi=>h.pr _ (acD hi);have hps:ps.length≤1000:=h.ps;have hos:os.length≤1000:=h.os;have uw:pi.length≤1000:=h.pi
 let U:UT:=(nx,tk,pg,ps,os,pi,fi,rd,ou,())
 have h0:=kK (f:=xi) (fun i=>(((i:Int),()),(U,U,()))) pg.length (n:=bn) (y:=((),(U,U,()))) (fL (by omega)) (fun i hi=> ?_) ?_
 . have h2:=kK (f:=xj) (fun i=>(((i:Int),()),(U,U,()))) ps.length (n:=bn) (y:=((),(U,U,()))) (fL (by omega)) (fun i hi=> ?_) ?_
   . have h4:=kK (f:=xk) (fun i=>(((i:Int),()),(U,U,()))) os.length (n:=bn) (y:=((),(U,U,()))) (fL (by omega)) (fun i hi=> ?_) ?_
     . have h6:=kK (f:=xl) (fun i=>(((i:Int),()),(U,U,()))) pi.length (n:=bn) (y:=((),())) (fL (by omega)) (fun i hi=> ?_) ?_
       . show Out.eval (Mh _)=_
         dsimp only [Mh];refine (ab (by simp)).trans ?_;refine (ab (by simp)).trans ?_;refine (ab (by simp)).trans ?_;refine (ab (by simp)).trans ?_;refine (ab (by simp)).trans ?_;refine (ab (by simp)).trans ?_;refine (ab (by rw [show nH fi fi=true from aaa rfl];rfl)).trans ?_;refine (ab (by rw [mJ];rfl)).trans ?_;refine (ae (by rw [mJ];rfl)).trans ?_;refine (aa h0).trans ?_;refine (aa h2).trans ?_;refine (aa h4).trans ?_;exact (aa h6).trans rfl
       . have hn:nth pi i=some pi[i]:=aaf hi
         have hw:IntKind.i64.wrap ((i:Int)+1)=((i+1:Nat):Int):=ar (by omega);show Out.eval (xl _)=_;dsimp only [xl,U];simp only [aaH,hw];refine (ab (aaa (by omega))).trans ?_;refine (ab (aaa (by omega))).trans ?_;refine (aa hn).trans ?_;refine (ab (aaa (by omega))).trans ?_;refine (aa hn).trans ?_;refine (ab (by simp)).trans ?_;refine (ab (aaa (by omega))).trans ?_;refine (aa hn).trans ?_;refine (ab (aaa (by omega))).trans ?_;refine (aa hn).trans ?_;exact (ae (by rw [mJ];rfl)).trans rfl
       . show Out.eval (xl _)=_
         dsimp only [xl,U];exact (ae (aae (by omega))).trans rfl
     . have hn:nth os i=some os[i]:=aaf hi
       have hw:IntKind.i64.wrap ((i:Int)+1)=((i+1:Nat):Int):=ar (by omega);show Out.eval (xk _)=_;dsimp only [xk,U];simp only [aaH,hw];refine (ab (aaa (by omega))).trans ?_;refine (ab (aaa (by omega))).trans ?_;refine (aa hn).trans ?_;refine (ab (aaa (by omega))).trans ?_;refine (aa hn).trans ?_;exact (ae (by simp)).trans rfl
     . show Out.eval (xk _)=_
       dsimp only [xk,U];exact (ae (aae (by omega))).trans rfl
   . have hn:nth ps i=some ps[i]:=aaf hi
     have hw:IntKind.i64.wrap ((i:Int)+1)=((i+1:Nat):Int):=ar (by omega);show Out.eval (xj _)=_;dsimp only [xj,U];simp only [aaH,hw];refine (ab (aaa (by omega))).trans ?_;refine (ab (aaa (by omega))).trans ?_;refine (aa hn).trans ?_;refine (ab (aaa (by omega))).trans ?_;refine (aa hn).trans ?_;refine (aa B6).trans ?_;exact (ae rfl).trans rfl
   . show Out.eval (xj _)=_
     dsimp only [xj,U];exact (ae (aae (by omega))).trans rfl
 . have hn:nth pg i=some pg[i]:=aaf hi
   have hw:IntKind.i64.wrap ((i:Int)+1)=((i+1:Nat):Int):=ar (by omega);show Out.eval (xi _)=_;dsimp only [xi,U];simp only [aaH,hw];refine (ab (aaa (by omega))).trans ?_;refine (ab (aaa (by omega))).trans ?_;refine (aa hn).trans ?_;refine (ab (aaa (by omega))).trans ?_;refine (aa hn).trans ?_;refine (aa (FG (hp i hi))).trans ?_;exact (ae rfl).trans rfl
 . show Out.eval (xi _)=_
   dsimp only [xi,U];exact (ae (aae (by omega))).trans rfl
theorem FH (h:iW u=true):fB u:=by
 unfold iW at h;rw [aaE] at h;exact gX.1 h.1
theorem AK (h:iW u=true) (hp:p∈bu u):p.2.2.1≠1∧p.2.2.1≠2:=by
 unfold iW at h;rw [aaE,aaE] at h;have:=aa1.1 h.2.2 p hp;unfold kJ at this;simpa using this
theorem Hh (h:iW u=true):m8 u=[]:=by
 have h1:=(FH h).Gp.length_eq;have h2:aL (bu u)=[]:=by
  unfold aL;rw [List.map_eq_nil_iff,List.filter_eq_nil_iff];intro p hp;have:=(AK h hp).1;unfold jR;simpa using this
 rw [h2] at h1;exact List.length_eq_zero_iff.1 h1
theorem J9 (h:iW u=true) (ht:u.2.1≠1000000):iW (mI u)=true:=by
 have hR:=FH h;have xO:=hR.xO;have e:mI u=gm u:=by
  unfold mI;rw [aap (by omega)];have e1:yE (gm u)=gm u:=aap (by rw [show m8 (gm u)=m8 u from rfl,Hh h];simp);rw [e1];unfold upU;have e2:ei (gm u).2.1 (bu (gm u))=[]:=by
   unfold ei;rw [List.map_eq_nil_iff,List.filter_eq_nil_iff];intro p hp k;exact (AK h (show p∈bu u from hp)).2 (lV.1 k).1
  rw [e2];rfl
 have hT:=Ft hR;rw [e] at hT ⊢;unfold iW at h ⊢;rw [aaE] at h ⊢;exact ⟨gX.2 hT,h.2⟩
end
end
end Go.Proofs.YtohagdoklnkljaaGreat.Dm
