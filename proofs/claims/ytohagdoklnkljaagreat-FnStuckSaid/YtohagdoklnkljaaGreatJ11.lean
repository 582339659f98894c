/- f -/
import Derived.Test.YtohagdoklnkljaaGreatJ10
namespace Go.Proofs.YtohagdoklnkljaaGreat.Dm
section
open Go Go.ChangeShapes Go.WideShapes Go.ChangeAt Go.RowKit
section
abbrev UT:Type:=bw
abbrev ET:Type:=Int×Int×Int×Int×List Int×Unit
abbrev WT:Type:=Int×Int×List (List aw)×List af×List ah×List ag×List ag×List Int×List Int×List ET×Unit
theorem aJ {P:Prop} [Decidable P] (h:¬P):(decide P==false)=true:=by rw [aae h];rfl
theorem aO {P:Prop} [Decidable P] (h:P):(decide P==false)=false:=by rw [aaa h];rfl
theorem aY {P:Prop} [Decidable P] (h:P):(decide P==true)=true:=by rw [aaa h];rfl
theorem aZ {P:Prop} [Decidable P] (h:¬P):(decide P==true)=false:=by rw [aae h];rfl
theorem pX {a b:Int} (h:a=b):(a != b)=false:=by simp [h]
theorem CF {a b:Int} (h:a≠b):(a != b)=true:=by simp [h]
theorem eB {a b:Int} (h:a≠b):(a==b)=false:=by simp [h]
theorem di {a b:Int} (h:a=b):(a==b)=true:=by simp [h]
theorem bD {α:Type} {key:α→Int} {a:List α} (h:bS key a) {x:α} (hx:x∈a):∃ i:Nat,dv key a (key x)=(i:Int)∧i<a.length∧a[i]? =some x:=by
 obtain ⟨i,h1,h2,h3⟩:=oq h hx rfl;exact ⟨i,by unfold dv;rw [h1];rfl,h2,h3⟩
theorem uL {α:Type} {key:α→Int} {a:List α} {v:Int} (h:∀ x∈a,key x≠v):dv key a v= -1:=by unfold dv;rw [lM h];rfl
theorem jc {α:Type} {a:List α} {i:Nat} {x:α} (h:a[i]? =some x):a.set i x=a:=by
 have bZ:i<a.length:=(List.getElem?_eq_some_iff.1 h).1;rw [aaf bZ] at h;rw [← aaG h,List.set_getElem_self]
theorem aH {α:Type} {a:List α} {i:Nat} {x:α} (h:i<a.length):nth (a.set i x) i=some x:=by
 show (a.set i x)[i]? =some x;rw [List.getElem?_set,aaK rfl,aaK h]
theorem ze {α:Type} {key:α→Int} {a:List α} (h:bS key a) {x:α} {i:Nat} (hi:a[i]? =some x):a.take i++a.drop (i+1)=a.filter (fun y=>key y != key x):=by
 have bZ:i<a.length:=(List.getElem?_eq_some_iff.1 hi).1;have hx:x∈a:=aeJ hi;obtain ⟨l1,l2,e,h1,h2,_,hf⟩:=gU h hx;have hl:i=l1.length:=by
  have h3:a[l1.length]? =some x:=by rw [e];simp
  have hn:=h.nodup;have acA:l1.length<a.length:=(List.getElem?_eq_some_iff.1 h3).1;rw [aaf bZ] at hi;rw [aaf acA] at h3;rcases Nat.lt_trichotomy i l1.length with q|q|q
  . have:=List.pairwise_iff_getElem.1 hn i l1.length (by simpa using bZ) (by simpa using acA) q
    simp [aaG hi,aaG h3] at this
  . exact q
  . have:=List.pairwise_iff_getElem.1 hn l1.length i (by simpa using acA) (by simpa using bZ) q
    simp [aaG hi,aaG h3] at this
 rw [hf,e,hl];simp
variable {nx tk:Int} {pg:List (List aw)} {ps:List af} {os:List ah} {pi fi:List ag} {rd ou:List Int} {p:af} {o:ah} {y:ag} {b c k:Int} {l:List Int}
abbrev kv (u:UT):Option ((UT×(Bool×Unit)×Unit)×XI):=some ((u,(true,()),()),((),(),()))
theorem acB (h:bS ao ps) (hp:p∈ps) (hc:aR b l=true) (hl:l.length≤4):fI ((nx,tk,pg,ps,os,pi,fi,rd,ou,()),(1,p.1,b,c,l,()),())=kv (nx,tk,pg,bO ps p.1 (pA (b,l,())),os,pi,fi,rd,ou,()):=by
 obtain ⟨i,hi,bZ,hn⟩:=bD h hp;have cU:ak ps p.1=(i:Int):=hi;have nz:nth ps i=some p:=hn;have hL:bV=68719476736:=rfl;have Lz:([]:List Int).length=0:=rfl;have Z2:(!(aR b (([]:List Int)++l)))=false:=by rw [aaL,hc];rfl
 have key:kT ((nx,tk,pg,ps,os,pi,fi,rd,ou,()),(1,p.1,b,c,l,()),())=kv (nx,tk,pg,bO ps p.1 (pA (b,l,())),os,pi,fi,rd,ou,()):=by
  show Out.eval (fA _)=_;rw [show bO ps p.1 (pA (b,l,()))=ps.set i ((pA (b,l,())) p) from (fk h hn _ rfl).symm];dsimp only [fA];rw [cU];simp only [aaH]
  repeat' (first
   |refine (ae (by first|assumption|exact aae (by omega)|exact aO (by omega)|exact aZ (by omega)|rfl|fail)).trans ?_
   |refine (ab (by first|assumption|exact aaa (by omega)|exact aJ (by omega)|exact aY (by omega)|rfl|exact aaP _|exact aaa (by simp only [aaL,aao,aai,aat,aag];omega)|fail)).trans ?_
   |refine (aa (by first|assumption|exact aH (by first|omega|(simp only [aag];omega))|fail)).trans ?_)
  rfl
 show Out.eval (cA _)=_;dsimp only [cA]
 repeat' (first
  |refine (ae (by first|assumption|exact aae (by omega)|exact aO (by omega)|exact aZ (by omega)|rfl|fail)).trans ?_
  |refine (ab (by first|assumption|exact aaa (by omega)|exact aJ (by omega)|exact aY (by omega)|rfl|exact aaP _|exact aaa (by simp only [aaL,aao,aai,aat,aag];omega)|fail)).trans ?_
  |refine (aa (by first|assumption|exact aH (by first|omega|(simp only [aag];omega))|fail)).trans ?_)
 rfl
theorem Vu (h:bS ao ps) (hp:p∈ps) (hb:0≤b∧b<((cp p).length:Nat)) (hc:b6 c=true):fI ((nx,tk,pg,ps,os,pi,fi,rd,ou,()),(2,p.1,b,c,l,()),())=kv (nx,tk,pg,bO ps p.1 (kI ((cp p).set b.toNat c)),os,pi,fi,rd,ou,()):=by
 obtain ⟨i,hi,bZ,hn⟩:=bD h hp;have cU:ak ps p.1=(i:Int):=hi;have nz:nth ps i=some p:=hn;have hL:bV=68719476736:=rfl;have Lz:([]:List Int).length=0:=rfl;have Z2:(!(b6 c))=false:=by rw [hc];rfl
 have hm:nth (cp p) b.toNat=some ((cp p)[b.toNat]'(by omega)):=aaf _;have cf:0≤b∧b<((p.2.2.2.2.2.1.length:Nat):Int):=hb;have key:kT ((nx,tk,pg,ps,os,pi,fi,rd,ou,()),(2,p.1,b,c,l,()),())=kv (nx,tk,pg,bO ps p.1 (kI ((cp p).set b.toNat c)),os,pi,fi,rd,ou,()):=by
  show Out.eval (fA _)=_;rw [show bO ps p.1 (kI ((cp p).set b.toNat c))=ps.set i ((kI ((cp p).set b.toNat c)) p) from (fk h hn _ rfl).symm];dsimp only [fA];rw [cU];simp only [aaH]
  repeat' (first
   |refine (ae (by first|assumption|exact aae (by omega)|exact aO (by omega)|exact aZ (by omega)|rfl|fail)).trans ?_
   |refine (ab (by first|assumption|exact aaa (by omega)|exact aJ (by omega)|exact aY (by omega)|rfl|exact aaP _|exact aaa (by simp only [aaL,aao,aai,aat,aag];omega)|fail)).trans ?_
   |refine (aa (by first|assumption|exact aH (by first|omega|(simp only [aag];omega))|fail)).trans ?_)
  rfl
 show Out.eval (cA _)=_;dsimp only [cA]
 repeat' (first
  |refine (ae (by first|assumption|exact aae (by omega)|exact aO (by omega)|exact aZ (by omega)|rfl|fail)).trans ?_
  |refine (ab (by first|assumption|exact aaa (by omega)|exact aJ (by omega)|exact aY (by omega)|rfl|exact aaP _|exact aaa (by simp only [aaL,aao,aai,aat,aag];omega)|fail)).trans ?_
  |refine (aa (by first|assumption|exact aH (by first|omega|(simp only [aag];omega))|fail)).trans ?_)
 rfl
theorem zV (h:bS ao ps) (hp:p∈ps):fI ((nx,tk,pg,ps,os,pi,fi,rd,ou,()),(3,p.1,b,c,l,()),())=kv (nx,tk,pg,bO ps p.1 (kS b c),os,pi,fi,rd,ou,()):=by
 obtain ⟨i,hi,bZ,hn⟩:=bD h hp;have cU:ak ps p.1=(i:Int):=hi;have nz:nth ps i=some p:=hn;have hL:bV=68719476736:=rfl;have Lz:([]:List Int).length=0:=rfl;have key:kT ((nx,tk,pg,ps,os,pi,fi,rd,ou,()),(3,p.1,b,c,l,()),())=kv (nx,tk,pg,bO ps p.1 (kS b c),os,pi,fi,rd,ou,()):=by
  show Out.eval (fA _)=_;rw [show bO ps p.1 (kS b c)=ps.set i ((kS b c) p) from (fk h hn _ rfl).symm];dsimp only [fA];rw [cU];simp only [aaH]
  repeat' (first
   |refine (ae (by first|assumption|exact aae (by omega)|exact aO (by omega)|exact aZ (by omega)|rfl|fail)).trans ?_
   |refine (ab (by first|assumption|exact aaa (by omega)|exact aJ (by omega)|exact aY (by omega)|rfl|exact aaP _|exact aaa (by simp only [aaL,aao,aai,aat,aag];omega)|fail)).trans ?_
   |refine (aa (by first|assumption|exact aH (by first|omega|(simp only [aag];omega))|fail)).trans ?_)
  rfl
 show Out.eval (cA _)=_;dsimp only [cA]
 repeat' (first
  |refine (ae (by first|assumption|exact aae (by omega)|exact aO (by omega)|exact aZ (by omega)|rfl|fail)).trans ?_
  |refine (ab (by first|assumption|exact aaa (by omega)|exact aJ (by omega)|exact aY (by omega)|rfl|exact aaP _|exact aaa (by simp only [aaL,aao,aai,aat,aag];omega)|fail)).trans ?_
  |refine (aa (by first|assumption|exact aH (by first|omega|(simp only [aag];omega))|fail)).trans ?_)
 rfl
theorem Vv (h:bS ao ps) (hp:p∈ps):fI ((nx,tk,pg,ps,os,pi,fi,rd,ou,()),(5,p.1,b,c,l,()),())=kv (nx,tk,pg,bO ps p.1 (kI []),os,pi,fi,rd,ou,()):=by
 obtain ⟨i,hi,bZ,hn⟩:=bD h hp;have cU:ak ps p.1=(i:Int):=hi;have nz:nth ps i=some p:=hn;have hL:bV=68719476736:=rfl;have Lz:([]:List Int).length=0:=rfl;have key:kT ((nx,tk,pg,ps,os,pi,fi,rd,ou,()),(5,p.1,b,c,l,()),())=kv (nx,tk,pg,bO ps p.1 (kI []),os,pi,fi,rd,ou,()):=by
  show Out.eval (fA _)=_;rw [show bO ps p.1 (kI [])=ps.set i ((kI []) p) from (fk h hn _ rfl).symm];dsimp only [fA];rw [cU];simp only [aaH]
  repeat' (first
   |refine (ae (by first|assumption|exact aae (by omega)|exact aO (by omega)|exact aZ (by omega)|rfl|fail)).trans ?_
   |refine (ab (by first|assumption|exact aaa (by omega)|exact aJ (by omega)|exact aY (by omega)|rfl|exact aaP _|exact aaa (by simp only [aaL,aao,aai,aat,aag];omega)|fail)).trans ?_
   |refine (aa (by first|assumption|exact aH (by first|omega|(simp only [aag];omega))|fail)).trans ?_)
  rfl
 show Out.eval (cA _)=_;dsimp only [cA]
 repeat' (first
  |refine (ae (by first|assumption|exact aae (by omega)|exact aO (by omega)|exact aZ (by omega)|rfl|fail)).trans ?_
  |refine (ab (by first|assumption|exact aaa (by omega)|exact aJ (by omega)|exact aY (by omega)|rfl|exact aaP _|exact aaa (by simp only [aaL,aao,aai,aat,aag];omega)|fail)).trans ?_
  |refine (aa (by first|assumption|exact aH (by first|omega|(simp only [aag];omega))|fail)).trans ?_)
 rfl
theorem Vw (h:bS ao ps) (hp:p∈ps) (hm:(cp p).length<12∧(cp p).length % 4=0) (hr:oA ((nx,tk,pg,ps,os,pi,fi,rd,ou,()),(1,()),())=some (((true,()),()),((),(),()))):fI ((nx,tk,pg,ps,os,pi,fi,rd,ou,()),(7,p.1,b,c,l,()),())=kv (nx,tk,pg,bO ps p.1 (kI (cp p++[0,0,0,0])),os,pi,fi,rd,ou,()):=by
 obtain ⟨i,hi,bZ,hn⟩:=bD h hp;have cU:ak ps p.1=(i:Int):=hi;have nz:nth ps i=some p:=hn;have hL:bV=68719476736:=rfl;have Lz:([]:List Int).length=0:=rfl;have pI:p.2.2.2.2.2.1.length<12∧p.2.2.2.2.2.1.length % 4=0:=hm;have ht:IntKind.i64.wrap (Int.tdiv ((p.2.2.2.2.2.1.length:Nat):Int) (4:Int))=((p.2.2.2.2.2.1.length / 4:Nat):Int):=by
  have ht0:Int.tdiv ((p.2.2.2.2.2.1.length:Nat):Int) (4:Int)=((p.2.2.2.2.2.1.length / 4:Nat):Int):=rfl;rw [ht0,jO (by omega) (by omega)]
 have hs:=jc hn;have hz:pW ((4,()),())=some ((([0,0,0,0],()),()),((),())):=rfl;have key:kT ((nx,tk,pg,ps,os,pi,fi,rd,ou,()),(7,p.1,b,c,l,()),())=kv (nx,tk,pg,bO ps p.1 (kI (cp p++[0,0,0,0])),os,pi,fi,rd,ou,()):=by
  show Out.eval (fA _)=_;rw [show bO ps p.1 (kI (cp p++[0,0,0,0]))=ps.set i ((kI (cp p++[0,0,0,0])) p) from (fk h hn _ rfl).symm];dsimp only [fA];rw [cU];simp only [aaH]
  repeat' (first
   |refine (ae (by first|assumption|exact aae (by omega)|exact aO (by omega)|exact aZ (by omega)|rfl|(rw [ht];exact aJ (by omega))|fail)).trans ?_
   |refine (ab (by first|assumption|exact aaa (by omega)|exact aJ (by omega)|exact aY (by omega)|rfl|exact aaP _|exact aaa (by simp only [aaL,aao,aai,aat,aag];omega)|(rw [ht];exact aJ (by omega))|fail)).trans ?_
   |refine (aa (by first|assumption|exact aH (by first|omega|(simp only [aag];omega))|fail)).trans ?_)
  rw [hs]
  repeat' (first
   |refine (ae (by first|assumption|exact aae (by omega)|exact aO (by omega)|exact aZ (by omega)|rfl|fail)).trans ?_
   |refine (ab (by first|assumption|exact aaa (by omega)|exact aJ (by omega)|exact aY (by omega)|rfl|exact aaP _|exact aaa (by simp only [aaL,aai,aat];omega)|fail)).trans ?_
   |refine (aa (by first|assumption|exact aH (by first|omega|(simp only [aag];omega))|fail)).trans ?_)
  rfl
 show Out.eval (cA _)=_;dsimp only [cA]
 repeat' (first
  |refine (ae (by first|assumption|exact aae (by omega)|exact aO (by omega)|exact aZ (by omega)|rfl|fail)).trans ?_
  |refine (ab (by first|assumption|exact aaa (by omega)|exact aJ (by omega)|exact aY (by omega)|rfl|exact aaP _|exact aaa (by simp only [aaL,aao,aai,aat,aag];omega)|fail)).trans ?_
  |refine (aa (by first|assumption|exact aH (by first|omega|(simp only [aag];omega))|fail)).trans ?_)
 rfl
theorem Vx (h:bS ao ps) (hp:p∈ps) (hb:0≤b∧b<(pg.length:Nat)) (hm:0<(cp p).length):fI ((nx,tk,pg,ps,os,pi,fi,rd,ou,()),(8,p.1,b,c,l,()),())=kv (nx,tk,pg,bO ps p.1 (pn b),os,pi,fi,rd,ou,()):=by
 obtain ⟨i,hi,bZ,hn⟩:=bD h hp;have cU:ak ps p.1=(i:Int):=hi;have nz:nth ps i=some p:=hn;have hL:bV=68719476736:=rfl;have Lz:([]:List Int).length=0:=rfl;have hs:ps.set i (p.1,p.2.1,p.2.2.1,p.2.2.2.1,(p.2.2.2.2.1.1,p.2.2.2.2.1.2.1,()),p.2.2.2.2.2.1,p.2.2.2.2.2.2.1,p.2.2.2.2.2.2.2.1,p.2.2.2.2.2.2.2.2.1,())=ps:=jc hn;have pI:0<p.2.2.2.2.2.1.length:=hm;have hz:pW ((4,()),())=some ((([0,0,0,0],()),()),((),())):=rfl;have key:kT ((nx,tk,pg,ps,os,pi,fi,rd,ou,()),(8,p.1,b,c,l,()),())=kv (nx,tk,pg,bO ps p.1 (pn b),os,pi,fi,rd,ou,()):=by
  show Out.eval (fA _)=_;rw [show bO ps p.1 (pn b)=ps.set i ((pn b) p) from (fk h hn _ rfl).symm];dsimp only [fA];rw [cU];simp only [aaH]
  repeat' (first
   |refine (ae (by first|assumption|exact aae (by omega)|exact aO (by omega)|exact aZ (by omega)|rfl|fail)).trans ?_
   |refine (ab (by first|assumption|exact aaa (by omega)|exact aJ (by omega)|exact aY (by omega)|rfl|exact aaP _|exact aaa (by simp only [aag];omega)|fail)).trans ?_
   |refine (aa (by first|assumption|exact aH (by first|omega|(simp only [aag];omega))|fail)).trans ?_)
  simp only [aaH,hs]
  repeat' (first
   |refine (ae (by first|assumption|exact aae (by omega)|exact aO (by omega)|exact aZ (by omega)|rfl|fail)).trans ?_
   |refine (ab (by first|assumption|exact aaa (by omega)|exact aJ (by omega)|exact aY (by omega)|rfl|exact aaP _|exact aaa (by simp only [aaL,aao,aai,aat,aag];omega)|fail)).trans ?_
   |refine (aa (by first|assumption|exact aH (by first|omega|(simp only [aag];omega))|fail)).trans ?_)
  simp only [List.set_set];rfl
 show Out.eval (cA _)=_;dsimp only [cA]
 repeat' (first
  |refine (ae (by first|assumption|exact aae (by omega)|exact aO (by omega)|exact aZ (by omega)|rfl|fail)).trans ?_
  |refine (ab (by first|assumption|exact aaa (by omega)|exact aJ (by omega)|exact aY (by omega)|rfl|exact aaP _|exact aaa (by simp only [aaL,aao,aai,aat,aag];omega)|fail)).trans ?_
  |refine (aa (by first|assumption|exact aH (by first|omega|(simp only [aag];omega))|fail)).trans ?_)
 rfl
theorem GP (h:bS ao ps) (hp:p∈ps) (hb:0≤b∧b<((aA p).length:Nat)):fI ((nx,tk,pg,ps,os,pi,fi,rd,ou,()),(9,p.1,b,c,l,()),())=kv (nx,tk,pg,bO ps p.1 (cm ((aA p).set b.toNat c)),os,pi,fi,rd,ou,()):=by
 obtain ⟨i,hi,bZ,hn⟩:=bD h hp;have cU:ak ps p.1=(i:Int):=hi;have nz:nth ps i=some p:=hn;have hL:bV=68719476736:=rfl;have Lz:([]:List Int).length=0:=rfl;have hm:nth (aA p) b.toNat=some ((aA p)[b.toNat]'(by omega)):=aaf _;have cf:0≤b∧b<((p.2.2.2.2.2.2.1.length:Nat):Int):=hb;have key:kT ((nx,tk,pg,ps,os,pi,fi,rd,ou,()),(9,p.1,b,c,l,()),())=kv (nx,tk,pg,bO ps p.1 (cm ((aA p).set b.toNat c)),os,pi,fi,rd,ou,()):=by
  show Out.eval (fA _)=_;rw [show bO ps p.1 (cm ((aA p).set b.toNat c))=ps.set i ((cm ((aA p).set b.toNat c)) p) from (fk h hn _ rfl).symm];dsimp only [fA];rw [cU];simp only [aaH]
  repeat' (first
   |refine (ae (by first|assumption|exact aae (by omega)|exact aO (by omega)|exact aZ (by omega)|rfl|fail)).trans ?_
   |refine (ab (by first|assumption|exact aaa (by omega)|exact aJ (by omega)|exact aY (by omega)|rfl|exact aaP _|exact aaa (by simp only [aaL,aao,aai,aat,aag];omega)|fail)).trans ?_
   |refine (aa (by first|assumption|exact aH (by first|omega|(simp only [aag];omega))|fail)).trans ?_)
  rfl
 show Out.eval (cA _)=_;dsimp only [cA]
 repeat' (first
  |refine (ae (by first|assumption|exact aae (by omega)|exact aO (by omega)|exact aZ (by omega)|rfl|fail)).trans ?_
  |refine (ab (by first|assumption|exact aaa (by omega)|exact aJ (by omega)|exact aY (by omega)|rfl|exact aaP _|exact aaa (by simp only [aaL,aao,aai,aat,aag];omega)|fail)).trans ?_
  |refine (aa (by first|assumption|exact aH (by first|omega|(simp only [aag];omega))|fail)).trans ?_)
 rfl
theorem NS (h:bS ao ps) (hp:p∈ps):fI ((nx,tk,pg,ps,os,pi,fi,rd,ou,()),(25,p.1,b,c,l,()),())=kv (nx,tk,pg,bO ps p.1 (Jt b),os,pi,fi,rd,ou,()):=by
 obtain ⟨i,hi,bZ,hn⟩:=bD h hp;have cU:ak ps p.1=(i:Int):=hi;have nz:nth ps i=some p:=hn;have hL:bV=68719476736:=rfl;have Lz:([]:List Int).length=0:=rfl;have key:kT ((nx,tk,pg,ps,os,pi,fi,rd,ou,()),(25,p.1,b,c,l,()),())=kv (nx,tk,pg,bO ps p.1 (Jt b),os,pi,fi,rd,ou,()):=by
  show Out.eval (fA _)=_;rw [show bO ps p.1 (Jt b)=ps.set i ((Jt b) p) from (fk h hn _ rfl).symm];dsimp only [fA];rw [cU];simp only [aaH]
  repeat' (first
   |refine (ae (by first|assumption|exact aae (by omega)|exact aO (by omega)|exact aZ (by omega)|rfl|fail)).trans ?_
   |refine (ab (by first|assumption|exact aaa (by omega)|exact aJ (by omega)|exact aY (by omega)|rfl|exact aaP _|exact aaa (by simp only [aaL,aao,aai,aat,aag];omega)|fail)).trans ?_
   |refine (aa (by first|assumption|exact aH (by first|omega|(simp only [aag];omega))|fail)).trans ?_)
  rfl
 show Out.eval (cA _)=_;dsimp only [cA]
 repeat' (first
  |refine (ae (by first|assumption|exact aae (by omega)|exact aO (by omega)|exact aZ (by omega)|rfl|fail)).trans ?_
  |refine (ab (by first|assumption|exact aaa (by omega)|exact aJ (by omega)|exact aY (by omega)|rfl|exact aaP _|exact aaa (by simp only [aaL,aao,aai,aat,aag];omega)|fail)).trans ?_
  |refine (aa (by first|assumption|exact aH (by first|omega|(simp only [aag];omega))|fail)).trans ?_)
 rfl
theorem Vy (h:bS ao ps) (hp:p∈ps):fI ((nx,tk,pg,ps,os,pi,fi,rd,ou,()),(26,p.1,b,c,l,()),())=kv (nx,tk,pg,bO ps p.1 (ga b),os,pi,fi,rd,ou,()):=by
 obtain ⟨i,hi,bZ,hn⟩:=bD h hp;have cU:ak ps p.1=(i:Int):=hi;have nz:nth ps i=some p:=hn;have hL:bV=68719476736:=rfl;have Lz:([]:List Int).length=0:=rfl;have key:kT ((nx,tk,pg,ps,os,pi,fi,rd,ou,()),(26,p.1,b,c,l,()),())=kv (nx,tk,pg,bO ps p.1 (ga b),os,pi,fi,rd,ou,()):=by
  show Out.eval (fA _)=_;rw [show bO ps p.1 (ga b)=ps.set i ((ga b) p) from (fk h hn _ rfl).symm];dsimp only [fA];rw [cU];simp only [aaH]
  repeat' (first
   |refine (ae (by first|assumption|exact aae (by omega)|exact aO (by omega)|exact aZ (by omega)|rfl|fail)).trans ?_
   |refine (ab (by first|assumption|exact aaa (by omega)|exact aJ (by omega)|exact aY (by omega)|rfl|exact aaP _|exact aaa (by simp only [aaL,aao,aai,aat,aag];omega)|fail)).trans ?_
   |refine (aa (by first|assumption|exact aH (by first|omega|(simp only [aag];omega))|fail)).trans ?_)
  rfl
 show Out.eval (cA _)=_;dsimp only [cA]
 repeat' (first
  |refine (ae (by first|assumption|exact aae (by omega)|exact aO (by omega)|exact aZ (by omega)|rfl|fail)).trans ?_
  |refine (ab (by first|assumption|exact aaa (by omega)|exact aJ (by omega)|exact aY (by omega)|rfl|exact aaP _|exact aaa (by simp only [aaL,aao,aai,aat,aag];omega)|fail)).trans ?_
  |refine (aa (by first|assumption|exact aH (by first|omega|(simp only [aag];omega))|fail)).trans ?_)
 rfl
theorem EZ (h:bS ao ps) (hp:p∈ps) (h6:ps.length≤6):fI ((nx,tk,pg,ps,os,pi,fi,rd,ou,()),(6,p.1,b,c,l,()),())=kv (nx,tk,pg,ux ps p.1,os,pi,fi,rd,ou,()):=by
 obtain ⟨i,hi,bZ,hn⟩:=bD h hp;have cU:ak ps p.1=(i:Int):=hi;have nz:nth ps i=some p:=hn;have hL:bV=68719476736:=rfl;have hs:=jc hn;have hw:IntKind.i64.wrap ((i:Int)+1)=((i+1:Nat):Int):=ar (by have hB:aS=9223372036854775807:=rfl;omega);have key:kT ((nx,tk,pg,ps,os,pi,fi,rd,ou,()),(6,p.1,b,c,l,()),())=kv (nx,tk,pg,ux ps p.1,os,pi,fi,rd,ou,()):=by
  show Out.eval (fA _)=_;rw [show ux ps p.1=ps.take i++ps.drop (i+1) from (ze h hn).symm];dsimp only [fA];rw [cU];simp only [aaH]
  repeat' (first
   |refine (ae (by first|assumption|exact aae (by omega)|exact aO (by omega)|exact aZ (by omega)|rfl|fail)).trans ?_
   |refine (ab (by first|assumption|exact aaa (by omega)|exact aJ (by omega)|exact aY (by omega)|rfl|exact aaP _|exact aaa (by simp only [aat];omega)|fail)).trans ?_
   |refine (aa (by first|assumption|exact aH (by first|omega|(simp only [aag];omega))|fail)).trans ?_)
  simp only [hs,hw,aaH,Int.toNat_zero,Nat.sub_zero,aaL,ada,ahP,agH,adn,ahB]
  repeat' (first
   |refine (ae (by first|assumption|exact aae (by omega)|exact aO (by omega)|exact aZ (by omega)|rfl|fail)).trans ?_
   |refine (ab (by first|assumption|exact aaa (by omega)|exact aJ (by omega)|exact aY (by omega)|rfl|exact aaP _|exact aaa (by simp only [aaL,aao,aai,aat,aag];omega)|fail)).trans ?_
   |refine (aa (by first|assumption|exact aH (by first|omega|(simp only [aag];omega))|fail)).trans ?_)
  rw [show i+(i+1 - i)=i+1 by omega,afP (l:=ps.drop (i+1)) (by rw [adn];omega)];rfl
 show Out.eval (cA _)=_;dsimp only [cA]
 repeat' (first
  |refine (ae (by first|assumption|exact aae (by omega)|exact aO (by omega)|exact aZ (by omega)|rfl|fail)).trans ?_
  |refine (ab (by first|assumption|exact aaa (by omega)|exact aJ (by omega)|exact aY (by omega)|rfl|exact aaP _|exact aaa (by simp only [aaL,aao,aai,aat,aag];omega)|fail)).trans ?_
  |refine (aa (by first|assumption|exact aH (by first|omega|(simp only [aag];omega))|fail)).trans ?_)
 rfl
theorem QF (h:bS ao ps) (hp:p∈ps) (h6:ps.length<6) (hx:nx<100000) (h0:1≤nx) (hm:(cp p).length≤12∧(zN p).2.1.length=4∧(aA p).length=4) (hr:oA ((nx,tk,pg,ps,os,pi,fi,rd,ou,()),((((cp p).length / 4:Nat):Int),()),())=some (((true,()),()),((),(),()))):
  fI ((nx,tk,pg,ps,os,pi,fi,rd,ou,()),(4,nx,p.1,c,l,()),())=kv (nx+1,tk,pg,ps++[lO nx p],os,pi,fi,rd,ou,()):=by
 obtain ⟨i,hi,bZ,hn⟩:=bD h hp;have cU:ak ps p.1=(i:Int):=hi;have nz:nth ps i=some p:=hn;have hL:bV=68719476736:=rfl;have pI:p.2.2.2.2.2.1.length≤12∧p.2.2.2.2.1.2.1.length=4∧p.2.2.2.2.2.2.1.length=4:=hm;have hs:ps.set i (p.1,p.2.1,p.2.2.1,p.2.2.2.1,p.2.2.2.2.1,p.2.2.2.2.2.1,p.2.2.2.2.2.2)=ps:=jc hn;have I1:ps.set i p=ps:=jc hn;have ht0:Int.tdiv ((p.2.2.2.2.2.1.length:Nat):Int) (4:Int)=((p.2.2.2.2.2.1.length / 4:Nat):Int):=rfl;have ht:IntKind.i64.wrap ((p.2.2.2.2.2.1.length / 4:Nat):Int)=((p.2.2.2.2.2.1.length / 4:Nat):Int):=jO (by omega) (by omega);have hw:IntKind.i64.wrap (nx+1)=nx+1:=cS (by omega) (by omega);have hb:((nx != nx)==false)=true:=by rw [pX rfl];rfl
 have hcp:et p.1 p.2.1 p.2.2.1 p.2.2.2.1 p.2.2.2.2.1.1 p.2.2.2.2.1.2.1 p.2.2.2.2.2.1 p.2.2.2.2.2.2.1 p.2.2.2.2.2.2.2.1 p.2.2.2.2.2.2.2.2.1=some (p.1,p.2.1,p.2.2.1,p.2.2.2.1,p.2.2.2.2.1.1,p.2.2.2.2.1.2.1,p.2.2.2.2.2.1,p.2.2.2.2.2.2.1,p.2.2.2.2.2.2.2.1,p.2.2.2.2.2.2.2.2.1):=by
  unfold et;rw [aaK (by omega)]
 have key:QG ((nx,tk,pg,ps,os,pi,fi,rd,ou,()),(4,nx,p.1,c,l,()),())=kv (nx+1,tk,pg,ps++[lO nx p],os,pi,fi,rd,ou,()):=by
  show Out.eval (E0 _)=_;dsimp only [E0];rw [cU];simp only [aaH]
  repeat' (first
   |refine (ae (by first|assumption|exact aae (by omega)|exact aO (by omega)|exact aZ (by omega)|rfl|fail)).trans ?_
   |refine (ab (by first|assumption|exact aaa (by omega)|exact aJ (by omega)|exact aY (by omega)|rfl|exact aaP _|exact aaa (by simp only [aaL,aao,aai,aat,aag];omega)|fail)).trans ?_
   |refine (aa (by first|assumption|exact aH (by first|omega|(simp only [aag];omega))|fail)).trans ?_)
  simp only [hs,ht0,ht]
  repeat' (first
   |refine (ae (by first|assumption|exact aae (by omega)|exact aO (by omega)|exact aZ (by omega)|rfl|fail)).trans ?_
   |refine (ab (by first|assumption|exact aaa (by omega)|exact aJ (by omega)|exact aY (by omega)|rfl|exact aaP _|exact aaa (by simp only [aai,aat,aag];omega)|fail)).trans ?_
   |refine (aa (by first|assumption|exact aH (by first|omega|(simp only [aag];omega))|fail)).trans ?_)
  simp only [I1]
  repeat' (first
   |refine (ae (by first|assumption|exact aae (by omega)|exact aO (by omega)|exact aZ (by omega)|rfl|fail)).trans ?_
   |refine (ab (by first|assumption|exact aaa (by omega)|exact aJ (by omega)|exact aY (by omega)|rfl|exact aaP _|exact aaa (by simp only [aaL,aao,aai,aat,aag];omega)|fail)).trans ?_
   |refine (aa (by first|assumption|exact aH (by first|omega|(simp only [aag];omega))|fail)).trans ?_)
  rw [hw];rfl
 show Out.eval (cA _)=_;dsimp only [cA]
 repeat' (first
  |refine (ae (by first|assumption|exact aae (by omega)|exact aO (by omega)|exact aZ (by omega)|rfl|fail)).trans ?_
  |refine (ab (by first|assumption|exact aaa (by omega)|exact aJ (by omega)|exact aY (by omega)|rfl|exact aaP _|exact aaa (by simp only [aaL,aao,aai,aat,aag];omega)|fail)).trans ?_
  |refine (aa (by first|assumption|exact aH (by first|omega|(simp only [aag];omega))|fail)).trans ?_)
 rfl
def gO {α:Type} (key:α→Int) (y:α) (d:Bool×List α) (x:α):Bool×List α:=if d.1=false∧key y<key x then (true,(d.2++[y])++[x]) else (d.1,d.2++[x])
theorem QH {α:Type} {key:α→Int} {y:α}:∀ (a pre:List α),a.foldl (gO key y) (true,pre)=(true,pre++a)
 |[],pre=>by simp
 |x::r,pre=>by
  rw [ade];have:gO key y (true,pre) x=(true,pre++[x]):=by unfold gO;rw [aap (by simp)]
  rw [this,QH r];simp
theorem rj {α:Type} {key:α→Int} {y:α}:∀ (a pre:List α),(if (a.foldl (gO key y) (false,pre)).1=true then (a.foldl (gO key y) (false,pre)).2 else (a.foldl (gO key y) (false,pre)).2++[y])=pre++bL key y a
 |[],pre=>by simp [bL]
 |x::r,pre=>by
  rw [ade];unfold bL;by_cases h:key y<key x
  . have:gO key y (false,pre) x=(true,(pre++[y])++[x]):=by unfold gO;rw [aaK ⟨rfl,h⟩]
    rw [this,QH,aaK rfl,aaK h];simp
  . have:gO key y (false,pre) x=(false,pre++[x]):=by unfold gO;rw [aap (by simp [h])]
    rw [this,rj r,aap h];simp
theorem zW {α σ β:Type} {f:σ→Out (Round σ β Empty)} {key:α→Int} (y:α) (a:List α) (S:Bool×List α→Nat→σ) (out:Bool×List α→β)
  (hs:∀ i (hi:i<a.length) d,d.2.length≤i+1→(f (S d i)).eval=some (.again (S (gO key y d a[i]) (i+1)))) (hy:∀ d,(f (S d a.length)).eval=some (.out (out d))) (ha:a.length≤aS):
  b5 f bn (S (false,[]) 0)=some (out (a.foldl (gO key y) (false,[]))):=by
 refine foldl_loop (fun d i=>d.2.length≤i+1∧(d.1=false→d.2.length≤i)) (gO key y) a S out (fun i hi d hd=>hs i hi d hd.1) (fun d _=>hy d) (fun i hi d hd=> ?_) ha (false,[]) (by simp);unfold gO;obtain ⟨d1,d2⟩:=d;have hd:d2.length≤i+1∧(d1=false→d2.length≤i):=hd;split
 . rename_i q
   have:=hd.2 q.1;simp only [aao,aai,aat];exact ⟨by omega,fun e=>by cases e⟩
 . simp only [aao,aai,aat]
   exact ⟨by have:=hd.1;omega,fun e=>by have:=hd.2 e;omega⟩
theorem E2 (h:∀ x∈os,x.1≠k) (hk:0≤k∧k≤7) (hl:os.length≤1000):fI ((nx,tk,pg,ps,os,pi,fi,rd,ou,()),(10,k,b,c,l,()),())=kv (nx,tk,pg,ps,bL al (k,b,c,0,0,()) os,pi,fi,rd,ou,()):=by
 have LA:aF os k= -1:=uL (key:=al) h;have hL:bV=68719476736:=rfl;have hB:aS=9223372036854775807:=rfl;have iU:(!(dC k (0:Int) (7:Int)))=false:=by rw [fF.2 hk];rfl
 have LB:=zW (f:=rk) (key:=al) (k,b,c,0,0,()) os (fun d i=>((d.1,(i:Int),()),((nx,tk,()),(10,k,b,c,l,()),(0,0,()),d.2,pg,ps,os,pi,fi,rd,ou,([]:List (List aw)),([]:List af),([]:List ah),([]:List ag),([]:List ag),([]:List Int),([]:List Int),()))) (fun d=>((d.1,()),((nx,tk,()),(10,k,b,c,l,()),(0,0,()),d.2,pg,ps,os,pi,fi,rd,ou,([]:List (List aw)),([]:List af),([]:List ah),([]:List ag),([]:List ag),([]:List Int),([]:List Int),()))) (fun i hi d hd=> ?_) (fun d=> ?_) (by omega)
 . have key:zX ((nx,tk,pg,ps,os,pi,fi,rd,ou,()),(10,k,b,c,l,()),())=kv (nx,tk,pg,ps,bL al (k,b,c,0,0,()) os,pi,fi,rd,ou,()):=by
    show Out.eval (m5 _)=_;dsimp only [m5];rw [LA]
    repeat' (first
     |refine (ae (by first|assumption|exact aae (by omega)|exact aO (by omega)|exact aZ (by omega)|rfl|fail)).trans ?_
     |refine (ab (by first|assumption|exact aaa (by omega)|exact aJ (by omega)|exact aY (by omega)|rfl|exact aaP _|exact aaa (by simp only [aaL,aao,aai,aat,aag];omega)|fail)).trans ?_
     |refine (aa (by first|assumption|exact aH (by first|omega|(simp only [aag];omega))|fail)).trans ?_)
    dsimp only;have hf:=rj (key:=al) (y:=(k,b,c,0,0,())) os [];have hlen:(List.foldl (gO al (k,b,c,0,0,())) (false,[]) os).2.length≤1002:=by
     have h2:=congrArg List.length hf;rw [aaL,jb] at h2;split at h2
     . omega
     . rw [aao] at h2;omega
    rw [aaL] at hf;rw [← hf];generalize List.foldl (gO al (k,b,c,0,0,())) (false,[]) os=d at hlen;obtain ⟨d1,d2⟩:=d;have hlen:d2.length≤1002:=hlen;cases d1
    . refine (ab (by rfl)).trans ?_
      refine (ab (aaa (by simp only [aai,aat];omega))).trans ?_;rfl
    . refine (ae (by rfl)).trans ?_
      rfl
   show Out.eval (cA _)=_;dsimp only [cA]
   repeat' (first
    |refine (ae (by first|assumption|exact aae (by omega)|exact aO (by omega)|exact aZ (by omega)|rfl|fail)).trans ?_
    |refine (ab (by first|assumption|exact aaa (by omega)|exact aJ (by omega)|exact aY (by omega)|rfl|exact aaP _|exact aaa (by simp only [aaL,aao,aai,aat,aag];omega)|fail)).trans ?_
    |refine (aa (by first|assumption|exact aH (by first|omega|(simp only [aag];omega))|fail)).trans ?_)
   rfl
 . have hn:nth os i=some os[i]:=aaf hi
   have hw:IntKind.i64.wrap ((i:Int)+1)=((i+1:Nat):Int):=ar (by omega);obtain ⟨d1,d2⟩:=d;have hd:d2.length≤i+1:=hd;show Out.eval (rk _)=_;dsimp only [rk];rw [hw];simp only [aaH];refine (ab (aaa (by omega))).trans ?_;cases d1
   . refine (ab (by rfl)).trans ?_
     by_cases q:k<al os[i]
     . have e:gO al (k,b,c,0,0,()) (false,d2) os[i]=(true,(d2++[(k,b,c,0,0,())])++[os[i]]):=by unfold gO;rw [aaK ⟨rfl,q⟩]
       have q':os[i].1>k:=q;rw [e]
       repeat' (first
        |refine (ae (by first|assumption|exact aae (by omega)|exact aO (by omega)|exact aZ (by omega)|rfl|fail)).trans ?_
        |refine (ab (by first|assumption|exact aaa (by omega)|exact aJ (by omega)|exact aY (by omega)|rfl|exact aaP _|exact aaa (by simp only [aao,aai,aat];omega)|fail)).trans ?_
        |refine (aa (by first|assumption|exact aH (by first|omega|(simp only [aag];omega))|fail)).trans ?_)
       rfl
     . have e:gO al (k,b,c,0,0,()) (false,d2) os[i]=(false,d2++[os[i]]):=by unfold gO;rw [aap fun h=>q h.2]
       have q':¬ os[i].1>k:=q;rw [e]
       repeat' (first
        |refine (ae (by first|assumption|exact aae (by omega)|exact aO (by omega)|exact aZ (by omega)|rfl|fail)).trans ?_
        |refine (ab (by first|assumption|exact aaa (by omega)|exact aJ (by omega)|exact aY (by omega)|rfl|exact aaP _|exact aaa (by simp only [aai,aat];omega)|fail)).trans ?_
        |refine (aa (by first|assumption|exact aH (by first|omega|(simp only [aag];omega))|fail)).trans ?_)
       rfl
   . have e:gO al (k,b,c,0,0,()) (true,d2) os[i]=(true,d2++[os[i]]):=by unfold gO;rw [aap (by simp)]
     rw [e]
     repeat' (first
      |refine (ae (by first|assumption|exact aae (by omega)|exact aO (by omega)|exact aZ (by omega)|rfl|fail)).trans ?_
      |refine (ab (by first|assumption|exact aaa (by omega)|exact aJ (by omega)|exact aY (by omega)|rfl|exact aaP _|exact aaa (by simp only [aai,aat];omega)|fail)).trans ?_
      |refine (aa (by first|assumption|exact aH (by first|omega|(simp only [aag];omega))|fail)).trans ?_)
     rfl
 . show Out.eval (rk _)=_
   dsimp only [rk];refine (ae (aae (by omega))).trans ?_;rfl
theorem Vz (h:∀ x∈pi,x.1≠k) (hk:0≤k∧k≤2) (hl:pi.length≤1000):fI ((nx,tk,pg,ps,os,pi,fi,rd,ou,()),(14,k,b,c,l,()),())=kv (nx,tk,pg,ps,os,bL aC (k,[],()) pi,fi,rd,ou,()):=by
 have LA:bp pi k= -1:=uL (key:=aC) h;have hL:bV=68719476736:=rfl;have hB:aS=9223372036854775807:=rfl;have iU:(!(dC k (0:Int) (2:Int)))=false:=by rw [fF.2 hk];rfl
 have LB:=zW (f:=rn) (key:=aC) (k,[],()) pi (fun d i=>((d.1,(i:Int),()),((nx,tk,()),(14,k,b,c,l,()),(0,0,()),d.2,pg,ps,os,pi,fi,rd,ou,([]:List (List aw)),([]:List af),([]:List ah),([]:List ag),([]:List ag),([]:List Int),([]:List Int),()))) (fun d=>((d.1,()),((nx,tk,()),(14,k,b,c,l,()),(0,0,()),d.2,pg,ps,os,pi,fi,rd,ou,([]:List (List aw)),([]:List af),([]:List ah),([]:List ag),([]:List ag),([]:List Int),([]:List Int),()))) (fun i hi d hd=> ?_) (fun d=> ?_) (by omega)
 . have key:zY ((nx,tk,pg,ps,os,pi,fi,rd,ou,()),(14,k,b,c,l,()),())=kv (nx,tk,pg,ps,os,bL aC (k,[],()) pi,fi,rd,ou,()):=by
    show Out.eval (m6 _)=_;dsimp only [m6];rw [LA]
    repeat' (first
     |refine (ae (by first|assumption|exact aae (by omega)|exact aO (by omega)|exact aZ (by omega)|rfl|fail)).trans ?_
     |refine (ab (by first|assumption|exact aaa (by omega)|exact aJ (by omega)|exact aY (by omega)|rfl|exact aaP _|exact aaa (by simp only [aaL,aao,aai,aat,aag];omega)|fail)).trans ?_
     |refine (aa (by first|assumption|exact aH (by first|omega|(simp only [aag];omega))|fail)).trans ?_)
    dsimp only;have hf:=rj (key:=aC) (y:=(k,[],())) pi [];have hlen:(List.foldl (gO aC (k,[],())) (false,[]) pi).2.length≤1002:=by
     have h2:=congrArg List.length hf;rw [aaL,jb] at h2;split at h2
     . omega
     . rw [aao] at h2;omega
    rw [aaL] at hf;rw [← hf];generalize List.foldl (gO aC (k,[],())) (false,[]) pi=d at hlen;obtain ⟨d1,d2⟩:=d;have hlen:d2.length≤1002:=hlen;cases d1
    . refine (ab (by rfl)).trans ?_
      refine (ab (aaa (by simp only [aai,aat];omega))).trans ?_;rfl
    . refine (ae (by rfl)).trans ?_
      rfl
   show Out.eval (cA _)=_;dsimp only [cA]
   repeat' (first
    |refine (ae (by first|assumption|exact aae (by omega)|exact aO (by omega)|exact aZ (by omega)|rfl|fail)).trans ?_
    |refine (ab (by first|assumption|exact aaa (by omega)|exact aJ (by omega)|exact aY (by omega)|rfl|exact aaP _|exact aaa (by simp only [aaL,aao,aai,aat,aag];omega)|fail)).trans ?_
    |refine (aa (by first|assumption|exact aH (by first|omega|(simp only [aag];omega))|fail)).trans ?_)
   rfl
 . have hn:nth pi i=some pi[i]:=aaf hi
   have hw:IntKind.i64.wrap ((i:Int)+1)=((i+1:Nat):Int):=ar (by omega);obtain ⟨d1,d2⟩:=d;have hd:d2.length≤i+1:=hd;show Out.eval (rn _)=_;dsimp only [rn];rw [hw];simp only [aaH];refine (ab (aaa (by omega))).trans ?_;cases d1
   . refine (ab (by rfl)).trans ?_
     by_cases q:k<aC pi[i]
     . have e:gO aC (k,[],()) (false,d2) pi[i]=(true,(d2++[(k,[],())])++[pi[i]]):=by unfold gO;rw [aaK ⟨rfl,q⟩]
       have q':pi[i].1>k:=q;rw [e]
       repeat' (first
        |refine (ae (by first|assumption|exact aae (by omega)|exact aO (by omega)|exact aZ (by omega)|rfl|fail)).trans ?_
        |refine (ab (by first|assumption|exact aaa (by omega)|exact aJ (by omega)|exact aY (by omega)|rfl|exact aaP _|exact aaa (by simp only [aao,aai,aat];omega)|fail)).trans ?_
        |refine (aa (by first|assumption|exact aH (by first|omega|(simp only [aag];omega))|fail)).trans ?_)
       rfl
     . have e:gO aC (k,[],()) (false,d2) pi[i]=(false,d2++[pi[i]]):=by unfold gO;rw [aap fun h=>q h.2]
       have q':¬ pi[i].1>k:=q;rw [e]
       repeat' (first
        |refine (ae (by first|assumption|exact aae (by omega)|exact aO (by omega)|exact aZ (by omega)|rfl|fail)).trans ?_
        |refine (ab (by first|assumption|exact aaa (by omega)|exact aJ (by omega)|exact aY (by omega)|rfl|exact aaP _|exact aaa (by simp only [aai,aat];omega)|fail)).trans ?_
        |refine (aa (by first|assumption|exact aH (by first|omega|(simp only [aag];omega))|fail)).trans ?_)
       rfl
   . have e:gO aC (k,[],()) (true,d2) pi[i]=(true,d2++[pi[i]]):=by unfold gO;rw [aap (by simp)]
     rw [e]
     repeat' (first
      |refine (ae (by first|assumption|exact aae (by omega)|exact aO (by omega)|exact aZ (by omega)|rfl|fail)).trans ?_
      |refine (ab (by first|assumption|exact aaa (by omega)|exact aJ (by omega)|exact aY (by omega)|rfl|exact aaP _|exact aaa (by simp only [aai,aat];omega)|fail)).trans ?_
      |refine (aa (by first|assumption|exact aH (by first|omega|(simp only [aag];omega))|fail)).trans ?_)
     rfl
 . show Out.eval (rn _)=_
   dsimp only [rn];refine (ae (aae (by omega))).trans ?_;rfl
theorem VA (h:∀ x∈fi,x.1≠k) (hk:0≤k∧k≤5) (hl:fi.length≤1000):fI ((nx,tk,pg,ps,os,pi,fi,rd,ou,()),(18,k,b,c,l,()),())=kv (nx,tk,pg,ps,os,pi,bL aV (k,[],()) fi,rd,ou,()):=by
 have LA:bt fi k= -1:=uL (key:=aV) h;have hL:bV=68719476736:=rfl;have hB:aS=9223372036854775807:=rfl;have iU:(!(dC k (0:Int) (5:Int)))=false:=by rw [fF.2 hk];rfl
 have LB:=zW (f:=rp) (key:=aV) (k,[],()) fi (fun d i=>((d.1,(i:Int),()),((nx,tk,()),(18,k,b,c,l,()),(0,0,()),d.2,pg,ps,os,pi,fi,rd,ou,([]:List (List aw)),([]:List af),([]:List ah),([]:List ag),([]:List ag),([]:List Int),([]:List Int),()))) (fun d=>((d.1,()),((nx,tk,()),(18,k,b,c,l,()),(0,0,()),d.2,pg,ps,os,pi,fi,rd,ou,([]:List (List aw)),([]:List af),([]:List ah),([]:List ag),([]:List ag),([]:List Int),([]:List Int),()))) (fun i hi d hd=> ?_) (fun d=> ?_) (by omega)
 . have key:E3 ((nx,tk,pg,ps,os,pi,fi,rd,ou,()),(18,k,b,c,l,()),())=kv (nx,tk,pg,ps,os,pi,bL aV (k,[],()) fi,rd,ou,()):=by
    show Out.eval (pY _)=_;dsimp only [pY];rw [LA]
    repeat' (first
     |refine (ae (by first|assumption|exact aae (by omega)|exact aO (by omega)|exact aZ (by omega)|rfl|fail)).trans ?_
     |refine (ab (by first|assumption|exact aaa (by omega)|exact aJ (by omega)|exact aY (by omega)|rfl|exact aaP _|exact aaa (by simp only [aaL,aao,aai,aat,aag];omega)|fail)).trans ?_
     |refine (aa (by first|assumption|exact aH (by first|omega|(simp only [aag];omega))|fail)).trans ?_)
    dsimp only;have hf:=rj (key:=aV) (y:=(k,[],())) fi [];have hlen:(List.foldl (gO aV (k,[],())) (false,[]) fi).2.length≤1002:=by
     have h2:=congrArg List.length hf;rw [aaL,jb] at h2;split at h2
     . omega
     . rw [aao] at h2;omega
    rw [aaL] at hf;rw [← hf];generalize List.foldl (gO aV (k,[],())) (false,[]) fi=d at hlen;obtain ⟨d1,d2⟩:=d;have hlen:d2.length≤1002:=hlen;cases d1
    . refine (ab (by rfl)).trans ?_
      refine (ab (aaa (by simp only [aai,aat];omega))).trans ?_;rfl
    . refine (ae (by rfl)).trans ?_
      rfl
   show Out.eval (cA _)=_;dsimp only [cA]
   repeat' (first
    |refine (ae (by first|assumption|exact aae (by omega)|exact aO (by omega)|exact aZ (by omega)|rfl|fail)).trans ?_
    |refine (ab (by first|assumption|exact aaa (by omega)|exact aJ (by omega)|exact aY (by omega)|rfl|exact aaP _|exact aaa (by simp only [aaL,aao,aai,aat,aag];omega)|fail)).trans ?_
    |refine (aa (by first|assumption|exact aH (by first|omega|(simp only [aag];omega))|fail)).trans ?_)
   rfl
 . have hn:nth fi i=some fi[i]:=aaf hi
   have hw:IntKind.i64.wrap ((i:Int)+1)=((i+1:Nat):Int):=ar (by omega);obtain ⟨d1,d2⟩:=d;have hd:d2.length≤i+1:=hd;show Out.eval (rp _)=_;dsimp only [rp];rw [hw];simp only [aaH];refine (ab (aaa (by omega))).trans ?_;cases d1
   . refine (ab (by rfl)).trans ?_
     by_cases q:k<aV fi[i]
     . have e:gO aV (k,[],()) (false,d2) fi[i]=(true,(d2++[(k,[],())])++[fi[i]]):=by unfold gO;rw [aaK ⟨rfl,q⟩]
       have q':fi[i].1>k:=q;rw [e]
       repeat' (first
        |refine (ae (by first|assumption|exact aae (by omega)|exact aO (by omega)|exact aZ (by omega)|rfl|fail)).trans ?_
        |refine (ab (by first|assumption|exact aaa (by omega)|exact aJ (by omega)|exact aY (by omega)|rfl|exact aaP _|exact aaa (by simp only [aao,aai,aat];omega)|fail)).trans ?_
        |refine (aa (by first|assumption|exact aH (by first|omega|(simp only [aag];omega))|fail)).trans ?_)
       rfl
     . have e:gO aV (k,[],()) (false,d2) fi[i]=(false,d2++[fi[i]]):=by unfold gO;rw [aap fun h=>q h.2]
       have q':¬ fi[i].1>k:=q;rw [e]
       repeat' (first
        |refine (ae (by first|assumption|exact aae (by omega)|exact aO (by omega)|exact aZ (by omega)|rfl|fail)).trans ?_
        |refine (ab (by first|assumption|exact aaa (by omega)|exact aJ (by omega)|exact aY (by omega)|rfl|exact aaP _|exact aaa (by simp only [aai,aat];omega)|fail)).trans ?_
        |refine (aa (by first|assumption|exact aH (by first|omega|(simp only [aag];omega))|fail)).trans ?_)
       rfl
   . have e:gO aV (k,[],()) (true,d2) fi[i]=(true,d2++[fi[i]]):=by unfold gO;rw [aap (by simp)]
     rw [e]
     repeat' (first
      |refine (ae (by first|assumption|exact aae (by omega)|exact aO (by omega)|exact aZ (by omega)|rfl|fail)).trans ?_
      |refine (ab (by first|assumption|exact aaa (by omega)|exact aJ (by omega)|exact aY (by omega)|rfl|exact aaP _|exact aaa (by simp only [aai,aat];omega)|fail)).trans ?_
      |refine (aa (by first|assumption|exact aH (by first|omega|(simp only [aag];omega))|fail)).trans ?_)
     rfl
 . show Out.eval (rp _)=_
   dsimp only [rp];refine (ae (aae (by omega))).trans ?_;rfl
theorem wP (h:bS al os) (ho:o∈os) (_:os.length≤1000) (hr: -1000≤bN o+b∧bN o+b≤1000):fI ((nx,tk,pg,ps,os,pi,fi,rd,ou,()),(11,o.1,b,c,l,()),())=kv (nx,tk,pg,ps,ca al os o.1 (cV (bN o+b)),pi,fi,rd,ou,()):=by
 obtain ⟨i,hi,bZ,hn⟩:=bD h ho;have cU:aF os o.1=(i:Int):=hi;have nz:nth os i=some o:=hn;have hL:bV=68719476736:=rfl;have GQ: -1000≤o.2.2.2.2.1+b∧o.2.2.2.2.1+b≤1000:=hr;have hw:IntKind.i64.wrap (o.2.2.2.2.1+b)=o.2.2.2.2.1+b:=cS (by omega) (by omega);have key:zX ((nx,tk,pg,ps,os,pi,fi,rd,ou,()),(11,o.1,b,c,l,()),())=kv (nx,tk,pg,ps,ca al os o.1 (cV (bN o+b)),pi,fi,rd,ou,()):=by
  show Out.eval (m5 _)=_;dsimp only [m5];rw [cU];rw [show ca al os o.1 (cV (bN o+b))=os.set i (cV (bN o+b) o) from (fk h hn _ rfl).symm];simp only [aaH]
  repeat' (first
   |refine (ae (by first|assumption|exact aae (by omega)|exact aO (by omega)|exact aZ (by omega)|rfl|fail)).trans ?_
   |refine (ab (by first|assumption|exact aaa (by omega)|exact aJ (by omega)|exact aY (by omega)|rfl|exact aaP _|exact aaa (by simp only [aaL,aao,aai,aat,aag];omega)|fail)).trans ?_
   |refine (aa (by first|assumption|exact aH (by first|omega|(simp only [aag];omega))|fail)).trans ?_)
  rw [hw];rfl
 show Out.eval (cA _)=_;dsimp only [cA]
 repeat' (first
  |refine (ae (by first|assumption|exact aae (by omega)|exact aO (by omega)|exact aZ (by omega)|rfl|fail)).trans ?_
  |refine (ab (by first|assumption|exact aaa (by omega)|exact aJ (by omega)|exact aY (by omega)|rfl|exact aaP _|exact aaa (by simp only [aaL,aao,aai,aat,aag];omega)|fail)).trans ?_
  |refine (aa (by first|assumption|exact aH (by first|omega|(simp only [aag];omega))|fail)).trans ?_)
 rfl
theorem QI (h:bS al os) (ho:o∈os) (_:os.length≤1000):fI ((nx,tk,pg,ps,os,pi,fi,rd,ou,()),(13,o.1,b,c,l,()),())=kv (nx,tk,pg,ps,ca al os o.1 (wH b),pi,fi,rd,ou,()):=by
 obtain ⟨i,hi,bZ,hn⟩:=bD h ho;have cU:aF os o.1=(i:Int):=hi;have nz:nth os i=some o:=hn;have hL:bV=68719476736:=rfl;have key:zX ((nx,tk,pg,ps,os,pi,fi,rd,ou,()),(13,o.1,b,c,l,()),())=kv (nx,tk,pg,ps,ca al os o.1 (wH b),pi,fi,rd,ou,()):=by
  show Out.eval (m5 _)=_;dsimp only [m5];rw [cU];rw [show ca al os o.1 (wH b)=os.set i (wH b o) from (fk h hn _ rfl).symm];simp only [aaH]
  repeat' (first
   |refine (ae (by first|assumption|exact aae (by omega)|exact aO (by omega)|exact aZ (by omega)|rfl|fail)).trans ?_
   |refine (ab (by first|assumption|exact aaa (by omega)|exact aJ (by omega)|exact aY (by omega)|rfl|exact aaP _|exact aaa (by simp only [aaL,aao,aai,aat,aag];omega)|fail)).trans ?_
   |refine (aa (by first|assumption|exact aH (by first|omega|(simp only [aag];omega))|fail)).trans ?_)
  rfl
 show Out.eval (cA _)=_;dsimp only [cA]
 repeat' (first
  |refine (ae (by first|assumption|exact aae (by omega)|exact aO (by omega)|exact aZ (by omega)|rfl|fail)).trans ?_
  |refine (ab (by first|assumption|exact aaa (by omega)|exact aJ (by omega)|exact aY (by omega)|rfl|exact aaP _|exact aaa (by simp only [aaL,aao,aai,aat,aag];omega)|fail)).trans ?_
  |refine (aa (by first|assumption|exact aH (by first|omega|(simp only [aag];omega))|fail)).trans ?_)
 rfl
theorem LC (h:bS al os) (ho:o∈os) (hl:os.length≤1000):fI ((nx,tk,pg,ps,os,pi,fi,rd,ou,()),(12,o.1,b,c,l,()),())=kv (nx,tk,pg,ps,BP os o.1,pi,fi,rd,ou,()):=by
 obtain ⟨i,hi,bZ,hn⟩:=bD h ho;have cU:aF os o.1=(i:Int):=hi;have nz:nth os i=some o:=hn;have hL:bV=68719476736:=rfl;have hw:IntKind.i64.wrap ((i:Int)+1)=((i+1:Nat):Int):=ar (by have hB:aS=9223372036854775807:=rfl;omega);have key:zX ((nx,tk,pg,ps,os,pi,fi,rd,ou,()),(12,o.1,b,c,l,()),())=kv (nx,tk,pg,ps,BP os o.1,pi,fi,rd,ou,()):=by
  show Out.eval (m5 _)=_;dsimp only [m5];rw [cU];rw [show BP os o.1=os.take i++os.drop (i+1) from (ze h hn).symm];simp only [hw,aaH,Int.toNat_zero,Nat.sub_zero,aaL,ada,ahP,agH,adn]
  repeat' (first
   |refine (ae (by first|assumption|exact aae (by omega)|exact aO (by omega)|exact aZ (by omega)|rfl|fail)).trans ?_
   |refine (ab (by first|assumption|exact aaa (by omega)|exact aJ (by omega)|exact aY (by omega)|rfl|exact aaP _|exact aaa (by simp only [aat];omega)|fail)).trans ?_
   |refine (aa (by first|assumption|exact aH (by first|omega|(simp only [aag];omega))|fail)).trans ?_)
  rw [afP (l:=os.drop (i+1)) (by rw [adn];omega)];rfl
 show Out.eval (cA _)=_;dsimp only [cA]
 repeat' (first
  |refine (ae (by first|assumption|exact aae (by omega)|exact aO (by omega)|exact aZ (by omega)|rfl|fail)).trans ?_
  |refine (ab (by first|assumption|exact aaa (by omega)|exact aJ (by omega)|exact aY (by omega)|rfl|exact aaP _|exact aaa (by simp only [aaL,aao,aai,aat,aag];omega)|fail)).trans ?_
  |refine (aa (by first|assumption|exact aH (by first|omega|(simp only [aag];omega))|fail)).trans ?_)
 rfl
theorem acC (h:bS aC pi) (hy:y∈pi) (_:pi.length≤1000) (h4:y.2.1.length<4):fI ((nx,tk,pg,ps,os,pi,fi,rd,ou,()),(15,y.1,b,c,l,()),())=kv (nx,tk,pg,ps,os,ca aC pi y.1 (fu (y.2.1++[b])),fi,rd,ou,()):=by
 obtain ⟨i,hi,bZ,hn⟩:=bD h hy;have cU:bp pi y.1=(i:Int):=hi;have nz:nth pi i=some y:=hn;have hL:bV=68719476736:=rfl;have key:zY ((nx,tk,pg,ps,os,pi,fi,rd,ou,()),(15,y.1,b,c,l,()),())=kv (nx,tk,pg,ps,os,ca aC pi y.1 (fu (y.2.1++[b])),fi,rd,ou,()):=by
  show Out.eval (m6 _)=_;dsimp only [m6];rw [cU];rw [show ca aC pi y.1 (fu (y.2.1++[b]))=pi.set i (fu (y.2.1++[b]) y) from (fk h hn _ rfl).symm];simp only [aaH,aaL]
  repeat' (first
   |refine (ae (by first|assumption|exact aae (by omega)|exact aO (by omega)|exact aZ (by omega)|rfl|fail)).trans ?_
   |refine (ab (by first|assumption|exact aaa (by omega)|exact aJ (by omega)|exact aY (by omega)|rfl|exact aaP _|exact aaa (by simp only [aai,aat];omega)|fail)).trans ?_
   |refine (aa (by first|assumption|exact aH (by first|omega|(simp only [aag];omega))|fail)).trans ?_)
  rfl
 show Out.eval (cA _)=_;dsimp only [cA]
 repeat' (first
  |refine (ae (by first|assumption|exact aae (by omega)|exact aO (by omega)|exact aZ (by omega)|rfl|fail)).trans ?_
  |refine (ab (by first|assumption|exact aaa (by omega)|exact aJ (by omega)|exact aY (by omega)|rfl|exact aaP _|exact aaa (by simp only [aaL,aao,aai,aat,aag];omega)|fail)).trans ?_
  |refine (aa (by first|assumption|exact aH (by first|omega|(simp only [aag];omega))|fail)).trans ?_)
 rfl
theorem VB (h:bS aC pi) (hy:y∈pi) (_:pi.length≤1000) (h4:0<y.2.1.length∧y.2.1.length≤4):fI ((nx,tk,pg,ps,os,pi,fi,rd,ou,()),(16,y.1,b,c,l,()),())=kv (nx,tk,pg,ps,os,ca aC pi y.1 (fu (y.2.1.drop 1)),fi,rd,ou,()):=by
 obtain ⟨i,hi,bZ,hn⟩:=bD h hy;have cU:bp pi y.1=(i:Int):=hi;have nz:nth pi i=some y:=hn;have hL:bV=68719476736:=rfl;have he:(((y.2.1.length:Nat):Int)==0)=false:=eB (by omega);have hd:(y.2.1.drop 1).length≤4:=by rw [adn];omega
 have key:zY ((nx,tk,pg,ps,os,pi,fi,rd,ou,()),(16,y.1,b,c,l,()),())=kv (nx,tk,pg,ps,os,ca aC pi y.1 (fu (y.2.1.drop 1)),fi,rd,ou,()):=by
  show Out.eval (m6 _)=_;dsimp only [m6];rw [cU];rw [show ca aC pi y.1 (fu (y.2.1.drop 1))=pi.set i (fu (y.2.1.drop 1) y) from (fk h hn _ rfl).symm];simp only [aaH,aaL,Int.toNat_one,adn]
  repeat' (first
   |refine (ae (by first|assumption|exact aae (by omega)|exact aO (by omega)|exact aZ (by omega)|rfl|fail)).trans ?_
   |refine (ab (by first|assumption|exact aaa (by omega)|exact aJ (by omega)|exact aY (by omega)|rfl|exact aaP _|exact aaa (by simp only [aat];omega)|fail)).trans ?_
   |refine (aa (by first|assumption|exact aH (by first|omega|(simp only [aag];omega))|fail)).trans ?_)
  rfl
 show Out.eval (cA _)=_;dsimp only [cA]
 repeat' (first
  |refine (ae (by first|assumption|exact aae (by omega)|exact aO (by omega)|exact aZ (by omega)|rfl|fail)).trans ?_
  |refine (ab (by first|assumption|exact aaa (by omega)|exact aJ (by omega)|exact aY (by omega)|rfl|exact aaP _|exact aaa (by simp only [aaL,aao,aai,aat,aag];omega)|fail)).trans ?_
  |refine (aa (by first|assumption|exact aH (by first|omega|(simp only [aag];omega))|fail)).trans ?_)
 rfl
theorem NT (h:bS aC pi) (hy:y∈pi) (hl:pi.length≤1000):fI ((nx,tk,pg,ps,os,pi,fi,rd,ou,()),(17,y.1,b,c,l,()),())=kv (nx,tk,pg,ps,os,Lh pi y.1,fi,rd,ou,()):=by
 obtain ⟨i,hi,bZ,hn⟩:=bD h hy;have cU:bp pi y.1=(i:Int):=hi;have nz:nth pi i=some y:=hn;have hL:bV=68719476736:=rfl;have hw:IntKind.i64.wrap ((i:Int)+1)=((i+1:Nat):Int):=ar (by have hB:aS=9223372036854775807:=rfl;omega);have key:zY ((nx,tk,pg,ps,os,pi,fi,rd,ou,()),(17,y.1,b,c,l,()),())=kv (nx,tk,pg,ps,os,Lh pi y.1,fi,rd,ou,()):=by
  show Out.eval (m6 _)=_;dsimp only [m6];rw [cU];simp only [aaH];rw [show Lh pi y.1=pi.take i++pi.drop (i+1) from (ze h hn).symm];simp only [hw,aaH,Int.toNat_zero,Nat.sub_zero,aaL,ada,ahP,agH,adn]
  repeat' (first
   |refine (ae (by first|assumption|exact aae (by omega)|exact aO (by omega)|exact aZ (by omega)|rfl|fail)).trans ?_
   |refine (ab (by first|assumption|exact aaa (by omega)|exact aJ (by omega)|exact aY (by omega)|rfl|exact aaP _|exact aaa (by simp only [aat];omega)|fail)).trans ?_
   |refine (aa (by first|assumption|exact aH (by first|omega|(simp only [aag];omega))|fail)).trans ?_)
  rw [afP (l:=pi.drop (i+1)) (by rw [adn];omega)];rfl
 show Out.eval (cA _)=_;dsimp only [cA]
 repeat' (first
  |refine (ae (by first|assumption|exact aae (by omega)|exact aO (by omega)|exact aZ (by omega)|rfl|fail)).trans ?_
  |refine (ab (by first|assumption|exact aaa (by omega)|exact aJ (by omega)|exact aY (by omega)|rfl|exact aaP _|exact aaa (by simp only [aaL,aao,aai,aat,aag];omega)|fail)).trans ?_
  |refine (aa (by first|assumption|exact aH (by first|omega|(simp only [aag];omega))|fail)).trans ?_)
 rfl
theorem VC (h:bS aV fi) (hy:y∈fi) (hl:fi.length≤1000):fI ((nx,tk,pg,ps,os,pi,fi,rd,ou,()),(20,y.1,b,c,l,()),())=kv (nx,tk,pg,ps,os,pi,Lh fi y.1,rd,ou,()):=by
 obtain ⟨i,hi,bZ,hn⟩:=bD h hy;have cU:bt fi y.1=(i:Int):=hi;have nz:nth fi i=some y:=hn;have hL:bV=68719476736:=rfl;have hw:IntKind.i64.wrap ((i:Int)+1)=((i+1:Nat):Int):=ar (by have hB:aS=9223372036854775807:=rfl;omega);have key:E3 ((nx,tk,pg,ps,os,pi,fi,rd,ou,()),(20,y.1,b,c,l,()),())=kv (nx,tk,pg,ps,os,pi,Lh fi y.1,rd,ou,()):=by
  show Out.eval (pY _)=_;dsimp only [pY];rw [cU];rw [show Lh fi y.1=fi.take i++fi.drop (i+1) from (ze h hn).symm];simp only [hw,aaH,Int.toNat_zero,Nat.sub_zero,aaL,ada,ahP,agH,adn]
  repeat' (first
   |refine (ae (by first|assumption|exact aae (by omega)|exact aO (by omega)|exact aZ (by omega)|rfl|fail)).trans ?_
   |refine (ab (by first|assumption|exact aaa (by omega)|exact aJ (by omega)|exact aY (by omega)|rfl|exact aaP _|exact aaa (by simp only [aat];omega)|fail)).trans ?_
   |refine (aa (by first|assumption|exact aH (by first|omega|(simp only [aag];omega))|fail)).trans ?_)
  rw [afP (l:=fi.drop (i+1)) (by rw [adn];omega)];rfl
 show Out.eval (cA _)=_;dsimp only [cA]
 repeat' (first
  |refine (ae (by first|assumption|exact aae (by omega)|exact aO (by omega)|exact aZ (by omega)|rfl|fail)).trans ?_
  |refine (ab (by first|assumption|exact aaa (by omega)|exact aJ (by omega)|exact aY (by omega)|rfl|exact aaP _|exact aaa (by simp only [aaL,aao,aai,aat,aag];omega)|fail)).trans ?_
  |refine (aa (by first|assumption|exact aH (by first|omega|(simp only [aag];omega))|fail)).trans ?_)
 rfl
def iy (d:List Int) (b c:Int):List Int:=if b=((d.length:Nat):Int) then d++[c] else d.set b.toNat c
theorem VD (h:bS aV fi) (hy:y∈fi) (_:fi.length≤1000) (hlen:y.2.1.length≤8) (hb:0≤b∧b≤((y.2.1.length:Nat):Int)∧b<8):fI ((nx,tk,pg,ps,os,pi,fi,rd,ou,()),(19,y.1,b,c,l,()),())=kv (nx,tk,pg,ps,os,pi,ca aV fi y.1 (fu (iy y.2.1 b c)),rd,ou,()):=by
 obtain ⟨i,hi,bZ,hn⟩:=bD h hy;have cU:bt fi y.1=(i:Int):=hi;have nz:nth fi i=some y:=hn;have hL:bV=68719476736:=rfl;have key:E3 ((nx,tk,pg,ps,os,pi,fi,rd,ou,()),(19,y.1,b,c,l,()),())=kv (nx,tk,pg,ps,os,pi,ca aV fi y.1 (fu (iy y.2.1 b c)),rd,ou,()):=by
  show Out.eval (pY _)=_;dsimp only [pY];rw [cU];rw [show ca aV fi y.1 (fu (iy y.2.1 b c))=fi.set i (fu (iy y.2.1 b c) y) from (fk h hn _ rfl).symm];simp only [aaH,aaL];by_cases q:b=((y.2.1.length:Nat):Int)
  . have he:(b==((y.2.1.length:Nat):Int))=true:=di q
    unfold iy;rw [aaK q]
    repeat' (first
     |refine (ae (by first|assumption|exact aae (by omega)|exact aO (by omega)|exact aZ (by omega)|rfl|fail)).trans ?_
     |refine (ab (by first|assumption|exact aaa (by omega)|exact aJ (by omega)|exact aY (by omega)|rfl|exact aaP _|exact aaa (by simp only [aai,aat];omega)|fail)).trans ?_
     |refine (aa (by first|assumption|exact aH (by first|omega|(simp only [aag];omega))|fail)).trans ?_)
    rfl
  . have he:(b==((y.2.1.length:Nat):Int))=false:=eB q
    have hnb:nth y.2.1 b.toNat=some (y.2.1[b.toNat]'(by omega)):=aaf _;unfold iy;rw [aap q]
    repeat' (first
     |refine (ae (by first|assumption|exact aae (by omega)|exact aO (by omega)|exact aZ (by omega)|rfl|fail)).trans ?_
     |refine (ab (by first|assumption|exact aaa (by omega)|exact aJ (by omega)|exact aY (by omega)|rfl|exact aaP _|exact aaa (by simp only [aat];omega)|fail)).trans ?_
     |refine (aa (by first|assumption|exact aH (by first|omega|(simp only [aag];omega))|fail)).trans ?_)
    rfl
 show Out.eval (cA _)=_;dsimp only [cA]
 repeat' (first
  |refine (ae (by first|assumption|exact aae (by omega)|exact aO (by omega)|exact aZ (by omega)|rfl|fail)).trans ?_
  |refine (ab (by first|assumption|exact aaa (by omega)|exact aJ (by omega)|exact aY (by omega)|rfl|exact aaP _|exact aaa (by simp only [aaL,aao,aai,aat,aag];omega)|fail)).trans ?_
  |refine (aa (by first|assumption|exact aH (by first|omega|(simp only [aag];omega))|fail)).trans ?_)
 rfl
theorem zg (hl:rd.length<6):fI ((nx,tk,pg,ps,os,pi,fi,rd,ou,()),(21,k,b,c,l,()),())=kv (nx,tk,pg,ps,os,pi,fi,rd++[k],ou,()):=by
 have hL:bV=68719476736:=rfl;have key:zZ ((nx,tk,pg,ps,os,pi,fi,rd,ou,()),(21,k,b,c,l,()),())=kv (nx,tk,pg,ps,os,pi,fi,rd++[k],ou,()):=by
  show Out.eval (m7 _)=_;dsimp only [m7]
  repeat' (first
   |refine (ae (by first|assumption|exact aae (by omega)|exact aO (by omega)|exact aZ (by omega)|rfl|fail)).trans ?_
   |refine (ab (by first|assumption|exact aaa (by omega)|exact aJ (by omega)|exact aY (by omega)|rfl|exact aaP _|exact aaa (by simp only [aai,aat];omega)|fail)).trans ?_
   |refine (aa (by first|assumption|exact aH (by first|omega|(simp only [aag];omega))|fail)).trans ?_)
  rfl
 show Out.eval (cA _)=_;dsimp only [cA]
 repeat' (first
  |refine (ae (by first|assumption|exact aae (by omega)|exact aO (by omega)|exact aZ (by omega)|rfl|fail)).trans ?_
  |refine (ab (by first|assumption|exact aaa (by omega)|exact aJ (by omega)|exact aY (by omega)|rfl|exact aaP _|exact aaa (by simp only [aaL,aao,aai,aat,aag];omega)|fail)).trans ?_
  |refine (aa (by first|assumption|exact aH (by first|omega|(simp only [aag];omega))|fail)).trans ?_)
 rfl
theorem acE (hl:ou.length<60):fI ((nx,tk,pg,ps,os,pi,fi,rd,ou,()),(23,k,b,c,l,()),())=kv (nx,tk,pg,ps,os,pi,fi,rd,ou++[k],()):=by
 have hL:bV=68719476736:=rfl;have key:zZ ((nx,tk,pg,ps,os,pi,fi,rd,ou,()),(23,k,b,c,l,()),())=kv (nx,tk,pg,ps,os,pi,fi,rd,ou++[k],()):=by
  show Out.eval (m7 _)=_;dsimp only [m7]
  repeat' (first
   |refine (ae (by first|assumption|exact aae (by omega)|exact aO (by omega)|exact aZ (by omega)|rfl|fail)).trans ?_
   |refine (ab (by first|assumption|exact aaa (by omega)|exact aJ (by omega)|exact aY (by omega)|rfl|exact aaP _|exact aaa (by simp only [aai,aat];omega)|fail)).trans ?_
   |refine (aa (by first|assumption|exact aH (by first|omega|(simp only [aag];omega))|fail)).trans ?_)
  rfl
 show Out.eval (cA _)=_;dsimp only [cA]
 repeat' (first
  |refine (ae (by first|assumption|exact aae (by omega)|exact aO (by omega)|exact aZ (by omega)|rfl|fail)).trans ?_
  |refine (ab (by first|assumption|exact aaa (by omega)|exact aJ (by omega)|exact aY (by omega)|rfl|exact aaP _|exact aaa (by simp only [aaL,aao,aai,aat,aag];omega)|fail)).trans ?_
  |refine (aa (by first|assumption|exact aH (by first|omega|(simp only [aag];omega))|fail)).trans ?_)
 rfl
theorem VE (h0:0≤tk) (hl:tk<1000000):fI ((nx,tk,pg,ps,os,pi,fi,rd,ou,()),(24,k,b,c,l,()),())=kv (nx,tk+1,pg,ps,os,pi,fi,rd,ou,()):=by
 have hL:bV=68719476736:=rfl;have hw:IntKind.i64.wrap (tk+1)=tk+1:=cS (by omega) (by omega);have key:zZ ((nx,tk,pg,ps,os,pi,fi,rd,ou,()),(24,k,b,c,l,()),())=kv (nx,tk+1,pg,ps,os,pi,fi,rd,ou,()):=by
  show Out.eval (m7 _)=_;dsimp only [m7]
  repeat' (first
   |refine (ae (by first|assumption|exact aae (by omega)|exact aO (by omega)|exact aZ (by omega)|rfl|fail)).trans ?_
   |refine (ab (by first|assumption|exact aaa (by omega)|exact aJ (by omega)|exact aY (by omega)|rfl|exact aaP _|exact aaa (by simp only [aaL,aao,aai,aat,aag];omega)|fail)).trans ?_
   |refine (aa (by first|assumption|exact aH (by first|omega|(simp only [aag];omega))|fail)).trans ?_)
  rw [hw];rfl
 show Out.eval (cA _)=_;dsimp only [cA]
 repeat' (first
  |refine (ae (by first|assumption|exact aae (by omega)|exact aO (by omega)|exact aZ (by omega)|rfl|fail)).trans ?_
  |refine (ab (by first|assumption|exact aaa (by omega)|exact aJ (by omega)|exact aY (by omega)|rfl|exact aaP _|exact aaa (by simp only [aaL,aao,aai,aat,aag];omega)|fail)).trans ?_
  |refine (aa (by first|assumption|exact aH (by first|omega|(simp only [aag];omega))|fail)).trans ?_)
 rfl
theorem GR {x:Int}:∀ {l:List Int} {i:Nat},l.findIdx? (fun y=>y==x)=some i→l.take i++l.drop (i+1)=l.erase x
 |[],i,h=>by simp at h
 |y::r,i,h=>by
  rw [List.findIdx?_cons] at h;by_cases q:(y==x)=true
  . rw [aaK q] at h
    obtain rfl:=aaG h;rw [List.erase_cons,aaK q];rfl
  . rw [aap q] at h
    obtain ⟨j,hj,rfl⟩:=Option.map_eq_some_iff.1 h;rw [List.erase_cons,aap q, ← GR hj];rfl
theorem zh (hm:k∈rd) (hl:rd.length≤1000):fI ((nx,tk,pg,ps,os,pi,fi,rd,ou,()),(22,k,b,c,l,()),())=kv (nx,tk,pg,ps,os,pi,fi,rd.erase k,ou,()):=by
 have hL:bV=68719476736:=rfl;have hB:aS=9223372036854775807:=rfl;have LB:=dZ (f:=mE) rd (fun y=>y==k) (fun i=>(((i:Int),()),((nx,tk,()),(22,k,b,c,l,()),(0,0,()),pg,ps,os,pi,fi,rd,ou,([]:List (List aw)),([]:List af),([]:List ah),([]:List ag),([]:List ag),([]:List Int),([]:List Int),())))
  (z:=fun i=>((true,()),((nx,tk,()),pg,ps,os,pi,fi,rd.take i++rd.drop (i+1),ou,()))) (y:=((),((nx,tk,()),(0,0,()),pg,ps,os,pi,fi,rd,ou,([]:List (List aw)),([]:List af),([]:List ah),([]:List ag),([]:List ag),([]:List Int),([]:List Int),()))) (fun i hi q=> ?_) (fun i hi q=> ?_) ?_ (by omega)
 . obtain ⟨i,hi⟩:∃ i,rd.findIdx? (fun y=>y==k)=some i:=by
    cases e:rd.findIdx? (fun y=>y==k) with
    |some i=>exact ⟨i,rfl⟩
    |none=>rw [afI] at e;have:=e k hm;simp at this
   rw [hi] at LB;have key:zZ ((nx,tk,pg,ps,os,pi,fi,rd,ou,()),(22,k,b,c,l,()),())=kv (nx,tk,pg,ps,os,pi,fi,rd.erase k,ou,()):=by
    rw [← GR hi];show Out.eval (m7 _)=_;dsimp only [m7]
    repeat' (first
     |refine (ae (by first|assumption|exact aae (by omega)|exact aO (by omega)|exact aZ (by omega)|rfl|fail)).trans ?_
     |refine (ab (by first|assumption|exact aaa (by omega)|exact aJ (by omega)|exact aY (by omega)|rfl|exact aaP _|exact aaa (by simp only [aaL,aao,aai,aat,aag];omega)|fail)).trans ?_
     |refine (aa (by first|assumption|exact aH (by first|omega|(simp only [aag];omega))|fail)).trans ?_)
    rfl
   show Out.eval (cA _)=_;dsimp only [cA]
   repeat' (first
    |refine (ae (by first|assumption|exact aae (by omega)|exact aO (by omega)|exact aZ (by omega)|rfl|fail)).trans ?_
    |refine (ab (by first|assumption|exact aaa (by omega)|exact aJ (by omega)|exact aY (by omega)|rfl|exact aaP _|exact aaa (by simp only [aaL,aao,aai,aat,aag];omega)|fail)).trans ?_
    |refine (aa (by first|assumption|exact aH (by first|omega|(simp only [aag];omega))|fail)).trans ?_)
   rfl
 . have hn:nth rd i=some rd[i]:=aaf hi
   have hw:IntKind.i64.wrap ((i:Int)+1)=((i+1:Nat):Int):=ar (by omega);show Out.eval (mE _)=_;dsimp only [mE];simp only [aaH,hw]
   repeat' (first
    |refine (ae (by first|assumption|exact aae (by omega)|exact aO (by omega)|exact aZ (by omega)|rfl|fail)).trans ?_
    |refine (ab (by first|assumption|exact aaa (by omega)|exact aJ (by omega)|exact aY (by omega)|rfl|exact aaP _|exact aaa (by simp only [aaL,aao,aai,aat,aag];omega)|fail)).trans ?_
    |refine (aa (by first|assumption|exact aH (by first|omega|(simp only [aag];omega))|fail)).trans ?_)
   rfl
 . have hn:nth rd i=some rd[i]:=aaf hi
   have hw:IntKind.i64.wrap ((i:Int)+1)=((i+1:Nat):Int):=ar (by omega);show Out.eval (mE _)=_;dsimp only [mE];simp only [hw,aaH,Int.toNat_zero,Nat.sub_zero,aaL,ada,ahP,agH,adn]
   repeat' (first
    |refine (ae (by first|assumption|exact aae (by omega)|exact aO (by omega)|exact aZ (by omega)|rfl|fail)).trans ?_
    |refine (ab (by first|assumption|exact aaa (by omega)|exact aJ (by omega)|exact aY (by omega)|rfl|exact aaP _|exact aaa (by simp only [aat];omega)|fail)).trans ?_
    |refine (aa (by first|assumption|exact aH (by first|omega|(simp only [aag];omega))|fail)).trans ?_)
   rw [afP (l:=rd.drop (i+1)) (by rw [adn];omega)];rfl
 . show Out.eval (mE _)=_
   dsimp only [mE]
   repeat' (first
    |refine (ae (by first|assumption|exact aae (by omega)|exact aO (by omega)|exact aZ (by omega)|rfl|fail)).trans ?_
    |refine (ab (by first|assumption|exact aaa (by omega)|exact aJ (by omega)|exact aY (by omega)|rfl|exact aaP _|exact aaa (by simp only [aaL,aao,aai,aat,aag];omega)|fail)).trans ?_
    |refine (aa (by first|assumption|exact aH (by first|omega|(simp only [aag];omega))|fail)).trans ?_)
   rfl
theorem VF (h:∀ p∈ps,(cp p).length≤12∧(cp p).length % 4=0) (hl:ps.length≤6) {n:Nat} (hn:n≤1000) {q:Bool} (hq:decide (my ps+4*n≤64)=q):oA ((nx,tk,pg,ps,os,pi,fi,rd,ou,()),((n:Int),()),())=some (((q,()),()),((),(),())):=by
 obtain ⟨m,h1,h2⟩:=wG ps h hl;have h3:my ps≤12*6:=by
  have:∀ ps:List af,(∀ p∈ps,(cp p).length≤12)→my ps≤12*ps.length:=by
   intro ps
   induction ps with
   |nil=>intro _;exact afO _
   |cons p r ih=>intro h;have h1:=h p (by simp);have h2:=ih fun q hq=>h q (by simp [hq]);rw [nw,aai];omega
  have:=this ps fun p hp=>(h p hp).1;omega
 have hw:IntKind.i64.wrap ((m:Int)+(n:Int))=(m:Int)+(n:Int):=cS (by omega) (by omega);show Out.eval (E4 _)=_;dsimp only [E4];rw [h1,hw, ← hq];have e:decide ((m:Int)+(n:Int)≤16)=decide (my ps+4*n≤64):=by
  rw [acK,ac3,ac3];omega
 rw [e];rfl
end
end
section
open Go Go.ChangeShapes Go.WideShapes Go.ChangeAt Go.RowKit
section
def aN (x tl:Int) (u:UT):Prop:=Inv x tl u.1 u.2.1 u.2.2.1 u.2.2.2.1 u.2.2.2.2.1 u.2.2.2.2.2.1 u.2.2.2.2.2.2.1 u.2.2.2.2.2.2.2.1 u.2.2.2.2.2.2.2.2.1
abbrev bu (u:UT):List af:=u.2.2.2.1
abbrev fK (u:UT):List ah:=u.2.2.2.2.1
abbrev uM (u:UT):List ag:=u.2.2.2.2.2.1
abbrev uy (u:UT):List ag:=u.2.2.2.2.2.2.1
abbrev m8 (u:UT):List Int:=u.2.2.2.2.2.2.2.1
abbrev uOu (u:UT):List Int:=u.2.2.2.2.2.2.2.2.1
abbrev gb (u:UT) (l:List ET):WT:=(u.1,u.2.1,u.2.2.1,u.2.2.2.1,u.2.2.2.2.1,u.2.2.2.2.2.1,u.2.2.2.2.2.2.1,u.2.2.2.2.2.2.2.1,u.2.2.2.2.2.2.2.2.1,l,())
def fS (f:List af→List af) (u:UT):UT:=(u.1,u.2.1,u.2.2.1,f u.2.2.2.1,u.2.2.2.2)
def bx (f:List ah→List ah) (u:UT):UT:=(u.1,u.2.1,u.2.2.1,u.2.2.2.1,f u.2.2.2.2.1,u.2.2.2.2.2)
def gE (f:List ag→List ag) (u:UT):UT:=(u.1,u.2.1,u.2.2.1,u.2.2.2.1,u.2.2.2.2.1,f u.2.2.2.2.2.1,u.2.2.2.2.2.2)
def kU (f:List ag→List ag) (u:UT):UT:=(u.1,u.2.1,u.2.2.1,u.2.2.2.1,u.2.2.2.2.1,u.2.2.2.2.2.1,f u.2.2.2.2.2.2.1,u.2.2.2.2.2.2.2)
def dA (f:List Int→List Int) (u:UT):UT:=(u.1,u.2.1,u.2.2.1,u.2.2.2.1,u.2.2.2.2.1,u.2.2.2.2.2.1,u.2.2.2.2.2.2.1,f u.2.2.2.2.2.2.2.1,u.2.2.2.2.2.2.2.2)
def de (v:Int) (f:af→af) (u:UT):UT:=fS (fun ps=>bO ps v f) u
def ee {α:Type} (key:α→Int) (a:List α) (v:Int):Option α:=a.find? fun x=>key x==v
theorem dP {α:Type} {key:α→Int} {a:List α} (h:bS key a) {x:α} (hx:x∈a):ee key a (key x)=some x:=by
 unfold ee;cases e:a.find? (fun y=>key y==key x) with
 |none=>rw [List.find?_eq_none] at e;have:=e x hx;simp at this
 |some y=>
  have h1:=List.find?_some e;have h2:=List.mem_of_find?_eq_some e;rw [h.inj h2 hx (by simpa using h1)]
theorem z7 {α:Type} {key:α→Int} {a:List α} {v:Int} {x:α} (h:ee key a v=some x):x∈a∧key x=v:=⟨List.mem_of_find?_eq_some h,by simpa using List.find?_some h⟩
variable {x tl:Int} {u u':UT} {p:af} {l l':List ET} {e:ET}
theorem eT (h:fI (u,e,())=kv u') (hl:l.length≤100000):bB (gb u l,e,())=some ((gb u' (l++[e]),()),((),(),())):=by
 have hL:bV=68719476736:=rfl;show Out.eval (Ei _)=_;dsimp only [Ei];refine (aa h).trans ?_;refine (ab (aaa (by simp only [aai,aat];omega))).trans ?_;rfl
abbrev eE (k a b c:Int):ET:=(k,a,b,c,[],())
theorem bc {l:List ET} {e:ET}:(l++[e]).length=l.length+1:=by simp
def gB (v:Int) (u:UT):UT:=dA (· ++[v]) (de v (kS 1 0) u)
def tH (v s t:Int) (u:UT):UT:=dA (·.erase v) (de v (kS s t) u)
def B4 (v:Int) (c:ag) (u:UT):UT:=de v (pA c) u
theorem pZ (h:aN x tl u):(m8 u).length≤6:=by
 rw [h.Gp.length_eq];have h1:(aL (bu u)).length≤(bu u).length:=by unfold aL;rw [aeN];exact aga _ _
 exact aa3 h1 h.np
theorem QJ (h:aN x tl u) (hp:p∈bu u) (h1:cQ p≠1):(m8 u).length<6:=by
 rw [h.Gp.length_eq];have h2:(aL (bu u)).length<(bu u).length:=by
  unfold aL;rw [aeN];exact List.length_filter_lt_length_iff_exists.2 ⟨p,hp,by unfold jR;simpa using h1⟩
 exact acO h2 h.np
theorem z8 (h:aN x tl u) (hp:p∈bu u) (h0:cQ p≠6) (h1:cQ p≠1):aN x tl (gB p.1 u):=Inv.jS h hp h0 h1
abbrev mF (v:Int) (l:List ET):List ET:=l++[eE 3 v 1 0]++[eE 21 v 0 0]
theorem E5 (h:aN x tl u) (hp:p∈bu u) (h1:cQ p≠1) (hl:l.length≤99990):pU (gb u l,(p.1,()),())=some ((gb (gB p.1 u) (mF p.1 l),()),((),(),())):=by
 show Out.eval (Em _)=_;dsimp only [Em];refine (aa rfl).trans ?_;refine (aa (eT (zV h.cT hp) (by omega))).trans ?_;refine (aa rfl).trans ?_;refine (aa (eT (zg (QJ h hp h1)) (by rw [bc];omega))).trans ?_;rfl
theorem zi (h:aN x tl u) (hp:p∈bu u) {s t:Int} (h1:cQ p=1) (hs:2≤s∧s≤5) (h2:s=2→tl<t) (h3:s=3→t=0) (h4:s=4∨s=5→t∈aA p∧∃ o∈fK u,o.1=t):aN x tl (tH p.1 s t u):=Inv.block h hp h1 hs h2 h3 h4
theorem zj (h:aN x tl u) (hp:p∈bu u) {s t:Int} (h1:cQ p=1) (hl:l.length≤99990):wJ (gb u l,(p.1,()),(s,()),(t,()),())=some ((gb (tH p.1 s t u) (l++[eE 3 p.1 s t]++[eE 22 p.1 0 0]),()),((),(),(),(),())):=by
 show Out.eval (El _)=_;dsimp only [El];refine (aa rfl).trans ?_;refine (aa (eT (zV h.cT hp) (by omega))).trans ?_;refine (aa rfl).trans ?_;refine (aa (eT (zh (h.ready hp h1) (aa3 (pZ h) (by omega))) (by rw [bc];omega))).trans ?_;rfl
theorem dm {pc:Int} {r:List Int} (h:aR pc r=true):m9 pc=true∧r.length=4∧aG r=true:=by
 unfold aR at h;simp only [aaE,ack] at h;exact ⟨h.1.1,h.1.2,h.2⟩
theorem rq {pc:Int} {r:List Int} {k:Nat} {v:Int} (h:aR pc r=true) (hv:b6 v=true):aR pc (r.set k v)=true:=by
 obtain ⟨h1,h2,h3⟩:=dm h;unfold aR;simp only [aaE,ack];refine ⟨⟨h1,by rw [aag];exact h2⟩, ?_⟩;unfold aG at h3 ⊢;rw [aa1] at h3 ⊢;intro y hy;rcases af4 hy with q|rfl
 . exact h3 y q
 . exact hv
theorem LD (h:aN x tl u) (hp:p∈bu u) {c:ag} (hc:aR c.1 c.2.1=true):aN x tl (B4 p.1 c u):=Inv.kP h hp hc
theorem Jz (h:bS ao (bu u)) (hp:p∈bu u) {c:ag} (hc:aR c.1 c.2.1=true) (hl:l.length≤99990):yR (gb u l,(p.1,()),c,())=some ((gb (B4 p.1 c u) (l++[(1,p.1,c.1,0,c.2.1,())]),()),((),(),(),())):=by
 have h4:=(dm hc).2.1;have hL:bV=68719476736:=rfl;show Out.eval (yQ _)=_;dsimp only [yQ];refine (ab (aaa (by simp only [aat];omega))).trans ?_;refine (aa (eT (acB h hp hc (by omega)) (by omega))).trans ?_;rfl
theorem ag4 (h:bS ao (bu u)) (hp:p∈bu u) {c:ag} (hc:aR c.1 c.2.1=true) (hl:l.length≤99990):PO (gb u l,(p.1,()),c,())=some ((gb (B4 p.1 c u) (l++[(1,p.1,c.1,0,c.2.1,())]),()),((),(),(),())):=Jz h hp hc hl
abbrev sZ (c:ag) (k:Nat) (v:Int):ag:=(c.1,c.2.1.set k v,())
def cI (v:Int) (c:ag) (y:Int) (u:UT):UT:=B4 v (sZ c 0 y) u
def iz (v:Int) (c:ag) (y z:Int) (u:UT):UT:=B4 v (sZ (sZ c 1 z) 0 y) u
theorem cu (h:aN x tl u) (hp:p∈bu u) {c:ag} (hc:aR c.1 c.2.1=true) {y:Int} (hy:b6 y=true):aN x tl (cI p.1 c y u):=LD h hp (c:=sZ c 0 y) (rq hc hy)
theorem zk (h:aN x tl u) (hp:p∈bu u) {c:ag} (hc:aR c.1 c.2.1=true) {y z:Int} (hy:b6 y=true) (hz:b6 z=true):aN x tl (iz p.1 c y z u):=LD h hp (c:=sZ (sZ c 1 z) 0 y) (rq (rq hc hz) hy)
theorem LF (h:bS ao (bu u)) (hp:p∈bu u) {c:ag} (hc:aR c.1 c.2.1=true) {y:Int} (hy:b6 y=true) (hl:l.length≤99990):∃ l',Lk (gb u l,(p.1,()),c,(y,()),())=some ((gb (cI p.1 c y u) l',()),((),(),(),(),()))∧l'.length=l.length+1:=by
 have h4:=(dm hc).2.1;have hL:bV=68719476736:=rfl;have hn:nth c.2.1 (Int.toNat (0:Int))=some (c.2.1[0]'(by omega)):=aaf _;refine ⟨l++[(1,p.1,c.1,0,(sZ c 0 y).2.1,())], ?_,bc⟩;show Out.eval (yS _)=_;dsimp only [yS];refine (ab (aaa (by simp only [aat];omega))).trans ?_;refine (ab (aaa (by rw [aaL];omega))).trans ?_;refine (aa hn).trans ?_;refine (aa (Jz h hp (c:=sZ c 0 y) (rq hc hy) hl)).trans ?_;rfl
theorem E6 (h:bS ao (bu u)) (hp:p∈bu u) {c:ag} (hc:aR c.1 c.2.1=true) {y:Int} (hy:b6 y=true) (hl:l.length≤99990):∃ l',bE (gb u l,(p.1,()),c,(y,()),())=some ((gb (cI p.1 c y u) l',()),((),(),(),(),()))∧l'.length=l.length+1:=LF h hp hc hy hl
theorem LG (h:bS ao (bu u)) (hp:p∈bu u) {c:ag} (hc:aR c.1 c.2.1=true) {y z:Int} (hy:b6 y=true) (hz:b6 z=true) (hl:l.length≤99990):∃ l',wI (gb u l,(p.1,()),c,(y,()),(z,()),())=some ((gb (iz p.1 c y z u) l',()),((),(),(),(),(),()))∧l'.length=l.length+1:=by
 have h4:=(dm hc).2.1;have hL:bV=68719476736:=rfl;have hn:nth c.2.1 (Int.toNat (1:Int))=some (c.2.1[1]'(by omega)):=aaf _;obtain ⟨l',e,hl'⟩:=LF h hp (c:=sZ c 1 z) (rq hc hz) hy hl;refine ⟨l', ?_,hl'⟩;show Out.eval (Ej _)=_;dsimp only [Ej];refine (ab (aaa (by simp only [aat];omega))).trans ?_;refine (ab (aaa (by rw [aaL];omega))).trans ?_;refine (aa hn).trans ?_;refine (aa e).trans ?_;rfl
def td (os:List ah) (pipe:Int) (p:af):Bool:=(cQ p==4||cQ p==5)&&match ie al os (pO p) with
 |none=>false
 |some i=>match os[i]? with|none=>false|some o=>(bK o==3||bK o==4)&&ct o==pipe
def waiters (os:List ah) (pipe:Int) (ps:List af):List Int:=(ps.filter (td os pipe)).map ao
def gj (vs:List Int) (u:UT):UT:=vs.foldl (fun u v=>gB v u) u
def fD (pipe:Int) (u:UT):UT:=gj (waiters (fK u) pipe (bu u)) u
theorem GS {os:List ah} {pipe:Int} (h:td os pipe p=true):cQ p=4∨cQ p=5:=by
 unfold td at h;rw [aaE,afR,aeM,aeM] at h;exact h.1
theorem CG (h:aN x tl u) (hp:p∈bu u) {q:af} (hq:q∈bu u) (dW:q.1≠p.1):q∈bu (gB p.1 u):=(bf h.cT hp).2 (.inr ⟨hq,dW⟩)
def kV (vs:List Int) (u:UT):Prop:=vs.Nodup∧∀ v∈vs,∃ p∈bu u,p.1=v∧cQ p≠1∧cQ p≠6
theorem kV.tail {v:Int} {vs:List Int} (h:aN x tl u) (ha:kV (v::vs) u):aN x tl (gB v u)∧kV vs (gB v u):=by
 obtain ⟨hn,ha⟩:=ha;obtain ⟨p,hp,rfl,h1,h6⟩:=ha v (by simp);rw [ac9] at hn;refine ⟨z8 h hp h6 h1,hn.2,fun w hw=> ?_⟩;obtain ⟨q,hq,rfl,q1,q6⟩:=ha w (by simp [hw]);exact ⟨q,CG h hp hq fun e=>hn.1 (e ▸ hw),rfl,q1,q6⟩
theorem wQ:∀ {vs:List Int} {u:UT},aN x tl u→kV vs u→aN x tl (gj vs u)
 |[],_,h,_=>h
 |_::vs,_,h,ha=>wQ (vs:=vs) (ha.tail h).1 (ha.tail h).2
theorem lR (h:aN x tl u) (pipe:Int):kV (waiters (fK u) pipe (bu u)) u:=by
 refine ⟨(show ((bu u).map ao).Nodup from h.cT.nodup).sublist (List.filter_sublist.map ao),fun v hv=> ?_⟩;obtain ⟨p,hp,rfl⟩:=List.mem_map.1 hv;have E7:=List.mem_filter.1 hp;have:=GS E7.2;exact ⟨p,E7.1,rfl,by omega,by omega⟩
theorem lS (h:aN x tl u) (pipe:Int):aN x tl (fD pipe u):=wQ h (lR h pipe)
end
end
section
open Go Go.ChangeShapes Go.WideShapes Go.ChangeAt Go.RowKit
section
variable {x tl:Int} {u u':UT} {p:af} {l l':List ET} {e:ET}
theorem Z8 (k:Int):Ep ((k,()),())=some ((((k==3||k==4),()),()),((),())):=by
 show Out.eval (Eo _)=_;dsimp only [Eo];cases h:(k==3)
 . rw [Bool.false_or];rfl
 . rfl
theorem JA {os:List ah} (h:bS al os) {o:ah} (ho:o∈os) (hk:o.1=pO p) (pipe:Int):td os pipe p=((cQ p==4||cQ p==5)&&((bK o==3||bK o==4)&&ct o==pipe)):=by
 obtain ⟨i,h1,_,h3⟩:=oq h ho hk;unfold td;rw [h1];simp only [h3]
theorem JB {os:List ah} (h:¬ ∃ o∈os,o.1=pO p) (pipe:Int):td os pipe p=false:=by
 unfold td;rw [lM (key:=al) fun o ho e=>h ⟨o,ho,e⟩,Bool.and_false]
def wR (vs:List Int) (l:List ET):List ET:=vs.foldl (fun l v=>mF v l) l
theorem tI:∀ (vs:List Int) (l:List ET),(wR vs l).length=l.length+2*vs.length
 |[],l=>rfl
 |v::vs,l=>by
  have:=tI vs (mF v l);unfold wR at this ⊢;rw [ade,this,bc,bc,aai];omega
theorem tJ (h:aN x tl u) (pipe:Int) (hl:l.length≤99900):∃ l',zS (gb u l,(pipe,()),())=some ((gb (fD pipe u) l',()),((),(),()))∧l'.length≤l.length+12:=by
 obtain ⟨nx,tk,pg,ps,os,pi,fi,rd,ou,_⟩:=u;have hL:bV=68719476736:=rfl;have hB:aS=9223372036854775807:=rfl;have CH:ps.length≤6:=h.np;have h1:=foldl_loop (f:=mD) (fun (acc:List Int) i=>acc.length≤i) (fun acc (p:af)=>if td os pipe p=true then acc++[p.1] else acc) ps
  (fun acc i=>((pipe,(i:Int),()),((nx,tk,()),(0,0,()),acc,pg,ps,os,pi,fi,rd,ou,l,([]:List (List aw)),([]:List af),([]:List ah),([]:List ag),([]:List ag),([]:List Int),([]:List Int),([]:List ET),())))
  (fun acc=>((),((nx,tk,()),(0,0,()),acc,pg,ps,os,pi,fi,rd,ou,l,([]:List (List aw)),([]:List af),([]:List ah),([]:List ag),([]:List ag),([]:List Int),([]:List Int),([]:List ET),())))
  (fun i hi acc ha=> ?_) (fun acc _=> ?_) (fun i hi acc ha=> ?_) (by omega) [] (abD 0)
 . have acG:∀ (a:List af) (acc:List Int),a.foldl (fun acc (p:af)=>if td os pipe p=true then acc++[p.1] else acc) acc=acc++waiters os pipe a:=by
    intro a
    induction a with
    |nil=>intro acc;simp [waiters]
    |cons p r ih=>
     intro acc;rw [ade,ih];unfold waiters;rw [afT];by_cases q:td os pipe p=true
     . rw [aaK q,aaK q];simp [ao]
     . rw [aap q,aap q]
   rw [acG,aaL] at h1;have ha:=lR h pipe;have hlen:(waiters os pipe ps).length≤6:=by
    unfold waiters;rw [aeN];exact aa3 (aga _ _) CH
   refine ⟨wR (waiters os pipe ps) l, ?_,by rw [tI];omega⟩;have E8:kV (waiters os pipe ps) (nx,tk,pg,ps,os,pi,fi,rd,ou,()):=ha;unfold fD;show _=some ((gb (gj (waiters os pipe ps) (nx,tk,pg,ps,os,pi,fi,rd,ou,())) _,()),_);generalize waiters os pipe ps=vs at h1 E8 hlen;have h2:=foldl_loop (f:=qY) (fun (d:UT×List ET) i=>aN x tl d.1∧kV (vs.drop i) d.1∧d.2.length=l.length+2*i) (fun (d:UT×List ET) v=>(gB v d.1,mF v d.2)) vs
    (fun d i=>(((i:Int),()),((d.1.1,d.1.2.1,()),(0,0,()),vs,d.1.2.2.1,d.1.2.2.2.1,d.1.2.2.2.2.1,d.1.2.2.2.2.2.1,d.1.2.2.2.2.2.2.1,d.1.2.2.2.2.2.2.2.1,d.1.2.2.2.2.2.2.2.2.1,d.2,([]:List (List aw)),([]:List af),([]:List ah),([]:List ag),([]:List ag),([]:List Int),([]:List Int),([]:List ET),())))
    (fun d=>((),((d.1.1,d.1.2.1,()),(0,0,()),d.1.2.2.1,d.1.2.2.2.1,d.1.2.2.2.2.1,d.1.2.2.2.2.2.1,d.1.2.2.2.2.2.2.1,d.1.2.2.2.2.2.2.2.1,d.1.2.2.2.2.2.2.2.2.1,d.2,([]:List (List aw)),([]:List af),([]:List ah),([]:List ag),([]:List ag),([]:List Int),([]:List Int),([]:List ET),())))
    (fun i hi d hd=> ?_) (fun d _=> ?_) (fun i hi d hd=> ?_) (by omega) ((nx,tk,pg,ps,os,pi,fi,rd,ou,()),l) ⟨h,E8,rfl⟩
   . have QK:∀ (vs:List Int) (d:UT×List ET),vs.foldl (fun (d:UT×List ET) v=>(gB v d.1,mF v d.2)) d=(gj vs d.1,wR vs d.2):=by
      intro vs
      induction vs with
      |nil=>intro d;rfl
      |cons v r ih=>intro d;rw [ade,ih];rfl
     rw [QK] at h2;show Out.eval (Er _)=_;dsimp only [Er];refine (aa h1).trans ?_;refine (aa h2).trans ?_;rfl
   . obtain ⟨hI,hA,CI⟩:=hd
     have hn:nth vs i=some vs[i]:=aaf hi;have hw:IntKind.i64.wrap ((i:Int)+1)=((i+1:Nat):Int):=ar (by omega);rw [acN hi] at hA;obtain ⟨q,hq,O9,q1,q6⟩:=hA.2 vs[i] afS;have hv:=E5 hI hq q1 (l:=d.2) (by omega);rw [O9] at hv;show Out.eval (qY _)=_;dsimp only [qY];simp only [aaH,hw];refine (ab (aaa (by omega))).trans ?_;refine (ab (aaa (by omega))).trans ?_;refine (aa hn).trans ?_;refine (aa hv).trans ?_;rfl
   . show Out.eval (qY _)=_
     dsimp only [qY];refine (ae (aae (by omega))).trans ?_;rfl
   . obtain ⟨hI,hA,CI⟩:=hd
     rw [acN hi] at hA;have:=hA.tail hI;exact ⟨this.1,this.2,by show (mF _ _).length=_;rw [bc,bc];omega⟩
 . have hn:nth ps i=some ps[i]:=aaf hi
   have hw:IntKind.i64.wrap ((i:Int)+1)=((i+1:Nat):Int):=ar (by omega);have Z9:acc.length+1≤bV:=by omega
   generalize ps[i]=p at hn;have Pj:(i:Int)<(ps.length:Int):=by omega
   by_cases hex:∃ o∈os,o.1=pO p
   . obtain ⟨o,ho,hk⟩:=hex
     obtain ⟨j,hj,VG,Uj⟩:=bD h.pz ho;have DZ:aF os p.2.2.2.2.2.2.2.1=(j:Int):=by rw [show p.2.2.2.2.2.2.2.1=al o from hk.symm];exact hj
     have JC:nth os j=some o:=Uj;have acH:(j:Int)<(os.length:Int):=by have:j<os.length:=VG;omega
     have hj0:(j:Int)≥0:=by omega
     rw [JA h.pz ho hk];show Out.eval (mD _)=_;dsimp only [mD,cQ,bK,ct];by_cases e4:p.2.2.1=4<;>by_cases e5:p.2.2.1=5<;>by_cases k3:o.2.1=3<;>by_cases k4:o.2.1=4<;>by_cases kt:o.2.2.1=pipe<;>
      simp [Out.eval,cond_eq_ite,Pj,hn,hw,DZ,JC,acH,hj0,Z8,e4,e5,k3,k4,kt,Z9]
   . rw [JB hex,aap (by decide)]
     have DZ:aF os p.2.2.2.2.2.2.2.1= -1:=uL (key:=al) fun o ho e=>hex ⟨o,ho,e⟩;show Out.eval (mD _)=_;dsimp only [mD];by_cases e4:p.2.2.1=4<;>by_cases e5:p.2.2.1=5<;>simp [Out.eval,cond_eq_ite,Pj,hn,hw,DZ,e4,e5]
 . show Out.eval (mD _)=_
   dsimp only [mD];refine (ae (aae (by omega))).trans ?_;rfl
 . split
   . rw [aao];show acc.length+1≤i+1;omega
   . omega
end
end
section
open Go Go.ChangeShapes Go.WideShapes Go.ChangeAt Go.RowKit
section
variable {x tl:Int} {u u':UT} {p:af} {o:ah} {l l':List ET} {e:ET}
def kW (v:Int) (k:Nat) (u:UT):UT:=match ee ao (bu u) v with
 |none=>u
 |some p=>match (aA p)[k]? with
  |none=>u
  |some id=>match ee al (fK u) id with
   |none=>u
   |some o=>
    if bN o≠1 then bx (fun os=>ca al os id (cV (bN o+ -1))) (de v (cm ((aA p).set k (-1))) u)
    else if ¬ (bK o=3∨bK o=4) then bx (fun os=>BP os id) (de v (cm ((aA p).set k (-1))) u)
    else if (BP (fK u) id).any (eR (ct o))=true then fD (ct o) (bx (fun os=>BP os id) (de v (cm ((aA p).set k (-1))) u))
    else gE (fun pi=>Lh pi (ct o)) (bx (fun os=>BP os id) (de v (cm ((aA p).set k (-1))) u))
theorem wS (h:aN x tl u) (hp:p∈bu u) {k:Nat} (ho:o∈fK u) (hk:(aA p)[k]? =some o.1):kW p.1 k u=
  if bN o≠1 then bx (fun os=>ca al os o.1 (cV (bN o+ -1))) (de p.1 (cm ((aA p).set k (-1))) u)
  else if ¬ (bK o=3∨bK o=4) then bx (fun os=>BP os o.1) (de p.1 (cm ((aA p).set k (-1))) u)
  else if (BP (fK u) o.1).any (eR (ct o))=true then fD (ct o) (bx (fun os=>BP os o.1) (de p.1 (cm ((aA p).set k (-1))) u))
  else gE (fun pi=>Lh pi (ct o)) (bx (fun os=>BP os o.1) (de p.1 (cm ((aA p).set k (-1))) u)):=by
 unfold kW;rw [show ee ao (bu u) p.1=some p from dP h.cT hp];simp only [hk];rw [show ee al (fK u) o.1=some o from dP h.pz ho]
theorem CJ {t:Int} {e:ah}:eR t e=true↔(bK e=3∨bK e=4)∧ct e=t:=by
 unfold eR m0;simp only [afR,aaE,aeM];constructor
 . rintro (⟨a,b⟩|⟨a,b⟩)
   . exact ⟨.inl a,b⟩
   . exact ⟨.inr a,b⟩
 . rintro ⟨a|a,b⟩
   . exact .inl ⟨a,b⟩
   . exact .inr ⟨a,b⟩
theorem E9 (h:aN x tl u) (hp:p∈bu u) (h1:cQ p=1) {k:Nat} (ho:o∈fK u) (hk:(aA p)[k]? =some o.1) (h0:bN o=1) (he:¬ (bK o=3∨bK o=4)∨(BP (fK u) o.1).any (eR (ct o))=true):aN x tl (bx (fun os=>BP os o.1) (de p.1 (cm ((aA p).set k (-1))) u)):=by
 refine Inv.shut h hp h1 hk ho h0 (List.Sublist.refl _) (fun e _ _ _ y hy _=>hy) fun y _ QL hy=> ?_;rcases he with he|he
 . exact absurd QL he
 . obtain ⟨e,hm,hq⟩:=List.any_eq_true.1 he
   have:=CJ.1 hq;exact ⟨e,(ow.1 hm).1,(ow.1 hm).2,this.1,this.2.trans hy.symm⟩
theorem Fa (h:aN x tl u) (hp:p∈bu u) (h1:cQ p=1) {k:Nat} (ho:o∈fK u) (hk:(aA p)[k]? =some o.1):aN x tl (kW p.1 k u):=by
 rw [wS h hp ho hk];split
 . rename_i h0
   exact Inv.Z4 h hp h1 hk ho (.inl ⟨rfl,rfl,h0⟩) rfl
 . rename_i h0
   have h0:bN o=1:=by omega
   split
   . rename_i he;exact E9 h hp h1 ho hk h0 (.inl he)
   . split
     . rename_i he;exact lS (E9 h hp h1 ho hk h0 (.inr he)) _
     . rename_i QL he
       have QM:∀ e∈fK u,e.1≠o.1→¬ ((bK e=3∨bK e=4)∧ct e=ct o):=fun e hm dW hq=>he (List.any_eq_true.2 ⟨e,ow.2 ⟨hm,dW⟩,CJ.2 hq⟩);refine Inv.shut h hp h1 hk ho h0 (pi':=Lh (uM u) (ct o)) List.filter_sublist (fun e hm dW QL y hy hyt=>yP.2 ⟨hy,fun e2=>QM e hm dW ⟨QL,hyt.symm.trans e2⟩⟩) fun y hy _ hyt=>absurd hyt (yP.1 hy).2
theorem xQ:∀ {vs:List Int} {u:UT} {q:af},aN x tl u→kV vs u→q∈bu u→q.1 ∉ vs→q∈bu (gj vs u)
 |[],_,_,_,_,hq,_=>hq
 |v::vs,u,q,h,ha,hq,hn=>by
  obtain ⟨p,hp,rfl,_⟩:=ha.2 v (by simp);have:=ha.tail h;exact xQ (vs:=vs) this.1 this.2 (CG h hp hq fun e=>hn (by simp [e])) fun e=>hn (by simp [e])
theorem jU (h:aN x tl u) {q:af} (hq:q∈bu u) (h1:¬ (cQ q=4∨cQ q=5)) (pipe:Int):q∈bu (fD pipe u):=by
 refine xQ h (lR h pipe) hq fun hm=> ?_;obtain ⟨p,hp,e⟩:=List.mem_map.1 hm;have E7:=List.mem_filter.1 hp;obtain rfl:=h.cT.inj E7.1 hq e;exact h1 (GS E7.2)
theorem wT (h:aN x tl u) (hp:p∈bu u) (h1:cQ p=1) {k:Nat} (ho:o∈fK u) (hk:(aA p)[k]? =some o.1):cm ((aA p).set k (-1)) p∈bu (kW p.1 k u):=by
 have hm:cm ((aA p).set k (-1)) p∈bO (bu u) p.1 (cm ((aA p).set k (-1))):=(bf h.cT hp).2 (.inl rfl);rw [wS h hp ho hk];split
 . exact hm
 . rename_i h0
   split
   . exact hm
   . split
     . rename_i he
       exact jU (E9 h hp h1 ho hk (by omega) (.inr he)) hm (by show ¬ (cQ p=4∨cQ p=5);omega) _
     . exact hm
theorem acI {α:Type} {key:α→Int} {v:Int} {f:α→α} (hf:∀ x,key (f x)=key x) (a:List α):(ca key a v f).filter (fun x=>key x != v)=a.filter fun x=>key x != v:=by
 unfold ca
 induction a with
 |nil=>rfl
 |cons y r ih=>
  rw [acX,afT,afT,ih];by_cases q:key y=v
  . rw [aaK q]
    have e1:(key (f y) != v)=false:=by rw [hf];simp [q]
    have e2:(key y != v)=false:=by simp [q]
    rw [e1,e2];simp
  . rw [aap q]
theorem acJ {ps:List af} (h:∀ p∈ps,(aA p).length=4) (id:Int):mY ps id≤4*ps.length:=by
 induction ps with
 |nil=>simp [mY]
 |cons p r ih=>
  have h1:=h p (by simp);have h2:=ih fun q hq=>h q (by simp [hq]);have h3:(aA p).count id≤(aA p).length:=List.count_le_length;rw [nv,aai];omega
theorem Fb (h:aN x tl u) (ho:o∈fK u):1≤bN o∧bN o≤24:=by
 have h1:=h.op o ho;have h2:=acJ (ps:=bu u) (fun p hp=>(h.loc p hp).fds) o.1;have h3:(bu u).length≤6:=h.np;have h4:=h1.refs;have h5:0<mY (bu u) o.1:=h4.2;have h6:bN o=((mY (bu u) o.1:Nat):Int):=h4.1;omega
theorem nA (h:aN x tl u):(fK u).length≤8:=lC 7 h.pz fun o ho=>(h.op o ho).id
theorem uN (h:aN x tl u):(uM u).length≤3:=lC 2 h.xP fun y hy=>(h.uw y hy).id
theorem xR (h:aN x tl u):(uy u).length≤6:=lC 5 h.zO fun y hy=>by have:=h.Gn y hy;unfold fw at this;rw [aaE,fF] at this;exact this.1
theorem LH (h:aN x tl u) (hp:p∈bu u) (h1:cQ p=1) {k:Nat} (ho:o∈fK u) (hk:(aA p)[k]? =some o.1) (hl:l.length≤99800):∃ l',wM (gb u l,(p.1,()),((k:Int),()),())=some ((gb (kW p.1 k u) l',()),((),(),(),()))∧l'.length≤l.length+15:=by
 rw [wS h hp ho hk];obtain ⟨nx,tk,pg,ps,os,pi,fi,rd,ou,_⟩:=u;have VH:bS al os:=h.pz;have hos:os.length≤8:=nA h;have Ur:=Fb h ho;have hB:aS=9223372036854775807:=rfl;obtain ⟨i,hi,bZ,hn⟩:=bD h.cT hp;have cU:ak ps p.1=(i:Int):=hi;have nz:nth ps i=some p:=hn;have hs:ps.set i (p.1,(p.2.1,(p.2.2.1,(p.2.2.2.1,(p.2.2.2.2.1,(p.2.2.2.2.2.1,(p.2.2.2.2.2.2.1,p.2.2.2.2.2.2.2)))))))=ps:=jc hn;have mA:nth p.2.2.2.2.2.2.1 k=some o.1:=hk;have pC:i<ps.length:=bZ;have hkl:k<p.2.2.2.2.2.2.1.length:=(List.getElem?_eq_some_iff.1 hk).1;have Fc:(k:Int).toNat=k:=aaH k;have BO:fI ((nx,tk,pg,ps,os,pi,fi,rd,ou,()),(9,p.1,(k:Int), -1,[],()),())=kv (de p.1 (cm ((aA p).set k (-1))) (nx,tk,pg,ps,os,pi,fi,rd,ou,())):=by
  have:=GP (nx:=nx) (tk:=tk) (pg:=pg) (os:=os) (pi:=pi) (fi:=fi) (rd:=rd) (ou:=ou) (b:=(k:Int)) (c:= -1) (l:=[]) h.cT hp ⟨by omega,by show (k:Int)<((p.2.2.2.2.2.2.1.length:Nat):Int);omega⟩;rw [Fc] at this;exact this
 have tK:bS al (ca al os o.1 (cV (bN o+ -1))):=dR h.pz fun _ _ _=>rfl;have UF:cV (bN o+ -1) o∈ca al os o.1 (cV (bN o+ -1)):=(gD h.pz ho).2 (.inl rfl);obtain ⟨j,hj,alm,Uj⟩:=bD tK UF;have DZ:aF (ca al os o.1 (cV (bN o+ -1))) o.1=(j:Int):=hj;have JC:nth (ca al os o.1 (cV (bN o+ -1))) j=some (cV (bN o+ -1) o):=Uj;rw [jy] at alm;have ag6:wM (gb (nx,tk,pg,ps,os,pi,fi,rd,ou,()) l,(p.1,()),((k:Int),()),())=(Out.ite ((bN o+ -1) != 0) (.ret ((gb (bx (fun os=>ca al os o.1 (cV (bN o+ -1))) (de p.1 (cm ((aA p).set k (-1))) (nx,tk,pg,ps,os,pi,fi,rd,ou,()))) (l++[eE 9 p.1 k (-1)]++[eE 11 o.1 (-1) 0]),()),((),(),(),())))
   (.get (bB (gb (bx (fun os=>ca al os o.1 (cV (bN o+ -1))) (de p.1 (cm ((aA p).set k (-1))) (nx,tk,pg,ps,os,pi,fi,rd,ou,()))) (l++[eE 9 p.1 k (-1)]++[eE 11 o.1 (-1) 0]),eE 12 o.1 0 0,())) fun ((uE,_),_)=>
    .ite (!(bK o==3||bK o==4)) (.ret ((uE,()),((),(),(),())))
     (.ite (((IntKind.i64.wrap ((ix uE.2.2.2.2.1 (ct o) (3:Int))+(ix uE.2.2.2.2.1 (ct o) (4:Int))))==0))
      (.get (bB (uE,eE 17 (ct o) 0 0,())) fun ((m4,_),_)=> .ret ((m4,()),((),(),(),())))
      (.get (zS (uE,(ct o,()),())) fun ((ox,_),_)=> .ret ((ox,()),((),(),(),())))))).eval:=by
  show Out.eval (Eu _)=_;dsimp only [Eu];rw [cU];simp only [aaH];refine (ab (aaa (by omega))).trans ?_;refine (aa nz).trans ?_;refine (ab (aaa (by omega))).trans ?_;refine (aa mA).trans ?_;rw [hs];refine (aa rfl).trans ?_;refine (aa (eT BO (by omega))).trans ?_;refine (aa rfl).trans ?_;refine (aa (eT (wP VH ho (by omega) (by omega)) (by rw [bc];omega))).trans ?_;dsimp only [gb,de,fS,bx];rw [DZ];simp only [aaH];refine (ab (aaa (by rw [jy];omega))).trans ?_;refine (aa JC).trans ?_;show Out.eval (Out.ite ((bN o+ -1) != 0) _ _)=_;cases hz:((bN o+ -1) != 0)
  . refine (ae rfl).trans (Eq.trans ?_ (ae rfl).symm)
    refine (aa rfl).trans ?_;have hd:=eT (u:=bx (fun os=>ca al os o.1 (cV (bN o+ -1))) (de p.1 (cm ((aA p).set k (-1))) (nx,tk,pg,ps,os,pi,fi,rd,ou,()))) (l:=l++[eE 9 p.1 k (-1)]++[eE 11 o.1 (-1) 0]) (LC (b:=0) (c:=0) (l:=[]) tK UF (by rw [jy];exact aa3 hos (by omega))) (by rw [bc,bc];omega);refine (aa hd).trans (Eq.trans ?_ (aa hd).symm);refine (aa (Z8 _)).trans ?_;show Out.eval (Out.ite (!(bK o==3||bK o==4)) _ _)=_;cases (!(bK o==3||bK o==4))
    . refine (ae rfl).trans (Eq.trans ?_ (ae rfl).symm)
      show Out.eval (Out.ite _ _ _)=Out.eval (Out.ite _ _ _);rw [eval_ite,eval_ite];rfl
    . rfl
  . rfl
 rw [ag6];by_cases h0:bN o≠1
 . rw [aaK h0]
   refine ⟨_,(ab (CF (by omega))).trans rfl,by rw [bc,bc];omega⟩
 . rw [aap h0]
   have h0:bN o=1:=by omega
   have hd0:=eT (u:=bx (fun os=>ca al os o.1 (cV (bN o+ -1))) (de p.1 (cm ((aA p).set k (-1))) (nx,tk,pg,ps,os,pi,fi,rd,ou,()))) (l:=l++[eE 9 p.1 k (-1)]++[eE 11 o.1 (-1) 0]) (LC (b:=0) (c:=0) (l:=[]) tK UF (by rw [jy];exact aa3 hos (by omega))) (by rw [bc,bc];omega);have hrm:BP (ca al os o.1 (cV (bN o+ -1))) o.1=BP os o.1:=acI (key:=al) (v:=o.1) (f:=cV (bN o+ -1)) (fun _=>rfl) os;have hd:=hd0.trans (congrArg (fun z=>some ((gb (nx,tk,pg,bO ps p.1 (cm ((aA p).set k (-1))),z,pi,fi,rd,ou,()) (l++[eE 9 p.1 k (-1)]++[eE 11 o.1 (-1) 0]++[eE 12 o.1 0 0]),()),((),(),()))) hrm);by_cases QL:¬ (bK o=3∨bK o=4)
   . rw [aaK QL]
     refine ⟨_,((ae (pX (by omega))).trans (aa hd)).trans ((ab ?_).trans rfl),by rw [bc,bc,bc];omega⟩;have e1:(bK o==3)=false:=eB fun e=>QL (.inl e);have e2:(bK o==4)=false:=eB fun e=>QL (.inr e);rw [e1,e2];rfl
   . rw [aap QL]
     have QL:bK o=3∨bK o=4:=by omega
     have pD:(!(bK o==3||bK o==4))=false:=by rcases QL with e|e<;>rw [e]<;>rfl
     have aln:(BP os o.1).length≤aS:=aa3 (aga _ _) (by omega);have CE:=Aa aln (ct o);by_cases he:(BP os o.1).any (eR (ct o))=true
     . rw [aaK he]
       rw [he] at CE;have hI:aN x tl (bx (fun os=>BP os o.1) (de p.1 (cm ((aA p).set k (-1))) (nx,tk,pg,ps,os,pi,fi,rd,ou,()))):=E9 h hp h1 ho hk h0 (.inr he);obtain ⟨l',hw,hlw⟩:=tJ hI (ct o) (l:=l++[eE 9 p.1 k (-1)]++[eE 11 o.1 (-1) 0]++[eE 12 o.1 0 0]) (by rw [bc,bc,bc];omega);refine ⟨l',((ae (pX (by omega))).trans (aa hd)).trans ((ae pD).trans ((ae CE).trans ((aa hw).trans rfl))),by rw [bc,bc,bc] at hlw;omega⟩
     . rw [aap he]
       rw [Bool.eq_false_iff.2 he] at CE;obtain ⟨y,hy,hyt⟩:∃ y∈pi,y.1=ct o:=by
        rcases (h.op o ho).kind with ⟨e,_⟩|⟨e,_⟩|⟨_,hq,_⟩
        . omega
        . omega
        . exact hq
       have hup:=NT (nx:=nx) (tk:=tk) (pg:=pg) (ps:=bO ps p.1 (cm ((aA p).set k (-1)))) (os:=BP os o.1) (fi:=fi) (rd:=rd) (ou:=ou) (b:=0) (c:=0) (l:=[]) h.xP hy (aa3 (uN h) (by omega));rw [hyt] at hup;have hd2:=eT (u:=bx (fun os=>BP os o.1) (de p.1 (cm ((aA p).set k (-1))) (nx,tk,pg,ps,os,pi,fi,rd,ou,()))) (l:=l++[eE 9 p.1 k (-1)]++[eE 11 o.1 (-1) 0]++[eE 12 o.1 0 0]) hup (by rw [bc,bc,bc];omega);refine ⟨_,((ae (pX (by omega))).trans (aa hd)).trans ((ae pD).trans ((ab CE).trans ((aa hd2).trans rfl))),by rw [bc,bc,bc,bc];omega⟩
end
end
section
open Go Go.ChangeShapes Go.WideShapes Go.ChangeAt Go.RowKit
section
variable {x tl:Int} {u u':UT} {p:af} {o:ah} {l l':List ET} {e:ET}
theorem Ab {σ β:Type} {f:σ→Out (Round σ β Empty)} (n:Nat) (R:Nat→σ→Prop) {Q:β→Prop} (hs:∀ i,i<n→∀ s,R i s→∃ s',(f s).eval=some (.again s')∧R (i+1) s') (hy:∀ s,R n s→∃ y,(f s).eval=some (.out y)∧Q y) (hn:n≤aS) {s:σ} (h0:R 0 s):∃ y,b5 f bn s=some y∧Q y:=by
 have key:∀ (m i k:Nat) (s:σ),i+m=n→m<k→R i s→∃ y,b5 f k s=some y∧Q y:=by
  intro m
  induction m with
  |zero=>
   intro i k s hi hk hr;obtain rfl:i=n:=by omega
   obtain ⟨y,h1,h2⟩:=hy s hr;exact ⟨y,Ac h1 hk,h2⟩
  |succ m ih=>
   intro i k s hi hk hr;obtain ⟨s',h1,h2⟩:=hs i (by omega) s hr;obtain ⟨k,rfl⟩:∃ k',k=k'+1:=⟨k - 1,by omega⟩
   rw [xS h1];exact ih (i+1) k s' (by omega) (by omega) h2
 exact key n 0 bn s (by omega) (fL hn) h0
def ag7 (v:Int) (k:Nat) (u:UT):Option Int:=(ee ao (bu u) v).bind fun p=>(aA p)[k]?
def kx (v:Int) (u:UT) (k:Nat):UT:=match ag7 v k u with|none=>u|some f=>if f= -1 then u else kW v k u
def cq (v:Int) (k:Nat) (u:UT):UT:=(List.range k).foldl (kx v) u
def qa (v:Int) (u:UT) (q:af):UT:=if im q=v then (if cQ q=6 then fS (fun ps=>ux ps q.1) u else de q.1 (Jt 0) u) else u
def gk (v:Int) (kids:List af) (u:UT):UT:=kids.foldl (qa v) u
def Fe (v code:Int) (u:UT):UT:=match ee ao (bu u) v with
 |none=>u
 |some p=>
  if im p=0 then fS (fun ps=>ux ps v) (dA (·.erase v) u)
  else match ee ao (bu (de v (fun p=>ga code (kS 6 0 p)) (dA (·.erase v) u))) (im p) with
   |none=>de v (fun p=>ga code (kS 6 0 p)) (dA (·.erase v) u)
   |some q=>if cQ q=3 then gB q.1 (de v (fun p=>ga code (kS 6 0 p)) (dA (·.erase v) u)) else de v (fun p=>ga code (kS 6 0 p)) (dA (·.erase v) u)
def lT (v:Int) (u:UT):UT:=de v (kI []) u
def jd (v code:Int) (u:UT):UT:=Fe v code (gk v (bu (lT v (cq v 4 u))) (lT v (cq v 4 u)))
def pq (v code:Int) (u:UT):UT:=match ee ao (bu u) v with
 |none=>u
 |some p=>if cQ p=1 then jd v code u else jd v code (gB v u)
abbrev z2:Int×Int×Unit:=(0,0,())
abbrev em8:=(([]:List (List aw)),([]:List af),([]:List ah),([]:List ag),([]:List ag),([]:List Int),([]:List Int),([]:List ET),())
abbrev eh (u:UT) (l:List ET):=(u.2.2.1,u.2.2.2.1,u.2.2.2.2.1,u.2.2.2.2.2.1,u.2.2.2.2.2.2.1,u.2.2.2.2.2.2.2.1,u.2.2.2.2.2.2.2.2.1,l,em8)
def NU (v par:Int) (k:Nat) (u:UT):Prop:=∃ q∈bu u,q.1=v∧cQ q=1∧im q=par∧∀ j,j<k→(aA q)[j]? =some (-1)
theorem uO (v:Int) (k:Nat) (u:UT):cq v (k+1) u=kx v (cq v k u) k:=by
 unfold cq;rw [List.range_succ,List.foldl_append];rfl
theorem Ad (h:aN x tl u) (hp:p∈bu u) (k:Nat) (hk:k<4):∃ f,(aA p)[k]? =some f∧kx p.1 u k=if f= -1 then u else kW p.1 k u:=by
 have h4:=(h.loc p hp).fds;refine ⟨(aA p)[k]'(by omega),aaf _, ?_⟩;unfold kx ag7;rw [show ee ao (bu u) p.1=some p from dP h.cT hp];simp only [adb,aaf (show k<(aA p).length by omega)]
theorem NV {v par:Int} {k:Nat} (h:aN x tl u) (hs:NU v par k u) (hk:k<4):aN x tl (kx v u k)∧NU v par (k+1) (kx v u k):=by
 obtain ⟨q,hq,rfl,h1,h2,h3⟩:=hs;obtain ⟨f,hf,he⟩:=Ad h hq k hk;rw [he];have h4:=(h.loc q hq).fds;by_cases e:f= -1
 . rw [aaK e]
   refine ⟨h,q,hq,rfl,h1,h2,fun j hj=> ?_⟩;by_cases e2:j=k
   . rw [e2,hf,e]
   . exact h3 j (by omega)
 . rw [aap e]
   obtain ⟨o,ho,rfl⟩:=((h.ctx q hq).fds f (aeJ hf)).resolve_left e;refine ⟨Fa h hq h1 ho hf,_,wT h hq h1 ho hf,rfl,h1,h2,fun j hj=> ?_⟩;show ((aA q).set k (-1))[j]? =_;rw [List.getElem?_set];by_cases e2:k=j
   . rw [aaK e2,aaK (by omega)]
   . rw [aap e2];exact h3 j (by omega)
theorem wU {v par:Int}:∀ {k:Nat},k≤4→aN x tl u→NU v par 0 u→aN x tl (cq v k u)∧NU v par k (cq v k u)
 |0,_,h,hs=>⟨h,hs⟩
 |k+1,hk,h,hs=>by
  have:=wU (k:=k) (by omega) h hs;rw [uO];exact NV this.1 this.2 (by omega)
theorem JD {v par code:Int} (h:aN x tl u) (hs:NU v par 0 u) (hl:l.length≤99000):∃ l',b5 rb bn ((v,code,0,()),((u.1,u.2.1,()),z2,eh u l))=some ((v,code,()),(((cq v 4 u).1,(cq v 4 u).2.1,()),z2,eh (cq v 4 u) l'))∧l'.length≤l.length+60:=by
 have Ae:=Ab (f:=rb) 4 (fun i s=>∃ l',s=((v,code,(i:Int),()),(((cq v i u).1,(cq v i u).2.1,()),z2,eh (cq v i u) l'))∧l'.length≤l.length+15*i)
  (Q:=fun y=>∃ l',y=((v,code,()),(((cq v 4 u).1,(cq v 4 u).2.1,()),z2,eh (cq v 4 u) l'))∧l'.length≤l.length+60) (fun i hi s QN=> ?_) (fun s QN=> ?_) (by decide) (s:=((v,code,0,()),((u.1,u.2.1,()),z2,eh u l))) ⟨l,rfl,by omega⟩
 . obtain ⟨y,h1,l',rfl,h2⟩:=Ae
   exact ⟨l',h1,h2⟩
 . obtain ⟨l1,rfl,JE⟩:=QN
   obtain ⟨hI,q,hq,rfl,q1,q2,q3⟩:=wU (k:=i) (by omega) h hs;rw [uO];generalize cq q.1 i u=w at hI hq;obtain ⟨f,hf,he⟩:=Ad hI hq i hi;rw [he];obtain ⟨nx,tk,pg,ps,os,pi,fi,rd,ou,_⟩:=w;obtain ⟨j,hj,VG,Uj⟩:=bD hI.cT hq;have DZ:ak ps q.1=(j:Int):=hj;have JC:nth ps j=some q:=Uj;have acH:j<ps.length:=VG;have I1:ps.set j (q.1,(q.2.1,(q.2.2.1,(q.2.2.2.1,(q.2.2.2.2.1,(q.2.2.2.2.2.1,(q.2.2.2.2.2.2.1,q.2.2.2.2.2.2.2)))))))=ps:=jc Uj;have h4:q.2.2.2.2.2.2.1.length=4:=(hI.loc q hq).fds;have B5:nth q.2.2.2.2.2.2.1 i=some f:=hf;have hw:IntKind.i64.wrap ((i:Int)+1)=((i+1:Nat):Int):=ar (by have hB:aS=9223372036854775807:=rfl;omega);have Af:∀ z:Option (Round Ew _ Empty),(if f= -1 then some (Round.again ((q.1,code,((i+1:Nat):Int),()),((nx,tk,()),z2,eh (nx,tk,pg,ps,os,pi,fi,rd,ou,()) l1))) else (Out.get (wM (gb (nx,tk,pg,ps,os,pi,fi,rd,ou,()) l1,(q.1,()),((i:Int),()),())) fun ((dF,_),_)=>
     .ret (.again ((q.1,code,((i+1:Nat):Int),()),((dF.1,dF.2.1,()),z2,dF.2.2.1,dF.2.2.2.1,dF.2.2.2.2.1,dF.2.2.2.2.2.1,dF.2.2.2.2.2.2.1,dF.2.2.2.2.2.2.2.1,dF.2.2.2.2.2.2.2.2.1,dF.2.2.2.2.2.2.2.2.2.1,em8)))).eval)=z→
     (rb ((q.1,code,(i:Int),()),((nx,tk,()),z2,eh (nx,tk,pg,ps,os,pi,fi,rd,ou,()) l1))).eval=z:=fun z hz=>by
    rw [← hz];dsimp only [rb,eh];rw [DZ,hw];simp only [aaH];refine (ab (aaa (by omega))).trans ?_;refine (ab (aaa (by omega))).trans ?_;refine (aa JC).trans ?_;refine (ab (aaa (by omega))).trans ?_;refine (aa B5).trans ?_;rw [I1];by_cases e:f= -1
    . rw [aaK e]
      exact (ae (pX e)).trans rfl
    . rw [aap e]
      exact (ab (CF e)).trans rfl
   by_cases e:f= -1
   . rw [aaK e]
     exact ⟨_,Af _ (aaK e),l1,rfl,by omega⟩
   . rw [aap e]
     obtain ⟨o,ho,rfl⟩:=((hI.ctx q hq).fds f (aeJ hf)).resolve_left e;obtain ⟨l2,hv,VI⟩:=LH hI hq q1 ho hf (l:=l1) (by omega);exact ⟨_,Af _ ((aap e).trans ((aa hv).trans rfl)),l2,rfl,by omega⟩
 . obtain ⟨l1,rfl,JE⟩:=QN
   refine ⟨_, ?_,l1,rfl,by omega⟩;dsimp only [rb,eh];exact (ae (by rfl)).trans rfl
end
end
section
open Go Go.ChangeShapes Go.WideShapes Go.ChangeAt Go.RowKit
section
variable {x tl:Int} {u u':UT} {p:af} {o:ah} {l l':List ET} {e:ET}
structure Kids (v:Int) (ks:List af) (p:af) (u:UT):Prop where
 here:∀ q∈ks,q∈bu u
 nd:(ks.map ao).Nodup
 me:p∈bu u∧p.1=v
 all:∀ q∈bu u,im q=v→q∈ks
theorem QO {v:Int} {q:af} {ks:List af} (h:aN v tl u) (hk:Kids v (q::ks) p u):aN v tl (qa v u q)∧Kids v ks p (qa v u q):=by
 have hq:=hk.here q (by simp);have hn:(ao q::ks.map ao).Nodup:=hk.nd;rw [ac9] at hn;have dW:∀ r∈ks,r.1≠q.1:=fun r hr e=>hn.1 (by rw [show ao q=ao r from e.symm];exact afY hr);have hpv:im q=v→q.1≠v:=fun e e2=>by
  rcases (h.ctx q hq).par with e0|⟨e0,_⟩
  . have:=(h.ctx q hq).pid.1;omega
  . exact e0 (e.trans e2.symm)
 unfold qa;split
 . rename_i hv
   have O9:=hpv hv;split
   . rename_i h6
     refine ⟨Inv.abJ h hq h6,fun r hr=>iL.2 ⟨hk.here r (by simp [hr]),dW r hr⟩,hn.2,⟨iL.2 ⟨hk.me.1,fun e=>O9 (e.symm.trans hk.me.2)⟩,hk.me.2⟩,fun r hr hrv=> ?_⟩;obtain ⟨hr,hrq⟩:=iL.1 hr;rcases abE.1 (hk.all r hr hrv) with rfl|hm
     . exact absurd rfl hrq
     . exact hm
   . rename_i h6
     refine ⟨Inv.akw h hq h6,fun r hr=>(bf h.cT hq).2 (.inr ⟨hk.here r (by simp [hr]),dW r hr⟩),hn.2,⟨(bf h.cT hq).2 (.inr ⟨hk.me.1,fun e=>O9 (e.symm.trans hk.me.2)⟩),hk.me.2⟩,fun r hr hrv=> ?_⟩;rcases (bf h.cT hq).1 hr with rfl|⟨hr,hrq⟩
     . have:(0:Int)=v:=hrv
       have h1:=(h.ctx p hk.me.1).pid.1;have h2:=hk.me.2;omega
     . rcases abE.1 (hk.all r hr hrv) with rfl|hm
       . exact absurd rfl hrq
       . exact hm
 . rename_i hv
   refine ⟨h,fun r hr=>hk.here r (by simp [hr]),hn.2,hk.me,fun r hr hrv=> ?_⟩;rcases abE.1 (hk.all r hr hrv) with rfl|hm
   . exact absurd hrv hv
   . exact hm
theorem QP {v:Int}:∀ {ks:List af} {u:UT},aN v tl u→Kids v ks p u→aN v tl (gk v ks u)∧Kids v [] p (gk v ks u)
 |[],_,h,hk=>⟨h,hk⟩
 |_::ks,_,h,hk=>QP (ks:=ks) (QO h hk).1 (QO h hk).2
def nB (z:af):Int×Int×Int×Int×(Int×Unit×Unit)×Unit×Unit×Int×Int×Unit:=(z.1,z.2.1,z.2.2.1,z.2.2.2.1,(z.2.2.2.2.1.1,(),()),(),(),z.2.2.2.2.2.2.2.1,z.2.2.2.2.2.2.2.2.1,())
theorem JF {v code:Int} {ks:List af} (h:aN v tl u) (hk:Kids v ks p u) (hl:l.length≤99000) (hks:ks.length≤6):∃ l',b5 lq bn ((v,code,0,()),((u.1,u.2.1,()),z2,ks.map nB,eh u l))=some ((v,code,()),(((gk v ks u).1,(gk v ks u).2.1,()),z2,eh (gk v ks u) l'))∧l'.length≤l.length+6:=by
 have hB:aS=9223372036854775807:=rfl;have Ae:=Ab (f:=lq) ks.length (fun i s=>∃ u1 l1,s=((v,code,(i:Int),()),((u1.1,u1.2.1,()),z2,ks.map nB,eh u1 l1))∧l1.length≤l.length+i∧aN v tl u1∧Kids v (ks.drop i) p u1∧gk v (ks.drop i) u1=gk v ks u)
  (Q:=fun y=>∃ l',y=((v,code,()),(((gk v ks u).1,(gk v ks u).2.1,()),z2,eh (gk v ks u) l'))∧l'.length≤l.length+6) (fun i hi s QN=> ?_) (fun s QN=> ?_) (by omega) (s:=((v,code,0,()),((u.1,u.2.1,()),z2,ks.map nB,eh u l))) ⟨u,l,rfl,by omega,h,hk,rfl⟩
 . obtain ⟨y,h1,l',rfl,h2⟩:=Ae
   exact ⟨l',h1,h2⟩
 . obtain ⟨u1,l1,rfl,JE,hI,hK,wV⟩:=QN
   have hn:nth (ks.map nB) i=some (nB ks[i]):=by
    show (ks.map nB)[i]? =_;rw [af6,aaf hi];rfl
   have hw:IntKind.i64.wrap ((i:Int)+1)=((i+1:Nat):Int):=ar (by omega);have hlen:(ks.map nB).length=ks.length:=aeN ..;rw [acN hi] at hK wV;have QQ:=QO hI hK;have LI:gk v (ks.drop (i+1)) (qa v u1 ks[i])=gk v ks u:=wV;have hq:=hK.here ks[i] afS;generalize ks[i]=q at hn QQ LI hq;have Af:∀ {u2:UT} {l2:List ET},qa v u1 q=u2→l2.length≤l.length+(i+1)→(lq ((v,code,(i:Int),()),((u1.1,u1.2.1,()),z2,ks.map nB,eh u1 l1))).eval=some (.again ((v,code,((i+1:Nat):Int),()),((u2.1,u2.2.1,()),z2,ks.map nB,eh u2 l2)))→∃ s',(lq ((v,code,(i:Int),()),((u1.1,u1.2.1,()),z2,ks.map nB,eh u1 l1))).eval=some (.again s')∧∃ u1 l1,s'=((v,code,((i+1:Nat):Int),()),((u1.1,u1.2.1,()),z2,ks.map nB,eh u1 l1))∧l1.length≤l.length+(i+1)∧aN v tl u1∧Kids v (ks.drop (i+1)) p u1∧gk v (ks.drop (i+1)) u1=gk v ks u:=fun e1 e2 e3=>⟨_,e3,_,_,rfl,e2,e1 ▸ QQ.1,e1 ▸ QQ.2,e1 ▸ LI⟩
   have hc:decide (0≤(i:Int)∧(i:Int)<(((ks.map nB).length:Nat):Int))=true:=aaa (by omega);by_cases hv:im q=v
   . by_cases h6:cQ q=6
     . have e:qa v u1 q=fS (fun ps=>ux ps q.1) u1:=by unfold qa;rw [aaK hv,aaK h6]
       refine Af e (l2:=l1++[eE 6 q.1 0 0]) (by rw [bc];omega) ?_;dsimp only [lq,eh];simp only [aaH,hw];refine (ab (aaa (by omega))).trans ?_;refine (ab hc).trans ?_;refine (aa hn).trans ?_;refine (ae (pX hv)).trans ?_;refine (ab hc).trans ?_;refine (aa hn).trans ?_;refine (ab (di h6)).trans ?_;refine (ab hc).trans ?_;refine (aa hn).trans ?_;refine (aa rfl).trans ?_;refine (aa (eT (u:=u1) (EZ hI.cT hq hI.np) (by omega))).trans ?_;rfl
     . have e:qa v u1 q=de q.1 (Jt 0) u1:=by unfold qa;rw [aaK hv,aap h6]
       refine Af e (l2:=l1++[eE 25 q.1 0 0]) (by rw [bc];omega) ?_;dsimp only [lq,eh];simp only [aaH,hw];refine (ab (aaa (by omega))).trans ?_;refine (ab hc).trans ?_;refine (aa hn).trans ?_;refine (ae (pX hv)).trans ?_;refine (ab hc).trans ?_;refine (aa hn).trans ?_;refine (ae (eB h6)).trans ?_;refine (ab hc).trans ?_;refine (aa hn).trans ?_;refine (aa rfl).trans ?_;refine (aa (eT (u:=u1) (NS hI.cT hq) (by omega))).trans ?_;rfl
   . have e:qa v u1 q=u1:=by unfold qa;rw [aap hv]
     refine Af e (l2:=l1) (by omega) ?_;dsimp only [lq,eh];simp only [aaH,hw];refine (ab (aaa (by omega))).trans ?_;refine (ab hc).trans ?_;refine (aa hn).trans ?_;exact (ab (CF hv)).trans rfl
 . obtain ⟨u1,l1,rfl,JE,hI,hK,wV⟩:=QN
   have LI:u1=gk v ks u:=by rw [← wV,List.drop_length];rfl
   refine ⟨_, ?_,l1,rfl,by omega⟩;have hlen:(ks.map nB).length=ks.length:=aeN ..;rw [← LI];dsimp only [lq,eh];exact (ae (aae (by omega))).trans rfl
theorem wW {α:Type} {key:α→Int} {v:Int} {f g:α→α} (hf:∀ x,key (f x)=key x) (a:List α):ca key (ca key a v f) v g=ca key a v fun x=>g (f x):=by
 unfold ca;rw [List.map_map];apply afZ;intro y _;by_cases q:key y=v
 . simp [q,hf]
 . simp [q]
end
end
section
open Go Go.ChangeShapes Go.WideShapes Go.ChangeAt Go.RowKit
section
variable {x tl:Int} {u u':UT} {p:af} {o:ah} {l l':List ET} {e:ET}
theorem Ag (_:aN x tl u) (hp:p∈bu u) (h1:cQ p=1):NU p.1 (im p) 0 u:=⟨p,hp,rfl,h1,rfl,fun j hj=>by omega⟩
structure QR (v par:Int) (q:af) (u:UT):Prop where
 inv:aN v tl u
 me:q∈bu u∧q.1=v
 st:cQ q=1
 pr:im q=par
 mem:cp q=[]
 fds:∀ f∈aA q,f= -1
 kid:∀ r∈bu u,im r≠v
theorem alp {q:af} (h4:(aA q).length=4) (h:∀ j,j<4→(aA q)[j]? =some (-1)):∀ f∈aA q,f= -1:=fun f hf=>by
 obtain ⟨j,hj,rfl⟩:=afQ hf;have:=h j (by omega);rw [aaf hj] at this;exact aaG this
theorem tL (h:aN 0 tl u) (hp:p∈bu u) (h1:cQ p=1):∃ q∈bu (cq p.1 4 u),q.1=p.1∧cQ q=1∧im q=im p∧(∀ f∈aA q,f= -1)∧aN 0 tl (cq p.1 4 u)∧aN p.1 tl (lT p.1 (cq p.1 4 u))∧Kids p.1 (bu (lT p.1 (cq p.1 4 u))) (kI [] q) (lT p.1 (cq p.1 4 u)):=by
 obtain ⟨hI,q,hq,O9,q1,q2,q3⟩:=wU (k:=4) (abD 4) h (Ag h hp h1);refine ⟨q,hq,O9,q1,q2,alp (hI.loc q hq).fds q3,hI, ?_⟩;rw [← O9] at hI hq ⊢;have hD:aN q.1 tl (lT q.1 (cq q.1 4 u)):=Inv.drop hI hq q1;exact ⟨hD,fun r hr=>hr,hD.cT.nodup,⟨(bf hI.cT hq).2 (.inl rfl),rfl⟩,fun r hr _=>hr⟩
theorem LJ (h:aN 0 tl u) (hp:p∈bu u) (h1:cQ p=1):∃ q,QR (tl:=tl) p.1 (im p) q (gk p.1 (bu (lT p.1 (cq p.1 4 u))) (lT p.1 (cq p.1 4 u))):=by
 obtain ⟨q,_,O9,q1,q2,q3,_,hD,hK⟩:=tL h hp h1;have hk:=QP hD hK;exact ⟨kI [] q,hk.1,hk.2.me,q1,q2,rfl,q3,fun r hr e=>by cases hk.2.all r hr e⟩
theorem LK {v par code:Int} {q:af} (h:QR (tl:=tl) v par q u):Fe v code u=if par=0 then fS (fun ps=>ux ps v) (dA (·.erase v) u)
  else match ee ao (bu (de v (fun p=>ga code (kS 6 0 p)) (dA (·.erase v) u))) par with
   |none=>de v (fun p=>ga code (kS 6 0 p)) (dA (·.erase v) u)
   |some q=>if cQ q=3 then gB q.1 (de v (fun p=>ga code (kS 6 0 p)) (dA (·.erase v) u)) else de v (fun p=>ga code (kS 6 0 p)) (dA (·.erase v) u):=by
 unfold Fe;have e:=dP h.inv.cT h.me.1;rw [show ao q=v from h.me.2] at e;rw [show ee ao (bu u) v=some q from e];simp only [h.pr];all_goals rfl
theorem QS {v par code:Int} {q:af} (h:QR (tl:=tl) v par q u) (h0:par≠0) (hc:b6 code=true):aN 0 tl (de v (fun p=>ga code (kS 6 0 p)) (dA (·.erase v) u))∧
  ∃ r∈bu (de v (fun p=>ga code (kS 6 0 p)) (dA (·.erase v) u)),r.1=par∧cQ r≠6:=by
 obtain ⟨hI,⟨hq,rfl⟩,h1,rfl,hm,hf,hn⟩:=h;refine ⟨Inv.abI hI hq h1 hm hf h0 hn hc, ?_⟩;rcases (hI.ctx q hq).par with e|⟨e,r,hr,e1,e2⟩
 . exact absurd e h0
 . exact ⟨r,(bf hI.cT hq).2 (.inr ⟨hr,fun k=>e (e1.symm.trans k)⟩),e1,e2⟩
theorem ag8 {v par code:Int} {q:af} (h:QR (tl:=tl) v par q u) (hc:b6 code=true):aN 0 tl (Fe v code u):=by
 rw [LK h];split
 . obtain ⟨hI,⟨hq,rfl⟩,h1,_,hm,hf,hn⟩:=h
   exact Inv.gone hI hq h1 hf hn
 . rename_i h0
   obtain ⟨hZ,r,hr,rfl,r6⟩:=QS h h0 hc;have e:=dP hZ.cT hr;rw [show ee ao (bu (de v (fun p=>ga code (kS 6 0 p)) (dA (·.erase v) u))) r.1=some r from e];simp only;split
   . rename_i h3;exact z8 hZ hr r6 (by omega)
   . exact hZ
theorem Ah {code:Int} (h:aN 0 tl u) (hp:p∈bu u) (h1:cQ p=1) (hc:b6 code=true):aN 0 tl (jd p.1 code u):=by
 obtain ⟨q,hL⟩:=LJ h hp h1;unfold jd;exact ag8 hL hc
theorem Ai {code:Int} (h:aN 0 tl u) (hp:p∈bu u) (h6:cQ p≠6) (hc:b6 code=true):aN 0 tl (pq p.1 code u):=by
 unfold pq;rw [show ee ao (bu u) p.1=some p from dP h.cT hp];simp only;split
 . rename_i h1;exact Ah h hp h1 hc
 . rename_i h1
   have:=Ah (p:=kS 1 0 p) (code:=code) (z8 h hp h6 h1) ((bf h.cT hp).2 (.inl rfl)) rfl hc;rw [show (kS 1 0 p).1=p.1 from rfl] at this;exact this
theorem NW (h:aN x tl u):(m8 u).length≤1000:=aa3 (pZ h) (by omega)
abbrev exJ (v code:Int) (u:UT) (l:List ET):=uH v code u.1 u.2.1 0 0 u.2.2.1 u.2.2.2.1 u.2.2.2.2.1 u.2.2.2.2.2.1 u.2.2.2.2.2.2.1 u.2.2.2.2.2.2.2.1 u.2.2.2.2.2.2.2.2.1 l [] [] [] [] [] [] [] []
def exT (v code:Int) (w:WT):Out ((WT×Unit)×(Unit×XI)):= .get (bB (w,eE 22 v 0 0,())) fun ((lP,_),_)=>
 .ite (decide (0≤(ak lP.2.2.2.1 v)∧(ak lP.2.2.2.1 v)<((List.length lP.2.2.2.1:Nat):Int)))
 (.get (nth lP.2.2.2.1 (Int.toNat (ak lP.2.2.2.1 v))) fun y9=>
 .ite ((y9.2.1==0))
 (.get (bB (lP,eE 6 v 0 0,())) fun ((tE,_),_)=>
 .ret ((tE,()),((),(),(),())))
 (.get (bB (lP,eE 3 v 6 0,())) fun ((ox,_),_)=>
 .get (bB (ox,eE 26 v code 0,())) fun ((lQ,_),_)=>
 .ite (decide (0≤(ak lQ.2.2.2.1 y9.2.1)∧(ak lQ.2.2.2.1 y9.2.1)<((List.length lQ.2.2.2.1:Nat):Int)))
 (.get (nth lQ.2.2.2.1 (Int.toNat (ak lQ.2.2.2.1 y9.2.1))) fun Cy=>
 .ite ((Cy.2.2.1==3))
 (.get (pU (lQ,(y9.2.1,()),())) fun ((tF,_),_)=>
 .ret ((tF,()),((),(),(),())))
 (.ret ((lQ,()),((),(),(),()))))
 .fail))
 .fail
theorem ag9 {v par code:Int} {q:af} (h:QR (tl:=tl) v par q u) (hc:b6 code=true) (hl:l.length≤99000):∃ l',(exT v code (gb u l)).eval=some ((gb (Fe v code u) l',()),((),(),(),()))∧l'.length≤l.length+5:=by
 rw [LK h];have h':=h;obtain ⟨hI,⟨hq,rfl⟩,w1,rfl,wm,wf,wk⟩:=h;obtain ⟨nx,tk,pg,ps,os,pi,fi,rd,ou,_⟩:=u;have aab:=eT (l:=l) (zh (nx:=nx) (tk:=tk) (pg:=pg) (ps:=ps) (os:=os) (pi:=pi) (fi:=fi) (ou:=ou) (b:=0) (c:=0) (l:=[]) (hI.ready hq w1) (NW hI)) (by omega);obtain ⟨i,hi,Ff,iU⟩:=bD hI.cT hq;have cU:ak ps q.1=(i:Int):=hi;have s4:nth ps i=some q:=iU;have acM:i<ps.length:=Ff;by_cases h0:im q=0
 . rw [aaK h0]
   have aha:=eT (l:=l++[eE 22 q.1 0 0]) (EZ (nx:=nx) (tk:=tk) (pg:=pg) (os:=os) (pi:=pi) (fi:=fi) (rd:=rd.erase q.1) (ou:=ou) (b:=0) (c:=0) (l:=[]) hI.cT hq hI.np) (by rw [bc];omega);refine ⟨l++[eE 22 q.1 0 0]++[eE 6 q.1 0 0], ?_,by rw [bc,bc];omega⟩;unfold exT;refine (aa aab).trans ?_;dsimp only;rw [cU];simp only [aaH];refine (ab (aaa (by omega))).trans ?_;refine (aa s4).trans ?_;refine (ab (di h0)).trans ?_;exact (aa aha).trans rfl
 . rw [aap h0]
   obtain ⟨hZ,r,hr,hrp,r6⟩:=QS h' h0 hc;have py:=eT (l:=l++[eE 22 q.1 0 0]) (zV (nx:=nx) (tk:=tk) (pg:=pg) (os:=os) (pi:=pi) (fi:=fi) (rd:=rd.erase q.1) (ou:=ou) (b:=6) (c:=0) (l:=[]) hI.cT hq) (by rw [bc];omega);have s5:bS ao (bO ps q.1 (kS 6 0)):=dR hI.cT fun _ _ _=>rfl;have UF:kS 6 0 q∈bO ps q.1 (kS 6 0):=(bf hI.cT hq).2 (.inl rfl);have alr:=eT (l:=l++[eE 22 q.1 0 0]++[eE 3 q.1 6 0]) (Vy (nx:=nx) (tk:=tk) (pg:=pg) (os:=os) (pi:=pi) (fi:=fi) (rd:=rd.erase q.1) (ou:=ou) (b:=code) (c:=0) (l:=[]) s5 UF) (by rw [bc,bc];omega);have huu:bO (bO ps q.1 (kS 6 0)) q.1 (ga code)=bO ps q.1 (fun p=>ga code (kS 6 0 p)):=wW (key:=ao) (f:=kS 6 0) (g:=ga code) (fun _=>rfl) _;have hco:=alr.trans (congrArg (fun z=>some ((gb (nx,tk,pg,z,os,pi,fi,rd.erase q.1,ou,()) (l++[eE 22 q.1 0 0]++[eE 3 q.1 6 0]++[eE 26 q.1 code 0]),()),((),(),()))) huu);obtain ⟨j,hj,VG,Uj⟩:=bD hZ.cT hr;have DZ:ak (bO ps q.1 (fun p=>ga code (kS 6 0 p))) q.2.1=(j:Int):=by rw [show q.2.1=r.1 from hrp.symm];exact hj
   have JC:nth (bO ps q.1 (fun p=>ga code (kS 6 0 p))) j=some r:=Uj;have acH:j<(bO ps q.1 (fun p=>ga code (kS 6 0 p))).length:=VG;have hlk:ee ao (bO ps q.1 (fun p=>ga code (kS 6 0 p))) (im q)=some r:=by rw [← hrp];exact dP hZ.cT hr
   rw [show ee ao (bu (de q.1 (fun p=>ga code (kS 6 0 p)) (dA (·.erase q.1) (nx,tk,pg,ps,os,pi,fi,rd,ou,())))) (im q)=some r from hlk];simp only;have hhd:∀ z,(Out.ite ((cQ r==3)) (.get (pU (gb (nx,tk,pg,bO ps q.1 (fun p=>ga code (kS 6 0 p)),os,pi,fi,rd.erase q.1,ou,()) (l++[eE 22 q.1 0 0]++[eE 3 q.1 6 0]++[eE 26 q.1 code 0]),(q.2.1,()),())) fun ((tF,_),_)=> .ret ((tF,()),((),(),(),()))) (.ret ((gb (nx,tk,pg,bO ps q.1 (fun p=>ga code (kS 6 0 p)),os,pi,fi,rd.erase q.1,ou,()) (l++[eE 22 q.1 0 0]++[eE 3 q.1 6 0]++[eE 26 q.1 code 0]),()),((),(),(),())))).eval=z→(exT q.1 code (gb (nx,tk,pg,ps,os,pi,fi,rd,ou,()) l)).eval=z:=fun z hz=>by
    rw [← hz];unfold exT;refine (aa aab).trans ?_;dsimp only;rw [cU];simp only [aaH];refine (ab (aaa (by omega))).trans ?_;refine (aa s4).trans ?_;refine (ae (eB h0)).trans ?_;refine (aa py).trans ?_;refine (aa hco).trans ?_;dsimp only;rw [DZ];simp only [aaH];refine (ab (aaa (by omega))).trans ?_;exact (aa JC).trans rfl
   by_cases h3:cQ r=3
   . rw [aaK h3]
     have hw:=E5 (u:=(nx,tk,pg,bO ps q.1 (fun p=>ga code (kS 6 0 p)),os,pi,fi,rd.erase q.1,ou,())) hZ hr (by omega) (l:=l++[eE 22 q.1 0 0]++[eE 3 q.1 6 0]++[eE 26 q.1 code 0]) (by rw [bc,bc,bc];omega);rw [show r.1=q.2.1 from hrp] at hw ⊢;exact ⟨_,hhd _ ((ab (di h3)).trans ((aa hw).trans rfl)),by rw [bc,bc,bc,bc,bc];omega⟩
   . rw [aap h3]
     exact ⟨_,hhd _ ((ae (eB h3)).trans rfl),by rw [bc,bc,bc];omega⟩
theorem acP (h:bS ao (bu u)) (hp:p∈bu u) (hl:l.length≤99990):bB (gb u l,eE 5 p.1 0 0,())=some ((gb (lT p.1 u) (l++[eE 5 p.1 0 0]),()),((),(),())):=by
 obtain ⟨nx,tk,pg,ps,os,pi,fi,rd,ou,_⟩:=u;exact eT (Vv h hp) (by omega)
theorem Aj {code:Int} (h:aN 0 tl u) (hp:p∈bu u) (h1:cQ p=1) (hc:b6 code=true) (hl:l.length≤98000):∃ l',(exJ p.1 code u l).eval=some ((gb (jd p.1 code u) l',()),((),(),(),()))∧l'.length≤l.length+80:=by
 have hL:bV=68719476736:=rfl;obtain ⟨l1,e1,JE⟩:=JD (code:=code) h (Ag h hp h1) (l:=l) (by omega);obtain ⟨q,hq,O9,q1,q2,q3,hI,hD,hK⟩:=tL h hp h1;have CH:(bu (lT p.1 (cq p.1 4 u))).length≤6:=hD.np;have aac:=acP hI.cT hq (l:=l1) (by omega);rw [O9] at aac;obtain ⟨l2,e2,VI⟩:=JF (code:=code) hD hK (l:=l1++[eE 5 p.1 0 0]) (by rw [bc];omega) CH;obtain ⟨q',ahc⟩:=LJ h hp h1;rw [bc] at VI;obtain ⟨l3,e3,hl3⟩:=ag9 ahc hc (l:=l2) (by omega);unfold jd;generalize gk p.1 (bu (lT p.1 (cq p.1 4 u))) (lT p.1 (cq p.1 4 u))=w at*;generalize lT p.1 (cq p.1 4 u)=w2 at*;generalize cq p.1 4 u=w1 at*;refine ⟨l3, ?_,by omega⟩;rw [← e3];dsimp only [exJ,uH];refine (aa e1).trans ?_;dsimp only;refine (aa rfl).trans ?_;refine (aa aac).trans ?_;refine (ab (aaa (by
  simp only [aeN,aat];exact aa3 (Nat.add_le_add_left CH 0) (by omega)))).trans ?_
 refine (aa e2).trans ?_;dsimp only;refine (aa rfl).trans ?_;rfl
theorem Fg {code:Int} (h:aN 0 tl u) (hp:p∈bu u) (h6:cQ p≠6) (hc:b6 code=true) (hl:l.length≤97000):∃ l',wN (gb u l,(p.1,()),(code,()),())=some ((gb (pq p.1 code u) l',()),((),(),(),()))∧l'.length≤l.length+90:=by
 unfold pq;rw [show ee ao (bu u) p.1=some p from dP h.cT hp];simp only;obtain ⟨i,hi,Ff,iU⟩:=bD h.cT hp;have cU:ak (bu u) p.1=(i:Int):=hi;have s4:nth (bu u) (Int.toNat (i:Int))=some p:=by rw [aaH];exact iU
 have acM:i<(bu u).length:=Ff;have hhd:∀ z,(Out.ite ((cQ p != 1)) (.get (pU (gb u l,(p.1,()),())) fun ((b9,_),_)=>uH p.1 code b9.1 b9.2.1 0 0 b9.2.2.1 b9.2.2.2.1 b9.2.2.2.2.1 b9.2.2.2.2.2.1 b9.2.2.2.2.2.2.1 b9.2.2.2.2.2.2.2.1 b9.2.2.2.2.2.2.2.2.1 b9.2.2.2.2.2.2.2.2.2.1 [] [] [] [] [] [] [] []) (exJ p.1 code u l)).eval=z→wN (gb u l,(p.1,()),(code,()),())=z:=fun z hz=>by
  rw [← hz];show Out.eval (Ey _)=_;dsimp only [Ey,gb];show Out.eval (Out.ite (decide (0≤ak (bu u) p.1∧ak (bu u) p.1<(((bu u).length:Nat):Int))) (.get (nth (bu u) (Int.toNat (ak (bu u) p.1))) _) _)=_;rw [cU];refine (ab (aaa (by omega))).trans ?_;exact (aa s4).trans rfl
 by_cases h1:cQ p=1
 . rw [aaK h1]
   obtain ⟨l',e,hl'⟩:=Aj h hp h1 hc (l:=l) (by omega);exact ⟨l',hhd _ ((ae (pX h1)).trans e),by omega⟩
 . rw [aap h1]
   have hw:=E5 h hp h1 (l:=l) (by omega);have hm:kS 1 0 p∈bu (gB p.1 u):=(bf h.cT hp).2 (.inl rfl);obtain ⟨l',e,hl'⟩:=Aj (code:=code) (z8 h hp h6 h1) hm rfl hc (l:=mF p.1 l) (by rw [bc,bc];omega);rw [bc,bc] at hl';rw [show (kS 1 0 p).1=p.1 from rfl] at e;generalize jd p.1 code (gB p.1 u)=w at*;generalize gB p.1 u=w1 at*;exact ⟨l',hhd _ ((ab (CF h1)).trans ((aa hw).trans e)),by omega⟩
end
end
section
open Go Go.ChangeShapes Go.WideShapes Go.ChangeAt Go.RowKit
section
variable {x tl:Int} {u u' v:UT} {p:af} {o:ah} {l l':List ET} {e:ET} {β:Type} {n m:Nat}
def Gv (r:Option ((WT×Unit)×β)) (v:UT) (l:List ET) (n:Nat):Prop:=∃ l' z,r=some ((gb v l',()),z)∧l'.length≤l.length+n
theorem Gv.step {r r':Option ((WT×Unit)×β)} (e:r=r') (h:Gv r' v l n):Gv r v l n:=e ▸ h
theorem Gv.ret {l':List ET} {z:β} (h:l'.length≤l.length+n):Gv (Out.ret ((gb v l',()),z)).eval v l n:=⟨l',z,rfl,h⟩
theorem Gv.from {r:Option ((WT×Unit)×β)} {l1:List ET} (h:Gv r v l1 n) (hm:l1.length+n≤l.length+m):Gv r v l m:=by obtain ⟨a,b,c,d⟩:=h;exact ⟨a,b,c,by omega⟩
abbrev pT (p:af):=(p.1,p.2.1,p.2.2.1,p.2.2.2.1,p.2.2.2.2.1.1,p.2.2.2.2.1.2.1,p.2.2.2.2.2.1,p.2.2.2.2.2.2.1,p.2.2.2.2.2.2.2.1,p.2.2.2.2.2.2.2.2.1,())
theorem cY {y:Int} (h: -1000000≤y∧y≤1000000):b6 y=true:=fF.2 h
theorem bY {z:β} (h:bS ao (bu u)) (hp:p∈bu u) {c:ag} (hc:aR c.1 c.2.1=true) {y:Int} (hy:b6 y=true) {l1:List ET} (hl:l1.length≤99990) (hm:l1.length+1≤l.length+m):Gv (Out.get (bE (gb u l1,(p.1,()),c,(y,()),())) fun ((b9,_),_)=>Out.ret ((b9,()),z)).eval (cI p.1 c y u) l m:=by
 obtain ⟨l',e,h2⟩:=E6 h hp hc hy hl;exact Gv.step (aa e) (Gv.ret (by omega))
theorem Fh {z:β} (h:bS ao (bu u)) (hp:p∈bu u) {c:ag} (hc:aR c.1 c.2.1=true) {y w:Int} (hy:b6 y=true) (hw:b6 w=true) {l1:List ET} (hl:l1.length≤99990) (hm:l1.length+1≤l.length+m):Gv (Out.get (wI (gb u l1,(p.1,()),c,(y,()),(w,()),())) fun ((b9,_),_)=>Out.ret ((b9,()),z)).eval (iz p.1 c y w u) l m:=by
 obtain ⟨l',e,h2⟩:=LG h hp hc hy hw hl;exact Gv.step (aa e) (Gv.ret (by omega))
theorem Fi (h:aN x tl u) {n:Nat} (hn:n≤1000) {q:Bool} (hq:decide (my (bu u)+4*n≤64)=q):oA (u,((n:Int),()),())=some (((q,()),()),((),(),())):=by
 obtain ⟨nx,tk,pg,ps,os,pi,fi,rd,ou,_⟩:=u;exact VF (fun p hp=>⟨(h.loc p hp).mem.1,(h.loc p hp).mem.2.1⟩) h.np hn hq
def oB (p:af) (u:UT):UT:=(u.1+1,u.2.1,u.2.2.1,u.2.2.2.1++[lO u.1 p],u.2.2.2.2)
def CK (p:af) (c:ag) (u:UT):UT:=
 if 6≤(bu u).length∨100000≤u.1∨64<my (bu u)+(cp p).length then cI p.1 c (-1) u
 else cI p.1 c u.1 (dA (· ++[u.1]) (cI u.1 c 0 (bx (cB (aA p)) (oB p u))))
theorem acQ (h:aN 0 tl u) (hp:p∈bu u) (h1:cQ p=1) {c:ag} (hc:aR c.1 c.2.1=true):aN 0 tl (CK p c u):=by
 unfold CK;split
 . exact cu h hp hc (by rfl)
 . rename_i hn
   have VJ:¬ 6≤(bu u).length:=fun e=>hn (.inl e);have UH:¬ 100000≤u.1:=fun e=>hn (.inr (.inl e));have hn3:¬ 64<my (bu u)+(cp p).length:=fun e=>hn (.inr (.inr e));have hx:=h.GI;have hF:aN 0 tl (dA (· ++[u.1]) (bx (cB (aA p)) (oB p u))):=Inv.fork h hp h1 (by omega) (by show (bu u).length<6;omega) (by show my (bu u)+_≤64;omega);have hk:lO u.1 p∈bu (dA (· ++[u.1]) (bx (cB (aA p)) (oB p u))):=ae5 _ (adi.2 rfl);have hK:=cu hF hk hc (y:=0) (by rfl);have hpp:p∈bu (dA (· ++[u.1]) (bx (cB (aA p)) (oB p u))):=afU _ hp;have dW:p.1≠(lO u.1 p).1:=by have:=(h.ctx p hp).pid.2;show p.1≠u.1;omega
   have Gr:p∈bu (cI (lO u.1 p).1 c 0 (dA (· ++[u.1]) (bx (cB (aA p)) (oB p u)))):=(bf hF.cT hk).2 (.inr ⟨hpp,dW⟩);exact cu hK Gr hc (cY (by omega))
theorem JG (os:List ah):cB [] os=os:=by
 unfold cB;refine (afZ fun o _=> ?_).trans (List.map_id' os);show cV (bN o+((0:Nat):Int)) o=o;rw [show bN o+((0:Nat):Int)=bN o by omega];rfl
theorem GU {os:List ah} (l:List Int) (f:Int) (eI:∀ o∈os,0≤o.1):cB (l++[f]) os=if f= -1 then cB l os else ca al (cB l os) f (fun o=>cV (bN o+1) o):=by
 unfold cB;split
 . rename_i e
   refine afZ fun o ho=> ?_;have:(l++[f]).count o.1=l.count o.1:=by
    rw [List.count_append,e];have:=eI o ho;rw [List.count_eq_zero.2 (show o.1 ∉ [(-1:Int)] by simp;omega)];omega
   rw [this]
 . unfold ca
   rw [List.map_map];refine afZ fun o ho=> ?_;show cV (bN o+(((l++[f]).count o.1:Nat):Int)) o=if al (cV _ o)=f then _ else _
   rw [List.count_append];by_cases q:o.1=f
   . rw [aaK (show al (cV (bN o+((l.count o.1:Nat):Int)) o)=f from q),q]
     have:[f].count f=1:=by simp
     rw [this];show cV (bN o+((l.count f+1:Nat):Int)) o=cV (bN o+((l.count o.1:Nat):Int)+1) o;rw [q,show bN o+((l.count f+1:Nat):Int)=bN o+((l.count f:Nat):Int)+1 by omega]
   . rw [aap (show ¬ al (cV (bN o+((l.count o.1:Nat):Int)) o)=f from q)]
     have:[f].count o.1=0:=List.count_eq_zero.2 (by simpa using q);rw [this,af0]
theorem GV {os:List ah} (h:bS al os) (l:List Int):bS al (cB l os):=by
 have e:(cB l os).map al=os.map al:=by
  unfold cB;rw [List.map_map];rfl
 unfold bS;rw [e];exact h
theorem JH {a:List ah} (h:bS al a) (ho:o∈a) {f g:ah→ah} (e:f o=g o):ca al a o.1 f=ca al a o.1 g:=by
 unfold ca;refine afZ fun y hy=> ?_;by_cases q:al y=o.1
 . obtain rfl:=h.inj hy ho q
   rw [aaK q,aaK q,e]
 . rw [aap q,aap q]
theorem NX {c:ag} (h:bS al (fK u)) (eI:∀ o∈fK u,0≤o.1∧bN o≤100∧ -100≤bN o) (hos:(fK u).length≤8) (h4:(aA p).length=4) (hm:∀ f∈aA p,f= -1∨∃ o∈fK u,o.1=f) (hl:l.length≤99000) {k:Int}:
  ∃ l',b5 re bn ((k,0,()),((u.1,u.2.1,()),pT p,c,z2,eh u l))=some ((k,()),(((bx (cB (aA p)) u).1,(bx (cB (aA p)) u).2.1,()),pT p,c,z2,eh (bx (cB (aA p)) u) l'))∧l'.length≤l.length+4:=by
 have hB:aS=9223372036854775807:=rfl;have Ae:=Ab (f:=re) 4 (fun i s=>∃ l1,s=((k,(i:Int),()),((u.1,u.2.1,()),pT p,c,z2,eh (bx (cB ((aA p).take i)) u) l1))∧l1.length≤l.length+i)
  (Q:=fun y=>∃ l',y=((k,()),(((bx (cB (aA p)) u).1,(bx (cB (aA p)) u).2.1,()),pT p,c,z2,eh (bx (cB (aA p)) u) l'))∧l'.length≤l.length+4) (fun i hi s hs=> ?_) (fun s hs=> ?_) (by omega) (s:=((k,0,()),((u.1,u.2.1,()),pT p,c,z2,eh u l))) ⟨l,by
   rw [ahI];have:bx (cB []) u=u:=by unfold bx;rw [JG]
   rw [this];rfl,by omega⟩
 . obtain ⟨y,h1,l',rfl,h2⟩:=Ae
   exact ⟨l',h1,h2⟩
 . obtain ⟨l1,rfl,JE⟩:=hs
   have hn:nth p.2.2.2.2.2.2.1 i=some ((aA p)[i]'(by omega)):=aaf _;have h4':p.2.2.2.2.2.2.1.length=4:=h4;have hw:IntKind.i64.wrap ((i:Int)+1)=((i+1:Nat):Int):=ar (by omega);have ht:(aA p).take (i+1)=(aA p).take i++[(aA p)[i]'(by omega)]:=agW _;have hf:=hm _ (acD (show i<(aA p).length by omega));have CL:=GU (os:=fK u) ((aA p).take i) ((aA p)[i]'(by omega)) fun o ho=>(eI o ho).1;rw [← ht] at CL;have acR:∀ o:ah,((aA p).take i).count o.1≤4:=fun o=>aa3 List.count_le_length (by rw [agH];omega);generalize (aA p)[i]'(by omega)=f at hn hf CL ht;by_cases e:f= -1
   . rw [aaK e] at CL
     refine ⟨_, ?_,l1,rfl,by omega⟩;dsimp only [re,eh,pT];simp only [aaH,hw];refine (ab (aaa (by omega))).trans ?_;refine (ab (aaa (by omega))).trans ?_;refine (aa hn).trans ?_;refine (ae (pX e)).trans ?_;rw [← show bx (cB ((aA p).take (i+1))) u=bx (cB ((aA p).take i)) u by unfold bx;rw [show cB ((aA p).take (i+1)) u.2.2.2.2.1=cB ((aA p).take i) u.2.2.2.2.1 from CL]];rfl
   . rw [aap e] at CL
     obtain ⟨o,ho,rfl⟩:=hf.resolve_left e;have UF:cV (bN o+((((aA p).take i).count o.1:Nat):Int)) o∈cB ((aA p).take i) (fK u):=List.mem_map.2 ⟨o,ho,rfl⟩;have s5:=GV h ((aA p).take i);have hc4:=acR o;have hlen:(cB ((aA p).take i) (fK u)).length≤1000:=by unfold cB;rw [aeN];omega
     have hbd: -1000≤bN (cV (bN o+((((aA p).take i).count o.1:Nat):Int)) o)+1∧bN (cV (bN o+((((aA p).take i).count o.1:Nat):Int)) o)+1≤1000:=by
      have:=eI o ho;show -1000≤bN o+((((aA p).take i).count o.1:Nat):Int)+1∧bN o+((((aA p).take i).count o.1:Nat):Int)+1≤1000;omega
     have hcn:=JH s5 UF (f:=fun o=>cV (bN o+1) o) (g:=cV (bN (cV (bN o+((((aA p).take i).count o.1:Nat):Int)) o)+1)) rfl;have alv:cB ((aA p).take (i+1)) (fK u)=ca al (cB ((aA p).take i) (fK u)) o.1 (cV (bN (cV (bN o+((((aA p).take i).count o.1:Nat):Int)) o)+1)):=CL.trans hcn;have hd:=eT (l:=l1) (wP (nx:=u.1) (tk:=u.2.1) (pg:=u.2.2.1) (ps:=u.2.2.2.1) (pi:=u.2.2.2.2.2.1) (fi:=u.2.2.2.2.2.2.1) (rd:=u.2.2.2.2.2.2.2.1) (ou:=u.2.2.2.2.2.2.2.2.1) (b:=1) (c:=0) (l:=[]) s5 UF hlen hbd) (by omega);refine ⟨_, ?_,l1++[eE 11 o.1 1 0],rfl,by rw [bc];omega⟩;dsimp only [re,eh,pT];simp only [aaH,hw];refine (ab (aaa (by omega))).trans ?_;refine (ab (aaa (by omega))).trans ?_;refine (aa hn).trans ?_;refine (ab (CF e)).trans ?_;refine (ab (aaa (by omega))).trans ?_;refine (aa hn).trans ?_;refine (aa rfl).trans ?_;refine (aa hd).trans ?_;rw [show bx (cB ((aA p).take (i+1))) u=(u.1,u.2.1,u.2.2.1,u.2.2.2.1,cB ((aA p).take (i+1)) (fK u),u.2.2.2.2.2) from rfl,alv];rfl
 . obtain ⟨l1,rfl,JE⟩:=hs
   have h4':p.2.2.2.2.2.2.1.length=4:=h4;rw [afP (by omega)];refine ⟨_, ?_,l1,rfl,by omega⟩;dsimp only [re,eh,pT];exact (ae (aae (by omega))).trans rfl
end
end
section
open Go Go.ChangeShapes Go.WideShapes Go.ChangeAt Go.RowKit
section
variable {x tl:Int} {u u' v:UT} {p:af} {o:ah} {l l':List ET} {e:ET} {β:Type} {n m:Nat}
theorem aad (n:Nat) (h:n≤1000):IntKind.i64.wrap (Int.tdiv ((n:Nat):Int) (4:Int))=((n / 4:Nat):Int):=by
 have ht0:Int.tdiv ((n:Nat):Int) (4:Int)=((n / 4:Nat):Int):=rfl;rw [ht0,jO (by omega) (by omega)]
theorem acS (h:aN 0 tl u) (hp:p∈bu u) (_:cQ p=1) {c:ag} (hc:aR c.1 c.2.1=true) (hl:l.length≤98000):Gv (Qg (gb u l,pT p,c,())) (CK p c u) l 10:=by
 have QT:=h.loc p hp;have hm:(cp p).length≤12∧(cp p).length % 4=0:=⟨QT.mem.1,QT.mem.2.1⟩
 have pI:p.2.2.2.2.2.1.length≤12∧p.2.2.2.2.2.1.length % 4=0:=hm;have hx:=h.GI;have ht:=h.Jq;have ea:(cp p).length=p.2.2.2.2.2.1.length:=rfl;unfold CK;show Gv (Out.eval (EG _)) _ _ _;dsimp only [EG,gb,pT];rw [aad _ (by omega)];by_cases a1:6≤(bu u).length
 . rw [aaK (.inl a1)]
   have a1':6≤u.2.2.2.1.length:=a1;refine Gv.step (ae (aO (by omega))) ?_;exact bY h.cT hp hc (by rfl) (by omega) (by omega)
 . have a1':¬ 6≤u.2.2.2.1.length:=a1
   refine Gv.step (ab (aJ (by omega))) ?_;by_cases a2:100000≤u.1
   . rw [aaK (.inr (.inl a2))]
     refine Gv.step (ae (aO (by omega))) ?_;exact bY h.cT hp hc (by rfl) (by omega) (by omega)
   . refine Gv.step (ab (aJ (by omega))) ?_
     refine Gv.step (ae (by rfl)) ?_;by_cases a3:64<my (bu u)+(cp p).length
     . rw [aaK (.inr (.inr a3))]
       have hq:decide (my (bu u)+4*(p.2.2.2.2.2.1.length / 4)≤64)=false:=aae (by omega);refine Gv.step (aa (Fi h (by omega) hq)) ?_;refine Gv.step (ab (by rfl)) ?_;exact bY h.cT hp hc (by rfl) (by omega) (by omega)
     . have hq:decide (my (bu u)+4*(p.2.2.2.2.2.1.length / 4)≤64)=true:=aaa (by omega)
       have hr:=Fi h (by omega) hq;refine Gv.step (aa hr) ?_;refine Gv.step (ae (by rfl)) ?_;rw [aap (by rintro (e|e|e)<;>omega)];have hos:(fK u).length≤8:=nA h;have Ur:∀ o∈fK u,1≤bN o∧bN o≤24:=fun o ho=>Fb h ho;have eI:=fun o ho=>(h.op o ho).id;have alw:=h.ctx p hp;have s5:=h.cT;have CH:=h.np;have bZ:∀ q∈bu u,q.1<u.1:=fun q hq=>(h.ctx q hq).pid.2;obtain ⟨nx,tk,pg,ps,os,pi,fi,rd,ou,_⟩:=u;have NY:=eT (l:=l) (QF (c:=0) (l:=[]) s5 hp (by omega) (by omega) hx.1 ⟨hm.1,(dm QT.kP).2.1,QT.fds⟩ hr) (by omega);refine Gv.step (aa rfl) ?_;refine Gv.step (aa NY) ?_;obtain ⟨l1,e1,JE⟩:=NX (u:=oB p (nx,tk,pg,ps,os,pi,fi,rd,ou,())) (c:=c) (k:=nx) (p:=p) h.pz (fun o ho=>⟨(eI o ho).1,by have:=Ur o ho;omega,by have:=Ur o ho;omega⟩) hos QT.fds alw.fds (l:=l++[eE 4 nx p.1 0]) (by rw [bc];omega);rw [bc] at JE;refine Gv.step (aa e1) ?_;have tK:bS ao (ps++[lO nx p]):=by
        unfold bS;rw [ag5,List.pairwise_append];refine ⟨s5,by simp,fun a ha b hb=> ?_⟩;obtain ⟨z,hz,ez⟩:=List.mem_map.1 ha;simp only [acX,af8,adi] at hb;rw [hb, ← ez];exact bZ z hz
       have GW:lO nx p∈ps++[lO nx p]:=ae5 _ (adi.2 rfl);have hpp:p∈ps++[lO nx p]:=afU _ hp;obtain ⟨l2,e2,VI⟩:=E6 (u:=bx (cB (aA p)) (oB p (nx,tk,pg,ps,os,pi,fi,rd,ou,()))) tK GW hc (y:=0) (by rfl) (l:=l1) (by omega);refine Gv.step (aa e2) ?_;refine Gv.step (aa rfl) ?_;have hpu:=eT (l:=l2) (zg (nx:=nx+1) (tk:=tk) (pg:=pg) (ps:=bO (ps++[lO nx p]) nx (pA (sZ c 0 0))) (os:=cB (aA p) os) (pi:=pi) (fi:=fi) (rd:=rd) (ou:=ou) (k:=nx) (b:=0) (c:=0) (l:=[]) (by
        have h3:rd.length≤ps.length:=by
         rw [(show rd.Perm (aL ps) from h.Gp).length_eq];unfold aL;rw [aeN];exact aga _ _
        have:¬ 6≤ps.length:=a1;omega)) (by omega)
       refine Gv.step (aa hpu) ?_;have acT:bS ao (bO (ps++[lO nx p]) nx (pA (sZ c 0 0))):=dR tK fun _ _ _=>rfl;have QU:p∈bO (ps++[lO nx p]) nx (pA (sZ c 0 0)):=(bf tK GW).2 (.inr ⟨hpp,by have:=bZ p hp;show p.1≠nx;have:p.1<nx:=this;omega⟩);exact bY (u:=dA (· ++[nx]) (cI nx c 0 (bx (cB (aA p)) (oB p (nx,tk,pg,ps,os,pi,fi,rd,ou,()))))) acT QU hc (y:=nx) (cY (by have:1≤nx∧nx≤100000:=hx;omega)) (l1:=l2++[eE 21 nx 0 0]) (by rw [bc];omega) (by rw [bc];omega)
theorem NZ {σ β γ:Type} {f:σ→Out (Round σ β γ)} (n:Nat) (R:Nat→σ→Prop) {Q:β→Prop} {Q':γ→Prop} (hs:∀ i,i<n→∀ s,R i s→(∃ s',(f s).eval=some (.again s')∧R (i+1) s')∨∃ z,(f s).eval=some (.ret z)∧Q' z) (hy:∀ s,R n s→∃ y,(f s).eval=some (.out y)∧Q y) (hn:n≤aS) {s:σ} (h0:R 0 s):
  (∃ y,iter f bn s=some (.inl y)∧Q y)∨∃ z,iter f bn s=some (.inr z)∧Q' z:=by
 have key:∀ (m i k:Nat) (s:σ),i+m=n→m<k→R i s→(∃ y,iter f k s=some (.inl y)∧Q y)∨∃ z,iter f k s=some (.inr z)∧Q' z:=by
  intro m
  induction m with
  |zero=>
   intro i k s hi hk hr;obtain rfl:i=n:=by omega
   obtain ⟨y,h1,h2⟩:=hy s hr;exact .inl ⟨y,lD h1 hk,h2⟩
  |succ m ih=>
   intro i k s hi hk hr;rcases hs i (by omega) s hr with ⟨s',h1,h2⟩|⟨z,h1,h2⟩
   . obtain ⟨k,rfl⟩:∃ k',k=k'+1:=⟨k - 1,by omega⟩
     rw [ke h1];exact ih (i+1) k s' (by omega) (by omega) h2
   . exact .inr ⟨z,nC h1 (by omega),h2⟩
 exact key n 0 bn s (by omega) (fL hn) h0
def jV (v:Int) (k:af):Bool:=im k==v&&cQ k==6
def qb (v:Int) (k:af):Bool:=im k==v
def CM (p:af) (c:ag) (u:UT):UT:=match (bu u).find? (jV p.1) with
 |some k=>iz p.1 c k.1 (nu k) (fS (fun ps=>ux ps k.1) u)
 |none=>if (bu u).any (qb p.1)=true then tH p.1 3 0 u else cI p.1 c (-1) u
theorem uP {v:Int} {k:af}:jV v k=true↔im k=v∧cQ k=6:=by unfold jV;simp
theorem acU (h:aN 0 tl u) (hp:p∈bu u) (h1:cQ p=1) {c:ag} (hc:aR c.1 c.2.1=true):aN 0 tl (CM p c u):=by
 unfold CM;cases e:(bu u).find? (jV p.1) with
 |some k=>
  have hk:=List.mem_of_find?_eq_some e;have h6:=(uP.1 (List.find?_some e)).2;have hR:aN 0 tl (fS (fun ps=>ux ps k.1) u):=Inv.abJ h hk h6;have hpk:=(h.ctx k hk).pid;have hx:=h.GI;refine zk hR (iL.2 ⟨hp,fun e2=> ?_⟩) hc (cY (by omega)) (h.loc k hk).code;have:=h.cT.inj hp hk e2;subst this;omega
 |none=>
  simp only;split
  . exact zi h hp h1 (by omega) (by omega) (fun _=>rfl) (by omega)
  . exact cu h hp hc (by rfl)
theorem acV (h:aN 0 tl u) (hp:p∈bu u) (h1:cQ p=1) {c:ag} (hc:aR c.1 c.2.1=true) (hl:l.length≤98000):Gv (Qi (gb u l,pT p,c,())) (CM p c u) l 10:=by
 have hB:aS=9223372036854775807:=rfl;have CH:(bu u).length≤6:=h.np;have ao2:u.2.2.2.1.length≤6:=CH;have Ae:=NZ (f:=rf) (bu u).length (fun i s=>s=((!((bu u).take i).any (qb p.1),(i:Int),()),((u.1,u.2.1,()),pT p,c,z2,eh u l))∧((bu u).take i).all (fun k=> !jV p.1 k)=true)
  (Q:=fun y=>y=((!(bu u).any (qb p.1),()),((u.1,u.2.1,()),pT p,c,z2,eh u l))∧(bu u).find? (jV p.1)=none)
  (Q':=fun z=>∃ k l',(bu u).find? (jV p.1)=some k∧l'.length≤l.length+2∧z=((),(((iz p.1 c k.1 (nu k) (fS (fun ps=>ux ps k.1) u)).1,(iz p.1 c k.1 (nu k) (fS (fun ps=>ux ps k.1) u)).2.1,()),(iz p.1 c k.1 (nu k) (fS (fun ps=>ux ps k.1) u)).2.2.1,(iz p.1 c k.1 (nu k) (fS (fun ps=>ux ps k.1) u)).2.2.2.1,(iz p.1 c k.1 (nu k) (fS (fun ps=>ux ps k.1) u)).2.2.2.2.1,(iz p.1 c k.1 (nu k) (fS (fun ps=>ux ps k.1) u)).2.2.2.2.2.1,(iz p.1 c k.1 (nu k) (fS (fun ps=>ux ps k.1) u)).2.2.2.2.2.2.1,(iz p.1 c k.1 (nu k) (fS (fun ps=>ux ps k.1) u)).2.2.2.2.2.2.2.1,(iz p.1 c k.1 (nu k) (fS (fun ps=>ux ps k.1) u)).2.2.2.2.2.2.2.2.1,l',())))
  (fun i hi s hs=> ?_) (fun s hs=> ?_) (by omega) (s:=((true,0,()),((u.1,u.2.1,()),pT p,c,z2,eh u l))) ⟨rfl,rfl⟩
 . show Gv (Out.eval (EH _)) _ _ _
   dsimp only [EH,gb,pT];unfold CM;rcases Ae with ⟨y,e1,rfl,e2⟩|⟨z,e1,k,l',e2,hl',rfl⟩
   . rw [e2]
     refine Gv.step (aa e1) ?_;refine Gv.step (gF _) ?_;simp only;by_cases q:(bu u).any (qb p.1)=true
     . rw [aaK q]
       refine Gv.step (ae (by rw [q];rfl)) ?_;refine Gv.step (aa (zj h hp h1 (by omega))) ?_;exact Gv.ret (by rw [bc,bc];omega)
     . rw [aap q]
       refine Gv.step (ab (by rw [Bool.eq_false_iff.2 q];rfl)) ?_;exact bY h.cT hp hc (by rfl) (by omega) (by omega)
   . rw [e2]
     refine Gv.step (aa e1) ?_;refine Gv.step (JI _) ?_;exact Gv.ret (l':=l') (by omega)
 . obtain ⟨rfl,Fj⟩:=hs
   have hn:nth (bu u) i=some (bu u)[i]:=aaf hi;have hq:=acD hi;have hw:IntKind.i64.wrap ((i:Int)+1)=((i+1:Nat):Int):=ar (by omega);have ht:(bu u).take (i+1)=(bu u).take i++[(bu u)[i]]:=agW _;have jt:bu u=(bu u).take i++(bu u)[i]::(bu u).drop (i+1):=by
    conv=>lhs;rw [← af1 i (bu u),acN hi]
   have cU:i<u.2.2.2.1.length:=hi;generalize (bu u)[i]=q at hn hq ht jt;have nz:nth u.2.2.2.1 i=some q:=hn;by_cases hk:im q=p.1
   . by_cases h6:cQ q=6
     . right
       have hd:jV p.1 q=true:=uP.2 ⟨hk,h6⟩;have hf:(bu u).find? (jV p.1)=some q:=by
        rw [jt,List.find?_append,List.find?_eq_none.2 fun z hz=>by have:=aa1.1 Fj z hz;simpa using this];rw [List.find?_cons_of_pos hd];rfl
       have hR:aN 0 tl (fS (fun ps=>ux ps q.1) u):=Inv.abJ h hq h6;have hpk:=(h.ctx q hq).pid;have hx:=h.GI;have Gr:p∈bu (fS (fun ps=>ux ps q.1) u):=iL.2 ⟨hp,fun e2=>by
        have:=h.cT.inj hp hq e2;subst this;omega⟩
       obtain ⟨l',e2,VI⟩:=LG hR.cT Gr hc (y:=q.1) (z:=nu q) (cY (by omega)) (h.loc q hq).code (l:=l++[eE 6 q.1 0 0]) (by rw [bc];omega);rw [bc] at VI;refine ⟨_, ?_,q,l',hf,by omega,rfl⟩;have hre:=eT (l:=l) (u:=u) (EZ (b:=0) (c:=0) (l:=[]) h.cT hq h.np) (by omega);dsimp only [rf,eh,pT];simp only [aaH,hw];refine (ab (aaa (by omega))).trans ?_;refine (ab (aaa (by omega))).trans ?_;refine (aa nz).trans ?_;refine (ae (pX hk)).trans ?_;refine (ab (di h6)).trans ?_;refine (aa rfl).trans ?_;refine (aa hre).trans ?_;refine (aa e2).trans ?_;rfl
     . left
       refine ⟨_, ?_,rfl, ?_⟩
       . dsimp only [rf,eh,pT]
         simp only [aaH,hw];refine (ab (aaa (by omega))).trans ?_;refine (ab (aaa (by omega))).trans ?_;refine (aa nz).trans ?_;refine (ae (pX hk)).trans ?_;refine (ae (eB h6)).trans ?_;have:(!((bu u).take (i+1)).any (qb p.1))=false:=by
          rw [ht,List.any_append];have:qb p.1 q=true:=by unfold qb;simpa using hk
          simp [this]
         rw [this];rfl
       . rw [ht,afW,Fj]
         have:jV p.1 q=false:=Bool.eq_false_iff.2 fun e=>h6 (uP.1 e).2;simp [this]
   . left
     refine ⟨_, ?_,rfl, ?_⟩
     . dsimp only [rf,eh,pT]
       simp only [aaH,hw];refine (ab (aaa (by omega))).trans ?_;refine (ab (aaa (by omega))).trans ?_;refine (aa nz).trans ?_;refine (ab (CF hk)).trans ?_;have:(!((bu u).take (i+1)).any (qb p.1))= !((bu u).take i).any (qb p.1):=by
        rw [ht,List.any_append];have:qb p.1 q=false:=by unfold qb;simpa using hk
        simp [this]
       rw [this];rfl
     . rw [ht,afW,Fj]
       have:jV p.1 q=false:=Bool.eq_false_iff.2 fun e=>hk (uP.1 e).1;simp [this]
 . obtain ⟨rfl,Fj⟩:=hs
   rw [List.take_length] at Fj;refine ⟨_, ?_,rfl,List.find?_eq_none.2 fun z hz=>by have:=aa1.1 Fj z hz;simpa using this⟩;dsimp only [rf,eh,pT];rw [List.take_length];exact (ae (aae (by show ¬ (((bu u).length:Nat):Int)<(((bu u).length:Nat):Int);omega))).trans rfl
end
end
section
open Go Go.ChangeShapes Go.WideShapes Go.ChangeAt Go.RowKit
section
variable {x tl:Int} {u u' v:UT} {p:af} {o:ah} {l l':List ET} {e:ET} {β:Type} {n m:Nat}
def jW (q:Nat→Bool):Nat→Nat→Option Nat
 |_,0=>none
 |i,n+1=>if q i=true then some i else jW q (i+1) n
theorem mG {q:Nat→Bool}:∀ {n i j:Nat},jW q i n=some j→i≤j∧j<i+n∧q j=true
 |0,i,j,h=>by cases h
 |n+1,i,j,h=>by
  unfold jW at h;by_cases e:q i=true
  . rw [aaK e] at h
    obtain rfl:=aaG h;exact ⟨abD _,by omega,e⟩
  . rw [aap e] at h
    have:=mG h;exact ⟨by omega,by omega,this.2.2⟩
theorem oC {σ β γ:Type} {f:σ→Out (Round σ β γ)} (q:Nat→Bool) (S:Nat→σ) {y:β} {z:Nat→γ}:∀ (n i:Nat),(∀ j,i≤j→j<i+n→(f (S j)).eval=some (if q j=true then .ret (z j) else .again (S (j+1))))→(f (S (i+n))).eval=some (.out y)→∀ k,n<k→iter f k (S i)=some (match jW q i n with|some j=> .inr (z j)|none=> .inl y)
 |0,i,_,hy,k,hk=>by rw [show i+0=i from rfl] at hy;rw [lD hy hk];rfl
 |n+1,i,hs,hy,k,hk=>by
  have h1:=hs i (abD _) (by omega);unfold jW;by_cases e:q i=true
  . rw [aaK e] at h1 ⊢
    rw [nC h1 (by omega)]
  . rw [aap e] at h1 ⊢
    obtain ⟨k,rfl⟩:∃ k',k=k'+1:=⟨k - 1,by omega⟩
    rw [ke h1];exact oC q S n (i+1) (fun j h1 h2=>hs j (by omega) (by omega)) (by rw [show i+1+n=i+(n+1) by omega];exact hy) k (by omega)
def cr (fds:List Int) (k:Nat):Int:=uQ (jW (fun i=>fds[i]? ==some (-1)) k (4 - k))
def bJ (os:List ah) (k:Nat):Int:=uQ (jW (fun i=> !os.any fun o=>o.1==(i:Int)) k (8 - k))
def gW (pi:List ag):Int:=uQ (jW (fun i=> !pi.any fun y=>y.1==(i:Int)) 0 3)
theorem tM (o:Option Nat):uQ o= -1∧o=none∨∃ j,o=some j∧uQ o=(j:Int):=by
 cases o with
 |none=>exact .inl ⟨rfl,rfl⟩
 |some j=>exact .inr ⟨j,rfl,rfl⟩
theorem gG {fds:List Int} {k:Nat} (_:fds.length=4) (hk:k≤4):cr fds k= -1∨∃ j:Nat,cr fds k=(j:Int)∧k≤j∧j<4∧fds[j]? =some (-1):=by
 unfold cr;rcases tM (jW (fun i=>fds[i]? ==some (-1)) k (4 - k)) with ⟨e,_⟩|⟨j,e1,e2⟩
 . exact .inl e
 . have:=mG e1
   exact .inr ⟨j,e2,this.1,by omega,by simpa using this.2.2⟩
theorem iA {os:List ah} {k:Nat} (hk:k≤8):bJ os k= -1∨∃ j:Nat,bJ os k=(j:Int)∧k≤j∧j<8∧∀ o∈os,o.1≠(j:Int):=by
 unfold bJ;rcases tM (jW (fun i=> !os.any fun o=>o.1==(i:Int)) k (8 - k)) with ⟨e,_⟩|⟨j,e1,e2⟩
 . exact .inl e
 . have h:=mG e1
   refine .inr ⟨j,e2,h.1,by omega,fun o ho e=> ?_⟩;have h3:=h.2.2;rw [aeO,List.any_eq_false] at h3;exact h3 o ho (by simpa using e)
theorem Ak {pi:List ag}:gW pi= -1∨∃ j:Nat,gW pi=(j:Int)∧j<3∧∀ y∈pi,y.1≠(j:Int):=by
 unfold gW;rcases tM (jW (fun i=> !pi.any fun y=>y.1==(i:Int)) 0 3) with ⟨e,_⟩|⟨j,e1,e2⟩
 . exact .inl e
 . have h:=mG e1
   refine .inr ⟨j,e2,by omega,fun o ho e=> ?_⟩;have h3:=h.2.2;rw [aeO,List.any_eq_false] at h3;exact h3 o ho (by simpa using e)
theorem JJ {n:Nat} (h:n≤10):n<bn:=fL (aa3 h (by decide))
theorem uR (h4:(aA p).length=4) {k:Nat} (hk:k≤4):zU (pT p,((k:Int),()),())=some (((cr (aA p) k,()),()),((),(),())):=by
 have h4':p.2.2.2.2.2.2.1.length=4:=h4;have hB:aS=9223372036854775807:=rfl;have hl:=oC (f:=yU) (fun i=>(aA p)[i]? ==some (-1)) (fun i=>(((i:Int),()),(pT p,()))) (y:=((),())) (z:=fun i=>(((i:Int),()),())) (4 - k) k (fun j h1 h2=> ?_) ?_ bn (JJ (by omega))
 . show Out.eval (EA _)=_
   dsimp only [EA,pT];refine (aa hl).trans ?_;unfold cr;cases jW (fun i=>(aA p)[i]? ==some (-1)) k (4 - k) with
   |none=>rfl
   |some j=>rfl
 . have hw:IntKind.i64.wrap ((j:Int)+1)=((j+1:Nat):Int):=ar (by omega)
   have hg:(aA p)[j]? =some ((aA p)[j]'(by omega)):=aaf _;dsimp only [yU,pT];simp only [aaH,hw,hg];refine (ab (aaa (by omega))).trans ?_;refine (ab (aaa (by omega))).trans ?_;refine (aa rfl).trans ?_;by_cases e:(aA p)[j]'(by omega)= -1
   . refine (ab (di e)).trans ?_
     rw [e];rfl
   . refine (ae (eB e)).trans ?_
     rw [aap (by simpa using e)];rfl
 . dsimp only [yU,pT]
   exact (ae (aae (by omega))).trans rfl
theorem wX {α:Type} {key:α→Int} {a:List α} {v:Int}:decide (dv key a v<0)= !a.any fun x=>key x==v:=by
 have:=ku a fun x=>key x==v;unfold dv ie;rw [← this];rw [acK];simp
theorem tN {k:Nat} (hk:k≤8):ED (u,((k:Int),()),())=some (((bJ (fK u) k,()),()),((),(),())):=by
 have hB:aS=9223372036854775807:=rfl;have hl:=oC (f:=yV) (fun i=> !(fK u).any fun o=>o.1==(i:Int)) (fun i=>(((i:Int),()),(u,()))) (y:=((),())) (z:=fun i=>(((i:Int),()),())) (8 - k) k (fun j h1 h2=> ?_) ?_ bn (JJ (by omega))
 . show Out.eval (EC _)=_
   dsimp only [EC];refine (aa hl).trans ?_;unfold bJ;cases jW (fun i=> !(fK u).any fun o=>o.1==(i:Int)) k (8 - k) with
   |none=>rfl
   |some j=>rfl
 . have hw:IntKind.i64.wrap ((j:Int)+1)=((j+1:Nat):Int):=ar (by omega)
   obtain ⟨nx,tk,pg,ps,os,pi,fi,rd,ou,_⟩:=u;dsimp only [yV];simp only [hw];refine (ab (aaa (by omega))).trans ?_;have hp:decide (aF os (j:Int)<0)= !os.any fun o=>o.1==(j:Int):=wX (key:=al);rw [hp];cases q:(!os.any fun o=>o.1==(j:Int))
   . refine (ae (by rfl)).trans ?_
     rfl
   . refine (ab (by rfl)).trans ?_
     rfl
 . obtain ⟨nx,tk,pg,ps,os,pi,fi,rd,ou,_⟩:=u
   dsimp only [yV];exact (ae (aae (by omega))).trans rfl
theorem JK:Qf (u,())=some (((gW (uM u),()),()),((),())):=by
 have hB:aS=9223372036854775807:=rfl;have hl:=oC (f:=yW) (fun i=> !(uM u).any fun y=>y.1==(i:Int)) (fun i=>(((i:Int),()),(u,()))) (y:=((),())) (z:=fun i=>(((i:Int),()),())) 3 0 (fun j h1 h2=> ?_) ?_ bn (JJ (by omega))
 . show Out.eval (EF _)=_
   dsimp only [EF];refine (aa hl).trans ?_;unfold gW;cases jW (fun i=> !(uM u).any fun y=>y.1==(i:Int)) 0 3 with
   |none=>rfl
   |some j=>rfl
 . have hw:IntKind.i64.wrap ((j:Int)+1)=((j+1:Nat):Int):=ar (by omega)
   obtain ⟨nx,tk,pg,ps,os,pi,fi,rd,ou,_⟩:=u;dsimp only [yW];simp only [hw];refine (ab (aaa (by omega))).trans ?_;have hp:decide (bp pi (j:Int)<0)= !pi.any fun y=>y.1==(j:Int):=wX (key:=aC);rw [hp];cases q:(!pi.any fun y=>y.1==(j:Int))
   . refine (ae (by rfl)).trans ?_
     rfl
   . refine (ab (by rfl)).trans ?_
     rfl
 . obtain ⟨nx,tk,pg,ps,os,pi,fi,rd,ou,_⟩:=u
   dsimp only [yW];exact (ae (aae (by omega))).trans rfl
theorem rr {α:Type} {key:α→Int} {y:α} {f:α→α}:∀ {a:List α},(∀ x∈a,key x≠key y)→(key (f y)=key y)→ca key (bL key y a) (key y) f=bL key (f y) a
 |[],_,_=>by simp [bL,ca]
 |x::r,h,hf=>by
  have hx:=h x (by simp);unfold bL;rw [hf];by_cases q:key y<key x
  . rw [aaK q,aaK q]
    show (if key y=key y then f y else y)::ca key (x::r) (key y) f=_;rw [aaK rfl,qX h]
  . rw [aap q,aap q]
    show (if key x=key y then f x else x)::ca key (bL key y r) (key y) f=_;rw [aap hx,rr (fun z hz=>h z (by simp [hz])) hf]
def dj (c:ag) (k:Nat):Int:=c.2.1.getD k 0
theorem eK {c:ag} (hc:aR c.1 c.2.1=true) {k:Nat} (hk:k<4):nth c.2.1 k=some (dj c k)∧b6 (dj c k)=true:=by
 obtain ⟨_,h4,hw⟩:=dm hc;have e:c.2.1[k]? =some (c.2.1[k]'(by omega)):=aaf _;have e2:dj c k=c.2.1[k]'(by omega):=by unfold dj;rw [adg,e];rfl
 refine ⟨by rw [e2];exact e, ?_⟩;rw [e2];exact aa1.1 hw _ (acD _)
theorem QV {c:ag} (hc:aR c.1 c.2.1=true) {k:Nat} (hk:k<4): -1000000≤dj c k∧dj c k≤1000000:=fF.1 (eK hc hk).2
def j9 (fi:List ag) (v:Int):Bool:=fi.any fun y=>y.1==v
theorem ru {fi:List ag} {v:Int}:j9 fi v=true↔∃ y∈fi,y.1=v:=by unfold j9;rw [List.any_eq_true];simp
theorem GX (fi:List ag) (v:Int):decide (bt fi v≥0)=j9 fi v:=ku fi fun y=>y.1==v
def tO (p:af) (c:ag) (name fd id:Int) (u:UT):UT:=cI p.1 c fd (de p.1 (cm ((aA p).set fd.toNat id)) (bx (bL al (id,2,name,0,1,())) u))
def lE (p:af) (c:ag) (u:UT):UT:=
 if ¬ (0≤dj c 0∧dj c 0≤5)∨cr (aA p) 0<0∨bJ (fK u) 0<0∨(j9 (uy u) (dj c 0)=false∧dj c 1=0) then cI p.1 c (-1) u
 else tO p c (dj c 0) (cr (aA p) 0) (bJ (fK u) 0) (if j9 (uy u) (dj c 0)=true then u else kU (bL aV (dj c 0,[],())) u)
theorem GY {name:Int} (h:aN 0 tl u) (hp:p∈bu u) (h1:cQ p=1) {c:ag} (hc:aR c.1 c.2.1=true) {j k:Nat} (hj:j<4) (BO:(aA p)[j]? =some (-1)) (hk:k<8) (jT:∀ o∈fK u,o.1≠(k:Int)) (hn:∃ y∈uy u,y.1=name):aN 0 tl (tO p c name j k u):=by
 obtain ⟨y,hy,rfl⟩:=hn;have hA:aN 0 tl (de p.1 (cm ((aA p).set j (k:Int))) (bx (bL al ((k:Int),2,y.1,0,1,())) u)):=Inv.abL (o:=((k:Int),2,y.1,0,1,())) h hp h1 BO ⟨by show (0:Int)≤k;omega,by show (k:Int)≤7;omega⟩ jT rfl
  (.inl ⟨rfl,y,hy,rfl,afK 0,by show (0:Int)≤_;omega⟩) (fun z hz=> .inl hz) (fun z hz=>hz) h.xP
 have Gr:cm ((aA p).set j (k:Int)) p∈bu (de p.1 (cm ((aA p).set j (k:Int))) (bx (bL al ((k:Int),2,y.1,0,1,())) u)):=(bf h.cT hp).2 (.inl rfl);have:=cu hA Gr hc (y:=(j:Int)) (cY (by omega));unfold tO;rw [aaH];exact this
theorem acW {name:Int} (h:aN x tl u) (hn:0≤name∧name≤5) (QM:¬ j9 (uy u) name=true):aN x tl (kU (bL aV (name,[],())) u):=Inv.make h hn fun y hy e=>QM (ru.2 ⟨y,hy,e⟩)
theorem JL (h:aN 0 tl u) (hp:p∈bu u) (h1:cQ p=1) {c:ag} (hc:aR c.1 c.2.1=true):aN 0 tl (lE p c u):=by
 unfold lE;split
 . exact cu h hp hc (by rfl)
 . rename_i QM
   have a1:0≤dj c 0∧dj c 0≤5:=Classical.byContradiction fun e=>QM (.inl e);have a2:¬ cr (aA p) 0<0:=fun e=>QM (.inr (.inl e));have a3:¬ bJ (fK u) 0<0:=fun e=>QM (.inr (.inr (.inl e)));rcases gG (k:=0) (h.loc p hp).fds (by omega) with e|⟨j,ej,_,hj4,hjf⟩
   . omega
   rcases iA (os:=fK u) (k:=0) (by omega) with e|⟨k,ek,_,hk8,Fc⟩
   . omega
   rw [ej,ek];split
   . rename_i hf
     exact GY h hp h1 hc hj4 hjf hk8 Fc (ru.1 hf)
   . rename_i hf
     exact GY (acW h a1 hf) hp h1 hc hj4 hjf hk8 Fc ⟨_,dq.2 (.inl rfl),rfl⟩
theorem LL {name:Int} (h:bS ao (bu u)) (ho:bS al (fK u)) (lU:(fK u).length≤8) (hp:p∈bu u) {c:ag} (hc:aR c.1 c.2.1=true) (h4:(aA p).length=4) {j k:Nat} (hj:j<4) (hk:k<8) (jT:∀ o∈fK u,o.1≠(k:Int)) {l1:List ET} (hl:l1.length≤99000) (hm:l1.length+4≤l.length+m):
  Gv (yZ name j k u.1 u.2.1 p.1 c.1 c.2.1 u.2.2.1 u.2.2.2.1 u.2.2.2.2.1 u.2.2.2.2.2.1 u.2.2.2.2.2.2.1 u.2.2.2.2.2.2.2.1 u.2.2.2.2.2.2.2.2.1 l1).eval (tO p c name j k u) l m:=by
 obtain ⟨nx,tk,pg,ps,os,pi,fi,rd,ou,_⟩:=u;have zQ:bS al os:=ho;have alx:os.length≤8:=lU;have h':bS ao ps:=h;have E7:p∈ps:=hp;have QW:∀ o∈os,o.1≠(k:Int):=jT;have d1:=eT (l:=l1) (E2 (nx:=nx) (tk:=tk) (pg:=pg) (ps:=ps) (pi:=pi) (fi:=fi) (rd:=rd) (ou:=ou) (b:=2) (c:=name) (k:=(k:Int)) (l:=[]) QW ⟨by omega,by omega⟩ (by omega)) (by omega);have aly:bS al (bL al ((k:Int),2,name,0,0,()) os):=gV zQ QW;have d2:=eT (l:=l1++[eE 10 k 2 name]) (wP (o:=((k:Int),2,name,0,0,())) (nx:=nx) (tk:=tk) (pg:=pg) (ps:=ps) (pi:=pi) (fi:=fi) (rd:=rd) (ou:=ou) (b:=1) (c:=0) (l:=[]) aly (dq.2 (.inl rfl)) (by rw [jb];omega) ⟨by show (-1000:Int)≤0+1;omega,by show (0:Int)+1≤1000;omega⟩) (by rw [bc];omega);have e2:ca al (bL al ((k:Int),2,name,0,0,()) os) (k:Int) (cV (0+1))=bL al ((k:Int),2,name,0,1,()) os:=rr (f:=cV (0+1)) QW rfl;have d2':=d2.trans (congrArg (fun z=>some ((gb (nx,tk,pg,ps,z,pi,fi,rd,ou,()) (l1++[eE 10 k 2 name]++[eE 11 k 1 0]),()),((),(),()))) e2);have d3:=eT (l:=l1++[eE 10 k 2 name]++[eE 11 k 1 0]) (GP (nx:=nx) (tk:=tk) (pg:=pg) (os:=bL al ((k:Int),2,name,0,1,()) os) (pi:=pi) (fi:=fi) (rd:=rd) (ou:=ou) (b:=(j:Int)) (c:=(k:Int)) (l:=[]) h' E7 ⟨by omega,by rw [h4];omega⟩) (by rw [bc,bc];omega);have QX:bS ao (bO ps p.1 (cm ((aA p).set j (k:Int)))):=dR h' fun _ _ _=>rfl;have QU:cm ((aA p).set j (k:Int)) p∈bO ps p.1 (cm ((aA p).set j (k:Int))):=(bf h' E7).2 (.inl rfl);rw [aaH] at d3;unfold tO;rw [aaH];dsimp only [yZ];refine Gv.step (aa rfl) ?_;refine Gv.step (aa d1) ?_;refine Gv.step (aa rfl) ?_;refine Gv.step (aa d2') ?_;refine Gv.step (aa rfl) ?_;refine Gv.step (aa d3) ?_;exact bY (u:=de p.1 (cm ((aA p).set j (k:Int))) (bx (bL al ((k:Int),2,name,0,1,())) (nx,tk,pg,ps,os,pi,fi,rd,ou,()))) QX QU hc (y:=(j:Int)) (cY (by omega)) (l1:=l1++[eE 10 k 2 name]++[eE 11 k 1 0]++[eE 9 p.1 j k]) (by rw [bc,bc,bc];omega) (by rw [bc,bc,bc];omega)
theorem JM (h:aN 0 tl u) (hp:p∈bu u) {c:ag} (hc:aR c.1 c.2.1=true) (hl:l.length≤98000):Gv (Qj (gb u l,pT p,c,())) (lE p c u) l 10:=by
 have s6:=(eK hc (k:=0) (by omega)).1;have VJ:=(eK hc (k:=1) (by omega)).1;have alz:nth c.2.1 (Int.toNat (0:Int))=some (dj c 0):=s6;have ahf:nth c.2.1 (Int.toNat (1:Int))=some (dj c 1):=VJ;have h4:=(h.loc p hp).fds;have BO:=uR (p:=p) h4 (k:=0) (by omega);have U2:=tN (u:=u) (k:=0) (by omega);have hfb:=GX (uy u) (dj c 0);have qQ:(uy u).length≤6:=xR h;have lU:=nA h;unfold lE;show Gv (Out.eval (EI _)) _ _ _;dsimp only [EI,gb];refine Gv.step (ab (by rfl)) ?_;refine Gv.step (aa alz) ?_;refine Gv.step (aa BO) ?_;refine Gv.step (aa U2) ?_;by_cases a1:0≤dj c 0∧dj c 0≤5
 case neg=>
  rw [aaK (.inl a1)];refine Gv.step (ae (by rw [Bool.eq_false_iff.2 fun e=>a1 (fF.1 e)];rfl)) ?_;exact bY h.cT hp hc (by rfl) (by omega) (by omega)
 refine Gv.step (ab (by rw [fF.2 a1];rfl)) ?_;by_cases a2:cr (aA p) 0<0
 . rw [aaK (.inr (.inl a2))]
   refine Gv.step (ae (aO a2)) ?_;exact bY h.cT hp hc (by rfl) (by omega) (by omega)
 refine Gv.step (ab (aJ a2)) ?_;by_cases a3:bJ (fK u) 0<0
 . rw [aaK (.inr (.inr (.inl a3)))]
   refine Gv.step (ae (aO a3)) ?_;exact bY h.cT hp hc (by rfl) (by omega) (by omega)
 refine Gv.step (ab (aJ a3)) ?_;rcases gG (k:=0) h4 (by omega) with e|⟨j,ej,_,hj4,hjf⟩
 . omega
 rcases iA (os:=fK u) (k:=0) (by omega) with e|⟨k,ek,_,hk8,Fc⟩
 . omega
 have hJ1:Gv (za (dj c 0) (cr (aA p) 0) (bJ (fK u) 0) (decide (bt u.2.2.2.2.2.2.1 (dj c 0)≥0)) u.1 u.2.1 p.1 c.1 c.2.1 u.2.2.1 u.2.2.2.1 u.2.2.2.2.1 u.2.2.2.2.2.1 u.2.2.2.2.2.2.1 u.2.2.2.2.2.2.2.1 u.2.2.2.2.2.2.2.2.1 l).eval (tO p c (dj c 0) (cr (aA p) 0) (bJ (fK u) 0) (if j9 (uy u) (dj c 0)=true then u else kU (bL aV (dj c 0,[],())) u)) l 10:=by
  rw [ej,ek];dsimp only [za];rw [show decide (bt u.2.2.2.2.2.2.1 (dj c 0)≥0)=j9 (uy u) (dj c 0) from hfb];by_cases q:j9 (uy u) (dj c 0)=true
  . rw [aaK q]
    refine Gv.step (ae (by rw [q];rfl)) ?_;exact LL h.cT h.pz lU hp hc h4 hj4 hk8 Fc (by omega) (by omega)
  . rw [aap q]
    refine Gv.step (ab (by rw [Bool.eq_false_iff.2 q];rfl)) ?_;refine Gv.step (aa rfl) ?_;obtain ⟨nx,tk,pg,ps,os,pi,fi,rd,ou,_⟩:=u;have d1:=eT (l:=l) (VA (nx:=nx) (tk:=tk) (pg:=pg) (ps:=ps) (os:=os) (pi:=pi) (rd:=rd) (ou:=ou) (b:=0) (c:=0) (k:=dj c 0) (l:=[]) (fun y hy e=>q (ru.2 ⟨y,hy,e⟩)) a1 (aa3 qQ (by omega))) (by omega);refine Gv.step (aa d1) ?_;exact LL (u:=kU (bL aV (dj c 0,[],())) (nx,tk,pg,ps,os,pi,fi,rd,ou,())) h.cT h.pz lU hp hc h4 hj4 hk8 Fc (l1:=l++[eE 18 (dj c 0) 0 0]) (by rw [bc];omega) (by rw [bc];omega)
 rw [show decide (bt u.2.2.2.2.2.2.1 (dj c 0)≥0)=j9 (uy u) (dj c 0) from hfb];rw [show decide (bt u.2.2.2.2.2.2.1 (dj c 0)≥0)=j9 (uy u) (dj c 0) from hfb] at hJ1;by_cases a4:j9 (uy u) (dj c 0)=false∧dj c 1=0
 . rw [aaK (.inr (.inr (.inr a4)))]
   refine Gv.step (ab (by rw [a4.1];rfl)) ?_;refine Gv.step (ab (by rfl)) ?_;refine Gv.step (aa ahf) ?_;refine Gv.step (ab (di a4.2)) ?_;exact bY h.cT hp hc (by rfl) (by omega) (by omega)
 . rw [aap (by rintro (q|q|q|q)<;>contradiction)]
   by_cases a5:j9 (uy u) (dj c 0)=false
   . refine Gv.step (ab (by rw [a5];rfl)) ?_
     refine Gv.step (ab (by rfl)) ?_;refine Gv.step (aa ahf) ?_;refine Gv.step (ae (eB fun e=>a4 ⟨a5,e⟩)) ?_;exact hJ1
   . have a5:j9 (uy u) (dj c 0)=true:=by simpa using a5
     refine Gv.step (ae (by rw [a5];rfl)) ?_;exact hJ1
end
end
section
open Go Go.ChangeShapes Go.WideShapes Go.ChangeAt Go.RowKit
section
variable {x tl:Int} {u u' v:UT} {p:af} {o:ah} {l l':List ET} {e:ET} {β:Type} {n m:Nat}
def ofO (p:af) (k:Int) (u:UT):Option ah:=if 0≤k∧k<4 then (match (aA p)[k.toNat]? with|some f=>if f= -1 then none else ee al (fK u) f|none=>none) else none
abbrev of1 (r:ah×(Bool×Unit)×Unit):Option ((ah×(Bool×Unit)×Unit)×(Unit×XI)):=some (r,((),(),(),()))
theorem GZ (h:aN x tl u) (hp:p∈bu u) (k:Int):(ofO p k u=none∧tG (u,pT p,(k,()),())=of1 ((0,0,0,0,0,()),(false,()),()))∨∃ o∈fK u,∃ j:Nat,k=(j:Int)∧j<4∧(aA p)[j]? =some o.1∧ofO p k u=some o∧tG (u,pT p,(k,()),())=of1 (o,(true,()),()):=by
 have h4:=(h.loc p hp).fds;have h4':p.2.2.2.2.2.2.1.length=4:=h4;unfold ofO;by_cases a1:0≤k∧k<4
 case neg=>
  rw [aap a1];refine .inl ⟨rfl, ?_⟩;show Out.eval (pV _)=_;dsimp only [pV,pT];by_cases a2:k<0
  . exact (ae (aO a2)).trans rfl
  . refine (ab (aJ a2)).trans ?_
    exact (ae (aO (by omega))).trans rfl
 rw [aaK a1];obtain ⟨j,rfl⟩:∃ j:Nat,k=j:=⟨k.toNat,by omega⟩
 have hj:j<4:=by omega
 rw [aaH,aaf (show j<(aA p).length by omega)];have hg:(aA p)[j]? =some ((aA p)[j]'(by omega)):=aaf _;have hf:=(h.ctx p hp).fds _ (acD (show j<(aA p).length by omega));generalize (aA p)[j]'(by omega)=f at hg hf;have hn:nth p.2.2.2.2.2.2.1 j=some f:=hg;by_cases e:f= -1
 . subst e
   refine .inl ⟨rfl, ?_⟩;show Out.eval (pV _)=_;dsimp only [pV,pT];simp only [aaH];refine (ab (aJ (by omega))).trans ?_;refine (ab (aJ (by omega))).trans ?_;refine (ab (aaa (by omega))).trans ?_;refine (aa hn).trans ?_;exact (ab (by rfl)).trans rfl
 . obtain ⟨o,ho,rfl⟩:=hf.resolve_left e
   refine .inr ⟨o,ho,j,rfl,hj,hg, ?_, ?_⟩
   . simp only [aap e]
     exact dP h.pz ho
   . obtain ⟨i,hi,Ff,iU⟩:=bD h.pz ho
     have cU:aF (fK u) o.1=(i:Int):=hi;have s4:nth u.2.2.2.2.1 i=some o:=iU;show Out.eval (pV _)=_;dsimp only [pV,pT];simp only [aaH];refine (ab (aJ (by omega))).trans ?_;refine (ab (aJ (by omega))).trans ?_;refine (ab (aaa (by omega))).trans ?_;refine (aa hn).trans ?_;refine (ae (eB e)).trans ?_;refine (ab (aaa (by omega))).trans ?_;refine (aa hn).trans ?_;rw [show aF u.2.2.2.2.1 o.1=(i:Int) from cU];simp only [aaH];refine (ab (aaa (by omega))).trans ?_;exact (aa s4).trans rfl
def dup2 (p:af) (c:ag) (o:ah) (fd:Int) (u:UT):UT:=cI p.1 c fd (de p.1 (cm ((aA p).set fd.toNat o.1)) (bx (fun os=>ca al os o.1 (cV (bN o+1))) u))
def N0 (p:af) (c:ag) (u:UT):UT:=match ofO p (dj c 0) u with
 |none=>cI p.1 c (-1) u
 |some o=>if cr (aA p) 0<0 then cI p.1 c (-1) u else dup2 p c o (cr (aA p) 0) u
theorem ahg (h:aN 0 tl u) (hp:p∈bu u) (h1:cQ p=1) {c:ag} (hc:aR c.1 c.2.1=true):aN 0 tl (N0 p c u):=by
 unfold N0;rcases GZ h hp (dj c 0) with ⟨e,_⟩|⟨o,ho,j,_,_,_,e,_⟩
 . rw [e];exact cu h hp hc (by rfl)
 . rw [e]
   simp only;split
   . exact cu h hp hc (by rfl)
   . rename_i hf
     rcases gG (k:=0) (h.loc p hp).fds (by omega) with e|⟨j,ej,_,hj4,hjf⟩
     . omega
     rw [ej];unfold dup2;rw [aaH];have eI:=(h.op o ho).id;have hA:aN 0 tl (de p.1 (cm ((aA p).set j o.1)) (bx (fun os=>ca al os o.1 (cV (bN o+1))) u)):=Inv.Z4 h hp h1 hjf ho (.inr ⟨rfl,rfl⟩) (by rw [aap (by omega)]);exact cu (p:=cm ((aA p).set j o.1) p) hA ((bf h.cT hp).2 (.inl rfl)) hc (cY (by omega))
theorem ahh (h:aN 0 tl u) (hp:p∈bu u) {c:ag} (hc:aR c.1 c.2.1=true) (hl:l.length≤98000):Gv (Qu (gb u l,pT p,c,())) (N0 p c u) l 10:=by
 have s6:nth c.2.1 (Int.toNat (0:Int))=some (dj c 0):=(eK hc (k:=0) (by omega)).1;have h4:=(h.loc p hp).fds;have BO:=uR (p:=p) h4 (k:=0) (by omega);unfold N0;show Gv (Out.eval (EN _)) _ _ _;dsimp only [EN,gb];refine Gv.step (ab (by rfl)) ?_;refine Gv.step (aa s6) ?_;rcases GZ h hp (dj c 0) with ⟨e,ev⟩|⟨o,ho,_,_,_,_,e,ev⟩
 . rw [e]
   refine Gv.step (aa ev) ?_;refine Gv.step (aa BO) ?_;refine Gv.step (ae (by rfl)) ?_;exact bY h.cT hp hc (by rfl) (by omega) (by omega)
 . rw [e]
   simp only;refine Gv.step (aa ev) ?_;refine Gv.step (aa BO) ?_;refine Gv.step (ab (by rfl)) ?_;by_cases a2:cr (aA p) 0<0
   . rw [aaK a2]
     refine Gv.step (ab (aaa a2)) ?_;exact bY h.cT hp hc (by rfl) (by omega) (by omega)
   rw [aap a2];refine Gv.step (ae (aae a2)) ?_;rcases gG (k:=0) h4 (by omega) with e|⟨j,ej,_,hj4,hjf⟩
   . omega
   rw [ej];unfold dup2;rw [aaH];have Ur:=Fb h ho;have lU:=nA h;have s5:=h.cT;have VH:=h.pz;obtain ⟨nx,tk,pg,ps,os,pi,fi,rd,ou,_⟩:=u;have d1:=eT (l:=l) (wP (nx:=nx) (tk:=tk) (pg:=pg) (ps:=ps) (pi:=pi) (fi:=fi) (rd:=rd) (ou:=ou) (b:=1) (c:=0) (l:=[]) VH ho (aa3 lU (by omega)) (by omega)) (by omega);have d2:=eT (l:=l++[eE 11 o.1 1 0]) (GP (nx:=nx) (tk:=tk) (pg:=pg) (os:=ca al os o.1 (cV (bN o+1))) (pi:=pi) (fi:=fi) (rd:=rd) (ou:=ou) (b:=(j:Int)) (c:=o.1) (l:=[]) s5 hp ⟨by omega,by rw [h4];omega⟩) (by rw [bc];omega);rw [aaH] at d2;refine Gv.step (aa rfl) ?_;refine Gv.step (aa d1) ?_;refine Gv.step (aa rfl) ?_;refine Gv.step (aa d2) ?_;have QX:bS ao (bO ps p.1 (cm ((aA p).set j o.1))):=dR s5 fun _ _ _=>rfl;have QU:cm ((aA p).set j o.1) p∈bO ps p.1 (cm ((aA p).set j o.1)):=(bf s5 hp).2 (.inl rfl);exact bY (u:=de p.1 (cm ((aA p).set j o.1)) (bx (fun os=>ca al os o.1 (cV (bN o+1))) (nx,tk,pg,ps,os,pi,fi,rd,ou,()))) QX QU hc (y:=(j:Int)) (cY (by omega)) (l1:=l++[eE 11 o.1 1 0]++[eE 9 p.1 j o.1]) (by rw [bc,bc];omega) (by rw [bc,bc];omega)
def CN (p:af) (c:ag) (u:UT):UT:=if 12≤(cp p).length∨60<my (bu u) then cI p.1 c (-1) u else cI p.1 c ((cp p).length:Nat) (de p.1 (kI (cp p++[0,0,0,0])) u)
theorem acZ (h:aN 0 tl u) (hp:p∈bu u) (h1:cQ p=1) {c:ag} (hc:aR c.1 c.2.1=true):aN 0 tl (CN p c u):=by
 unfold CN;split
 . exact cu h hp hc (by rfl)
 . rename_i hn
   have hm:=(h.loc p hp).mem;have a1:¬ 12≤(cp p).length:=fun e=>hn (.inl e);have a2:¬ 60<my (bu u):=fun e=>hn (.inr e);have hw:aG (cp p++[0,0,0,0])=true:=by
    have:=hm.2.2;unfold aG at this ⊢;rw [afW,this];rfl
   have hA:aN 0 tl (de p.1 (kI (cp p++[0,0,0,0])) u):=Inv.mem h hp ⟨by rw [aao];show _+4≤12;omega,by rw [aao];show (_+4) % 4=0;omega,hw⟩ (by omega) (by rw [aao];show 0<_+4;omega) (by rw [aao];show my (bu u)+(_+4)≤_;omega);exact cu (p:=kI (cp p++[0,0,0,0]) p) hA ((bf h.cT hp).2 (.inl rfl)) hc (cY (by omega))
theorem ac0 (h:aN 0 tl u) (hp:p∈bu u) {c:ag} (hc:aR c.1 c.2.1=true) (hl:l.length≤98000):Gv (Qz (gb u l,pT p,c,())) (CN p c u) l 10:=by
 have hm:=(h.loc p hp).mem;have pI:p.2.2.2.2.2.1.length≤12∧p.2.2.2.2.2.1.length % 4=0:=⟨hm.1,hm.2.1⟩
 have ea:(cp p).length=p.2.2.2.2.2.1.length:=rfl;unfold CN;show Gv (Out.eval (EV _)) _ _ _;dsimp only [EV,gb,pT];rw [aad _ (by omega)];refine Gv.step (ae (by rfl)) ?_;by_cases a1:12≤(cp p).length
 . rw [aaK (.inl a1)]
   refine Gv.step (ae (aO (by omega))) ?_;exact bY h.cT hp hc (by rfl) (by omega) (by omega)
 refine Gv.step (ab (aJ (by omega))) ?_;by_cases a2:60<my (bu u)
 . rw [aaK (.inr a2)]
   refine Gv.step (aa (Fi h (n:=1) (by omega) (q:=false) (aae (by omega)))) ?_;refine Gv.step (ab (by rfl)) ?_;exact bY h.cT hp hc (by rfl) (by omega) (by omega)
 . rw [aap (by rintro (e|e)<;>omega)]
   have hr:=Fi h (n:=1) (by omega) (q:=true) (aaa (by omega));refine Gv.step (aa hr) ?_;refine Gv.step (ae (by rfl)) ?_;have s5:=h.cT;obtain ⟨nx,tk,pg,ps,os,pi,fi,rd,ou,_⟩:=u;have d1:=eT (l:=l) (Vw (b:=0) (c:=0) (l:=[]) s5 hp ⟨by omega,hm.2.1⟩ hr) (by omega);refine Gv.step (aa rfl) ?_;refine Gv.step (aa d1) ?_;have QX:bS ao (bO ps p.1 (kI (cp p++[0,0,0,0]))):=dR s5 fun _ _ _=>rfl;have QU:kI (cp p++[0,0,0,0]) p∈bO ps p.1 (kI (cp p++[0,0,0,0])):=(bf s5 hp).2 (.inl rfl);exact bY (u:=de p.1 (kI (cp p++[0,0,0,0])) (nx,tk,pg,ps,os,pi,fi,rd,ou,())) QX QU hc (y:=((cp p).length:Nat)) (cY (by omega)) (l1:=l++[eE 7 p.1 0 0]) (by rw [bc];omega) (by rw [bc];omega)
def CO (p:af) (c:ag) (u:UT):UT:=if ¬ (0≤dj c 0∧dj c 0<(u.2.2.1.length:Nat)) then cI p.1 c (-1) u else B4 p.1 (0,[0,0,0,0],()) (de p.1 (pn (dj c 0)) u)
theorem ac1 (h:aN 0 tl u) (hp:p∈bu u) (h1:cQ p=1) {c:ag} (hc:aR c.1 c.2.1=true):aN 0 tl (CO p c u):=by
 unfold CO;split
 . exact cu h hp hc (by rfl)
 . rename_i hn
   have hl:=h.loc p hp;have hm:=hl.mem;have ln:=(hl.live (by omega)).2 (by have:=(h.ctx p hp).pid;omega);have hA:aN 0 tl (de p.1 (pn (dj c 0)) u):=Inv.exec h hp (Classical.byContradiction hn) (by omega) (by omega);exact LD (p:=pn (dj c 0) p) hA ((bf h.cT hp).2 (.inl rfl)) (c:=(0,[0,0,0,0],())) (by rfl)
theorem ac2 (h:aN 0 tl u) (hp:p∈bu u) (h1:cQ p=1) {c:ag} (hc:aR c.1 c.2.1=true) (hl:l.length≤98000):Gv (Qy (gb u l,pT p,c,())) (CO p c u) l 10:=by
 have s6:nth c.2.1 (Int.toNat (0:Int))=some (dj c 0):=(eK hc (k:=0) (by omega)).1;have JN:=h.loc p hp;have ln:=(JN.live (by omega)).2 (by have:=(h.ctx p hp).pid;omega);unfold CO;show Gv (Out.eval (ES _)) _ _ _;dsimp only [ES,gb];refine Gv.step (ab (by rfl)) ?_;refine Gv.step (aa s6) ?_;by_cases a1:dj c 0<0
 . rw [aaK (by omega)]
   refine Gv.step (ae (aO a1)) ?_;exact bY h.cT hp hc (by rfl) (by omega) (by omega)
 refine Gv.step (ab (aJ a1)) ?_;by_cases a2:dj c 0≥(u.2.2.1.length:Nat)
 . rw [aaK (by omega)]
   refine Gv.step (ab (aaa a2)) ?_;exact bY h.cT hp hc (by rfl) (by omega) (by omega)
 rw [aap (by omega)];refine Gv.step (ae (aae a2)) ?_;have s5:=h.cT;obtain ⟨nx,tk,pg,ps,os,pi,fi,rd,ou,_⟩:=u;have d1:=eT (l:=l) (Vx (nx:=nx) (tk:=tk) (pg:=pg) (os:=os) (pi:=pi) (fi:=fi) (rd:=rd) (ou:=ou) (b:=dj c 0) (c:=0) (l:=[]) s5 hp ⟨by omega,Int.not_le.1 a2⟩ ln) (by omega);refine Gv.step (aa rfl) ?_;refine Gv.step (aa d1) ?_;have hz:pW ((4,()),())=some ((([0,0,0,0],()),()),((),())):=rfl;refine Gv.step (aa hz) ?_;have QX:bS ao (bO ps p.1 (pn (dj c 0))):=dR s5 fun _ _ _=>rfl;have QU:pn (dj c 0) p∈bO ps p.1 (pn (dj c 0)):=(bf s5 hp).2 (.inl rfl);have d2:=Jz (u:=de p.1 (pn (dj c 0)) (nx,tk,pg,ps,os,pi,fi,rd,ou,())) QX QU (c:=(0,[0,0,0,0],())) (by rfl) (l:=l++[eE 8 p.1 (dj c 0) 0]) (by rw [bc];omega);refine Gv.step (aa d2) ?_;exact Gv.ret (by rw [bc,bc];omega)
def wY (p:af) (c:ag) (u:UT):UT:=if dj c 0≤0 then cI p.1 c 0 u else if 1000000<u.2.1+dj c 0 then cI p.1 c (-1) u else tH p.1 2 (u.2.1+dj c 0) (cI p.1 c 0 u)
theorem VK (h:aN 0 tl u) (ht:tl≤u.2.1) (hp:p∈bu u) (h1:cQ p=1) {c:ag} (hc:aR c.1 c.2.1=true):aN 0 tl (wY p c u):=by
 unfold wY;split
 . exact cu h hp hc (by rfl)
 . split
   . exact cu h hp hc (by rfl)
   . have hA:=cu h hp hc (y:=0) (by rfl)
     exact zi (p:=pA (sZ c 0 0) p) hA ((bf h.cT hp).2 (.inl rfl)) h1 (by omega) (fun _=>by omega) (by omega) (by omega)
theorem VL (h:aN 0 tl u) (hp:p∈bu u) (h1:cQ p=1) {c:ag} (hc:aR c.1 c.2.1=true) (hl:l.length≤98000):Gv (Qv (gb u l,pT p,c,())) (wY p c u) l 10:=by
 have s6:nth c.2.1 (Int.toNat (0:Int))=some (dj c 0):=(eK hc (k:=0) (by omega)).1;have hr:=QV hc (k:=0) (by omega);have xO:=h.xO;have hw:IntKind.i64.wrap (u.2.1+dj c 0)=u.2.1+dj c 0:=cS (by omega) (by omega);unfold wY;show Gv (Out.eval (EO _)) _ _ _;dsimp only [EO,gb];refine Gv.step (ab (by rfl)) ?_;refine Gv.step (aa s6) ?_;by_cases a1:dj c 0≤0
 . rw [aaK a1]
   refine Gv.step (ab (aaa a1)) ?_;exact bY h.cT hp hc (by rfl) (by omega) (by omega)
 rw [aap a1];refine Gv.step (ae (aae a1)) ?_;rw [hw];by_cases a2:1000000<u.2.1+dj c 0
 . rw [aaK a2]
   refine Gv.step (ab (aaa a2)) ?_;exact bY h.cT hp hc (by rfl) (by omega) (by omega)
 rw [aap a2];refine Gv.step (ae (aae a2)) ?_;obtain ⟨l1,e1,JE⟩:=E6 h.cT hp hc (y:=0) (by rfl) (l:=l) (by omega);refine Gv.step (aa e1) ?_;have hA:=cu h hp hc (y:=0) (by rfl);have d2:=zj (p:=pA (sZ c 0 0) p) (s:=2) (t:=u.2.1+dj c 0) hA ((bf h.cT hp).2 (.inl rfl)) h1 (l:=l1) (by omega);have hw2:IntKind.i64.wrap ((cI p.1 c 0 u).2.1+dj c 0)=u.2.1+dj c 0:=hw;show Gv (Out.eval (Out.get (wJ (gb (cI p.1 c 0 u) l1,(p.1,()),(2,()),(IntKind.i64.wrap ((cI p.1 c 0 u).2.1+dj c 0),()),())) _)) _ _ _;rw [hw2];refine Gv.step (aa d2) ?_;exact Gv.ret (by rw [bc,bc];omega)
def G0 (os:List ah) (v:Int):Bool:=os.any (m0 2 v)
theorem QY {os:List ah} {v:Int}:G0 os v=true↔∃ o∈os,bK o=2∧ct o=v:=by
 unfold G0 m0;rw [List.any_eq_true];constructor
 . intro ⟨o,ho,h⟩
   rw [aaE,aeM,aeM] at h;exact ⟨o,ho,h⟩
 . intro ⟨o,ho,h⟩
   exact ⟨o,ho,by rw [aaE,aeM,aeM];exact h⟩
theorem G1 {os:List ah} (h:os.length≤1000) (v k:Int):decide (ix os v k>0)=os.any (m0 k v):=by
 have hB:aS=9223372036854775807:=rfl;rw [rv (by omega),acK,ac3,List.any_eq_true];constructor
 . intro q
   obtain ⟨a,ha,e⟩:=List.countP_pos_iff.1 (show 0<os.countP (m0 k v) by omega);exact ⟨a,ha,e⟩
 . intro ⟨a,ha,e⟩
   have:=List.countP_pos_iff.2 ⟨a,ha,e⟩;omega
theorem CP {os:List ah} (h:os.length≤1000) (v k:Int):(ix os v k==0)= !os.any (m0 k v):=by
 have hB:aS=9223372036854775807:=rfl;rw [← G1 h,rv (by omega),acK];simp
def rz (p:af) (c:ag) (u:UT):UT:=if j9 (uy u) (dj c 0)=false∨G0 (fK u) (dj c 0)=true then cI p.1 c (-1) u else cI p.1 c 0 (kU (fun fi=>Lh fi (dj c 0)) u)
theorem QZ (h:aN 0 tl u) (hp:p∈bu u) {c:ag} (hc:aR c.1 c.2.1=true):aN 0 tl (rz p c u):=by
 unfold rz;split
 . exact cu h hp hc (by rfl)
 . rename_i hn
   have hA:aN 0 tl (kU (fun fi=>Lh fi (dj c 0)) u):=Inv.unlink h fun o ho k t=>hn (.inr (QY.2 ⟨o,ho,k,t⟩));exact cu hA hp hc (by rfl)
theorem Q0 (h:aN 0 tl u) (hp:p∈bu u) {c:ag} (hc:aR c.1 c.2.1=true) (hl:l.length≤98000):Gv (Qx (gb u l,pT p,c,())) (rz p c u) l 10:=by
 have s6:nth c.2.1 (Int.toNat (0:Int))=some (dj c 0):=(eK hc (k:=0) (by omega)).1;have lU:=nA h;have qQ:=xR h;have s5:=h.cT;have Ur:=h.zO;obtain ⟨nx,tk,pg,ps,os,pi,fi,rd,ou,_⟩:=u;have Gs:decide (bt fi (dj c 0)<0)= !j9 fi (dj c 0):=wX (key:=aV);have hep:decide (ix os (dj c 0) 2>0)=G0 os (dj c 0):=G1 (aa3 lU (by omega)) _ _;unfold rz;show Gv (Out.eval (ER _)) _ _ _;dsimp only [ER,gb,uy,fK];refine Gv.step (ab (by rfl)) ?_;refine Gv.step (aa s6) ?_;rw [Gs];by_cases a1:j9 fi (dj c 0)=false
 . rw [aaK (.inl a1)]
   refine Gv.step (ae (by rw [a1];rfl)) ?_;exact bY (u:=(nx,tk,pg,ps,os,pi,fi,rd,ou,())) s5 hp hc (by rfl) (by omega) (by omega)
 have a1':j9 fi (dj c 0)=true:=by simpa using a1
 refine Gv.step (ab (by rw [a1'];rfl)) ?_;rw [hep];by_cases a2:G0 os (dj c 0)=true
 . rw [aaK (.inr a2)]
   refine Gv.step (ab a2) ?_;exact bY (u:=(nx,tk,pg,ps,os,pi,fi,rd,ou,())) s5 hp hc (by rfl) (by omega) (by omega)
 rw [aap (by rintro (e|e)<;>contradiction)];refine Gv.step (ae (Bool.eq_false_iff.2 a2)) ?_;obtain ⟨y,hy,hyn⟩:=ru.1 a1';have d1:=eT (l:=l) (VC (nx:=nx) (tk:=tk) (pg:=pg) (ps:=ps) (os:=os) (pi:=pi) (rd:=rd) (ou:=ou) (b:=0) (c:=0) (l:=[]) Ur hy (aa3 qQ (by omega))) (by omega);rw [hyn] at d1;refine Gv.step (aa rfl) ?_;refine Gv.step (aa d1) ?_;exact bY (u:=kU (fun fi=>Lh fi (dj c 0)) (nx,tk,pg,ps,os,pi,fi,rd,ou,())) s5 hp hc (by rfl) (l1:=l++[eE 20 (dj c 0) 0 0]) (by rw [bc];omega) (by rw [bc];omega)
end
end
section
open Go Go.ChangeShapes Go.WideShapes Go.ChangeAt Go.RowKit
section
variable {x tl:Int} {u u' v:UT} {p:af} {o:ah} {l l':List ET} {e:ET} {β:Type} {n m:Nat}
theorem Al {α:Type} {key:α→Int} {y:α} {f:α→α} {v:Int} (dW:key y≠v) (hf:∀ x,key (f x)=key x):∀ {a:List α},ca key (bL key y a) v f=bL key y (ca key a v f)
 |[]=>by
  show (if key y=v then f y else y)::[]=[y]
  rw [aap dW]
 |x::r=>by
  have ih:=Al (y:=y) dW hf (a:=r);have hk:key (if key x=v then f x else x)=key x:=by split<;>simp [hf]
  unfold bL;show _=(match (if key x=v then f x else x)::ca key r v f with|[]=>[y]|x::r=>if key y<key x then y::x::r else x::bL key y r)
  simp only [hk];by_cases q:key y<key x
  . rw [aaK q,aaK q]
    show (if key y=v then f y else y)::(if key x=v then f x else x)::ca key r v f=_;rw [aap dW]
  . rw [aap q,aap q]
    show (if key x=v then f x else x)::ca key (bL key y r) v f=_;rw [ih]
def Am (p:af) (c:ag) (w f g a b:Int) (u:UT):UT:=iz p.1 c f g (de p.1 (cm (((aA p).set f.toNat a).set g.toNat b)) (bx (fun os=>bL al (b,4,w,0,1,()) (bL al (a,3,w,0,1,()) os)) (gE (bL aC (w,[],())) u)))
def lF (p:af) (c:ag) (u:UT):UT:=
 if gW (uM u)<0∨cr (aA p) 0<0∨cr (aA p) (cr (aA p) 0+1).toNat<0∨bJ (fK u) 0<0∨bJ (fK u) (bJ (fK u) 0+1).toNat<0 then cI p.1 c (-1) u
 else Am p c (gW (uM u)) (cr (aA p) 0) (cr (aA p) (cr (aA p) 0+1).toNat) (bJ (fK u) 0) (bJ (fK u) (bJ (fK u) 0+1).toNat) u
theorem Q1 (h:aN 0 tl u) (hp:p∈bu u) (h1:cQ p=1) {c:ag} (hc:aR c.1 c.2.1=true) {w f g a b:Nat} (hw:w<3) (hwn:∀ y∈uM u,y.1≠(w:Int)) (hf:f<4) (hff:(aA p)[f]? =some (-1)) (hg:g<4) (yC:(aA p)[g]? =some (-1)) (hfg:f<g)
  (ha:a<8) (han:∀ o∈fK u,o.1≠(a:Int)) (hb:b<8) (hbn:∀ o∈fK u,o.1≠(b:Int)) (Gt:a<b):aN 0 tl (Am p c w f g a b u):=by
 have hA:aN 0 tl (de p.1 (cm ((aA p).set f (a:Int))) (bx (bL al ((a:Int),3,(w:Int),0,1,())) (gE (bL aC ((w:Int),[],())) u))):=
  Inv.abL (o:=((a:Int),3,(w:Int),0,1,())) (pi':=bL aC ((w:Int),[],()) (uM u)) h hp h1 hff ⟨by show (0:Int)≤a;omega,by show (a:Int)≤7;omega⟩ han rfl
   (.inr ⟨.inl rfl,⟨_,dq.2 (.inl rfl),rfl⟩,rfl⟩) (fun z hz=>by
    rcases dq.1 hz with rfl|hz
    . exact .inr ⟨rfl, .inl rfl,⟨by show (0:Int)≤w;omega,by show (w:Int)≤2;omega⟩,rfl⟩
    . exact .inl hz) (fun z hz=>dq.2 (.inr hz)) (gV h.xP hwn)
 have Gr:cm ((aA p).set f (a:Int)) p∈bu (de p.1 (cm ((aA p).set f (a:Int))) (bx (bL al ((a:Int),3,(w:Int),0,1,())) (gE (bL aC ((w:Int),[],())) u))):=(bf h.cT hp).2 (.inl rfl);have hg2:((aA p).set f (a:Int))[g]? =some (-1):=by rw [List.getElem?_set,aap (by omega)];exact yC
 have hB0:aN 0 tl (de p.1 (cm (((aA p).set f (a:Int)).set g (b:Int))) (bx (bL al ((b:Int),4,(w:Int),0,1,())) (de p.1 (cm ((aA p).set f (a:Int))) (bx (bL al ((a:Int),3,(w:Int),0,1,())) (gE (bL aC ((w:Int),[],())) u))))):=
  Inv.abL (o:=((b:Int),4,(w:Int),0,1,())) (pi':=bL aC ((w:Int),[],()) (uM u)) (p:=cm ((aA p).set f (a:Int)) p) hA Gr h1 hg2 ⟨by show (0:Int)≤b;omega,by show (b:Int)≤7;omega⟩ (fun o ho=>by
    rcases dq.1 ho with rfl|ho
    . show (a:Int)≠(b:Int);omega
    . exact hbn o ho) rfl
   (.inr ⟨.inr rfl,⟨_,dq.2 (.inl rfl),rfl⟩,rfl⟩) (fun z hz=> .inl hz) (fun z hz=>hz) (gV h.xP hwn)
 have huu:bO (bO (bu u) p.1 (cm ((aA p).set f (a:Int)))) p.1 (cm (((aA p).set f (a:Int)).set g (b:Int)))=bO (bu u) p.1 (cm (((aA p).set f (a:Int)).set g (b:Int))):=wW (key:=ao) (f:=cm ((aA p).set f (a:Int))) (g:=cm (((aA p).set f (a:Int)).set g (b:Int))) (fun _=>rfl) _;have hB:aN 0 tl (de p.1 (cm (((aA p).set f (a:Int)).set g (b:Int))) (bx (fun os=>bL al ((b:Int),4,(w:Int),0,1,()) (bL al ((a:Int),3,(w:Int),0,1,()) os)) (gE (bL aC ((w:Int),[],())) u))):=by
  have e:(de p.1 (cm (((aA p).set f (a:Int)).set g (b:Int))) (bx (bL al ((b:Int),4,(w:Int),0,1,())) (de p.1 (cm ((aA p).set f (a:Int))) (bx (bL al ((a:Int),3,(w:Int),0,1,())) (gE (bL aC ((w:Int),[],())) u)))))=(de p.1 (cm (((aA p).set f (a:Int)).set g (b:Int))) (bx (fun os=>bL al ((b:Int),4,(w:Int),0,1,()) (bL al ((a:Int),3,(w:Int),0,1,()) os)) (gE (bL aC ((w:Int),[],())) u))):=
   congrArg (fun z=>((u.1,u.2.1,u.2.2.1,z,bL al ((b:Int),4,(w:Int),0,1,()) (bL al ((a:Int),3,(w:Int),0,1,()) (fK u)),bL aC ((w:Int),[],()) (uM u),u.2.2.2.2.2.2):UT)) huu
  rw [← e];exact hB0
 unfold Am;simp only [aaH];exact zk (p:=cm (((aA p).set f (a:Int)).set g (b:Int)) p) hB ((bf h.cT hp).2 (.inl rfl)) hc (cY (by omega)) (cY (by omega))
theorem qc (h:aN x tl u) (hp:p∈bu u) {P:Prop} (Ao:(gW (uM u)<0∨cr (aA p) 0<0∨cr (aA p) (cr (aA p) 0+1).toNat<0∨bJ (fK u) 0<0∨bJ (fK u) (bJ (fK u) 0+1).toNat<0)→P)
  (ln:∀ w f g a b:Nat,gW (uM u)=w→cr (aA p) 0=f→cr (aA p) (f+1)=g→bJ (fK u) 0=a→bJ (fK u) (a+1)=b→w<3→(∀ y∈uM u,y.1≠(w:Int))→f<4→(aA p)[f]? =some (-1)→g<4→(aA p)[g]? =some (-1)→f<g→a<8→(∀ o∈fK u,o.1≠(a:Int))→b<8→(∀ o∈fK u,o.1≠(b:Int))→a<b→P):P:=by
 have h4:=(h.loc p hp).fds;rcases Ak (pi:=uM u) with e|⟨w,ew,hw,hwn⟩
 . exact Ao (.inl (by omega))
 rcases gG (k:=0) h4 (by omega) with e|⟨f,ef,_,hf,hff⟩
 . exact Ao (.inr (.inl (by omega)))
 have ef1:(cr (aA p) 0+1).toNat=f+1:=by omega
 rcases gG (k:=f+1) h4 (by omega) with e|⟨g,eg,hg1,hg,yC⟩
 . exact Ao (.inr (.inr (.inl (by rw [ef1];omega))))
 rcases iA (os:=fK u) (k:=0) (by omega) with e|⟨a,ea,_,ha,han⟩
 . exact Ao (.inr (.inr (.inr (.inl (by omega)))))
 have ea1:(bJ (fK u) 0+1).toNat=a+1:=by omega
 rcases iA (os:=fK u) (k:=a+1) (by omega) with e|⟨b,eb,Cw,hb,hbn⟩
 . exact Ao (.inr (.inr (.inr (.inr (by rw [ea1];omega)))))
 exact ln w f g a b ew ef eg ea eb hw hwn hf hff hg yC (by omega) ha han hb hbn (by omega)
theorem JO (h:aN 0 tl u) (hp:p∈bu u) (h1:cQ p=1) {c:ag} (hc:aR c.1 c.2.1=true):aN 0 tl (lF p c u):=by
 unfold lF;refine qc h hp (fun hn=> ?_) fun w f g a b ew ef eg ea eb hw hwn hf hff hg yC hfg ha han hb hbn Gt=> ?_
 . rw [aaK hn];exact cu h hp hc (by rfl)
 . have ef1:(cr (aA p) 0+1).toNat=f+1:=by omega
   have ea1:(bJ (fK u) 0+1).toNat=a+1:=by omega
   rw [ef1,ea1,ew,ef,eg,ea,eb,aap (by omega)];exact Q1 h hp h1 hc hw hwn hf hff hg yC hfg ha han hb hbn Gt
theorem JP (h:aN 0 tl u) (hp:p∈bu u) {c:ag} (hc:aR c.1 c.2.1=true) (hl:l.length≤98000):Gv (Qt (gb u l,pT p,c,())) (lF p c u) l 10:=by
 have h4:=(h.loc p hp).fds;have yD:=JK (u:=u);have VM:=uR (p:=p) h4 (k:=0) (by omega);have hv3:=tN (u:=u) (k:=0) (by omega);have hB:aS=9223372036854775807:=rfl;obtain ⟨f',ef',B5⟩:∃ f':Nat,IntKind.i64.wrap (cr (aA p) 0+1)=(f':Int)∧f'≤4∧f'=(cr (aA p) 0+1).toNat:=by
  rcases gG (k:=0) h4 (by omega) with e|⟨f,ef,_,hf,_⟩
  . exact ⟨0,by rw [e];rfl,by omega,by omega⟩
  . exact ⟨f+1,by rw [ef];exact ar (by omega),by omega,by omega⟩
 obtain ⟨a',ea',E8⟩:∃ a':Nat,IntKind.i64.wrap (bJ (fK u) 0+1)=(a':Int)∧a'≤8∧a'=(bJ (fK u) 0+1).toNat:=by
  rcases iA (os:=fK u) (k:=0) (by omega) with e|⟨f,ef,_,hf,_⟩
  . exact ⟨0,by rw [e];rfl,by omega,by omega⟩
  . exact ⟨f+1,by rw [ef];exact ar (by omega),by omega,by omega⟩
 have hv2:=uR (p:=p) h4 (k:=f') B5.1;have hv4:=tN (u:=u) (k:=a') E8.1;unfold lF;show Gv (Out.eval (EM _)) _ _ _;dsimp only [EM,gb];refine Gv.step (aa yD) ?_;refine Gv.step (aa VM) ?_;dsimp only;rw [ef'];refine Gv.step (aa hv2) ?_;refine Gv.step (aa hv3) ?_;dsimp only;rw [ea'];refine Gv.step (aa hv4) ?_;rw [B5.2,E8.2];by_cases q0:gW (uM u)<0
 . rw [aaK (.inl q0)]
   refine Gv.step (ae (aO q0)) ?_;exact bY h.cT hp hc (by rfl) (by omega) (by omega)
 refine Gv.step (ab (aJ q0)) ?_;by_cases q1:cr (aA p) 0<0
 . rw [aaK (.inr (.inl q1))]
   refine Gv.step (ae (aO q1)) ?_;exact bY h.cT hp hc (by rfl) (by omega) (by omega)
 refine Gv.step (ab (aJ q1)) ?_;by_cases q2:cr (aA p) (cr (aA p) 0+1).toNat<0
 . rw [aaK (.inr (.inr (.inl q2)))]
   refine Gv.step (ae (aO q2)) ?_;exact bY h.cT hp hc (by rfl) (by omega) (by omega)
 refine Gv.step (ab (aJ q2)) ?_;by_cases q3:bJ (fK u) 0<0
 . rw [aaK (.inr (.inr (.inr (.inl q3))))]
   refine Gv.step (ae (aO q3)) ?_;exact bY h.cT hp hc (by rfl) (by omega) (by omega)
 refine Gv.step (ab (aJ q3)) ?_;by_cases q4:bJ (fK u) (bJ (fK u) 0+1).toNat<0
 . rw [aaK (.inr (.inr (.inr (.inr q4))))]
   refine Gv.step (ab (aaa q4)) ?_;exact bY h.cT hp hc (by rfl) (by omega) (by omega)
 refine Gv.step (ae (aae q4)) ?_;rw [aap (by rintro (e|e|e|e|e)<;>contradiction)];refine qc h hp (fun hn=>absurd hn (by rintro (e|e|e|e|e)<;>contradiction)) fun w f g a b ew ef eg ea eb hw hwn hf hff hg yC hfg ha han hb hbn Gt=> ?_;have ef1:(cr (aA p) 0+1).toNat=f+1:=by omega
 have ea1:(bJ (fK u) 0+1).toNat=a+1:=by omega
 rw [ef1,ea1,ew,ef,eg,ea,eb];have lU:=nA h;have Gs:=uN h;have s5:=h.cT;have VH:=h.pz;clear yD VM hv2 hv3 hv4 q0 q1 q2 q3 q4;obtain ⟨nx,tk,pg,ps,os,pi,fi,rd,ou,_⟩:=u;have ahk:bS al os:=VH;have Q2:bS ao ps:=s5;have E7:p∈ps:=hp;have VN:∀ o∈os,o.1≠(a:Int):=han;have ahl:∀ o∈os,o.1≠(b:Int):=hbn;have alx:os.length≤8:=lU;have dW:((b:Int))≠(a:Int):=by omega
 have d1:=eT (l:=l) (Vz (nx:=nx) (tk:=tk) (pg:=pg) (ps:=ps) (os:=os) (fi:=fi) (rd:=rd) (ou:=ou) (b:=0) (c:=0) (k:=(w:Int)) (l:=[]) hwn ⟨by omega,by omega⟩ (aa3 Gs (by omega))) (by omega);have d2:=eT (l:=l++[eE 14 w 0 0]) (E2 (nx:=nx) (tk:=tk) (pg:=pg) (ps:=ps) (os:=os) (pi:=bL aC ((w:Int),[],()) pi) (fi:=fi) (rd:=rd) (ou:=ou) (b:=3) (c:=(w:Int)) (k:=(a:Int)) (l:=[]) VN ⟨by omega,by omega⟩ (by omega)) (by rw [bc];omega);have ahm:∀ z∈bL al ((a:Int),3,(w:Int),0,0,()) os,z.1≠(b:Int):=fun z hz=>by
  rcases dq.1 hz with rfl|hz
  . exact fun e=>dW e.symm
  . exact ahl z hz
 have d3:=eT (l:=l++[eE 14 w 0 0]++[eE 10 a 3 w]) (E2 (nx:=nx) (tk:=tk) (pg:=pg) (ps:=ps) (os:=bL al ((a:Int),3,(w:Int),0,0,()) os) (pi:=bL aC ((w:Int),[],()) pi) (fi:=fi) (rd:=rd) (ou:=ou) (b:=4) (c:=(w:Int)) (k:=(b:Int)) (l:=[]) ahm ⟨by omega,by omega⟩ (by rw [jb];omega)) (by rw [bc,bc];omega);have r1:bS al (bL al ((a:Int),3,(w:Int),0,0,()) os):=gV ahk VN;have r2:bS al (bL al ((b:Int),4,(w:Int),0,0,()) (bL al ((a:Int),3,(w:Int),0,0,()) os)):=gV r1 ahm;have d4:=eT (l:=l++[eE 14 w 0 0]++[eE 10 a 3 w]++[eE 10 b 4 w]) (wP (o:=((a:Int),3,(w:Int),0,0,())) (nx:=nx) (tk:=tk) (pg:=pg) (ps:=ps) (os:=bL al ((b:Int),4,(w:Int),0,0,()) (bL al ((a:Int),3,(w:Int),0,0,()) os)) (pi:=bL aC ((w:Int),[],()) pi) (fi:=fi) (rd:=rd) (ou:=ou) (b:=1) (c:=0) (l:=[]) r2 (dq.2 (.inr (dq.2 (.inl rfl)))) (by rw [jb,jb];omega) ⟨by show (-1000:Int)≤0+1;omega,by show (0:Int)+1≤1000;omega⟩) (by rw [bc,bc,bc];omega);have e4:ca al (bL al ((b:Int),4,(w:Int),0,0,()) (bL al ((a:Int),3,(w:Int),0,0,()) os)) (a:Int) (cV (0+1))=bL al ((b:Int),4,(w:Int),0,0,()) (bL al ((a:Int),3,(w:Int),0,1,()) os):=by
  rw [Al (key:=al) (y:=((b:Int),4,(w:Int),0,0,())) (f:=cV (0+1)) (v:=(a:Int)) (by show (b:Int)≠a;omega) (fun _=>rfl)];congr 1;exact rr (y:=((a:Int),3,(w:Int),0,0,())) (f:=cV (0+1)) VN rfl
 have d4':=d4.trans (congrArg (fun z=>some ((gb (nx,tk,pg,ps,z,bL aC ((w:Int),[],()) pi,fi,rd,ou,()) (l++[eE 14 w 0 0]++[eE 10 a 3 w]++[eE 10 b 4 w]++[eE 11 a 1 0]),()),((),(),()))) e4);have ahn:∀ z∈bL al ((a:Int),3,(w:Int),0,1,()) os,z.1≠(b:Int):=fun z hz=>by
  rcases dq.1 hz with rfl|hz
  . exact fun e=>dW e.symm
  . exact ahl z hz
 have r3:bS al (bL al ((a:Int),3,(w:Int),0,1,()) os):=gV ahk VN;have r4:bS al (bL al ((b:Int),4,(w:Int),0,0,()) (bL al ((a:Int),3,(w:Int),0,1,()) os)):=gV r3 ahn;have d5:=eT (l:=l++[eE 14 w 0 0]++[eE 10 a 3 w]++[eE 10 b 4 w]++[eE 11 a 1 0]) (wP (o:=((b:Int),4,(w:Int),0,0,())) (nx:=nx) (tk:=tk) (pg:=pg) (ps:=ps) (os:=bL al ((b:Int),4,(w:Int),0,0,()) (bL al ((a:Int),3,(w:Int),0,1,()) os)) (pi:=bL aC ((w:Int),[],()) pi) (fi:=fi) (rd:=rd) (ou:=ou) (b:=1) (c:=0) (l:=[]) r4 (dq.2 (.inl rfl)) (by rw [jb,jb];omega) ⟨by show (-1000:Int)≤0+1;omega,by show (0:Int)+1≤1000;omega⟩) (by rw [bc,bc,bc,bc];omega);have e5:ca al (bL al ((b:Int),4,(w:Int),0,0,()) (bL al ((a:Int),3,(w:Int),0,1,()) os)) (b:Int) (cV (0+1))=bL al ((b:Int),4,(w:Int),0,1,()) (bL al ((a:Int),3,(w:Int),0,1,()) os):=rr (y:=((b:Int),4,(w:Int),0,0,())) (f:=cV (0+1)) ahn rfl;have d5':=d5.trans (congrArg (fun z=>some ((gb (nx,tk,pg,ps,z,bL aC ((w:Int),[],()) pi,fi,rd,ou,()) (l++[eE 14 w 0 0]++[eE 10 a 3 w]++[eE 10 b 4 w]++[eE 11 a 1 0]++[eE 11 b 1 0]),()),((),(),()))) e5);have d6:=eT (l:=l++[eE 14 w 0 0]++[eE 10 a 3 w]++[eE 10 b 4 w]++[eE 11 a 1 0]++[eE 11 b 1 0]) (GP (nx:=nx) (tk:=tk) (pg:=pg) (os:=bL al ((b:Int),4,(w:Int),0,1,()) (bL al ((a:Int),3,(w:Int),0,1,()) os)) (pi:=bL aC ((w:Int),[],()) pi) (fi:=fi) (rd:=rd) (ou:=ou) (b:=(f:Int)) (c:=(a:Int)) (l:=[]) Q2 E7 ⟨by omega,by rw [h4];omega⟩) (by rw [bc,bc,bc,bc,bc];omega);rw [aaH] at d6;have QX:bS ao (bO ps p.1 (cm ((aA p).set f (a:Int)))):=dR Q2 fun _ _ _=>rfl;have QU:cm ((aA p).set f (a:Int)) p∈bO ps p.1 (cm ((aA p).set f (a:Int))):=(bf Q2 E7).2 (.inl rfl);have d7:=eT (l:=l++[eE 14 w 0 0]++[eE 10 a 3 w]++[eE 10 b 4 w]++[eE 11 a 1 0]++[eE 11 b 1 0]++[eE 9 p.1 f a]) (GP (nx:=nx) (tk:=tk) (pg:=pg) (os:=bL al ((b:Int),4,(w:Int),0,1,()) (bL al ((a:Int),3,(w:Int),0,1,()) os)) (pi:=bL aC ((w:Int),[],()) pi) (fi:=fi) (rd:=rd) (ou:=ou) (b:=(g:Int)) (c:=(b:Int)) (l:=[]) QX QU ⟨by omega,by show (g:Int)<((((aA p).set f (a:Int)).length:Nat):Int);rw [aag,h4];omega⟩) (by rw [bc,bc,bc,bc,bc,bc];omega);rw [aaH] at d7;have huu:bO (bO ps p.1 (cm ((aA p).set f (a:Int)))) p.1 (cm (((aA p).set f (a:Int)).set g (b:Int)))=bO ps p.1 (cm (((aA p).set f (a:Int)).set g (b:Int))):=wW (key:=ao) (f:=cm ((aA p).set f (a:Int))) (g:=cm (((aA p).set f (a:Int)).set g (b:Int))) (fun _=>rfl) _;have d7':=d7.trans (congrArg (fun z=>some ((gb (nx,tk,pg,z,bL al ((b:Int),4,(w:Int),0,1,()) (bL al ((a:Int),3,(w:Int),0,1,()) os),bL aC ((w:Int),[],()) pi,fi,rd,ou,()) (l++[eE 14 w 0 0]++[eE 10 a 3 w]++[eE 10 b 4 w]++[eE 11 a 1 0]++[eE 11 b 1 0]++[eE 9 p.1 f a]++[eE 9 p.1 g b]),()),((),(),()))) huu);refine Gv.step (aa rfl) ?_;refine Gv.step (aa d1) ?_;refine Gv.step (aa rfl) ?_;refine Gv.step (aa d2) ?_;refine Gv.step (aa rfl) ?_;refine Gv.step (aa d3) ?_;refine Gv.step (aa rfl) ?_;refine Gv.step (aa d4') ?_;refine Gv.step (aa rfl) ?_;refine Gv.step (aa d5') ?_;refine Gv.step (aa rfl) ?_;refine Gv.step (aa d6) ?_;refine Gv.step (aa rfl) ?_;refine Gv.step (aa d7') ?_;unfold Am;simp only [aaH];have hr5:bS ao (bO ps p.1 (cm (((aA p).set f (a:Int)).set g (b:Int)))):=dR Q2 fun _ _ _=>rfl;have hp5:cm (((aA p).set f (a:Int)).set g (b:Int)) p∈bO ps p.1 (cm (((aA p).set f (a:Int)).set g (b:Int))):=(bf Q2 E7).2 (.inl rfl);exact Fh (u:=de p.1 (cm (((aA p).set f (a:Int)).set g (b:Int))) (bx (fun os=>bL al ((b:Int),4,(w:Int),0,1,()) (bL al ((a:Int),3,(w:Int),0,1,()) os)) (gE (bL aC ((w:Int),[],())) (nx,tk,pg,ps,os,pi,fi,rd,ou,())))) hr5 hp5 hc (y:=(f:Int)) (w:=(g:Int)) (cY (by omega)) (cY (by omega)) (l1:=l++[eE 14 w 0 0]++[eE 10 a 3 w]++[eE 10 b 4 w]++[eE 11 a 1 0]++[eE 11 b 1 0]++[eE 9 p.1 f a]++[eE 9 p.1 g b]) (by simp only [bc];omega) (by simp only [bc];omega)
end
end
section
open Go Go.ChangeShapes Go.WideShapes Go.ChangeAt Go.RowKit
section
variable {x tl:Int} {u u' v:UT} {p:af} {o:ah} {l l':List ET} {e:ET} {β:Type} {n m:Nat}
theorem kf {o:ah} {k:Int} (h:bK o≠k):(o.2.1==k)=false:=eB h
def mH (os:List ah) (k t:Int):Bool:=os.any (m0 k t)
def wZ (p:af) (c:ag) (o:ah) (y:ag) (u:UT):UT:=if ff o≥(y.2.1.length:Nat) then cI p.1 c 0 u else iz p.1 c 1 (y.2.1.getD (ff o).toNat 0) (bx (fun os=>ca al os o.1 (wH (ff o+1))) u)
def nD (p:af) (c:ag) (o:ah) (y:ag) (u:UT):UT:=if 0<y.2.1.length then iz p.1 c 1 (y.2.1.getD 0 0) (fD (ct o) (gE (fun pi=>ca aC pi (ct o) (fu (y.2.1.drop 1))) u))
 else if mH (fK u) 4 (ct o)=false then cI p.1 c 0 u else tH p.1 4 o.1 u
def CQ (p:af) (c:ag) (u:UT):UT:=match ofO p (dj c 0) u with
 |none=>cI p.1 c (-1) u
 |some o=>if bK o=4 then cI p.1 c (-1) u else if bK o=1 then cI p.1 c 0 u else if bK o=2 then (match ee aV (uy u) (ct o) with|none=>u|some y=>wZ p c o y u)
  else match ee aC (uM u) (ct o) with|none=>u|some y=>nD p c o y u
def rA (p:af) (c:ag) (o:ah) (y:ag) (u:UT):UT:=if ff o≥8 then cI p.1 c (-1) u else cI p.1 c 1 (bx (fun os=>ca al os o.1 (wH (ff o+1))) (kU (fun fi=>ca aV fi y.1 (fu (iy y.2.1 (ff o) (dj c 1)))) u))
def lG (p:af) (c:ag) (o:ah) (y:ag) (u:UT):UT:=if mH (fK u) 3 (ct o)=false then cI p.1 c (-1) u else if 4≤y.2.1.length then tH p.1 5 o.1 u
 else cI p.1 c 1 (fD (ct o) (gE (fun pi=>ca aC pi (ct o) (fu (y.2.1++[dj c 1]))) u))
def VO (v:Int) (u:UT):UT:=(u.1,u.2.1,u.2.2.1,u.2.2.2.1,u.2.2.2.2.1,u.2.2.2.2.2.1,u.2.2.2.2.2.2.1,u.2.2.2.2.2.2.2.1,u.2.2.2.2.2.2.2.2.1++[v],())
def w8 (p:af) (c:ag) (u:UT):UT:=match ofO p (dj c 0) u with
 |none=>cI p.1 c (-1) u
 |some o=>if bK o=3 then cI p.1 c (-1) u else if bK o=1 then (if 60≤(uOu u).length then cI p.1 c (-1) u else cI p.1 c 1 (VO (dj c 1) u)) else if bK o=2 then (match ee aV (uy u) (ct o) with|none=>u|some y=>rA p c o y u)
  else match ee aC (uM u) (ct o) with|none=>u|some y=>lG p c o y u
theorem Fk (h:aN x tl u) (ho:o∈fK u):bK o=1∨(bK o=2∧∃ y∈uy u,y.1=ct o∧0≤ff o∧ff o≤(y.2.1.length:Nat))∨((bK o=3∨bK o=4)∧∃ y∈uM u,y.1=ct o):=by
 rcases (h.op o ho).kind with ⟨e,_⟩|q|⟨e,q,_⟩
 . exact .inl e
 . exact .inr (.inl q)
 . exact .inr (.inr ⟨e,q⟩)
theorem jz (h:aN x tl u) {y:ag} (hy:y∈uy u):y.2.1.length≤8∧aG y.2.1=true:=by
 have:=h.Gn y hy;unfold fw at this;simp only [aaE,ack] at this;exact this.2
theorem qd {l:List Int} (h:aG l=true) {k:Nat}:b6 (l.getD k 0)=true:=by
 rw [adg];cases e:l[k]? with
 |none=>rfl
 |some v=>exact aa1.1 h v (aeJ e)
theorem Ap {l:List Int} (h:aG l=true) (k:Nat):aG (l.drop k)=true:=aa1.2 fun v hv=>aa1.1 h v (agh hv)
theorem tP {l:List Int} (h:aG l=true) {v:Int} (hv:b6 v=true):aG (l++[v])=true:=by
 unfold aG at h ⊢;rw [afW,h];simp [hv]
theorem Q3 {l:List Int} (h:aG l=true) {v b:Int} (hv:b6 v=true):aG (iy l b v)=true:=by
 unfold iy;split
 . exact tP h hv
 . refine aa1.2 fun y hy=> ?_
   rcases af4 hy with q|rfl
   . exact aa1.1 h y q
   . exact hv
theorem Q4 (h:aN 0 tl u) (hp:p∈bu u) {c:ag} (hc:aR c.1 c.2.1=true) (ho:o∈fK u) {y:ag} (hy:y∈uy u) (hk:bK o=2) (ht:y.1=ct o) (h0:0≤ff o):aN 0 tl (wZ p c o y u):=by
 unfold wZ;split
 . exact cu h hp hc (by rfl)
 . have hA:aN 0 tl (bx (fun os=>ca al os o.1 (wH (ff o+1))) u):=Inv.cK h ho hk fun z hz e=>by
    obtain rfl:=h.zO.inj hz hy (e.trans ht.symm);omega
   exact zk hA hp hc (by rfl) (qd (jz h hy).2)
theorem JQ (h:aN 0 tl u) (hp:p∈bu u) (h1:cQ p=1) {c:ag} (hc:aR c.1 c.2.1=true) {j:Nat} (ho:o∈fK u) (hf:(aA p)[j]? =some o.1) {y:ag} (hy:y∈uM u):aN 0 tl (nD p c o y u):=by
 have hd:=(h.uw y hy).data;unfold nD;split
 . have hA:aN 0 tl (gE (fun pi=>ca aC pi (ct o) (fu (y.2.1.drop 1))) u):=Inv.Li h (by rw [adn];omega) (Ap hd.2 1)
   have hB:=lS hA (ct o);exact zk hB (jU hA hp (by omega) _) hc (by rfl) (qd hd.2)
 . split
   . exact cu h hp hc (by rfl)
   . exact zi h hp h1 (by omega) (by omega) (by omega) fun _=>⟨aeJ hf,o,ho,rfl⟩
theorem ac5 (h:aN 0 tl u) (hp:p∈bu u) (h1:cQ p=1) {c:ag} (hc:aR c.1 c.2.1=true):aN 0 tl (CQ p c u):=by
 unfold CQ;rcases GZ h hp (dj c 0) with ⟨e,_⟩|⟨o,ho,j,_,_,hf,e,_⟩
 . rw [e];exact cu h hp hc (by rfl)
 . rw [e]
   simp only;rcases Fk h ho with k|⟨k,y,hy,ht,h0,_⟩|⟨k,y,hy,ht⟩
   . rw [aap (by omega),aaK k];exact cu h hp hc (by rfl)
   . rw [aap (by omega),aap (by omega),aaK k,show ee aV (uy u) (ct o)=some y by rw [← ht];exact dP h.zO hy]
     exact Q4 h hp hc ho hy k ht h0
   . by_cases k4:bK o=4
     . rw [aaK k4];exact cu h hp hc (by rfl)
     . rw [aap k4,aap (by omega),aap (by omega),show ee aC (uM u) (ct o)=some y by rw [← ht];exact dP h.xP hy]
       exact JQ h hp h1 hc ho hf hy
theorem N1 (h:aN 0 tl u) (hp:p∈bu u) {c:ag} (hc:aR c.1 c.2.1=true) (ho:o∈fK u) {y:ag} (hy:y∈uy u) (hk:bK o=2) (ht:y.1=ct o) (h0:0≤ff o) (h2:ff o≤(y.2.1.length:Nat)):aN 0 tl (rA p c o y u):=by
 unfold rA;split
 . exact cu h hp hc (by rfl)
 . have hd:=jz h hy
   have hw:=(eK hc (k:=1) (by omega)).2;have hl:y.2.1.length≤(iy y.2.1 (ff o) (dj c 1)).length∧(iy y.2.1 (ff o) (dj c 1)).length≤8∧ff o+1≤((iy y.2.1 (ff o) (dj c 1)).length:Nat):=by
    unfold iy;split
    . rw [aao];show _≤_+1∧_+1≤8∧_≤((_+1:Nat):Int);omega
    . rw [aag];omega
   have hA:aN 0 tl (kU (fun fi=>ca aV fi y.1 (fu (iy y.2.1 (ff o) (dj c 1)))) u):=Inv.file h hy hl.1 hl.2.1 (Q3 hd.2 hw);have hB:aN 0 tl (bx (fun os=>ca al os o.1 (wH (ff o+1))) (kU (fun fi=>ca aV fi y.1 (fu (iy y.2.1 (ff o) (dj c 1)))) u)):=Inv.cK hA ho hk fun z hz e=>by
    obtain ⟨z0,hz0,e0⟩:=gh.1 hz;by_cases q:aV z0=y.1
    . rw [aaK q] at e0
      subst e0;exact ⟨by omega,hl.2.2⟩
    . rw [aap q] at e0
      subst e0;exact absurd (e.trans ht.symm) q
   exact cu hB hp hc (by rfl)
theorem G2 (h:aN 0 tl u) (hp:p∈bu u) (h1:cQ p=1) {c:ag} (hc:aR c.1 c.2.1=true) {j:Nat} (ho:o∈fK u) (hf:(aA p)[j]? =some o.1) {y:ag} (hy:y∈uM u):aN 0 tl (lG p c o y u):=by
 have hd:=(h.uw y hy).data;unfold lG;split
 . exact cu h hp hc (by rfl)
 . split
   . exact zi h hp h1 (by omega) (by omega) (by omega) fun _=>⟨aeJ hf,o,ho,rfl⟩
   . have hA:aN 0 tl (gE (fun pi=>ca aC pi (ct o) (fu (y.2.1++[dj c 1]))) u):=Inv.Li h (by rw [aao];show _+1≤4;omega) (tP hd.2 (eK hc (k:=1) (by omega)).2)
     have hB:=lS hA (ct o);exact cu hB (jU hA hp (by omega) _) hc (by rfl)
theorem aho (h:aN x tl u) {v:Int} (hl:(uOu u).length<60) (hv:b6 v=true):aN x tl (VO v u):=Inv.out h hl hv
theorem VP (h:aN 0 tl u) (hp:p∈bu u) (h1:cQ p=1) {c:ag} (hc:aR c.1 c.2.1=true):aN 0 tl (w8 p c u):=by
 unfold w8;rcases GZ h hp (dj c 0) with ⟨e,_⟩|⟨o,ho,j,_,_,hf,e,_⟩
 . rw [e];exact cu h hp hc (by rfl)
 . rw [e]
   simp only;rcases Fk h ho with k|⟨k,y,hy,ht,h0,h2⟩|⟨k,y,hy,ht⟩
   . rw [aap (by omega),aaK k]
     split
     . exact cu h hp hc (by rfl)
     . exact cu (aho h (by omega) (eK hc (k:=1) (by omega)).2) hp hc (by rfl)
   . rw [aap (by omega),aap (by omega),aaK k,show ee aV (uy u) (ct o)=some y by rw [← ht];exact dP h.zO hy]
     exact N1 h hp hc ho hy k ht h0 h2
   . by_cases k3:bK o=3
     . rw [aaK k3];exact cu h hp hc (by rfl)
     . rw [aap k3,aap (by omega),aap (by omega),show ee aC (uM u) (ct o)=some y by rw [← ht];exact dP h.xP hy]
       exact G2 h hp h1 hc ho hf hy
theorem ac6 (h:aN 0 tl u) (hp:p∈bu u) (h1:cQ p=1) {c:ag} (hc:aR c.1 c.2.1=true) (hl:l.length≤98000):Gv (Ql (gb u l,pT p,c,())) (CQ p c u) l 20:=by
 have s6:nth c.2.1 (Int.toNat (0:Int))=some (dj c 0):=(eK hc (k:=0) (by omega)).1;have lU:=nA h;have hB:aS=9223372036854775807:=rfl;unfold CQ;show Gv (Out.eval (EJ _)) _ _ _;dsimp only [EJ,gb];refine Gv.step (ab (by rfl)) ?_;refine Gv.step (aa s6) ?_;rcases GZ h hp (dj c 0) with ⟨e,ev⟩|⟨o,ho,j,_,_,hf,e,ev⟩
 . rw [e]
   refine Gv.step (aa ev) ?_;refine Gv.step (ae (by rfl)) ?_;exact bY h.cT hp hc (by rfl) (by omega) (by omega)
 rw [e];simp only;refine Gv.step (aa ev) ?_;refine Gv.step (ab (by rfl)) ?_;rcases Fk h ho with k|⟨k,y,hy,ht,h0,h2⟩|⟨k,y,hy,ht⟩
 . rw [aap (by omega),aaK k]
   refine Gv.step (ae (kf (o:=o) (by omega))) ?_;refine Gv.step (ab (di k)) ?_;exact bY h.cT hp hc (by rfl) (by omega) (by omega)
 . rw [aap (by omega),aap (by omega),aaK k,show ee aV (uy u) (ct o)=some y by rw [← ht];exact dP h.zO hy]
   show Gv _ (wZ p c o y u) _ _;have hd:=jz h hy;obtain ⟨i,hi,Ff,iU⟩:=bD h.zO hy;have cU:bt u.2.2.2.2.2.2.1 o.2.2.1=(i:Int):=by rw [show o.2.2.1=aV y from ht.symm];exact hi
   have s4:nth u.2.2.2.2.2.2.1 i=some y:=iU;unfold wZ;refine Gv.step (ae (kf (o:=o) (by omega))) ?_;refine Gv.step (ae (kf (o:=o) (by omega))) ?_;refine Gv.step (ab (di k)) ?_;rw [cU];simp only [aaH];refine Gv.step (ab (aaa (by omega))) ?_;refine Gv.step (aa s4) ?_;by_cases q:ff o≥((y.2.1.length:Nat):Int)
   . rw [aaK q]
     refine Gv.step (ab (aaa q)) ?_;exact bY h.cT hp hc (by rfl) (by omega) (by omega)
   rw [aap q];refine Gv.step (ae (aae q)) ?_;have hw:IntKind.i64.wrap (o.2.2.2.1+1)=ff o+1:=cS (by show _≤ff o+1;omega) (by show ff o+1≤_;omega);have pG:nth y.2.1 (Int.toNat o.2.2.2.1)=some (y.2.1.getD (ff o).toNat 0):=by
    have bZ:(ff o).toNat<y.2.1.length:=by omega
    show y.2.1[(ff o).toNat]? =_;rw [adg,aaf bZ];rfl
   rw [hw];have s5:=h.cT;have VH:=h.pz;obtain ⟨nx,tk,pg,ps,os,pi,fi,rd,ou,_⟩:=u;have d1:=eT (l:=l) (QI (nx:=nx) (tk:=tk) (pg:=pg) (ps:=ps) (pi:=pi) (fi:=fi) (rd:=rd) (ou:=ou) (b:=ff o+1) (c:=0) (l:=[]) VH ho (aa3 lU (by omega))) (by omega);refine Gv.step (aa rfl) ?_;refine Gv.step (aa d1) ?_;refine Gv.step (ab (aaa h0)) ?_;refine Gv.step (aa pG) ?_;exact Fh (u:=bx (fun os=>ca al os o.1 (wH (ff o+1))) (nx,tk,pg,ps,os,pi,fi,rd,ou,())) s5 hp hc (y:=1) (by rfl) (qd hd.2) (l1:=l++[eE 13 o.1 (ff o+1) 0]) (by rw [bc];omega) (by rw [bc];omega)
 . by_cases k4:bK o=4
   . rw [aaK k4]
     refine Gv.step (ab (di k4)) ?_;exact bY h.cT hp hc (by rfl) (by omega) (by omega)
   rw [aap k4,aap (by omega),aap (by omega),show ee aC (uM u) (ct o)=some y by rw [← ht];exact dP h.xP hy];show Gv _ (nD p c o y u) _ _;have hd:=(h.uw y hy).data;obtain ⟨i,hi,Ff,iU⟩:=bD h.xP hy;have cU:bp u.2.2.2.2.2.1 o.2.2.1=(i:Int):=by rw [show o.2.2.1=aC y from ht.symm];exact hi
   have s4:nth u.2.2.2.2.2.1 i=some y:=iU;unfold nD;refine Gv.step (ae (kf (o:=o) (by omega))) ?_;refine Gv.step (ae (kf (o:=o) (by omega))) ?_;refine Gv.step (ae (kf (o:=o) (by omega))) ?_;rw [cU];simp only [aaH];refine Gv.step (ab (aaa (by omega))) ?_;refine Gv.step (aa s4) ?_;by_cases q:0<y.2.1.length
   . rw [aaK q]
     refine Gv.step (ab (aaa (by omega))) ?_;have hA:aN 0 tl (gE (fun pi=>ca aC pi (ct o) (fu (y.2.1.drop 1))) u):=Inv.Li h (by rw [adn];omega) (Ap hd.2 1);have hB:=lS hA (ct o);have Gr:p∈bu (fD (ct o) (gE (fun pi=>ca aC pi (ct o) (fu (y.2.1.drop 1))) u)):=jU hA hp (by omega) _;have hrp:=h.xP;have Gs:=uN h;have s6:nth y.2.1 (Int.toNat (0:Int))=some (y.2.1.getD 0 0):=by
      show y.2.1[0]? =_;rw [adg,aaf q];rfl
     obtain ⟨l2,hv,VI⟩:=tJ hA (ct o) (l:=l++[eE 16 (ct o) 0 0]) (by rw [bc];omega);rw [bc] at VI;obtain ⟨nx,tk,pg,ps,os,pi,fi,rd,ou,_⟩:=u;have d1:=eT (l:=l) (VB (nx:=nx) (tk:=tk) (pg:=pg) (ps:=ps) (os:=os) (fi:=fi) (rd:=rd) (ou:=ou) (b:=0) (c:=0) (l:=[]) hrp hy (aa3 Gs (by omega)) ⟨q,hd.1⟩) (by omega);rw [ht] at d1;refine Gv.step (aa rfl) ?_;refine Gv.step (aa d1) ?_;refine Gv.step (aa hv) ?_;refine Gv.step (ab (by rfl)) ?_;refine Gv.step (aa s6) ?_;exact Fh hB.cT Gr hc (y:=1) (by rfl) (qd hd.2) (by omega) (by omega)
   rw [aap q];refine Gv.step (ae (aae (by omega))) ?_;have hez:(ix u.2.2.2.2.1 o.2.2.1 4==0)= !mH (fK u) 4 (ct o):=CP (aa3 lU (by omega)) _ _;rw [hez];by_cases q2:mH (fK u) 4 (ct o)=false
   . rw [aaK q2]
     refine Gv.step (ab (by rw [q2];rfl)) ?_;exact bY h.cT hp hc (by rfl) (by omega) (by omega)
   rw [aap q2];refine Gv.step (ae (by rw [show mH (fK u) 4 (ct o)=true by simpa using q2];rfl)) ?_;refine Gv.step (aa (zj h hp h1 (by omega))) ?_;exact Gv.ret (by rw [bc,bc];omega)
theorem VQ (h:aN 0 tl u) (hp:p∈bu u) (h1:cQ p=1) {c:ag} (hc:aR c.1 c.2.1=true) (hl:l.length≤98000):Gv (Qp (gb u l,pT p,c,())) (w8 p c u) l 20:=by
 have s6:nth c.2.1 (Int.toNat (0:Int))=some (dj c 0):=(eK hc (k:=0) (by omega)).1;have VJ:nth c.2.1 (Int.toNat (1:Int))=some (dj c 1):=(eK hc (k:=1) (by omega)).1;have hw1:=(eK hc (k:=1) (by omega)).2;have lU:=nA h;have hB:aS=9223372036854775807:=rfl;unfold w8;show Gv (Out.eval (EK _)) _ _ _;dsimp only [EK,gb];refine Gv.step (ab (by rfl)) ?_;refine Gv.step (aa s6) ?_;rcases GZ h hp (dj c 0) with ⟨e,ev⟩|⟨o,ho,j,_,_,hf,e,ev⟩
 . rw [e]
   refine Gv.step (aa ev) ?_;refine Gv.step (ab (by rfl)) ?_;refine Gv.step (aa VJ) ?_;refine Gv.step (ae (by rfl)) ?_;exact bY h.cT hp hc (by rfl) (by omega) (by omega)
 rw [e];simp only;refine Gv.step (aa ev) ?_;refine Gv.step (ab (by rfl)) ?_;refine Gv.step (aa VJ) ?_;refine Gv.step (ab (by rfl)) ?_;rcases Fk h ho with k|⟨k,y,hy,ht,h0,h2⟩|⟨k,y,hy,ht⟩
 . rw [aap (by omega),aaK k]
   refine Gv.step (ae (kf (o:=o) (by omega))) ?_;refine Gv.step (ab (di k)) ?_;by_cases q:60≤(uOu u).length
   . rw [aaK q]
     refine Gv.step (ab (aaa (by show (((uOu u).length:Nat):Int)≥60;omega))) ?_;exact bY h.cT hp hc (by rfl) (by omega) (by omega)
   rw [aap q];refine Gv.step (ae (aae (by show ¬ (((uOu u).length:Nat):Int)≥60;omega))) ?_;have s5:=h.cT;obtain ⟨nx,tk,pg,ps,os,pi,fi,rd,ou,_⟩:=u;have d1:=eT (l:=l) (acE (nx:=nx) (tk:=tk) (pg:=pg) (ps:=ps) (os:=os) (pi:=pi) (fi:=fi) (rd:=rd) (k:=dj c 1) (b:=0) (c:=0) (l:=[]) (Nat.not_le.1 q)) (by omega);refine Gv.step (aa rfl) ?_;refine Gv.step (aa d1) ?_;exact bY (u:=VO (dj c 1) (nx,tk,pg,ps,os,pi,fi,rd,ou,())) s5 hp hc (by rfl) (l1:=l++[eE 23 (dj c 1) 0 0]) (by rw [bc];omega) (by rw [bc];omega)
 . rw [aap (by omega),aap (by omega),aaK k,show ee aV (uy u) (ct o)=some y by rw [← ht];exact dP h.zO hy]
   show Gv _ (rA p c o y u) _ _;have hd:=jz h hy;unfold rA;refine Gv.step (ae (kf (o:=o) (by omega))) ?_;refine Gv.step (ae (kf (o:=o) (by omega))) ?_;refine Gv.step (ab (di k)) ?_;by_cases q:ff o≥8
   . rw [aaK q]
     refine Gv.step (ab (aaa q)) ?_;exact bY h.cT hp hc (by rfl) (by omega) (by omega)
   rw [aap q];refine Gv.step (ae (aae q)) ?_;have hw:IntKind.i64.wrap (o.2.2.2.1+1)=ff o+1:=cS (by show _≤ff o+1;omega) (by show ff o+1≤_;omega);rw [hw];have s5:=h.cT;have VH:=h.pz;have Ur:=h.zO;have qQ:=xR h;obtain ⟨nx,tk,pg,ps,os,pi,fi,rd,ou,_⟩:=u;have d1:=eT (l:=l) (VD (nx:=nx) (tk:=tk) (pg:=pg) (ps:=ps) (os:=os) (pi:=pi) (rd:=rd) (ou:=ou) (b:=ff o) (c:=dj c 1) (l:=[]) Ur hy (aa3 qQ (by omega)) hd.1 ⟨h0,h2,by omega⟩) (by omega);rw [show y.1=o.2.2.1 from ht] at d1 ⊢;have d2:=eT (l:=l++[eE 19 o.2.2.1 (ff o) (dj c 1)]) (QI (nx:=nx) (tk:=tk) (pg:=pg) (ps:=ps) (pi:=pi) (fi:=ca aV fi o.2.2.1 (fu (iy y.2.1 (ff o) (dj c 1)))) (rd:=rd) (ou:=ou) (b:=ff o+1) (c:=0) (l:=[]) VH ho (aa3 lU (by omega))) (by rw [bc];omega);refine Gv.step (aa rfl) ?_;refine Gv.step (aa d1) ?_;refine Gv.step (aa rfl) ?_;refine Gv.step (aa d2) ?_;exact bY (u:=bx (fun os=>ca al os o.1 (wH (ff o+1))) (kU (fun fi=>ca aV fi o.2.2.1 (fu (iy y.2.1 (ff o) (dj c 1)))) (nx,tk,pg,ps,os,pi,fi,rd,ou,()))) s5 hp hc (by rfl) (l1:=l++[eE 19 o.2.2.1 (ff o) (dj c 1)]++[eE 13 o.1 (ff o+1) 0]) (by rw [bc,bc];omega) (by rw [bc,bc];omega)
 . by_cases k3:bK o=3
   . rw [aaK k3]
     refine Gv.step (ab (di k3)) ?_;exact bY h.cT hp hc (by rfl) (by omega) (by omega)
   rw [aap k3,aap (by omega),aap (by omega),show ee aC (uM u) (ct o)=some y by rw [← ht];exact dP h.xP hy];show Gv _ (lG p c o y u) _ _;have hd:=(h.uw y hy).data;obtain ⟨i,hi,Ff,iU⟩:=bD h.xP hy;have cU:bp u.2.2.2.2.2.1 o.2.2.1=(i:Int):=by rw [show o.2.2.1=aC y from ht.symm];exact hi
   have s4:nth u.2.2.2.2.2.1 i=some y:=iU;unfold lG;refine Gv.step (ae (kf (o:=o) (by omega))) ?_;refine Gv.step (ae (kf (o:=o) (by omega))) ?_;refine Gv.step (ae (kf (o:=o) (by omega))) ?_;have hez:(ix u.2.2.2.2.1 o.2.2.1 3==0)= !mH (fK u) 3 (ct o):=CP (aa3 lU (by omega)) _ _;rw [hez];by_cases q2:mH (fK u) 3 (ct o)=false
   . rw [aaK q2]
     refine Gv.step (ab (by rw [q2];rfl)) ?_;exact bY h.cT hp hc (by rfl) (by omega) (by omega)
   rw [aap q2];refine Gv.step (ae (by rw [show mH (fK u) 3 (ct o)=true by simpa using q2];rfl)) ?_;rw [cU];simp only [aaH];refine Gv.step (ab (aaa (by omega))) ?_;refine Gv.step (aa s4) ?_;by_cases q:4≤y.2.1.length
   . rw [aaK q]
     refine Gv.step (ab (aaa (by omega))) ?_;refine Gv.step (aa (zj h hp h1 (by omega))) ?_;exact Gv.ret (by rw [bc,bc];omega)
   rw [aap q];refine Gv.step (ae (aae (by omega))) ?_;have hA:aN 0 tl (gE (fun pi=>ca aC pi (ct o) (fu (y.2.1++[dj c 1]))) u):=Inv.Li h (by rw [aao];show _+1≤4;omega) (tP hd.2 hw1);have hB:=lS hA (ct o);have Gr:p∈bu (fD (ct o) (gE (fun pi=>ca aC pi (ct o) (fu (y.2.1++[dj c 1]))) u)):=jU hA hp (by omega) _;have hrp:=h.xP;have Gs:=uN h;obtain ⟨l2,hv,VI⟩:=tJ hA (ct o) (l:=l++[eE 15 (ct o) (dj c 1) 0]) (by rw [bc];omega);rw [bc] at VI;obtain ⟨nx,tk,pg,ps,os,pi,fi,rd,ou,_⟩:=u;have d1:=eT (l:=l) (acC (nx:=nx) (tk:=tk) (pg:=pg) (ps:=ps) (os:=os) (fi:=fi) (rd:=rd) (ou:=ou) (b:=dj c 1) (c:=0) (l:=[]) hrp hy (aa3 Gs (by omega)) (by omega)) (by omega);rw [ht] at d1;refine Gv.step (aa rfl) ?_;refine Gv.step (aa d1) ?_;refine Gv.step (aa hv) ?_;exact bY hB.cT Gr hc (by rfl) (by omega) (by omega)
end
end
end Go.Proofs.YtohagdoklnkljaaGreat.Dm
