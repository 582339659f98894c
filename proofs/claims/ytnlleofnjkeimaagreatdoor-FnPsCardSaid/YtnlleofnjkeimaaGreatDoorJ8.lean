/- f -/
import Derived.Test.YtnlleofnjkeimaaGreatDoorJ5
import Derived.Test.YtnlleofnjkeimaaGreatDoorSo
import Derived.Test.YtnlleofnjkeimaaGreatDoorShelf
namespace Go.Proofs.YtnlleofnjkeimaaGreatDoor.Dm
open Go Go.ChangeShapes Go.WideShapes Go.ChangeAt Go.RowKit
section
variable {α δ σ β γ:Type}
theorem vz {f:σ→Out (Round σ β γ)} (a:List α) (p:α→Bool) (S:Nat→σ) {y:β} {z:γ} (hs:∀ i (hi:i<a.length),(f (S i)).eval=some (if p a[i]=true then .again (S (i+1)) else .ret z))
  (hy:(f (S a.length)).eval=some (.out y)) (ha:a.length≤aM):iter f bc (S 0)=some (if a.all p=true then .inl y else .inr z):=by
 rw [Ft (f:=f) a (λx=> !p x) S (y:=y) (z:=z) (λi hi=>by rw [hs i hi];cases p a[i]<;>rfl) hy ha];have e:(a.any λx=> !p x)= !a.all p:=by rw [ace];simp
 rw [e];cases a.all p<;>rfl
theorem jX {f:σ→Out (Round σ β γ)} (n:Nat) (p:Nat→Bool) (S:Nat→σ) {y:β} {z:γ} (hs:∀ i (_:i<n),(f (S i)).eval=some (if p i=true then .again (S (i+1)) else .ret z))
  (hy:(f (S n)).eval=some (.out y)) (hn:n≤aM):iter f bc (S 0)=some (if (List.range n).all p=true then .inl y else .inr z):=
 vz (f:=f) (List.range n) p S (λi hi=>by rw [List.getElem_range];exact hs i (by simpa using hi)) (by rw [List.length_range];exact hy) (by rw [List.length_range];exact hn)
def yQ (g:δ→α→Option δ):δ→List α→Option δ
 |d,[]=>some d
 |d,x::r=>match g d x with|none=>none|some d'=>yQ g d' r
theorem KN {f:σ→Out (Round σ β γ)} (a:List α) (g:δ→α→Option δ) (P:Nat→δ→Prop) (S:δ→Nat→σ) (y:δ→β) (z:γ) (hP:∀ i (_:i<a.length) d d',P i d→g d a[i]=some d'→P (i+1) d')
  (hs:∀ i (hi:i<a.length) d,P i d→(f (S d i)).eval=some (match g d a[i] with|none=> .ret z|some d'=> .again (S d' (i+1)))) (hy:∀ d,P a.length d→(f (S d a.length)).eval=some (.out (y d))) (ha:a.length≤aM) {d:δ} (h0:P 0 d):
  iter f bc (S d 0)=some (match yQ g d a with|none=> .inr z|some d'=> .inl (y d')):=by
 have key:∀ (m i:Nat) (d:δ) (n:Nat),i+m=a.length→m<n→P i d→iter f n (S d i)=some (match yQ g d (a.drop i) with|none=> .inr z|some d'=> .inl (y d')):=by
  intro m
  induction m with
  |zero=>
   intro i d n hi hn hp;obtain rfl:i=a.length:=by omega
   rw [kT (hy d hp) hn,List.drop_length];rfl
  |succ m ih=>
   intro i d n hi hn hp;have bS:i<a.length:=by omega
   have hq:=hs i bS d hp;rw [acr bS];simp only [yQ];cases e:g d a[i] with
   |none=>rw [e] at hq;rw [mK hq (by omega)]
   |some d'=>
    rw [e] at hq;obtain ⟨n,rfl⟩:∃ n',n=n'+1:=⟨n - 1,by omega⟩
    rw [jT hq,ih (i+1) _ n (by omega) (by omega) (hP i bS d d' hp e)]
 simpa using key a.length 0 d bc (by omega) (jx ha) h0
end
abbrev LO:=List (List az)×List af×List aj×List ag×List ag×List Int×List Int×Unit
def kJ (a:List Int) (x:Int):Bool:=a.any λy=>decide (y=x)
theorem oV {a:List Int} {x:Int}:kJ a x=true↔x∈a:=by simp [kJ]
abbrev iO:=ag
def fj {α:Type} (key:α→Int) (a:List α) (v:Int):Option Nat:=a.findIdx? λx=>key x==v
def cU {α:Type} (key:α→Int) (a:List α) (v:Int):Int:=sv (fj key a v)
def ao (x:af):Int:=x.1
def al (x:aj):Int:=x.1
def aB (x:iO):Int:=x.1
def aR (x:et):Int:=x.1
def ak (a:List af) (v:Int):Int:=cU ao a v
def aF (a:List aj) (v:Int):Int:=cU al a v
def ba (a:List iO) (v:Int):Int:=cU aB a v
def bj (a:List et) (v:Int):Int:=cU aR a v
def sX {α:Type} (key:α→Int) (ok:α→Bool) (a:List α) (i:Nat):Bool:=match a[i]? with
 |none=>true
 |some x=>ok x&&(match i with|0=>true|j+1=>match a[j]? with|none=>true|some z=>decide (key z<key x))
def eB {α:Type} (key:α→Int) (ok:α→Bool) (a:List α):Bool:=(List.range a.length).all (sX key ok a)
theorem ix {α:Type} {key:α→Int} {ok:α→Bool} {a:List α} (h:0<a.length):sX key ok a 0=ok a[0]:=by
 unfold sX;rw [aa2 h];simp
theorem gJ {α:Type} {key:α→Int} {ok:α→Bool} {a:List α} {i:Nat} (h:i+1<a.length):sX key ok a (i+1)=(ok a[i+1]&&decide (key a[i]<key a[i+1])):=by
 unfold sX;rw [aa2 h];simp only [aa2 (show i<a.length by omega)]
def aP (pc:Int) (yR:List Int):Bool:=mw pc&&decide (yR.length=4)&&aG yR
def fX (tick:Int) (os:List aj) (st:Int) (fds:List Int) (nM:Int):Bool:=
 if st=2 then decide (tick<nM) else if st=4∨st=5 then kJ fds nM&&decide (0≤aF os nM) else nM==0
def oi (os:List aj) (st:Int) (f:Int):Bool:=f== -1||(decide (0≤aF os f)&& !(st==6))
def bT (ps:List af) (pid par:Int):Bool:=par==0||(!(par==pid)&&match fj ao ps par with
 |none=>false
 |some i=>match ps[i]? with|none=>false|some q=> !(q.2.2.1==6))
def rS (par st:Int) (mem:List Int) (code:Int):Bool:=if st=6 then decide (mem.length=0)&& !(par==0) else decide (0<mem.length)&&code==0
def cV (tick:Int) (np:Nat) (ps:List af) (os:List aj) (pid par st pg pc:Int) (yR mem fds:List Int) (nM code:Int):Bool:=
 dh st 1 6&&(decide (0≤pg)&&decide (pg<(np:Int)))&&aP pc yR&&decide (mem.length≤12)&&decide (mem.length % 4=0)&&aG mem&&decide (fds.length=4)&&bV code
  &&fds.all (oi os st)&&bT ps pid par&&fX tick os st fds nM&&rS par st mem code
def nH (f id n:Int):Int:=if f=id then IntKind.i64.wrap (n+1) else n
def mO (ps:List af) (id:Int):Int:=ps.foldl (λn p=>p.2.2.2.2.2.2.1.foldl (λn f=>nH f id n) n) 0
def nI (bN:List iO) (files:List et) (kind target off:Int):Bool:=
 if kind=1 then target==0&&off==0 else if kind=2 then (match fj aR files target with
  |none=>false
  |some i=>match files[i]? with|none=>false|some x=>dh off 0 ((x.2.1.length:Nat):Int))
 else if kind=3∨kind=4 then decide (0≤ba bN target)&&off==0 else false
def fQ (ps:List af) (bN:List iO) (files:List et) (id kind target off refs:Int):Bool:=
 !(mO ps id==0)&&refs==mO ps id&&dh id 0 7&&nI bN files kind target off
def mq (k pipe:Int) (o:aj):Bool:=o.2.1==k&&o.2.2.1==pipe
def gZ (os:List aj) (pipe k:Int):Int:=os.foldl (λn o=>if mq k pipe o=true then IntKind.i64.wrap (n+1) else n) 0
def eD (pipe:Int) (o:aj):Bool:=mq 3 pipe o||mq 4 pipe o
def iH (os:List aj) (x:iO):Bool:=dh x.1 0 2&&decide (x.2.1.length≤4)&&aG x.2.1&&os.any (eD x.1)
def cO (a:List (List az)):Bool:=decide (1≤a.length)&&decide (a.length≤4)&&a.all bH
def mx (ps:List af):Int:=ps.foldl (λn p=>IntKind.i64.wrap (n+((p.2.2.2.2.2.1.length / 4:Nat):Int))) 0
def o9 (ps:List af):Int:=ps.foldl (λn p=>IntKind.i64.wrap (n+((p.2.2.2.2.2.1.length:Nat):Int))) 0
def ki (p:af):Bool:=p.2.2.1==1
def aH (ps:List af):List Int:=(ps.filter ki).map ao
def ln (ps:List af) (rd:List Int):Bool:=(aH ps).all (kJ rd)&&decide ((aH ps).length=rd.length)
def oX (tick:Int) (np:Nat) (ps:List af) (os:List aj) (p:af):Bool:=
 cV tick np ps os p.1 p.2.1 p.2.2.1 p.2.2.2.1 p.2.2.2.2.1.1 p.2.2.2.2.1.2.1 p.2.2.2.2.2.1 p.2.2.2.2.2.2.1 p.2.2.2.2.2.2.2.1 p.2.2.2.2.2.2.2.2.1
def ee (next tick:Int) (np:Nat) (ps:List af) (os:List aj) (p:af):Bool:=dh p.1 1 (IntKind.i64.wrap (next - 1))&&oX tick np ps os p
def jb (ps:List af) (bN:List iO) (files:List et) (o:aj):Bool:=fQ ps bN files o.1 o.2.1 o.2.2.1 o.2.2.2.1 o.2.2.2.2.1
def fP (ps:List af) (os:List aj) (bN:List iO) (files:List et):Bool:=
 decide (os.length≤8)&&decide (bN.length≤3)&&decide (files.length≤6)&&eB al (jb ps bN files) os&&eB aB (iH os) bN&&eB aR eF files
def b5 (next tick:Int) (dX:List (List az)) (ps:List af) (os:List aj) (bN:List iO) (files:List et) (rd out:List Int):Bool:=
 dh next 1 100000&&dh tick 0 1000000&&cO dX&&decide (out.length≤60)&&aG out&&decide (ps.length≤6)&&decide (mx ps≤16)
  &&eB ao (ee next tick dX.length ps os) ps&&fP ps os bN files&&ln ps rd
def lv (os:List aj) (bN:List iO):Bool:=decide (bN.length≤3)&&eB aB (iH os) bN
def gn (next tick:Int) (dX:List (List az)) (ps:List af) (os:List aj) (bN:List iO) (files:List et) (rd out:List Int):Bool:=
 dh next 1 100000&&dh tick 0 1000000&&dh ((dX.length:Nat):Int) 1 4&&decide (out.length≤60)&&aG out&&dX.all bH&&decide (ps.length≤6)&&decide (os.length≤8)
  &&eB ao (ee next tick dX.length ps os) ps&&eB al (jb ps bN files) os&&decide (o9 ps≤64)&&lv os bN&&fW files&&decide (jE rd=aH ps)
theorem lX:∀ {w r:List Int},w.Nodup→(∀ x∈w,x∈r)→w.length=r.length→w.Perm r
 |[],r,_,_,h=>by
  have:r=[]:=acp (by simpa using h.symm);subst this;exact List.Perm.nil
 |x::w,r,hn,hs,hl=>by
  have hx:x∈r:=hs x (by simp);have hp:=List.perm_cons_erase hx;rw [acu] at hn;refine List.Perm.trans (List.Perm.cons x ?_) hp.symm;refine lX hn.2 (λy hy=> ?_) ?_
  . have dV:y≠x:=λe=>hn.1 (e ▸ hy)
    exact (List.mem_erase_of_ne dV).2 (hs y (by simp [hy]))
  . rw [List.length_erase_of_mem hx]
    simp only [aby] at hl;omega
theorem NG (a:List Int):(jE a).Pairwise (· ≤ ·):=by
 have:=List.pairwise_mergeSort (le:=λ(x y:Int)=>decide (x≤y)) (λa b c h1 h2=>aaE (Int.le_trans (abJ h1) (abJ h2))) (λa b=>by
  rcases Int.le_total a b with h|h<;>simp [h]) a
 exact this.imp λh=>abJ h
theorem I5:∀ {a b:List Int},a.Pairwise (· < ·)→b.Pairwise (· < ·)→(∀ x,x∈a↔x∈b)→a=b
 |[],b,_,_,h=>by
  cases b with
  |nil=>rfl
  |cons y r=>exact absurd ((h y).2 (by simp)) (by simp)
 |x::a,[],_,_,h=>absurd ((h x).1 (by simp)) (by simp)
 |x::a,y::b,ha,hb,h=>by
  rw [adS] at ha hb;have hxy:x=y:=by
   have h1:x∈y::b:=(h x).1 (by simp);have h2:y∈x::a:=(h y).2 (by simp);rcases abF.1 h1 with e|h1
   . exact e
   . rcases abF.1 h2 with e|h2
     . exact e.symm
     . have:=hb.1 x h1;have:=ha.1 y h2;omega
  subst hxy;congr 1;refine I5 ha.2 hb.2 λz=> ?_;constructor
  . intro hz
    rcases abF.1 ((h z).1 (by simp [hz])) with e|q
    . have:=ha.1 z hz;omega
    . exact q
  . intro hz
    rcases abF.1 ((h z).2 (by simp [hz])) with e|q
    . have:=hb.1 z hz;omega
    . exact q
theorem KO {rd w:List Int} (hw:w.Pairwise (· < ·)):jE rd=w↔((∀ x∈w,x∈rd)∧w.length=rd.length):=by
 constructor
 . rintro rfl
   exact ⟨λx hx=>List.mem_mergeSort.1 hx,List.length_mergeSort _⟩
 . rintro ⟨h1,h2⟩
   have hn:w.Nodup:=hw.imp λh e=>by omega
   have hp:w.Perm rd:=lX hn h1 h2;have hq:(jE rd).Perm rd:=List.mergeSort_perm _ _;have Ud:(jE rd).Nodup:=(hq.trans hp.symm).nodup_iff.2 hn;refine I5 ?_ hw λx=>(hq.trans hp.symm).mem_iff;exact (List.pairwise_and_iff.2 ⟨NG rd,Ud⟩).imp λ⟨a,b⟩=>by omega
theorem jD {α:Type} {key:α→Int} {ok:α→Bool} {a:List α} (h:eB key ok a=true):a.all ok=true:=by
 unfold eB at h;rw [abD] at h ⊢;intro x hx;obtain ⟨i,hi,rfl⟩:=adf hx;have:=h i (List.mem_range.2 hi);cases i with
 |zero=>rw [ix hi] at this;exact this
 |succ i=>rw [gJ hi,aa4] at this;exact this.1
theorem Bw {α:Type} {key:α→Int} {ok:α→Bool} {a:List α} (h:eB key ok a=true):(a.map key).Pairwise (· < ·):=by
 unfold eB at h;rw [abD] at h;have h1:∀ i (hi:i+1<a.length),key a[i]<key a[i+1]:=λi hi=>by
  have:=h (i+1) (List.mem_range.2 hi);rw [gJ hi,aa4] at this;exact abJ this.2
 rw [List.pairwise_iff_getElem];have ahp:∀ (m i:Nat) (hi:i+m+1<a.length),key a[i]<key a[i+m+1]:=by
  intro m
  induction m with
  |zero=>intro i hi;exact h1 i hi
  |succ m ih=>intro i hi;exact Int.lt_trans (ih i (by omega)) (h1 (i+m+1) hi)
 intro i j hi hj Dr;simp only [acF] at hi hj;simp only [List.getElem_map];obtain ⟨m,rfl⟩:∃ m,j=i+m+1:=⟨j - i - 1,by omega⟩
 exact ahp m i hj
theorem oU {ok:af→Bool} {ps:List af} (h:eB ao ok ps=true):(aH ps).Pairwise (· < ·):=
 (Bw h).sublist (List.filter_sublist.map ao)
theorem Hz {ok:af→Bool} {ps:List af} {rd:List Int} (h:eB ao ok ps=true):decide (jE rd=aH ps)=ln ps rd:=by
 rw [ace,aco,KO (oU h)];unfold ln;rw [aa4,abD,aco];simp only [oV]
theorem wE:∀ (ps:List af) (n:Nat),(∀ p∈ps,p.2.2.2.2.2.1.length≤12∧p.2.2.2.2.2.1.length % 4=0)→n+12*ps.length≤1000→
  ∃ m:Nat,ps.foldl (λn (p:af)=>IntKind.i64.wrap (n+((p.2.2.2.2.2.1.length / 4:Nat):Int))) ((n:Nat):Int)=((m:Nat):Int)∧
    ps.foldl (λn (p:af)=>IntKind.i64.wrap (n+((p.2.2.2.2.2.1.length:Nat):Int))) ((4*n:Nat):Int)=((4*m:Nat):Int)
 |[],n,_,_=>⟨n,rfl,rfl⟩
 |p::r,n,h,hn=>by
  have hp:=h p (by simp);simp only [aby] at hn;obtain ⟨m,h1,h2⟩:=wE r (n+p.2.2.2.2.2.1.length / 4) (λq hq=>h q (by simp [hq])) (by omega);refine ⟨m, ?_, ?_⟩
  . rw [acn,jy (by omega) (by omega), ← h1];congr 1
  . rw [acn,jy (by omega) (by omega), ← h2];congr 1;omega
theorem HA {ps:List af} (h:∀ p∈ps,p.2.2.2.2.2.1.length≤12∧p.2.2.2.2.2.1.length % 4=0) (hl:ps.length≤6):decide (o9 ps≤64)=decide (mx ps≤16):=by
 obtain ⟨m,h1,h2⟩:=wE ps 0 h (by omega);unfold o9 mx;have h1':ps.foldl (λn (p:af)=>IntKind.i64.wrap (n+((p.2.2.2.2.2.1.length / 4:Nat):Int))) 0=((m:Nat):Int):=h1;have h2':ps.foldl (λn (p:af)=>IntKind.i64.wrap (n+((p.2.2.2.2.2.1.length:Nat):Int))) 0=((4*m:Nat):Int):=h2;rw [h1',h2',ace,aco,aco];omega
theorem AI (a:List et):fW a=(decide (a.length≤6)&&eB aR eF a):=by
 have e:gC a=sX aR eF a:=by
  funext i;unfold gC sX;cases a[i]? with
  |none=>rfl
  |some x=>
   cases i with
   |zero=>rfl
   |succ j=>cases h:a[j]? <;>simp only [h]<;>rfl
 unfold fW eB;rw [e]
theorem KP {next tick:Int} {np:Nat} {ps:List af} {os:List aj} (h:eB ao (ee next tick np ps os) ps=true):∀ p∈ps,p.2.2.2.2.2.1.length≤12∧p.2.2.2.2.2.1.length % 4=0:=λp hp=>by
 have:=abD.1 (jD h) p hp;unfold ee oX cV at this;simp only [aa4,abS] at this;exact ⟨this.2.1.1.1.1.1.1.1.1.2,this.2.1.1.1.1.1.1.1.2⟩
theorem vf (next tick:Int) (dX:List (List az)) (ps:List af) (os:List aj) (bN:List iO) (files:List et) (rd out:List Int):
  gn next tick dX ps os bN files rd out=b5 next tick dX ps os bN files rd out:=by
 unfold gn b5 fP lv cO;rw [AI];have e1:dh ((dX.length:Nat):Int) 1 4=(decide (1≤dX.length)&&decide (dX.length≤4)):=by
  unfold dh;congr 1<;>(rw [ace];simp;omega)
 rw [e1];by_cases hr:eB ao (ee next tick dX.length ps os) ps=true
 . by_cases hl:ps.length≤6
   . rw [HA (KP hr) hl,Hz hr,hr]
     simp only [afy]
     ac_rfl
   . simp [hl]
 . rw [Bool.eq_false_iff.2 hr]
   simp
theorem yS {α:Type} (p:α→Bool):∀ (a:List α) (n:Nat),n+a.length≤9223372036854775807→
  a.foldl (λ(n:Int) x=>if p x=true then IntKind.i64.wrap (n+1) else n) ((n:Nat):Int)=((n+a.countP p:Nat):Int)
 |[],n,_=>rfl
 |x::r,n,h=>by
  rw [aby] at h;rw [acn,List.countP_cons];cases hx:p x with
  |false=>
   rw [aa3 (by decide),yS p r n (by omega)];simp
  |true=>
   rw [aa5 rfl,jy (by omega) (by omega)];have:=yS p r (n+1) (by omega);rw [show ((n:Nat):Int)+1=((n+1:Nat):Int) by omega,this];simp only [ae4];omega
theorem qa {os:List aj} (h:os.length≤aM) (pipe k:Int):gZ os pipe k=((os.countP (mq k pipe):Nat):Int):=by
 have:=yS (mq k pipe) os 0 (by have:os.length≤9223372036854775807:=h;omega);unfold gZ;refine this.trans ?_;rw [acw]
theorem I6 {α:Type} {p q r:α→Bool} (h:∀ x,r x=(p x||q x)) (hd:∀ x,(p x&&q x)=false):∀ a:List α,a.countP p+a.countP q=a.countP r
 |[]=>rfl
 |x::l=>by
  have ih:=I6 h hd l;have h1:=h x;have h2:=hd x;rw [List.countP_cons,List.countP_cons,List.countP_cons];revert h1 h2;cases p x<;>cases q x<;>intro h1 h2
  . rw [h1];simp;omega
  . rw [h1];simp;omega
  . rw [h1];simp;omega
  . simp at h2
theorem xX {os:List aj} (h:os.length≤aM) (pipe:Int):(IntKind.i64.wrap (gZ os pipe 3+gZ os pipe 4)==0)= !os.any (eD pipe):=by
 have hb:os.length≤9223372036854775807:=h;have h2:=I6 (p:=mq 3 pipe) (q:=mq 4 pipe) (r:=eD pipe) (λ_=>rfl) (λx=>by
  unfold mq;by_cases q:x.2.1=3
  . simp [q]
  . simp [q]) os
 have h3:os.countP (eD pipe)≤os.length:=List.countP_le_length;rw [qa h,qa h,jy (by omega) (by omega)];rw [ace];simp only [acy,acJ,List.any_eq_false];have h4:os.countP (eD pipe)=0↔∀ x∈os,¬ eD pipe x=true:=List.countP_eq_zero;constructor
 . intro q;exact λx hx=>h4.1 (by omega) x hx
 . intro q
   have:=h4.2 q;omega
section
abbrev cE (p:af):Int:=p.2.2.1
abbrev gV (p:af):Int:=p.2.1
abbrev pPg (p:af):Int:=p.2.2.2.1
abbrev Db (p:af):ag:=p.2.2.2.2.1
abbrev cd (p:af):List Int:=p.2.2.2.2.2.1
abbrev aA (p:af):List Int:=p.2.2.2.2.2.2.1
abbrev oT (p:af):Int:=p.2.2.2.2.2.2.2.1
abbrev mL (p:af):Int:=p.2.2.2.2.2.2.2.2.1
abbrev bE (o:aj):Int:=o.2.1
abbrev cg (o:aj):Int:=o.2.2.1
abbrev eQ (o:aj):Int:=o.2.2.2.1
abbrev bG (o:aj):Int:=o.2.2.2.2.1
def mr (ps:List af) (id:Int):Nat:=(ps.map λp=>(aA p).count id).sum
def lS (ps:List af):Nat:=(ps.map λp=>(cd p).length).sum
structure wF (x:Int) (np:Nat) (p:af):Prop where
 st:1≤cE p∧cE p≤6
 pg:0≤pPg p∧pPg p<(np:Int)
 ku:aP (Db p).1 (Db p).2.1=true
 mem:(cd p).length≤12∧(cd p).length % 4=0∧aG (cd p)=true
 fds:(aA p).length=4
 code:bV (mL p)=true
 dead:cE p=6→cd p=[]∧gV p≠0∧∀ f∈aA p,f= -1
 live:cE p≠6→mL p=0∧(p.1≠x→0<(cd p).length)
 nM:cE p=1∨cE p=3∨cE p=6→oT p=0
structure NH (tl nx:Int) (ps:List af) (os:List aj) (p:af):Prop where
 pid:1≤p.1∧p.1<nx
 fds:∀ f∈aA p,f= -1∨∃ o∈os,o.1=f
 par:gV p=0∨(gV p≠p.1∧∃ q∈ps,q.1=gV p∧cE q≠6)
 QD:cE p=2→tl<oT p
 wt:cE p=4∨cE p=5→oT p∈aA p∧∃ o∈os,o.1=oT p
structure KQ (ps:List af) (pi fi:List ag) (o:aj):Prop where
 id:0≤o.1∧o.1≤7
 refs:bG o=(mr ps o.1:Nat)∧0<mr ps o.1
 kind:bE o=1∧cg o=0∧eQ o=0∨bE o=2∧(∃ f∈fi,f.1=cg o∧0≤eQ o∧eQ o≤(f.2.1.length:Nat))∨
  (bE o=3∨bE o=4)∧(∃ x∈pi,x.1=cg o)∧eQ o=0
structure Fu (os:List aj) (x:ag):Prop where
 id:0≤x.1∧x.1≤2
 data:x.2.1.length≤4∧aG x.2.1=true
 ends:∃ o∈os,(bE o=3∨bE o=4)∧cg o=x.1
def bO {α:Type} (key:α→Int) (a:List α):Prop:=(a.map key).Pairwise (· < ·)
structure Inv (x tl nx tk:Int) (pg:List (List az)) (ps:List af) (os:List aj) (pi fi:List ag) (rd ou:List Int):Prop where
 Es:1≤nx∧nx≤100000
 AG:0≤tk∧tk≤1000000
 Bk:cO pg=true
 Di:ou.length≤60∧aG ou=true
 np:ps.length≤6
 G3:lS ps≤64
 cF:bO ao ps
 loc:∀ p∈ps,wF x pg.length p
 ctx:∀ p∈ps,NH tl nx ps os p
 ow:bO al os
 op:∀ o∈os,KQ ps pi fi o
 wu:bO aB pi
 rf:∀ x∈pi,Fu os x
 xV:bO aR fi
 Er:∀ f∈fi,eF f=true
 Et:rd.Perm (aH ps)
theorem bO.nodup {α:Type} {key:α→Int} {a:List α} (h:bO key a):(a.map key).Nodup:=h.imp λh e=>by omega
theorem bO.inj {α:Type} {key:α→Int} {a:List α} (h:bO key a) {x y:α} (hx:x∈a) (hy:y∈a) (e:key x=key y):x=y:=by
 have hn:=h.nodup;obtain ⟨i,hi,rfl⟩:=adf hx;obtain ⟨j,hj,rfl⟩:=adf hy;have:i=j:=by
  rcases Nat.lt_trichotomy i j with q|q|q
  . have:=List.pairwise_iff_getElem.1 hn i j (by simpa using hi) (by simpa using hj) q
    simp [e] at this
  . exact q
  . have:=List.pairwise_iff_getElem.1 hn j i (by simpa using hj) (by simpa using hi) q
    simp [e] at this
 subst this;rfl
theorem fh {x a b:Int}:dh x a b=true↔a≤x∧x≤b:=by simp [dh]
theorem nN {α:Type} {key:α→Int} {a:List α} {v:Int} (h:bO key a) {x:α} (hx:x∈a) (hk:key x=v):∃ i,fj key a v=some i∧i<a.length∧a[i]? =some x:=by
 unfold fj;cases hi:a.findIdx? (λx=>key x==v) with
 |none=>
  rw [adz] at hi;have:=hi x hx;simp [hk] at this
 |some i=>
  obtain ⟨h1,h2,_⟩:=acD.1 hi;refine ⟨i,rfl,h1, ?_⟩;rw [aa2 h1];congr 1;exact h.inj (acb h1) hx (by rw [hk];simpa using h2)
theorem ll {α:Type} {key:α→Int} {a:List α} {v:Int} (h:∀ x∈a,key x≠v):fj key a v=none:=by
 unfold fj;rw [adz];intro x hx;simpa using h x hx
theorem pb {α:Type} {key:α→Int} {a:List α} {v:Int}:0≤cU key a v↔∃ x∈a,key x=v:=by
 have:=j4 a λx=>key x==v;unfold cU fj;constructor
 . intro h
   rw [aaE h] at this;obtain ⟨x,hx,hk⟩:=List.any_eq_true.1 this.symm;exact ⟨x,hx,by simpa using hk⟩
 . intro ⟨x,hx,hk⟩
   rw [List.any_eq_true.2 ⟨x,hx,by simpa using hk⟩] at this;exact abJ this
theorem rT (id:Int):∀ (l:List Int) (n:Nat),n+l.length≤aM→l.foldl (λn f=>nH f id n) ((n:Nat):Int)=((n+l.count id:Nat):Int)
 |[],n,_=>rfl
 |f::r,n,h=>by
  rw [aby] at h;have hB:aM=9223372036854775807:=rfl;rw [acn,List.count_cons];unfold nH;by_cases e:f=id
  . have h2:((n:Nat):Int)+1=((n+1:Nat):Int):=by omega
    have hb:n+1≤9223372036854775807:=by omega
    rw [aa5 e,jy (by omega) (by omega),h2];have:=rT id r (n+1) (by omega);unfold nH at this;rw [this];simp [e];omega
  . rw [aa3 e]
    have:=rT id r n (by omega);unfold nH at this;rw [this];simp [e]
theorem KR (ps:List af) (id:Int) (h4:∀ p∈ps,(aA p).length≤4) (hl:ps.length≤6):mO ps id=((mr ps id:Nat):Int):=by
 have key:∀ (ps:List af) (n:Nat),(∀ p∈ps,(aA p).length≤4)→n+4*ps.length≤1000→ps.foldl (λn (p:af)=>p.2.2.2.2.2.2.1.foldl (λn f=>nH f id n) n) ((n:Nat):Int)=((n+mr ps id:Nat):Int):=by
  intro ps
  induction ps with
  |nil=>intro n _ _;rfl
  |cons p r ih=>
   intro n h h2;have h1:=h p (by simp);have h1':p.2.2.2.2.2.2.1.length≤4:=h1;rw [aby] at h2;have hB:aM=9223372036854775807:=rfl;rw [acn,rT id _ n (by omega)];have hc:(aA p).count id≤(aA p).length:=List.count_le_length;have UZ:p.2.2.2.2.2.2.1.count id≤p.2.2.2.2.2.2.1.length:=hc;rw [ih (n+p.2.2.2.2.2.2.1.count id) (λq hq=>h q (by simp [hq])) (by omega)];have e:mr (p::r) id=p.2.2.2.2.2.2.1.count id+mr r id:=by simp [mr]
   rw [e,Nat.add_assoc]
 have:=key ps 0 h4 (by omega);unfold mO;refine this.trans ?_;rw [acw]
theorem vA (ps:List af) (h:∀ p∈ps,(cd p).length≤12∧(cd p).length % 4=0) (hl:ps.length≤6):∃ m:Nat,mx ps=(m:Int)∧lS ps=4*m:=by
 have key:∀ (ps:List af) (n:Nat),(∀ p∈ps,(cd p).length≤12∧(cd p).length % 4=0)→n+12*ps.length≤1000→
   ∃ m:Nat,ps.foldl (λn (p:af)=>IntKind.i64.wrap (n+((p.2.2.2.2.2.1.length / 4:Nat):Int))) ((n:Nat):Int)=((m:Nat):Int)∧4*n+lS ps=4*m:=by
  intro ps
  induction ps with
  |nil=>intro n _ _;exact ⟨n,rfl,by simp [lS]⟩
  |cons p r ih=>
   intro n h h2;have h1:p.2.2.2.2.2.1.length≤12∧p.2.2.2.2.2.1.length % 4=0:=h p (by simp);rw [aby] at h2;obtain ⟨m,e1,e2⟩:=ih (n+p.2.2.2.2.2.1.length / 4) (λq hq=>h q (by simp [hq])) (by omega);refine ⟨m, ?_, ?_⟩
   . rw [acn,jy (by omega) (by omega), ← e1];congr 1
   . have:lS (p::r)=p.2.2.2.2.2.1.length+lS r:=by simp [lS]
     omega
 obtain ⟨m,h1,h2⟩:=key ps 0 h (by omega);exact ⟨m,h1,by omega⟩
theorem Fv {tk:Int} {os:List aj} {st:Int} {fds:List Int} {nM:Int}:fX tk os st fds nM=true↔(st=2→tk<nM)∧(st=4∨st=5→nM∈fds∧∃ o∈os,o.1=nM)∧(st≠2→¬ (st=4∨st=5)→nM=0):=by
 unfold fX;by_cases h2:st=2
 . subst h2;simp
 . rw [aa3 h2]
   by_cases h4:st=4∨st=5
   . rw [aa5 h4,aa4,oV,aco]
     unfold aF;rw [pb];exact ⟨λh=>⟨λe=>absurd e h2,λ_=>h,λ_ e=>absurd h4 e⟩,λh=>h.2.1 h4⟩
   . rw [aa3 h4,acy]
     exact ⟨λh=>⟨λe=>absurd e h2,λe=>absurd e h4,λ_ _=>h⟩,λh=>h.2.2 h2 h4⟩
theorem KS {ps:List af} {pid par:Int} (h:bO ao ps):bT ps pid par=true↔par=0∨(par≠pid∧∃ q∈ps,q.1=par∧cE q≠6):=by
 unfold bT;rw [acQ,acy,aa4];refine or_congr Iff.rfl (and_congr (by simp) ?_);by_cases hq:∃ q∈ps,q.1=par
 . obtain ⟨q,hq,hk⟩:=hq
   obtain ⟨i,h1,h2,h3⟩:=nN h hq hk;simp only [h1,h3];constructor
   . intro e;exact ⟨q,hq,hk,by simpa using e⟩
   . intro ⟨q',hq',kH,hs⟩
     obtain rfl:q'=q:=h.inj hq' hq (kH.trans hk.symm);simpa using hs
 . rw [ll (key:=ao) (λx hx e=>hq ⟨x,hx,e⟩)]
   constructor
   . intro e;cases e
   . intro ⟨q,h1,h2,_⟩;exact absurd ⟨q,h1,h2⟩ hq
theorem HB {pi fi:List ag} {k t f:Int} (h:bO aR fi):nI pi fi k t f=true↔k=1∧t=0∧f=0∨k=2∧(∃ x∈fi,x.1=t∧0≤f∧f≤(x.2.1.length:Nat))∨(k=3∨k=4)∧(∃ x∈pi,x.1=t)∧f=0:=by
 unfold nI;by_cases h1:k=1
 . subst h1;simp
 . rw [aa3 h1]
   by_cases h2:k=2
   . subst h2
     rw [aa5 rfl];have e:∀ P Q R:Prop,((2:Int)=1∧P∨(2:Int)=2∧Q∨((2:Int)=3∨(2:Int)=4)∧R)↔Q:=λP Q R=>by simp
     rw [e];by_cases hq:∃ x∈fi,x.1=t
     . obtain ⟨x,hx,hk⟩:=hq
       obtain ⟨i,a1,a2,a3⟩:=nN h hx hk;simp only [a1,a3,fh];constructor
       . intro q;exact ⟨x,hx,hk,q⟩
       . intro ⟨x',qZ,kH,q⟩
         obtain rfl:x'=x:=h.inj qZ hx (kH.trans hk.symm);exact q
     . rw [ll (key:=aR) (λx hx e=>hq ⟨x,hx,e⟩)]
       constructor
       . intro q;cases q
       . intro ⟨x,a1,a2,_⟩;exact absurd ⟨x,a1,a2⟩ hq
   . rw [aa3 h2]
     by_cases h3:k=3∨k=4
     . rw [aa5 h3,aa4,aco,acy]
       unfold ba;rw [pb];refine ⟨λq=> .inr (.inr ⟨h3,q⟩),λq=> ?_⟩;rcases q with ⟨e,_⟩|⟨e,_⟩|⟨_,q⟩
       . exact absurd e h1
       . exact absurd e h2
       . exact q
     . rw [aa3 h3]
       refine ⟨λq=>(by cases q),λq=> ?_⟩;rcases q with ⟨e,_⟩|⟨e,_⟩|⟨e,_⟩
       . exact absurd e h1
       . exact absurd e h2
       . exact absurd e h3
theorem NI {os:List aj} {st f:Int}:oi os st f=true↔f= -1∨((∃ o∈os,o.1=f)∧st≠6):=by
 unfold oi aF;rw [acQ,acy,aa4,aco,pb,acJ,beq_eq_false_iff_ne];exact Iff.rfl
theorem NJ {α:Type} {key:α→Int} {ok:α→Bool} {a:List α}:eB key ok a=true↔bO key a∧∀ x∈a,ok x=true:=by
 constructor
 . intro h;exact ⟨Bw h,abD.1 (jD h)⟩
 . intro ⟨h1,h2⟩
   unfold eB;rw [abD];intro i hi;have hi:=List.mem_range.1 hi;cases i with
   |zero=>rw [ix hi];exact h2 _ (acb hi)
   |succ i=>
    rw [gJ hi,aa4];refine ⟨h2 _ (acb hi),aaE ?_⟩;have:=List.pairwise_iff_getElem.1 h1 i (i+1) (by simp;omega) (by simpa using hi) (by omega);simpa using this
end
section
theorem Fw {α:Type} {key:α→Int} (hi:Int):∀ {a:List α} {lo:Int},bO key a→(∀ x∈a,lo≤key x∧key x≤hi)→lo≤hi+1→(a.length:Int)≤hi+1 - lo
 |[],lo,_,_,h=>by simp;omega
 |x::r,lo,h,hb,hl=>by
  have h':(key x::r.map key).Pairwise (· < ·):=h;rw [adS] at h';have h1:=hb x (by simp);have:=Fw (key:=key) hi (a:=r) (lo:=key x+1) h'.2 (λy hy=>⟨by have:=h'.1 (key y) (adN hy);omega,(hb y (by simp [hy])).2⟩) (by omega);rw [aby];omega
theorem kS {α:Type} {key:α→Int} {a:List α} (hi:Nat) (h:bO key a) (hb:∀ x∈a,0≤key x∧key x≤(hi:Int)):a.length≤hi+1:=by
 have:=Fw (key:=key) hi (lo:=0) h hb (by omega);omega
theorem Fx {nx tk:Int} {np:Nat} {ps:List af} {os:List aj} {p:af} (h:bO ao ps) (hn:1≤nx∧nx≤100000):ee nx tk np ps os p=true↔wF 0 np p∧NH tk nx ps os p:=by
 have hw:IntKind.i64.wrap (nx - 1)=nx - 1:=b7 (by omega) (by omega);unfold ee oX cV;simp only [aa4,fh,abS,abD,NI,KS h,Fv,hw];unfold rS;constructor
 . intro ⟨ahr,⟨⟨⟨⟨⟨⟨⟨⟨⟨⟨⟨h1,h2⟩,h3⟩,h4⟩,h5⟩,h6⟩,h7⟩,h8⟩,h9⟩,RR⟩,RS⟩,LS⟩⟩
   refine ⟨⟨h1,h2,h3,⟨h4,h5,h6⟩,h7,h8,λe=> ?_,λe=> ?_,λe=>RS.2.2 ?_ ?_⟩,⟨⟨ahr.1,by omega⟩,λf hf=> ?_,RR,RS.1,RS.2.1⟩⟩
   . have e':p.2.2.1=6:=e
     rw [aa5 e',aa4,aco] at LS;refine ⟨acp LS.1,by simpa using LS.2,λf hf=> ?_⟩;rcases h9 f hf with q|⟨_,q⟩
     . exact q
     . exact absurd e' q
   . have e':¬ p.2.2.1=6:=e
     rw [aa3 e',aa4,aco] at LS;exact ⟨by simpa using LS.2,λ_=>LS.1⟩
   . rcases e with e|e|e<;>(have e':p.2.2.1=_:=e;omega)
   . rcases e with e|e|e<;>(have e':p.2.2.1=_:=e;omega)
   . rcases h9 f hf with q|⟨q,_⟩
     . exact .inl q
     . exact .inr q
 . intro ⟨hl,hc⟩
   have hlu:=hl.nM;refine ⟨⟨hc.pid.1,by have:=hc.pid.2;omega⟩,⟨⟨⟨⟨⟨⟨⟨⟨⟨⟨⟨hl.st,hl.pg⟩,hl.ku⟩,hl.mem.1⟩,hl.mem.2.1⟩,hl.mem.2.2⟩,hl.fds⟩,hl.code⟩,λf hf=> ?_⟩,hc.par⟩,hc.QD,hc.wt,λe1 e2=>hlu ?_⟩, ?_⟩⟩
   . by_cases e:f= -1
     . exact .inl e
     . refine .inr ⟨(hc.fds f hf).resolve_left e,λe6=>e ((hl.dead e6).2.2 f hf)⟩
   . have:=hl.st
     have e1':cE p≠2:=e1;have e2':¬ (cE p=4∨cE p=5):=e2;omega
   . by_cases e:p.2.2.1=6
     . rw [aa5 e,aa4,aco]
       have:=hl.dead e;exact ⟨by rw [show p.2.2.2.2.2.1=[] from this.1];rfl,by simpa using this.2.1⟩
     . rw [aa3 e,aa4,aco]
       have:=hl.live e;exact ⟨this.2 (by have:=hc.pid.1;omega),by simpa using this.1⟩
theorem Fy {ps:List af} {pi fi:List ag} {o:aj} (h:bO aR fi) (h4:∀ p∈ps,(aA p).length≤4) (hl:ps.length≤6):jb ps pi fi o=true↔KQ ps pi fi o:=by
 unfold jb fQ;rw [KR ps _ h4 hl];simp only [aa4,fh,HB h,acJ,beq_eq_false_iff_ne,acy];constructor
 . intro ⟨⟨⟨h1,h2⟩,h3⟩,h5⟩
   exact ⟨h3,⟨h2,by omega⟩,h5⟩
 . intro ⟨h3,⟨h2,h1⟩,h5⟩
   exact ⟨⟨⟨by omega,h2⟩,h3⟩,h5⟩
theorem FA {os:List aj} {x:ag}:iH os x=true↔Fu os x:=by
 unfold iH;simp only [aa4,fh,abS,List.any_eq_true,eD,mq,acQ,acy];constructor
 . intro ⟨⟨⟨h1,h2⟩,h3⟩,o,ho,h4⟩
   exact ⟨h1,⟨h2,h3⟩,o,ho,by rcases h4 with ⟨a,b⟩|⟨a,b⟩<;>exact ⟨by simp [a],b⟩⟩
 . intro ⟨h1,⟨h2,h3⟩,o,ho,h4,h5⟩
   exact ⟨⟨⟨h1,h2⟩,h3⟩,o,ho,by rcases h4 with a|a<;>simp [a,h5]⟩
theorem Bx {ps:List af} {rd:List Int} (h:bO ao ps):ln ps rd=true↔rd.Perm (aH ps):=by
 have hn:(aH ps).Nodup:=((show (ps.map ao).Nodup from h.nodup).sublist (List.filter_sublist.map ao))
 unfold ln;rw [aa4,abD,aco];constructor
 . intro ⟨h1,h2⟩
   exact (lX hn (λx hx=>oV.1 (h1 x hx)) h2).symm
 . intro q
   exact ⟨λx hx=>oV.2 (q.mem_iff.2 hx),q.length_eq.symm⟩
theorem Hk {nx tk:Int} {pg:List (List az)} {ps:List af} {os:List aj} {pi fi:List ag} {rd ou:List Int}:b5 nx tk pg ps os pi fi rd ou=true↔Inv 0 tk nx tk pg ps os pi fi rd ou:=by
 unfold b5 fP;simp only [aa4,fh,abS,NJ];constructor
 . intro ⟨⟨⟨⟨⟨⟨⟨⟨⟨h1,h2⟩,h3⟩,h4⟩,h5⟩,h6⟩,h7⟩,⟨h8,h9⟩⟩,⟨⟨⟨⟨⟨RR,RS⟩,LS⟩,⟨Ym,h14⟩⟩,⟨h15,h16⟩⟩,⟨h17,h18⟩⟩⟩,h19⟩
   have hp:∀ p∈ps,wF 0 pg.length p∧NH tk nx ps os p:=λp hp=>(Fx h8 h1).1 (h9 p hp);have h44:∀ p∈ps,(aA p).length≤4:=λp q=>by have:=(hp p q).1.fds;omega
   obtain ⟨m,hm,ht⟩:=vA ps (λp q=>⟨(hp p q).1.mem.1,(hp p q).1.mem.2.1⟩) h6;exact ⟨h1,h2,h3,⟨h4,h5⟩,h6,by omega,h8,λp q=>(hp p q).1,λp q=>(hp p q).2,Ym,λo ho=>(Fy h17 h44 h6).1 (h14 o ho),h15,λx hx=>FA.1 (h16 x hx),h17,h18,(Bx h8).1 h19⟩
 . intro h
   have h44:∀ p∈ps,(aA p).length≤4:=λp q=>by have:=(h.loc p q).fds;omega
   obtain ⟨m,hm,ht⟩:=vA ps (λp q=>⟨(h.loc p q).mem.1,(h.loc p q).mem.2.1⟩) h.np;have G3:=h.G3;refine ⟨⟨⟨⟨⟨⟨⟨⟨⟨h.Es,h.AG⟩,h.Bk⟩,h.Di.1⟩,h.Di.2⟩,h.np⟩,by omega⟩,⟨h.cF,λp q=>(Fx h.cF h.Es).2 ⟨h.loc p q,h.ctx p q⟩⟩⟩,⟨⟨⟨⟨⟨?_, ?_⟩, ?_⟩,⟨h.ow,λo ho=>(Fy h.xV h44 h.np).2 (h.op o ho)⟩⟩,⟨h.wu,λx hx=>FA.2 (h.rf x hx)⟩⟩,⟨h.xV,h.Er⟩⟩⟩,(Bx h.cF).2 h.Et⟩
   . exact kS 7 h.ow λo ho=>(h.op o ho).id
   . exact kS 2 h.wu λx hx=>(h.rf x hx).id
   . exact kS 5 h.xV λx hx=>by have:=h.Er x hx;unfold eF at this;rw [aa4,fh] at this;exact this.1
def bW {α:Type} (key:α→Int) (a:List α) (v:Int) (f:α→α):List α:=a.map λx=>if key x=v then f x else x
theorem pY {α:Type} {key:α→Int} {v:Int} {f:α→α}:∀ {a:List α},(∀ x∈a,key x≠v)→bW key a v f=a
 |[],_=>rfl
 |x::r,h=>by
  have:=pY (f:=f) λy hy=>h y (afm x hy);unfold bW at this ⊢;rw [acd,this,aa3 (h x (by simp))]
theorem gK {α:Type} {key:α→Int} {a:List α} {p:α} (h:bO key a) (hp:p∈a):∃ l1 l2,a=l1++p::l2∧(∀ x∈l1,key x<key p)∧(∀ x∈l2,key p<key x)∧(∀ f,bW key a (key p) f=l1++f p::l2)∧a.filter (λx=>key x != key p)=l1++l2:=by
 obtain ⟨l1,l2,rfl⟩:=List.append_of_mem hp;have h':(l1.map key++key p::l2.map key).Pairwise (· < ·):=by simpa [bO] using h
 rw [List.pairwise_append,adS] at h';have h1:∀ x∈l1,key x<key p:=λx hx=>h'.2.2 (key x) (adN hx) (key p) (by simp);have h2:∀ x∈l2,key p<key x:=λx hx=>h'.2.1.1 (key x) (adN hx);refine ⟨l1,l2,rfl,h1,h2,λf=> ?_, ?_⟩
 . have e1:=pY (key:=key) (v:=key p) (f:=f) (a:=l1) λx hx=>by have:=h1 x hx;omega
   have e2:=pY (key:=key) (v:=key p) (f:=f) (a:=l2) λx hx=>by have:=h2 x hx;omega
   unfold bW at e1 e2 ⊢;rw [afz,acd,e1,e2,aa5 rfl]
 . rw [List.filter_append,acS]
   simp only [bne_self_eq_false,acs,if_false];rw [List.filter_eq_self.2,List.filter_eq_self.2]
   . intro x hx;have:=h2 x hx;simp;omega
   . intro x hx;have:=h1 x hx;simp;omega
theorem fl {α:Type} {key:α→Int} {a:List α} {p:α} {i:Nat} (h:bO key a) (hi:a[i]? =some p) (y:α) {f:α→α} (hf:f p=y):a.set i y=bW key a (key p) f:=by
 have bS:i<a.length:=(List.getElem?_eq_some_iff.1 hi).1;apply acB;intro j;unfold bW;rw [List.getElem?_set,afj];by_cases e:i=j
 . subst e
   rw [aa5 rfl,aa5 bS,hi];simp [hf]
 . rw [aa3 e]
   cases q:a[j]? with
   |none=>rfl
   |some z=>
    have dV:key z≠key p:=λhk=>by
     have hj:j<a.length:=(List.getElem?_eq_some_iff.1 q).1;have hn:=h.nodup;rcases Nat.lt_or_gt_of_ne e with q'|q'
     . have:=List.pairwise_iff_getElem.1 hn i j (by simpa using bS) (by simpa using hj) q'
       rw [aa2 bS] at hi;rw [aa2 hj] at q;simp [aa6 hi,aa6 q,hk] at this
     . have:=List.pairwise_iff_getElem.1 hn j i (by simpa using hj) (by simpa using bS) q'
       rw [aa2 bS] at hi;rw [aa2 hj] at q;simp [aa6 hi,aa6 q,hk] at this
    simp [dV]
theorem fT {α:Type} {key:α→Int} {a:List α} {v:Int} {f:α→α} {y:α}:y∈bW key a v f↔∃ x∈a,(if key x=v then f x else x)=y:=by
 unfold bW;rw [List.mem_map]
theorem dB {α:Type} {key:α→Int} {a:List α} {v:Int} {f:α→α} (h:bO key a) (hf:∀ x∈a,key x=v→key (f x)=key x):bO key (bW key a v f):=by
 have e:(bW key a v f).map key=a.map key:=by
  unfold bW;rw [List.map_map];apply ac7;intro x hx;by_cases q:key x=v
  . simp [q,hf x hx q]
  . simp [q]
 unfold bO;rw [e];exact h
theorem jf {α:Type} {key:α→Int} {a:List α} {v:Int} {f:α→α}:(bW key a v f).length=a.length:=by simp [bW]
theorem lx (a b:List af) (id:Int):mr (a++b) id=mr a id+mr b id:=by simp [mr]
theorem mI (p:af) (a:List af) (id:Int):mr (p::a) id=(aA p).count id+mr a id:=by simp [mr]
theorem jY (a b:List af):lS (a++b)=lS a+lS b:=by simp [lS]
theorem mT (p:af) (a:List af):lS (p::a)=(cd p).length+lS a:=by simp [lS]
theorem fY (a b:List af):aH (a++b)=aH a++aH b:=by simp [aH]
theorem lZ (p:af) (a:List af):aH (p::a)=if cE p=1 then p.1::aH a else aH a:=by
 unfold aH ki;rw [acS];by_cases h:cE p=1
 . have h':p.2.2.1=1:=h
   simp [h',ao]
 . have h':¬ p.2.2.1=1:=h
   simp [h']
theorem MM {ps:List af} {v:Int}:v∈aH ps↔∃ p∈ps,p.1=v∧cE p=1:=by
 unfold aH ki ao;rw [List.mem_map];constructor
 . intro ⟨p,hp,e⟩
   rw [List.mem_filter] at hp;exact ⟨p,hp.1,e,by simpa using hp.2⟩
 . intro ⟨p,hp,e,h⟩
   exact ⟨p,List.mem_filter.2 ⟨hp,by simpa using h⟩,e⟩
theorem I7 {ps:List af} {id:Int}:0<mr ps id↔∃ p∈ps,id∈aA p:=by
 induction ps with
 |nil=>simp [mr]
 |cons p r ih=>
  rw [mI];constructor
  . intro h
    by_cases q:id∈aA p
    . exact ⟨p,by simp,q⟩
    . rw [List.count_eq_zero.2 q] at h
      obtain ⟨p',h1,h2⟩:=ih.1 (by omega);exact ⟨p',by simp [h1],h2⟩
  . intro ⟨p',h1,h2⟩
    rcases abF.1 h1 with rfl|h1
    . have:=List.count_pos_iff.2 h2;omega
    . have:=ih.2 ⟨p',h1,h2⟩;omega
end
section
def GW (v:Int) (p:af):af:=(p.1,v,p.2.2)
def lU (s u:Int) (p:af):af:=(p.1,p.2.1,s,p.2.2.2.1,p.2.2.2.2.1,p.2.2.2.2.2.1,p.2.2.2.2.2.2.1,u,p.2.2.2.2.2.2.2.2)
def oA (c:ag) (p:af):af:=(p.1,p.2.1,p.2.2.1,p.2.2.2.1,c,p.2.2.2.2.2)
def kg (m:List Int) (p:af):af:=(p.1,p.2.1,p.2.2.1,p.2.2.2.1,p.2.2.2.2.1,m,p.2.2.2.2.2.2)
def b9 (l:List Int) (p:af):af:=(p.1,p.2.1,p.2.2.1,p.2.2.2.1,p.2.2.2.2.1,p.2.2.2.2.2.1,l,p.2.2.2.2.2.2.2)
def fM (c:Int) (p:af):af:=(p.1,p.2.1,p.2.2.1,p.2.2.2.1,p.2.2.2.2.1,p.2.2.2.2.2.1,p.2.2.2.2.2.2.1,p.2.2.2.2.2.2.2.1,c,())
def og (b:Int) (p:af):af:=(p.1,p.2.1,p.2.2.1,b,p.2.2.2.2.1,[0,0,0,0],p.2.2.2.2.2.2)
abbrev bM (ps:List af) (v:Int) (f:af→af):=bW ao ps v f
variable {x x' tl nx tk:Int} {pg:List (List az)} {ps:List af} {os:List aj} {pi fi:List ag} {rd Yn ou:List Int} {p p':af} {f:af→af}
theorem aW (h:bO ao ps) (hp:p∈ps) {q:af}:q∈bM ps p.1 f↔q=f p∨(q∈ps∧q.1≠p.1):=by
 rw [fT];constructor
 . intro ⟨y,hy,e⟩
   by_cases k:ao y=p.1
   . obtain rfl:y=p:=h.inj hy hp k
     rw [aa5 k] at e;exact .inl e.symm
   . rw [aa3 k] at e
     subst e;exact .inr ⟨hy,k⟩
 . rintro (rfl|⟨hq,k⟩)
   . exact ⟨p,hp,aa5 rfl⟩
   . exact ⟨q,hq,aa3 k⟩
theorem I8 (h:bO ao ps) (hp:p∈ps) (id:Int):mr (bM ps p.1 f) id+(aA p).count id=mr ps id+(aA (f p)).count id:=by
 obtain ⟨l1,l2,e,_,_,hu,_⟩:=gK h hp;have yT:bM ps p.1 f=l1++f p::l2:=hu f;rw [yT,e,lx,lx,mI,mI];omega
theorem I9 (h:bO ao ps) (hp:p∈ps):lS (bM ps p.1 f)+(cd p).length=lS ps+(cd (f p)).length:=by
 obtain ⟨l1,l2,e,_,_,hu,_⟩:=gK h hp;have yT:bM ps p.1 f=l1++f p::l2:=hu f;rw [yT,e,jY,jY,mT,mT];omega
theorem Ds (h:bO ao ps) (hp:p∈ps) (hk:(f p).1=p.1) (hs:cE (f p)=1↔cE p=1):aH (bM ps p.1 f)=aH ps:=by
 obtain ⟨l1,l2,e,_,_,hu,_⟩:=gK h hp;have yT:bM ps p.1 f=l1++f p::l2:=hu f;rw [yT,e,fY,fY,lZ,lZ,hk];by_cases q:cE p=1
 . rw [aa5 q,aa5 (hs.2 q)]
 . rw [aa3 q,aa3 λq'=>q (hs.1 q')]
theorem Yo (h:bO ao ps) (hp:p∈ps) (hs:cE (f p)≠1) (h1:cE p=1):(aH ps).Perm (p.1::aH (bM ps p.1 f)):=by
 obtain ⟨l1,l2,e,_,_,hu,_⟩:=gK h hp;have yT:bM ps p.1 f=l1++f p::l2:=hu f;rw [yT,e,fY,fY,lZ,lZ,aa5 h1,aa3 hs];exact List.perm_middle
theorem ad7 (h:bO ao ps) (hp:p∈ps) (hk:(f p).1=p.1) (hs:cE (f p)=1) (h1:cE p≠1):(aH (bM ps p.1 f)).Perm (p.1::aH ps):=by
 obtain ⟨l1,l2,e,_,_,hu,_⟩:=gK h hp;have yT:bM ps p.1 f=l1++f p::l2:=hu f;rw [yT,e,fY,fY,lZ,lZ,aa5 hs,aa3 h1,hk];exact List.perm_middle
theorem KQ.mono {ps':List af} {pi' GN:List ag} {o:aj} (h:KQ ps pi fi o) (hc:mr ps' o.1=mr ps o.1) (rf:∀ x∈pi,bE o=3∨bE o=4→x.1=cg o→∃ x'∈pi',x'.1=x.1) (Er:∀ y∈fi,bE o=2→y.1=cg o→∃ y'∈GN,y'.1=y.1∧y.2.1.length≤y'.2.1.length):KQ ps' pi' GN o:=by
 refine ⟨h.id,by rw [hc];exact h.refs, ?_⟩;rcases h.kind with q|⟨k,y,hy,e,h1,h2⟩|⟨k,⟨x,hx,e⟩,h1⟩
 . exact .inl q
 . obtain ⟨y',nO,e',hl⟩:=Er y hy k e
   exact .inr (.inl ⟨k,y',nO,e'.trans e,h1,by omega⟩)
 . obtain ⟨x',qZ,e'⟩:=rf x hx k e
   exact .inr (.inr ⟨k,⟨x',qZ,e'.trans e⟩,h1⟩)
theorem Inv.U0 (h:Inv x tl nx tk pg ps os pi fi rd ou) (hp:p∈ps) (hk:(f p).1=p.1) (hx:∀ q∈ps,q.1≠p.1→wF x' pg.length q) (hl:wF x' pg.length (f p)) (A7:aA (f p)=aA p)
  (Yp:gV (f p)=gV p∨gV (f p)=0) (hz:cE (f p)=6→∀ q∈ps,gV q≠p.1) (hs:cE (f p)=2→tl<oT (f p)) (hw:cE (f p)=4∨cE (f p)=5→oT (f p)∈aA p∧∃ o∈os,o.1=oT (f p))
  (ht:lS ps+(cd (f p)).length≤64+(cd p).length) (hr:Yn.Perm (aH (bM ps p.1 f))):Inv x' tl nx tk pg (bM ps p.1 f) os pi fi Yn ou:=by
 have Rk:∀ v y,y≠p.1∨y=p.1→v=0∨(v≠y∧∃ q∈ps,q.1=v∧cE q≠6)→(v=p.1→cE (f p)≠6)→v=0∨(v≠y∧∃ q∈bM ps p.1 f,q.1=v∧cE q≠6):=λv y _ hv h6=>by
  rcases hv with e|⟨e,q,hq,h1,h2⟩
  . exact .inl e
  . refine .inr ⟨e, ?_⟩
    by_cases k:q.1=p.1
    . exact ⟨f p,(aW h.cF hp).2 (.inl rfl),by rw [hk];exact k.symm.trans h1,h6 (h1.symm.trans k)⟩
    . exact ⟨q,(aW h.cF hp).2 (.inr ⟨hq,k⟩),h1,h2⟩
 refine ⟨h.Es,h.AG,h.Bk,h.Di,by rw [jf];exact h.np, ?_,dB h.cF λq hq k=> ?_,λq hq=> ?_,λq hq=> ?_,h.ow,λo ho=> ?_,h.wu,h.rf,h.xV,h.Er,hr⟩
 . have:=I9 (f:=f) h.cF hp;omega
 . obtain rfl:=h.cF.inj hq hp k;exact hk
 . rcases (aW h.cF hp).1 hq with rfl|⟨hq,k⟩
   . exact hl
   . exact hx q hq k
 . rcases (aW h.cF hp).1 hq with rfl|⟨hq,k⟩
   . have hc:=h.ctx p hp
     refine ⟨by rw [hk];exact hc.pid,by rw [A7];exact hc.fds, ?_,hs,by rw [A7];exact hw⟩;rcases Yp with e|e
     . rw [e,hk]
       exact Rk _ _ (.inr rfl) hc.par λe'=>by
        rcases hc.par with e0|⟨e0,_⟩
        . have:=hc.pid.1;omega
        . exact absurd e' e0
     . exact .inl e
   . have hc:=h.ctx q hq
     exact ⟨hc.pid,hc.fds,Rk _ _ (.inl k) hc.par λe h6=>hz h6 q hq e,hc.QD,hc.wt⟩
 . refine (h.op o ho).mono ?_ (λx hx _ _=>⟨x,hx,rfl⟩) λy hy _ _=>⟨y,hy,rfl,abE _⟩
   have:=I8 (f:=f) h.cF hp o.1;rw [A7] at this;omega
theorem Inv.RT (h:Inv x tl nx tk pg ps os pi fi rd ou) (hp:p∈ps) (hk:(f p).1=p.1) (hl:wF x pg.length (f p)) (A7:aA (f p)=aA p) (pU:cE (f p)=cE p) (hun:oT (f p)=oT p)
  (Yp:gV (f p)=gV p∨gV (f p)=0) (ht:lS ps+(cd (f p)).length≤64+(cd p).length):Inv x tl nx tk pg (bM ps p.1 f) os pi fi rd ou:=by
 have hc:=h.ctx p hp;refine h.U0 hp hk (λq hq _=>h.loc q hq) hl A7 Yp (λe q hq e'=> ?_) (by rw [pU,hun];exact hc.QD) (by rw [pU,hun];exact hc.wt) ht ?_
 . rw [pU] at e
   rcases (h.ctx q hq).par with e0|⟨_,r,hr,h1,h2⟩
   . have:=hc.pid.1;omega
   . obtain rfl:r=p:=h.cF.inj hr hp (h1.trans e')
     exact h2 e
 . rw [Ds h.cF hp hk (by rw [pU])];exact h.Et
theorem Inv.rU (h:Inv x tl nx tk pg ps os pi fi rd ou) (hp:p∈ps):(cd p).length≤lS ps∧lS ps≤64:=by
 obtain ⟨l1,l2,e,_⟩:=gK h.cF hp;refine ⟨?_,h.G3⟩;rw [e,jY,mT];omega
theorem Inv.ku (h:Inv x tl nx tk pg ps os pi fi rd ou) (hp:p∈ps) {c:ag} (hc:aP c.1 c.2.1=true):Inv x tl nx tk pg (bM ps p.1 (oA c)) os pi fi rd ou:=by
 have l:=h.loc p hp;exact h.RT hp rfl ⟨l.st,l.pg,hc,l.mem,l.fds,l.code,l.dead,l.live,l.nM⟩ rfl rfl rfl (.inl rfl) (by have:=(h.rU hp).2;show lS ps+(cd p).length≤_;omega)
theorem Inv.mem (h:Inv x tl nx tk pg ps os pi fi rd ou) (hp:p∈ps) {m:List Int} (hm:m.length≤12∧m.length % 4=0∧aG m=true) (h0:cE p≠6) (h1:0<m.length) (ht:lS ps+m.length≤64+(cd p).length):Inv x tl nx tk pg (bM ps p.1 (kg m)) os pi fi rd ou:=by
 have l:=h.loc p hp;exact h.RT hp rfl ⟨l.st,l.pg,l.ku,hm,l.fds,l.code,λe=>absurd e h0,λe=>⟨(l.live e).1,λ_=>h1⟩,l.nM⟩ rfl rfl rfl (.inl rfl) ht
theorem Inv.exec (h:Inv x tl nx tk pg ps os pi fi rd ou) (hp:p∈ps) {b:Int} (hb:0≤b∧b<(pg.length:Int)) (h0:cE p≠6) (h1:4≤(cd p).length):Inv x tl nx tk pg (bM ps p.1 (og b)) os pi fi rd ou:=by
 have l:=h.loc p hp;exact h.RT hp rfl ⟨l.st,hb,l.ku,by show (4:Nat)≤12∧4 % 4=0∧aG [0,0,0,0]=true;decide,l.fds,l.code,λe=>absurd e h0,λe=>⟨(l.live e).1,λ_=>by show 0<4;omega⟩,l.nM⟩ rfl rfl rfl (.inl rfl) (by have:=(h.rU hp).2;show lS ps+4≤_;omega)
theorem Inv.agL (h:Inv x tl nx tk pg ps os pi fi rd ou) (hp:p∈ps) (h0:cE p≠6):Inv x tl nx tk pg (bM ps p.1 (GW 0)) os pi fi rd ou:=by
 have l:=h.loc p hp;exact h.RT hp rfl ⟨l.st,l.pg,l.ku,l.mem,l.fds,l.code,λe=>absurd e h0,l.live,l.nM⟩ rfl rfl rfl (.inr rfl) (by have:=(h.rU hp).2;show lS ps+(cd p).length≤_;omega)
theorem Inv.jC (h:Inv x tl nx tk pg ps os pi fi rd ou) (hp:p∈ps) (h0:cE p≠6) (h1:cE p≠1):Inv x tl nx tk pg (bM ps p.1 (lU 1 0)) os pi fi (rd++[p.1]) ou:=by
 have l:=h.loc p hp;refine h.U0 hp rfl (λq hq _=>h.loc q hq) ⟨by show (1:Int)≤1∧(1:Int)≤6;omega,l.pg,l.ku,l.mem,l.fds,l.code,λe=> ?_,λ_=>l.live h0,λ_=>rfl⟩ rfl (.inl rfl) (λe=> ?_) (λe=> ?_) (λe=> ?_) (by have:=(h.rU hp).2;show lS ps+(cd p).length≤_;omega) ?_
 . exact absurd (show (1:Int)=6 from e) (by omega)
 . exact absurd (show (1:Int)=6 from e) (by omega)
 . exact absurd (show (1:Int)=2 from e) (by omega)
 . exact absurd (show (1:Int)=4∨(1:Int)=5 from e) (by omega)
 . refine List.Perm.trans ?_ (ad7 h.cF hp rfl rfl h1).symm
   exact (List.perm_append_singleton _ _).trans (List.Perm.cons _ h.Et)
theorem Inv.ready (h:Inv x tl nx tk pg ps os pi fi rd ou) (hp:p∈ps) (h1:cE p=1):p.1∈rd:=h.Et.mem_iff.2 (MM.2 ⟨p,hp,rfl,h1⟩)
theorem Inv.off (h:Inv x tl nx tk pg ps os pi fi rd ou) (hp:p∈ps) (h1:cE p=1) (hs:cE (f p)≠1):(rd.erase p.1).Perm (aH (bM ps p.1 f)):=by
 have e:=(List.perm_cons_erase (h.ready hp h1)).symm.trans (h.Et.trans (Yo h.cF hp hs h1));exact (List.perm_cons p.1).1 e
theorem Inv.block (h:Inv x tl nx tk pg ps os pi fi rd ou) (hp:p∈ps) {s u:Int} (h1:cE p=1) (hs:2≤s∧s≤5) (h2:s=2→tl<u) (h3:s=3→u=0) (h4:s=4∨s=5→u∈aA p∧∃ o∈os,o.1=u):Inv x tl nx tk pg (bM ps p.1 (lU s u)) os pi fi (rd.erase p.1) ou:=by
 have l:=h.loc p hp;refine h.U0 hp rfl (λq hq _=>h.loc q hq) ⟨by show (1:Int)≤s∧s≤6;omega,l.pg,l.ku,l.mem,l.fds,l.code,λe=> ?_,λ_=>l.live (by omega),λe=> ?_⟩ rfl (.inl rfl) (λe=> ?_) h2 h4 (by have:=(h.rU hp).2;show lS ps+(cd p).length≤_;omega) (h.off hp h1 ?_)
 . have e':s=6:=e;omega
 . have e':s=1∨s=3∨s=6:=e
   exact h3 (by omega)
 . have e':s=6:=e;omega
 . show s≠1;omega
theorem Inv.drop (h:Inv 0 tl nx tk pg ps os pi fi rd ou) (hp:p∈ps) (h1:cE p=1):Inv p.1 tl nx tk pg (bM ps p.1 (kg [])) os pi fi rd ou:=by
 have l:=h.loc p hp;have hc:=h.ctx p hp;have ha:∀ q∈ps,wF p.1 pg.length q∨q.1=p.1:=λq hq=>by
  have l:=h.loc q hq;have:=(h.ctx q hq).pid.1;exact .inl ⟨l.st,l.pg,l.ku,l.mem,l.fds,l.code,l.dead,λe=>⟨(l.live e).1,λ_=>(l.live e).2 (by omega)⟩,l.nM⟩
 refine h.U0 hp rfl (λq hq k=>(ha q hq).resolve_right k) ⟨l.st,l.pg,l.ku,⟨ac0 _,rfl,rfl⟩,l.fds,l.code,λe=>absurd (h1.symm.trans e) (by omega),λe=>⟨(l.live e).1,λk=>absurd rfl k⟩,l.nM⟩ rfl (.inl rfl) (λe=>absurd (h1.symm.trans e) (by omega)) hc.QD hc.wt (by have:=(h.rU hp).2;show lS ps+0≤_;omega) ?_;rw [Ds h.cF hp rfl Iff.rfl];exact h.Et
theorem Inv.V0 (h:Inv p.1 tl nx tk pg ps os pi fi rd ou) (hp:p∈ps) {c:Int} (h1:cE p=1) (hm:cd p=[]) (hf:∀ v∈aA p,v= -1) (h0:gV p≠0) (hn:∀ q∈ps,gV q≠p.1) (hw:bV c=true):
  Inv 0 tl nx tk pg (bM ps p.1 λp=>fM c (lU 6 0 p)) os pi fi (rd.erase p.1) ou:=by
 have l:=h.loc p hp;have hc:=h.ctx p hp;refine h.U0 hp rfl (λq hq k=> ?_) ⟨by show (1:Int)≤6∧(6:Int)≤6;omega,l.pg,l.ku,l.mem,l.fds,hw,λ_=>⟨hm,h0,hf⟩,λe=>absurd rfl e,λ_=>rfl⟩ rfl (.inl rfl) (λ_=>hn) (λe=> ?_) (λe=> ?_) (by have:=(h.rU hp).2;show lS ps+(cd p).length≤_;omega) (h.off hp h1 ?_)
 . have l:=h.loc q hq
   exact ⟨l.st,l.pg,l.ku,l.mem,l.fds,l.code,l.dead,λe=>⟨(l.live e).1,λ_=>(l.live e).2 k⟩,l.nM⟩
 . exact absurd (show (6:Int)=2 from e) (by omega)
 . exact absurd (show (6:Int)=4∨(6:Int)=5 from e) (by omega)
 . show (6:Int)≠1;omega
abbrev so (ps:List af) (v:Int):=ps.filter λq=>ao q != v
theorem iv {v:Int} {q:af}:q∈so ps v↔q∈ps∧q.1≠v:=by
 rw [List.mem_filter];unfold ao;simp
theorem Inv.rm (h:Inv x tl nx tk pg ps os pi fi rd ou) (hp:p∈ps) (hf:∀ v∈aA p,v= -1) (hn:∀ q∈ps,gV q≠p.1) (hx:∀ q∈ps,q.1≠p.1→wF x' pg.length q) (hr:Yn.Perm (aH (so ps p.1))):
  Inv x' tl nx tk pg (so ps p.1) os pi fi Yn ou:=by
 obtain ⟨l1,l2,e,_,_,_,uH⟩:=gK h.cF hp;have KT:so ps p.1=l1++l2:=uH;have fq:(so ps p.1).Sublist ps:=List.filter_sublist;refine ⟨h.Es,h.AG,h.Bk,h.Di,abG fq.length_le h.np, ?_, ?_,λq hq=> ?_,λq hq=> ?_,h.ow,λo ho=> ?_,h.wu,h.rf,h.xV,h.Er,hr⟩
 . have:=h.G3
   rw [KT,jY];rw [e,jY,mT] at this;omega
 . exact (show (ps.map ao).Pairwise (· < ·) from h.cF).sublist (fq.map ao)
 . exact hx q (iv.1 hq).1 (iv.1 hq).2
 . have hc:=h.ctx q (iv.1 hq).1
   refine ⟨hc.pid,hc.fds, ?_,hc.QD,hc.wt⟩;rcases hc.par with e|⟨e,r,hr,h1,h2⟩
   . exact .inl e
   . exact .inr ⟨e,r,iv.2 ⟨hr,λk=>hn q (iv.1 hq).1 (h1.symm.trans k)⟩,h1,h2⟩
 . refine (h.op o ho).mono ?_ (λx hx _ _=>⟨x,hx,rfl⟩) λy hy _ _=>⟨y,hy,rfl,abE _⟩
   have hz:(aA p).count o.1=0:=List.count_eq_zero.2 λhm=>by have:=hf _ hm;have:=(h.op o ho).id;omega
   rw [KT]
   conv=>rhs;rw [e]
   rw [lx,lx,mI,hz];omega
theorem Inv.ad8 (h:Inv x tl nx tk pg ps os pi fi rd ou) (hp:p∈ps) (h6:cE p=6):∀ q∈ps,gV q≠p.1:=λq hq e=>by
 have:=(h.ctx p hp).pid.1;rcases (h.ctx q hq).par with e0|⟨_,r,hr,h1,h2⟩
 . omega
 . obtain rfl:r=p:=h.cF.inj hr hp (h1.trans e)
   exact h2 h6
theorem Inv.VY (h:Inv x tl nx tk pg ps os pi fi rd ou) (hp:p∈ps) (h6:cE p=6):Inv x tl nx tk pg (so ps p.1) os pi fi rd ou:=by
 refine h.rm hp ((h.loc p hp).dead h6).2.2 (h.ad8 hp h6) (λq hq _=>h.loc q hq) ?_;obtain ⟨l1,l2,e,_,_,_,uH⟩:=gK h.cF hp;have KT:so ps p.1=l1++l2:=uH;have:=h.Et;rw [e,fY,lZ,aa3 (by omega), ← fY] at this;rw [KT];exact this
theorem Inv.gone (h:Inv p.1 tl nx tk pg ps os pi fi rd ou) (hp:p∈ps) (h1:cE p=1) (hf:∀ v∈aA p,v= -1) (hn:∀ q∈ps,gV q≠p.1):Inv 0 tl nx tk pg (so ps p.1) os pi fi (rd.erase p.1) ou:=by
 refine h.rm hp hf hn (λq hq k=> ?_) ?_
 . have l:=h.loc q hq
   exact ⟨l.st,l.pg,l.ku,l.mem,l.fds,l.code,l.dead,λe=>⟨(l.live e).1,λ_=>(l.live e).2 k⟩,l.nM⟩
 . obtain ⟨l1,l2,e,_,_,_,uH⟩:=gK h.cF hp
   have KT:so ps p.1=l1++l2:=uH;have e1:=(List.perm_cons_erase (h.ready hp h1)).symm.trans h.Et;rw [KT];rw [e,fY,lZ,aa5 h1] at e1;have e2:=e1.trans List.perm_middle;rw [← fY] at e2;exact (List.perm_cons p.1).1 e2
end
section
variable {x x' tl nx tk:Int} {pg:List (List az)} {ps:List af} {os oj:List aj} {pi fi pi' GN:List ag} {rd Yn ou:List Int} {p p':af} {o:aj}
def cG (r:Int) (o:aj):aj:=(o.1,o.2.1,o.2.2.1,o.2.2.2.1,r,())
def uZ (v:Int) (o:aj):aj:=(o.1,o.2.1,o.2.2.1,v,o.2.2.2.2)
def eX (d:List Int) (y:ag):ag:=(y.1,d,())
def bF {α:Type} (key:α→Int) (y:α):List α→List α
 |[]=>[y]
 |x::r=>if key y<key x then y::x::r else x::bF key y r
theorem de {α:Type} {key:α→Int} {y z:α}:∀ {a:List α},z∈bF key y a↔z=y∨z∈a
 |[]=>by simp [bF]
 |x::r=>by
  unfold bF;split
  . simp
  . rw [abF,de,abF]
    constructor<;>(rintro (h|h|h)<;>simp [h])
theorem gH {α:Type} {key:α→Int} {y:α}:∀ {a:List α},bO key a→(∀ x∈a,key x≠key y)→bO key (bF key y a)
 |[],_,_=>by simp [bF,bO]
 |x::r,h,hn=>by
  have h':(key x::r.map key).Pairwise (· < ·):=h;rw [adS] at h';unfold bF;have hx:=hn x (by simp);split
  . rename_i bS
    show (key y::key x::r.map key).Pairwise (· < ·);rw [adS,adS];refine ⟨λv hv=> ?_,h'⟩;rcases abF.1 hv with rfl|hv
    . exact bS
    . have:=h'.1 v hv;omega
  . show (key x::(bF key y r).map key).Pairwise (· < ·)
    rw [adS];refine ⟨λv hv=> ?_,gH h'.2 λz hz=>hn z (by simp [hz])⟩;obtain ⟨z,hz,rfl⟩:=List.mem_map.1 hv;rcases de.1 hz with rfl|hz
    . omega
    . exact h'.1 _ (adN hz)
theorem iL {α:Type} {key:α→Int} {y:α}:∀ {a:List α},(bF key y a).length=a.length+1
 |[]=>rfl
 |x::r=>by
  unfold bF;split
  . rfl
  . rw [aby,iL,aby]
theorem HC {l:List Int} {k:Nat} {w:Int} (h:l[k]? =some w) (v y:Int):(l.set k v).count y+(if w=y then 1 else 0)=l.count y+(if v=y then 1 else 0):=by
 induction l generalizing k with
 |nil=>simp at h
 |cons a r ih=>
  cases k with
  |zero=>
   simp only [List.getElem?_cons_zero,acv] at h;subst h;simp only [List.set_cons_zero,List.count_cons,acy];omega
  |succ k=>
   simp only [List.getElem?_cons_succ] at h;have:=ih h;simp only [List.set_cons_succ,List.count_cons,acy];omega
theorem Dt (h:bO ao ps) (hp:p∈ps) {k:Nat} {w:Int} (hk:(aA p)[k]? =some w) (v y:Int):mr (bM ps p.1 (b9 ((aA p).set k v))) y+(if w=y then 1 else 0)=mr ps y+(if v=y then 1 else 0):=by
 have h1:=I8 (f:=b9 ((aA p).set k v)) h hp y;have h2:=HC hk v y;have h3:aA (b9 ((aA p).set k v) p)=(aA p).set k v:=rfl;rw [h3] at h1;omega
theorem Inv.NK (h:Inv x tl nx tk pg ps os pi fi rd ou) (hp:p∈ps) (h1:cE p=1) {l:List Int} (hl:l.length=4) (A7:∀ v,v≠ -1→0<mr (bM ps p.1 (b9 l)) v→∃ o∈oj,o.1=v) (ow:bO al oj)
  (Q0:∀ o∈oj,KQ (bM ps p.1 (b9 l)) pi' fi o) (wu:bO aB pi') (rf:∀ x∈pi',Fu oj x):Inv x tl nx tk pg (bM ps p.1 (b9 l)) oj pi' fi rd ou:=by
 have hc:=h.ctx p hp;have Yq:∀ q∈bM ps p.1 (b9 l),∀ v∈aA q,v= -1∨∃ o∈oj,o.1=v:=λq hq v hv=>by
  by_cases e:v= -1
  . exact .inl e
  . exact .inr (A7 v e (I7.2 ⟨q,hq,hv⟩))
 have Rk:∀ v y,v=0∨(v≠y∧∃ q∈ps,q.1=v∧cE q≠6)→v=0∨(v≠y∧∃ q∈bM ps p.1 (b9 l),q.1=v∧cE q≠6):=λv y hv=>by
  rcases hv with e|⟨e,q,hq,e1,e2⟩
  . exact .inl e
  . refine .inr ⟨e, ?_⟩
    by_cases k:q.1=p.1
    . obtain rfl:=h.cF.inj hq hp k
      exact ⟨b9 l q,(aW h.cF hp).2 (.inl rfl),e1,e2⟩
    . exact ⟨q,(aW h.cF hp).2 (.inr ⟨hq,k⟩),e1,e2⟩
 refine ⟨h.Es,h.AG,h.Bk,h.Di,by rw [jf];exact h.np, ?_,dB h.cF λq _ _=>rfl,λq hq=> ?_,λq hq=> ?_,ow,Q0,wu,rf,h.xV,h.Er, ?_⟩
 . have h1:=I9 (f:=b9 l) h.cF hp;have h2:=h.G3
   have h3:cd (b9 l p)=cd p:=rfl;rw [h3] at h1;omega
 . rcases (aW h.cF hp).1 hq with rfl|⟨hq,_⟩
   . have l0:=h.loc p hp
     exact ⟨l0.st,l0.pg,l0.ku,l0.mem,hl,l0.code,λe=>absurd (h1.symm.trans e) (by omega),l0.live,l0.nM⟩
   . exact h.loc q hq
 . rcases (aW h.cF hp).1 hq with rfl|⟨hq',_⟩
   . exact ⟨hc.pid,Yq _ hq,Rk _ _ hc.par,hc.QD,λe=>absurd (show cE p=4∨cE p=5 from e) (by omega)⟩
   . have hc:=h.ctx q hq'
     refine ⟨hc.pid,Yq _ hq,Rk _ _ hc.par,hc.QD,λe=> ?_⟩;obtain ⟨hm,o,ho,e'⟩:=hc.wt e;refine ⟨hm,(Yq q hq _ hm).resolve_left λe2=> ?_⟩;have:=(h.op o ho).id;omega
 . rw [Ds (f:=b9 l) h.cF hp rfl Iff.rfl];exact h.Et
theorem Inv.xA (h:Inv x tl nx tk pg ps os pi fi rd ou) {v:Int} (hv:v≠ -1) (hc:0<mr ps v):∃ o∈os,o.1=v:=by
 obtain ⟨q,hq,hm⟩:=I7.1 hc;exact ((h.ctx q hq).fds v hm).resolve_left hv
theorem gj (h:bO al os) (ho:o∈os) {f:aj→aj} {o':aj}:o'∈bW al os o.1 f↔o'=f o∨(o'∈os∧o'.1≠o.1):=by
 rw [fT];constructor
 . intro ⟨y,hy,e⟩
   by_cases k:al y=o.1
   . obtain rfl:y=o:=h.inj hy ho k
     rw [aa5 k] at e;exact .inl e.symm
   . rw [aa3 k] at e
     subst e;exact .inr ⟨hy,k⟩
 . rintro (rfl|⟨hq,k⟩)
   . exact ⟨o,ho,aa5 rfl⟩
   . exact ⟨o',hq,aa3 k⟩
theorem Fu.U0 (hr:bO al os) (ho:o∈os) {f:aj→aj} (hk:(f o).1=o.1) (h2:bE (f o)=bE o) (h3:cg (f o)=cg o) {y:ag} (h:Fu os y):Fu (bW al os o.1 f) y:=by
 obtain ⟨e,he,k,t⟩:=h.ends;refine ⟨h.id,h.data, ?_⟩;by_cases q:e.1=o.1
 . obtain rfl:=hr.inj he ho q
   exact ⟨f e,(gj hr he).2 (.inl rfl),by rw [h2];exact k,by rw [h3];exact t⟩
 . exact ⟨e,(gj hr ho).2 (.inr ⟨he,q⟩),k,t⟩
theorem Inv.T6 (h:Inv x tl nx tk pg ps os pi fi rd ou) (hp:p∈ps) (h1:cE p=1) {k:Nat} {w v:Int} (hk:(aA p)[k]? =some w) (ho:o∈os) (hw:w=o.1∧v= -1∧bG o≠1∨w= -1∧v=o.1) {r:Int} (hr:r=bG o+(if v= -1 then -1 else 1)):
  Inv x tl nx tk pg (bM ps p.1 (b9 ((aA p).set k v))) (bW al os o.1 (cG r)) pi fi rd ou:=by
 have hid:=(h.op o ho).id;have Qx:=(h.op o ho).refs;have hN:=Dt h.cF hp hk v;refine h.NK hp h1 (by rw [acz];exact (h.loc p hp).fds) (λy hy hc=> ?_) (dB h.ow λ_ _ _=>rfl) (λo' ye=> ?_) h.wu λy hy=>Fu.U0 h.ow ho rfl rfl rfl (h.rf y hy)
 . have hex:∃ e∈os,e.1=y:=by
    by_cases e:y=o.1
    . exact ⟨o,ho,e.symm⟩
    . refine h.xA hy ?_
      have:=hN y;have e1:¬ v=y:=by rcases hw with ⟨_,e2,_⟩|⟨_,e2⟩<;>omega
      rw [aa3 e1] at this;omega
   obtain ⟨e,he,rfl⟩:=hex;by_cases q:e.1=o.1
   . exact ⟨cG r o,(gj h.ow ho).2 (.inl rfl),q.symm⟩
   . exact ⟨e,(gj h.ow ho).2 (.inr ⟨he,q⟩),rfl⟩
 . rcases (gj h.ow ho).1 ye with rfl|⟨ye,q⟩
   . have ho1:=h.op o ho
     refine ⟨ho1.id, ?_,ho1.kind⟩;have:=hN o.1;show r=((mr _ o.1:Nat):Int)∧0<mr _ o.1;rcases hw with ⟨e1,e2,e3⟩|⟨e1,e2⟩
     . rw [aa5 e1,aa3 (by omega)] at this
       rw [aa5 e2] at hr;omega
     . rw [aa3 (by omega),aa5 e2] at this
       rw [aa3 (by omega)] at hr;omega
   . refine (h.op o' ye).mono ?_ (λy hy _ _=>⟨y,hy,rfl⟩) λy hy _ _=>⟨y,hy,rfl,abE _⟩
     have h2:=hN o'.1;have h3:=(h.op o' ye).id;have e1:¬ w=o'.1:=by rcases hw with ⟨e1,_⟩|⟨e1,_⟩<;>omega
     have e2:¬ v=o'.1:=by rcases hw with ⟨_,e1,_⟩|⟨_,e1⟩<;>omega
     rw [aa3 e1,aa3 e2] at h2;omega
abbrev Ax (os:List aj) (v:Int):=os.filter λo=>al o != v
theorem ny {v:Int} {e:aj}:e∈Ax os v↔e∈os∧e.1≠v:=by
 rw [List.mem_filter];unfold al;simp
abbrev Iy (a:List ag) (v:Int):=a.filter λy=>aB y != v
theorem xe {a:List ag} {v:Int} {y:ag}:y∈Iy a v↔y∈a∧y.1≠v:=by
 rw [List.mem_filter];unfold aB;simp
theorem Inv.shut (h:Inv x tl nx tk pg ps os pi fi rd ou) (hp:p∈ps) (h1:cE p=1) {k:Nat} (hk:(aA p)[k]? =some o.1) (ho:o∈os) (h0:bG o=1) (fq:pi'.Sublist pi) (NL:∀ e∈os,e.1≠o.1→bE e=3∨bE e=4→∀ y∈pi,y.1=cg e→y∈pi')
  (A9:∀ y∈pi',(bE o=3∨bE o=4)→y.1=cg o→∃ e∈os,e.1≠o.1∧(bE e=3∨bE e=4)∧cg e=y.1):Inv x tl nx tk pg (bM ps p.1 (b9 ((aA p).set k (-1)))) (Ax os o.1) pi' fi rd ou:=by
 have hid:=(h.op o ho).id;have Qx:=(h.op o ho).refs;have hN:=Dt h.cF hp hk (-1);refine h.NK hp h1 (by rw [acz];exact (h.loc p hp).fds) (λy hy hc=> ?_) ((show (os.map al).Pairwise (· < ·) from h.ow).sublist (List.filter_sublist.map al)) (λo' ye=> ?_) ((show (pi.map aB).Pairwise (· < ·) from h.wu).sublist (fq.map aB)) λy hy=> ?_
 . have nO:=hN y
   rw [aa3 (show ¬ (-1:Int)=y by omega)] at nO;have dV:y≠o.1:=λe=>by
    subst e;rw [aa5 rfl] at nO;omega
   obtain ⟨e,he,rfl⟩:=h.xA hy (by omega);exact ⟨e,ny.2 ⟨he,dV⟩,rfl⟩
 . obtain ⟨ye,q⟩:=ny.1 ye
   refine (h.op o' ye).mono ?_ (λy hy hk e=>⟨y,NL o' ye q hk y hy e,rfl⟩) λy hy _ _=>⟨y,hy,rfl,abE _⟩
   have h2:=hN o'.1;have h3:=(h.op o' ye).id;rw [aa3 (by omega),aa3 (by omega)] at h2;omega
 . have Eu:=h.rf y (fq.subset hy)
   obtain ⟨e,he,k1,t1⟩:=Eu.ends;refine ⟨Eu.id,Eu.data, ?_⟩;by_cases q:e.1=o.1
   . obtain rfl:=h.ow.inj he ho q
     obtain ⟨e2,h2,h3,h4,h5⟩:=A9 y hy k1 t1.symm;exact ⟨e2,ny.2 ⟨h2,h3⟩,h4,h5⟩
   . exact ⟨e,ny.2 ⟨he,q⟩,k1,t1⟩
theorem Inv.Wb (h:Inv x tl nx tk pg ps os pi fi rd ou) (hp:p∈ps) (h1:cE p=1) {k:Nat} (hk:(aA p)[k]? =some (-1)) (hid:0≤o.1∧o.1≤7) (jB:∀ e∈os,e.1≠o.1) (hr:bG o=1)
  (ad9:bE o=2∧(∃ f∈fi,f.1=cg o∧0≤eQ o∧eQ o≤(f.2.1.length:Nat))∨(bE o=3∨bE o=4)∧(∃ x∈pi',x.1=cg o)∧eQ o=0) (rf:∀ y∈pi',y∈pi∨(y.1=cg o∧(bE o=3∨bE o=4)∧(0≤y.1∧y.1≤2)∧y.2.1=[])) (fq:∀ y∈pi,y∈pi') (wu:bO aB pi'):
  Inv x tl nx tk pg (bM ps p.1 (b9 ((aA p).set k o.1))) (bF al o os) pi' fi rd ou:=by
 have hN:=Dt h.cF hp hk o.1;have hz:mr ps o.1=0:=by
  rcases Nat.eq_zero_or_pos (mr ps o.1) with e|e
  . exact e
  . obtain ⟨e',he,q⟩:=h.xA (by omega) e
    exact absurd q (jB e' he)
 refine h.NK hp h1 (by rw [acz];exact (h.loc p hp).fds) (λy hy hc=> ?_) (gH h.ow jB) (λo' ye=> ?_) wu λy hy=> ?_
 . by_cases e:y=o.1
   . exact ⟨o,de.2 (.inl rfl),e.symm⟩
   . have nO:=hN y
     rw [aa3 (by omega),aa3 (by omega)] at nO;obtain ⟨e',he,rfl⟩:=h.xA hy (by omega);exact ⟨e',de.2 (.inr he),rfl⟩
 . rcases de.1 ye with rfl|ye
   . have:=hN o'.1
     rw [aa3 (by omega),aa5 rfl] at this;exact ⟨hid,by omega, .inr ad9⟩
   . refine (h.op o' ye).mono ?_ (λy hy hk e=>⟨y,fq y hy,rfl⟩) λy hy _ _=>⟨y,hy,rfl,abE _⟩
     have h2:=hN o'.1;have h3:=(h.op o' ye).id;have h4:=jB o' ye;rw [aa3 (by omega),aa3 (by omega)] at h2;omega
 . rcases rf y hy with Eu|⟨e1,e2,e3,e4⟩
   . have Eu:=h.rf y Eu
     obtain ⟨e,he,k1,t1⟩:=Eu.ends;exact ⟨Eu.id,Eu.data,e,de.2 (.inr he),k1,t1⟩
   . exact ⟨e3,by rw [e4];exact ⟨ac0 _,rfl⟩,o,de.2 (.inl rfl),e2,e1.symm⟩
theorem Inv.perm (h:Inv x tl nx tk pg ps os pi fi rd ou) (hr:Yn.Perm rd):Inv x tl nx tk pg ps os pi fi Yn ou:={ h with Et:=hr.trans h.Et }
theorem Inv.out (h:Inv x tl nx tk pg ps os pi fi rd ou) {v:Int} (hl:ou.length<60) (hv:bV v=true):Inv x tl nx tk pg ps os pi fi rd (ou++[v]):=
 { h with Di:=⟨by rw [abz];show ou.length+1≤60;omega,by have:=h.Di.2;unfold aG at this ⊢; rw [adE,this];simp [hv]⟩ }
theorem Inv.tick (h:Inv x tl nx tk pg ps os pi fi rd ou) (hl:tk<1000000):Inv x tl nx (tk+1) pg ps os pi fi rd ou:={ h with AG:=by have:=h.AG;omega }
theorem Inv.later {tl':Int} (h:Inv x tl nx tk pg ps os pi fi rd ou) (hl:∀ p∈ps,cE p=2→tl'<oT p):Inv x tl' nx tk pg ps os pi fi rd ou:=
 { h with ctx:=λp hp=>{ h.ctx p hp with QD:=hl p hp } }
theorem Inv.file (h:Inv x tl nx tk pg ps os pi fi rd ou) {y:ag} (hy:y∈fi) {d:List Int} (hd:y.2.1.length≤d.length) (h8:d.length≤8) (hw:aG d=true):Inv x tl nx tk pg ps os pi (bW aR fi y.1 (eX d)) rd ou:=by
 refine { h with op:=λo ho=> ?_,xV:=dB h.xV λ_ _ _=>rfl,Er:=λz hz=> ?_ }
 . refine (h.op o ho).mono rfl (λz hz _ _=>⟨z,hz,rfl⟩) λz hz _ _=> ?_
   by_cases k:aR z=y.1
   . obtain rfl:=h.xV.inj hz hy k
     exact ⟨eX d z,fT.2 ⟨z,hz,aa5 rfl⟩,rfl,hd⟩
   . exact ⟨z,fT.2 ⟨z,hz,aa3 k⟩,rfl,abE _⟩
 . obtain ⟨z0,hz0,e⟩:=fT.1 hz
   by_cases k:aR z0=y.1
   . rw [aa5 k] at e
     subst e;have:=h.Er z0 hz0;unfold eF at this ⊢;simp only [aa4,abS] at this ⊢;exact ⟨this.1,h8,hw⟩
   . rw [aa3 k] at e
     subst e;exact h.Er z0 hz0
theorem Inv.cw (h:Inv x tl nx tk pg ps os pi fi rd ou) (ho:o∈os) {v:Int} (hk:bE o=2) (hv:∀ y∈fi,y.1=cg o→0≤v∧v≤(y.2.1.length:Nat)):Inv x tl nx tk pg ps (bW al os o.1 (uZ v)) pi fi rd ou:=by
 have hm:∀ {w:Int},(∃ e∈os,e.1=w)→∃ e∈bW al os o.1 (uZ v),e.1=w:=λ⟨e,he,hw⟩=>by
  by_cases q:e.1=o.1
  . exact ⟨uZ v o,(gj h.ow ho).2 (.inl rfl),q.symm.trans hw⟩
  . exact ⟨e,(gj h.ow ho).2 (.inr ⟨he,q⟩),hw⟩
 refine { h with ow:=dB h.ow λ_ _ _=>rfl,ctx:=λp hp=> ?_,op:=λo' ye=> ?_,rf:=λy hy=>Fu.U0 h.ow ho rfl rfl rfl (h.rf y hy) }
 . have hc:=h.ctx p hp
   exact ⟨hc.pid,λf hf=>(hc.fds f hf).imp id hm,hc.par,hc.QD,λe=>⟨(hc.wt e).1,hm (hc.wt e).2⟩⟩
 . rcases (gj h.ow ho).1 ye with rfl|⟨ye,_⟩
   . have h1:=h.op o ho
     refine ⟨h1.id,h1.refs, .inr (.inl ⟨hk, ?_⟩)⟩;rcases h1.kind with ⟨e,_⟩|⟨_,y,hy,e,_⟩|⟨e,_⟩
     . omega
     . exact ⟨y,hy,e,hv y hy e⟩
     . omega
   . exact h.op o' ye
theorem Inv.II (h:Inv x tl nx tk pg ps os pi fi rd ou) {v:Int} {d:List Int} (h8:d.length≤4) (hw:aG d=true):Inv x tl nx tk pg ps os (bW aB pi v (eX d)) fi rd ou:=by
 have hm:∀ z∈pi,∃ z'∈bW aB pi v (eX d),z'.1=z.1:=λz hz=>by
  by_cases k:aB z=v
  . exact ⟨eX d z,fT.2 ⟨z,hz,aa5 k⟩,rfl⟩
  . exact ⟨z,fT.2 ⟨z,hz,aa3 k⟩,rfl⟩
 refine { h with wu:=dB h.wu λ_ _ _=>rfl,rf:=λz hz=> ?_,op:=λo ho=>(h.op o ho).mono rfl (λz hz _ _=>hm z hz) λz hz _ _=>⟨z,hz,rfl,abE _⟩ };obtain ⟨z0,hz0,e⟩:=fT.1 hz;by_cases k:aB z0=v
 . rw [aa5 k] at e
   subst e;have:=h.rf z0 hz0;exact ⟨this.id,⟨h8,hw⟩,this.ends⟩
 . rw [aa3 k] at e
   subst e;exact h.rf z0 hz0
theorem Inv.make (h:Inv x tl nx tk pg ps os pi fi rd ou) {v:Int} (hv:0≤v∧v≤5) (hn:∀ y∈fi,y.1≠v):Inv x tl nx tk pg ps os pi (bF aR (v,[],()) fi) rd ou:=by
 refine { h with xV:=gH h.xV hn,Er:=λz hz=> ?_,op:=λo ho=>(h.op o ho).mono rfl (λz hz _ _=>⟨z,hz,rfl⟩) λz hz _ _=>⟨z,de.2 (.inr hz),rfl,abE _⟩ };rcases de.1 hz with rfl|hz
 . unfold eF
   simp only [aa4,fh,abS];exact ⟨hv,ac0 _,rfl⟩
 . exact h.Er z hz
theorem Inv.unlink (h:Inv x tl nx tk pg ps os pi fi rd ou) {v:Int} (hn:∀ o∈os,bE o=2→cg o≠v):Inv x tl nx tk pg ps os pi (Iy fi v) rd ou:=by
 refine { h with xV:=(show (fi.map aR).Pairwise (· < ·) from h.xV).sublist (List.filter_sublist.map aR),Er:=λz hz=>h.Er z (xe.1 hz).1,op:=λo ho=>(h.op o ho).mono rfl (λz hz _ _=>⟨z,hz,rfl⟩) λz hz k e=>⟨z,xe.2 ⟨hz,λe'=>hn o ho k (e.symm.trans e')⟩,rfl,abE _⟩ }
def lk (nx:Int) (p:af):af:=(nx,p.1,1,p.2.2.2.1,p.2.2.2.2.1,p.2.2.2.2.2.1,p.2.2.2.2.2.2.1,0,0,())
def cn (l:List Int) (os:List aj):List aj:=os.map λo=>cG (bG o+(l.count o.1:Nat)) o
theorem Inv.fork (h:Inv 0 tl nx tk pg ps os pi fi rd ou) (hp:p∈ps) (h1:cE p=1) (hn:nx<100000) (h6:ps.length<6) (ht:lS ps+(cd p).length≤64):
  Inv 0 tl (nx+1) tk pg (ps++[lk nx p]) (cn (aA p) os) pi fi (rd++[nx]) ou:=by
 have hc:=h.ctx p hp;have l:=h.loc p hp;have hm:∀ {w:Int},(∃ e∈os,e.1=w)→∃ e∈cn (aA p) os,e.1=w:=λ⟨e,he,hw⟩=>⟨_,adN he,hw⟩
 have hN:∀ id,mr (ps++[lk nx p]) id=mr ps id+(aA p).count id:=λid=>by
  rw [lx,mI];rfl
 refine ⟨by have:=h.Es;omega,h.AG,h.Bk,h.Di,by rw [abz];show ps.length+1≤6;omega, ?_, ?_,λq hq=> ?_,λq hq=> ?_, ?_,λo ho=> ?_,h.wu,λy hy=> ?_,h.xV,h.Er, ?_⟩
 . rw [jY,mT];exact ht
 . unfold bO
   rw [afz,List.pairwise_append];refine ⟨h.cF,by simp,λa ha b hb=> ?_⟩;obtain ⟨q,hq,rfl⟩:=List.mem_map.1 ha;simp only [acd,afa,acq] at hb;subst hb;exact (h.ctx q hq).pid.2
 . rcases abp.1 hq with hq|hq
   . exact h.loc q hq
   . rw [acq] at hq
     subst hq;exact ⟨by show (1:Int)≤1∧(1:Int)≤6;omega,l.pg,l.ku,l.mem,l.fds,by show bV 0=true;rfl,λe=>absurd (show (1:Int)=6 from e) (by omega),λ_=>⟨rfl,λ_=>(l.live (by omega)).2 (by have:=hc.pid.1;omega)⟩,λ_=>rfl⟩
 . rcases abp.1 hq with hq|hq
   . have hc:=h.ctx q hq
     refine ⟨by have:=hc.pid;omega,λf hf=>(hc.fds f hf).imp id hm, ?_,hc.QD,λe=>⟨(hc.wt e).1,hm (hc.wt e).2⟩⟩;rcases hc.par with e|⟨e,r,hr,q1⟩
     . exact .inl e
     . exact .inr ⟨e,r,aeA _ hr,q1⟩
   . rw [acq] at hq
     subst hq;refine ⟨by have:=h.Es;show 1≤nx∧nx<nx+1;omega,λf hf=>(hc.fds f hf).imp id hm, .inr ⟨?_,p,aeA _ hp,rfl,by omega⟩,λe=>absurd (show (1:Int)=2 from e) (by omega),λe=>absurd (show (1:Int)=4∨(1:Int)=5 from e) (by omega)⟩;show p.1≠nx;have:=hc.pid.2;omega
 . have e:(cn (aA p) os).map al=os.map al:=by
    unfold cn;rw [List.map_map];rfl
   unfold bO;rw [e];exact h.ow
 . obtain ⟨e,he,rfl⟩:=List.mem_map.1 ho
   have h1:=h.op e he;refine ⟨h1.id, ?_,h1.kind⟩;show bG e+_=((mr _ e.1:Nat):Int)∧0<mr _ e.1;rw [hN];have:=h1.refs;omega
 . have Eu:=h.rf y hy
   obtain ⟨e,he,k1,t1⟩:=Eu.ends;exact ⟨Eu.id,Eu.data,_,adN he,k1,t1⟩
 . rw [fY]
   exact List.Perm.append h.Et (List.Perm.refl _)
end
theorem gt3 (n:Nat):decide (((n:Nat):Int)>(3:Int))= !decide (n≤3):=lY (m:=3)
theorem gt4 (n:Nat):decide (((n:Nat):Int)>(4:Int))= !decide (n≤4):=lY (m:=4)
theorem gt6 (n:Nat):decide (((n:Nat):Int)>(6:Int))= !decide (n≤6):=lY (m:=6)
theorem gt8 (n:Nat):decide (((n:Nat):Int)>(8:Int))= !decide (n≤8):=lY (m:=8)
theorem ahu (n:Nat):decide (((n:Nat):Int)>(12:Int))= !decide (n≤12):=lY (m:=12)
theorem aea (n:Nat):decide (((n:Nat):Int)>(60:Int))= !decide (n≤60):=lY (m:=60)
theorem le3 (n:Nat):decide (((n:Nat):Int)≤(3:Int))=decide (n≤3):=Dn (m:=3)
theorem ne4 (n:Nat):(((n:Nat):Int) != (4:Int))= !decide (n=4):=RJ (m:=4)
theorem eq4 (n:Nat):(((n:Nat):Int)==(4:Int))=decide (n=4):=by rw [ace];simp;omega
theorem U1 (n:Nat):(Int.tmod ((n:Nat):Int) (4:Int) != (0:Int))= !decide (n % 4=0):=by
 rw [Int.tmod_eq_emod_of_nonneg (by omega),ace];simp;omega
theorem RU (x:Int):decide (x<(0:Int))= !decide (0≤x):=by rw [ace];simp
theorem beq_false (c:Bool):(c==false)= !c:=by cases c<;>rfl
theorem By (c:Bool):(c==true)=c:=by cases c<;>rfl
theorem nP {α:Type} {key:α→Int} {a:List α} {v:Int} (h:fj key a v=none):cU key a v= -1:=by unfold cU;rw [h];rfl
theorem nQ {α:Type} {key:α→Int} {a:List α} {v:Int} {i:Nat} (h:fj key a v=some i):cU key a v=((i:Nat):Int):=by unfold cU;rw [h];rfl
theorem yU {α:Type} {key:α→Int} {a:List α} {v:Int} {i:Nat} (h:fj key a v=some i):i<a.length:=(acD.1 h).1
abbrev NM:=(Int×Int×Unit)×(bw×Unit)
def vB:NM→Out (Round NM ((Unit)×(Unit)) ((Int×Unit)×(Unit)))
|((p0,p1,_),(p2,p3,p4,p5,p6,p7,p8,p9,cH,_),_)=> .ite (decide (p1<((List.length p5:Nat):Int))) (.ite (decide (0≤p1)) (.get (nth p5 (Int.toNat p1)) λy1=> .ite ((y1.1==p0)) (.ret (.ret ((p1,()),()))) (.ret (.again ((p0,(IntKind.i64.wrap (p1+(1:Int))),()),((p2,p3,p4,p5,p6,p7,p8,p9,cH,()),()))))) .fail) (.ret (.out ((),())))
def sY (a0:Int) (a1:Int) (a2:List (List az)) (a3:List af) (a4:List aj) (a5:List ag) (a6:List ag) (a7:List Int) (a8:List Int) (a9:Int):Out (((Int×Unit)×Unit)×XI):= .get (iter vB bc ((a9,(0:Int),()),((a0,a1,a2,a3,a4,a5,a6,a7,a8,()),()))) λy1=> .alt y1 (λ_=> .ret ((((-1:Int),()),()),((),(),()))) (λy3=> .ret (((y3.1.1,()),()),((),(),())))
abbrev yV:List (Nat×eA):=[(64000000, .var [.i .i64, .i .i64, .ro (.sl dk) (some 0), .ro jM (some 1), .ro dZ (some 2), .ro dU (some 3), .ro dU (some 4), .ro (.int .i64) (some 5), .ro (.int .i64) (some 6)])]
def aeb:Nat→Option aq:=λn=>b6 [(0,⟨⟨[.dead, .i .i64, .vptr 64000000 0, .dead, .dead, .i .i64]++dd 16,yV⟩,⟨dd 22,[]⟩,some ⟨dd 4++[.i .i64]++dd 17,[]⟩,false⟩)] n
def Ja:bZ:={ f:=46,lend:=true,aJ:=[⟨false,true,[.i .i64, .i .i64, .ro (.sl dk), .ro jM, .ro dZ, .ro dU, .ro dU, .ro (.int .i64), .ro (.int .i64)]⟩,⟨false,false,[.i .i64]⟩],lay:=[none,none],rs:=[⟨false,false,[.i .i64]⟩],F:=λx=> .ret ((((ak x.1.2.2.2.1 x.2.1.1),()),()),((),(),())) }
theorem Yr (x:au Ja.aJ):bo [] aeb Tryz.f46 Ja [.tmp 4] x=sY x.1.1 x.1.2.1 x.1.2.2.1 x.1.2.2.2.1 x.1.2.2.2.2.1 x.1.2.2.2.2.2.1 x.1.2.2.2.2.2.2.1 x.1.2.2.2.2.2.2.2.1 x.1.2.2.2.2.2.2.2.2.1 x.2.1.1:=by kernel_rfl
theorem Ys (hr:∀ x:bw×(Int×Unit)×Unit,aD Ja.aJ x→(sY x.1.1 x.1.2.1 x.1.2.2.1 x.1.2.2.2.1 x.1.2.2.2.2.1 x.1.2.2.2.2.2.1 x.1.2.2.2.2.2.2.1 x.1.2.2.2.2.2.2.2.1 x.1.2.2.2.2.2.2.2.2.1 x.2.1.1).eval=(Ja.F x).eval):Ja.Ok Tryz.prog:=aO [] trivial Yr λx hw _ hy=>(hr x hw).trans hy
theorem rV:Ja.Ok Tryz.prog:=by
 refine Ys λx hw=> ?_;obtain ⟨⟨a0,a1,a2,a3,a4,a5,a6,a7,a8,_⟩,⟨a9,_⟩,_⟩:=x;have l2:List.length a2≤aM:=hw.1.1.1;have l3:List.length a3≤aM:=hw.1.2.1.1;have l4:List.length a4≤aM:=hw.1.2.2.1.1;have l5:List.length a5≤aM:=hw.1.2.2.2.1.1;have l6:List.length a6≤aM:=hw.1.2.2.2.2.1.1;have l7:List.length a7≤aM:=hw.1.2.2.2.2.2.1.1;have l8:List.length a8≤aM:=hw.1.2.2.2.2.2.2.1.1;show (sY a0 a1 a2 a3 a4 a5 a6 a7 a8 a9).eval=some ((((ak a3 a9),()),()),((),(),()));unfold sY ak cU fj;have h:iter vB bc ((a9,(0:Int),()),((a0,a1,a2,a3,a4,a5,a6,a7,a8,()),()))=some (match List.findIdx? (λx=>ao x==a9) a3 with|some i=> .inr ((((i:Nat):Int),()),())|none=> .inl ((),())):=dY (f:=vB) a3 (λx=>ao x==a9) (λi=>((a9,((i:Nat):Int),()),((a0,a1,a2,a3,a4,a5,a6,a7,a8,()),()))) (y:=((),())) (z:=λi=>((((i:Nat):Int),()),()))
  (λi hi hp=>by
   have h1:=aw (i:=i) (by omega);simp [vB,Out.eval,hi,h1,cond_eq_ite,ao] at hp ⊢ <;>(try simp_all)<;>(try (rcases hp with h|h<;>simp_all)))
  (λi hi hp=>by simp [vB,Out.eval,hi,cond_eq_ite,ao] at hp ⊢ <;>(try simp_all)<;>(try (rcases hp with h|h<;>simp_all)))
  (by simp [vB,Out.eval]) l3
 refine (aa h).trans ?_;cases List.findIdx? (λx=>ao x==a9) a3<;>rfl
abbrev NN:=(Int×Int×Unit)×(bw×Unit)
def vC:NN→Out (Round NN ((Unit)×(Unit)) ((Int×Unit)×(Unit)))
|((p0,p1,_),(p2,p3,p4,p5,p6,p7,p8,p9,cH,_),_)=> .ite (decide (p1<((List.length p6:Nat):Int))) (.ite (decide (0≤p1)) (.get (nth p6 (Int.toNat p1)) λy1=> .ite ((y1.1==p0)) (.ret (.ret ((p1,()),()))) (.ret (.again ((p0,(IntKind.i64.wrap (p1+(1:Int))),()),((p2,p3,p4,p5,p6,p7,p8,p9,cH,()),()))))) .fail) (.ret (.out ((),())))
def sZ (a0:Int) (a1:Int) (a2:List (List az)) (a3:List af) (a4:List aj) (a5:List ag) (a6:List ag) (a7:List Int) (a8:List Int) (a9:Int):Out (((Int×Unit)×Unit)×XI):= .get (iter vC bc ((a9,(0:Int),()),((a0,a1,a2,a3,a4,a5,a6,a7,a8,()),()))) λy1=> .alt y1 (λ_=> .ret ((((-1:Int),()),()),((),(),()))) (λy3=> .ret (((y3.1.1,()),()),((),(),())))
def aec:Nat→Option aq:=λn=>b6 [(0,⟨⟨[.dead, .i .i64, .vptr 64000000 0, .dead, .dead, .i .i64]++dd 16,yV⟩,⟨dd 22,[]⟩,some ⟨dd 4++[.i .i64]++dd 17,[]⟩,false⟩)] n
def KU:bZ:={ f:=45,lend:=true,aJ:=[⟨false,true,[.i .i64, .i .i64, .ro (.sl dk), .ro jM, .ro dZ, .ro dU, .ro dU, .ro (.int .i64), .ro (.int .i64)]⟩,⟨false,false,[.i .i64]⟩],lay:=[none,none],rs:=[⟨false,false,[.i .i64]⟩],F:=λx=> .ret ((((aF x.1.2.2.2.2.1 x.2.1.1),()),()),((),(),())) }
theorem Yt (x:au KU.aJ):bo [] aec Tryz.f45 KU [.tmp 4] x=sZ x.1.1 x.1.2.1 x.1.2.2.1 x.1.2.2.2.1 x.1.2.2.2.2.1 x.1.2.2.2.2.2.1 x.1.2.2.2.2.2.2.1 x.1.2.2.2.2.2.2.2.1 x.1.2.2.2.2.2.2.2.2.1 x.2.1.1:=by kernel_rfl
theorem Yu (hr:∀ x:bw×(Int×Unit)×Unit,aD KU.aJ x→(sZ x.1.1 x.1.2.1 x.1.2.2.1 x.1.2.2.2.1 x.1.2.2.2.2.1 x.1.2.2.2.2.2.1 x.1.2.2.2.2.2.2.1 x.1.2.2.2.2.2.2.2.1 x.1.2.2.2.2.2.2.2.2.1 x.2.1.1).eval=(KU.F x).eval):KU.Ok Tryz.prog:=aO [] trivial Yt λx hw _ hy=>(hr x hw).trans hy
theorem vD:KU.Ok Tryz.prog:=by
 refine Yu λx hw=> ?_;obtain ⟨⟨a0,a1,a2,a3,a4,a5,a6,a7,a8,_⟩,⟨a9,_⟩,_⟩:=x;have l2:List.length a2≤aM:=hw.1.1.1;have l3:List.length a3≤aM:=hw.1.2.1.1;have l4:List.length a4≤aM:=hw.1.2.2.1.1;have l5:List.length a5≤aM:=hw.1.2.2.2.1.1;have l6:List.length a6≤aM:=hw.1.2.2.2.2.1.1;have l7:List.length a7≤aM:=hw.1.2.2.2.2.2.1.1;have l8:List.length a8≤aM:=hw.1.2.2.2.2.2.2.1.1;show (sZ a0 a1 a2 a3 a4 a5 a6 a7 a8 a9).eval=some ((((aF a4 a9),()),()),((),(),()));unfold sZ aF cU fj;have h:iter vC bc ((a9,(0:Int),()),((a0,a1,a2,a3,a4,a5,a6,a7,a8,()),()))=some (match List.findIdx? (λx=>al x==a9) a4 with|some i=> .inr ((((i:Nat):Int),()),())|none=> .inl ((),())):=dY (f:=vC) a4 (λx=>al x==a9) (λi=>((a9,((i:Nat):Int),()),((a0,a1,a2,a3,a4,a5,a6,a7,a8,()),()))) (y:=((),())) (z:=λi=>((((i:Nat):Int),()),()))
  (λi hi hp=>by
   have h1:=aw (i:=i) (by omega);simp [vC,Out.eval,hi,h1,cond_eq_ite,al] at hp ⊢ <;>(try simp_all)<;>(try (rcases hp with h|h<;>simp_all)))
  (λi hi hp=>by simp [vC,Out.eval,hi,cond_eq_ite,al] at hp ⊢ <;>(try simp_all)<;>(try (rcases hp with h|h<;>simp_all)))
  (by simp [vC,Out.eval]) l4
 refine (aa h).trans ?_;cases List.findIdx? (λx=>al x==a9) a4<;>rfl
abbrev NO:=(Int×Int×Unit)×(bw×Unit)
def vE:NO→Out (Round NO ((Unit)×(Unit)) ((Int×Unit)×(Unit)))
|((p0,p1,_),(p2,p3,p4,p5,p6,p7,p8,p9,cH,_),_)=> .ite (decide (p1<((List.length p7:Nat):Int))) (.ite (decide (0≤p1)) (.get (nth p7 (Int.toNat p1)) λy1=> .ite ((y1.1==p0)) (.ret (.ret ((p1,()),()))) (.ret (.again ((p0,(IntKind.i64.wrap (p1+(1:Int))),()),((p2,p3,p4,p5,p6,p7,p8,p9,cH,()),()))))) .fail) (.ret (.out ((),())))
def s4 (a0:Int) (a1:Int) (a2:List (List az)) (a3:List af) (a4:List aj) (a5:List ag) (a6:List ag) (a7:List Int) (a8:List Int) (a9:Int):Out (((Int×Unit)×Unit)×XI):= .get (iter vE bc ((a9,(0:Int),()),((a0,a1,a2,a3,a4,a5,a6,a7,a8,()),()))) λy1=> .alt y1 (λ_=> .ret ((((-1:Int),()),()),((),(),()))) (λy3=> .ret (((y3.1.1,()),()),((),(),())))
def aed:Nat→Option aq:=λn=>b6 [(0,⟨⟨[.dead, .i .i64, .vptr 64000000 0, .dead, .dead, .i .i64]++dd 16,yV⟩,⟨dd 22,[]⟩,some ⟨dd 4++[.i .i64]++dd 17,[]⟩,false⟩)] n
def LU:bZ:={ f:=81,lend:=true,aJ:=[⟨false,true,[.i .i64, .i .i64, .ro (.sl dk), .ro jM, .ro dZ, .ro dU, .ro dU, .ro (.int .i64), .ro (.int .i64)]⟩,⟨false,false,[.i .i64]⟩],lay:=[none,none],rs:=[⟨false,false,[.i .i64]⟩],F:=λx=> .ret ((((ba x.1.2.2.2.2.2.1 x.2.1.1),()),()),((),(),())) }
theorem Yv (x:au LU.aJ):bo [] aed Tryz.f81 LU [.tmp 4] x=s4 x.1.1 x.1.2.1 x.1.2.2.1 x.1.2.2.2.1 x.1.2.2.2.2.1 x.1.2.2.2.2.2.1 x.1.2.2.2.2.2.2.1 x.1.2.2.2.2.2.2.2.1 x.1.2.2.2.2.2.2.2.2.1 x.2.1.1:=by kernel_rfl
theorem Yw (hr:∀ x:bw×(Int×Unit)×Unit,aD LU.aJ x→(s4 x.1.1 x.1.2.1 x.1.2.2.1 x.1.2.2.2.1 x.1.2.2.2.2.1 x.1.2.2.2.2.2.1 x.1.2.2.2.2.2.2.1 x.1.2.2.2.2.2.2.2.1 x.1.2.2.2.2.2.2.2.2.1 x.2.1.1).eval=(LU.F x).eval):LU.Ok Tryz.prog:=aO [] trivial Yv λx hw _ hy=>(hr x hw).trans hy
theorem yW:LU.Ok Tryz.prog:=by
 refine Yw λx hw=> ?_;obtain ⟨⟨a0,a1,a2,a3,a4,a5,a6,a7,a8,_⟩,⟨a9,_⟩,_⟩:=x;have l2:List.length a2≤aM:=hw.1.1.1;have l3:List.length a3≤aM:=hw.1.2.1.1;have l4:List.length a4≤aM:=hw.1.2.2.1.1;have l5:List.length a5≤aM:=hw.1.2.2.2.1.1;have l6:List.length a6≤aM:=hw.1.2.2.2.2.1.1;have l7:List.length a7≤aM:=hw.1.2.2.2.2.2.1.1;have l8:List.length a8≤aM:=hw.1.2.2.2.2.2.2.1.1;show (s4 a0 a1 a2 a3 a4 a5 a6 a7 a8 a9).eval=some ((((ba a5 a9),()),()),((),(),()));unfold s4 ba cU fj;have h:iter vE bc ((a9,(0:Int),()),((a0,a1,a2,a3,a4,a5,a6,a7,a8,()),()))=some (match List.findIdx? (λx=>aB x==a9) a5 with|some i=> .inr ((((i:Nat):Int),()),())|none=> .inl ((),())):=dY (f:=vE) a5 (λx=>aB x==a9) (λi=>((a9,((i:Nat):Int),()),((a0,a1,a2,a3,a4,a5,a6,a7,a8,()),()))) (y:=((),())) (z:=λi=>((((i:Nat):Int),()),()))
  (λi hi hp=>by
   have h1:=aw (i:=i) (by omega);simp [vE,Out.eval,hi,h1,cond_eq_ite,aB] at hp ⊢ <;>(try simp_all)<;>(try (rcases hp with h|h<;>simp_all)))
  (λi hi hp=>by simp [vE,Out.eval,hi,cond_eq_ite,aB] at hp ⊢ <;>(try simp_all)<;>(try (rcases hp with h|h<;>simp_all)))
  (by simp [vE,Out.eval]) l5
 refine (aa h).trans ?_;cases List.findIdx? (λx=>aB x==a9) a5<;>rfl
abbrev NP:=(Int×Int×Unit)×(bw×Unit)
def vF:NP→Out (Round NP ((Unit)×(Unit)) ((Int×Unit)×(Unit)))
|((p0,p1,_),(p2,p3,p4,p5,p6,p7,p8,p9,cH,_),_)=> .ite (decide (p1<((List.length p8:Nat):Int))) (.ite (decide (0≤p1)) (.get (nth p8 (Int.toNat p1)) λy1=> .ite ((y1.1==p0)) (.ret (.ret ((p1,()),()))) (.ret (.again ((p0,(IntKind.i64.wrap (p1+(1:Int))),()),((p2,p3,p4,p5,p6,p7,p8,p9,cH,()),()))))) .fail) (.ret (.out ((),())))
def s5 (a0:Int) (a1:Int) (a2:List (List az)) (a3:List af) (a4:List aj) (a5:List ag) (a6:List ag) (a7:List Int) (a8:List Int) (a9:Int):Out (((Int×Unit)×Unit)×XI):= .get (iter vF bc ((a9,(0:Int),()),((a0,a1,a2,a3,a4,a5,a6,a7,a8,()),()))) λy1=> .alt y1 (λ_=> .ret ((((-1:Int),()),()),((),(),()))) (λy3=> .ret (((y3.1.1,()),()),((),(),())))
def aee:Nat→Option aq:=λn=>b6 [(0,⟨⟨[.dead, .i .i64, .vptr 64000000 0, .dead, .dead, .i .i64]++dd 16,yV⟩,⟨dd 22,[]⟩,some ⟨dd 4++[.i .i64]++dd 17,[]⟩,false⟩)] n
def LV:bZ:={ f:=80,lend:=true,aJ:=[⟨false,true,[.i .i64, .i .i64, .ro (.sl dk), .ro jM, .ro dZ, .ro dU, .ro dU, .ro (.int .i64), .ro (.int .i64)]⟩,⟨false,false,[.i .i64]⟩],lay:=[none,none],rs:=[⟨false,false,[.i .i64]⟩],F:=λx=> .ret ((((bj x.1.2.2.2.2.2.2.1 x.2.1.1),()),()),((),(),())) }
theorem Yx (x:au LV.aJ):bo [] aee Tryz.f80 LV [.tmp 4] x=s5 x.1.1 x.1.2.1 x.1.2.2.1 x.1.2.2.2.1 x.1.2.2.2.2.1 x.1.2.2.2.2.2.1 x.1.2.2.2.2.2.2.1 x.1.2.2.2.2.2.2.2.1 x.1.2.2.2.2.2.2.2.2.1 x.2.1.1:=by kernel_rfl
theorem Yy (hr:∀ x:bw×(Int×Unit)×Unit,aD LV.aJ x→(s5 x.1.1 x.1.2.1 x.1.2.2.1 x.1.2.2.2.1 x.1.2.2.2.2.1 x.1.2.2.2.2.2.1 x.1.2.2.2.2.2.2.1 x.1.2.2.2.2.2.2.2.1 x.1.2.2.2.2.2.2.2.2.1 x.2.1.1).eval=(LV.F x).eval):LV.Ok Tryz.prog:=aO [] trivial Yx λx hw _ hy=>(hr x hw).trans hy
theorem yX:LV.Ok Tryz.prog:=by
 refine Yy λx hw=> ?_;obtain ⟨⟨a0,a1,a2,a3,a4,a5,a6,a7,a8,_⟩,⟨a9,_⟩,_⟩:=x;have l2:List.length a2≤aM:=hw.1.1.1;have l3:List.length a3≤aM:=hw.1.2.1.1;have l4:List.length a4≤aM:=hw.1.2.2.1.1;have l5:List.length a5≤aM:=hw.1.2.2.2.1.1;have l6:List.length a6≤aM:=hw.1.2.2.2.2.1.1;have l7:List.length a7≤aM:=hw.1.2.2.2.2.2.1.1;have l8:List.length a8≤aM:=hw.1.2.2.2.2.2.2.1.1;show (s5 a0 a1 a2 a3 a4 a5 a6 a7 a8 a9).eval=some ((((bj a6 a9),()),()),((),(),()));unfold s5 bj cU fj;have h:iter vF bc ((a9,(0:Int),()),((a0,a1,a2,a3,a4,a5,a6,a7,a8,()),()))=some (match List.findIdx? (λx=>aR x==a9) a6 with|some i=> .inr ((((i:Nat):Int),()),())|none=> .inl ((),())):=dY (f:=vF) a6 (λx=>aR x==a9) (λi=>((a9,((i:Nat):Int),()),((a0,a1,a2,a3,a4,a5,a6,a7,a8,()),()))) (y:=((),())) (z:=λi=>((((i:Nat):Int),()),()))
  (λi hi hp=>by
   have h1:=aw (i:=i) (by omega);simp [vF,Out.eval,hi,h1,cond_eq_ite,aR] at hp ⊢ <;>(try simp_all)<;>(try (rcases hp with h|h<;>simp_all)))
  (λi hi hp=>by simp [vF,Out.eval,hi,cond_eq_ite,aR] at hp ⊢ <;>(try simp_all)<;>(try (rcases hp with h|h<;>simp_all)))
  (by simp [vF,Out.eval]) l6
 refine (aa h).trans ?_;cases List.findIdx? (λx=>aR x==a9) a6<;>rfl
abbrev NQ:=XE×(Unit)
def yY:NQ→Out (Round NQ ((Unit)×(Unit)) ((Bool×Unit)×(Unit)))
|((p0,p1,p2,_),_)=> .ite (decide (p2<((List.length p0:Nat):Int))) (.ite (decide (0≤p2)) (.get (nth p0 (Int.toNat p2)) λy1=> .ite ((y1==p1)) (.ret (.ret ((true,()),()))) (.ret (.again ((p0,p1,(IntKind.i64.wrap (p2+(1:Int))),()),())))) .fail) (.ret (.out ((),())))
def s6 (a0:List Int) (a1:Int):Out (((Bool×Unit)×Unit)×XI):= .get (iter yY bc ((a0,a1,(0:Int),()),())) λy1=> .alt y1 (λ_=> .ret (((false,()),()),((),(),()))) (λy3=> .ret (((y3.1.1,()),()),((),(),())))
def aef:Nat→Option aq:=λn=>b6 [(0,⟨⟨[.ro (.int .i64) (some 0), .i .i64, .dead, .dead, .dead, .i .i64]++dd 12,[]⟩,⟨dd 18,[]⟩,some ⟨dd 4++[.b]++dd 13,[]⟩,false⟩)] n
def QE:bZ:={ f:=47,lend:=true,aJ:=[⟨false,false,[.ro (.int .i64)]⟩,⟨false,false,[.i .i64]⟩],lay:=[none,none],rs:=[⟨false,false,[.b]⟩],F:=λx=> .ret ((((kJ x.1.1 x.2.1.1),()),()),((),(),())) }
theorem Yz (x:au QE.aJ):bo [] aef Tryz.f47 QE [.tmp 4] x=s6 x.1.1 x.2.1.1:=by kernel_rfl
theorem YA (hr:∀ x:(List Int×Unit)×(Int×Unit)×Unit,aD QE.aJ x→(s6 x.1.1 x.2.1.1).eval=(QE.F x).eval):QE.Ok Tryz.prog:=aO [] trivial Yz λx hw _ hy=>(hr x hw).trans hy
theorem NR:QE.Ok Tryz.prog:=by
 refine YA λx hw=> ?_;obtain ⟨⟨a0,_⟩,⟨a1,_⟩,_⟩:=x;have l0:List.length a0≤aM:=hw.1.1.1;show (s6 a0 a1).eval=some ((((kJ a0 a1),()),()),((),(),()));unfold s6 kJ;have h:iter yY bc ((a0,a1,(0:Int),()),())=some (if List.any a0 (λy=>decide (y=a1))=true then .inr ((true,()),()) else .inl ((),())):=Ft (f:=yY) a0 (λy=>decide (y=a1)) (λi=>((a0,a1,((i:Nat):Int),()),())) (y:=((),())) (z:=((true,()),()))
  (λi hi=>by
   have h1:=aw (i:=i) (by omega);cases q:(λy=>decide (y=a1)) a0[i]<;>simp [yY,Out.eval,hi,h1,cond_eq_ite] at q ⊢ <;>simp_all)
  (by simp [yY,Out.eval]) l0
 refine (aa h).trans ?_;cases List.any a0 (λy=>decide (y=a1))<;>rfl
abbrev NS:=(Int×Int×Unit)×(bw×Unit)
def yZ:NS→Out (Round NS ((Int×Unit)×(Unit)) Empty)
|((p0,p1,_),(p2,p3,p4,p5,p6,p7,p8,p9,cH,_),_)=> .ite (decide (p1<((List.length p5:Nat):Int))) (.ite (decide (0≤p1)) (.get (nth p5 (Int.toNat p1)) λy1=> .ite ((4:Int)==0) .fail (.ret (.again (((IntKind.i64.wrap (p0+(IntKind.i64.wrap (Int.tdiv ((List.length y1.2.2.2.2.2.1:Nat):Int) (4:Int))))),(IntKind.i64.wrap (p1+(1:Int))),()),((p2,p3,p4,p5,p6,p7,p8,p9,cH,()),()))))) .fail) (.ret (.out ((p0,()),())))
def s7 (a0:Int) (a1:Int) (a2:List (List az)) (a3:List af) (a4:List aj) (a5:List ag) (a6:List ag) (a7:List Int) (a8:List Int):Out (((Int×Unit)×Unit)×(Unit×Unit)):= .get (bx yZ bc (((0:Int),(0:Int),()),((a0,a1,a2,a3,a4,a5,a6,a7,a8,()),()))) λy1=> .ret (((y1.1.1,()),()),((),()))
def aeg:Nat→Option aq:=λn=>b6 [(0,⟨⟨[.dead, .vptr 64000000 0, .dead, .i .i64, .i .i64]++dd 18,yV⟩,⟨[.dead, .dead, .dead, .i .i64]++dd 19,[]⟩,none,false⟩)] n
def RV:bZ:={ f:=21,lend:=true,aJ:=[⟨false,true,[.i .i64, .i .i64, .ro (.sl dk), .ro jM, .ro dZ, .ro dU, .ro dU, .ro (.int .i64), .ro (.int .i64)]⟩],lay:=[none],rs:=[⟨false,false,[.i .i64]⟩],F:=λx=> .ret ((((mx x.1.2.2.2.1),()),()),((),())) }
theorem YB (x:au RV.aJ):bo [] aeg Tryz.f21 RV [.tmp 2] x=s7 x.1.1 x.1.2.1 x.1.2.2.1 x.1.2.2.2.1 x.1.2.2.2.2.1 x.1.2.2.2.2.2.1 x.1.2.2.2.2.2.2.1 x.1.2.2.2.2.2.2.2.1 x.1.2.2.2.2.2.2.2.2.1:=by kernel_rfl
theorem YC (hr:∀ x:bw×Unit,aD RV.aJ x→(s7 x.1.1 x.1.2.1 x.1.2.2.1 x.1.2.2.2.1 x.1.2.2.2.2.1 x.1.2.2.2.2.2.1 x.1.2.2.2.2.2.2.1 x.1.2.2.2.2.2.2.2.1 x.1.2.2.2.2.2.2.2.2.1).eval=(RV.F x).eval):RV.Ok Tryz.prog:=aO [] trivial YB λx hw _ hy=>(hr x hw).trans hy
theorem NT:RV.Ok Tryz.prog:=by
 refine YC λx hw=> ?_;obtain ⟨⟨a0,a1,a2,a3,a4,a5,a6,a7,a8,_⟩,_⟩:=x;have l2:List.length a2≤aM:=hw.1.1.1;have l3:List.length a3≤aM:=hw.1.2.1.1;have l4:List.length a4≤aM:=hw.1.2.2.1.1;have l5:List.length a5≤aM:=hw.1.2.2.2.1.1;have l6:List.length a6≤aM:=hw.1.2.2.2.2.1.1;have l7:List.length a7≤aM:=hw.1.2.2.2.2.2.1.1;have l8:List.length a8≤aM:=hw.1.2.2.2.2.2.2.1.1;show (s7 a0 a1 a2 a3 a4 a5 a6 a7 a8).eval=some ((((mx a3),()),()),((),()));unfold s7 mx;have h:bx yZ bc (((0:Int),(0:Int),()),((a0,a1,a2,a3,a4,a5,a6,a7,a8,()),()))=some (((List.foldl (λ(n:Int) (p:af)=>IntKind.i64.wrap (n+((p.2.2.2.2.2.1.length / 4:Nat):Int))) (0:Int) a3),()),()):=foldl_loop (f:=yZ) (λ_ _=>True) (λ(n:Int) (p:af)=>IntKind.i64.wrap (n+((p.2.2.2.2.2.1.length / 4:Nat):Int))) a3 (λd i=>((d,((i:Nat):Int),()),((a0,a1,a2,a3,a4,a5,a6,a7,a8,()),()))) (λd=>((d,()),()))
  (λi hi d _=>by
   have h1:=aw (i:=i) (by omega);have lj:List.length a3[i].2.2.2.2.2.1≤9223372036854775807:=(hw.1.2.1.2 i a3[i] (aa2 hi)).2.2.2.2.2.1.1;have h2:IntKind.i64.wrap (((List.length a3[i].2.2.2.2.2.1:Nat):Int) / 4)=((List.length a3[i].2.2.2.2.2.1:Nat):Int) / 4:=b7 (by omega) (by omega);simp [yZ,Out.eval,hi,h1,cond_eq_ite,h2])
  (λd _=>by simp [yZ,Out.eval]) (λ_ _ _ _=>trivial) l3 (0:Int) trivial
 exact aa h
def s8 (a0:Int) (a1:List Int):Out (((Bool×Unit)×Unit)×(Unit×Unit)):= .ite ((dh a0 (0:Int) (40:Int))==true) (.ite (((((List.length a1:Nat):Int)==(4:Int)))==true) (.ret ((((aG a1),()),()),((),()))) (.ret (((false,()),()),((),())))) (.ret (((false,()),()),((),())))
def RW:bZ:={ f:=44,lend:=true,aJ:=[⟨false,true,[.i .i64, .ro (.int .i64)]⟩],lay:=[none],rs:=[⟨false,false,[.b]⟩],F:=λx=> .ret ((((aP x.1.1 x.1.2.1),()),()),((),())) }
theorem YD (x:au RW.aJ):bo [vu,I4] (λ_=>none) Tryz.f44 RW [.tmp 2] x=s8 x.1.1 x.1.2.1:=by kernel_rfl
theorem YE (hr:∀ x:ag×Unit,aD RW.aJ x→(s8 x.1.1 x.1.2.1).eval=(RW.F x).eval):RW.Ok Tryz.prog:=aO [vu,I4] ⟨jW,Dq,trivial⟩ YD λx hw _ hy=>(hr x hw).trans hy
theorem NU:RW.Ok Tryz.prog:=by
 refine YE λx hw=> ?_;obtain ⟨⟨a0,a1,_⟩,_⟩:=x;have l1:List.length a1≤aM:=hw.1.1.1;show (s8 a0 a1).eval=some ((((aP a0 a1),()),()),((),()));unfold s8 aP mw;simp only [eq4,By];cases dh a0 0 40<;>cases decide (List.length a1=4)<;>rfl
abbrev NV:=(List (List az)×Int×Unit)×(Unit)
def za:NV→Out (Round NV ((Unit)×(Unit)) ((Bool×Unit)×(Unit)))
|((p0,p1,_),_)=> .ite (decide (p1<((List.length p0:Nat):Int))) (.ite (decide (0≤p1)) (.get (nth p0 (Int.toNat p1)) λy1=> .ite (!(bH y1)) (.ret (.ret ((false,()),()))) (.ret (.again ((p0,(IntKind.i64.wrap (p1+(1:Int))),()),())))) .fail) (.ret (.out ((),())))
def s9 (a0:List (List az)):Out (((Bool×Unit)×Unit)×(Unit×Unit)):= .ite (!(dh ((List.length a0:Nat):Int) (1:Int) (4:Int))) (.ret (((false,()),()),((),()))) (.get (iter za bc ((a0,(0:Int),()),())) λy1=> .alt y1 (λ_=> .ret (((true,()),()),((),()))) (λy3=> .ret (((y3.1.1,()),()),((),()))))
def aeh:Nat→Option aq:=λn=>b6 [(0,⟨⟨[.ro (.sl dk) (some 0), .dead, .dead, .i .i64]++dd 16,[]⟩,⟨dd 20,[]⟩,some ⟨[.dead, .dead, .b]++dd 17,[]⟩,false⟩)] n
def Rt:bZ:={ f:=19,lend:=true,aJ:=[⟨false,false,[.ro (.sl dk)]⟩],lay:=[none],rs:=[⟨false,false,[.b]⟩],F:=λx=> .ret ((((cO x.1.1),()),()),((),())) }
theorem YF (x:au Rt.aJ):bo [vu,UU] aeh Tryz.f19 Rt [.tmp 2] x=s9 x.1.1:=by kernel_rfl
theorem YG (hr:∀ x:(List (List az)×Unit)×Unit,aD Rt.aJ x→(s9 x.1.1).eval=(Rt.F x).eval):Rt.Ok Tryz.prog:=aO [vu,UU] ⟨jW,Yc,trivial⟩ YF λx hw _ hy=>(hr x hw).trans hy
theorem M3:Rt.Ok Tryz.prog:=by
 refine YG λx hw=> ?_;obtain ⟨⟨a0,_⟩,_⟩:=x;have l0:List.length a0≤aM:=hw.1.1.1;show (s9 a0).eval=some ((((cO a0),()),()),((),()));unfold s9 cO;have e1:dh ((List.length a0:Nat):Int) 1 4=(decide (1≤List.length a0)&&decide (List.length a0≤4)):=by
  unfold dh;congr 1<;>(rw [ace];simp;omega)
 rw [e1];have h:iter za bc ((a0,(0:Int),()),())=some (if List.all a0 bH=true then .inl ((),()) else .inr ((false,()),())):=vz (f:=za) a0 bH (λi=>((a0,((i:Nat):Int),()),())) (y:=((),())) (z:=((false,()),()))
  (λi hi=>by
   have h1:=aw (i:=i) (by omega);cases q:bH a0[i]<;>simp [za,Out.eval,hi,h1,cond_eq_ite] at q ⊢ <;>simp_all)
  (by simp [za,Out.eval]) l0
 cases decide (1≤List.length a0)&&decide (List.length a0≤4)
 . rfl
 . refine (ae rfl).trans ((aa h).trans ?_)
   cases List.all a0 bH<;>rfl
theorem NW {β:Type} (st code par:Int) (n:Nat) (r:Bool→β):
  (Out.ite (st==(6:Int)) (Out.ite (((((n:Nat):Int)==(0:Int)))==true) (.ret (r (par != (0:Int)))) (.ret (r false))) (Out.ite ((decide (((n:Nat):Int)>(0:Int)))==true) (.ret (r (code==(0:Int)))) (.ret (r false)))).eval=
   some (r (if st=6 then decide (n=0)&& !(par==0) else decide (0<n)&&code==0)):=by
 simp only [Out.eval,cond_eq_ite];rcases Nat.eq_zero_or_pos n with h2|h2
 . subst h2
   by_cases h:st=6<;>simp [h,bne]
 . have h3:¬ n=0:=by omega
   by_cases h:st=6<;>simp [h,h2,h3]
theorem KV {β:Type} (tick st nM v code par:Int) (u:Bool) (n:Nat) (r:Bool→β) (e:Out β)
  (he:e.eval=some (r (if st=6 then decide (n=0)&& !(par==0) else decide (0<n)&&code==0))):
  (Out.ite (st==(2:Int)) (.ite (decide (nM≤tick)) (.ret (r false)) e)
   (.ite (st==(4:Int)) (.ite ((decide (v<(0:Int)))==false) (.ite (!u) (.ret (r false)) e) (.ret (r false)))
    (.ite (st==(5:Int)) (.ite ((decide (v<(0:Int)))==false) (.ite (!u) (.ret (r false)) e) (.ret (r false)))
     (.ite (nM != (0:Int)) (.ret (r false)) e)))).eval=
   some (r ((if st=2 then decide (tick<nM) else if st=4∨st=5 then u&&decide (0≤v) else nM==0)&&(if st=6 then decide (n=0)&& !(par==0) else decide (0<n)&&code==0))):=by
 generalize (if st=6 then decide (n=0)&& !(par==0) else decide (0<n)&&code==0)=b at*;simp only [Out.eval,cond_eq_ite,he];by_cases h2:st=2
 . by_cases h:nM≤tick
   . have:¬ tick<nM:=by omega
     simp [h2,h,this]
   . have:tick<nM:=by omega
     simp [h2,h,this]
 . by_cases h4:st=4
   . by_cases h:v<0
     . have:¬ 0≤v:=by omega
       simp [h4,h,this]
     . have:0≤v:=by omega
       cases u<;>simp [h4,h,this]
   . by_cases h5:st=5
     . by_cases h:v<0
       . have:¬ 0≤v:=by omega
         simp [h5,h,this]
       . have:0≤v:=by omega
         cases u<;>simp [h5,h,this]
     . by_cases h0:nM=0
       . simp [h2,h4,h5,h0]
       . have h1:(nM==(0:Int))=false:=by simpa using h0
         simp [h2,h4,h5,h0,h1]
abbrev NX:=(Int×Unit)×(bw×XM×Unit)
def zb:NX→Out (Round NX ((Unit)×(bw×XM×Unit)) ((Bool×Unit)×(Unit)))
|((p0,_),(p1,p2,p3,p4,p5,p6,p7,p8,p9,_),(cH,cK,eH,eU,ei,dq,eI,fD,fN,fk,_),_)=> .ite (decide (p0<((List.length fD:Nat):Int))) (.ite (decide (0≤p0)) (.get (nth fD (Int.toNat p0)) λy1=> .ite (((y1 != (-1:Int)))==true) (.ite (decide (0≤p0)) (.get (nth fD (Int.toNat p0)) λy2=> .ite ((decide ((aF p5 y2)<(0:Int)))==false) (.ite ((eH==(6:Int))) (.ret (.ret ((false,()),()))) (.ret (.again (((IntKind.i64.wrap (p0+(1:Int))),()),((p1,p2,p3,p4,p5,p6,p7,p8,p9,()),(cH,cK,eH,eU,ei,dq,eI,fD,fN,fk,()),()))))) (.ret (.ret ((false,()),())))) .fail) (.ret (.again (((IntKind.i64.wrap (p0+(1:Int))),()),((p1,p2,p3,p4,p5,p6,p7,p8,p9,()),(cH,cK,eH,eU,ei,dq,eI,fD,fN,fk,()),()))))) .fail) (.ret (.out ((),((p1,p2,p3,p4,p5,p6,p7,p8,p9,()),(cH,cK,eH,eU,ei,dq,eI,fD,fN,fk,()),()))))
def ta (a0:Int) (a1:Int) (a2:List (List az)) (a3:List af) (a4:List aj) (a5:List ag) (a6:List ag) (a7:List Int) (a8:List Int) (a9:Int) (eR:Int) (iu:Int) (a12:Int) (ma:Int) (xB:List Int) (kK:List Int) (kG:List Int) (ra:Int) (uI:Int):Out (((Bool×Unit)×Unit)×XI):= .ite ((!(dh iu (1:Int) (6:Int)))==false) (.ite ((decide (a12<(0:Int)))==false) (.ite ((decide (a12≥((List.length a2:Nat):Int)))==false) (.ite ((!(aP ma xB))==false) (.ite ((decide (((List.length kK:Nat):Int)>(12:Int)))==false) (.ite ((4:Int)==0) .fail (.ite ((((Int.tmod ((List.length kK:Nat):Int) (4:Int)) != (0:Int)))==false) (.ite ((!(aG kK))==false) (.ite (((((List.length kG:Nat):Int) != (4:Int)))==false) (.ite (!(bV uI)) (.ret (((false,()),()),((),(),()))) (.get (iter zb bc (((0:Int),()),((a0,a1,a2,a3,a4,a5,a6,a7,a8,()),(a9,eR,iu,a12,ma,xB,kK,kG,ra,uI,()),()))) λy1=> .alt y1 (λy2=> .ite ((y2.2.2.1.2.1 != (0:Int))) (.ite ((decide ((ak y2.2.1.2.2.2.1 y2.2.2.1.2.1)<(0:Int)))==false) (.ite (((y2.2.2.1.2.1==y2.2.2.1.1))==false) (.ite (decide (0≤(ak y2.2.1.2.2.2.1 y2.2.2.1.2.1))) (.get (nth y2.2.1.2.2.2.1 (Int.toNat (ak y2.2.1.2.2.2.1 y2.2.2.1.2.1))) λy4=> .ite ((y4.2.2.1==(6:Int))) (.ret (((false,()),()),((),(),()))) (.ite ((y2.2.2.1.2.2.1==(2:Int))) (.ite (decide (y2.2.2.1.2.2.2.2.2.2.2.2.1≤y2.2.1.2.1)) (.ret (((false,()),()),((),(),()))) (.ite ((y2.2.2.1.2.2.1==(6:Int))) (.ite (((((List.length y2.2.2.1.2.2.2.2.2.2.1:Nat):Int)==(0:Int)))==true) (.ret (((((y2.2.2.1.2.1 != (0:Int))),()),()),((),(),()))) (.ret (((false,()),()),((),(),())))) (.ite ((decide (((List.length y2.2.2.1.2.2.2.2.2.2.1:Nat):Int)>(0:Int)))==true) (.ret (((((y2.2.2.1.2.2.2.2.2.2.2.2.2.1==(0:Int))),()),()),((),(),()))) (.ret (((false,()),()),((),(),())))))) (.ite ((y2.2.2.1.2.2.1==(4:Int))) (.ite ((decide ((aF y2.2.1.2.2.2.2.1 y2.2.2.1.2.2.2.2.2.2.2.2.1)<(0:Int)))==false) (.ite (!(kJ y2.2.2.1.2.2.2.2.2.2.2.1 y2.2.2.1.2.2.2.2.2.2.2.2.1)) (.ret (((false,()),()),((),(),()))) (.ite ((y2.2.2.1.2.2.1==(6:Int))) (.ite (((((List.length y2.2.2.1.2.2.2.2.2.2.1:Nat):Int)==(0:Int)))==true) (.ret (((((y2.2.2.1.2.1 != (0:Int))),()),()),((),(),()))) (.ret (((false,()),()),((),(),())))) (.ite ((decide (((List.length y2.2.2.1.2.2.2.2.2.2.1:Nat):Int)>(0:Int)))==true) (.ret (((((y2.2.2.1.2.2.2.2.2.2.2.2.2.1==(0:Int))),()),()),((),(),()))) (.ret (((false,()),()),((),(),())))))) (.ret (((false,()),()),((),(),())))) (.ite ((y2.2.2.1.2.2.1==(5:Int))) (.ite ((decide ((aF y2.2.1.2.2.2.2.1 y2.2.2.1.2.2.2.2.2.2.2.2.1)<(0:Int)))==false) (.ite (!(kJ y2.2.2.1.2.2.2.2.2.2.2.1 y2.2.2.1.2.2.2.2.2.2.2.2.1)) (.ret (((false,()),()),((),(),()))) (.ite ((y2.2.2.1.2.2.1==(6:Int))) (.ite (((((List.length y2.2.2.1.2.2.2.2.2.2.1:Nat):Int)==(0:Int)))==true) (.ret (((((y2.2.2.1.2.1 != (0:Int))),()),()),((),(),()))) (.ret (((false,()),()),((),(),())))) (.ite ((decide (((List.length y2.2.2.1.2.2.2.2.2.2.1:Nat):Int)>(0:Int)))==true) (.ret (((((y2.2.2.1.2.2.2.2.2.2.2.2.2.1==(0:Int))),()),()),((),(),()))) (.ret (((false,()),()),((),(),())))))) (.ret (((false,()),()),((),(),())))) (.ite ((y2.2.2.1.2.2.2.2.2.2.2.2.1 != (0:Int))) (.ret (((false,()),()),((),(),()))) (.ite ((y2.2.2.1.2.2.1==(6:Int))) (.ite (((((List.length y2.2.2.1.2.2.2.2.2.2.1:Nat):Int)==(0:Int)))==true) (.ret (((((y2.2.2.1.2.1 != (0:Int))),()),()),((),(),()))) (.ret (((false,()),()),((),(),())))) (.ite ((decide (((List.length y2.2.2.1.2.2.2.2.2.2.1:Nat):Int)>(0:Int)))==true) (.ret (((((y2.2.2.1.2.2.2.2.2.2.2.2.2.1==(0:Int))),()),()),((),(),()))) (.ret (((false,()),()),((),(),())))))))))) .fail) (.ret (((false,()),()),((),(),())))) (.ret (((false,()),()),((),(),())))) (.ite ((y2.2.2.1.2.2.1==(2:Int))) (.ite (decide (y2.2.2.1.2.2.2.2.2.2.2.2.1≤y2.2.1.2.1)) (.ret (((false,()),()),((),(),()))) (.ite ((y2.2.2.1.2.2.1==(6:Int))) (.ite (((((List.length y2.2.2.1.2.2.2.2.2.2.1:Nat):Int)==(0:Int)))==true) (.ret (((((y2.2.2.1.2.1 != (0:Int))),()),()),((),(),()))) (.ret (((false,()),()),((),(),())))) (.ite ((decide (((List.length y2.2.2.1.2.2.2.2.2.2.1:Nat):Int)>(0:Int)))==true) (.ret (((((y2.2.2.1.2.2.2.2.2.2.2.2.2.1==(0:Int))),()),()),((),(),()))) (.ret (((false,()),()),((),(),())))))) (.ite ((y2.2.2.1.2.2.1==(4:Int))) (.ite ((decide ((aF y2.2.1.2.2.2.2.1 y2.2.2.1.2.2.2.2.2.2.2.2.1)<(0:Int)))==false) (.ite (!(kJ y2.2.2.1.2.2.2.2.2.2.2.1 y2.2.2.1.2.2.2.2.2.2.2.2.1)) (.ret (((false,()),()),((),(),()))) (.ite ((y2.2.2.1.2.2.1==(6:Int))) (.ite (((((List.length y2.2.2.1.2.2.2.2.2.2.1:Nat):Int)==(0:Int)))==true) (.ret (((((y2.2.2.1.2.1 != (0:Int))),()),()),((),(),()))) (.ret (((false,()),()),((),(),())))) (.ite ((decide (((List.length y2.2.2.1.2.2.2.2.2.2.1:Nat):Int)>(0:Int)))==true) (.ret (((((y2.2.2.1.2.2.2.2.2.2.2.2.2.1==(0:Int))),()),()),((),(),()))) (.ret (((false,()),()),((),(),())))))) (.ret (((false,()),()),((),(),())))) (.ite ((y2.2.2.1.2.2.1==(5:Int))) (.ite ((decide ((aF y2.2.1.2.2.2.2.1 y2.2.2.1.2.2.2.2.2.2.2.2.1)<(0:Int)))==false) (.ite (!(kJ y2.2.2.1.2.2.2.2.2.2.2.1 y2.2.2.1.2.2.2.2.2.2.2.2.1)) (.ret (((false,()),()),((),(),()))) (.ite ((y2.2.2.1.2.2.1==(6:Int))) (.ite (((((List.length y2.2.2.1.2.2.2.2.2.2.1:Nat):Int)==(0:Int)))==true) (.ret (((((y2.2.2.1.2.1 != (0:Int))),()),()),((),(),()))) (.ret (((false,()),()),((),(),())))) (.ite ((decide (((List.length y2.2.2.1.2.2.2.2.2.2.1:Nat):Int)>(0:Int)))==true) (.ret (((((y2.2.2.1.2.2.2.2.2.2.2.2.2.1==(0:Int))),()),()),((),(),()))) (.ret (((false,()),()),((),(),())))))) (.ret (((false,()),()),((),(),())))) (.ite ((y2.2.2.1.2.2.2.2.2.2.2.2.1 != (0:Int))) (.ret (((false,()),()),((),(),()))) (.ite ((y2.2.2.1.2.2.1==(6:Int))) (.ite (((((List.length y2.2.2.1.2.2.2.2.2.2.1:Nat):Int)==(0:Int)))==true) (.ret (((((y2.2.2.1.2.1 != (0:Int))),()),()),((),(),()))) (.ret (((false,()),()),((),(),())))) (.ite ((decide (((List.length y2.2.2.1.2.2.2.2.2.2.1:Nat):Int)>(0:Int)))==true) (.ret (((((y2.2.2.1.2.2.2.2.2.2.2.2.2.1==(0:Int))),()),()),((),(),()))) (.ret (((false,()),()),((),(),())))))))))) (λy3=> .ret (((y3.1.1,()),()),((),(),()))))) (.ret (((false,()),()),((),(),())))) (.ret (((false,()),()),((),(),())))) (.ret (((false,()),()),((),(),()))))) (.ret (((false,()),()),((),(),())))) (.ret (((false,()),()),((),(),())))) (.ret (((false,()),()),((),(),())))) (.ret (((false,()),()),((),(),())))) (.ret (((false,()),()),((),(),())))
abbrev NY:List (Nat×eA):=[(64000000, .var [.i .i64, .i .i64, .ro (.sl dk) (some 0), .ro jM (some 1), .ro dZ (some 2), .ro dU (some 3), .ro dU (some 4), .ro (.int .i64) (some 5), .ro (.int .i64) (some 6)]),(64000001, .var [.i .i64, .i .i64, .i .i64, .i .i64, .i .i64, .ro (.int .i64) (some 7), .ro (.int .i64) (some 8), .ro (.int .i64) (some 9), .i .i64, .i .i64])]
def aei:Nat→Option aq:=λn=>b6 [(0,⟨⟨[.dead, .dead, .vptr 64000000 0, .vptr 64000001 0, .dead, .i .i64]++dd 157,NY⟩,⟨[.dead, .dead, .vptr 64000000 0, .vptr 64000001 0]++dd 159,NY⟩,some ⟨dd 4++[.b]++dd 158,[]⟩,false⟩)] n
def eV (tick:Int) (dX:List (List az)) (ps:List af) (os:List aj) (pid par st pg pc:Int) (yR mem fds:List Int) (nM code:Int):Bool:=
 cV tick dX.length ps os pid par st pg pc yR mem fds nM code
def U2:bZ:={ f:=22,lend:=true,aJ:=[⟨false,true,[.i .i64, .i .i64, .ro (.sl dk), .ro jM, .ro dZ, .ro dU, .ro dU, .ro (.int .i64), .ro (.int .i64)]⟩,⟨false,true,[.i .i64, .i .i64, .i .i64, .i .i64, .i .i64, .ro (.int .i64), .ro (.int .i64), .ro (.int .i64), .i .i64, .i .i64]⟩],lay:=[none,none],rs:=[⟨false,false,[.b]⟩],F:=λx=> .ret ((((eV x.1.2.1 x.1.2.2.1 x.1.2.2.2.1 x.1.2.2.2.2.1 x.2.1.1 x.2.1.2.1 x.2.1.2.2.1 x.2.1.2.2.2.1 x.2.1.2.2.2.2.1 x.2.1.2.2.2.2.2.1 x.2.1.2.2.2.2.2.2.1 x.2.1.2.2.2.2.2.2.2.1 x.2.1.2.2.2.2.2.2.2.2.1 x.2.1.2.2.2.2.2.2.2.2.2.1),()),()),((),(),())) }
theorem YH (x:au U2.aJ):bo [vu,RW,I4,LQ,KU,Ja,QE] aei Tryz.f22 U2 [.tmp 4] x=ta x.1.1 x.1.2.1 x.1.2.2.1 x.1.2.2.2.1 x.1.2.2.2.2.1 x.1.2.2.2.2.2.1 x.1.2.2.2.2.2.2.1 x.1.2.2.2.2.2.2.2.1 x.1.2.2.2.2.2.2.2.2.1 x.2.1.1 x.2.1.2.1 x.2.1.2.2.1 x.2.1.2.2.2.1 x.2.1.2.2.2.2.1 x.2.1.2.2.2.2.2.1 x.2.1.2.2.2.2.2.2.1 x.2.1.2.2.2.2.2.2.2.1 x.2.1.2.2.2.2.2.2.2.2.1 x.2.1.2.2.2.2.2.2.2.2.2.1:=by kernel_rfl
theorem YI (hr:∀ x:bw×XM×Unit,aD U2.aJ x→(ta x.1.1 x.1.2.1 x.1.2.2.1 x.1.2.2.2.1 x.1.2.2.2.2.1 x.1.2.2.2.2.2.1 x.1.2.2.2.2.2.2.1 x.1.2.2.2.2.2.2.2.1 x.1.2.2.2.2.2.2.2.2.1 x.2.1.1 x.2.1.2.1 x.2.1.2.2.1 x.2.1.2.2.2.1 x.2.1.2.2.2.2.1 x.2.1.2.2.2.2.2.1 x.2.1.2.2.2.2.2.2.1 x.2.1.2.2.2.2.2.2.2.1 x.2.1.2.2.2.2.2.2.2.2.1 x.2.1.2.2.2.2.2.2.2.2.2.1).eval=(U2.F x).eval):U2.Ok Tryz.prog:=aO [vu,RW,I4,LQ,KU,Ja,QE] ⟨jW,NU,Dq,Dp,vD,rV,NR,trivial⟩ YH λx hw _ hy=>(hr x hw).trans hy
theorem YJ:U2.Ok Tryz.prog:=by
 refine YI λx hw=> ?_;obtain ⟨⟨a0,a1,a2,a3,a4,a5,a6,a7,a8,_⟩,⟨a9,eR,iu,a12,ma,xB,kK,kG,ra,uI,_⟩,_⟩:=x;have l2:List.length a2≤aM:=hw.1.1.1;have l3:List.length a3≤aM:=hw.1.2.1.1;have l4:List.length a4≤aM:=hw.1.2.2.1.1;have l5:List.length a5≤aM:=hw.1.2.2.2.1.1;have l6:List.length a6≤aM:=hw.1.2.2.2.2.1.1;have l7:List.length a7≤aM:=hw.1.2.2.2.2.2.1.1;have l8:List.length a8≤aM:=hw.1.2.2.2.2.2.2.1.1;have l14:List.length xB≤aM:=hw.2.1.1.1;have l15:List.length kK≤aM:=hw.2.1.2.1.1;have l16:List.length kG≤aM:=hw.2.1.2.2.1.1;show (ta a0 a1 a2 a3 a4 a5 a6 a7 a8 a9 eR iu a12 ma xB kK kG ra uI).eval=some ((((eV a1 a2 a3 a4 a9 eR iu a12 ma xB kK kG ra uI),()),()),((),(),()));unfold ta;have h:iter zb bc (((0:Int),()),((a0,a1,a2,a3,a4,a5,a6,a7,a8,()),(a9,eR,iu,a12,ma,xB,kK,kG,ra,uI,()),()))=some (if List.all kG (oi a4 iu)=true then .inl ((),((a0,a1,a2,a3,a4,a5,a6,a7,a8,()),(a9,eR,iu,a12,ma,xB,kK,kG,ra,uI,()),())) else .inr ((false,()),())):=vz (f:=zb) kG (oi a4 iu) (λi=>((((i:Nat):Int),()),((a0,a1,a2,a3,a4,a5,a6,a7,a8,()),(a9,eR,iu,a12,ma,xB,kK,kG,ra,uI,()),()))) (y:=((),((a0,a1,a2,a3,a4,a5,a6,a7,a8,()),(a9,eR,iu,a12,ma,xB,kK,kG,ra,uI,()),()))) (z:=((false,()),()))
  (λi hi=>by
   have h1:=aw (i:=i) (by omega);by_cases q0:kG[i]= -1<;>by_cases q1:0≤aF a4 kG[i]<;>by_cases q2:iu=6<;>simp [zb,Out.eval,hi,h1,cond_eq_ite,oi,RU,q0,q1,q2])
  (by simp [zb,Out.eval]) l16
 by_cases c1:dh iu 1 6=true
 case neg=>rw [ae (by first|(simp [c1];done)|(rw [aaE (by omega)];done)|(rw [aa1 (by omega)];done)|(rw [aaE (by omega)];rfl)|(rw [aa1 (by omega)];rfl)|(rw [c1];rfl)|(rw [Bool.eq_false_iff.2 c1];rfl))];simp [Out.eval,eV,cV,c1]
 rw [ab (by first|(simp [c1];done)|(rw [aaE (by omega)];done)|(rw [aa1 (by omega)];done)|(rw [aaE (by omega)];rfl)|(rw [aa1 (by omega)];rfl)|(rw [c1];rfl)|(rw [Bool.eq_false_iff.2 c1];rfl))];by_cases c2:0≤a12
 case neg=>rw [ae (by first|(simp;done)|(rw [aaE (by omega)];done)|(rw [aa1 (by omega)];done)|(rw [aaE (by omega)];rfl)|(rw [aa1 (by omega)];rfl)|(rw [c2];rfl)|(rw [Bool.eq_false_iff.2 c2];rfl))];simp [Out.eval,eV,cV,c2]
 rw [ab (by first|(simp [c2];done)|(rw [aaE (by omega)];done)|(rw [aa1 (by omega)];done)|(rw [aaE (by omega)];rfl)|(rw [aa1 (by omega)];rfl)|(rw [c2];rfl)|(rw [Bool.eq_false_iff.2 c2];rfl))];by_cases c3:a12<((List.length a2:Nat):Int)
 case neg=>rw [ae (by first|(simp;done)|(rw [aaE (by omega)];done)|(rw [aa1 (by omega)];done)|(rw [aaE (by omega)];rfl)|(rw [aa1 (by omega)];rfl)|(rw [c3];rfl)|(rw [Bool.eq_false_iff.2 c3];rfl))];simp [Out.eval,eV,cV,c3]
 rw [ab (by first|(simp [c3];done)|(rw [aaE (by omega)];done)|(rw [aa1 (by omega)];done)|(rw [aaE (by omega)];rfl)|(rw [aa1 (by omega)];rfl)|(rw [c3];rfl)|(rw [Bool.eq_false_iff.2 c3];rfl))];by_cases c4:aP ma xB=true
 case neg=>rw [ae (by first|(simp [c4];done)|(rw [aaE (by omega)];done)|(rw [aa1 (by omega)];done)|(rw [aaE (by omega)];rfl)|(rw [aa1 (by omega)];rfl)|(rw [c4];rfl)|(rw [Bool.eq_false_iff.2 c4];rfl))];simp [Out.eval,eV,cV,c4]
 rw [ab (by first|(simp [c4];done)|(rw [aaE (by omega)];done)|(rw [aa1 (by omega)];done)|(rw [aaE (by omega)];rfl)|(rw [aa1 (by omega)];rfl)|(rw [c4];rfl)|(rw [Bool.eq_false_iff.2 c4];rfl))];by_cases c5:List.length kK≤12
 case neg=>rw [ae (by first|(simp;done)|(rw [aaE (by omega)];done)|(rw [aa1 (by omega)];done)|(rw [aaE (by omega)];rfl)|(rw [aa1 (by omega)];rfl)|(rw [c5];rfl)|(rw [Bool.eq_false_iff.2 c5];rfl))];simp [Out.eval,eV,cV,c5]
 rw [ab (by first|(simp;done)|(rw [aaE (by omega)];done)|(rw [aa1 (by omega)];done)|(rw [aaE (by omega)];rfl)|(rw [aa1 (by omega)];rfl)|(rw [c5];rfl)|(rw [Bool.eq_false_iff.2 c5];rfl))];rw [ae (by decide),U1,ne4];by_cases c6:List.length kK % 4=0
 case neg=>rw [ae (by first|(simp [c6];done)|(rw [aaE (by omega)];done)|(rw [aa1 (by omega)];done)|(rw [aaE (by omega)];rfl)|(rw [aa1 (by omega)];rfl)|(rw [c6];rfl)|(rw [Bool.eq_false_iff.2 c6];rfl))];simp [Out.eval,eV,cV,c6]
 rw [ab (by first|(simp [c6];done)|(rw [aaE (by omega)];done)|(rw [aa1 (by omega)];done)|(rw [aaE (by omega)];rfl)|(rw [aa1 (by omega)];rfl)|(rw [c6];rfl)|(rw [Bool.eq_false_iff.2 c6];rfl))];by_cases c7:aG kK=true
 case neg=>rw [ae (by first|(simp [c7];done)|(rw [aaE (by omega)];done)|(rw [aa1 (by omega)];done)|(rw [aaE (by omega)];rfl)|(rw [aa1 (by omega)];rfl)|(rw [c7];rfl)|(rw [Bool.eq_false_iff.2 c7];rfl))];simp [Out.eval,eV,cV,c7]
 rw [ab (by first|(simp [c7];done)|(rw [aaE (by omega)];done)|(rw [aa1 (by omega)];done)|(rw [aaE (by omega)];rfl)|(rw [aa1 (by omega)];rfl)|(rw [c7];rfl)|(rw [Bool.eq_false_iff.2 c7];rfl))];by_cases c8:List.length kG=4
 case neg=>rw [ae (by first|(simp [c8];done)|(rw [aaE (by omega)];done)|(rw [aa1 (by omega)];done)|(rw [aaE (by omega)];rfl)|(rw [aa1 (by omega)];rfl)|(rw [c8];rfl)|(rw [Bool.eq_false_iff.2 c8];rfl))];simp [Out.eval,eV,cV,c8]
 rw [ab (by first|(simp [c8];done)|(rw [aaE (by omega)];done)|(rw [aa1 (by omega)];done)|(rw [aaE (by omega)];rfl)|(rw [aa1 (by omega)];rfl)|(rw [c8];rfl)|(rw [Bool.eq_false_iff.2 c8];rfl))];by_cases c9:bV uI=true
 case neg=>rw [ab (by first|(simp [c9];done)|(rw [aaE (by omega)];done)|(rw [aa1 (by omega)];done)|(rw [aaE (by omega)];rfl)|(rw [aa1 (by omega)];rfl)|(rw [c9];rfl)|(rw [Bool.eq_false_iff.2 c9];rfl))];simp [Out.eval,eV,cV,c9]
 rw [ae (by first|(simp [c9];done)|(rw [aaE (by omega)];done)|(rw [aa1 (by omega)];done)|(rw [aaE (by omega)];rfl)|(rw [aa1 (by omega)];rfl)|(rw [c9];rfl)|(rw [Bool.eq_false_iff.2 c9];rfl))];refine (aa h).trans ?_;by_cases q:List.all kG (oi a4 iu)=true
 case neg=>rw [aa3 q];simp [Out.eval,eV,cV,q]
 have e:eV a1 a2 a3 a4 a9 eR iu a12 ma xB kK kG ra uI=(bT a3 a9 eR&&(fX a1 a4 iu kG ra&&rS eR iu kK uI)):=by
  simp only [eV,cV,c1,c2,c3,c4,c5,c6,c7,c8,c9,q,decide_true,afy,acU,Bool.and_assoc]
 rw [aa5 q,e];refine (gk _).trans ?_;dsimp only;have en:=NW iu uI eR (List.length kK) (λb=>(((b,()),()),((),(),())));have tl:=KV a1 iu ra (aF a4 ra) uI eR (kJ kG ra) (List.length kK) (λb=>(((b,()),()),((),(),()))) _ en;unfold fX rS;by_cases p0:eR=0
 . have e2:bT a3 a9 eR=true:=by simp [bT,p0]
   rw [e2,acU,ae (by simp [p0])];exact tl
 . rw [ab (by simp [p0])]
   cases hx:fj ao a3 eR with
   |none=>
    have e2:bT a3 a9 eR=false:=by simp [bT,p0,hx]
    have e3:ak a3 eR= -1:=nP hx;rw [e2,e3];rfl
   |some i=>
    have hi:=yU hx;have e3:ak a3 eR=((i:Nat):Int):=nQ hx;rw [e3,ab (by rw [aa1 (by omega)];rfl),abo];by_cases p1:eR=a9
    . have p2:(eR==a9)=true:=by simpa using p1
      have p3:(eR==(0:Int))=false:=by simpa using p0
      have e2:bT a3 a9 eR=false:=by unfold bT;rw [p3,p2];simp
      rw [e2,ae (by rw [p2];rfl)];rfl
    . rw [ab (by simp [p1]),ab (Ay i)]
      refine (aa (x:=a3[i]) (by simp [nth,hi])).trans ?_;by_cases p2:a3[i].2.2.1=6
      . have e2:bT a3 a9 eR=false:=by simp [bT,p0,hx,hi,p2]
        rw [e2,ab (by simp [p2])];rfl
      . have e2:bT a3 a9 eR=true:=by simp [bT,p0,p1,hx,hi,p2]
        rw [e2,acU,ae (by simp [p2])];exact tl
theorem Bz {β:Type} (kind target off:Int) (bN:List iO) (files:List et) (r:Bool→β):
  (Out.ite (kind==(1:Int)) (.ite ((target==(0:Int))==true) (.ret (r (off==(0:Int)))) (.ret (r false)))
   (.ite (kind==(2:Int)) (.ite ((decide (bj files target≥(0:Int)))==true) (.ite (decide (0≤bj files target)) (.get (nth files (Int.toNat (bj files target))) λy2=> .ret (r (dh off (0:Int) ((List.length y2.2.1:Nat):Int)))) .fail) (.ret (r false)))
    (.ite (kind==(3:Int)) (.ite ((decide (ba bN target≥(0:Int)))==true) (.ret (r (off==(0:Int)))) (.ret (r false)))
     (.ite (kind==(4:Int)) (.ite ((decide (ba bN target≥(0:Int)))==true) (.ret (r (off==(0:Int)))) (.ret (r false))) (.ret (r false)))))).eval=some (r (nI bN files kind target off)):=by
 unfold nI;simp only [Out.eval,cond_eq_ite];by_cases h1:kind=1
 . by_cases h:target=0
   . simp [h1,h]
   . have:(target==(0:Int))=false:=by simpa using h
     simp [h1,this]
 by_cases h2:kind=2
 . cases hx:fj aR files target with
   |none=>
    have e3:bj files target= -1:=nP hx;simp [h2,e3]
   |some i=>
    have hi:=yU hx;have e3:bj files target=((i:Nat):Int):=nQ hx;simp [h2,e3,nth,hi]
 by_cases h3:kind=3
 . by_cases h:0≤ba bN target<;>simp [h3,h]
 by_cases h4:kind=4
 . by_cases h:0≤ba bN target<;>simp [h4,h]
 simp [h1,h2,h3,h4]
abbrev NZ:=(Int×Int×Int×Unit)×(bw×aj×Unit)
def zc:NZ→Out (Round NZ ((Int×Int×Unit)×(bw×aj×Unit)) Empty)
|((p0,p1,p2,_),(p3,p4,p5,p6,p7,p8,p9,cH,cK,_),(eH,eU,ei,dq,eI,_),_)=> .ite (decide (0≤p1)) (.get (nth p6 (Int.toNat p1)) λy1=> .ite (decide (p2<((List.length y1.2.2.2.2.2.2.1:Nat):Int))) (.ite (decide (0≤p1)) (.get (nth p6 (Int.toNat p1)) λy2=> .ite (decide (0≤p2)) (.get (nth y2.2.2.2.2.2.2.1 (Int.toNat p2)) λy3=> .ite ((y3==eH)) (.ret (.again (((IntKind.i64.wrap (p0+(1:Int))),p1,(IntKind.i64.wrap (p2+(1:Int))),()),((p3,p4,p5,p6,p7,p8,p9,cH,cK,()),(eH,eU,ei,dq,eI,()),())))) (.ret (.again ((p0,p1,(IntKind.i64.wrap (p2+(1:Int))),()),((p3,p4,p5,p6,p7,p8,p9,cH,cK,()),(eH,eU,ei,dq,eI,()),()))))) .fail) .fail) (.ret (.out ((p0,p1,()),((p3,p4,p5,p6,p7,p8,p9,cH,cK,()),(eH,eU,ei,dq,eI,()),()))))) .fail
abbrev N0:=(Int×Int×Unit)×(bw×aj×Unit)
def zd:N0→Out (Round N0 ((Int×Unit)×(bw×aj×Unit)) Empty)
|((p0,p1,_),(p2,p3,p4,p5,p6,p7,p8,p9,cH,_),(cK,eH,eU,ei,dq,_),_)=> .ite (decide (p1<((List.length p5:Nat):Int))) (.get (bx zc bc ((p0,p1,(0:Int),()),((p2,p3,p4,p5,p6,p7,p8,p9,cH,()),(cK,eH,eU,ei,dq,()),()))) λy1=> .ret (.again ((y1.1.1,(IntKind.i64.wrap (y1.1.2.1+(1:Int))),()),((y1.2.1.1,y1.2.1.2.1,y1.2.1.2.2.1,y1.2.1.2.2.2.1,y1.2.1.2.2.2.2.1,y1.2.1.2.2.2.2.2.1,y1.2.1.2.2.2.2.2.2.1,y1.2.1.2.2.2.2.2.2.2.1,y1.2.1.2.2.2.2.2.2.2.2.1,()),(y1.2.2.1.1,y1.2.2.1.2.1,y1.2.2.1.2.2.1,y1.2.2.1.2.2.2.1,y1.2.2.1.2.2.2.2.1,()),())))) (.ret (.out ((p0,()),((p2,p3,p4,p5,p6,p7,p8,p9,cH,()),(cK,eH,eU,ei,dq,()),()))))
def tc (a0:Int) (a1:Int) (a2:List (List az)) (a3:List af) (a4:List aj) (a5:List ag) (a6:List ag) (a7:List Int) (a8:List Int) (a9:Int) (eR:Int) (iu:Int) (a12:Int) (ma:Int):Out (((Bool×Unit)×Unit)×XI):= .get (bx zd bc (((0:Int),(0:Int),()),((a0,a1,a2,a3,a4,a5,a6,a7,a8,()),(a9,eR,iu,a12,ma,()),()))) λy1=> .ite (((y1.1.1==(0:Int)))==false) (.ite (((y1.2.2.1.2.2.2.2.1 != y1.1.1))==false) (.ite (!(dh y1.2.2.1.1 (0:Int) (7:Int))) (.ret (((false,()),()),((),(),()))) (.ite ((y1.2.2.1.2.1==(1:Int))) (.ite (((y1.2.2.1.2.2.1==(0:Int)))==true) (.ret (((((y1.2.2.1.2.2.2.1==(0:Int))),()),()),((),(),()))) (.ret (((false,()),()),((),(),())))) (.ite ((y1.2.2.1.2.1==(2:Int))) (.ite ((decide ((bj y1.2.1.2.2.2.2.2.2.1 y1.2.2.1.2.2.1)≥(0:Int)))==true) (.ite (decide (0≤(bj y1.2.1.2.2.2.2.2.2.1 y1.2.2.1.2.2.1))) (.get (nth y1.2.1.2.2.2.2.2.2.1 (Int.toNat (bj y1.2.1.2.2.2.2.2.2.1 y1.2.2.1.2.2.1))) λy2=> .ret ((((dh y1.2.2.1.2.2.2.1 (0:Int) ((List.length y2.2.1:Nat):Int)),()),()),((),(),()))) .fail) (.ret (((false,()),()),((),(),())))) (.ite ((y1.2.2.1.2.1==(3:Int))) (.ite ((decide ((ba y1.2.1.2.2.2.2.2.1 y1.2.2.1.2.2.1)≥(0:Int)))==true) (.ret (((((y1.2.2.1.2.2.2.1==(0:Int))),()),()),((),(),()))) (.ret (((false,()),()),((),(),())))) (.ite ((y1.2.2.1.2.1==(4:Int))) (.ite ((decide ((ba y1.2.1.2.2.2.2.2.1 y1.2.2.1.2.2.1)≥(0:Int)))==true) (.ret (((((y1.2.2.1.2.2.2.1==(0:Int))),()),()),((),(),()))) (.ret (((false,()),()),((),(),())))) (.ret (((false,()),()),((),(),())))))))) (.ret (((false,()),()),((),(),())))) (.ret (((false,()),()),((),(),())))
abbrev Du:List (Nat×eA):=[(64000000, .var [.i .i64, .i .i64, .ro (.sl dk) (some 0), .ro jM (some 1), .ro dZ (some 2), .ro dU (some 3), .ro dU (some 4), .ro (.int .i64) (some 5), .ro (.int .i64) (some 6)]),(64000001, .var [.i .i64, .i .i64, .i .i64, .i .i64, .i .i64])]
def aej:Nat→Option aq:=λn=>b6 [(0,⟨⟨[.dead, .dead, .vptr 64000000 0, .vptr 64000001 0, .dead, .i .i64, .i .i64]++dd 94,Du⟩,⟨[.dead, .dead, .vptr 64000000 0, .vptr 64000001 0, .dead, .i .i64]++dd 95,Du⟩,none,false⟩),(2,⟨⟨[.dead, .dead, .vptr 64000000 0, .vptr 64000001 0, .dead, .i .i64, .i .i64, .i .i64]++dd 93,Du⟩,⟨[.dead, .dead, .vptr 64000000 0, .vptr 64000001 0, .dead, .i .i64, .i .i64]++dd 94,Du⟩,none,false⟩)] n
def U3:bZ:={ f:=48,lend:=true,aJ:=[⟨false,true,[.i .i64, .i .i64, .ro (.sl dk), .ro jM, .ro dZ, .ro dU, .ro dU, .ro (.int .i64), .ro (.int .i64)]⟩,⟨false,true,[.i .i64, .i .i64, .i .i64, .i .i64, .i .i64]⟩],lay:=[none,none],rs:=[⟨false,false,[.b]⟩],F:=λx=> .ret ((((fQ x.1.2.2.2.1 x.1.2.2.2.2.2.1 x.1.2.2.2.2.2.2.1 x.2.1.1 x.2.1.2.1 x.2.1.2.2.1 x.2.1.2.2.2.1 x.2.1.2.2.2.2.1),()),()),((),(),())) }
theorem YK (x:au U3.aJ):bo [vu,LV,LU] aej Tryz.f48 U3 [.tmp 4] x=tc x.1.1 x.1.2.1 x.1.2.2.1 x.1.2.2.2.1 x.1.2.2.2.2.1 x.1.2.2.2.2.2.1 x.1.2.2.2.2.2.2.1 x.1.2.2.2.2.2.2.2.1 x.1.2.2.2.2.2.2.2.2.1 x.2.1.1 x.2.1.2.1 x.2.1.2.2.1 x.2.1.2.2.2.1 x.2.1.2.2.2.2.1:=by kernel_rfl
theorem YL (hr:∀ x:bw×aj×Unit,aD U3.aJ x→(tc x.1.1 x.1.2.1 x.1.2.2.1 x.1.2.2.2.1 x.1.2.2.2.2.1 x.1.2.2.2.2.2.1 x.1.2.2.2.2.2.2.1 x.1.2.2.2.2.2.2.2.1 x.1.2.2.2.2.2.2.2.2.1 x.2.1.1 x.2.1.2.1 x.2.1.2.2.1 x.2.1.2.2.2.1 x.2.1.2.2.2.2.1).eval=(U3.F x).eval):U3.Ok Tryz.prog:=aO [vu,LV,LU] ⟨jW,yX,yW,trivial⟩ YK λx hw _ hy=>(hr x hw).trans hy
theorem YM:U3.Ok Tryz.prog:=by
 refine YL λx hw=> ?_;obtain ⟨⟨a0,a1,a2,a3,a4,a5,a6,a7,a8,_⟩,⟨a9,eR,iu,a12,ma,_⟩,_⟩:=x;have l2:List.length a2≤aM:=hw.1.1.1;have l3:List.length a3≤aM:=hw.1.2.1.1;have l4:List.length a4≤aM:=hw.1.2.2.1.1;have l5:List.length a5≤aM:=hw.1.2.2.2.1.1;have l6:List.length a6≤aM:=hw.1.2.2.2.2.1.1;have l7:List.length a7≤aM:=hw.1.2.2.2.2.2.1.1;have l8:List.length a8≤aM:=hw.1.2.2.2.2.2.2.1.1;show (tc a0 a1 a2 a3 a4 a5 a6 a7 a8 a9 eR iu a12 ma).eval=some ((((fQ a3 a5 a6 a9 eR iu a12 ma),()),()),((),(),()));unfold tc;have inner:∀ (n:Int) (j:Nat) (hj:j<List.length a3),bx zc bc ((n,((j:Nat):Int),(0:Int),()),((a0,a1,a2,a3,a4,a5,a6,a7,a8,()),(a9,eR,iu,a12,ma,()),()))=
   some ((List.foldl (λn f=>nH f a9 n) n a3[j].2.2.2.2.2.2.1,((j:Nat):Int),()),((a0,a1,a2,a3,a4,a5,a6,a7,a8,()),(a9,eR,iu,a12,ma,()),())):=λn j hj=>by
  have lj:List.length a3[j].2.2.2.2.2.2.1≤aM:=(hw.1.2.1.2 j a3[j] (aa2 hj)).2.2.2.2.2.2.1.1;exact foldl_loop (f:=zc) (λ_ _=>True) (λn f=>nH f a9 n) a3[j].2.2.2.2.2.2.1 (λd i=>((d,((j:Nat):Int),((i:Nat):Int),()),((a0,a1,a2,a3,a4,a5,a6,a7,a8,()),(a9,eR,iu,a12,ma,()),())))
   (λd=>((d,((j:Nat):Int),()),((a0,a1,a2,a3,a4,a5,a6,a7,a8,()),(a9,eR,iu,a12,ma,()),())))
   (λi hi d _=>by
    have h1:=aw (i:=i) (by omega);by_cases q:a3[j].2.2.2.2.2.2.1[i]=a9<;>simp [zc,Out.eval,hj,hi,h1,nH,cond_eq_ite,q])
   (λd _=>by simp [zc,Out.eval,hj]) (λ_ _ _ _=>trivial) lj n trivial
 have h:bx zd bc (((0:Int),(0:Int),()),((a0,a1,a2,a3,a4,a5,a6,a7,a8,()),(a9,eR,iu,a12,ma,()),()))=some (((List.foldl (λ(n:Int) (p:af)=>p.2.2.2.2.2.2.1.foldl (λn f=>nH f a9 n) n) (0:Int) a3),()),((a0,a1,a2,a3,a4,a5,a6,a7,a8,()),(a9,eR,iu,a12,ma,()),())):=foldl_loop (f:=zd) (λ_ _=>True) (λ(n:Int) (p:af)=>p.2.2.2.2.2.2.1.foldl (λn f=>nH f a9 n) n) a3 (λd i=>((d,((i:Nat):Int),()),((a0,a1,a2,a3,a4,a5,a6,a7,a8,()),(a9,eR,iu,a12,ma,()),()))) (λd=>((d,()),((a0,a1,a2,a3,a4,a5,a6,a7,a8,()),(a9,eR,iu,a12,ma,()),())))
  (λi hi d _=>by
   have h1:=aw (i:=i) (by omega);simp [zd,Out.eval,hi,h1,inner d i hi])
  (λd _=>by simp [zd,Out.eval]) (λ_ _ _ _=>trivial) l3 (0:Int) trivial
 refine (aa h).trans ?_;have er:List.foldl (λ(n:Int) (p:af)=>p.2.2.2.2.2.2.1.foldl (λn f=>nH f a9 n) n) 0 a3=mO a3 a9:=rfl;rw [er];dsimp only;unfold fQ;generalize mO a3 a9=r;by_cases c1:r=0
 . rw [ae (by simp [c1])];simp [Out.eval,c1]
 rw [ab (by simp [c1])];by_cases c2:ma=r
 case neg=>rw [ae (by simp [c2])];simp [Out.eval,c2]
 rw [ab (by simp [c2])];by_cases c3:dh a9 0 7=true
 case neg=>rw [ab (by simp [c3])];simp [Out.eval,c3]
 rw [ae (by simp [c3])];refine (Bz eR iu a12 a5 a6 (λb=>(((b,()),()),((),(),())))).trans ?_;simp [c1,c2,c3]
abbrev N1:=az×(bw×Unit)
def ze:N1→Out (Round N1 ((Int×Unit)×(Unit)) Empty)
|((p0,p1,p2,p3,_),(p4,p5,p6,p7,p8,p9,cH,cK,eH,_),_)=> .ite (decide (p3<((List.length p8:Nat):Int))) (.ite (decide (0≤p3)) (.get (nth p8 (Int.toNat p3)) λy1=> .ite (((y1.2.1==p1))==true) (.ite (decide (0≤p3)) (.get (nth p8 (Int.toNat p3)) λy2=> .ite ((y2.2.2.1==p0)) (.ret (.again ((p0,p1,(IntKind.i64.wrap (p2+(1:Int))),(IntKind.i64.wrap (p3+(1:Int))),()),((p4,p5,p6,p7,p8,p9,cH,cK,eH,()),())))) (.ret (.again ((p0,p1,p2,(IntKind.i64.wrap (p3+(1:Int))),()),((p4,p5,p6,p7,p8,p9,cH,cK,eH,()),()))))) .fail) (.ret (.again ((p0,p1,p2,(IntKind.i64.wrap (p3+(1:Int))),()),((p4,p5,p6,p7,p8,p9,cH,cK,eH,()),()))))) .fail) (.ret (.out ((p2,()),())))
def td (a0:Int) (a1:Int) (a2:List (List az)) (a3:List af) (a4:List aj) (a5:List ag) (a6:List ag) (a7:List Int) (a8:List Int) (a9:Int) (eR:Int):Out (((Int×Unit)×Unit)×(Unit×XI)):= .get (bx ze bc ((a9,eR,(0:Int),(0:Int),()),((a0,a1,a2,a3,a4,a5,a6,a7,a8,()),()))) λy1=> .ret (((y1.1.1,()),()),((),(),(),()))
abbrev vG:List (Nat×eA):=[(64000000, .var [.i .i64, .i .i64, .ro (.sl dk) (some 0), .ro jM (some 1), .ro dZ (some 2), .ro dU (some 3), .ro dU (some 4), .ro (.int .i64) (some 5), .ro (.int .i64) (some 6)])]
def aek:Nat→Option aq:=λn=>b6 [(0,⟨⟨[.dead, .i .i64, .i .i64, .vptr 64000000 0, .dead, .dead, .dead, .i .i64, .i .i64]++dd 28,vG⟩,⟨dd 7++[.i .i64]++dd 29,[]⟩,none,false⟩)] n
def LW:bZ:={ f:=49,lend:=true,aJ:=[⟨false,true,[.i .i64, .i .i64, .ro (.sl dk), .ro jM, .ro dZ, .ro dU, .ro dU, .ro (.int .i64), .ro (.int .i64)]⟩,⟨false,false,[.i .i64]⟩,⟨false,false,[.i .i64]⟩],lay:=[none,none,none],rs:=[⟨false,false,[.i .i64]⟩],F:=λx=> .ret ((((gZ x.1.2.2.2.2.1 x.2.1.1 x.2.2.1.1),()),()),((),(),(),())) }
theorem YN (x:au LW.aJ):bo [] aek Tryz.f49 LW [.tmp 6] x=td x.1.1 x.1.2.1 x.1.2.2.1 x.1.2.2.2.1 x.1.2.2.2.2.1 x.1.2.2.2.2.2.1 x.1.2.2.2.2.2.2.1 x.1.2.2.2.2.2.2.2.1 x.1.2.2.2.2.2.2.2.2.1 x.2.1.1 x.2.2.1.1:=by kernel_rfl
theorem YO (hr:∀ x:bw×(Int×Unit)×(Int×Unit)×Unit,aD LW.aJ x→(td x.1.1 x.1.2.1 x.1.2.2.1 x.1.2.2.2.1 x.1.2.2.2.2.1 x.1.2.2.2.2.2.1 x.1.2.2.2.2.2.2.1 x.1.2.2.2.2.2.2.2.1 x.1.2.2.2.2.2.2.2.2.1 x.2.1.1 x.2.2.1.1).eval=(LW.F x).eval):LW.Ok Tryz.prog:=aO [] trivial YN λx hw _ hy=>(hr x hw).trans hy
theorem zg:LW.Ok Tryz.prog:=by
 refine YO λx hw=> ?_;obtain ⟨⟨a0,a1,a2,a3,a4,a5,a6,a7,a8,_⟩,⟨a9,_⟩,⟨eR,_⟩,_⟩:=x;have l2:List.length a2≤aM:=hw.1.1.1;have l3:List.length a3≤aM:=hw.1.2.1.1;have l4:List.length a4≤aM:=hw.1.2.2.1.1;have l5:List.length a5≤aM:=hw.1.2.2.2.1.1;have l6:List.length a6≤aM:=hw.1.2.2.2.2.1.1;have l7:List.length a7≤aM:=hw.1.2.2.2.2.2.1.1;have l8:List.length a8≤aM:=hw.1.2.2.2.2.2.2.1.1;show (td a0 a1 a2 a3 a4 a5 a6 a7 a8 a9 eR).eval=some ((((gZ a4 a9 eR),()),()),((),(),(),()));unfold td gZ;have h:bx ze bc ((a9,eR,(0:Int),(0:Int),()),((a0,a1,a2,a3,a4,a5,a6,a7,a8,()),()))=some (((List.foldl (λ(n:Int) (o:aj)=>if mq eR a9 o=true then IntKind.i64.wrap (n+1) else n) (0:Int) a4),()),()):=foldl_loop (f:=ze) (λ_ _=>True) (λ(n:Int) (o:aj)=>if mq eR a9 o=true then IntKind.i64.wrap (n+1) else n) a4 (λd i=>((a9,eR,d,((i:Nat):Int),()),((a0,a1,a2,a3,a4,a5,a6,a7,a8,()),()))) (λd=>((d,()),()))
  (λi hi d _=>by
   have h1:=aw (i:=i) (by omega);by_cases q:a4[i].2.1=eR<;>by_cases q2:a4[i].2.2.1=a9<;>simp [mq,ze,Out.eval,hi,h1,cond_eq_ite,q,q2])
  (λd _=>by simp [ze,Out.eval]) (λ_ _ _ _=>trivial) l4 (0:Int) trivial
 exact aa h
abbrev N2:=(Int×Unit)×(bw×Unit)
def vH:N2→Out (Round N2 ((Unit)×(bw×Unit)) ((Bool×Unit)×(Unit)))
|((p0,_),(p1,p2,p3,p4,p5,p6,p7,p8,p9,_),_)=> .ite (decide (p0<((List.length p5:Nat):Int))) (.ite (decide (0≤p0)) (.get (nth p5 (Int.toNat p0)) λy1=> .ite ((!(fQ p4 p6 p7 y1.1 y1.2.1 y1.2.2.1 y1.2.2.2.1 y1.2.2.2.2.1))==false) (.ite ((decide (p0>(0:Int)))==true) (.ite (decide (0≤(IntKind.i64.wrap (p0 - (1:Int))))) (.get (nth p5 (Int.toNat (IntKind.i64.wrap (p0 - (1:Int))))) λy2=> .ite (decide (0≤p0)) (.get (nth p5 (Int.toNat p0)) λy3=> .ite (decide (y2.1≥y3.1)) (.ret (.ret ((false,()),()))) (.ret (.again (((IntKind.i64.wrap (p0+(1:Int))),()),((p1,p2,p3,p4,p5,p6,p7,p8,p9,()),()))))) .fail) .fail) (.ret (.again (((IntKind.i64.wrap (p0+(1:Int))),()),((p1,p2,p3,p4,p5,p6,p7,p8,p9,()),()))))) (.ret (.ret ((false,()),())))) .fail) (.ret (.out ((),((p1,p2,p3,p4,p5,p6,p7,p8,p9,()),()))))
abbrev N3:=(Int×Unit)×(bw×Unit)
def vI:N3→Out (Round N3 ((Unit)×(bw×Unit)) ((Bool×Unit)×(Unit)))
|((p0,_),(p1,p2,p3,p4,p5,p6,p7,p8,p9,_),_)=> .ite (decide (p0<((List.length p6:Nat):Int))) (.ite (decide (0≤p0)) (.get (nth p6 (Int.toNat p0)) λy1=> .ite ((!(dh y1.1 (0:Int) (2:Int)))==false) (.ite ((decide (((List.length y1.2.1:Nat):Int)>(4:Int)))==false) (.ite ((!(aG y1.2.1))==false) (.ite ((decide (p0>(0:Int)))==true) (.ite (decide (0≤(IntKind.i64.wrap (p0 - (1:Int))))) (.get (nth p6 (Int.toNat (IntKind.i64.wrap (p0 - (1:Int))))) λy2=> .ite ((decide (y2.1≥y1.1))==false) (.ite (((IntKind.i64.wrap ((gZ p5 y1.1 (3:Int))+(gZ p5 y1.1 (4:Int))))==(0:Int))) (.ret (.ret ((false,()),()))) (.ret (.again (((IntKind.i64.wrap (p0+(1:Int))),()),((p1,p2,p3,p4,p5,p6,p7,p8,p9,()),()))))) (.ret (.ret ((false,()),())))) .fail) (.ite (((IntKind.i64.wrap ((gZ p5 y1.1 (3:Int))+(gZ p5 y1.1 (4:Int))))==(0:Int))) (.ret (.ret ((false,()),()))) (.ret (.again (((IntKind.i64.wrap (p0+(1:Int))),()),((p1,p2,p3,p4,p5,p6,p7,p8,p9,()),())))))) (.ret (.ret ((false,()),())))) (.ret (.ret ((false,()),())))) (.ret (.ret ((false,()),())))) .fail) (.ret (.out ((),((p1,p2,p3,p4,p5,p6,p7,p8,p9,()),()))))
abbrev N4:=(Int×Unit)×(bw×Unit)
def vJ:N4→Out (Round N4 ((Unit)×(Unit)) ((Bool×Unit)×(Unit)))
|((p0,_),(p1,p2,p3,p4,p5,p6,p7,p8,p9,_),_)=> .ite (decide (p0<((List.length p7:Nat):Int))) (.ite (decide (0≤p0)) (.get (nth p7 (Int.toNat p0)) λy1=> .ite ((!(dh y1.1 (0:Int) (5:Int)))==false) (.ite ((decide (((List.length y1.2.1:Nat):Int)>(8:Int)))==false) (.ite ((!(aG y1.2.1))==false) (.ite ((decide (p0>(0:Int)))==true) (.ite (decide (0≤(IntKind.i64.wrap (p0 - (1:Int))))) (.get (nth p7 (Int.toNat (IntKind.i64.wrap (p0 - (1:Int))))) λy2=> .ite (decide (y2.1≥y1.1)) (.ret (.ret ((false,()),()))) (.ret (.again (((IntKind.i64.wrap (p0+(1:Int))),()),((p1,p2,p3,p4,p5,p6,p7,p8,p9,()),()))))) .fail) (.ret (.again (((IntKind.i64.wrap (p0+(1:Int))),()),((p1,p2,p3,p4,p5,p6,p7,p8,p9,()),()))))) (.ret (.ret ((false,()),())))) (.ret (.ret ((false,()),())))) (.ret (.ret ((false,()),())))) .fail) (.ret (.out ((),())))
def tf (a0:Int) (a1:Int) (a2:List (List az)) (a3:List af) (a4:List aj) (a5:List ag) (a6:List ag) (a7:List Int) (a8:List Int):Out (((Bool×Unit)×Unit)×(Unit×Unit)):= .ite ((decide (((List.length a4:Nat):Int)>(8:Int)))==false) (.ite ((decide (((List.length a5:Nat):Int)>(3:Int)))==false) (.ite (decide (((List.length a6:Nat):Int)>(6:Int))) (.ret (((false,()),()),((),()))) (.get (iter vH bc (((0:Int),()),((a0,a1,a2,a3,a4,a5,a6,a7,a8,()),()))) λy1=> .alt y1 (λy2=> .get (iter vI bc (((0:Int),()),((y2.2.1.1,y2.2.1.2.1,y2.2.1.2.2.1,y2.2.1.2.2.2.1,y2.2.1.2.2.2.2.1,y2.2.1.2.2.2.2.2.1,y2.2.1.2.2.2.2.2.2.1,y2.2.1.2.2.2.2.2.2.2.1,y2.2.1.2.2.2.2.2.2.2.2.1,()),()))) λy4=> .alt y4 (λy5=> .get (iter vJ bc (((0:Int),()),((y5.2.1.1,y5.2.1.2.1,y5.2.1.2.2.1,y5.2.1.2.2.2.1,y5.2.1.2.2.2.2.1,y5.2.1.2.2.2.2.2.1,y5.2.1.2.2.2.2.2.2.1,y5.2.1.2.2.2.2.2.2.2.1,y5.2.1.2.2.2.2.2.2.2.2.1,()),()))) λy7=> .alt y7 (λ_=> .ret (((true,()),()),((),()))) (λy9=> .ret (((y9.1.1,()),()),((),())))) (λy6=> .ret (((y6.1.1,()),()),((),())))) (λy3=> .ret (((y3.1.1,()),()),((),()))))) (.ret (((false,()),()),((),())))) (.ret (((false,()),()),((),())))
def ael:Nat→Option aq:=λn=>b6 [(0,⟨⟨[.dead, .vptr 64000000 0, .dead, .i .i64]++dd 155,vG⟩,⟨[.dead, .vptr 64000000 0]++dd 157,vG⟩,some ⟨[.dead, .dead, .b]++dd 156,[]⟩,false⟩),(2,⟨⟨[.dead, .vptr 64000000 0, .dead, .dead, .i .i64]++dd 154,vG⟩,⟨[.dead, .vptr 64000000 0]++dd 157,vG⟩,some ⟨[.dead, .dead, .b]++dd 156,[]⟩,false⟩),(4,⟨⟨[.dead, .vptr 64000000 0]++dd 4++[.i .i64]++dd 152,vG⟩,⟨dd 159,[]⟩,some ⟨[.dead, .dead, .b]++dd 156,[]⟩,false⟩)] n
def U4:bZ:={ f:=23,lend:=true,aJ:=[⟨false,true,[.i .i64, .i .i64, .ro (.sl dk), .ro jM, .ro dZ, .ro dU, .ro dU, .ro (.int .i64), .ro (.int .i64)]⟩],lay:=[none],rs:=[⟨false,false,[.b]⟩],F:=λx=> .ret ((((fP x.1.2.2.2.1 x.1.2.2.2.2.1 x.1.2.2.2.2.2.1 x.1.2.2.2.2.2.2.1),()),()),((),())) }
theorem YP (x:au U4.aJ):bo [U3,vu,I4,LW] ael Tryz.f23 U4 [.tmp 2] x=tf x.1.1 x.1.2.1 x.1.2.2.1 x.1.2.2.2.1 x.1.2.2.2.2.1 x.1.2.2.2.2.2.1 x.1.2.2.2.2.2.2.1 x.1.2.2.2.2.2.2.2.1 x.1.2.2.2.2.2.2.2.2.1:=by kernel_rfl
theorem YQ (hr:∀ x:bw×Unit,aD U4.aJ x→(tf x.1.1 x.1.2.1 x.1.2.2.1 x.1.2.2.2.1 x.1.2.2.2.2.1 x.1.2.2.2.2.2.1 x.1.2.2.2.2.2.2.1 x.1.2.2.2.2.2.2.2.1 x.1.2.2.2.2.2.2.2.2.1).eval=(U4.F x).eval):U4.Ok Tryz.prog:=aO [U3,vu,I4,LW] ⟨YM,jW,Dq,zg,trivial⟩ YP λx hw _ hy=>(hr x hw).trans hy
theorem YR:U4.Ok Tryz.prog:=by
 refine YQ λx hw=> ?_;obtain ⟨⟨a0,a1,a2,a3,a4,a5,a6,a7,a8,_⟩,_⟩:=x;have l2:List.length a2≤aM:=hw.1.1.1;have l3:List.length a3≤aM:=hw.1.2.1.1;have l4:List.length a4≤aM:=hw.1.2.2.1.1;have l5:List.length a5≤aM:=hw.1.2.2.2.1.1;have l6:List.length a6≤aM:=hw.1.2.2.2.2.1.1;have l7:List.length a7≤aM:=hw.1.2.2.2.2.2.1.1;have l8:List.length a8≤aM:=hw.1.2.2.2.2.2.2.1.1;show (tf a0 a1 a2 a3 a4 a5 a6 a7 a8).eval=some ((((fP a3 a4 a5 a6),()),()),((),()));unfold tf;rw [gt8,gt3,gt6];by_cases c1:List.length a4≤8
 case neg=>rw [ae (by first|(simp [c1];done)|(rw [aaE (by omega)];done)|(rw [aa1 (by omega)];done)|(rw [aaE (by omega)];rfl)|(rw [aa1 (by omega)];rfl)|(rw [c1];rfl)|(rw [Bool.eq_false_iff.2 c1];rfl))];simp [Out.eval,fP,c1]
 rw [ab (by first|(simp [c1];done)|(rw [aaE (by omega)];done)|(rw [aa1 (by omega)];done)|(rw [aaE (by omega)];rfl)|(rw [aa1 (by omega)];rfl)|(rw [c1];rfl)|(rw [Bool.eq_false_iff.2 c1];rfl))];by_cases c2:List.length a5≤3
 case neg=>rw [ae (by first|(simp [c2];done)|(rw [aaE (by omega)];done)|(rw [aa1 (by omega)];done)|(rw [aaE (by omega)];rfl)|(rw [aa1 (by omega)];rfl)|(rw [c2];rfl)|(rw [Bool.eq_false_iff.2 c2];rfl))];simp [Out.eval,fP,c2]
 rw [ab (by first|(simp [c2];done)|(rw [aaE (by omega)];done)|(rw [aa1 (by omega)];done)|(rw [aaE (by omega)];rfl)|(rw [aa1 (by omega)];rfl)|(rw [c2];rfl)|(rw [Bool.eq_false_iff.2 c2];rfl))];by_cases c3:List.length a6≤6
 case neg=>rw [ab (by first|(simp [c3];done)|(rw [aaE (by omega)];done)|(rw [aa1 (by omega)];done)|(rw [aaE (by omega)];rfl)|(rw [aa1 (by omega)];rfl)|(rw [c3];rfl)|(rw [Bool.eq_false_iff.2 c3];rfl))];simp [Out.eval,fP,c3]
 rw [ae (by first|(simp [c3];done)|(rw [aaE (by omega)];done)|(rw [aa1 (by omega)];done)|(rw [aaE (by omega)];rfl)|(rw [aa1 (by omega)];rfl)|(rw [c3];rfl)|(rw [Bool.eq_false_iff.2 c3];rfl))];have h1:iter vH bc (((0:Int),()),((a0,a1,a2,a3,a4,a5,a6,a7,a8,()),()))=some (if eB al (jb a3 a5 a6) a4=true then .inl ((),((a0,a1,a2,a3,a4,a5,a6,a7,a8,()),())) else .inr ((false,()),())):=jX (f:=vH) (List.length a4) (sX al (jb a3 a5 a6) a4) (λi=>((((i:Nat):Int),()),((a0,a1,a2,a3,a4,a5,a6,a7,a8,()),()))) (y:=((),((a0,a1,a2,a3,a4,a5,a6,a7,a8,()),()))) (z:=((false,()),()))
  (λi hi=>by
   have w1:=aw (i:=i) (by omega);cases i with
   |zero=>
    rw [ix hi];have w3:decide (((0:Nat):Int)>0)=false:=rfl
    try unfold jb
    try unfold al
    simp only [vH,Out.eval,mP hi,Ay,cL hi,acf,acE,w1,w3];cases p0:fQ a3 a5 a6 a4[0].1 a4[0].2.1 a4[0].2.2.1 a4[0].2.2.2.1 a4[0].2.2.2.2.1<;>rfl
   |succ i=>
    rw [gJ hi];have w2:=jh i (by omega);have w3:decide (((i+1:Nat):Int)>0)=true:=aaE (by omega)
    try unfold jb
    try unfold al
    simp only [vH,Out.eval,mP hi,cL hi,acf,acE,w1,w3,cL (show i<List.length a4 by omega),w2,oZ];cases p0:fQ a3 a5 a6 a4[i+1].1 a4[i+1].2.1 a4[i+1].2.2.1 a4[i+1].2.2.2.1 a4[i+1].2.2.2.2.1<;>cases p1:decide (a4[i].1<a4[i+1].1)<;>rfl)
  (by simp [vH,Out.eval]) l4
 refine (aa h1).trans ?_;by_cases q1:eB al (jb a3 a5 a6) a4=true
 case neg=>rw [aa3 q1];simp [Out.eval,fP,q1]
 rw [aa5 q1];refine (gk _).trans ?_;dsimp only;have h2:iter vI bc (((0:Int),()),((a0,a1,a2,a3,a4,a5,a6,a7,a8,()),()))=some (if eB aB (iH a4) a5=true then .inl ((),((a0,a1,a2,a3,a4,a5,a6,a7,a8,()),())) else .inr ((false,()),())):=jX (f:=vI) (List.length a5) (sX aB (iH a4) a5) (λi=>((((i:Nat):Int),()),((a0,a1,a2,a3,a4,a5,a6,a7,a8,()),()))) (y:=((),((a0,a1,a2,a3,a4,a5,a6,a7,a8,()),()))) (z:=((false,()),()))
  (λi hi=>by
   have w1:=aw (i:=i) (by omega);cases i with
   |zero=>
    rw [ix hi];have w3:decide (((0:Nat):Int)>0)=false:=rfl
    try unfold iH
    try unfold aB
    simp only [vI,Out.eval,mP hi,Ay,cL hi,acf,acE,w1,w3,gt4,xX l4];cases p0:dh a5[0].1 0 2<;>cases p2:decide (List.length a5[0].2.1≤4)<;>cases p3:aG a5[0].2.1<;>cases p4:List.any a4 (eD a5[0].1)<;>rfl
   |succ i=>
    rw [gJ hi];have w2:=jh i (by omega);have w3:decide (((i+1:Nat):Int)>0)=true:=aaE (by omega)
    try unfold iH
    try unfold aB
    simp only [vI,Out.eval,mP hi,cL hi,acf,acE,w1,w3,gt4,xX l4,cL (show i<List.length a5 by omega),w2,oZ];cases p0:dh a5[i+1].1 0 2<;>cases p1:decide (a5[i].1<a5[i+1].1)<;>cases p2:decide (List.length a5[i+1].2.1≤4)<;>cases p3:aG a5[i+1].2.1<;>cases p4:List.any a4 (eD a5[i+1].1)<;>rfl)
  (by simp [vI,Out.eval]) l5
 refine (aa h2).trans ?_;by_cases q2:eB aB (iH a4) a5=true
 case neg=>rw [aa3 q2];simp [Out.eval,fP,q2]
 rw [aa5 q2];refine (gk _).trans ?_;dsimp only;have h3:iter vJ bc (((0:Int),()),((a0,a1,a2,a3,a4,a5,a6,a7,a8,()),()))=some (if eB aR eF a6=true then .inl ((),()) else .inr ((false,()),())):=jX (f:=vJ) (List.length a6) (sX aR eF a6) (λi=>((((i:Nat):Int),()),((a0,a1,a2,a3,a4,a5,a6,a7,a8,()),()))) (y:=((),())) (z:=((false,()),()))
  (λi hi=>by
   have w1:=aw (i:=i) (by omega);cases i with
   |zero=>
    rw [ix hi];have w3:decide (((0:Nat):Int)>0)=false:=rfl
    try unfold eF
    try unfold aR
    simp only [vJ,Out.eval,mP hi,Ay,cL hi,acf,acE,w1,w3,gt8];cases p0:dh a6[0].1 0 5<;>cases p2:decide (List.length a6[0].2.1≤8)<;>cases p3:aG a6[0].2.1<;>rfl
   |succ i=>
    rw [gJ hi];have w2:=jh i (by omega);have w3:decide (((i+1:Nat):Int)>0)=true:=aaE (by omega)
    try unfold eF
    try unfold aR
    simp only [vJ,Out.eval,mP hi,cL hi,acf,acE,w1,w3,gt8,cL (show i<List.length a6 by omega),w2,oZ];cases p0:dh a6[i+1].1 0 5<;>cases p1:decide (a6[i].1<a6[i+1].1)<;>cases p2:decide (List.length a6[i+1].2.1≤8)<;>cases p3:aG a6[i+1].2.1<;>rfl)
  (by simp [vJ,Out.eval]) l6
 refine (aa h3).trans ?_;by_cases q3:eB aR eF a6=true
 case neg=>rw [aa3 q3];simp [Out.eval,fP,q3]
 rw [aa5 q3];simp [Out.eval,fP,c1,c2,c3,q1,q2,q3]
abbrev N5:=(Int×Int×Unit)×(bw×Unit)
def Dv:N5→Out (Round N5 ((Int×Unit)×(bw×Unit)) ((Bool×Unit)×(Unit)))
|((p0,p1,_),(p2,p3,p4,p5,p6,p7,p8,p9,cH,_),_)=> .ite (decide (p1<((List.length p5:Nat):Int))) (.ite (decide (0≤p1)) (.get (nth p5 (Int.toNat p1)) λy1=> .ite ((y1.2.2.1==(1:Int))) (.ite (decide (0≤p1)) (.get (nth p5 (Int.toNat p1)) λy2=> .ite (!(kJ p9 y2.1)) (.ret (.ret ((false,()),()))) (.ret (.again (((IntKind.i64.wrap (p0+(1:Int))),(IntKind.i64.wrap (p1+(1:Int))),()),((p2,p3,p4,p5,p6,p7,p8,p9,cH,()),()))))) .fail) (.ret (.again ((p0,(IntKind.i64.wrap (p1+(1:Int))),()),((p2,p3,p4,p5,p6,p7,p8,p9,cH,()),()))))) .fail) (.ret (.out ((p0,()),((p2,p3,p4,p5,p6,p7,p8,p9,cH,()),()))))
def tg (a0:Int) (a1:Int) (a2:List (List az)) (a3:List af) (a4:List aj) (a5:List ag) (a6:List ag) (a7:List Int) (a8:List Int):Out (((Bool×Unit)×Unit)×(Unit×Unit)):= .get (iter Dv bc (((0:Int),(0:Int),()),((a0,a1,a2,a3,a4,a5,a6,a7,a8,()),()))) λy1=> .alt y1 (λy2=> .ret (((((y2.1.1==((List.length y2.2.1.2.2.2.2.2.2.2.1:Nat):Int))),()),()),((),()))) (λy3=> .ret (((y3.1.1,()),()),((),())))
abbrev Dw:List (Nat×eA):=[(64000000, .var [.i .i64, .i .i64, .ro (.sl dk) (some 0), .ro jM (some 1), .ro dZ (some 2), .ro dU (some 3), .ro dU (some 4), .ro (.int .i64) (some 5), .ro (.int .i64) (some 6)])]
def aem:Nat→Option aq:=λn=>b6 [(0,⟨⟨[.dead, .vptr 64000000 0, .dead, .i .i64, .i .i64]++dd 31,Dw⟩,⟨[.dead, .vptr 64000000 0, .dead, .i .i64]++dd 32,Dw⟩,some ⟨[.dead, .dead, .b]++dd 33,[]⟩,false⟩)] n
def zh (rd:List Int) (n:Int) (p:af):Option Int:=if p.2.2.1=1 then (if kJ rd p.1=true then some (IntKind.i64.wrap (n+1)) else none) else some n
theorem pd (rd:List Int):∀ (ps:List af) (n:Nat),n+ps.length≤9223372036854775807→
  yQ (zh rd) ((n:Nat):Int) ps=if (aH ps).all (kJ rd)=true then some ((n+(aH ps).length:Nat):Int) else none
 |[],n,_=>by simp [yQ,aH]
 |p::r,n,h=>by
  rw [aby] at h;simp only [yQ];by_cases hp:p.2.2.1=1
  . have e:aH (p::r)=p.1::aH r:=by simp [aH,ki,hp,ao]
    have eg:zh rd ((n:Nat):Int) p=if kJ rd p.1=true then some (IntKind.i64.wrap (((n:Nat):Int)+1)) else none:=aa5 hp
    rw [eg,e,ack,aby];by_cases hh:kJ rd p.1=true
    . rw [aa5 hh,hh,acU]
      have ih:=pd rd r (n+1) (by omega);rw [jy (by omega) (by omega),show ((n:Nat):Int)+1=((n+1:Nat):Int) by omega];simp only;rw [ih];congr 2;omega
    . rw [aa3 hh,Bool.eq_false_iff.2 hh,Bool.false_and,aa3 (by decide)]
  . have e:aH (p::r)=aH r:=by simp [aH,ki,hp]
    have eg:zh rd ((n:Nat):Int) p=some ((n:Nat):Int):=aa3 hp;rw [eg,e];simp only;exact pd rd r n (by omega)
def U5:bZ:={ f:=24,lend:=true,aJ:=[⟨false,true,[.i .i64, .i .i64, .ro (.sl dk), .ro jM, .ro dZ, .ro dU, .ro dU, .ro (.int .i64), .ro (.int .i64)]⟩],lay:=[none],rs:=[⟨false,false,[.b]⟩],F:=λx=> .ret ((((ln x.1.2.2.2.1 x.1.2.2.2.2.2.2.2.1),()),()),((),())) }
theorem YS (x:au U5.aJ):bo [QE] aem Tryz.f24 U5 [.tmp 2] x=tg x.1.1 x.1.2.1 x.1.2.2.1 x.1.2.2.2.1 x.1.2.2.2.2.1 x.1.2.2.2.2.2.1 x.1.2.2.2.2.2.2.1 x.1.2.2.2.2.2.2.2.1 x.1.2.2.2.2.2.2.2.2.1:=by kernel_rfl
theorem YT (hr:∀ x:bw×Unit,aD U5.aJ x→(tg x.1.1 x.1.2.1 x.1.2.2.1 x.1.2.2.2.1 x.1.2.2.2.2.1 x.1.2.2.2.2.2.1 x.1.2.2.2.2.2.2.1 x.1.2.2.2.2.2.2.2.1 x.1.2.2.2.2.2.2.2.2.1).eval=(U5.F x).eval):U5.Ok Tryz.prog:=aO [QE] ⟨NR,trivial⟩ YS λx hw _ hy=>(hr x hw).trans hy
theorem YU:U5.Ok Tryz.prog:=by
 refine YT λx hw=> ?_;obtain ⟨⟨a0,a1,a2,a3,a4,a5,a6,a7,a8,_⟩,_⟩:=x;have l2:List.length a2≤aM:=hw.1.1.1;have l3:List.length a3≤aM:=hw.1.2.1.1;have l4:List.length a4≤aM:=hw.1.2.2.1.1;have l5:List.length a5≤aM:=hw.1.2.2.2.1.1;have l6:List.length a6≤aM:=hw.1.2.2.2.2.1.1;have l7:List.length a7≤aM:=hw.1.2.2.2.2.2.1.1;have l8:List.length a8≤aM:=hw.1.2.2.2.2.2.2.1.1;show (tg a0 a1 a2 a3 a4 a5 a6 a7 a8).eval=some ((((ln a3 a7),()),()),((),()));unfold tg ln;have h:=KN (f:=Dv) a3 (zh a7) (λ_ _=>True) (λd i=>((d,((i:Nat):Int),()),((a0,a1,a2,a3,a4,a5,a6,a7,a8,()),()))) (λd=>((d,()),((a0,a1,a2,a3,a4,a5,a6,a7,a8,()),()))) ((false,()),())
  (λ_ _ _ _ _ _=>trivial)
  (λi hi d _=>by
   have h1:=aw (i:=i) (by omega);unfold zh;by_cases q:a3[i].2.2.1=1<;>cases q2:kJ a7 a3[i].1<;>simp [Dv,Out.eval,hi,h1,cond_eq_ite,q,q2])
  (λd _=>by simp [Dv,Out.eval]) l3 (d:=0) trivial
 have e:=pd a7 a3 0 (by have:List.length a3≤9223372036854775807:=l3;omega);rw [show (((0:Nat):Int))=0 from rfl] at e;rw [e] at h;refine (aa h).trans ?_;by_cases q:List.all (aH a3) (kJ a7)=true
 . rw [aa5 q,q,acw,acU]
   refine (gk _).trans ?_;have e2:(((List.length (aH a3):Nat):Int)==((List.length a7:Nat):Int))=decide (List.length (aH a3)=List.length a7):=by rw [ace];simp;omega
   dsimp only;rw [e2];rfl
 . rw [aa3 q,Bool.eq_false_iff.2 q];rfl
abbrev N6:=(Int×Unit)×(bw×Unit)
def vK:N6→Out (Round N6 ((Unit)×(bw×Unit)) ((Bool×Unit)×(Unit)))
|((p0,_),(p1,p2,p3,p4,p5,p6,p7,p8,p9,_),_)=> .ite (decide (p0<((List.length p4:Nat):Int))) (.ite (decide (0≤p0)) (.get (nth p4 (Int.toNat p0)) λy1=> .ite ((!(dh y1.1 (1:Int) (IntKind.i64.wrap (p1 - (1:Int)))))==false) (.ite ((decide (p0>(0:Int)))==true) (.ite (decide (0≤(IntKind.i64.wrap (p0 - (1:Int))))) (.get (nth p4 (Int.toNat (IntKind.i64.wrap (p0 - (1:Int))))) λy2=> .ite ((decide (y2.1≥y1.1))==false) (.ite (!(eV p2 p3 p4 p5 y1.1 y1.2.1 y1.2.2.1 y1.2.2.2.1 y1.2.2.2.2.1.1 y1.2.2.2.2.1.2.1 y1.2.2.2.2.2.1 y1.2.2.2.2.2.2.1 y1.2.2.2.2.2.2.2.1 y1.2.2.2.2.2.2.2.2.1)) (.ret (.ret ((false,()),()))) (.ret (.again (((IntKind.i64.wrap (p0+(1:Int))),()),((p1,p2,p3,p4,p5,p6,p7,p8,p9,()),()))))) (.ret (.ret ((false,()),())))) .fail) (.ite (!(eV p2 p3 p4 p5 y1.1 y1.2.1 y1.2.2.1 y1.2.2.2.1 y1.2.2.2.2.1.1 y1.2.2.2.2.1.2.1 y1.2.2.2.2.2.1 y1.2.2.2.2.2.2.1 y1.2.2.2.2.2.2.2.1 y1.2.2.2.2.2.2.2.2.1)) (.ret (.ret ((false,()),()))) (.ret (.again (((IntKind.i64.wrap (p0+(1:Int))),()),((p1,p2,p3,p4,p5,p6,p7,p8,p9,()),())))))) (.ret (.ret ((false,()),())))) .fail) (.ret (.out ((),((p1,p2,p3,p4,p5,p6,p7,p8,p9,()),()))))
def th (a0:Int) (a1:Int) (a2:List (List az)) (a3:List af) (a4:List aj) (a5:List ag) (a6:List ag) (a7:List Int) (a8:List Int):Out (((Bool×Unit)×Unit)×(Unit×Unit)):= .ite ((!(dh a0 (1:Int) (100000:Int)))==false) (.ite ((!(dh a1 (0:Int) (1000000:Int)))==false) (.ite ((!(cO a2))==false) (.ite ((decide (((List.length a8:Nat):Int)>(60:Int)))==false) (.ite ((!(aG a8))==false) (.ite ((decide (((List.length a3:Nat):Int)>(6:Int)))==false) (.ite (decide ((mx a3)>(16:Int))) (.ret (((false,()),()),((),()))) (.get (iter vK bc (((0:Int),()),((a0,a1,a2,a3,a4,a5,a6,a7,a8,()),()))) λy1=> .alt y1 (λy2=> .ite ((fP y2.2.1.2.2.2.1 y2.2.1.2.2.2.2.1 y2.2.1.2.2.2.2.2.1 y2.2.1.2.2.2.2.2.2.1)==true) (.ret ((((ln y2.2.1.2.2.2.1 y2.2.1.2.2.2.2.2.2.2.1),()),()),((),()))) (.ret (((false,()),()),((),())))) (λy3=> .ret (((y3.1.1,()),()),((),()))))) (.ret (((false,()),()),((),())))) (.ret (((false,()),()),((),())))) (.ret (((false,()),()),((),())))) (.ret (((false,()),()),((),())))) (.ret (((false,()),()),((),())))) (.ret (((false,()),()),((),())))
def aen:Nat→Option aq:=λn=>b6 [(0,⟨⟨[.dead, .vptr 64000000 0, .dead, .i .i64]++dd 87,Dw⟩,⟨[.dead, .vptr 64000000 0]++dd 89,Dw⟩,some ⟨[.dead, .dead, .b]++dd 88,[]⟩,false⟩)] n
def LN:bZ:={ f:=10,lend:=true,aJ:=[⟨false,true,[.i .i64, .i .i64, .ro (.sl dk), .ro jM, .ro dZ, .ro dU, .ro dU, .ro (.int .i64), .ro (.int .i64)]⟩],lay:=[none],rs:=[⟨false,false,[.b]⟩],F:=λx=> .ret ((((b5 x.1.1 x.1.2.1 x.1.2.2.1 x.1.2.2.2.1 x.1.2.2.2.2.1 x.1.2.2.2.2.2.1 x.1.2.2.2.2.2.2.1 x.1.2.2.2.2.2.2.2.1 x.1.2.2.2.2.2.2.2.2.1),()),()),((),())) }
theorem YV (x:au LN.aJ):bo [vu,Rt,I4,RV,U2,U4,U5] aen Tryz.f10 LN [.tmp 2] x=th x.1.1 x.1.2.1 x.1.2.2.1 x.1.2.2.2.1 x.1.2.2.2.2.1 x.1.2.2.2.2.2.1 x.1.2.2.2.2.2.2.1 x.1.2.2.2.2.2.2.2.1 x.1.2.2.2.2.2.2.2.2.1:=by kernel_rfl
theorem YW (hr:∀ x:bw×Unit,aD LN.aJ x→(th x.1.1 x.1.2.1 x.1.2.2.1 x.1.2.2.2.1 x.1.2.2.2.2.1 x.1.2.2.2.2.2.1 x.1.2.2.2.2.2.2.1 x.1.2.2.2.2.2.2.2.1 x.1.2.2.2.2.2.2.2.2.1).eval=(LN.F x).eval):LN.Ok Tryz.prog:=aO [vu,Rt,I4,RV,U2,U4,U5] ⟨jW,M3,Dq,NT,YJ,YR,YU,trivial⟩ YV λx hw _ hy=>(hr x hw).trans hy
theorem Hl:LN.Ok Tryz.prog:=by
 refine YW λx hw=> ?_;obtain ⟨⟨a0,a1,a2,a3,a4,a5,a6,a7,a8,_⟩,_⟩:=x;have l2:List.length a2≤aM:=hw.1.1.1;have l3:List.length a3≤aM:=hw.1.2.1.1;have l4:List.length a4≤aM:=hw.1.2.2.1.1;have l5:List.length a5≤aM:=hw.1.2.2.2.1.1;have l6:List.length a6≤aM:=hw.1.2.2.2.2.1.1;have l7:List.length a7≤aM:=hw.1.2.2.2.2.2.1.1;have l8:List.length a8≤aM:=hw.1.2.2.2.2.2.2.1.1;show (th a0 a1 a2 a3 a4 a5 a6 a7 a8).eval=some ((((b5 a0 a1 a2 a3 a4 a5 a6 a7 a8),()),()),((),()));unfold th;rw [aea,gt6];by_cases c1:dh a0 1 100000=true
 case neg=>rw [ae (by first|(simp [c1];done)|(rw [aaE (by omega)];done)|(rw [aa1 (by omega)];done)|(rw [aaE (by omega)];rfl)|(rw [aa1 (by omega)];rfl)|(rw [c1];rfl)|(rw [Bool.eq_false_iff.2 c1];rfl))];simp [Out.eval,b5,c1]
 rw [ab (by first|(simp [c1];done)|(rw [aaE (by omega)];done)|(rw [aa1 (by omega)];done)|(rw [aaE (by omega)];rfl)|(rw [aa1 (by omega)];rfl)|(rw [c1];rfl)|(rw [Bool.eq_false_iff.2 c1];rfl))];by_cases c2:dh a1 0 1000000=true
 case neg=>rw [ae (by first|(simp [c2];done)|(rw [aaE (by omega)];done)|(rw [aa1 (by omega)];done)|(rw [aaE (by omega)];rfl)|(rw [aa1 (by omega)];rfl)|(rw [c2];rfl)|(rw [Bool.eq_false_iff.2 c2];rfl))];simp [Out.eval,b5,c2]
 rw [ab (by first|(simp [c2];done)|(rw [aaE (by omega)];done)|(rw [aa1 (by omega)];done)|(rw [aaE (by omega)];rfl)|(rw [aa1 (by omega)];rfl)|(rw [c2];rfl)|(rw [Bool.eq_false_iff.2 c2];rfl))];by_cases c3:cO a2=true
 case neg=>rw [ae (by first|(simp [c3];done)|(rw [aaE (by omega)];done)|(rw [aa1 (by omega)];done)|(rw [aaE (by omega)];rfl)|(rw [aa1 (by omega)];rfl)|(rw [c3];rfl)|(rw [Bool.eq_false_iff.2 c3];rfl))];simp [Out.eval,b5,c3]
 rw [ab (by first|(simp [c3];done)|(rw [aaE (by omega)];done)|(rw [aa1 (by omega)];done)|(rw [aaE (by omega)];rfl)|(rw [aa1 (by omega)];rfl)|(rw [c3];rfl)|(rw [Bool.eq_false_iff.2 c3];rfl))];by_cases c4:List.length a8≤60
 case neg=>rw [ae (by first|(simp [c4];done)|(rw [aaE (by omega)];done)|(rw [aa1 (by omega)];done)|(rw [aaE (by omega)];rfl)|(rw [aa1 (by omega)];rfl)|(rw [c4];rfl)|(rw [Bool.eq_false_iff.2 c4];rfl))];simp [Out.eval,b5,c4]
 rw [ab (by first|(simp [c4];done)|(rw [aaE (by omega)];done)|(rw [aa1 (by omega)];done)|(rw [aaE (by omega)];rfl)|(rw [aa1 (by omega)];rfl)|(rw [c4];rfl)|(rw [Bool.eq_false_iff.2 c4];rfl))];by_cases c5:aG a8=true
 case neg=>rw [ae (by first|(simp [c5];done)|(rw [aaE (by omega)];done)|(rw [aa1 (by omega)];done)|(rw [aaE (by omega)];rfl)|(rw [aa1 (by omega)];rfl)|(rw [c5];rfl)|(rw [Bool.eq_false_iff.2 c5];rfl))];simp [Out.eval,b5,c5]
 rw [ab (by first|(simp [c5];done)|(rw [aaE (by omega)];done)|(rw [aa1 (by omega)];done)|(rw [aaE (by omega)];rfl)|(rw [aa1 (by omega)];rfl)|(rw [c5];rfl)|(rw [Bool.eq_false_iff.2 c5];rfl))];by_cases c6:List.length a3≤6
 case neg=>rw [ae (by first|(simp [c6];done)|(rw [aaE (by omega)];done)|(rw [aa1 (by omega)];done)|(rw [aaE (by omega)];rfl)|(rw [aa1 (by omega)];rfl)|(rw [c6];rfl)|(rw [Bool.eq_false_iff.2 c6];rfl))];simp [Out.eval,b5,c6]
 rw [ab (by first|(simp [c6];done)|(rw [aaE (by omega)];done)|(rw [aa1 (by omega)];done)|(rw [aaE (by omega)];rfl)|(rw [aa1 (by omega)];rfl)|(rw [c6];rfl)|(rw [Bool.eq_false_iff.2 c6];rfl))];by_cases c7:mx a3≤16
 case neg=>rw [ab (by first|(simp;done)|(rw [aaE (by omega)];done)|(rw [aa1 (by omega)];done)|(rw [aaE (by omega)];rfl)|(rw [aa1 (by omega)];rfl)|(rw [c7];rfl)|(rw [Bool.eq_false_iff.2 c7];rfl))];simp [Out.eval,b5,c7]
 rw [ae (by first|(simp [c7];done)|(rw [aaE (by omega)];done)|(rw [aa1 (by omega)];done)|(rw [aaE (by omega)];rfl)|(rw [aa1 (by omega)];rfl)|(rw [c7];rfl)|(rw [Bool.eq_false_iff.2 c7];rfl))];have h:iter vK bc (((0:Int),()),((a0,a1,a2,a3,a4,a5,a6,a7,a8,()),()))=some (if eB ao (ee a0 a1 (List.length a2) a3 a4) a3=true then .inl ((),((a0,a1,a2,a3,a4,a5,a6,a7,a8,()),())) else .inr ((false,()),())):=jX (f:=vK) (List.length a3) (sX ao (ee a0 a1 (List.length a2) a3 a4) a3) (λi=>((((i:Nat):Int),()),((a0,a1,a2,a3,a4,a5,a6,a7,a8,()),()))) (y:=((),((a0,a1,a2,a3,a4,a5,a6,a7,a8,()),()))) (z:=((false,()),()))
  (λi hi=>by
   have w1:=aw (i:=i) (by omega);cases i with
   |zero=>
    rw [ix hi];have w3:decide (((0:Nat):Int)>0)=false:=rfl
    try unfold ee
    try unfold oX
    try unfold ao
    simp only [vK,Out.eval,mP hi,Ay,cL hi,acf,acE,w1,w3,eV];cases p0:dh a3[0].1 1 (IntKind.i64.wrap (a0 - 1))<;>cases p2:cV a1 (List.length a2) a3 a4 a3[0].1 a3[0].2.1 a3[0].2.2.1 a3[0].2.2.2.1 a3[0].2.2.2.2.1.1 a3[0].2.2.2.2.1.2.1 a3[0].2.2.2.2.2.1 a3[0].2.2.2.2.2.2.1 a3[0].2.2.2.2.2.2.2.1 a3[0].2.2.2.2.2.2.2.2.1<;>rfl
   |succ i=>
    rw [gJ hi];have w2:=jh i (by omega);have w3:decide (((i+1:Nat):Int)>0)=true:=aaE (by omega)
    try unfold ee
    try unfold oX
    try unfold ao
    simp only [vK,Out.eval,mP hi,cL hi,acf,acE,w1,w3,eV,cL (show i<List.length a3 by omega),w2,oZ];cases p0:dh a3[i+1].1 1 (IntKind.i64.wrap (a0 - 1))<;>cases p1:decide (a3[i].1<a3[i+1].1)<;>cases p2:cV a1 (List.length a2) a3 a4 a3[i+1].1 a3[i+1].2.1 a3[i+1].2.2.1 a3[i+1].2.2.2.1 a3[i+1].2.2.2.2.1.1 a3[i+1].2.2.2.2.1.2.1 a3[i+1].2.2.2.2.2.1 a3[i+1].2.2.2.2.2.2.1 a3[i+1].2.2.2.2.2.2.2.1 a3[i+1].2.2.2.2.2.2.2.2.1<;>rfl)
  (by simp [vK,Out.eval]) l3
 refine (aa h).trans ?_;by_cases q:eB ao (ee a0 a1 (List.length a2) a3 a4) a3=true
 case neg=>rw [aa3 q];simp [Out.eval,b5,q]
 rw [aa5 q];refine (gk _).trans ?_;dsimp only;unfold b5;rw [c1,c2,c3,aaE c4,c5,aaE c6,aaE c7,q];cases fP a3 a4 a5 a6<;>cases ln a3 a7<;>rfl
def j5 (pid v:Int):Bool×Int:=(pid==v,v)
def ti (a0:Int) (_:Int) (_:Int) (_:Int) (_:Int) (_:List Int) (_:List Int) (_:List Int) (_:Int) (_:Int) (eR:Int):Out (((Bool×Unit)×Unit)×(Unit×(Int×Unit)×Unit)):= .ret (((((a0==eR)),()),()),((),(eR,()),()))
def U6:bZ:={ f:=92,lend:=true,aJ:=[⟨false,true,[.i .i64, .i .i64, .i .i64, .i .i64, .i .i64, .ro (.int .i64), .ro (.int .i64), .ro (.int .i64), .i .i64, .i .i64]⟩,⟨true,false,[.i .i64]⟩],lay:=[none,none],rs:=[⟨false,false,[.b]⟩],F:=λx=> .ret ((((j5 x.1.1 x.2.1.1).1,()),()),((),((j5 x.1.1 x.2.1.1).2,()),())) }
theorem YX (x:au U6.aJ):bo [] (λ_=>none) Tryz.f92 U6 [.tmp 3] x=ti x.1.1 x.1.2.1 x.1.2.2.1 x.1.2.2.2.1 x.1.2.2.2.2.1 x.1.2.2.2.2.2.1 x.1.2.2.2.2.2.2.1 x.1.2.2.2.2.2.2.2.1 x.1.2.2.2.2.2.2.2.2.1 x.1.2.2.2.2.2.2.2.2.2.1 x.2.1.1:=by kernel_rfl
theorem YY (hr:∀ x:XM×(Int×Unit)×Unit,aD U6.aJ x→(ti x.1.1 x.1.2.1 x.1.2.2.1 x.1.2.2.2.1 x.1.2.2.2.2.1 x.1.2.2.2.2.2.1 x.1.2.2.2.2.2.2.1 x.1.2.2.2.2.2.2.2.1 x.1.2.2.2.2.2.2.2.2.1 x.1.2.2.2.2.2.2.2.2.2.1 x.2.1.1).eval=(U6.F x).eval):U6.Ok Tryz.prog:=aO [] trivial YX λx hw _ hy=>(hr x hw).trans hy
theorem YZ:U6.Ok Tryz.prog:=by
 refine YY λx hw=> ?_;obtain ⟨⟨a0,a1,a2,a3,a4,a5,a6,a7,a8,a9,_⟩,⟨eR,_⟩,_⟩:=x;have l5:List.length a5≤aM:=hw.1.1.1;have l6:List.length a6≤aM:=hw.1.2.1.1;have l7:List.length a7≤aM:=hw.1.2.2.1.1;show (ti a0 a1 a2 a3 a4 a5 a6 a7 a8 a9 eR).eval=some ((((j5 a0 eR).1,()),()),((),((j5 a0 eR).2,()),()));unfold ti j5;simp only [Out.eval]
 all_goals ((repeat' split)<;>simp_all)
def ly (a:List af) (v:Int):Int×Int:=(ak a v,v)
abbrev Jb:=XS×((Int×Unit)×Unit)
def qm:Jb→Out (Round Jb ((Unit)×((Int×Unit)×Unit)) ((Int×Unit)×((Int×Unit)×Unit)))
|((p0,p1,p2,_),(p3,_),_)=> .ite (decide (p2<p1)) (.ite (decide (0≤p2)) (.get (nth p0 (Int.toNat p2)) λy1=> .ite ((j5 y1.1 p3).1) (.ret (.ret ((p2,()),(((j5 y1.1 p3).2,()),())))) (.ret (.again ((p0,p1,(IntKind.i64.wrap (p2+(1:Int))),()),(((j5 y1.1 p3).2,()),()))))) .fail) (.ret (.out ((),((p3,()),()))))
def qn (a0:List af) (a1:Int):Out (((Int×Unit)×Unit)×(Unit×(Int×Unit)×Unit)):= .get (iter qm bc ((a0,((List.length a0:Nat):Int),(0:Int),()),((a1,()),()))) λy1=> .alt y1 (λy2=> .ret ((((-1:Int),()),()),((),(y2.2.1.1,()),()))) (λy3=> .ret (((y3.1.1,()),()),((),(y3.2.1.1,()),())))
def Y0:Nat→Option aq:=λn=>b6 [(0,⟨⟨[.ro jM (some 0), .fn 92 [1]]++dd 5++[.i .i64, .i .i64]++dd 10,[(1, .var [.i .i64])]⟩,⟨[.dead, .fn 92 [1]]++dd 17,[(1, .var [.i .i64])]⟩,some ⟨[.dead, .fn 92 [1], .dead, .dead, .i .i64]++dd 14,[(1, .var [.i .i64])]⟩,false⟩)] n
def FB:bZ:={ f:=91,lend:=true,aJ:=[⟨false,false,[.ro jM]⟩,⟨true,false,[.i .i64]⟩],lay:=[none,some (92,1)],rs:=[⟨false,false,[.i .i64]⟩],F:=λx=> .ret ((((ly x.1.1 x.2.1.1).1,()),()),((),((ly x.1.1 x.2.1.1).2,()),())) }
theorem RX (x:au FB.aJ):bo [U6] Y0 Tryz.f91 FB [.tmp 4] x=qn x.1.1 x.2.1.1:=by kernel_rfl
theorem RY (hr:∀ x:(List af×Unit)×(Int×Unit)×Unit,aD FB.aJ x→(qn x.1.1 x.2.1.1).eval=(FB.F x).eval):FB.Ok Tryz.prog:=aO [U6] ⟨YZ,trivial⟩ RX λx hw _ hy=>(hr x hw).trans hy
theorem RZ:FB.Ok Tryz.prog:=by
 refine RY λx hw=> ?_;obtain ⟨⟨a0,_⟩,⟨a1,_⟩,_⟩:=x;have l0:List.length a0≤aM:=hw.1.1.1;show (qn a0 a1).eval=some ((((ly a0 a1).1,()),()),((),((ly a0 a1).2,()),()));unfold qn ly ak cU fj;have h:iter qm bc ((a0,((List.length a0:Nat):Int),(0:Int),()),((a1,()),()))=some (match List.findIdx? (λx=>ao x==a1) a0 with|some i=> .inr ((((i:Nat):Int),()),((a1,()),()))|none=> .inl ((),((a1,()),()))):=dY (f:=qm) a0 (λx=>ao x==a1) (λi=>((a0,((List.length a0:Nat):Int),((i:Nat):Int),()),((a1,()),()))) (y:=((),((a1,()),()))) (z:=λi=>((((i:Nat):Int),()),((a1,()),())))
  (λi hi hp=>by
   have h1:=aw (i:=i) (by omega);simp [qm,Out.eval,hi,h1,cond_eq_ite,ao,j5] at hp ⊢ <;>(try simp_all)<;>(try (rcases hp with h|h<;>simp_all)))
  (λi hi hp=>by simp [qm,Out.eval,hi,cond_eq_ite,ao,j5] at hp ⊢ <;>(try simp_all)<;>(try (rcases hp with h|h<;>simp_all)))
  (by simp [qm,Out.eval]) l0
 refine (aa h).trans ?_;cases List.findIdx? (λx=>ao x==a1) a0<;>rfl
def tj (_:Int) (_:Int) (_:List (List az)) (a3:List af) (_:List aj) (_:List ag) (_:List ag) (_:List Int) (_:List Int) (a9:Int):Out (((Int×Unit)×Unit)×XI):= .ret ((((ly a3 a9).1,()),()),((),(),()))
def U7:bZ:={ f:=64,lend:=true,aJ:=[⟨false,true,[.i .i64, .i .i64, .ro (.sl dk), .ro jM, .ro dZ, .ro dU, .ro dU, .ro (.int .i64), .ro (.int .i64)]⟩,⟨false,false,[.i .i64]⟩],lay:=[none,none],rs:=[⟨false,false,[.i .i64]⟩],F:=λx=> .ret ((((ak x.1.2.2.2.1 x.2.1.1),()),()),((),(),())) }
theorem Y1 (x:au U7.aJ):bo [FB] (λ_=>none) Tryz.f64 U7 [.tmp 4] x=tj x.1.1 x.1.2.1 x.1.2.2.1 x.1.2.2.2.1 x.1.2.2.2.2.1 x.1.2.2.2.2.2.1 x.1.2.2.2.2.2.2.1 x.1.2.2.2.2.2.2.2.1 x.1.2.2.2.2.2.2.2.2.1 x.2.1.1:=by kernel_rfl
theorem Y2 (hr:∀ x:bw×(Int×Unit)×Unit,aD U7.aJ x→(tj x.1.1 x.1.2.1 x.1.2.2.1 x.1.2.2.2.1 x.1.2.2.2.2.1 x.1.2.2.2.2.2.1 x.1.2.2.2.2.2.2.1 x.1.2.2.2.2.2.2.2.1 x.1.2.2.2.2.2.2.2.2.1 x.2.1.1).eval=(U7.F x).eval):U7.Ok Tryz.prog:=aO [FB] ⟨RZ,trivial⟩ Y1 λx hw _ hy=>(hr x hw).trans hy
theorem Y3:U7.Ok Tryz.prog:=by
 refine Y2 λx hw=> ?_;obtain ⟨⟨a0,a1,a2,a3,a4,a5,a6,a7,a8,_⟩,⟨a9,_⟩,_⟩:=x;have l2:List.length a2≤aM:=hw.1.1.1;have l3:List.length a3≤aM:=hw.1.2.1.1;have l4:List.length a4≤aM:=hw.1.2.2.1.1;have l5:List.length a5≤aM:=hw.1.2.2.2.1.1;have l6:List.length a6≤aM:=hw.1.2.2.2.2.1.1;have l7:List.length a7≤aM:=hw.1.2.2.2.2.2.1.1;have l8:List.length a8≤aM:=hw.1.2.2.2.2.2.2.1.1;show (tj a0 a1 a2 a3 a4 a5 a6 a7 a8 a9).eval=some ((((ak a3 a9),()),()),((),(),()));unfold tj ly;simp only [Out.eval]
 all_goals ((repeat' split)<;>simp_all)
def j6 (id v:Int):Bool×Int:=(id==v,v)
def tp (a0:Int) (_:Int) (_:Int) (_:Int) (_:Int) (a5:Int):Out (((Bool×Unit)×Unit)×(Unit×(Int×Unit)×Unit)):= .ret (((((a0==a5)),()),()),((),(a5,()),()))
def U8:bZ:={ f:=95,lend:=true,aJ:=[⟨false,true,[.i .i64, .i .i64, .i .i64, .i .i64, .i .i64]⟩,⟨true,false,[.i .i64]⟩],lay:=[none,none],rs:=[⟨false,false,[.b]⟩],F:=λx=> .ret ((((j6 x.1.1 x.2.1.1).1,()),()),((),((j6 x.1.1 x.2.1.1).2,()),())) }
theorem Y4 (x:au U8.aJ):bo [] (λ_=>none) Tryz.f95 U8 [.tmp 3] x=tp x.1.1 x.1.2.1 x.1.2.2.1 x.1.2.2.2.1 x.1.2.2.2.2.1 x.2.1.1:=by kernel_rfl
theorem Y5 (hr:∀ x:aj×(Int×Unit)×Unit,aD U8.aJ x→(tp x.1.1 x.1.2.1 x.1.2.2.1 x.1.2.2.2.1 x.1.2.2.2.2.1 x.2.1.1).eval=(U8.F x).eval):U8.Ok Tryz.prog:=aO [] trivial Y4 λx hw _ hy=>(hr x hw).trans hy
theorem Y6:U8.Ok Tryz.prog:=by
 refine Y5 λx hw=> ?_;obtain ⟨⟨a0,a1,a2,a3,a4,_⟩,⟨a5,_⟩,_⟩:=x;show (tp a0 a1 a2 a3 a4 a5).eval=some ((((j6 a0 a5).1,()),()),((),((j6 a0 a5).2,()),()));unfold tp j6;simp only [Out.eval]
 all_goals ((repeat' split)<;>simp_all)
def lz (a:List aj) (v:Int):Int×Int:=(aF a v,v)
abbrev Jc:=(List aj×Int×Int×Unit)×((Int×Unit)×Unit)
def qo:Jc→Out (Round Jc ((Unit)×((Int×Unit)×Unit)) ((Int×Unit)×((Int×Unit)×Unit)))
|((p0,p1,p2,_),(p3,_),_)=> .ite (decide (p2<p1)) (.ite (decide (0≤p2)) (.get (nth p0 (Int.toNat p2)) λy1=> .ite ((j6 y1.1 p3).1) (.ret (.ret ((p2,()),(((j6 y1.1 p3).2,()),())))) (.ret (.again ((p0,p1,(IntKind.i64.wrap (p2+(1:Int))),()),(((j6 y1.1 p3).2,()),()))))) .fail) (.ret (.out ((),((p3,()),()))))
def qp (a0:List aj) (a1:Int):Out (((Int×Unit)×Unit)×(Unit×(Int×Unit)×Unit)):= .get (iter qo bc ((a0,((List.length a0:Nat):Int),(0:Int),()),((a1,()),()))) λy1=> .alt y1 (λy2=> .ret ((((-1:Int),()),()),((),(y2.2.1.1,()),()))) (λy3=> .ret (((y3.1.1,()),()),((),(y3.2.1.1,()),())))
def Y7:Nat→Option aq:=λn=>b6 [(0,⟨⟨[.ro dZ (some 0), .fn 95 [1]]++dd 5++[.i .i64, .i .i64]++dd 10,[(1, .var [.i .i64])]⟩,⟨[.dead, .fn 95 [1]]++dd 17,[(1, .var [.i .i64])]⟩,some ⟨[.dead, .fn 95 [1], .dead, .dead, .i .i64]++dd 14,[(1, .var [.i .i64])]⟩,false⟩)] n
def FC:bZ:={ f:=94,lend:=true,aJ:=[⟨false,false,[.ro dZ]⟩,⟨true,false,[.i .i64]⟩],lay:=[none,some (95,1)],rs:=[⟨false,false,[.i .i64]⟩],F:=λx=> .ret ((((lz x.1.1 x.2.1.1).1,()),()),((),((lz x.1.1 x.2.1.1).2,()),())) }
theorem R1 (x:au FC.aJ):bo [U8] Y7 Tryz.f94 FC [.tmp 4] x=qp x.1.1 x.2.1.1:=by kernel_rfl
theorem R2 (hr:∀ x:(List aj×Unit)×(Int×Unit)×Unit,aD FC.aJ x→(qp x.1.1 x.2.1.1).eval=(FC.F x).eval):FC.Ok Tryz.prog:=aO [U8] ⟨Y6,trivial⟩ R1 λx hw _ hy=>(hr x hw).trans hy
theorem R3:FC.Ok Tryz.prog:=by
 refine R2 λx hw=> ?_;obtain ⟨⟨a0,_⟩,⟨a1,_⟩,_⟩:=x;have l0:List.length a0≤aM:=hw.1.1.1;show (qp a0 a1).eval=some ((((lz a0 a1).1,()),()),((),((lz a0 a1).2,()),()));unfold qp lz aF cU fj;have h:iter qo bc ((a0,((List.length a0:Nat):Int),(0:Int),()),((a1,()),()))=some (match List.findIdx? (λx=>al x==a1) a0 with|some i=> .inr ((((i:Nat):Int),()),((a1,()),()))|none=> .inl ((),((a1,()),()))):=dY (f:=qo) a0 (λx=>al x==a1) (λi=>((a0,((List.length a0:Nat):Int),((i:Nat):Int),()),((a1,()),()))) (y:=((),((a1,()),()))) (z:=λi=>((((i:Nat):Int),()),((a1,()),())))
  (λi hi hp=>by
   have h1:=aw (i:=i) (by omega);simp [qo,Out.eval,hi,h1,cond_eq_ite,al,j6] at hp ⊢ <;>(try simp_all)<;>(try (rcases hp with h|h<;>simp_all)))
  (λi hi hp=>by simp [qo,Out.eval,hi,cond_eq_ite,al,j6] at hp ⊢ <;>(try simp_all)<;>(try (rcases hp with h|h<;>simp_all)))
  (by simp [qo,Out.eval]) l0
 refine (aa h).trans ?_;cases List.findIdx? (λx=>al x==a1) a0<;>rfl
def tq (_:Int) (_:Int) (_:List (List az)) (_:List af) (a4:List aj) (_:List ag) (_:List ag) (_:List Int) (_:List Int) (a9:Int):Out (((Int×Unit)×Unit)×XI):= .ret ((((lz a4 a9).1,()),()),((),(),()))
def QF:bZ:={ f:=67,lend:=true,aJ:=[⟨false,true,[.i .i64, .i .i64, .ro (.sl dk), .ro jM, .ro dZ, .ro dU, .ro dU, .ro (.int .i64), .ro (.int .i64)]⟩,⟨false,false,[.i .i64]⟩],lay:=[none,none],rs:=[⟨false,false,[.i .i64]⟩],F:=λx=> .ret ((((aF x.1.2.2.2.2.1 x.2.1.1),()),()),((),(),())) }
theorem Y8 (x:au QF.aJ):bo [FC] (λ_=>none) Tryz.f67 QF [.tmp 4] x=tq x.1.1 x.1.2.1 x.1.2.2.1 x.1.2.2.2.1 x.1.2.2.2.2.1 x.1.2.2.2.2.2.1 x.1.2.2.2.2.2.2.1 x.1.2.2.2.2.2.2.2.1 x.1.2.2.2.2.2.2.2.2.1 x.2.1.1:=by kernel_rfl
theorem Y9 (hr:∀ x:bw×(Int×Unit)×Unit,aD QF.aJ x→(tq x.1.1 x.1.2.1 x.1.2.2.1 x.1.2.2.2.1 x.1.2.2.2.2.1 x.1.2.2.2.2.2.1 x.1.2.2.2.2.2.2.1 x.1.2.2.2.2.2.2.2.1 x.1.2.2.2.2.2.2.2.2.1 x.2.1.1).eval=(QF.F x).eval):QF.Ok Tryz.prog:=aO [FC] ⟨R3,trivial⟩ Y8 λx hw _ hy=>(hr x hw).trans hy
theorem N7:QF.Ok Tryz.prog:=by
 refine Y9 λx hw=> ?_;obtain ⟨⟨a0,a1,a2,a3,a4,a5,a6,a7,a8,_⟩,⟨a9,_⟩,_⟩:=x;have l2:List.length a2≤aM:=hw.1.1.1;have l3:List.length a3≤aM:=hw.1.2.1.1;have l4:List.length a4≤aM:=hw.1.2.2.1.1;have l5:List.length a5≤aM:=hw.1.2.2.2.1.1;have l6:List.length a6≤aM:=hw.1.2.2.2.2.1.1;have l7:List.length a7≤aM:=hw.1.2.2.2.2.2.1.1;have l8:List.length a8≤aM:=hw.1.2.2.2.2.2.2.1.1;show (tq a0 a1 a2 a3 a4 a5 a6 a7 a8 a9).eval=some ((((aF a4 a9),()),()),((),(),()));unfold tq lz;simp only [Out.eval]
 all_goals ((repeat' split)<;>simp_all)
def j7 (id v:Int):Bool×Int:=(id==v,v)
def tr (a0:Int) (_:List Int) (a2:Int):Out (((Bool×Unit)×Unit)×(Unit×(Int×Unit)×Unit)):= .ret (((((a0==a2)),()),()),((),(a2,()),()))
def U9:bZ:={ f:=99,lend:=true,aJ:=[⟨false,true,[.i .i64, .ro (.int .i64)]⟩,⟨true,false,[.i .i64]⟩],lay:=[none,none],rs:=[⟨false,false,[.b]⟩],F:=λx=> .ret ((((j7 x.1.1 x.2.1.1).1,()),()),((),((j7 x.1.1 x.2.1.1).2,()),())) }
theorem Za (x:au U9.aJ):bo [] (λ_=>none) Tryz.f99 U9 [.tmp 3] x=tr x.1.1 x.1.2.1 x.2.1.1:=by kernel_rfl
theorem Zb (hr:∀ x:ag×(Int×Unit)×Unit,aD U9.aJ x→(tr x.1.1 x.1.2.1 x.2.1.1).eval=(U9.F x).eval):U9.Ok Tryz.prog:=aO [] trivial Za λx hw _ hy=>(hr x hw).trans hy
theorem Zc:U9.Ok Tryz.prog:=by
 refine Zb λx hw=> ?_;obtain ⟨⟨a0,a1,_⟩,⟨a2,_⟩,_⟩:=x;have l1:List.length a1≤aM:=hw.1.1.1;show (tr a0 a1 a2).eval=some ((((j7 a0 a2).1,()),()),((),((j7 a0 a2).2,()),()));unfold tr j7;simp only [Out.eval]
 all_goals ((repeat' split)<;>simp_all)
def lA (a:List iO) (v:Int):Int×Int:=(ba a v,v)
abbrev Jd:=(List ag×Int×Int×Unit)×((Int×Unit)×Unit)
def qq:Jd→Out (Round Jd ((Unit)×((Int×Unit)×Unit)) ((Int×Unit)×((Int×Unit)×Unit)))
|((p0,p1,p2,_),(p3,_),_)=> .ite (decide (p2<p1)) (.ite (decide (0≤p2)) (.get (nth p0 (Int.toNat p2)) λy1=> .ite ((j7 y1.1 p3).1) (.ret (.ret ((p2,()),(((j7 y1.1 p3).2,()),())))) (.ret (.again ((p0,p1,(IntKind.i64.wrap (p2+(1:Int))),()),(((j7 y1.1 p3).2,()),()))))) .fail) (.ret (.out ((),((p3,()),()))))
def qt (a0:List ag) (a1:Int):Out (((Int×Unit)×Unit)×(Unit×(Int×Unit)×Unit)):= .get (iter qq bc ((a0,((List.length a0:Nat):Int),(0:Int),()),((a1,()),()))) λy1=> .alt y1 (λy2=> .ret ((((-1:Int),()),()),((),(y2.2.1.1,()),()))) (λy3=> .ret (((y3.1.1,()),()),((),(y3.2.1.1,()),())))
def Zd:Nat→Option aq:=λn=>b6 [(0,⟨⟨[.ro dU (some 0), .fn 99 [1]]++dd 5++[.i .i64, .i .i64]++dd 10,[(1, .var [.i .i64])]⟩,⟨[.dead, .fn 99 [1]]++dd 17,[(1, .var [.i .i64])]⟩,some ⟨[.dead, .fn 99 [1], .dead, .dead, .i .i64]++dd 14,[(1, .var [.i .i64])]⟩,false⟩)] n
def FD:bZ:={ f:=98,lend:=true,aJ:=[⟨false,false,[.ro dU]⟩,⟨true,false,[.i .i64]⟩],lay:=[none,some (99,1)],rs:=[⟨false,false,[.i .i64]⟩],F:=λx=> .ret ((((lA x.1.1 x.2.1.1).1,()),()),((),((lA x.1.1 x.2.1.1).2,()),())) }
theorem R4 (x:au FD.aJ):bo [U9] Zd Tryz.f98 FD [.tmp 4] x=qt x.1.1 x.2.1.1:=by kernel_rfl
theorem R5 (hr:∀ x:(List ag×Unit)×(Int×Unit)×Unit,aD FD.aJ x→(qt x.1.1 x.2.1.1).eval=(FD.F x).eval):FD.Ok Tryz.prog:=aO [U9] ⟨Zc,trivial⟩ R4 λx hw _ hy=>(hr x hw).trans hy
theorem R6:FD.Ok Tryz.prog:=by
 refine R5 λx hw=> ?_;obtain ⟨⟨a0,_⟩,⟨a1,_⟩,_⟩:=x;have l0:List.length a0≤aM:=hw.1.1.1;show (qt a0 a1).eval=some ((((lA a0 a1).1,()),()),((),((lA a0 a1).2,()),()));unfold qt lA ba cU fj;have h:iter qq bc ((a0,((List.length a0:Nat):Int),(0:Int),()),((a1,()),()))=some (match List.findIdx? (λx=>aB x==a1) a0 with|some i=> .inr ((((i:Nat):Int),()),((a1,()),()))|none=> .inl ((),((a1,()),()))):=dY (f:=qq) a0 (λx=>aB x==a1) (λi=>((a0,((List.length a0:Nat):Int),((i:Nat):Int),()),((a1,()),()))) (y:=((),((a1,()),()))) (z:=λi=>((((i:Nat):Int),()),((a1,()),())))
  (λi hi hp=>by
   have h1:=aw (i:=i) (by omega);simp [qq,Out.eval,hi,h1,cond_eq_ite,aB,j7] at hp ⊢ <;>(try simp_all)<;>(try (rcases hp with h|h<;>simp_all)))
  (λi hi hp=>by simp [qq,Out.eval,hi,cond_eq_ite,aB,j7] at hp ⊢ <;>(try simp_all)<;>(try (rcases hp with h|h<;>simp_all)))
  (by simp [qq,Out.eval]) l0
 refine (aa h).trans ?_;cases List.findIdx? (λx=>aB x==a1) a0<;>rfl
def tt (_:Int) (_:Int) (_:List (List az)) (_:List af) (_:List aj) (a5:List ag) (_:List ag) (_:List Int) (_:List Int) (a9:Int):Out (((Int×Unit)×Unit)×XI):= .ret ((((lA a5 a9).1,()),()),((),(),()))
def Va:bZ:={ f:=71,lend:=true,aJ:=[⟨false,true,[.i .i64, .i .i64, .ro (.sl dk), .ro jM, .ro dZ, .ro dU, .ro dU, .ro (.int .i64), .ro (.int .i64)]⟩,⟨false,false,[.i .i64]⟩],lay:=[none,none],rs:=[⟨false,false,[.i .i64]⟩],F:=λx=> .ret ((((ba x.1.2.2.2.2.2.1 x.2.1.1),()),()),((),(),())) }
theorem Ze (x:au Va.aJ):bo [FD] (λ_=>none) Tryz.f71 Va [.tmp 4] x=tt x.1.1 x.1.2.1 x.1.2.2.1 x.1.2.2.2.1 x.1.2.2.2.2.1 x.1.2.2.2.2.2.1 x.1.2.2.2.2.2.2.1 x.1.2.2.2.2.2.2.2.1 x.1.2.2.2.2.2.2.2.2.1 x.2.1.1:=by kernel_rfl
theorem Zf (hr:∀ x:bw×(Int×Unit)×Unit,aD Va.aJ x→(tt x.1.1 x.1.2.1 x.1.2.2.1 x.1.2.2.2.1 x.1.2.2.2.2.1 x.1.2.2.2.2.2.1 x.1.2.2.2.2.2.2.1 x.1.2.2.2.2.2.2.2.1 x.1.2.2.2.2.2.2.2.2.1 x.2.1.1).eval=(Va.F x).eval):Va.Ok Tryz.prog:=aO [FD] ⟨R6,trivial⟩ Ze λx hw _ hy=>(hr x hw).trans hy
theorem Zg:Va.Ok Tryz.prog:=by
 refine Zf λx hw=> ?_;obtain ⟨⟨a0,a1,a2,a3,a4,a5,a6,a7,a8,_⟩,⟨a9,_⟩,_⟩:=x;have l2:List.length a2≤aM:=hw.1.1.1;have l3:List.length a3≤aM:=hw.1.2.1.1;have l4:List.length a4≤aM:=hw.1.2.2.1.1;have l5:List.length a5≤aM:=hw.1.2.2.2.1.1;have l6:List.length a6≤aM:=hw.1.2.2.2.2.1.1;have l7:List.length a7≤aM:=hw.1.2.2.2.2.2.1.1;have l8:List.length a8≤aM:=hw.1.2.2.2.2.2.2.1.1;show (tt a0 a1 a2 a3 a4 a5 a6 a7 a8 a9).eval=some ((((ba a5 a9),()),()),((),(),()));unfold tt lA;simp only [Out.eval]
 all_goals ((repeat' split)<;>simp_all)
def j8 (id v:Int):Bool×Int:=(id==v,v)
def tu (a0:Int) (_:List Int) (a2:Int):Out (((Bool×Unit)×Unit)×(Unit×(Int×Unit)×Unit)):= .ret (((((a0==a2)),()),()),((),(a2,()),()))
def Vb:bZ:={ f:=97,lend:=true,aJ:=[⟨false,true,[.i .i64, .ro (.int .i64)]⟩,⟨true,false,[.i .i64]⟩],lay:=[none,none],rs:=[⟨false,false,[.b]⟩],F:=λx=> .ret ((((j8 x.1.1 x.2.1.1).1,()),()),((),((j8 x.1.1 x.2.1.1).2,()),())) }
theorem Zh (x:au Vb.aJ):bo [] (λ_=>none) Tryz.f97 Vb [.tmp 3] x=tu x.1.1 x.1.2.1 x.2.1.1:=by kernel_rfl
theorem Zi (hr:∀ x:ag×(Int×Unit)×Unit,aD Vb.aJ x→(tu x.1.1 x.1.2.1 x.2.1.1).eval=(Vb.F x).eval):Vb.Ok Tryz.prog:=aO [] trivial Zh λx hw _ hy=>(hr x hw).trans hy
theorem Zj:Vb.Ok Tryz.prog:=by
 refine Zi λx hw=> ?_;obtain ⟨⟨a0,a1,_⟩,⟨a2,_⟩,_⟩:=x;have l1:List.length a1≤aM:=hw.1.1.1;show (tu a0 a1 a2).eval=some ((((j8 a0 a2).1,()),()),((),((j8 a0 a2).2,()),()));unfold tu j8;simp only [Out.eval]
 all_goals ((repeat' split)<;>simp_all)
def lB (a:List et) (v:Int):Int×Int:=(bj a v,v)
abbrev Je:=(List ag×Int×Int×Unit)×((Int×Unit)×Unit)
def qu:Je→Out (Round Je ((Unit)×((Int×Unit)×Unit)) ((Int×Unit)×((Int×Unit)×Unit)))
|((p0,p1,p2,_),(p3,_),_)=> .ite (decide (p2<p1)) (.ite (decide (0≤p2)) (.get (nth p0 (Int.toNat p2)) λy1=> .ite ((j8 y1.1 p3).1) (.ret (.ret ((p2,()),(((j8 y1.1 p3).2,()),())))) (.ret (.again ((p0,p1,(IntKind.i64.wrap (p2+(1:Int))),()),(((j8 y1.1 p3).2,()),()))))) .fail) (.ret (.out ((),((p3,()),()))))
def qv (a0:List ag) (a1:Int):Out (((Int×Unit)×Unit)×(Unit×(Int×Unit)×Unit)):= .get (iter qu bc ((a0,((List.length a0:Nat):Int),(0:Int),()),((a1,()),()))) λy1=> .alt y1 (λy2=> .ret ((((-1:Int),()),()),((),(y2.2.1.1,()),()))) (λy3=> .ret (((y3.1.1,()),()),((),(y3.2.1.1,()),())))
def Zk:Nat→Option aq:=λn=>b6 [(0,⟨⟨[.ro dU (some 0), .fn 97 [1]]++dd 5++[.i .i64, .i .i64]++dd 10,[(1, .var [.i .i64])]⟩,⟨[.dead, .fn 97 [1]]++dd 17,[(1, .var [.i .i64])]⟩,some ⟨[.dead, .fn 97 [1], .dead, .dead, .i .i64]++dd 14,[(1, .var [.i .i64])]⟩,false⟩)] n
def FE:bZ:={ f:=96,lend:=true,aJ:=[⟨false,false,[.ro dU]⟩,⟨true,false,[.i .i64]⟩],lay:=[none,some (97,1)],rs:=[⟨false,false,[.i .i64]⟩],F:=λx=> .ret ((((lB x.1.1 x.2.1.1).1,()),()),((),((lB x.1.1 x.2.1.1).2,()),())) }
theorem R7 (x:au FE.aJ):bo [Vb] Zk Tryz.f96 FE [.tmp 4] x=qv x.1.1 x.2.1.1:=by kernel_rfl
theorem R8 (hr:∀ x:(List ag×Unit)×(Int×Unit)×Unit,aD FE.aJ x→(qv x.1.1 x.2.1.1).eval=(FE.F x).eval):FE.Ok Tryz.prog:=aO [Vb] ⟨Zj,trivial⟩ R7 λx hw _ hy=>(hr x hw).trans hy
theorem R9:FE.Ok Tryz.prog:=by
 refine R8 λx hw=> ?_;obtain ⟨⟨a0,_⟩,⟨a1,_⟩,_⟩:=x;have l0:List.length a0≤aM:=hw.1.1.1;show (qv a0 a1).eval=some ((((lB a0 a1).1,()),()),((),((lB a0 a1).2,()),()));unfold qv lB bj cU fj;have h:iter qu bc ((a0,((List.length a0:Nat):Int),(0:Int),()),((a1,()),()))=some (match List.findIdx? (λx=>aR x==a1) a0 with|some i=> .inr ((((i:Nat):Int),()),((a1,()),()))|none=> .inl ((),((a1,()),()))):=dY (f:=qu) a0 (λx=>aR x==a1) (λi=>((a0,((List.length a0:Nat):Int),((i:Nat):Int),()),((a1,()),()))) (y:=((),((a1,()),()))) (z:=λi=>((((i:Nat):Int),()),((a1,()),())))
  (λi hi hp=>by
   have h1:=aw (i:=i) (by omega);simp [qu,Out.eval,hi,h1,cond_eq_ite,aR,j8] at hp ⊢ <;>(try simp_all)<;>(try (rcases hp with h|h<;>simp_all)))
  (λi hi hp=>by simp [qu,Out.eval,hi,cond_eq_ite,aR,j8] at hp ⊢ <;>(try simp_all)<;>(try (rcases hp with h|h<;>simp_all)))
  (by simp [qu,Out.eval]) l0
 refine (aa h).trans ?_;cases List.findIdx? (λx=>aR x==a1) a0<;>rfl
def tv (_:Int) (_:Int) (_:List (List az)) (_:List af) (_:List aj) (_:List ag) (a6:List ag) (_:List Int) (_:List Int) (a9:Int):Out (((Int×Unit)×Unit)×XI):= .ret ((((lB a6 a9).1,()),()),((),(),()))
def Vc:bZ:={ f:=70,lend:=true,aJ:=[⟨false,true,[.i .i64, .i .i64, .ro (.sl dk), .ro jM, .ro dZ, .ro dU, .ro dU, .ro (.int .i64), .ro (.int .i64)]⟩,⟨false,false,[.i .i64]⟩],lay:=[none,none],rs:=[⟨false,false,[.i .i64]⟩],F:=λx=> .ret ((((bj x.1.2.2.2.2.2.2.1 x.2.1.1),()),()),((),(),())) }
theorem Zl (x:au Vc.aJ):bo [FE] (λ_=>none) Tryz.f70 Vc [.tmp 4] x=tv x.1.1 x.1.2.1 x.1.2.2.1 x.1.2.2.2.1 x.1.2.2.2.2.1 x.1.2.2.2.2.2.1 x.1.2.2.2.2.2.2.1 x.1.2.2.2.2.2.2.2.1 x.1.2.2.2.2.2.2.2.2.1 x.2.1.1:=by kernel_rfl
theorem Zm (hr:∀ x:bw×(Int×Unit)×Unit,aD Vc.aJ x→(tv x.1.1 x.1.2.1 x.1.2.2.1 x.1.2.2.2.1 x.1.2.2.2.2.1 x.1.2.2.2.2.2.1 x.1.2.2.2.2.2.2.1 x.1.2.2.2.2.2.2.2.1 x.1.2.2.2.2.2.2.2.2.1 x.2.1.1).eval=(Vc.F x).eval):Vc.Ok Tryz.prog:=aO [FE] ⟨R9,trivial⟩ Zl λx hw _ hy=>(hr x hw).trans hy
theorem Zn:Vc.Ok Tryz.prog:=by
 refine Zm λx hw=> ?_;obtain ⟨⟨a0,a1,a2,a3,a4,a5,a6,a7,a8,_⟩,⟨a9,_⟩,_⟩:=x;have l2:List.length a2≤aM:=hw.1.1.1;have l3:List.length a3≤aM:=hw.1.2.1.1;have l4:List.length a4≤aM:=hw.1.2.2.1.1;have l5:List.length a5≤aM:=hw.1.2.2.2.1.1;have l6:List.length a6≤aM:=hw.1.2.2.2.2.1.1;have l7:List.length a7≤aM:=hw.1.2.2.2.2.2.1.1;have l8:List.length a8≤aM:=hw.1.2.2.2.2.2.2.1.1;show (tv a0 a1 a2 a3 a4 a5 a6 a7 a8 a9).eval=some ((((bj a6 a9),()),()),((),(),()));unfold tv lB;simp only [Out.eval]
 all_goals ((repeat' split)<;>simp_all)
def tw (a0:Int) (a1:List Int):Out (((Bool×Unit)×Unit)×(Unit×Unit)):= .ite ((mw a0)==true) (.ite (((((List.length a1:Nat):Int)==(4:Int)))==true) (.ret ((((aG a1),()),()),((),()))) (.ret (((false,()),()),((),())))) (.ret (((false,()),()),((),())))
def Vd:bZ:={ f:=63,lend:=true,aJ:=[⟨false,true,[.i .i64, .ro (.int .i64)]⟩],lay:=[none],rs:=[⟨false,false,[.b]⟩],F:=λx=> .ret ((((aP x.1.1 x.1.2.1),()),()),((),())) }
theorem Zo (x:au Vd.aJ):bo [QC,GM] (λ_=>none) Tryz.f63 Vd [.tmp 2] x=tw x.1.1 x.1.2.1:=by kernel_rfl
theorem Zp (hr:∀ x:ag×Unit,aD Vd.aJ x→(tw x.1.1 x.1.2.1).eval=(Vd.F x).eval):Vd.Ok Tryz.prog:=aO [QC,GM] ⟨NC,yN,trivial⟩ Zo λx hw _ hy=>(hr x hw).trans hy
theorem Zq:Vd.Ok Tryz.prog:=by
 refine Zp λx hw=> ?_;obtain ⟨⟨a0,a1,_⟩,_⟩:=x;have l1:List.length a1≤aM:=hw.1.1.1;show (tw a0 a1).eval=some ((((aP a0 a1),()),()),((),()));unfold tw aP;simp only [eq4,By];cases mw a0<;>cases decide (List.length a1=4)<;>rfl
abbrev Jf:=(List Int×Int×Int×Int×Unit)×(Unit)
def qw:Jf→Out (Round Jf ((Unit)×(Unit)) ((Int×Unit)×(Unit)))
|((p0,p1,p2,p3,_),_)=> .ite (decide (p3<p2)) (.ite (decide (0≤p3)) (.get (nth p0 (Int.toNat p3)) λy1=> .ite ((p1==y1)) (.ret (.ret ((p3,()),()))) (.ret (.again ((p0,p1,p2,(IntKind.i64.wrap (p3+(1:Int))),()),())))) .fail) (.ret (.out ((),())))
def qx (a0:List Int) (a1:Int):Out (((Int×Unit)×Unit)×XI):= .get (iter qw bc ((a0,a1,((List.length a0:Nat):Int),(0:Int),()),())) λy1=> .alt y1 (λ_=> .ret ((((-1:Int),()),()),((),(),()))) (λy3=> .ret (((y3.1.1,()),()),((),(),())))
def Zr:Nat→Option aq:=λn=>b6 [(0,⟨⟨[.ro (.int .i64) (some 0), .i .i64]++dd 5++[.i .i64, .i .i64]++dd 10,[]⟩,⟨dd 19,[]⟩,some ⟨dd 4++[.i .i64]++dd 14,[]⟩,false⟩)] n
def mU (a:List Int) (v:Int):Int:=sv (a.findIdx? λy=>v==y)
def FF:bZ:={ f:=112,lend:=true,aJ:=[⟨false,false,[.ro (.int .i64)]⟩,⟨false,false,[.i .i64]⟩],lay:=[none,none],rs:=[⟨false,false,[.i .i64]⟩],F:=λx=> .ret ((((mU x.1.1 x.2.1.1),()),()),((),(),())) }
theorem Sa (x:au FF.aJ):bo [] Zr Tryz.f112 FF [.tmp 4] x=qx x.1.1 x.2.1.1:=by kernel_rfl
theorem Sb (hr:∀ x:(List Int×Unit)×(Int×Unit)×Unit,aD FF.aJ x→(qx x.1.1 x.2.1.1).eval=(FF.F x).eval):FF.Ok Tryz.prog:=aO [] trivial Sa λx hw _ hy=>(hr x hw).trans hy
theorem Sc:FF.Ok Tryz.prog:=by
 refine Sb λx hw=> ?_;obtain ⟨⟨a0,_⟩,⟨a1,_⟩,_⟩:=x;have l0:List.length a0≤aM:=hw.1.1.1;show (qx a0 a1).eval=some ((((mU a0 a1),()),()),((),(),()));unfold qx mU;have h:iter qw bc ((a0,a1,((List.length a0:Nat):Int),(0:Int),()),())=some (match List.findIdx? (λy=>a1==y) a0 with|some i=> .inr ((((i:Nat):Int),()),())|none=> .inl ((),())):=dY (f:=qw) a0 (λy=>a1==y) (λi=>((a0,a1,((List.length a0:Nat):Int),((i:Nat):Int),()),())) (y:=((),())) (z:=λi=>((((i:Nat):Int),()),()))
  (λi hi hp=>by
   have h1:=aw (i:=i) (by omega);simp [qw,Out.eval,hi,h1,cond_eq_ite] at hp ⊢ <;>(try simp_all)<;>(try (rcases hp with h|h<;>simp_all)))
  (λi hi hp=>by simp [qw,Out.eval,hi,cond_eq_ite] at hp ⊢ <;>(try simp_all)<;>(try (rcases hp with h|h<;>simp_all)))
  (by simp [qw,Out.eval]) l0
 refine (aa h).trans ?_;cases List.findIdx? (λy=>a1==y) a0<;>rfl
def tx (a0:List Int) (a1:Int):Out (((Bool×Unit)×Unit)×XI):= .ret ((((decide ((mU a0 a1)≥(0:Int))),()),()),((),(),()))
def Ve:bZ:={ f:=93,lend:=true,aJ:=[⟨false,false,[.ro (.int .i64)]⟩,⟨false,false,[.i .i64]⟩],lay:=[none,none],rs:=[⟨false,false,[.b]⟩],F:=λx=> .ret ((((kJ x.1.1 x.2.1.1),()),()),((),(),())) }
theorem Zs (x:au Ve.aJ):bo [FF] (λ_=>none) Tryz.f93 Ve [.tmp 4] x=tx x.1.1 x.2.1.1:=by kernel_rfl
theorem Zt (hr:∀ x:(List Int×Unit)×(Int×Unit)×Unit,aD Ve.aJ x→(tx x.1.1 x.2.1.1).eval=(Ve.F x).eval):Ve.Ok Tryz.prog:=aO [FF] ⟨Sc,trivial⟩ Zs λx hw _ hy=>(hr x hw).trans hy
theorem Zu:Ve.Ok Tryz.prog:=by
 refine Zt λx hw=> ?_;obtain ⟨⟨a0,_⟩,⟨a1,_⟩,_⟩:=x;have l0:List.length a0≤aM:=hw.1.1.1;show (tx a0 a1).eval=some ((((kJ a0 a1),()),()),((),(),()));unfold tx mU kJ;have e:(λy:Int=>a1==y)=λy=>decide (y=a1):=by
  funext y;rw [ace,acy,aco];exact ⟨Eq.symm,Eq.symm⟩
 rw [j4,e];rfl
def tz (_:Int) (a1:Int) (_:List (List az)) (_:List af) (a4:List aj) (_:List ag) (_:List ag) (_:List Int) (_:List Int) (_:Int) (_:Int) (iu:Int) (_:Int) (_:Int) (_:List Int) (_:List Int) (kG:List Int) (ra:Int) (_:Int):Out (((Bool×Unit)×Unit)×XI):= .ite ((iu==(2:Int))) (.ret ((((decide (ra>a1)),()),()),((),(),()))) (.ite ((iu==(4:Int))) (.ite ((kJ kG ra)==true) (.ret ((((decide ((aF a4 ra)≥(0:Int))),()),()),((),(),()))) (.ret (((false,()),()),((),(),())))) (.ite ((iu==(5:Int))) (.ite ((kJ kG ra)==true) (.ret ((((decide ((aF a4 ra)≥(0:Int))),()),()),((),(),()))) (.ret (((false,()),()),((),(),())))) (.ret (((((ra==(0:Int))),()),()),((),(),())))))
def Vf:bZ:={ f:=65,lend:=true,aJ:=[⟨false,true,[.i .i64, .i .i64, .ro (.sl dk), .ro jM, .ro dZ, .ro dU, .ro dU, .ro (.int .i64), .ro (.int .i64)]⟩,⟨false,true,[.i .i64, .i .i64, .i .i64, .i .i64, .i .i64, .ro (.int .i64), .ro (.int .i64), .ro (.int .i64), .i .i64, .i .i64]⟩],lay:=[none,none],rs:=[⟨false,false,[.b]⟩],F:=λx=> .ret ((((fX x.1.2.1 x.1.2.2.2.2.1 x.2.1.2.2.1 x.2.1.2.2.2.2.2.2.2.1 x.2.1.2.2.2.2.2.2.2.2.1),()),()),((),(),())) }
theorem Zv (x:au Vf.aJ):bo [Ve,QF] (λ_=>none) Tryz.f65 Vf [.tmp 4] x=tz x.1.1 x.1.2.1 x.1.2.2.1 x.1.2.2.2.1 x.1.2.2.2.2.1 x.1.2.2.2.2.2.1 x.1.2.2.2.2.2.2.1 x.1.2.2.2.2.2.2.2.1 x.1.2.2.2.2.2.2.2.2.1 x.2.1.1 x.2.1.2.1 x.2.1.2.2.1 x.2.1.2.2.2.1 x.2.1.2.2.2.2.1 x.2.1.2.2.2.2.2.1 x.2.1.2.2.2.2.2.2.1 x.2.1.2.2.2.2.2.2.2.1 x.2.1.2.2.2.2.2.2.2.2.1 x.2.1.2.2.2.2.2.2.2.2.2.1:=by kernel_rfl
theorem Zw (hr:∀ x:bw×XM×Unit,aD Vf.aJ x→(tz x.1.1 x.1.2.1 x.1.2.2.1 x.1.2.2.2.1 x.1.2.2.2.2.1 x.1.2.2.2.2.2.1 x.1.2.2.2.2.2.2.1 x.1.2.2.2.2.2.2.2.1 x.1.2.2.2.2.2.2.2.2.1 x.2.1.1 x.2.1.2.1 x.2.1.2.2.1 x.2.1.2.2.2.1 x.2.1.2.2.2.2.1 x.2.1.2.2.2.2.2.1 x.2.1.2.2.2.2.2.2.1 x.2.1.2.2.2.2.2.2.2.1 x.2.1.2.2.2.2.2.2.2.2.1 x.2.1.2.2.2.2.2.2.2.2.2.1).eval=(Vf.F x).eval):Vf.Ok Tryz.prog:=aO [Ve,QF] ⟨Zu,N7,trivial⟩ Zv λx hw _ hy=>(hr x hw).trans hy
theorem Zx:Vf.Ok Tryz.prog:=by
 refine Zw λx hw=> ?_;obtain ⟨⟨a0,a1,a2,a3,a4,a5,a6,a7,a8,_⟩,⟨a9,eR,iu,a12,ma,xB,kK,kG,ra,uI,_⟩,_⟩:=x;have l2:List.length a2≤aM:=hw.1.1.1;have l3:List.length a3≤aM:=hw.1.2.1.1;have l4:List.length a4≤aM:=hw.1.2.2.1.1;have l5:List.length a5≤aM:=hw.1.2.2.2.1.1;have l6:List.length a6≤aM:=hw.1.2.2.2.2.1.1;have l7:List.length a7≤aM:=hw.1.2.2.2.2.2.1.1;have l8:List.length a8≤aM:=hw.1.2.2.2.2.2.2.1.1;have l14:List.length xB≤aM:=hw.2.1.1.1;have l15:List.length kK≤aM:=hw.2.1.2.1.1;have l16:List.length kG≤aM:=hw.2.1.2.2.1.1;show (tz a0 a1 a2 a3 a4 a5 a6 a7 a8 a9 eR iu a12 ma xB kK kG ra uI).eval=some ((((fX a1 a4 iu kG ra),()),()),((),(),()));unfold tz fX;simp only [Out.eval,cond_eq_ite]
 all_goals ((repeat' split)<;>simp_all)
def fG (f nx tk:Int) (os:List aj):Bool×Int×Int:=(!(f== -1)&&decide (aF os f<0),nx,tk)
def tA (a0:Int) (a1:Int) (a2:Int) (_:List (List az)) (_:List af) (a5:List aj) (_:List ag) (_:List ag) (_:List Int) (_:List Int):Out (((Bool×Unit)×Unit)×(Unit×(Int×Int×Unit)×Unit)):= .ite (((a0 != (-1:Int)))==true) (.ret ((((decide ((aF a5 a0)<(0:Int))),()),()),((),(a1,a2,()),()))) (.ret (((false,()),()),((),(a1,a2,()),())))
def Vg:bZ:={ f:=66,lend:=true,aJ:=[⟨false,false,[.i .i64]⟩,⟨true,false,[.i .i64, .i .i64, .ro (.sl dk), .ro jM, .ro dZ, .ro dU, .ro dU, .ro (.int .i64), .ro (.int .i64)]⟩],lay:=[none,none],rs:=[⟨false,false,[.b]⟩],F:=λx=> .ret ((((fG x.1.1 x.2.1.1 x.2.1.2.1 x.2.1.2.2.2.2.1).1,()),()),((),((fG x.1.1 x.2.1.1 x.2.1.2.1 x.2.1.2.2.2.2.1).2.1,(fG x.1.1 x.2.1.1 x.2.1.2.1 x.2.1.2.2.2.2.1).2.2,()),())) }
theorem Zy (x:au Vg.aJ):bo [QF] (λ_=>none) Tryz.f66 Vg [.tmp 3] x=tA x.1.1 x.2.1.1 x.2.1.2.1 x.2.1.2.2.1 x.2.1.2.2.2.1 x.2.1.2.2.2.2.1 x.2.1.2.2.2.2.2.1 x.2.1.2.2.2.2.2.2.1 x.2.1.2.2.2.2.2.2.2.1 x.2.1.2.2.2.2.2.2.2.2.1:=by kernel_rfl
theorem Zz (hr:∀ x:(Int×Unit)×bw×Unit,aD Vg.aJ x→(tA x.1.1 x.2.1.1 x.2.1.2.1 x.2.1.2.2.1 x.2.1.2.2.2.1 x.2.1.2.2.2.2.1 x.2.1.2.2.2.2.2.1 x.2.1.2.2.2.2.2.2.1 x.2.1.2.2.2.2.2.2.2.1 x.2.1.2.2.2.2.2.2.2.2.1).eval=(Vg.F x).eval):Vg.Ok Tryz.prog:=aO [QF] ⟨N7,trivial⟩ Zy λx hw _ hy=>(hr x hw).trans hy
theorem ZA:Vg.Ok Tryz.prog:=by
 refine Zz λx hw=> ?_;obtain ⟨⟨a0,_⟩,⟨a1,a2,a3,a4,a5,a6,a7,a8,a9,_⟩,_⟩:=x;have l3:List.length a3≤aM:=hw.2.1.1.1;have l4:List.length a4≤aM:=hw.2.1.2.1.1;have l5:List.length a5≤aM:=hw.2.1.2.2.1.1;have l6:List.length a6≤aM:=hw.2.1.2.2.2.1.1;have l7:List.length a7≤aM:=hw.2.1.2.2.2.2.1.1;have l8:List.length a8≤aM:=hw.2.1.2.2.2.2.2.1.1;have l9:List.length a9≤aM:=hw.2.1.2.2.2.2.2.2.1.1;show (tA a0 a1 a2 a3 a4 a5 a6 a7 a8 a9).eval=some ((((fG a0 a1 a2 a5).1,()),()),((),((fG a0 a1 a2 a5).2.1,(fG a0 a1 a2 a5).2.2,()),()));unfold tA fG;simp only [Out.eval,cond_eq_ite]
 all_goals ((repeat' split)<;>simp_all)
def jF (f:Int):Bool:= !(f== -1)
def zi (a0:Int):Out (((Bool×Unit)×Unit)×(Unit×Unit)):= .ret (((((a0 != (-1:Int))),()),()),((),()))
def Vh:bZ:={ f:=68,lend:=true,aJ:=[⟨false,false,[.i .i64]⟩],lay:=[none],rs:=[⟨false,false,[.b]⟩],F:=λx=> .ret ((((jF x.1.1),()),()),((),())) }
theorem ZB (x:au Vh.aJ):bo [] (λ_=>none) Tryz.f68 Vh [.tmp 2] x=zi x.1.1:=by kernel_rfl
theorem ZC (hr:∀ x:(Int×Unit)×Unit,aD Vh.aJ x→(zi x.1.1).eval=(Vh.F x).eval):Vh.Ok Tryz.prog:=aO [] trivial ZB λx hw _ hy=>(hr x hw).trans hy
theorem ZD:Vh.Ok Tryz.prog:=by
 refine ZC λx hw=> ?_;obtain ⟨⟨a0,_⟩,_⟩:=x;show (zi a0).eval=some ((((jF a0),()),()),((),()));rfl
def fZ (a:List Int) (nx tk:Int) (os:List aj):Int×Int×Int:=(sv (a.findIdx? λf=>(fG f nx tk os).1),nx,tk)
abbrev Jg:=XE×(bw×Unit)
def qy:Jg→Out (Round Jg ((Unit)×(bw×Unit)) ((Int×Unit)×(bw×Unit)))
|((p0,p1,p2,_),(p3,p4,p5,p6,p7,p8,p9,cH,cK,_),_)=> .ite (decide (p2<p1)) (.ite (decide (0≤p2)) (.get (nth p0 (Int.toNat p2)) λy1=> .ite ((fG y1 p3 p4 p7).1) (.ret (.ret ((p2,()),(((fG y1 p3 p4 p7).2.1,(fG y1 p3 p4 p7).2.2,p5,p6,p7,p8,p9,cH,cK,()),())))) (.ret (.again ((p0,p1,(IntKind.i64.wrap (p2+(1:Int))),()),(((fG y1 p3 p4 p7).2.1,(fG y1 p3 p4 p7).2.2,p5,p6,p7,p8,p9,cH,cK,()),()))))) .fail) (.ret (.out ((),((p3,p4,p5,p6,p7,p8,p9,cH,cK,()),()))))
def qz (a0:List Int) (a1:Int) (a2:Int) (a3:List (List az)) (a4:List af) (a5:List aj) (a6:List ag) (a7:List ag) (a8:List Int) (a9:List Int):Out (((Int×Unit)×Unit)×(Unit×(Int×Int×Unit)×Unit)):= .get (iter qy bc ((a0,((List.length a0:Nat):Int),(0:Int),()),((a1,a2,a3,a4,a5,a6,a7,a8,a9,()),()))) λy1=> .alt y1 (λy2=> .ret ((((-1:Int),()),()),((),(y2.2.1.1,y2.2.1.2.1,()),()))) (λy3=> .ret (((y3.1.1,()),()),((),(y3.2.1.1,y3.2.1.2.1,()),())))
abbrev Dx:List (Nat×eA):=[(1, .var [.i .i64, .i .i64, .ro (.sl dk) (some 2), .ro jM (some 3), .ro dZ (some 4), .ro dU (some 5), .ro dU (some 6), .ro (.int .i64) (some 7), .ro (.int .i64) (some 8)])]
def ZE:Nat→Option aq:=λn=>b6 [(0,⟨⟨[.ro (.int .i64) (some 0), .fn 66 [1]]++dd 5++[.i .i64, .i .i64]++dd 10,Dx⟩,⟨[.dead, .fn 66 [1]]++dd 17,Dx⟩,some ⟨[.dead, .fn 66 [1], .dead, .dead, .i .i64]++dd 14,Dx⟩,false⟩)] n
def FG:bZ:={ f:=87,lend:=true,aJ:=[⟨false,false,[.ro (.int .i64)]⟩,⟨true,false,[.i .i64, .i .i64, .ro (.sl dk), .ro jM, .ro dZ, .ro dU, .ro dU, .ro (.int .i64), .ro (.int .i64)]⟩],lay:=[none,some (66,1)],rs:=[⟨false,false,[.i .i64]⟩],F:=λx=> .ret ((((fZ x.1.1 x.2.1.1 x.2.1.2.1 x.2.1.2.2.2.2.1).1,()),()),((),((fZ x.1.1 x.2.1.1 x.2.1.2.1 x.2.1.2.2.2.2.1).2.1,(fZ x.1.1 x.2.1.1 x.2.1.2.1 x.2.1.2.2.2.2.1).2.2,()),())) }
theorem Sd (x:au FG.aJ):bo [Vg] ZE Tryz.f87 FG [.tmp 4] x=qz x.1.1 x.2.1.1 x.2.1.2.1 x.2.1.2.2.1 x.2.1.2.2.2.1 x.2.1.2.2.2.2.1 x.2.1.2.2.2.2.2.1 x.2.1.2.2.2.2.2.2.1 x.2.1.2.2.2.2.2.2.2.1 x.2.1.2.2.2.2.2.2.2.2.1:=by kernel_rfl
theorem Se (hr:∀ x:(List Int×Unit)×bw×Unit,aD FG.aJ x→(qz x.1.1 x.2.1.1 x.2.1.2.1 x.2.1.2.2.1 x.2.1.2.2.2.1 x.2.1.2.2.2.2.1 x.2.1.2.2.2.2.2.1 x.2.1.2.2.2.2.2.2.1 x.2.1.2.2.2.2.2.2.2.1 x.2.1.2.2.2.2.2.2.2.2.1).eval=(FG.F x).eval):FG.Ok Tryz.prog:=aO [Vg] ⟨ZA,trivial⟩ Sd λx hw _ hy=>(hr x hw).trans hy
theorem Sf:FG.Ok Tryz.prog:=by
 refine Se λx hw=> ?_;obtain ⟨⟨a0,_⟩,⟨a1,a2,a3,a4,a5,a6,a7,a8,a9,_⟩,_⟩:=x;have l0:List.length a0≤aM:=hw.1.1.1;have l3:List.length a3≤aM:=hw.2.1.1.1;have l4:List.length a4≤aM:=hw.2.1.2.1.1;have l5:List.length a5≤aM:=hw.2.1.2.2.1.1;have l6:List.length a6≤aM:=hw.2.1.2.2.2.1.1;have l7:List.length a7≤aM:=hw.2.1.2.2.2.2.1.1;have l8:List.length a8≤aM:=hw.2.1.2.2.2.2.2.1.1;have l9:List.length a9≤aM:=hw.2.1.2.2.2.2.2.2.1.1;show (qz a0 a1 a2 a3 a4 a5 a6 a7 a8 a9).eval=some ((((fZ a0 a1 a2 a5).1,()),()),((),((fZ a0 a1 a2 a5).2.1,(fZ a0 a1 a2 a5).2.2,()),()));unfold qz fZ;have h:iter qy bc ((a0,((List.length a0:Nat):Int),(0:Int),()),((a1,a2,a3,a4,a5,a6,a7,a8,a9,()),()))=some (match List.findIdx? (λf=>(fG f a1 a2 a5).1) a0 with|some i=> .inr ((((i:Nat):Int),()),((a1,a2,a3,a4,a5,a6,a7,a8,a9,()),()))|none=> .inl ((),((a1,a2,a3,a4,a5,a6,a7,a8,a9,()),()))):=dY (f:=qy) a0 (λf=>(fG f a1 a2 a5).1) (λi=>((a0,((List.length a0:Nat):Int),((i:Nat):Int),()),((a1,a2,a3,a4,a5,a6,a7,a8,a9,()),()))) (y:=((),((a1,a2,a3,a4,a5,a6,a7,a8,a9,()),()))) (z:=λi=>((((i:Nat):Int),()),((a1,a2,a3,a4,a5,a6,a7,a8,a9,()),())))
  (λi hi hp=>by
   have h1:=aw (i:=i) (by omega);simp [qy,Out.eval,hi,h1,cond_eq_ite,fG] at hp ⊢ <;>(try simp_all)<;>(try (rcases hp with h|h<;>simp_all)))
  (λi hi hp=>by simp [qy,Out.eval,hi,cond_eq_ite,fG] at hp ⊢ <;>(try simp_all)<;>(try (rcases hp with h|h<;>simp_all)))
  (by simp [qy,Out.eval]) l0
 refine (aa h).trans ?_;cases List.findIdx? (λf=>(fG f a1 a2 a5).1) a0<;>rfl
def fg (a:List Int) (nx tk:Int) (os:List aj):Bool×Int×Int:=(a.any λf=>(fG f nx tk os).1,nx,tk)
def qA (a0:List Int) (a1:Int) (a2:Int) (_:List (List az)) (_:List af) (a5:List aj) (_:List ag) (_:List ag) (_:List Int) (_:List Int):Out (((Bool×Unit)×Unit)×(Unit×(Int×Int×Unit)×Unit)):= .ret ((((decide ((fZ a0 a1 a2 a5).1≥(0:Int))),()),()),((),((fZ a0 a1 a2 a5).2.1,(fZ a0 a1 a2 a5).2.2,()),()))
def FH:bZ:={ f:=56,lend:=true,aJ:=[⟨false,false,[.ro (.int .i64)]⟩,⟨true,false,[.i .i64, .i .i64, .ro (.sl dk), .ro jM, .ro dZ, .ro dU, .ro dU, .ro (.int .i64), .ro (.int .i64)]⟩],lay:=[none,some (66,1)],rs:=[⟨false,false,[.b]⟩],F:=λx=> .ret ((((fg x.1.1 x.2.1.1 x.2.1.2.1 x.2.1.2.2.2.2.1).1,()),()),((),((fg x.1.1 x.2.1.1 x.2.1.2.1 x.2.1.2.2.2.2.1).2.1,(fg x.1.1 x.2.1.1 x.2.1.2.1 x.2.1.2.2.2.2.1).2.2,()),())) }
theorem Sg (x:au FH.aJ):bo [FG] (λ_=>none) Tryz.f56 FH [.tmp 4] x=qA x.1.1 x.2.1.1 x.2.1.2.1 x.2.1.2.2.1 x.2.1.2.2.2.1 x.2.1.2.2.2.2.1 x.2.1.2.2.2.2.2.1 x.2.1.2.2.2.2.2.2.1 x.2.1.2.2.2.2.2.2.2.1 x.2.1.2.2.2.2.2.2.2.2.1:=by kernel_rfl
theorem Sh (hr:∀ x:(List Int×Unit)×bw×Unit,aD FH.aJ x→(qA x.1.1 x.2.1.1 x.2.1.2.1 x.2.1.2.2.1 x.2.1.2.2.2.1 x.2.1.2.2.2.2.1 x.2.1.2.2.2.2.2.1 x.2.1.2.2.2.2.2.2.1 x.2.1.2.2.2.2.2.2.2.1 x.2.1.2.2.2.2.2.2.2.2.1).eval=(FH.F x).eval):FH.Ok Tryz.prog:=aO [FG] ⟨Sf,trivial⟩ Sg λx hw _ hy=>(hr x hw).trans hy
theorem Si:FH.Ok Tryz.prog:=by
 refine Sh λx hw=> ?_;obtain ⟨⟨a0,_⟩,⟨a1,a2,a3,a4,a5,a6,a7,a8,a9,_⟩,_⟩:=x;have l0:List.length a0≤aM:=hw.1.1.1;have l3:List.length a3≤aM:=hw.2.1.1.1;have l4:List.length a4≤aM:=hw.2.1.2.1.1;have l5:List.length a5≤aM:=hw.2.1.2.2.1.1;have l6:List.length a6≤aM:=hw.2.1.2.2.2.1.1;have l7:List.length a7≤aM:=hw.2.1.2.2.2.2.1.1;have l8:List.length a8≤aM:=hw.2.1.2.2.2.2.2.1.1;have l9:List.length a9≤aM:=hw.2.1.2.2.2.2.2.2.1.1;show (qA a0 a1 a2 a3 a4 a5 a6 a7 a8 a9).eval=some ((((fg a0 a1 a2 a5).1,()),()),((),((fg a0 a1 a2 a5).2.1,(fg a0 a1 a2 a5).2.2,()),()));unfold qA fg fZ;rw [j4];rfl
def lC (a:List Int):Int:=sv (a.findIdx? jF)
abbrev Jh:=XE×(Unit)
def qB:Jh→Out (Round Jh ((Unit)×(Unit)) ((Int×Unit)×(Unit)))
|((p0,p1,p2,_),_)=> .ite (decide (p2<p1)) (.ite (decide (0≤p2)) (.get (nth p0 (Int.toNat p2)) λy1=> .ite (jF y1) (.ret (.ret ((p2,()),()))) (.ret (.again ((p0,p1,(IntKind.i64.wrap (p2+(1:Int))),()),())))) .fail) (.ret (.out ((),())))
def qC (a0:List Int):Out (((Int×Unit)×Unit)×(Unit×Unit)):= .get (iter qB bc ((a0,((List.length a0:Nat):Int),(0:Int),()),())) λy1=> .alt y1 (λ_=> .ret ((((-1:Int),()),()),((),()))) (λy3=> .ret (((y3.1.1,()),()),((),())))
def ZF:Nat→Option aq:=λn=>b6 [(0,⟨⟨[.ro (.int .i64) (some 0), .fn 68 []]++dd 5++[.i .i64, .i .i64]++dd 10,[]⟩,⟨dd 19,[]⟩,some ⟨dd 4++[.i .i64]++dd 14,[]⟩,false⟩)] n
def FI:bZ:={ f:=87,lend:=true,aJ:=[⟨false,false,[.ro (.int .i64)]⟩],lay:=[none,some (68,0)],rs:=[⟨false,false,[.i .i64]⟩],F:=λx=> .ret ((((lC x.1.1),()),()),((),())) }
theorem Sj (x:au FI.aJ):bo [Vh] ZF Tryz.f87 FI [.tmp 4] x=qC x.1.1:=by kernel_rfl
theorem Sk (hr:∀ x:(List Int×Unit)×Unit,aD FI.aJ x→(qC x.1.1).eval=(FI.F x).eval):FI.Ok Tryz.prog:=aO [Vh] ⟨ZD,trivial⟩ Sj λx hw _ hy=>(hr x hw).trans hy
theorem Sl:FI.Ok Tryz.prog:=by
 refine Sk λx hw=> ?_;obtain ⟨⟨a0,_⟩,_⟩:=x;have l0:List.length a0≤aM:=hw.1.1.1;show (qC a0).eval=some ((((lC a0),()),()),((),()));unfold qC lC;have h:iter qB bc ((a0,((List.length a0:Nat):Int),(0:Int),()),())=some (match List.findIdx? jF a0 with|some i=> .inr ((((i:Nat):Int),()),())|none=> .inl ((),())):=dY (f:=qB) a0 jF (λi=>((a0,((List.length a0:Nat):Int),((i:Nat):Int),()),())) (y:=((),())) (z:=λi=>((((i:Nat):Int),()),()))
  (λi hi hp=>by
   have h1:=aw (i:=i) (by omega);simp [qB,Out.eval,hi,h1,cond_eq_ite] at hp ⊢ <;>(try simp_all)<;>(try (rcases hp with h|h<;>simp_all)))
  (λi hi hp=>by simp [qB,Out.eval,hi,cond_eq_ite] at hp ⊢ <;>(try simp_all)<;>(try (rcases hp with h|h<;>simp_all)))
  (by simp [qB,Out.eval]) l0
 refine (aa h).trans ?_;cases List.findIdx? jF a0<;>rfl
def ig (a:List Int):Bool:=a.any jF
def qD (a0:List Int):Out (((Bool×Unit)×Unit)×(Unit×Unit)):= .ret ((((decide ((lC a0)≥(0:Int))),()),()),((),()))
def FJ:bZ:={ f:=56,lend:=true,aJ:=[⟨false,false,[.ro (.int .i64)]⟩],lay:=[none,some (68,0)],rs:=[⟨false,false,[.b]⟩],F:=λx=> .ret ((((ig x.1.1),()),()),((),())) }
theorem Sm (x:au FJ.aJ):bo [FI] (λ_=>none) Tryz.f56 FJ [.tmp 4] x=qD x.1.1:=by kernel_rfl
theorem Sp (hr:∀ x:(List Int×Unit)×Unit,aD FJ.aJ x→(qD x.1.1).eval=(FJ.F x).eval):FJ.Ok Tryz.prog:=aO [FI] ⟨Sl,trivial⟩ Sm λx hw _ hy=>(hr x hw).trans hy
theorem Sq:FJ.Ok Tryz.prog:=by
 refine Sp λx hw=> ?_;obtain ⟨⟨a0,_⟩,_⟩:=x;have l0:List.length a0≤aM:=hw.1.1.1;show (qD a0).eval=some ((((ig a0),()),()),((),()));unfold qD ig lC;rw [j4];rfl
theorem KW {os:List aj} {nx tk:Int} (a:List Int):(a.any λf=>(fG f nx tk os).1)= !(a.all λf=>f== -1||decide (0≤aF os f)):=by
 rw [ace];simp only [fG,List.any_eq_true,aa4,beq_eq_false_iff_ne,abS,Bool.not_eq_eq_eq_not,Bool.not_true,List.all_eq_false,acQ,acy,not_or,Int.not_le]
theorem N8 (os:List aj) (st:Int) (a:List Int):a.all (oi os st)=((a.all λf=>f== -1||decide (0≤aF os f))&&(!(st==6)|| !a.any jF)):=by
 induction a with
 |nil=>cases (st==6)<;>rfl
 |cons f r ih=>
  rw [ack,ih,ack,List.any_cons];unfold oi jF;cases f== -1<;>cases decide (0≤aF os f)<;>cases (st==6)<;>cases (r.all λf=>f== -1||decide (0≤aF os f))<;>cases (r.any λf=> !(f== -1))<;>rfl
theorem KX {β:Type} (st code par:Int) (n:Nat) (fo:Bool) (r:Bool→β):
  (Out.ite (st==(6:Int)) (Out.ite (((((n:Nat):Int)==(0:Int)))==true) (.ite (((par != (0:Int)))==true) (.ret (r (!fo))) (.ret (r false))) (.ret (r false)))
   (Out.ite ((decide (((n:Nat):Int)>(0:Int)))==true) (.ret (r (code==(0:Int)))) (.ret (r false)))).eval=
   some (r (if st=6 then decide (n=0)&& !(par==0)&& !fo else decide (0<n)&&code==0)):=by
 simp only [Out.eval,cond_eq_ite];rcases Nat.eq_zero_or_pos n with h2|h2
 . subst h2
   by_cases h:st=6
   . by_cases h0:par=0
     . simp [h,h0]
     . have h1:(par==(0:Int))=false:=by simpa using h0
       simp [h,h0,h1]
   . simp [h]
 . have h3:¬ n=0:=by omega
   by_cases h:st=6<;>simp [h,h2,h3]
theorem HD {β:Type} (n m:Nat) (wo uo fb:Bool) (r:Bool→β) {e:Out β} {b:Bool} (he:e.eval=some (r b)):
  (Out.ite ((decide (((n:Nat):Int)>(12:Int)))==false) (.ite ((4:Int)==0) .fail (.ite ((((Int.tmod ((n:Nat):Int) (4:Int)) != (0:Int)))==false) (.ite ((!wo)==false) (.ite (((((m:Nat):Int) != (4:Int)))==false)
   (.ite (!uo) (.ret (r false)) (.ite fb (.ret (r false)) e)) (.ret (r false))) (.ret (r false))) (.ret (r false)))) (.ret (r false))).eval=
   some (r (decide (n≤12)&&(decide (n % 4=0)&&(wo&&(decide (m=4)&&(uo&&(!fb&&b))))))):=by
 simp only [Out.eval,he,ahu,U1,ne4,beq_false,Bool.not_not];cases decide (n≤12)<;>cases decide (n % 4=0)<;>cases wo<;>cases decide (m=4)<;>cases uo<;>cases fb<;>rfl
theorem Sr (nx tk:Int) (os:List aj) (st par code:Int) (mem fds:List Int):(fds.all (oi os st)&&rS par st mem code)=
  (!(fg fds nx tk os).1&&(if st=6 then decide (mem.length=0)&& !(par==0)&& !(ig fds) else decide (0<mem.length)&&code==0)):=by
 unfold fg ig rS;rw [N8,KW];by_cases h:st=6
 . have h1:(st==(6:Int))=true:=by simpa using h
   rw [h1,aa5 h,aa5 h];cases (fds.all λf=>f== -1||decide (0≤aF os f))<;>cases decide (mem.length=0)<;>cases (par==(0:Int))<;>cases fds.any jF<;>rfl
 . have h1:(st==(6:Int))=false:=by simpa using h
   rw [h1,aa3 h,aa3 h];cases (fds.all λf=>f== -1||decide (0≤aF os f))<;>cases decide (0<mem.length)<;>rfl
def tB (a0:Int) (a1:Int) (a2:List (List az)) (a3:List af) (a4:List aj) (_:List ag) (_:List ag) (_:List Int) (_:List Int) (a9:Int) (eR:Int) (iu:Int) (a12:Int) (ma:Int) (xB:List Int) (kK:List Int) (kG:List Int) (ra:Int) (uI:Int):Out (((Bool×Unit)×Unit)×XI):= .ite ((!(dh a9 (1:Int) (IntKind.i64.wrap (a0 - (1:Int)))))==false) (.ite ((!(dh iu (1:Int) (6:Int)))==false) (.ite ((!(dh a12 (0:Int) (IntKind.i64.wrap (((List.length a2:Nat):Int) - (1:Int)))))==false) (.ite ((!(aP ma xB))==false) (.ite (!(bV uI)) (.ret (((false,()),()),((),(),()))) (.ite ((eR != (0:Int))) (.ite ((decide ((ak a3 eR)<(0:Int)))==false) (.ite (((eR==a9))==false) (.ite (decide (0≤(ak a3 eR))) (.get (nth a3 (Int.toNat (ak a3 eR))) λy1=> .ite ((y1.2.2.1==(6:Int))) (.ret (((false,()),()),((),(),()))) (.ite ((decide (((List.length kK:Nat):Int)>(12:Int)))==false) (.ite ((4:Int)==0) .fail (.ite ((((Int.tmod ((List.length kK:Nat):Int) (4:Int)) != (0:Int)))==false) (.ite ((!(aG kK))==false) (.ite (((((List.length kG:Nat):Int) != (4:Int)))==false) (.ite (!(fX a1 a4 iu kG ra)) (.ret (((false,()),()),((),(),()))) (.ite ((fg kG a0 a1 a4).1) (.ret (((false,()),()),((),(),()))) (.ite ((iu==(6:Int))) (.ite (((((List.length kK:Nat):Int)==(0:Int)))==true) (.ite (((eR != (0:Int)))==true) (.ret ((((!(ig kG)),()),()),((),(),()))) (.ret (((false,()),()),((),(),())))) (.ret (((false,()),()),((),(),())))) (.ite ((decide (((List.length kK:Nat):Int)>(0:Int)))==true) (.ret (((((uI==(0:Int))),()),()),((),(),()))) (.ret (((false,()),()),((),(),()))))))) (.ret (((false,()),()),((),(),())))) (.ret (((false,()),()),((),(),())))) (.ret (((false,()),()),((),(),()))))) (.ret (((false,()),()),((),(),()))))) .fail) (.ret (((false,()),()),((),(),())))) (.ret (((false,()),()),((),(),())))) (.ite ((decide (((List.length kK:Nat):Int)>(12:Int)))==false) (.ite ((4:Int)==0) .fail (.ite ((((Int.tmod ((List.length kK:Nat):Int) (4:Int)) != (0:Int)))==false) (.ite ((!(aG kK))==false) (.ite (((((List.length kG:Nat):Int) != (4:Int)))==false) (.ite (!(fX a1 a4 iu kG ra)) (.ret (((false,()),()),((),(),()))) (.ite ((fg kG a0 a1 a4).1) (.ret (((false,()),()),((),(),()))) (.ite ((iu==(6:Int))) (.ite (((((List.length kK:Nat):Int)==(0:Int)))==true) (.ite (((eR != (0:Int)))==true) (.ret ((((!(ig kG)),()),()),((),(),()))) (.ret (((false,()),()),((),(),())))) (.ret (((false,()),()),((),(),())))) (.ite ((decide (((List.length kK:Nat):Int)>(0:Int)))==true) (.ret (((((uI==(0:Int))),()),()),((),(),()))) (.ret (((false,()),()),((),(),()))))))) (.ret (((false,()),()),((),(),())))) (.ret (((false,()),()),((),(),())))) (.ret (((false,()),()),((),(),()))))) (.ret (((false,()),()),((),(),())))))) (.ret (((false,()),()),((),(),())))) (.ret (((false,()),()),((),(),())))) (.ret (((false,()),()),((),(),())))) (.ret (((false,()),()),((),(),())))
def iy (next tick:Int) (dX:List (List az)) (ps:List af) (os:List aj) (pid par st pg pc:Int) (yR mem fds:List Int) (nM code:Int):Bool:=
 dh pid 1 (IntKind.i64.wrap (next - 1))&&cV tick dX.length ps os pid par st pg pc yR mem fds nM code
def Vi:bZ:={ f:=35,lend:=true,aJ:=[⟨false,true,[.i .i64, .i .i64, .ro (.sl dk), .ro jM, .ro dZ, .ro dU, .ro dU, .ro (.int .i64), .ro (.int .i64)]⟩,⟨false,true,[.i .i64, .i .i64, .i .i64, .i .i64, .i .i64, .ro (.int .i64), .ro (.int .i64), .ro (.int .i64), .i .i64, .i .i64]⟩],lay:=[none,none],rs:=[⟨false,false,[.b]⟩],F:=λx=> .ret ((((iy x.1.1 x.1.2.1 x.1.2.2.1 x.1.2.2.2.1 x.1.2.2.2.2.1 x.2.1.1 x.2.1.2.1 x.2.1.2.2.1 x.2.1.2.2.2.1 x.2.1.2.2.2.2.1 x.2.1.2.2.2.2.2.1 x.2.1.2.2.2.2.2.2.1 x.2.1.2.2.2.2.2.2.2.1 x.2.1.2.2.2.2.2.2.2.2.1 x.2.1.2.2.2.2.2.2.2.2.2.1),()),()),((),(),())) }
theorem ZG (x:au Vi.aJ):bo [xx,Vd,LR,U7,GM,Vf,FH,FJ] (λ_=>none) Tryz.f35 Vi [.tmp 4] x=tB x.1.1 x.1.2.1 x.1.2.2.1 x.1.2.2.2.1 x.1.2.2.2.2.1 x.1.2.2.2.2.2.1 x.1.2.2.2.2.2.2.1 x.1.2.2.2.2.2.2.2.1 x.1.2.2.2.2.2.2.2.2.1 x.2.1.1 x.2.1.2.1 x.2.1.2.2.1 x.2.1.2.2.2.1 x.2.1.2.2.2.2.1 x.2.1.2.2.2.2.2.1 x.2.1.2.2.2.2.2.2.1 x.2.1.2.2.2.2.2.2.2.1 x.2.1.2.2.2.2.2.2.2.2.1 x.2.1.2.2.2.2.2.2.2.2.2.1:=by kernel_rfl
theorem ZH (hr:∀ x:bw×XM×Unit,aD Vi.aJ x→(tB x.1.1 x.1.2.1 x.1.2.2.1 x.1.2.2.2.1 x.1.2.2.2.2.1 x.1.2.2.2.2.2.1 x.1.2.2.2.2.2.2.1 x.1.2.2.2.2.2.2.2.1 x.1.2.2.2.2.2.2.2.2.1 x.2.1.1 x.2.1.2.1 x.2.1.2.2.1 x.2.1.2.2.2.1 x.2.1.2.2.2.2.1 x.2.1.2.2.2.2.2.1 x.2.1.2.2.2.2.2.2.1 x.2.1.2.2.2.2.2.2.2.1 x.2.1.2.2.2.2.2.2.2.2.1 x.2.1.2.2.2.2.2.2.2.2.2.1).eval=(Vi.F x).eval):Vi.Ok Tryz.prog:=aO [xx,Vd,LR,U7,GM,Vf,FH,FJ] ⟨nK,Zq,Hy,Y3,yN,Zx,Si,Sq,trivial⟩ ZG λx hw _ hy=>(hr x hw).trans hy
theorem ZI:Vi.Ok Tryz.prog:=by
 refine ZH λx hw=> ?_;obtain ⟨⟨a0,a1,a2,a3,a4,a5,a6,a7,a8,_⟩,⟨a9,eR,iu,a12,ma,xB,kK,kG,ra,uI,_⟩,_⟩:=x;have l2:List.length a2≤aM:=hw.1.1.1;have l3:List.length a3≤aM:=hw.1.2.1.1;have l4:List.length a4≤aM:=hw.1.2.2.1.1;have l5:List.length a5≤aM:=hw.1.2.2.2.1.1;have l6:List.length a6≤aM:=hw.1.2.2.2.2.1.1;have l7:List.length a7≤aM:=hw.1.2.2.2.2.2.1.1;have l8:List.length a8≤aM:=hw.1.2.2.2.2.2.2.1.1;have l14:List.length xB≤aM:=hw.2.1.1.1;have l15:List.length kK≤aM:=hw.2.1.2.1.1;have l16:List.length kG≤aM:=hw.2.1.2.2.1.1;show (tB a0 a1 a2 a3 a4 a5 a6 a7 a8 a9 eR iu a12 ma xB kK kG ra uI).eval=some ((((iy a0 a1 a2 a3 a4 a9 eR iu a12 ma xB kK kG ra uI),()),()),((),(),()));unfold tB;by_cases c1:dh a9 1 (IntKind.i64.wrap (a0 - 1))=true
 case neg=>rw [ae (by first|(simp [c1];done)|(rw [aaE (by omega)];done)|(rw [aa1 (by omega)];done)|(rw [aaE (by omega)];rfl)|(rw [aa1 (by omega)];rfl)|(rw [c1];rfl)|(rw [Bool.eq_false_iff.2 c1];rfl))];simp [Out.eval,iy,c1]
 rw [ab (by first|(simp [c1];done)|(rw [aaE (by omega)];done)|(rw [aa1 (by omega)];done)|(rw [aaE (by omega)];rfl)|(rw [aa1 (by omega)];rfl)|(rw [c1];rfl)|(rw [Bool.eq_false_iff.2 c1];rfl))];by_cases c2:dh iu 1 6=true
 case neg=>rw [ae (by first|(simp [c2];done)|(rw [aaE (by omega)];done)|(rw [aa1 (by omega)];done)|(rw [aaE (by omega)];rfl)|(rw [aa1 (by omega)];rfl)|(rw [c2];rfl)|(rw [Bool.eq_false_iff.2 c2];rfl))];simp [Out.eval,iy,cV,c2]
 rw [ab (by first|(simp [c2];done)|(rw [aaE (by omega)];done)|(rw [aa1 (by omega)];done)|(rw [aaE (by omega)];rfl)|(rw [aa1 (by omega)];rfl)|(rw [c2];rfl)|(rw [Bool.eq_false_iff.2 c2];rfl))];have e0:dh a12 0 (IntKind.i64.wrap (((List.length a2:Nat):Int) - 1))=(decide (0≤a12)&&decide (a12<((List.length a2:Nat):Int))):=by
  have:List.length a2≤9223372036854775807:=l2;unfold dh;rw [jy (by omega) (by omega)];congr 1;rw [ace];simp;omega
 rw [e0];by_cases c3:(decide (0≤a12)&&decide (a12<((List.length a2:Nat):Int)))=true
 case neg=>rw [ae (by first|(simp [c3];done)|(rw [aaE (by omega)];done)|(rw [aa1 (by omega)];done)|(rw [aaE (by omega)];rfl)|(rw [aa1 (by omega)];rfl)|(rw [c3];rfl)|(rw [Bool.eq_false_iff.2 c3];rfl))];simp [Out.eval,iy,cV,c3]
 rw [ab (by first|(simp [c3];done)|(rw [aaE (by omega)];done)|(rw [aa1 (by omega)];done)|(rw [aaE (by omega)];rfl)|(rw [aa1 (by omega)];rfl)|(rw [c3];rfl)|(rw [Bool.eq_false_iff.2 c3];rfl))];by_cases c4:aP ma xB=true
 case neg=>rw [ae (by first|(simp [c4];done)|(rw [aaE (by omega)];done)|(rw [aa1 (by omega)];done)|(rw [aaE (by omega)];rfl)|(rw [aa1 (by omega)];rfl)|(rw [c4];rfl)|(rw [Bool.eq_false_iff.2 c4];rfl))];simp [Out.eval,iy,cV,c4]
 rw [ab (by first|(simp [c4];done)|(rw [aaE (by omega)];done)|(rw [aa1 (by omega)];done)|(rw [aaE (by omega)];rfl)|(rw [aa1 (by omega)];rfl)|(rw [c4];rfl)|(rw [Bool.eq_false_iff.2 c4];rfl))];by_cases c5:bV uI=true
 case neg=>rw [ab (by first|(simp [c5];done)|(rw [aaE (by omega)];done)|(rw [aa1 (by omega)];done)|(rw [aaE (by omega)];rfl)|(rw [aa1 (by omega)];rfl)|(rw [c5];rfl)|(rw [Bool.eq_false_iff.2 c5];rfl))];simp [Out.eval,iy,cV,c5]
 rw [ae (by first|(simp [c5];done)|(rw [aaE (by omega)];done)|(rw [aa1 (by omega)];done)|(rw [aaE (by omega)];rfl)|(rw [aa1 (by omega)];rfl)|(rw [c5];rfl)|(rw [Bool.eq_false_iff.2 c5];rfl))];have e:iy a0 a1 a2 a3 a4 a9 eR iu a12 ma xB kK kG ra uI=(bT a3 a9 eR&&(decide (List.length kK≤12)&&(decide (List.length kK % 4=0)&&(aG kK&&(decide (List.length kG=4)&&(fX a1 a4 iu kG ra&&(List.all kG (oi a4 iu)&&rS eR iu kK uI))))))):=by
  unfold iy cV;rw [c1,c2,c3,c4,c5];cases decide (List.length kK≤12)<;>cases decide (List.length kK % 4=0)<;>cases aG kK<;>cases decide (List.length kG=4)<;>cases List.all kG (oi a4 iu)<;>cases bT a3 a9 eR<;>cases fX a1 a4 iu kG ra<;>rfl
 rw [e,Sr a0 a1];have en:=KX iu uI eR (List.length kK) (ig kG) (λb=>(((b,()),()),((),(),())));have tl:=HD (List.length kK) (List.length kG) (aG kK) (fX a1 a4 iu kG ra) (fg kG a0 a1 a4).1 (λb=>(((b,()),()),((),(),()))) en;by_cases p0:eR=0
 . have e2:bT a3 a9 eR=true:=by simp [bT,p0]
   rw [e2,acU,ae (by simp [p0])];exact tl
 . rw [ab (by simp [p0])]
   cases hx:fj ao a3 eR with
   |none=>
    have e2:bT a3 a9 eR=false:=by simp [bT,p0,hx]
    have e3:ak a3 eR= -1:=nP hx;rw [e2,e3];rfl
   |some i=>
    have hi:=yU hx;have e3:ak a3 eR=((i:Nat):Int):=nQ hx;rw [e3,ab (by rw [aa1 (by omega)];rfl),abo];by_cases p1:eR=a9
    . have p2:(eR==a9)=true:=by simpa using p1
      have p3:(eR==(0:Int))=false:=by simpa using p0
      have e2:bT a3 a9 eR=false:=by unfold bT;rw [p3,p2];simp
      rw [e2,ae (by rw [p2];rfl)];rfl
    . rw [ab (by simp [p1]),ab (Ay i)]
      refine (aa (x:=a3[i]) (by simp [nth,hi])).trans ?_;by_cases p2:a3[i].2.2.1=6
      . have e2:bT a3 a9 eR=false:=by simp [bT,p0,hx,hi,p2]
        rw [e2,ab (by simp [p2])];rfl
      . have e2:bT a3 a9 eR=true:=by simp [bT,p0,p1,hx,hi,p2]
        rw [e2,acU,ae (by simp [p2])];exact tl
abbrev N9:=(Int×Int×List af×Int×Int×XE)×(Unit)
def zj:N9→Out (Round N9 ((Int×Int×XS)×(Unit)) Empty)
|((p0,p1,p2,p3,p4,p5,p6,p7,_),_)=> .ite (decide (p7<p6)) (.ite (decide (0≤p7)) (.get (nth p5 (Int.toNat p7)) λy1=> .ite ((y1==p0)) (.ret (.again ((p0,(IntKind.i64.wrap (p1+(1:Int))),p2,p3,p4,p5,p6,(IntKind.i64.wrap (p7+(1:Int))),()),()))) (.ret (.again ((p0,p1,p2,p3,p4,p5,p6,(IntKind.i64.wrap (p7+(1:Int))),()),())))) .fail) (.ret (.out ((p0,p1,p2,p3,p4,()),())))
abbrev Oa:=(Int×Int×XS)×(Unit)
def zk:Oa→Out (Round Oa ((Int×Unit)×(Unit)) Empty)
|((p0,p1,p2,p3,p4,_),_)=> .ite (decide (p4<p3)) (.ite (decide (0≤p4)) (.get (nth p2 (Int.toNat p4)) λy1=> .get (bx zj bc ((p0,p1,p2,p3,p4,y1.2.2.2.2.2.2.1,((List.length y1.2.2.2.2.2.2.1:Nat):Int),(0:Int),()),())) λy2=> .ret (.again ((y2.1.1,y2.1.2.1,y2.1.2.2.1,y2.1.2.2.2.1,(IntKind.i64.wrap (y2.1.2.2.2.2.1+(1:Int))),()),()))) .fail) (.ret (.out ((p1,()),())))
def tC (_:Int) (_:Int) (_:List (List az)) (a3:List af) (_:List aj) (_:List ag) (_:List ag) (_:List Int) (_:List Int) (a9:Int):Out (((Int×Unit)×Unit)×XI):= .get (bx zk bc ((a9,(0:Int),a3,((List.length a3:Nat):Int),(0:Int),()),())) λy1=> .ret (((y1.1.1,()),()),((),(),()))
def aeo:Nat→Option aq:=λn=>b6 [(0,⟨⟨[.dead, .i .i64, .dead, .dead, .dead, .i .i64]++dd 5++[.ro jM (some 1), .i .i64, .i .i64]++dd 18,[]⟩,⟨dd 5++[.i .i64]++dd 26,[]⟩,none,false⟩),(2,⟨⟨[.dead, .i .i64, .dead, .dead, .dead, .i .i64]++dd 5++[.ro jM (some 1), .i .i64, .i .i64]++dd 4++[.ro (.int .i64) none, .i .i64, .i .i64]++dd 11,[]⟩,⟨[.dead, .i .i64, .dead, .dead, .dead, .i .i64]++dd 5++[.ro jM (some 1), .i .i64, .i .i64]++dd 18,[]⟩,none,false⟩)] n
def Vj:bZ:={ f:=69,lend:=true,aJ:=[⟨false,true,[.i .i64, .i .i64, .ro (.sl dk), .ro jM, .ro dZ, .ro dU, .ro dU, .ro (.int .i64), .ro (.int .i64)]⟩,⟨false,false,[.i .i64]⟩],lay:=[none,none],rs:=[⟨false,false,[.i .i64]⟩],F:=λx=> .ret ((((mO x.1.2.2.2.1 x.2.1.1),()),()),((),(),())) }
theorem ZJ (x:au Vj.aJ):bo [] aeo Tryz.f69 Vj [.tmp 4] x=tC x.1.1 x.1.2.1 x.1.2.2.1 x.1.2.2.2.1 x.1.2.2.2.2.1 x.1.2.2.2.2.2.1 x.1.2.2.2.2.2.2.1 x.1.2.2.2.2.2.2.2.1 x.1.2.2.2.2.2.2.2.2.1 x.2.1.1:=by kernel_rfl
theorem ZK (hr:∀ x:bw×(Int×Unit)×Unit,aD Vj.aJ x→(tC x.1.1 x.1.2.1 x.1.2.2.1 x.1.2.2.2.1 x.1.2.2.2.2.1 x.1.2.2.2.2.2.1 x.1.2.2.2.2.2.2.1 x.1.2.2.2.2.2.2.2.1 x.1.2.2.2.2.2.2.2.2.1 x.2.1.1).eval=(Vj.F x).eval):Vj.Ok Tryz.prog:=aO [] trivial ZJ λx hw _ hy=>(hr x hw).trans hy
theorem ZL:Vj.Ok Tryz.prog:=by
 refine ZK λx hw=> ?_;obtain ⟨⟨a0,a1,a2,a3,a4,a5,a6,a7,a8,_⟩,⟨a9,_⟩,_⟩:=x;have l2:List.length a2≤aM:=hw.1.1.1;have l3:List.length a3≤aM:=hw.1.2.1.1;have l4:List.length a4≤aM:=hw.1.2.2.1.1;have l5:List.length a5≤aM:=hw.1.2.2.2.1.1;have l6:List.length a6≤aM:=hw.1.2.2.2.2.1.1;have l7:List.length a7≤aM:=hw.1.2.2.2.2.2.1.1;have l8:List.length a8≤aM:=hw.1.2.2.2.2.2.2.1.1;show (tC a0 a1 a2 a3 a4 a5 a6 a7 a8 a9).eval=some ((((mO a3 a9),()),()),((),(),()));unfold tC mO;have inner:∀ (n:Int) (j:Nat) (hj:j<List.length a3),bx zj bc ((a9,n,a3,((List.length a3:Nat):Int),((j:Nat):Int),a3[j].2.2.2.2.2.2.1,((List.length a3[j].2.2.2.2.2.2.1:Nat):Int),(0:Int),()),())=
   some ((a9,List.foldl (λn f=>nH f a9 n) n a3[j].2.2.2.2.2.2.1,a3,((List.length a3:Nat):Int),((j:Nat):Int),()),()):=λn j hj=>by
  have lj:List.length a3[j].2.2.2.2.2.2.1≤aM:=(hw.1.2.1.2 j a3[j] (aa2 hj)).2.2.2.2.2.2.1.1;exact foldl_loop (f:=zj) (λ_ _=>True) (λn f=>nH f a9 n) a3[j].2.2.2.2.2.2.1 (λd i=>((a9,d,a3,((List.length a3:Nat):Int),((j:Nat):Int),a3[j].2.2.2.2.2.2.1,((List.length a3[j].2.2.2.2.2.2.1:Nat):Int),((i:Nat):Int),()),()))
   (λd=>((a9,d,a3,((List.length a3:Nat):Int),((j:Nat):Int),()),()))
   (λi hi d _=>by
    have h1:=aw (i:=i) (by omega);by_cases q:a3[j].2.2.2.2.2.2.1[i]=a9<;>simp [zj,Out.eval,hi,h1,nH,cond_eq_ite,q])
   (λd _=>by simp [zj,Out.eval]) (λ_ _ _ _=>trivial) lj n trivial
 have h:bx zk bc ((a9,(0:Int),a3,((List.length a3:Nat):Int),(0:Int),()),())=some (((List.foldl (λ(n:Int) (p:af)=>p.2.2.2.2.2.2.1.foldl (λn f=>nH f a9 n) n) (0:Int) a3),()),()):=foldl_loop (f:=zk) (λ_ _=>True) (λ(n:Int) (p:af)=>p.2.2.2.2.2.2.1.foldl (λn f=>nH f a9 n) n) a3 (λd i=>((a9,d,a3,((List.length a3:Nat):Int),((i:Nat):Int),()),())) (λd=>((d,()),()))
  (λi hi d _=>by
   have h1:=aw (i:=i) (by omega);simp [zk,Out.eval,hi,h1,inner d i hi])
  (λd _=>by simp [zk,Out.eval]) (λ_ _ _ _=>trivial) l3 (0:Int) trivial
 exact aa h
def tD (_:Int) (_:Int) (_:List (List az)) (a3:List af) (_:List aj) (a5:List ag) (a6:List ag) (_:List Int) (_:List Int) (a9:Int) (eR:Int) (iu:Int) (a12:Int) (ma:Int):Out (((Bool×Unit)×Unit)×XI):= .ite ((!(dh a9 (0:Int) (7:Int)))==false) (.ite (((ma==(0:Int)))==false) (.ite ((ma != (mO a3 a9))) (.ret (((false,()),()),((),(),()))) (.ite ((eR==(1:Int))) (.ite (((iu==(0:Int)))==true) (.ret (((((a12==(0:Int))),()),()),((),(),()))) (.ret (((false,()),()),((),(),())))) (.ite ((eR==(2:Int))) (.ite ((decide ((bj a6 iu)≥(0:Int)))==true) (.ite (decide (0≤(bj a6 iu))) (.get (nth a6 (Int.toNat (bj a6 iu))) λy1=> .ret ((((dh a12 (0:Int) ((List.length y1.2.1:Nat):Int)),()),()),((),(),()))) .fail) (.ret (((false,()),()),((),(),())))) (.ite ((eR==(3:Int))) (.ite ((decide ((ba a5 iu)≥(0:Int)))==true) (.ret (((((a12==(0:Int))),()),()),((),(),()))) (.ret (((false,()),()),((),(),())))) (.ite ((eR==(4:Int))) (.ite ((decide ((ba a5 iu)≥(0:Int)))==true) (.ret (((((a12==(0:Int))),()),()),((),(),()))) (.ret (((false,()),()),((),(),())))) (.ret (((false,()),()),((),(),())))))))) (.ret (((false,()),()),((),(),())))) (.ret (((false,()),()),((),(),())))
def Vk:bZ:={ f:=36,lend:=true,aJ:=[⟨false,true,[.i .i64, .i .i64, .ro (.sl dk), .ro jM, .ro dZ, .ro dU, .ro dU, .ro (.int .i64), .ro (.int .i64)]⟩,⟨false,true,[.i .i64, .i .i64, .i .i64, .i .i64, .i .i64]⟩],lay:=[none,none],rs:=[⟨false,false,[.b]⟩],F:=λx=> .ret ((((fQ x.1.2.2.2.1 x.1.2.2.2.2.2.1 x.1.2.2.2.2.2.2.1 x.2.1.1 x.2.1.2.1 x.2.1.2.2.1 x.2.1.2.2.2.1 x.2.1.2.2.2.2.1),()),()),((),(),())) }
theorem ZM (x:au Vk.aJ):bo [xx,Vj,Vc,Va] (λ_=>none) Tryz.f36 Vk [.tmp 4] x=tD x.1.1 x.1.2.1 x.1.2.2.1 x.1.2.2.2.1 x.1.2.2.2.2.1 x.1.2.2.2.2.2.1 x.1.2.2.2.2.2.2.1 x.1.2.2.2.2.2.2.2.1 x.1.2.2.2.2.2.2.2.2.1 x.2.1.1 x.2.1.2.1 x.2.1.2.2.1 x.2.1.2.2.2.1 x.2.1.2.2.2.2.1:=by kernel_rfl
theorem ZN (hr:∀ x:bw×aj×Unit,aD Vk.aJ x→(tD x.1.1 x.1.2.1 x.1.2.2.1 x.1.2.2.2.1 x.1.2.2.2.2.1 x.1.2.2.2.2.2.1 x.1.2.2.2.2.2.2.1 x.1.2.2.2.2.2.2.2.1 x.1.2.2.2.2.2.2.2.2.1 x.2.1.1 x.2.1.2.1 x.2.1.2.2.1 x.2.1.2.2.2.1 x.2.1.2.2.2.2.1).eval=(Vk.F x).eval):Vk.Ok Tryz.prog:=aO [xx,Vj,Vc,Va] ⟨nK,ZL,Zn,Zg,trivial⟩ ZM λx hw _ hy=>(hr x hw).trans hy
theorem ZO:Vk.Ok Tryz.prog:=by
 refine ZN λx hw=> ?_;obtain ⟨⟨a0,a1,a2,a3,a4,a5,a6,a7,a8,_⟩,⟨a9,eR,iu,a12,ma,_⟩,_⟩:=x;have l2:List.length a2≤aM:=hw.1.1.1;have l3:List.length a3≤aM:=hw.1.2.1.1;have l4:List.length a4≤aM:=hw.1.2.2.1.1;have l5:List.length a5≤aM:=hw.1.2.2.2.1.1;have l6:List.length a6≤aM:=hw.1.2.2.2.2.1.1;have l7:List.length a7≤aM:=hw.1.2.2.2.2.2.1.1;have l8:List.length a8≤aM:=hw.1.2.2.2.2.2.2.1.1;show (tD a0 a1 a2 a3 a4 a5 a6 a7 a8 a9 eR iu a12 ma).eval=some ((((fQ a3 a5 a6 a9 eR iu a12 ma),()),()),((),(),()));unfold tD;unfold fQ;generalize mO a3 a9=r;by_cases c3:dh a9 0 7=true
 case neg=>rw [ae (by simp [c3])];simp [Out.eval,c3]
 rw [ab (by simp [c3])];by_cases c1:ma=0
 . rw [ae (by simp [c1])]
   have e:(!(r==0)&&ma==r&&dh a9 0 7&&nI a5 a6 eR iu a12)=false:=by
    subst c1;by_cases q:r=0
    . simp [q]
    . have:((0:Int)==r)=false:=by simpa using λh=>q h.symm
      simp [this]
   rw [e];rfl
 rw [ab (by simp [c1])];by_cases c2:ma=r
 case neg=>rw [ab (by simp [c2])];simp [Out.eval,c2]
 rw [ae (by simp [c2])];refine (Bz eR iu a12 a5 a6 (λb=>(((b,()),()),((),(),())))).trans ?_;subst c2;simp [c1,c3]
def rW (kind target pipe:Int):Bool:=(kind==3&&target==pipe)||(kind==4&&target==pipe)
def tE (_:Int) (a1:Int) (a2:Int) (_:Int) (_:Int) (a5:Int):Out (((Bool×Unit)×Unit)×XI):= .ite (((a1==(3:Int)))==false) (.ite (((a1==(4:Int)))==true) (.ret (((((a2==a5)),()),()),((),(),()))) (.ret (((false,()),()),((),(),())))) (.ret (((((a2==a5)),()),()),((),(),())))
def Vl:bZ:={ f:=74,lend:=true,aJ:=[⟨false,true,[.i .i64, .i .i64, .i .i64, .i .i64, .i .i64]⟩,⟨false,false,[.i .i64]⟩],lay:=[none,none],rs:=[⟨false,false,[.b]⟩],F:=λx=> .ret ((((rW x.1.2.1 x.1.2.2.1 x.2.1.1),()),()),((),(),())) }
theorem ZP (x:au Vl.aJ):bo [] (λ_=>none) Tryz.f74 Vl [.tmp 4] x=tE x.1.1 x.1.2.1 x.1.2.2.1 x.1.2.2.2.1 x.1.2.2.2.2.1 x.2.1.1:=by kernel_rfl
theorem ZQ (hr:∀ x:aj×(Int×Unit)×Unit,aD Vl.aJ x→(tE x.1.1 x.1.2.1 x.1.2.2.1 x.1.2.2.2.1 x.1.2.2.2.2.1 x.2.1.1).eval=(Vl.F x).eval):Vl.Ok Tryz.prog:=aO [] trivial ZP λx hw _ hy=>(hr x hw).trans hy
theorem ZR:Vl.Ok Tryz.prog:=by
 refine ZQ λx hw=> ?_;obtain ⟨⟨a0,a1,a2,a3,a4,_⟩,⟨a5,_⟩,_⟩:=x;show (tE a0 a1 a2 a3 a4 a5).eval=some ((((rW a1 a2 a5),()),()),((),(),()));unfold tE rW;simp only [Out.eval,cond_eq_ite]
 all_goals ((repeat' split)<;>simp_all)
def my (kind target pipe:Int):Bool×Int:=(rW kind target pipe,pipe)
def tF (_:Int) (a1:Int) (a2:Int) (_:Int) (_:Int) (a5:Int) (_:List Int):Out (((Bool×Unit)×Unit)×(Unit×(Int×Unit)×Unit)):= .ret ((((rW a1 a2 a5),()),()),((),(a5,()),()))
def Vm:bZ:={ f:=73,lend:=true,aJ:=[⟨false,true,[.i .i64, .i .i64, .i .i64, .i .i64, .i .i64]⟩,⟨true,false,[.i .i64, .ro (.int .i64)]⟩],lay:=[none,none],rs:=[⟨false,false,[.b]⟩],F:=λx=> .ret ((((my x.1.2.1 x.1.2.2.1 x.2.1.1).1,()),()),((),((my x.1.2.1 x.1.2.2.1 x.2.1.1).2,()),())) }
theorem ZS (x:au Vm.aJ):bo [Vl] (λ_=>none) Tryz.f73 Vm [.tmp 3] x=tF x.1.1 x.1.2.1 x.1.2.2.1 x.1.2.2.2.1 x.1.2.2.2.2.1 x.2.1.1 x.2.1.2.1:=by kernel_rfl
theorem ZT (hr:∀ x:aj×ag×Unit,aD Vm.aJ x→(tF x.1.1 x.1.2.1 x.1.2.2.1 x.1.2.2.2.1 x.1.2.2.2.2.1 x.2.1.1 x.2.1.2.1).eval=(Vm.F x).eval):Vm.Ok Tryz.prog:=aO [Vl] ⟨ZR,trivial⟩ ZS λx hw _ hy=>(hr x hw).trans hy
theorem ZU:Vm.Ok Tryz.prog:=by
 refine ZT λx hw=> ?_;obtain ⟨⟨a0,a1,a2,a3,a4,_⟩,⟨a5,a6,_⟩,_⟩:=x;have l6:List.length a6≤aM:=hw.2.1.1.1;show (tF a0 a1 a2 a3 a4 a5 a6).eval=some ((((my a1 a2 a5).1,()),()),((),((my a1 a2 a5).2,()),()));unfold tF my;simp only [Out.eval]
 all_goals ((repeat' split)<;>simp_all)
def mb (a:List aj) (pipe:Int):Int×Int:=(sv (a.findIdx? (eD pipe)),pipe)
abbrev Ji:=(List aj×Int×Int×Unit)×((Int×List Int×Unit)×Unit)
def qE:Ji→Out (Round Ji ((Unit)×((Int×List Int×Unit)×Unit)) ((Int×Unit)×((Int×List Int×Unit)×Unit)))
|((p0,p1,p2,_),(p3,p4,_),_)=> .ite (decide (p2<p1)) (.ite (decide (0≤p2)) (.get (nth p0 (Int.toNat p2)) λy1=> .ite ((my y1.2.1 y1.2.2.1 p3).1) (.ret (.ret ((p2,()),(((my y1.2.1 y1.2.2.1 p3).2,p4,()),())))) (.ret (.again ((p0,p1,(IntKind.i64.wrap (p2+(1:Int))),()),(((my y1.2.1 y1.2.2.1 p3).2,p4,()),()))))) .fail) (.ret (.out ((),((p3,p4,()),()))))
def qF (a0:List aj) (a1:Int) (a2:List Int):Out (((Int×Unit)×Unit)×(Unit×(Int×Unit)×Unit)):= .get (iter qE bc ((a0,((List.length a0:Nat):Int),(0:Int),()),((a1,a2,()),()))) λy1=> .alt y1 (λy2=> .ret ((((-1:Int),()),()),((),(y2.2.1.1,()),()))) (λy3=> .ret (((y3.1.1,()),()),((),(y3.2.1.1,()),())))
abbrev Dy:List (Nat×eA):=[(1, .var [.i .i64, .ro (.int .i64) (some 2)])]
def ZV:Nat→Option aq:=λn=>b6 [(0,⟨⟨[.ro dZ (some 0), .fn 73 [1]]++dd 5++[.i .i64, .i .i64]++dd 10,Dy⟩,⟨[.dead, .fn 73 [1]]++dd 17,Dy⟩,some ⟨[.dead, .fn 73 [1], .dead, .dead, .i .i64]++dd 14,Dy⟩,false⟩)] n
def FK:bZ:={ f:=94,lend:=true,aJ:=[⟨false,false,[.ro dZ]⟩,⟨true,false,[.i .i64, .ro (.int .i64)]⟩],lay:=[none,some (73,1)],rs:=[⟨false,false,[.i .i64]⟩],F:=λx=> .ret ((((mb x.1.1 x.2.1.1).1,()),()),((),((mb x.1.1 x.2.1.1).2,()),())) }
theorem Ss (x:au FK.aJ):bo [Vm] ZV Tryz.f94 FK [.tmp 4] x=qF x.1.1 x.2.1.1 x.2.1.2.1:=by kernel_rfl
theorem St (hr:∀ x:(List aj×Unit)×ag×Unit,aD FK.aJ x→(qF x.1.1 x.2.1.1 x.2.1.2.1).eval=(FK.F x).eval):FK.Ok Tryz.prog:=aO [Vm] ⟨ZU,trivial⟩ Ss λx hw _ hy=>(hr x hw).trans hy
theorem Su:FK.Ok Tryz.prog:=by
 refine St λx hw=> ?_;obtain ⟨⟨a0,_⟩,⟨a1,a2,_⟩,_⟩:=x;have l0:List.length a0≤aM:=hw.1.1.1;have l2:List.length a2≤aM:=hw.2.1.1.1;show (qF a0 a1 a2).eval=some ((((mb a0 a1).1,()),()),((),((mb a0 a1).2,()),()));unfold qF mb;have h:iter qE bc ((a0,((List.length a0:Nat):Int),(0:Int),()),((a1,a2,()),()))=some (match List.findIdx? (eD a1) a0 with|some i=> .inr ((((i:Nat):Int),()),((a1,a2,()),()))|none=> .inl ((),((a1,a2,()),()))):=dY (f:=qE) a0 (eD a1) (λi=>((a0,((List.length a0:Nat):Int),((i:Nat):Int),()),((a1,a2,()),()))) (y:=((),((a1,a2,()),()))) (z:=λi=>((((i:Nat):Int),()),((a1,a2,()),())))
  (λi hi hp=>by
   have h1:=aw (i:=i) (by omega);simp [qE,Out.eval,hi,h1,cond_eq_ite,my,rW,eD,mq] at hp ⊢ <;>(try simp_all)<;>(try (rcases hp with h|h<;>simp_all)))
  (λi hi hp=>by simp [qE,Out.eval,hi,cond_eq_ite,my,rW,eD,mq] at hp ⊢ <;>(try simp_all)<;>(try (rcases hp with h|h<;>simp_all)))
  (by simp [qE,Out.eval]) l0
 refine (aa h).trans ?_;cases List.findIdx? (eD a1) a0<;>rfl
def kL (a:List aj) (pipe:Int):Bool×Int:=(a.any (eD pipe),pipe)
def qG (a0:List aj) (a1:Int) (_:List Int):Out (((Bool×Unit)×Unit)×(Unit×(Int×Unit)×Unit)):= .ret ((((decide ((mb a0 a1).1≥(0:Int))),()),()),((),((mb a0 a1).2,()),()))
def FL:bZ:={ f:=72,lend:=true,aJ:=[⟨false,false,[.ro dZ]⟩,⟨true,false,[.i .i64, .ro (.int .i64)]⟩],lay:=[none,some (73,1)],rs:=[⟨false,false,[.b]⟩],F:=λx=> .ret ((((kL x.1.1 x.2.1.1).1,()),()),((),((kL x.1.1 x.2.1.1).2,()),())) }
theorem Sv (x:au FL.aJ):bo [FK] (λ_=>none) Tryz.f72 FL [.tmp 4] x=qG x.1.1 x.2.1.1 x.2.1.2.1:=by kernel_rfl
theorem Sw (hr:∀ x:(List aj×Unit)×ag×Unit,aD FL.aJ x→(qG x.1.1 x.2.1.1 x.2.1.2.1).eval=(FL.F x).eval):FL.Ok Tryz.prog:=aO [FK] ⟨Su,trivial⟩ Sv λx hw _ hy=>(hr x hw).trans hy
theorem Sx:FL.Ok Tryz.prog:=by
 refine Sw λx hw=> ?_;obtain ⟨⟨a0,_⟩,⟨a1,a2,_⟩,_⟩:=x;have l0:List.length a0≤aM:=hw.1.1.1;have l2:List.length a2≤aM:=hw.2.1.1.1;show (qG a0 a1 a2).eval=some ((((kL a0 a1).1,()),()),((),((kL a0 a1).2,()),()));unfold qG kL mb;rw [j4];rfl
abbrev Ob:=(Int×XS)×(Unit)
def zl:Ob→Out (Round Ob ((Int×Unit)×(Unit)) Empty)
|((p0,p1,p2,p3,_),_)=> .ite (decide (p3<p2)) (.ite (decide (0≤p3)) (.get (nth p1 (Int.toNat p3)) λy1=> .ret (.again (((IntKind.i64.wrap (p0+((List.length y1.2.2.2.2.2.1:Nat):Int))),p1,p2,(IntKind.i64.wrap (p3+(1:Int))),()),()))) .fail) (.ret (.out ((p0,()),())))
def tG (_:Int) (_:Int) (_:List (List az)) (a3:List af) (_:List aj) (_:List ag) (_:List ag) (_:List Int) (_:List Int):Out (((Int×Unit)×Unit)×(Unit×Unit)):= .get (bx zl bc (((0:Int),a3,((List.length a3:Nat):Int),(0:Int),()),())) λy1=> .ret (((y1.1.1,()),()),((),()))
def aep:Nat→Option aq:=λn=>b6 [(0,⟨⟨[.dead, .dead, .dead, .i .i64, .dead, .dead, .dead, .ro jM (some 1), .i .i64, .i .i64]++dd 10,[]⟩,⟨[.dead, .dead, .dead, .i .i64]++dd 16,[]⟩,none,false⟩)] n
def Vn:bZ:={ f:=37,lend:=true,aJ:=[⟨false,true,[.i .i64, .i .i64, .ro (.sl dk), .ro jM, .ro dZ, .ro dU, .ro dU, .ro (.int .i64), .ro (.int .i64)]⟩],lay:=[none],rs:=[⟨false,false,[.i .i64]⟩],F:=λx=> .ret ((((o9 x.1.2.2.2.1),()),()),((),())) }
theorem ZW (x:au Vn.aJ):bo [] aep Tryz.f37 Vn [.tmp 2] x=tG x.1.1 x.1.2.1 x.1.2.2.1 x.1.2.2.2.1 x.1.2.2.2.2.1 x.1.2.2.2.2.2.1 x.1.2.2.2.2.2.2.1 x.1.2.2.2.2.2.2.2.1 x.1.2.2.2.2.2.2.2.2.1:=by kernel_rfl
theorem ZX (hr:∀ x:bw×Unit,aD Vn.aJ x→(tG x.1.1 x.1.2.1 x.1.2.2.1 x.1.2.2.2.1 x.1.2.2.2.2.1 x.1.2.2.2.2.2.1 x.1.2.2.2.2.2.2.1 x.1.2.2.2.2.2.2.2.1 x.1.2.2.2.2.2.2.2.2.1).eval=(Vn.F x).eval):Vn.Ok Tryz.prog:=aO [] trivial ZW λx hw _ hy=>(hr x hw).trans hy
theorem ZY:Vn.Ok Tryz.prog:=by
 refine ZX λx hw=> ?_;obtain ⟨⟨a0,a1,a2,a3,a4,a5,a6,a7,a8,_⟩,_⟩:=x;have l2:List.length a2≤aM:=hw.1.1.1;have l3:List.length a3≤aM:=hw.1.2.1.1;have l4:List.length a4≤aM:=hw.1.2.2.1.1;have l5:List.length a5≤aM:=hw.1.2.2.2.1.1;have l6:List.length a6≤aM:=hw.1.2.2.2.2.1.1;have l7:List.length a7≤aM:=hw.1.2.2.2.2.2.1.1;have l8:List.length a8≤aM:=hw.1.2.2.2.2.2.2.1.1;show (tG a0 a1 a2 a3 a4 a5 a6 a7 a8).eval=some ((((o9 a3),()),()),((),()));unfold tG o9;have h:bx zl bc (((0:Int),a3,((List.length a3:Nat):Int),(0:Int),()),())=some (((List.foldl (λ(n:Int) (p:af)=>IntKind.i64.wrap (n+((p.2.2.2.2.2.1.length:Nat):Int))) (0:Int) a3),()),()):=foldl_loop (f:=zl) (λ_ _=>True) (λ(n:Int) (p:af)=>IntKind.i64.wrap (n+((p.2.2.2.2.2.1.length:Nat):Int))) a3 (λd i=>((d,a3,((List.length a3:Nat):Int),((i:Nat):Int),()),())) (λd=>((d,()),()))
  (λi hi d _=>by
   have h1:=aw (i:=i) (by omega);simp [zl,Out.eval,hi,h1,cond_eq_ite])
  (λd _=>by simp [zl,Out.eval]) (λ_ _ _ _=>trivial) l3 (0:Int) trivial
 exact aa h
abbrev Oc:=(List ag×Int×Int×Unit)×(bw×Unit)
def vL:Oc→Out (Round Oc ((Unit)×(bw×Unit)) ((Bool×Unit)×(Unit)))
|((p0,p1,p2,_),(p3,p4,p5,p6,p7,p8,p9,cH,cK,_),_)=> .ite (decide (p2<p1)) (.ite (decide (0≤p2)) (.get (nth p0 (Int.toNat p2)) λy1=> .ite ((!(dh y1.1 (0:Int) (2:Int)))==false) (.ite ((decide (p2>(0:Int)))==true) (.ite (decide (0≤(IntKind.i64.wrap (p2 - (1:Int))))) (.get (nth p8 (Int.toNat (IntKind.i64.wrap (p2 - (1:Int))))) λy2=> .ite ((decide (y2.1≥y1.1))==false) (.ite ((decide (((List.length y1.2.1:Nat):Int)>(4:Int)))==false) (.ite (!(aG y1.2.1)) (.ret (.ret ((false,()),()))) (.ite (!(kL p7 y1.1).1) (.ret (.ret ((false,()),()))) (.ret (.again ((p0,p1,(IntKind.i64.wrap (p2+(1:Int))),()),((p3,p4,p5,p6,p7,p8,p9,cH,cK,()),())))))) (.ret (.ret ((false,()),())))) (.ret (.ret ((false,()),())))) .fail) (.ite ((decide (((List.length y1.2.1:Nat):Int)>(4:Int)))==false) (.ite (!(aG y1.2.1)) (.ret (.ret ((false,()),()))) (.ite (!(kL p7 y1.1).1) (.ret (.ret ((false,()),()))) (.ret (.again ((p0,p1,(IntKind.i64.wrap (p2+(1:Int))),()),((p3,p4,p5,p6,p7,p8,p9,cH,cK,()),())))))) (.ret (.ret ((false,()),()))))) (.ret (.ret ((false,()),())))) .fail) (.ret (.out ((),((p3,p4,p5,p6,p7,p8,p9,cH,cK,()),()))))
def tH (a0:Int) (a1:Int) (a2:List (List az)) (a3:List af) (a4:List aj) (a5:List ag) (a6:List ag) (a7:List Int) (a8:List Int):Out (((Bool×Unit)×Unit)×(Unit×Unit)):= .get (iter vL bc ((a5,((List.length a5:Nat):Int),(0:Int),()),((a0,a1,a2,a3,a4,a5,a6,a7,a8,()),()))) λy1=> .alt y1 (λy2=> .ret ((((decide (((List.length y2.2.1.2.2.2.2.2.1:Nat):Int)≤(3:Int))),()),()),((),()))) (λy3=> .ret (((y3.1.1,()),()),((),())))
abbrev Od:List (Nat×eA):=[(64000000, .var [.i .i64, .i .i64, .ro (.sl dk) (some 0), .ro jM (some 1), .ro dZ (some 2), .ro dU (some 3), .ro dU (some 4), .ro (.int .i64) (some 5), .ro (.int .i64) (some 6)])]
def aeq:Nat→Option aq:=λn=>b6 [(0,⟨⟨[.dead, .vptr 64000000 0]++dd 4++[.ro dU (some 3), .i .i64, .i .i64]++dd 46,Od⟩,⟨[.dead, .vptr 64000000 0]++dd 53,Od⟩,some ⟨[.dead, .dead, .b]++dd 52,[]⟩,false⟩)] n
def Vo:bZ:={ f:=38,lend:=true,aJ:=[⟨false,true,[.i .i64, .i .i64, .ro (.sl dk), .ro jM, .ro dZ, .ro dU, .ro dU, .ro (.int .i64), .ro (.int .i64)]⟩],lay:=[none],rs:=[⟨false,false,[.b]⟩],F:=λx=> .ret ((((lv x.1.2.2.2.2.1 x.1.2.2.2.2.2.1),()),()),((),())) }
theorem ZZ (x:au Vo.aJ):bo [xx,GM,FL] aeq Tryz.f38 Vo [.tmp 2] x=tH x.1.1 x.1.2.1 x.1.2.2.1 x.1.2.2.2.1 x.1.2.2.2.2.1 x.1.2.2.2.2.2.1 x.1.2.2.2.2.2.2.1 x.1.2.2.2.2.2.2.2.1 x.1.2.2.2.2.2.2.2.2.1:=by kernel_rfl
theorem Z0 (hr:∀ x:bw×Unit,aD Vo.aJ x→(tH x.1.1 x.1.2.1 x.1.2.2.1 x.1.2.2.2.1 x.1.2.2.2.2.1 x.1.2.2.2.2.2.1 x.1.2.2.2.2.2.2.1 x.1.2.2.2.2.2.2.2.1 x.1.2.2.2.2.2.2.2.2.1).eval=(Vo.F x).eval):Vo.Ok Tryz.prog:=aO [xx,GM,FL] ⟨nK,yN,Sx,trivial⟩ ZZ λx hw _ hy=>(hr x hw).trans hy
theorem Z1:Vo.Ok Tryz.prog:=by
 refine Z0 λx hw=> ?_;obtain ⟨⟨a0,a1,a2,a3,a4,a5,a6,a7,a8,_⟩,_⟩:=x;have l2:List.length a2≤aM:=hw.1.1.1;have l3:List.length a3≤aM:=hw.1.2.1.1;have l4:List.length a4≤aM:=hw.1.2.2.1.1;have l5:List.length a5≤aM:=hw.1.2.2.2.1.1;have l6:List.length a6≤aM:=hw.1.2.2.2.2.1.1;have l7:List.length a7≤aM:=hw.1.2.2.2.2.2.1.1;have l8:List.length a8≤aM:=hw.1.2.2.2.2.2.2.1.1;show (tH a0 a1 a2 a3 a4 a5 a6 a7 a8).eval=some ((((lv a4 a5),()),()),((),()));unfold tH lv;have h:iter vL bc ((a5,((List.length a5:Nat):Int),(0:Int),()),((a0,a1,a2,a3,a4,a5,a6,a7,a8,()),()))=some (if eB aB (iH a4) a5=true then .inl ((),((a0,a1,a2,a3,a4,a5,a6,a7,a8,()),())) else .inr ((false,()),())):=jX (f:=vL) (List.length a5) (sX aB (iH a4) a5) (λi=>((a5,((List.length a5:Nat):Int),((i:Nat):Int),()),((a0,a1,a2,a3,a4,a5,a6,a7,a8,()),()))) (y:=((),((a0,a1,a2,a3,a4,a5,a6,a7,a8,()),()))) (z:=((false,()),()))
  (λi hi=>by
   have w1:=aw (i:=i) (by omega);cases i with
   |zero=>
    rw [ix hi];have w3:decide (((0:Nat):Int)>0)=false:=rfl
    try unfold iH
    try unfold aB
    simp only [vL,Out.eval,mP hi,Ay,cL hi,acf,acE,w1,w3,gt4,kL];cases p0:dh a5[0].1 0 2<;>cases p2:decide (List.length a5[0].2.1≤4)<;>cases p3:aG a5[0].2.1<;>cases p4:List.any a4 (eD a5[0].1)<;>rfl
   |succ i=>
    rw [gJ hi];have w2:=jh i (by omega);have w3:decide (((i+1:Nat):Int)>0)=true:=aaE (by omega)
    try unfold iH
    try unfold aB
    simp only [vL,Out.eval,mP hi,cL hi,acf,acE,w1,w3,gt4,kL,cL (show i<List.length a5 by omega),w2,oZ];cases p0:dh a5[i+1].1 0 2<;>cases p1:decide (a5[i].1<a5[i+1].1)<;>cases p2:decide (List.length a5[i+1].2.1≤4)<;>cases p3:aG a5[i+1].2.1<;>cases p4:List.any a4 (eD a5[i+1].1)<;>rfl)
  (by simp [vL,Out.eval]) l5
 refine (aa h).trans ?_;cases eB aB (iH a4) a5
 . cases decide (List.length a5≤3)<;>rfl
 . refine (gk _).trans ?_
   dsimp only;rw [le3,afy];rfl
end Go.Proofs.YtnlleofnjkeimaaGreatDoor.Dm
