/- f -/
import Derived.Test.YtkmhgofibfmjfaaGreatJ5
import Derived.Test.YtkmhgofibfmjfaaGreatSo
import Derived.Test.YtkmhgofibfmjfaaGreatShelf
namespace Go.Proofs.YtkmhgofibfmjfaaGreat.Dm
open Go Go.ChangeShapes Go.WideShapes Go.ChangeAt Go.RowKit
section
variable {α δ σ β γ:Type}
theorem zk {f:σ→Out (Round σ β γ)} (a:List α) (p:α→Bool) (S:Nat→σ) {y:β} {z:γ} (hs:∀ i (hi:i<a.length),(f (S i)).eval=some (if p a[i]=true then .again (S (i+1)) else .ret z))
  (hy:(f (S a.length)).eval=some (.out y)) (ha:a.length≤cj):iter f aI (S 0)=some (if a.all p=true then .inl y else .inr z):=by
 rw [K7 (f:=f) a (λx=> !p x) S (y:=y) (z:=z) (by grind) hy ha];grind
theorem lG {f:σ→Out (Round σ β γ)} (n:Nat) (p:Nat→Bool) (S:Nat→σ) {y:β} {z:γ} (hs:∀ i (_:i<n),(f (S i)).eval=some (if p i=true then .again (S (i+1)) else .ret z))
  (hy:(f (S n)).eval=some (.out y)) (hn:n≤cj):iter f aI (S 0)=some (if (List.range n).all p=true then .inl y else .inr z):=
 zk (f:=f) (List.range n) p S (by grind) (by grind) (by grind)
def Dq (g:δ→α→Option δ):δ→List α→Option δ
 |d,[]=>some d
 |d,x::r=>match g d x with|none=>none|some d'=>Dq g d' r
theorem Rn {f:σ→Out (Round σ β γ)} (a:List α) (g:δ→α→Option δ) (P:Nat→δ→Prop) (S:δ→Nat→σ) (y:δ→β) (z:γ) (hP:∀ i (_:i<a.length) d d',P i d→g d a[i]=some d'→P (i+1) d')
  (hs:∀ i (hi:i<a.length) d,P i d→(f (S d i)).eval=some (match g d a[i] with|none=> .ret z|some d'=> .again (S d' (i+1)))) (hy:∀ d,P a.length d→(f (S d a.length)).eval=some (.out (y d))) (ha:a.length≤cj) {d:δ} (h0:P 0 d):
  iter f aI (S d 0)=some (match Dq g d a with|none=> .inr z|some d'=> .inl (y d')):=by
 have key:∀ (m i:Nat) (d:δ) (n:Nat),i+m=a.length→m<n→P i d→iter f n (S d i)=some (match Dq g d (a.drop i) with|none=> .inr z|some d'=> .inl (y d')):=by
  intro m
  induction m with
  |zero=>
   intro i d n hi hn hp;obtain rfl:i=a.length:=by omega
   rw [jx (hy d hp) hn,List.drop_length];rfl
  |succ m ih=>
   intro i d n hi hn hp;have cf:i<a.length:=by omega
   have hq:=hs i cf d hp;rw [aeC cf];simp only [Dq];cases e:g d a[i] with
   |none=>grind [lu]
   |some d'=>
    rw [e] at hq;obtain ⟨n,rfl⟩:∃ n',n=n'+1:=⟨n - 1,by omega⟩
    grind [je]
 simp_all [aI,ij]
end
abbrev rV:=List (List ar)×List af×List ai×List ah×List ah×List Int×List Int×Unit
def mF (a:List Int) (x:Int):Bool:=a.any λy=>decide (y=x)
theorem rQ {a:List Int} {x:Int}:mF a x=true↔x∈a:=by simp [mF]
abbrev fq:=ah
def iT {α:Type} (key:α→Int) (a:List α) (v:Int):Option Nat:=a.findIdx? λx=>key x==v
def dM {α:Type} (key:α→Int) (a:List α) (v:Int):Int:=vS (iT key a v)
def aA (x:af):Int:=x.1
def an (x:ai):Int:=x.1
def aG (x:fq):Int:=x.1
def aW (x:cB):Int:=x.1
def al (a:List af) (v:Int):Int:=dM aA a v
def aM (a:List ai) (v:Int):Int:=dM an a v
def bq (a:List fq) (v:Int):Int:=dM aG a v
def br (a:List cB) (v:Int):Int:=dM aW a v
def xy {α:Type} (key:α→Int) (ok:α→Bool) (a:List α) (i:Nat):Bool:=match a[i]? with
 |none=>true
 |some x=>ok x&&(match i with|0=>true|j+1=>match a[j]? with|none=>true|some z=>decide (key z<key x))
def fH {α:Type} (key:α→Int) (ok:α→Bool) (a:List α):Bool:=(List.range a.length).all (xy key ok a)
theorem jD {α:Type} {key:α→Int} {ok:α→Bool} {a:List α} (h:0<a.length):xy key ok a 0=ok a[0]:=by
 grind [xy,List.getElem?_eq_getElem]
variable {i:Nat}
theorem iM {α:Type} {key:α→Int} {ok:α→Bool} {a:List α} (h:i+1<a.length):xy key ok a (i+1)=(ok a[i+1]&&decide (key a[i]<key a[i+1])):=by
 grind [xy,List.getElem?_eq_getElem]
def aU (pc:Int) (iY:List Int):Bool:=oG pc&&decide (iY.length=4)&&aH iY
def gY (tick:Int) (os:List ai) (st:Int) (fds:List Int) (n6:Int):Bool:=
 if st=2 then decide (tick<n6) else if st=4∨st=5 then mF fds n6&&decide (0≤aM os n6) else n6==0
def rf (os:List ai) (st f:Int):Bool:=f== -1||(decide (0≤aM os f)&& !(st==6))
def cd (ps:List af) (pid par:Int):Bool:=par==0||(!(par==pid)&&match iT aA ps par with
 |none=>false
 |some i=>match ps[i]? with|none=>false|some q=> !(q.2.2.1==6))
def vk (par st:Int) (mem:List Int) (code:Int):Bool:=if st=6 then decide (mem.length=0)&& !(par==0) else decide (0<mem.length)&&code==0
def dG (tick:Int) (np:Nat) (ps:List af) (os:List ai) (pid par st pg pc:Int) (iY mem fds:List Int) (n6 code:Int):Bool:=
 dL st 1 6&&(decide (0≤pg)&&decide (pg<(np:Int)))&&aU pc iY&&decide (mem.length≤12)&&decide (mem.length % 4=0)&&aH mem&&decide (fds.length=4)&&b9 code
  &&fds.all (rf os st)&&cd ps pid par&&gY tick os st fds n6&&vk par st mem code
def sc (f id n:Int):Int:=if f=id then abs (n+1) else n
def sd (ps:List af) (id:Int):Int:=ps.foldl (λn p=>p.2.2.2.2.2.2.1.foldl (λn f=>sc f id n) n) 0
def tC (cA:List fq) (files:List cB) (kind target off:Int):Bool:=
 if kind=1 then target==0&&off==0 else if kind=2 then (match iT aW files target with
  |none=>false
  |some i=>match files[i]? with|none=>false|some x=>dL off 0 ((x.2.1.length:Nat):Int))
 else if kind=3∨kind=4 then decide (0≤bq cA target)&&off==0 else false
def ir (ps:List af) (cA:List fq) (files:List cB) (id kind target off refs:Int):Bool:=
 !(sd ps id==0)&&refs==sd ps id&&dL id 0 7&&tC cA files kind target off
def oF (k pipe:Int) (o:ai):Bool:=o.2.1==k&&o.2.2.1==pipe
def jg (os:List ai) (pipe k:Int):Int:=os.foldl (λn o=>if oF k pipe o=true then abs (n+1) else n) 0
def fY (pipe:Int) (o:ai):Bool:=oF 3 pipe o||oF 4 pipe o
def ko (os:List ai) (x:fq):Bool:=dL x.1 0 2&&decide (x.2.1.length≤4)&&aH x.2.1&&os.any (fY x.1)
def cH (a:List (List ar)):Bool:=decide (1≤a.length)&&decide (a.length≤4)&&a.all bm
def oL (ps:List af):Int:=ps.foldl (λn p=>abs (n+((p.2.2.2.2.2.1.length / 4:Nat):Int))) 0
def se (ps:List af):Int:=ps.foldl (λn p=>abs (n+((p.2.2.2.2.2.1.length:Nat):Int))) 0
def mm (p:af):Bool:=p.2.2.1==1
def aN (ps:List af):List Int:=(ps.filter mm).map aA
def nb (ps:List af) (rd:List Int):Bool:=(aN ps).all (mF rd)&&decide ((aN ps).length=rd.length)
def sg (tick:Int) (np:Nat) (ps:List af) (os:List ai) (p:af):Bool:=
 dG tick np ps os p.1 p.2.1 p.2.2.1 p.2.2.2.1 p.2.2.2.2.1.1 p.2.2.2.2.1.2.1 p.2.2.2.2.2.1 p.2.2.2.2.2.2.1 p.2.2.2.2.2.2.2.1 p.2.2.2.2.2.2.2.2.1
def fL (next tick:Int) (np:Nat) (ps:List af) (os:List ai) (p:af):Bool:=dL p.1 1 (abs (next - 1))&&sg tick np ps os p
def kX (ps:List af) (cA:List fq) (files:List cB) (o:ai):Bool:=ir ps cA files o.1 o.2.1 o.2.2.1 o.2.2.2.1 o.2.2.2.2.1
def im (ps:List af) (os:List ai) (cA:List fq) (files:List cB):Bool:=
 decide (os.length≤8)&&decide (cA.length≤3)&&decide (files.length≤6)&&fH an (kX ps cA files) os&&fH aG (ko os) cA&&fH aW fA files
def cw (next tick:Int) (dO:List (List ar)) (ps:List af) (os:List ai) (cA:List fq) (files:List cB) (rd out:List Int):Bool:=
 dL next 1 100000&&dL tick 0 1000000&&cH dO&&decide (out.length≤60)&&aH out&&decide (ps.length≤6)&&decide (oL ps≤16)
  &&fH aA (fL next tick dO.length ps os) ps&&im ps os cA files&&nb ps rd
def nm (os:List ai) (cA:List fq):Bool:=decide (cA.length≤3)&&fH aG (ko os) cA
def iu (next tick:Int) (dO:List (List ar)) (ps:List af) (os:List ai) (cA:List fq) (files:List cB) (rd out:List Int):Bool:=
 dL next 1 100000&&dL tick 0 1000000&&dL ((dO.length:Nat):Int) 1 4&&decide (out.length≤60)&&aH out&&dO.all bm&&decide (ps.length≤6)&&decide (os.length≤8)
  &&fH aA (fL next tick dO.length ps os) ps&&fH an (kX ps cA files) os&&decide (se ps≤64)&&nm os cA&&gX files&&decide (kY rd=aN ps)
theorem n7:∀ {w r:List Int},w.Nodup→(∀ x∈w,x∈r)→w.length=r.length→w.Perm r
 |[],r,_,_,h=>by
  grind
 |x::w,r,hn,hs,hl=>by
  have hx:x∈r:=hs x (by simp);have hp:=List.perm_cons_erase hx;rw [aeP] at hn;refine List.Perm.trans (List.Perm.cons x ?_) hp.symm;refine n7 hn.2 (λy hy=> ?_) ?_
  . have fE:y≠x:=λe=>hn.1 (e ▸ hy)
    exact (List.mem_erase_of_ne fE).2 (hs y (by simp [hy]))
  . rw [List.length_erase_of_mem hx]
    simp only [aay] at hl;omega
theorem Vq (a:List Int):(kY a).Pairwise (· ≤ ·):=by
 have:=List.pairwise_mergeSort (le:=λ(x y:Int)=>decide (x≤y)) (by grind) (by grind) a;grind
theorem Pu:∀ {a b:List Int},a.Pairwise (· < ·)→b.Pairwise (· < ·)→(∀ x,x∈a↔x∈b)→a=b
 |[],b,_,_,h=>by
  cases b with
  |nil=>rfl
  |cons y r=>exact absurd ((h y).2 (by simp)) (by simp)
 |x::a,[],_,_,h=>absurd ((h x).1 (by simp)) (by simp)
 |x::a,y::b,ha,hb,h=>by
  rw [agp] at ha hb;have hxy:x=y:=by
   have h1:x∈y::b:=(h x).1 (by simp);have h2:y∈x::a:=(h y).2 (by simp);rcases adM.1 h1 with e|h1
   . exact e
   . rcases adM.1 h2 with e|h2
     . exact e.symm
     . have:=hb.1 x h1;have:=ha.1 y h2;omega
  subst hxy;congr 1;refine Pu ha.2 hb.2 λz=> ?_;constructor
  . intro hz
    rcases adM.1 ((h z).1 (by simp [hz])) with e|q
    . have:=ha.1 z hz;omega
    . exact q
  . intro hz
    rcases adM.1 ((h z).2 (by simp [hz])) with e|q
    . have:=hb.1 z hz;omega
    . exact q
theorem Ro {rd w:List Int} (hw:w.Pairwise (· < ·)):kY rd=w↔((∀ x∈w,x∈rd)∧w.length=rd.length):=by
 constructor
 . rintro rfl
   simp_all
 . rintro ⟨h1,h2⟩
   have hn:w.Nodup:=hw.imp λh e=>by omega
   have hp:w.Perm rd:=n7 hn h1 h2;have hq:(kY rd).Perm rd:=List.mergeSort_perm _ _;have hn2:(kY rd).Nodup:=(by grind)
   refine Pu ?_ hw (by grind);exact (List.pairwise_and_iff.2 ⟨Vq rd,hn2⟩).imp (by grind)
theorem o7 {α:Type} {key:α→Int} {ok:α→Bool} {a:List α} (h:fH key ok a=true):a.all ok=true:=by
 unfold fH at h;rw [adG] at h ⊢;intro x hx;obtain ⟨i,hi,rfl⟩:=afM hx;have:=h i (List.mem_range.2 hi);cases i with
 |zero=>rw [jD hi] at this;exact this
 |succ i=>rw [iM hi,aa6] at this;exact this.1
theorem GD {α:Type} {key:α→Int} {ok:α→Bool} {a:List α} (h:fH key ok a=true):(a.map key).Pairwise (· < ·):=by
 unfold fH at h;rw [adG] at h;have h1:∀ i (hi:i+1<a.length),key a[i]<key a[i+1]:=λi hi=>by
  have:=h (i+1) (List.mem_range.2 hi);rw [iM hi,aa6] at this;grind
 rw [List.pairwise_iff_getElem];have avT:∀ (m i:Nat) (hi:i+m+1<a.length),key a[i]<key a[i+m+1]:=by
  intro m
  induction m with
  |zero=>grind
  |succ m ih=>grind
 intro i j hi hj IE;simp only [afh] at hi hj;simp only [List.getElem_map];obtain ⟨m,rfl⟩:∃ m,j=i+m+1:=⟨j - i - 1,by omega⟩
 simp_all
theorem rP {ok:af→Bool} {ps:List af} (h:fH aA ok ps=true):(aN ps).Pairwise (· < ·):=
 (GD h).sublist (List.filter_sublist.map aA)
theorem NC {ok:af→Bool} {ps:List af} {rd:List Int} (h:fH aA ok ps=true):decide (kY rd=aN ps)=nb ps rd:=by
 rw [aeA,ae4,Ro (rP h)];simp_all [nb,rQ]
theorem Ax:∀ (ps:List af) (n:Nat),(∀ p∈ps,p.2.2.2.2.2.1.length≤12∧p.2.2.2.2.2.1.length % 4=0)→n+12*ps.length≤1000→
  ∃ m:Nat,ps.foldl (λn (p:af)=>abs (n+((p.2.2.2.2.2.1.length / 4:Nat):Int))) ((n:Nat):Int)=((m:Nat):Int)∧
    ps.foldl (λn (p:af)=>abs (n+((p.2.2.2.2.2.1.length:Nat):Int))) ((4*n:Nat):Int)=((4*m:Nat):Int)
 |[],n,_,_=>⟨n,rfl,rfl⟩
 |p::r,n,h,hn=>by
  have hp:=h p (by simp);simp only [aay] at hn;obtain ⟨m,h1,h2⟩:=Ax r (n+p.2.2.2.2.2.1.length / 4) (by grind) (by omega);refine ⟨m, ?_, ?_⟩
  . grind [kN]
  . rw [ae5,kN (by omega) (by omega), ← h2];congr 1;omega
theorem ND {ps:List af} (h:∀ p∈ps,p.2.2.2.2.2.1.length≤12∧p.2.2.2.2.2.1.length % 4=0) (hl:ps.length≤6):decide (se ps≤64)=decide (oL ps≤16):=by
 obtain ⟨m,h1,h2⟩:=Ax ps 0 h (by omega);unfold se oL;grind
theorem Fp (a:List cB):gX a=(decide (a.length≤6)&&fH aW fA a):=by
 have e:iF a=xy aW fA a:=by
  funext i;unfold iF xy;cases a[i]? with
  |none=>rfl
  |some x=>
   cases i with
   |zero=>rfl
   |succ j=>cases h:a[j]? <;>simp only [h]<;>rfl
 grind [gX,fH]
theorem Rp {next tick:Int} {np:Nat} {ps:List af} {os:List ai} (h:fH aA (fL next tick np ps os) ps=true):∀ p∈ps,p.2.2.2.2.2.1.length≤12∧p.2.2.2.2.2.1.length % 4=0:=λp hp=>by
 have:=adG.1 (o7 h) p hp;simp_all [fL,sg,dG]
theorem Q4 (next tick:Int) (dO:List (List ar)) (ps:List af) (os:List ai) (cA:List fq) (files:List cB) (rd out:List Int):
  iu next tick dO ps os cA files rd out=cw next tick dO ps os cA files rd out:=by
 unfold iu cw im nm cH;rw [Fp];have e1:dL ((dO.length:Nat):Int) 1 4=(decide (1≤dO.length)&&decide (dO.length≤4)):=by
  unfold dL;grind
 rw [e1];by_cases hr:fH aA (fL next tick dO.length ps os) ps=true
 . by_cases hl:ps.length≤6
   . rw [ND (Rp hr) hl,NC hr,hr]
     grind
   . simp [hl]
 grind
theorem Dr {α:Type} (p:α→Bool):∀ (a:List α) (n:Nat),n+a.length≤9223372036854775807→
  a.foldl (λ(n:Int) x=>if p x=true then abs (n+1) else n) ((n:Nat):Int)=((n+a.countP p:Nat):Int)
 |[],n,_=>rfl
 |x::r,n,h=>by
  rw [aay] at h;rw [ae5,List.countP_cons];cases hx:p x with
  |false=>
   rw [aae (by decide),Dr p r n (by omega)];simp
  |true=>
   rw [aaZ rfl,kN (by omega) (by omega)];have:=Dr p r (n+1) (by omega);rw [show ((n:Nat):Int)+1=((n+1:Nat):Int) by omega,this];simp only [agm];omega
theorem sW {os:List ai} (h:os.length≤cj) (pipe k:Int):jg os pipe k=((os.countP (oF k pipe):Nat):Int):=by
 have:=Dr (oF k pipe) os 0 (by have:os.length≤9223372036854775807:=h;omega);simp_all [jg]
theorem Pv {α:Type} {p q r:α→Bool} (h:∀ x,r x=(p x||q x)) (hd:∀ x,(p x&&q x)=false):∀ a:List α,a.countP p+a.countP q=a.countP r
 |[]=>rfl
 |x::l=>by
  have ih:=Pv h hd l;grind
theorem Ds {os:List ai} (h:os.length≤cj) (pipe:Int):(abs (jg os pipe 3+jg os pipe 4)==0)= !os.any (fY pipe):=by
 have hb:os.length≤9223372036854775807:=h;have h2:=Pv (p:=oF 3 pipe) (q:=oF 4 pipe) (r:=fY pipe) (λ_=>rfl) (by grind [oF]) os;have h3:os.countP (fY pipe)≤os.length:=List.countP_le_length;rw [sW h,sW h,kN (by omega) (by omega)];rw [aeA];simp only [afH,afq,List.any_eq_false];grind [fY,List.countP_eq_zero]
variable {v:Int}
section
abbrev cU (p:af):Int:=p.2.2.1
abbrev gQ (p:af):Int:=p.2.1
abbrev Zz (p:af):Int:=p.2.2.2.1
abbrev ug (p:af):ah:=p.2.2.2.2.1
abbrev ct (p:af):List Int:=p.2.2.2.2.2.1
abbrev aE (p:af):List Int:=p.2.2.2.2.2.2.1
abbrev mc (p:af):Int:=p.2.2.2.2.2.2.2.1
abbrev mb (p:af):Int:=p.2.2.2.2.2.2.2.2.1
abbrev bN (o:ai):Int:=o.2.1
abbrev cu (o:ai):Int:=o.2.2.1
abbrev fK (o:ai):Int:=o.2.2.2.1
abbrev bP (o:ai):Int:=o.2.2.2.2.1
def pR (ps:List af) (id:Int):Nat:=(ps.map λp=>(aE p).count id).sum
def oV (ps:List af):Nat:=(ps.map λp=>(ct p).length).sum
structure Ay (x:Int) (np:Nat) (p:af):Prop where
 st:1≤cU p∧cU p≤6
 pg:0≤Zz p∧Zz p<(np:Int)
 pW:aU (ug p).1 (ug p).2.1=true
 mem:(ct p).length≤12∧(ct p).length % 4=0∧aH (ct p)=true
 fds:(aE p).length=4
 code:b9 (mb p)=true
 dead:cU p=6→ct p=[]∧gQ p≠0∧∀ f∈aE p,f= -1
 live:cU p≠6→mb p=0∧(p.1≠x→0<(ct p).length)
 n6:cU p=1∨cU p=3∨cU p=6→mc p=0
structure Vr (tl nx:Int) (ps:List af) (os:List ai) (p:af):Prop where
 pid:1≤p.1∧p.1<nx
 fds:∀ f∈aE p,f= -1∨∃ o∈os,o.1=f
 par:gQ p=0∨(gQ p≠p.1∧∃ q∈ps,q.1=gQ p∧cU q≠6)
 Uw:cU p=2→tl<mc p
 wt:cU p=4∨cU p=5→mc p∈aE p∧∃ o∈os,o.1=mc p
structure Rq (ps:List af) (pi fi:List ah) (o:ai):Prop where
 id:0≤o.1∧o.1≤7
 refs:bP o=(pR ps o.1:Nat)∧0<pR ps o.1
 kind:bN o=1∧cu o=0∧fK o=0∨bN o=2∧(∃ f∈fi,f.1=cu o∧0≤fK o∧fK o≤(f.2.1.length:Nat))∨
  (bN o=3∨bN o=4)∧(∃ x∈pi,x.1=cu o)∧fK o=0
structure K8 (os:List ai) (x:ah):Prop where
 id:0≤x.1∧x.1≤2
 data:x.2.1.length≤4∧aH x.2.1=true
 ends:∃ o∈os,(bN o=3∨bN o=4)∧cu o=x.1
def bZ {α:Type} (key:α→Int) (a:List α):Prop:=(a.map key).Pairwise (· < ·)
structure Inv (x tl nx tk:Int) (pg:List (List ar)) (ps:List af) (os:List ai) (pi fi:List ah) (rd ou:List Int):Prop where
 OE:1≤nx∧nx≤100000
 B5:0≤tk∧tk≤1000000
 uY:cH pg=true
 Fa:ou.length≤60∧aH ou=true
 np:ps.length≤6
 MQ:oV ps≤64
 df:bZ aA ps
 loc:∀ p∈ps,Ay x pg.length p
 ctx:∀ p∈ps,Vr tl nx ps os p
 rp:bZ an os
 op:∀ o∈os,Rq ps pi fi o
 Aj:bZ aG pi
 uv:∀ x∈pi,K8 os x
 B6:bZ aW fi
 AZ:∀ f∈fi,fA f=true
 HD:rd.Perm (aN ps)
theorem bZ.nodup {α:Type} {key:α→Int} {a:List α} (h:bZ key a):(a.map key).Nodup:=h.imp λh e=>by omega
theorem bZ.inj {α:Type} {key:α→Int} {a:List α} (h:bZ key a) {x y:α} (hx:x∈a) (hy:y∈a) (e:key x=key y):x=y:=by
 have hn:=h.nodup;obtain ⟨i,hi,rfl⟩:=afM hx;obtain ⟨j,hj,rfl⟩:=afM hy;have:i=j:=by
  rcases Nat.lt_trichotomy i j with q|q|q
  . have:=List.pairwise_iff_getElem.1 hn i j (by simpa using hi) (by simpa using hj) q
    grind
  . exact q
  . have:=List.pairwise_iff_getElem.1 hn j i (by simpa using hj) (by simpa using hi) q
    grind
 grind
theorem eS {x a b:Int}:dL x a b=true↔a≤x∧x≤b:=by simp [dL]
theorem qt {α:Type} {key:α→Int} {a:List α} (h:bZ key a) {x:α} (hx:x∈a) (hk:key x=v):∃ i,iT key a v=some i∧i<a.length∧a[i]? =some x:=by
 unfold iT;cases hi:a.findIdx? (λx=>key x==v) with
 |none=>
  grind
 |some i=>
  obtain ⟨h1,h2,_⟩:=afe.1 hi;refine ⟨i,rfl,h1, ?_⟩;rw [aa7 h1];congr 1;exact h.inj (ad9 h1) hx (by grind)
theorem m3 {α:Type} {key:α→Int} {a:List α} (h:∀ x∈a,key x≠v):iT key a v=none:=by
 grind [iT,List.findIdx?_eq_none_iff]
theorem sh {α:Type} {key:α→Int} {a:List α}:0≤dM key a v↔∃ x∈a,key x=v:=by
 have:=lQ a λx=>key x==v;unfold dM iT;constructor
 . intro h
   rw [aac h] at this;obtain ⟨x,hx,hk⟩:=List.any_eq_true.1 this.symm;exact ⟨x,hx,by simpa using hk⟩
 . intro ⟨x,hx,hk⟩
   rw [List.any_eq_true.2 ⟨x,hx,by simpa using hk⟩] at this;exact adR this
theorem vm (id:Int):∀ (l:List Int) (n:Nat),n+l.length≤cj→l.foldl (λn f=>sc f id n) ((n:Nat):Int)=((n+l.count id:Nat):Int)
 |[],n,_=>rfl
 |f::r,n,h=>by
  rw [aay] at h;have hB:cj=9223372036854775807:=rfl;rw [ae5,List.count_cons];unfold sc;by_cases e:f=id
  . have h2:((n:Nat):Int)+1=((n+1:Nat):Int):=by omega
    have hb:n+1≤9223372036854775807:=by omega
    rw [aaZ e,kN (by omega) (by omega),h2];have:=vm id r (n+1) (by omega);grind [sc]
  . rw [aae e]
    have:=vm id r n (by omega);unfold sc at this;rw [this];simp [e]
theorem Rr (ps:List af) (id:Int) (h4:∀ p∈ps,(aE p).length≤4) (hl:ps.length≤6):sd ps id=((pR ps id:Nat):Int):=by
 have key:∀ (ps:List af) (n:Nat),(∀ p∈ps,(aE p).length≤4)→n+4*ps.length≤1000→ps.foldl (λn (p:af)=>p.2.2.2.2.2.2.1.foldl (λn f=>sc f id n) n) ((n:Nat):Int)=((n+pR ps id:Nat):Int):=by
  intro ps
  induction ps with
  |nil=>intro n _ _;rfl
  |cons p r ih=>
   intro n h h2;have h1:=h p (by simp);have h1':p.2.2.2.2.2.2.1.length≤4:=h1;rw [aay] at h2;have hB:cj=9223372036854775807:=rfl;rw [ae5,vm id _ n (by omega)];have hc:(aE p).count id≤(aE p).length:=List.count_le_length;have hc':p.2.2.2.2.2.2.1.count id≤p.2.2.2.2.2.2.1.length:=hc;rw [ih (n+p.2.2.2.2.2.2.1.count id) (by grind) (by omega)];grind [pR,id,Nat.add_assoc]
 have:=key ps 0 h4 (by omega);simp_all [sd]
theorem zl (ps:List af) (h:∀ p∈ps,(ct p).length≤12∧(ct p).length % 4=0) (hl:ps.length≤6):∃ m:Nat,oL ps=(m:Int)∧oV ps=4*m:=by
 have key:∀ (ps:List af) (n:Nat),(∀ p∈ps,(ct p).length≤12∧(ct p).length % 4=0)→n+12*ps.length≤1000→
   ∃ m:Nat,ps.foldl (λn (p:af)=>abs (n+((p.2.2.2.2.2.1.length / 4:Nat):Int))) ((n:Nat):Int)=((m:Nat):Int)∧4*n+oV ps=4*m:=by
  intro ps
  induction ps with
  |nil=>intro n _ _;exact ⟨n,rfl,by simp [oV]⟩
  |cons p r ih=>
   intro n h h2;have h1:p.2.2.2.2.2.1.length≤12∧p.2.2.2.2.2.1.length % 4=0:=h p (by simp);rw [aay] at h2;obtain ⟨m,e1,e2⟩:=ih (n+p.2.2.2.2.2.1.length / 4) (by grind) (by omega);refine ⟨m, ?_, ?_⟩
   . grind [kN]
   grind [oV]
 obtain ⟨m,h1,h2⟩:=key ps 0 h (by omega);exact ⟨m,h1,by omega⟩
theorem K9 {tk:Int} {os:List ai} {st:Int} {fds:List Int} {n6:Int}:gY tk os st fds n6=true↔(st=2→tk<n6)∧(st=4∨st=5→n6∈fds∧∃ o∈os,o.1=n6)∧(st≠2→¬ (st=4∨st=5)→n6=0):=by
 unfold gY;by_cases h2:st=2
 . subst h2;simp
 . rw [aae h2]
   by_cases h4:st=4∨st=5
   . rw [aaZ h4,aa6,rQ,ae4]
     unfold aM;rw [sh];exact ⟨λh=>⟨λe=>absurd e h2,λ_=>h,λ_ e=>absurd h4 e⟩,λh=>h.2.1 h4⟩
   grind
theorem Rs {ps:List af} {pid par:Int} (h:bZ aA ps):cd ps pid par=true↔par=0∨(par≠pid∧∃ q∈ps,q.1=par∧cU q≠6):=by
 unfold cd;rw [af7,afH,aa6];refine or_congr Iff.rfl (and_congr (by simp) ?_);by_cases hq:∃ q∈ps,q.1=par
 . obtain ⟨q,hq,hk⟩:=hq
   obtain ⟨i,h1,h2,h3⟩:=qt h hq hk;simp only [h1,h3];constructor
   . grind
   . intro ⟨q',hq',rr,hs⟩
     obtain rfl:q'=q:=h.inj hq' hq (rr.trans hk.symm);simpa using hs
 grind [m3,aA,absurd]
theorem NF {pi fi:List ah} {k t f:Int} (h:bZ aW fi):tC pi fi k t f=true↔k=1∧t=0∧f=0∨k=2∧(∃ x∈fi,x.1=t∧0≤f∧f≤(x.2.1.length:Nat))∨(k=3∨k=4)∧(∃ x∈pi,x.1=t)∧f=0:=by
 unfold tC;by_cases h1:k=1
 . subst h1;simp
 . rw [aae h1]
   by_cases h2:k=2
   . subst h2
     rw [aaZ rfl];have e:∀ P Q R:Prop,((2:Int)=1∧P∨(2:Int)=2∧Q∨((2:Int)=3∨(2:Int)=4)∧R)↔Q:=λP Q R=>by simp
     rw [e];by_cases hq:∃ x∈fi,x.1=t
     . obtain ⟨x,hx,hk⟩:=hq
       obtain ⟨i,a1,a2,a3⟩:=qt h hx hk;simp only [a1,a3,eS];constructor
       . intro q;exact ⟨x,hx,hk,q⟩
       . intro ⟨x',vn,rr,q⟩
         obtain rfl:x'=x:=h.inj vn hx (rr.trans hk.symm);exact q
     . rw [m3 (key:=aW) (λx hx e=>hq ⟨x,hx,e⟩)]
       constructor
       . intro q;cases q
       . intro ⟨x,a1,a2,_⟩;exact absurd ⟨x,a1,a2⟩ hq
   . rw [aae h2]
     by_cases h3:k=3∨k=4
     . rw [aaZ h3,aa6,ae4,afH]
       unfold bq;rw [sh];refine ⟨λq=> .inr (.inr ⟨h3,q⟩),λq=> ?_⟩;rcases q with ⟨e,_⟩|⟨e,_⟩|⟨_,q⟩
       . grind
       . grind
       . exact q
     grind
theorem Vs {os:List ai} {st f:Int}:rf os st f=true↔f= -1∨((∃ o∈os,o.1=f)∧st≠6):=by
 unfold rf aM;rw [af7,afH,aa6,ae4,sh,afq,beq_eq_false_iff_ne];exact Iff.rfl
theorem Vt {α:Type} {key:α→Int} {ok:α→Bool} {a:List α}:fH key ok a=true↔bZ key a∧∀ x∈a,ok x=true:=by
 constructor
 . intro h;exact ⟨GD h,adG.1 (o7 h)⟩
 . intro ⟨h1,h2⟩
   unfold fH;rw [adG];intro i hi;have hi:=List.mem_range.1 hi;cases i with
   |zero=>grind [jD,List.getElem_mem]
   |succ i=>
    rw [iM hi,aa6];refine ⟨by grind,aac ?_⟩;have:=List.pairwise_iff_getElem.1 h1 i (i+1) (by simp;omega) (by simpa using hi) (by omega);grind
end
section
theorem La {α:Type} {key:α→Int} (hi:Int):∀ {a:List α} {lo:Int},bZ key a→(∀ x∈a,lo≤key x∧key x≤hi)→lo≤hi+1→(a.length:Int)≤hi+1 - lo
 |[],lo,_,_,h=>by simp;omega
 |x::r,lo,h,hb,hl=>by
  have h':(key x::r.map key).Pairwise (· < ·):=h;rw [agp] at h';have h1:=hb x (by simp);have:=La (key:=key) hi (a:=r) (lo:=key x+1) h'.2 (by grind [List.mem_map_of_mem]) (by omega);grind
theorem mS {α:Type} {key:α→Int} {a:List α} (hi:Nat) (h:bZ key a) (hb:∀ x∈a,0≤key x∧key x≤(hi:Int)):a.length≤hi+1:=by
 have:=La (key:=key) hi (lo:=0) h hb (by omega);omega
theorem Lb {nx tk:Int} {np:Nat} {ps:List af} {os:List ai} {p:af} (h:bZ aA ps) (hn:1≤nx∧nx≤100000):fL nx tk np ps os p=true↔Ay 0 np p∧Vr tk nx ps os p:=by
 have hw:abs (nx - 1)=nx - 1:=by grind [bt]
 unfold fL sg dG;simp only [aa6,eS,adS,adG,Vs,Rs h,K9,hw];unfold vk;constructor
 . intro ⟨anq,⟨⟨⟨⟨⟨⟨⟨⟨⟨⟨⟨h1,h2⟩,h3⟩,h4⟩,h5⟩,h6⟩,h7⟩,h8⟩,h9⟩,h10⟩,h11⟩,h12⟩⟩
   refine ⟨⟨h1,h2,h3,⟨h4,h5,h6⟩,h7,h8,λe=> ?_,λe=> ?_,λe=>h11.2.2 ?_ ?_⟩,⟨⟨anq.1,by omega⟩,λf hf=> ?_,h10,h11.1,h11.2.1⟩⟩
   . grind
   . grind
   . grind
   . grind
   grind
 . intro ⟨hl,hc⟩
   have hlu:=hl.n6;refine ⟨⟨hc.pid.1,by have:=hc.pid.2;omega⟩,⟨⟨⟨⟨⟨⟨⟨⟨⟨⟨⟨hl.st,hl.pg⟩,hl.pW⟩,hl.mem.1⟩,hl.mem.2.1⟩,hl.mem.2.2⟩,hl.fds⟩,hl.code⟩,λf hf=> ?_⟩,hc.par⟩,hc.Uw,hc.wt,λe1 e2=>hlu ?_⟩, ?_⟩⟩
   . by_cases e:f= -1
     . exact .inl e
     . refine .inr ⟨(hc.fds f hf).resolve_left e,λe6=>e ((hl.dead e6).2.2 f hf)⟩
   . have:=hl.st
     grind
   . by_cases e:p.2.2.1=6
     . rw [aaZ e,aa6,ae4]
       have:=hl.dead e;grind
     . rw [aae e,aa6,ae4]
       have:=hl.live e;exact ⟨this.2 (by have:=hc.pid.1;omega),by grind⟩
theorem Lc {ps:List af} {pi fi:List ah} {o:ai} (h:bZ aW fi) (h4:∀ p∈ps,(aE p).length≤4) (hl:ps.length≤6):kX ps pi fi o=true↔Rq ps pi fi o:=by
 unfold kX ir;rw [Rr ps _ h4 hl];simp only [aa6,eS,NF h,afq,beq_eq_false_iff_ne,afH];constructor
 . intro ⟨⟨⟨h1,h2⟩,h3⟩,h5⟩
   exact ⟨h3,⟨h2,by omega⟩,h5⟩
 . intro ⟨h3,⟨h2,h1⟩,h5⟩
   grind
theorem Ld {os:List ai} {x:ah}:ko os x=true↔K8 os x:=by
 unfold ko;simp only [aa6,eS,adS,List.any_eq_true,fY,oF,af7,afH];constructor
 . intro ⟨⟨⟨h1,h2⟩,h3⟩,o,ho,h4⟩
   exact ⟨h1,⟨h2,h3⟩,o,ho,by grind⟩
 . intro ⟨h1,⟨h2,h3⟩,o,ho,h4,h5⟩
   grind
theorem GF {ps:List af} {rd:List Int} (h:bZ aA ps):nb ps rd=true↔rd.Perm (aN ps):=by
 have hn:(aN ps).Nodup:=((show (ps.map aA).Nodup from h.nodup).sublist (List.filter_sublist.map aA))
 unfold nb;rw [aa6,adG,ae4];constructor
 . intro ⟨h1,h2⟩
   exact (n7 hn (λx hx=>rQ.1 (h1 x hx)) h2).symm
 . intro q
   exact ⟨by grind [rQ],q.length_eq.symm⟩
theorem M7 {nx tk:Int} {pg:List (List ar)} {ps:List af} {os:List ai} {pi fi:List ah} {rd ou:List Int}:cw nx tk pg ps os pi fi rd ou=true↔Inv 0 tk nx tk pg ps os pi fi rd ou:=by
 unfold cw im;simp only [aa6,eS,adS,Vt];constructor
 . intro ⟨⟨⟨⟨⟨⟨⟨⟨⟨h1,h2⟩,h3⟩,h4⟩,h5⟩,h6⟩,h7⟩,⟨h8,h9⟩⟩,⟨⟨⟨⟨⟨h10,h11⟩,h12⟩,⟨h13,h14⟩⟩,⟨h15,h16⟩⟩,⟨h17,h18⟩⟩⟩,h19⟩
   have hp:∀ p∈ps,Ay 0 pg.length p∧Vr tk nx ps os p:=by grind [Lb]
   have h44:∀ p∈ps,(aE p).length≤4:=λp q=>by have:=(hp p q).1.fds;omega
   obtain ⟨m,hm,ht⟩:=zl ps (λp q=>⟨(hp p q).1.mem.1,(hp p q).1.mem.2.1⟩) h6;exact ⟨h1,h2,h3,⟨h4,h5⟩,h6,by omega,h8,λp q=>(hp p q).1,λp q=>(hp p q).2,h13,by grind [Lc],h15,by grind [Ld],h17,h18,(GF h8).1 h19⟩
 . intro h
   have h44:∀ p∈ps,(aE p).length≤4:=λp q=>by have:=(h.loc p q).fds;omega
   obtain ⟨m,hm,ht⟩:=zl ps (λp q=>⟨(h.loc p q).mem.1,(h.loc p q).mem.2.1⟩) h.np;have MQ:=h.MQ;refine ⟨⟨⟨⟨⟨⟨⟨⟨⟨h.OE,h.B5⟩,h.uY⟩,h.Fa.1⟩,h.Fa.2⟩,h.np⟩,by omega⟩,⟨h.df,λp q=>(Lb h.df h.OE).2 ⟨h.loc p q,h.ctx p q⟩⟩⟩,⟨⟨⟨⟨⟨?_, ?_⟩, ?_⟩,⟨h.rp,λo ho=>(Lc h.B6 h44 h.np).2 (h.op o ho)⟩⟩,⟨h.Aj,λx hx=>Ld.2 (h.uv x hx)⟩⟩,⟨h.B6,h.AZ⟩⟩⟩,(GF h.df).2 h.HD⟩
   . exact mS 7 h.rp λo ho=>(h.op o ho).id
   . exact mS 2 h.Aj λx hx=>(h.uv x hx).id
   . exact mS 5 h.B6 λx hx=>by have:=h.AZ x hx;unfold fA at this;rw [aa6,eS] at this;exact this.1
def ca {α:Type} (key:α→Int) (a:List α) (v:Int) (f:α→α):List α:=a.map λx=>if key x=v then f x else x
theorem sU {α:Type} {key:α→Int} {f:α→α}:∀ {a:List α},(∀ x∈a,key x≠v)→ca key a v f=a
 |[],_=>rfl
 |x::r,h=>by
  have:=sU (f:=f) λy hy=>h y (ai9 x hy);simp_all [ca]
theorem iN {α:Type} {key:α→Int} {a:List α} {p:α} (h:bZ key a) (hp:p∈a):∃ l1 l2,a=l1++p::l2∧(∀ x∈l1,key x<key p)∧(∀ x∈l2,key p<key x)∧(∀ f,ca key a (key p) f=l1++f p::l2)∧a.filter (λx=>key x != key p)=l1++l2:=by
 obtain ⟨l1,l2,rfl⟩:=List.append_of_mem hp;have h':(l1.map key++key p::l2.map key).Pairwise (· < ·):=by simpa [bZ] using h
 rw [List.pairwise_append,agp] at h';have h1:∀ x∈l1,key x<key p:=λx hx=>h'.2.2 (key x) (alD hx) (key p) (by simp);have h2:∀ x∈l2,key p<key x:=λx hx=>h'.2.1.1 (key x) (alD hx);refine ⟨l1,l2,rfl,h1,h2,λf=> ?_, ?_⟩
 . have e1:=sU (key:=key) (v:=key p) (f:=f) (a:=l1) λx hx=>by have:=h1 x hx;omega
   have e2:=sU (key:=key) (v:=key p) (f:=f) (a:=l2) λx hx=>by have:=h2 x hx;omega
   unfold ca at e1 e2 ⊢;rw [akY,ael,e1,e2,aaZ rfl]
 . rw [List.filter_append,akV]
   simp only [bne_self_eq_false,aeF,if_false];grind [List.filter_eq_self]
theorem gr {α:Type} {key:α→Int} {a:List α} {p:α} (h:bZ key a) (hi:a[i]? =some p) (y:α) {f:α→α} (hf:f p=y):a.set i y=ca key a (key p) f:=by
 have cf:i<a.length:=(by grind)
 apply ae8;intro j;unfold ca;rw [List.getElem?_set,ahU];by_cases e:i=j
 . grind
 . rw [aae e]
   cases q:a[j]? with
   |none=>rfl
   |some z=>
    have fE:key z≠key p:=λhk=>by
     have hj:j<a.length:=(by grind)
     have hn:=h.nodup;rcases Nat.lt_or_gt_of_ne e with q'|q'
     . have:=List.pairwise_iff_getElem.1 hn i j (by simpa using cf) (by simpa using hj) q'
       grind
     . have:=List.pairwise_iff_getElem.1 hn j i (by simpa using hj) (by simpa using cf) q'
       grind
    simp [fE]
theorem gl {α:Type} {key:α→Int} {a:List α} {f:α→α} {y:α}:y∈ca key a v f↔∃ x∈a,(if key x=v then f x else x)=y:=by
 unfold ca;grind
theorem eA {α:Type} {key:α→Int} {a:List α} {f:α→α} (h:bZ key a) (hf:∀ x∈a,key x=v→key (f x)=key x):bZ key (ca key a v f):=by
 have e:(ca key a v f).map key=a.map key:=by
  grind [ca,List.map_map,List.map_congr_left]
 grind [bZ]
theorem kA {α:Type} {key:α→Int} {a:List α} {f:α→α}:(ca key a v f).length=a.length:=by simp [ca]
theorem nn (a b:List af) (id:Int):pR (a++b) id=pR a id+pR b id:=by simp [pR]
theorem ph (p:af) (a:List af) (id:Int):pR (p::a) id=(aE p).count id+pR a id:=by simp [pR]
theorem lH (a b:List af):oV (a++b)=oV a+oV b:=by simp [oV]
theorem pj (p:af) (a:List af):oV (p::a)=(ct p).length+oV a:=by simp [oV]
theorem gZ (a b:List af):aN (a++b)=aN a++aN b:=by simp [aN]
theorem og (p:af) (a:List af):aN (p::a)=if cU p=1 then p.1::aN a else aN a:=by
 unfold aN mm;rw [akV];by_cases h:cU p=1
 . grind [aA]
 grind
theorem Td {ps:List af}:v∈aN ps↔∃ p∈ps,p.1=v∧cU p=1:=by
 unfold aN mm aA;rw [List.mem_map];constructor
 . grind
 . intro ⟨p,hp,e,h⟩
   grind
theorem Pw {ps:List af} {id:Int}:0<pR ps id↔∃ p∈ps,id∈aE p:=by
 induction ps with
 |nil=>simp [pR]
 |cons p r ih=>
  rw [ph];grind
end
section
def NG (v:Int) (p:af):af:=(p.1,v,p.2.2)
def nQ (s u:Int) (p:af):af:=(p.1,p.2.1,s,p.2.2.2.1,p.2.2.2.2.1,p.2.2.2.2.2.1,p.2.2.2.2.2.2.1,u,p.2.2.2.2.2.2.2.2)
def pX (c:ah) (p:af):af:=(p.1,p.2.1,p.2.2.1,p.2.2.2.1,c,p.2.2.2.2.2)
def ly (m:List Int) (p:af):af:=(p.1,p.2.1,p.2.2.1,p.2.2.2.1,p.2.2.2.2.1,m,p.2.2.2.2.2.2)
def cp (l:List Int) (p:af):af:=(p.1,p.2.1,p.2.2.1,p.2.2.2.1,p.2.2.2.2.1,p.2.2.2.2.2.1,l,p.2.2.2.2.2.2.2)
def gN (c:Int) (p:af):af:=(p.1,p.2.1,p.2.2.1,p.2.2.2.1,p.2.2.2.2.1,p.2.2.2.2.2.1,p.2.2.2.2.2.2.1,p.2.2.2.2.2.2.2.1,c,())
def rb (b:Int) (p:af):af:=(p.1,p.2.1,p.2.2.1,b,p.2.2.2.2.1,[0,0,0,0],p.2.2.2.2.2.2)
abbrev bY (ps:List af) (v:Int) (f:af→af):=ca aA ps v f
variable {x x' tl nx tk:Int} {pg:List (List ar)} {ps:List af} {os:List ai} {pi fi:List ah} {rd rd' ou:List Int} {p p':af} {f:af→af}
theorem bd (h:bZ aA ps) (hp:p∈ps) {q:af}:q∈bY ps p.1 f↔q=f p∨(q∈ps∧q.1≠p.1):=by
 rw [gl];constructor
 . intro ⟨y,hy,e⟩
   by_cases k:aA y=p.1
   . obtain rfl:y=p:=h.inj hy hp k
     grind
   . rw [aae k] at e
     subst e;exact .inr ⟨hy,k⟩
 . rintro (rfl|⟨hq,k⟩)
   . exact ⟨p,hp,aaZ rfl⟩
   . exact ⟨q,hq,aae k⟩
theorem Px (h:bZ aA ps) (hp:p∈ps) (id:Int):pR (bY ps p.1 f) id+(aE p).count id=pR ps id+(aE (f p)).count id:=by
 obtain ⟨l1,l2,e,_,_,hu,_⟩:=iN h hp;have Rt:bY ps p.1 f=l1++f p::l2:=hu f;rw [Rt,e,nn,nn,ph,ph];omega
theorem Py (h:bZ aA ps) (hp:p∈ps):oV (bY ps p.1 f)+(ct p).length=oV ps+(ct (f p)).length:=by
 obtain ⟨l1,l2,e,_,_,hu,_⟩:=iN h hp;have Rt:bY ps p.1 f=l1++f p::l2:=hu f;rw [Rt,e,lH,lH,pj,pj];omega
theorem IF (h:bZ aA ps) (hp:p∈ps) (hk:(f p).1=p.1) (hs:cU (f p)=1↔cU p=1):aN (bY ps p.1 f)=aN ps:=by
 obtain ⟨l1,l2,e,_,_,hu,_⟩:=iN h hp;have Rt:bY ps p.1 f=l1++f p::l2:=hu f;rw [Rt,e,gZ,gZ,og,og,hk];grind
theorem ajb (h:bZ aA ps) (hp:p∈ps) (hs:cU (f p)≠1) (h1:cU p=1):(aN ps).Perm (p.1::aN (bY ps p.1 f)):=by
 obtain ⟨l1,l2,e,_,_,hu,_⟩:=iN h hp;have Rt:bY ps p.1 f=l1++f p::l2:=hu f;rw [Rt,e,gZ,gZ,og,og,aaZ h1,aae hs];grind
theorem aoj (h:bZ aA ps) (hp:p∈ps) (hk:(f p).1=p.1) (hs:cU (f p)=1) (h1:cU p≠1):(aN (bY ps p.1 f)).Perm (p.1::aN ps):=by
 obtain ⟨l1,l2,e,_,_,hu,_⟩:=iN h hp;have Rt:bY ps p.1 f=l1++f p::l2:=hu f;rw [Rt,e,gZ,gZ,og,og,aaZ hs,aae h1,hk];grind
theorem Rq.mono {ps':List af} {pi' MF:List ah} {o:ai} (h:Rq ps pi fi o) (hc:pR ps' o.1=pR ps o.1) (uv:∀ x∈pi,bN o=3∨bN o=4→x.1=cu o→∃ x'∈pi',x'.1=x.1) (AZ:∀ y∈fi,bN o=2→y.1=cu o→∃ y'∈MF,y'.1=y.1∧y.2.1.length≤y'.2.1.length):Rq ps' pi' MF o:=by
 refine ⟨h.id,by rw [hc];exact h.refs, ?_⟩;rcases h.kind with q|⟨k,y,hy,e,h1,h2⟩|⟨k,⟨x,hx,e⟩,h1⟩
 . exact .inl q
 . grind
 grind
theorem Inv.upd (h:Inv x tl nx tk pg ps os pi fi rd ou) (hp:p∈ps) (hk:(f p).1=p.1) (hx:∀ q∈ps,q.1≠p.1→Ay x' pg.length q) (hl:Ay x' pg.length (f p)) (JF:aE (f p)=aE p)
  (ZY:gQ (f p)=gQ p∨gQ (f p)=0) (hz:cU (f p)=6→∀ q∈ps,gQ q≠p.1) (hs:cU (f p)=2→tl<mc (f p)) (hw:cU (f p)=4∨cU (f p)=5→mc (f p)∈aE p∧∃ o∈os,o.1=mc (f p))
  (ht:oV ps+(ct (f p)).length≤64+(ct p).length) (hr:rd'.Perm (aN (bY ps p.1 f))):Inv x' tl nx tk pg (bY ps p.1 f) os pi fi rd' ou:=by
 have ZA:∀ v y,y≠p.1∨y=p.1→v=0∨(v≠y∧∃ q∈ps,q.1=v∧cU q≠6)→(v=p.1→cU (f p)≠6)→v=0∨(v≠y∧∃ q∈bY ps p.1 f,q.1=v∧cU q≠6):=λv y _ hv h6=>by
  rcases hv with e|⟨e,q,hq,h1,h2⟩
  . exact .inl e
  . refine .inr ⟨e, ?_⟩
    by_cases k:q.1=p.1
    . exact ⟨f p,(bd h.df hp).2 (.inl rfl),by grind,h6 (h1.symm.trans k)⟩
    . exact ⟨q,(bd h.df hp).2 (.inr ⟨hq,k⟩),h1,h2⟩
 refine ⟨h.OE,h.B5,h.uY,h.Fa,by rw [kA];exact h.np, ?_,eA h.df λq hq k=> ?_,λq hq=> ?_,λq hq=> ?_,h.rp,λo ho=> ?_,h.Aj,h.uv,h.B6,h.AZ,hr⟩
 . have:=Py (f:=f) h.df hp;omega
 . obtain rfl:=h.df.inj hq hp k;exact hk
 . rcases (bd h.df hp).1 hq with rfl|⟨hq,k⟩
   . exact hl
   grind
 . rcases (bd h.df hp).1 hq with rfl|⟨hq,k⟩
   . have hc:=h.ctx p hp
     refine ⟨by rw [hk];exact hc.pid,by rw [JF];exact hc.fds, ?_,hs,by grind⟩;rcases ZY with e|e
     . rw [e,hk]
       exact ZA _ _ (.inr rfl) hc.par (by grind)
     grind
   . have hc:=h.ctx q hq
     exact ⟨hc.pid,hc.fds,ZA _ _ (.inl k) hc.par λe h6=>hz h6 q hq e,hc.Uw,hc.wt⟩
 . refine (h.op o ho).mono ?_ (by grind) (by grind)
   have:=Px (f:=f) h.df hp o.1;grind
theorem Inv.aa0 (h:Inv x tl nx tk pg ps os pi fi rd ou) (hp:p∈ps) (hk:(f p).1=p.1) (hl:Ay x pg.length (f p)) (JF:aE (f p)=aE p) (vP:cU (f p)=cU p) (hun:mc (f p)=mc p)
  (ZY:gQ (f p)=gQ p∨gQ (f p)=0) (ht:oV ps+(ct (f p)).length≤64+(ct p).length):Inv x tl nx tk pg (bY ps p.1 f) os pi fi rd ou:=by
 have hc:=h.ctx p hp;refine h.upd hp hk (λq hq _=>h.loc q hq) hl JF ZY (λe q hq e'=> ?_) (by rw [vP,hun];exact hc.Uw) (by rw [vP,hun];exact hc.wt) ht ?_
 . rw [vP] at e
   rcases (h.ctx q hq).par with e0|⟨_,r,hr,h1,h2⟩
   . have:=hc.pid.1;omega
   . obtain rfl:r=p:=h.df.inj hr hp (h1.trans e')
     exact h2 e
 . rw [IF h.df hp hk (by rw [vP])];exact h.HD
theorem Inv.vp (h:Inv x tl nx tk pg ps os pi fi rd ou) (hp:p∈ps):(ct p).length≤oV ps∧oV ps≤64:=by
 obtain ⟨l1,l2,e,_⟩:=iN h.df hp;refine ⟨?_,h.MQ⟩;rw [e,lH,pj];omega
theorem Inv.pW (h:Inv x tl nx tk pg ps os pi fi rd ou) (hp:p∈ps) {c:ah} (hc:aU c.1 c.2.1=true):Inv x tl nx tk pg (bY ps p.1 (pX c)) os pi fi rd ou:=by
 have l:=h.loc p hp;exact h.aa0 hp rfl ⟨l.st,l.pg,hc,l.mem,l.fds,l.code,l.dead,l.live,l.n6⟩ rfl rfl rfl (.inl rfl) (by have:=(h.vp hp).2;show oV ps+(ct p).length≤_;omega)
theorem Inv.mem (h:Inv x tl nx tk pg ps os pi fi rd ou) (hp:p∈ps) {m:List Int} (hm:m.length≤12∧m.length % 4=0∧aH m=true) (h0:cU p≠6) (h1:0<m.length) (ht:oV ps+m.length≤64+(ct p).length):Inv x tl nx tk pg (bY ps p.1 (ly m)) os pi fi rd ou:=by
 have l:=h.loc p hp;exact h.aa0 hp rfl ⟨l.st,l.pg,l.pW,hm,l.fds,l.code,λe=>absurd e h0,λe=>⟨(l.live e).1,λ_=>h1⟩,l.n6⟩ rfl rfl rfl (.inl rfl) ht
theorem Inv.exec (h:Inv x tl nx tk pg ps os pi fi rd ou) (hp:p∈ps) {b:Int} (hb:0≤b∧b<(pg.length:Int)) (h0:cU p≠6) (h1:4≤(ct p).length):Inv x tl nx tk pg (bY ps p.1 (rb b)) os pi fi rd ou:=by
 have l:=h.loc p hp;exact h.aa0 hp rfl ⟨l.st,hb,l.pW,by show (4:Nat)≤12∧4 % 4=0∧aH [0,0,0,0]=true;decide,l.fds,l.code,λe=>absurd e h0,λe=>⟨(l.live e).1,λ_=>by show 0<4;omega⟩,l.n6⟩ rfl rfl rfl (.inl rfl) (by have:=(h.vp hp).2;show oV ps+4≤_;omega)
theorem Inv.arK (h:Inv x tl nx tk pg ps os pi fi rd ou) (hp:p∈ps) (h0:cU p≠6):Inv x tl nx tk pg (bY ps p.1 (NG 0)) os pi fi rd ou:=by
 have l:=h.loc p hp;exact h.aa0 hp rfl ⟨l.st,l.pg,l.pW,l.mem,l.fds,l.code,λe=>absurd e h0,l.live,l.n6⟩ rfl rfl rfl (.inr rfl) (by have:=(h.vp hp).2;show oV ps+(ct p).length≤_;omega)
theorem Inv.uW (h:Inv x tl nx tk pg ps os pi fi rd ou) (hp:p∈ps) (h0:cU p≠6) (h1:cU p≠1):Inv x tl nx tk pg (bY ps p.1 (nQ 1 0)) os pi fi (rd++[p.1]) ou:=by
 have l:=h.loc p hp;refine h.upd hp rfl (λq hq _=>h.loc q hq) ⟨by show (1:Int)≤1∧(1:Int)≤6;omega,l.pg,l.pW,l.mem,l.fds,l.code,λe=> ?_,λ_=>l.live h0,λ_=>rfl⟩ rfl (.inl rfl) (λe=> ?_) (λe=> ?_) (λe=> ?_) (by have:=(h.vp hp).2;show oV ps+(ct p).length≤_;omega) ?_
 . exact absurd (show (1:Int)=6 from e) (by omega)
 . exact absurd (show (1:Int)=6 from e) (by omega)
 . exact absurd (show (1:Int)=2 from e) (by omega)
 . exact absurd (show (1:Int)=4∨(1:Int)=5 from e) (by omega)
 . refine List.Perm.trans ?_ (aoj h.df hp rfl rfl h1).symm
   exact (List.perm_append_singleton _ _).trans (List.Perm.cons _ h.HD)
theorem Inv.ready (h:Inv x tl nx tk pg ps os pi fi rd ou) (hp:p∈ps) (h1:cU p=1):p.1∈rd:=h.HD.mem_iff.2 (Td.2 ⟨p,hp,rfl,h1⟩)
theorem Inv.off (h:Inv x tl nx tk pg ps os pi fi rd ou) (hp:p∈ps) (h1:cU p=1) (hs:cU (f p)≠1):(rd.erase p.1).Perm (aN (bY ps p.1 f)):=by
 have e:=(List.perm_cons_erase (h.ready hp h1)).symm.trans (h.HD.trans (ajb h.df hp hs h1));simp_all
theorem Inv.block (h:Inv x tl nx tk pg ps os pi fi rd ou) (hp:p∈ps) {s u:Int} (h1:cU p=1) (hs:2≤s∧s≤5) (h2:s=2→tl<u) (h3:s=3→u=0) (h4:s=4∨s=5→u∈aE p∧∃ o∈os,o.1=u):Inv x tl nx tk pg (bY ps p.1 (nQ s u)) os pi fi (rd.erase p.1) ou:=by
 have l:=h.loc p hp;refine h.upd hp rfl (λq hq _=>h.loc q hq) ⟨by show (1:Int)≤s∧s≤6;omega,l.pg,l.pW,l.mem,l.fds,l.code,λe=> ?_,λ_=>l.live (by omega),λe=> ?_⟩ rfl (.inl rfl) (λe=> ?_) h2 h4 (by have:=(h.vp hp).2;show oV ps+(ct p).length≤_;omega) (h.off hp h1 ?_)
 . have e':s=6:=e;omega
 . have e':s=1∨s=3∨s=6:=e
   exact h3 (by omega)
 . have e':s=6:=e;omega
 . show s≠1;omega
theorem Inv.drop (h:Inv 0 tl nx tk pg ps os pi fi rd ou) (hp:p∈ps) (h1:cU p=1):Inv p.1 tl nx tk pg (bY ps p.1 (ly [])) os pi fi rd ou:=by
 have l:=h.loc p hp;have hc:=h.ctx p hp;have ha:∀ q∈ps,Ay p.1 pg.length q∨q.1=p.1:=λq hq=>by
  have l:=h.loc q hq;have:=(h.ctx q hq).pid.1;exact .inl ⟨l.st,l.pg,l.pW,l.mem,l.fds,l.code,l.dead,λe=>⟨(l.live e).1,λ_=>(l.live e).2 (by omega)⟩,l.n6⟩
 refine h.upd hp rfl (by grind) ⟨l.st,l.pg,l.pW,⟨afI _,rfl,rfl⟩,l.fds,l.code,λe=>absurd (h1.symm.trans e) (by omega),λe=>⟨(l.live e).1,λk=>absurd rfl k⟩,l.n6⟩ rfl (.inl rfl) (λe=>absurd (h1.symm.trans e) (by omega)) hc.Uw hc.wt (by have:=(h.vp hp).2;show oV ps+0≤_;omega) ?_;rw [IF h.df hp rfl Iff.rfl];exact h.HD
theorem Inv.ajc (h:Inv p.1 tl nx tk pg ps os pi fi rd ou) (hp:p∈ps) {c:Int} (h1:cU p=1) (hm:ct p=[]) (hf:∀ v∈aE p,v= -1) (h0:gQ p≠0) (hn:∀ q∈ps,gQ q≠p.1) (hw:b9 c=true):
  Inv 0 tl nx tk pg (bY ps p.1 λp=>gN c (nQ 6 0 p)) os pi fi (rd.erase p.1) ou:=by
 have l:=h.loc p hp;refine h.upd hp rfl (λq hq k=> ?_) ⟨by show (1:Int)≤6∧(6:Int)≤6;omega,l.pg,l.pW,l.mem,l.fds,hw,λ_=>⟨hm,h0,hf⟩,λe=>absurd rfl e,λ_=>rfl⟩ rfl (.inl rfl) (λ_=>hn) (λe=> ?_) (λe=> ?_) (by have:=(h.vp hp).2;show oV ps+(ct p).length≤_;omega) (h.off hp h1 ?_)
 . have l:=h.loc q hq
   exact ⟨l.st,l.pg,l.pW,l.mem,l.fds,l.code,l.dead,λe=>⟨(l.live e).1,λ_=>(l.live e).2 k⟩,l.n6⟩
 . exact absurd (show (6:Int)=2 from e) (by omega)
 . exact absurd (show (6:Int)=4∨(6:Int)=5 from e) (by omega)
 . show (6:Int)≠1;omega
abbrev uN (ps:List af) (v:Int):=ps.filter λq=>aA q != v
theorem jy {q:af}:q∈uN ps v↔q∈ps∧q.1≠v:=by
 grind [aA]
theorem Inv.rm (h:Inv x tl nx tk pg ps os pi fi rd ou) (hp:p∈ps) (hf:∀ v∈aE p,v= -1) (hn:∀ q∈ps,gQ q≠p.1) (hx:∀ q∈ps,q.1≠p.1→Ay x' pg.length q) (hr:rd'.Perm (aN (uN ps p.1))):
  Inv x' tl nx tk pg (uN ps p.1) os pi fi rd' ou:=by
 obtain ⟨l1,l2,e,_,_,_,E9⟩:=iN h.df hp;have Vu:uN ps p.1=l1++l2:=E9;have gu:(uN ps p.1).Sublist ps:=List.filter_sublist;refine ⟨h.OE,h.B5,h.uY,h.Fa,adQ gu.length_le h.np, ?_, ?_,λq hq=> ?_,λq hq=> ?_,h.rp,λo ho=> ?_,h.Aj,h.uv,h.B6,h.AZ,hr⟩
 . have:=h.MQ
   rw [Vu,lH];rw [e,lH,pj] at this;omega
 . exact (show (ps.map aA).Pairwise (· < ·) from h.df).sublist (gu.map aA)
 . exact hx q (jy.1 hq).1 (jy.1 hq).2
 . have hc:=h.ctx q (jy.1 hq).1
   refine ⟨hc.pid,hc.fds, ?_,hc.Uw,hc.wt⟩;rcases hc.par with e|⟨e,r,hr,h1,h2⟩
   . exact .inl e
   . exact .inr ⟨e,r,jy.2 (by grind),h1,h2⟩
 . refine (h.op o ho).mono ?_ (by grind) (by grind)
   have hz:(aE p).count o.1=0:=List.count_eq_zero.2 λhm=>by have:=hf _ hm;have:=(h.op o ho).id;omega
   rw [Vu]
   conv=>rhs;rw [e]
   rw [nn,nn,ph,hz];omega
theorem Inv.aok (h:Inv x tl nx tk pg ps os pi fi rd ou) (hp:p∈ps) (h6:cU p=6):∀ q∈ps,gQ q≠p.1:=λq hq e=>by
 have:=(h.ctx p hp).pid.1;rcases (h.ctx q hq).par with e0|⟨_,r,hr,h1,h2⟩
 . omega
 . obtain rfl:r=p:=h.df.inj hr hp (h1.trans e)
   exact h2 h6
theorem Inv.af2 (h:Inv x tl nx tk pg ps os pi fi rd ou) (hp:p∈ps) (h6:cU p=6):Inv x tl nx tk pg (uN ps p.1) os pi fi rd ou:=by
 refine h.rm hp ((h.loc p hp).dead h6).2.2 (h.aok hp h6) (λq hq _=>h.loc q hq) ?_;obtain ⟨l1,l2,e,_,_,_,E9⟩:=iN h.df hp;have Vu:uN ps p.1=l1++l2:=E9;have:=h.HD;rw [e,gZ,og,aae, ← gZ] at this;grind
theorem Inv.gone (h:Inv p.1 tl nx tk pg ps os pi fi rd ou) (hp:p∈ps) (h1:cU p=1) (hf:∀ v∈aE p,v= -1) (hn:∀ q∈ps,gQ q≠p.1):Inv 0 tl nx tk pg (uN ps p.1) os pi fi (rd.erase p.1) ou:=by
 refine h.rm hp hf hn (λq hq k=> ?_) ?_
 . have l:=h.loc q hq
   exact ⟨l.st,l.pg,l.pW,l.mem,l.fds,l.code,l.dead,λe=>⟨(l.live e).1,λ_=>(l.live e).2 k⟩,l.n6⟩
 . obtain ⟨l1,l2,e,_,_,_,E9⟩:=iN h.df hp
   have Vu:uN ps p.1=l1++l2:=E9;have e1:=(List.perm_cons_erase (h.ready hp h1)).symm.trans h.HD;rw [Vu];rw [e,gZ,og,aaZ h1] at e1;have e2:=e1.trans List.perm_middle;rw [← gZ] at e2;exact (List.perm_cons p.1).1 e2
end
section
variable {x x' tl nx tk:Int} {pg:List (List ar)} {ps:List af} {os rh:List ai} {pi fi pi' MF:List ah} {rd rd' ou:List Int} {p p':af} {o:ai}
def dg (r:Int) (o:ai):ai:=(o.1,o.2.1,o.2.2.1,o.2.2.2.1,r,())
def yD (v:Int) (o:ai):ai:=(o.1,o.2.1,o.2.2.1,v,o.2.2.2.2)
def gb (d:List Int) (y:ah):ah:=(y.1,d,())
def bS {α:Type} (key:α→Int) (y:α):List α→List α
 |[]=>[y]
 |x::r=>if key y<key x then y::x::r else x::bS key y r
theorem dK {α:Type} {key:α→Int} {y z:α}:∀ {a:List α},z∈bS key y a↔z=y∨z∈a
 |[]=>by simp [bS]
 |x::r=>by
  unfold bS;split
  . simp
  . rw [adM,dK,adM]
    constructor<;>(rintro (h|h|h)<;>simp [h])
theorem iJ {α:Type} {key:α→Int} {y:α}:∀ {a:List α},bZ key a→(∀ x∈a,key x≠key y)→bZ key (bS key y a)
 |[],_,_=>by simp [bS,bZ]
 |x::r,h,hn=>by
  have h':(key x::r.map key).Pairwise (· < ·):=h;rw [agp] at h';unfold bS;have hx:=hn x (by simp);split
  . rename_i cf
    show (key y::key x::r.map key).Pairwise (· < ·);rw [agp,agp];grind
  . show (key x::(bS key y r).map key).Pairwise (· < ·)
    rw [agp];refine ⟨λv hv=> ?_,iJ h'.2 (by grind)⟩;obtain ⟨z,hz,rfl⟩:=List.mem_map.1 hv;rcases dK.1 hz with rfl|hz
    . omega
    simp_all
theorem jS {α:Type} {key:α→Int} {y:α}:∀ {a:List α},(bS key y a).length=a.length+1
 |[]=>rfl
 |x::r=>by
  unfold bS;split
  . rfl
  . rw [aay,jS,aay]
theorem NH {l:List Int} {k:Nat} {w:Int} (h:l[k]? =some w) (v y:Int):(l.set k v).count y+(if w=y then 1 else 0)=l.count y+(if v=y then 1 else 0):=by
 grind
theorem IG (h:bZ aA ps) (hp:p∈ps) {k:Nat} {w:Int} (hk:(aE p)[k]? =some w) (v y:Int):pR (bY ps p.1 (cp ((aE p).set k v))) y+(if w=y then 1 else 0)=pR ps y+(if v=y then 1 else 0):=by
 have h1:=Px (f:=cp ((aE p).set k v)) h hp y;have h2:=NH hk v y;have h3:aE (cp ((aE p).set k v) p)=(aE p).set k v:=rfl;grind
theorem Inv.Vv (h:Inv x tl nx tk pg ps os pi fi rd ou) (hp:p∈ps) (h1:cU p=1) {l:List Int} (hl:l.length=4) (JF:∀ v,v≠ -1→0<pR (bY ps p.1 (cp l)) v→∃ o∈rh,o.1=v) (rp:bZ an rh)
  (Zg:∀ o∈rh,Rq (bY ps p.1 (cp l)) pi' fi o) (Aj:bZ aG pi') (uv:∀ x∈pi',K8 rh x):Inv x tl nx tk pg (bY ps p.1 (cp l)) rh pi' fi rd ou:=by
 have hc:=h.ctx p hp;have ajd:∀ q∈bY ps p.1 (cp l),∀ v∈aE q,v= -1∨∃ o∈rh,o.1=v:=λq hq v hv=>by
  by_cases e:v= -1
  . exact .inl e
  . exact .inr (JF v e (Pw.2 ⟨q,hq,hv⟩))
 have ZA:∀ v y,v=0∨(v≠y∧∃ q∈ps,q.1=v∧cU q≠6)→v=0∨(v≠y∧∃ q∈bY ps p.1 (cp l),q.1=v∧cU q≠6):=λv y hv=>by
  rcases hv with e|⟨e,q,hq,e1,e2⟩
  . exact .inl e
  . refine .inr ⟨e, ?_⟩
    by_cases k:q.1=p.1
    . obtain rfl:=h.df.inj hq hp k
      exact ⟨cp l q,(bd h.df hp).2 (.inl rfl),e1,e2⟩
    . exact ⟨q,(bd h.df hp).2 (.inr ⟨hq,k⟩),e1,e2⟩
 refine ⟨h.OE,h.B5,h.uY,h.Fa,by rw [kA];exact h.np, ?_,eA h.df λq _ _=>rfl,λq hq=> ?_,λq hq=> ?_,rp,Zg,Aj,uv,h.B6,h.AZ, ?_⟩
 . have h1:=Py (f:=cp l) h.df hp;have h2:=h.MQ
   have h3:ct (cp l p)=ct p:=rfl;grind
 . rcases (bd h.df hp).1 hq with rfl|⟨hq,_⟩
   . have l0:=h.loc p hp
     exact ⟨l0.st,l0.pg,l0.pW,l0.mem,hl,l0.code,λe=>absurd (h1.symm.trans e) (by omega),l0.live,l0.n6⟩
   . exact h.loc q hq
 . rcases (bd h.df hp).1 hq with rfl|⟨hq',_⟩
   . exact ⟨hc.pid,ajd _ hq,ZA _ _ hc.par,hc.Uw,λe=>absurd (show cU p=4∨cU p=5 from e) (by omega)⟩
   . have hc:=h.ctx q hq'
     refine ⟨hc.pid,ajd _ hq,ZA _ _ hc.par,hc.Uw,λe=> ?_⟩;obtain ⟨hm,o,ho,e'⟩:=hc.wt e;refine ⟨hm,(ajd q hq _ hm).resolve_left λe2=> ?_⟩;have:=(h.op o ho).id;omega
 . rw [IF (f:=cp l) h.df hp rfl Iff.rfl];exact h.HD
theorem Inv.BA (h:Inv x tl nx tk pg ps os pi fi rd ou) (hv:v≠ -1) (hc:0<pR ps v):∃ o∈os,o.1=v:=by
 obtain ⟨q,hq,hm⟩:=Pw.1 hc;exact ((h.ctx q hq).fds v hm).resolve_left hv
theorem iv (h:bZ an os) (ho:o∈os) {f:ai→ai} {o':ai}:o'∈ca an os o.1 f↔o'=f o∨(o'∈os∧o'.1≠o.1):=by
 rw [gl];constructor
 . intro ⟨y,hy,e⟩
   by_cases k:an y=o.1
   . obtain rfl:y=o:=h.inj hy ho k
     grind
   . rw [aae k] at e
     subst e;exact .inr ⟨hy,k⟩
 . rintro (rfl|⟨hq,k⟩)
   . exact ⟨o,ho,aaZ rfl⟩
   . exact ⟨o',hq,aae k⟩
theorem K8.upd (hr:bZ an os) (ho:o∈os) {f:ai→ai} (hk:(f o).1=o.1) (h2:bN (f o)=bN o) (h3:cu (f o)=cu o) {y:ah} (h:K8 os y):K8 (ca an os o.1 f) y:=by
 obtain ⟨e,he,k,t⟩:=h.ends;refine ⟨h.id,h.data, ?_⟩;by_cases q:e.1=o.1
 . obtain rfl:=hr.inj he ho q
   exact ⟨f e,(iv hr he).2 (.inl rfl),by rw [h2];exact k,by rw [h3];exact t⟩
 . exact ⟨e,(iv hr ho).2 (.inr ⟨he,q⟩),k,t⟩
theorem Inv.adH (h:Inv x tl nx tk pg ps os pi fi rd ou) (hp:p∈ps) (h1:cU p=1) {k:Nat} {w:Int} (hk:(aE p)[k]? =some w) (ho:o∈os) (hw:w=o.1∧v= -1∧bP o≠1∨w= -1∧v=o.1) {r:Int} (hr:r=bP o+(if v= -1 then -1 else 1)):
  Inv x tl nx tk pg (bY ps p.1 (cp ((aE p).set k v))) (ca an os o.1 (dg r)) pi fi rd ou:=by
 have fg:=(h.op o ho).id;have Sz:=(h.op o ho).refs;have hN:=IG h.df hp hk v;refine h.Vv hp h1 (by rw [afC];exact (h.loc p hp).fds) (λy hy hc=> ?_) (eA h.rp λ_ _ _=>rfl) (λo' E8=> ?_) h.Aj λy hy=>K8.upd h.rp ho rfl rfl rfl (h.uv y hy)
 . have hex:∃ e∈os,e.1=y:=by
    by_cases e:y=o.1
    . grind
    . refine h.BA hy ?_
      grind
   obtain ⟨e,he,rfl⟩:=hex;by_cases q:e.1=o.1
   . exact ⟨dg r o,(iv h.rp ho).2 (.inl rfl),q.symm⟩
   . exact ⟨e,(iv h.rp ho).2 (.inr ⟨he,q⟩),rfl⟩
 . rcases (iv h.rp ho).1 E8 with rfl|⟨E8,q⟩
   . have ho1:=h.op o ho
     refine ⟨ho1.id, ?_,ho1.kind⟩;have:=hN o.1;show r=((pR _ o.1:Nat):Int)∧0<pR _ o.1;grind
   . refine (h.op o' E8).mono ?_ (by grind) (by grind)
     have h2:=hN o'.1;have h3:=(h.op o' E8).id;grind
abbrev Fb (os:List ai) (v:Int):=os.filter λo=>an o != v
theorem qu {e:ai}:e∈Fb os v↔e∈os∧e.1≠v:=by
 grind [an]
abbrev OI (a:List ah) (v:Int):=a.filter λy=>aG y != v
theorem BB {a:List ah} {y:ah}:y∈OI a v↔y∈a∧y.1≠v:=by
 grind [aG]
theorem Inv.shut (h:Inv x tl nx tk pg ps os pi fi rd ou) (hp:p∈ps) (h1:cU p=1) {k:Nat} (hk:(aE p)[k]? =some o.1) (ho:o∈os) (h0:bP o=1) (gu:pi'.Sublist pi) (aeH:∀ e∈os,e.1≠o.1→bN e=3∨bN e=4→∀ y∈pi,y.1=cu e→y∈pi')
  (GG:∀ y∈pi',(bN o=3∨bN o=4)→y.1=cu o→∃ e∈os,e.1≠o.1∧(bN e=3∨bN e=4)∧cu e=y.1):Inv x tl nx tk pg (bY ps p.1 (cp ((aE p).set k (-1)))) (Fb os o.1) pi' fi rd ou:=by
 have fg:=(h.op o ho).id;have Sz:=(h.op o ho).refs;have hN:=IG h.df hp hk (-1);refine h.Vv hp h1 (by rw [afC];exact (h.loc p hp).fds) (λy hy hc=> ?_) ((show (os.map an).Pairwise (· < ·) from h.rp).sublist (List.filter_sublist.map an)) (λo' E8=> ?_) ((show (pi.map aG).Pairwise (· < ·) from h.Aj).sublist (gu.map aG)) λy hy=> ?_
 . have yr:=hN y
   rw [aae (show ¬ (-1:Int)=y by omega)] at yr;have fE:y≠o.1:=by grind
   obtain ⟨e,he,rfl⟩:=h.BA hy (by omega);exact ⟨e,qu.2 ⟨he,fE⟩,rfl⟩
 . obtain ⟨E8,q⟩:=qu.1 E8
   refine (h.op o' E8).mono ?_ (by grind) (by grind);have h2:=hN o'.1;have h3:=(h.op o' E8).id;rw [aae,aae] at h2;omega
 . have JJ:=h.uv y (gu.subset hy)
   obtain ⟨e,he,k1,t1⟩:=JJ.ends;refine ⟨JJ.id,JJ.data, ?_⟩;by_cases q:e.1=o.1
   . obtain rfl:=h.rp.inj he ho q
     obtain ⟨e2,h2,h3,h4,h5⟩:=GG y hy k1 t1.symm;exact ⟨e2,qu.2 ⟨h2,h3⟩,h4,h5⟩
   . exact ⟨e,qu.2 ⟨he,q⟩,k1,t1⟩
theorem Inv.af4 (h:Inv x tl nx tk pg ps os pi fi rd ou) (hp:p∈ps) (h1:cU p=1) {k:Nat} (hk:(aE p)[k]? =some (-1)) (fg:0≤o.1∧o.1≤7) (kQ:∀ e∈os,e.1≠o.1) (hr:bP o=1)
  (aol:bN o=2∧(∃ f∈fi,f.1=cu o∧0≤fK o∧fK o≤(f.2.1.length:Nat))∨(bN o=3∨bN o=4)∧(∃ x∈pi',x.1=cu o)∧fK o=0) (uv:∀ y∈pi',y∈pi∨(y.1=cu o∧(bN o=3∨bN o=4)∧(0≤y.1∧y.1≤2)∧y.2.1=[])) (gu:∀ y∈pi,y∈pi') (Aj:bZ aG pi'):
  Inv x tl nx tk pg (bY ps p.1 (cp ((aE p).set k o.1))) (bS an o os) pi' fi rd ou:=by
 have hN:=IG h.df hp hk o.1;have hz:pR ps o.1=0:=by
  rcases Nat.eq_zero_or_pos (pR ps o.1) with e|e
  . exact e
  . obtain ⟨e',he,q⟩:=h.BA (by omega) e
    exact absurd q (kQ e' he)
 refine h.Vv hp h1 (by rw [afC];exact (h.loc p hp).fds) (λy hy hc=> ?_) (iJ h.rp kQ) (λo' E8=> ?_) Aj λy hy=> ?_
 . by_cases e:y=o.1
   . exact ⟨o,dK.2 (.inl rfl),e.symm⟩
   . have yr:=hN y
     rw [aae,aae] at yr;obtain ⟨e',he,rfl⟩:=h.BA hy (by omega);exact ⟨e',dK.2 (.inr he),rfl⟩
 . rcases dK.1 E8 with rfl|E8
   . have:=hN o'.1
     rw [aae,aaZ rfl] at this;exact ⟨fg,by omega, .inr aol⟩
   . refine (h.op o' E8).mono ?_ (λy hy hk e=>⟨y,gu y hy,rfl⟩) λy hy _ _=>⟨y,hy,rfl,adK _⟩
     have h2:=hN o'.1;have h3:=(h.op o' E8).id;have h4:=kQ o' E8;rw [aae,aae] at h2;omega
 . rcases uv y hy with JJ|⟨e1,e2,e3,e4⟩
   . have JJ:=h.uv y JJ
     obtain ⟨e,he,k1,t1⟩:=JJ.ends;exact ⟨JJ.id,JJ.data,e,dK.2 (.inr he),k1,t1⟩
   . exact ⟨e3,by rw [e4];exact ⟨afI _,rfl⟩,o,dK.2 (.inl rfl),e2,e1.symm⟩
theorem Inv.perm (h:Inv x tl nx tk pg ps os pi fi rd ou) (hr:rd'.Perm rd):Inv x tl nx tk pg ps os pi fi rd' ou:={ h with HD:=hr.trans h.HD }
theorem Inv.out (h:Inv x tl nx tk pg ps os pi fi rd ou) (hl:ou.length<60) (hv:b9 v=true):Inv x tl nx tk pg ps os pi fi rd (ou++[v]):=
 { h with Fa:=⟨by grind,by have:=h.Fa.2;grind [aH]⟩ }
theorem Inv.tick (h:Inv x tl nx tk pg ps os pi fi rd ou) (hl:tk<1000000):Inv x tl nx (tk+1) pg ps os pi fi rd ou:={ h with B5:=by have:=h.B5;omega }
theorem Inv.amX {tl':Int} (h:Inv x tl nx tk pg ps os pi fi rd ou) (hl:∀ p∈ps,cU p=2→tl'<mc p):Inv x tl' nx tk pg ps os pi fi rd ou:=
 { h with ctx:=λp hp=>{ h.ctx p hp with Uw:=hl p hp } }
theorem Inv.file (h:Inv x tl nx tk pg ps os pi fi rd ou) {y:ah} (hy:y∈fi) {d:List Int} (hd:y.2.1.length≤d.length) (h8:d.length≤8) (hw:aH d=true):Inv x tl nx tk pg ps os pi (ca aW fi y.1 (gb d)) rd ou:=by
 refine { h with op:=λo ho=> ?_,B6:=eA h.B6 λ_ _ _=>rfl,AZ:=λz hz=> ?_ }
 . refine (h.op o ho).mono rfl (by grind) λz hz _ _=> ?_
   by_cases k:aW z=y.1
   . obtain rfl:=h.B6.inj hz hy k
     exact ⟨gb d z,gl.2 ⟨z,hz,aaZ rfl⟩,rfl,hd⟩
   . exact ⟨z,gl.2 ⟨z,hz,aae k⟩,rfl,adK _⟩
 . obtain ⟨z0,hz0,e⟩:=gl.1 hz
   by_cases k:aW z0=y.1
   . rw [aaZ k] at e
     subst e;have:=h.AZ z0 hz0;unfold fA at this ⊢;simp only [aa6,adS] at this ⊢;exact ⟨this.1,h8,hw⟩
   . rw [aae k] at e
     subst e;exact h.AZ z0 hz0
theorem Inv.cP (h:Inv x tl nx tk pg ps os pi fi rd ou) (ho:o∈os) (hk:bN o=2) (hv:∀ y∈fi,y.1=cu o→0≤v∧v≤(y.2.1.length:Nat)):Inv x tl nx tk pg ps (ca an os o.1 (yD v)) pi fi rd ou:=by
 have hm:∀ {w:Int},(∃ e∈os,e.1=w)→∃ e∈ca an os o.1 (yD v),e.1=w:=λ⟨e,he,hw⟩=>by
  by_cases q:e.1=o.1
  . exact ⟨yD v o,(iv h.rp ho).2 (.inl rfl),q.symm.trans hw⟩
  . exact ⟨e,(iv h.rp ho).2 (.inr ⟨he,q⟩),hw⟩
 refine { h with rp:=eA h.rp λ_ _ _=>rfl,ctx:=λp hp=> ?_,op:=λo' E8=> ?_,uv:=λy hy=>K8.upd h.rp ho rfl rfl rfl (h.uv y hy) }
 . have hc:=h.ctx p hp
   exact ⟨hc.pid,λf hf=>(hc.fds f hf).imp id hm,hc.par,hc.Uw,λe=>⟨(hc.wt e).1,hm (hc.wt e).2⟩⟩
 . rcases (iv h.rp ho).1 E8 with rfl|⟨E8,_⟩
   . have h1:=h.op o ho
     refine ⟨h1.id,h1.refs, .inr (.inl ⟨hk, ?_⟩)⟩;rcases h1.kind with ⟨e,_⟩|⟨_,y,hy,e,_⟩|⟨e,_⟩
     . omega
     . exact ⟨y,hy,e,hv y hy e⟩
     . omega
   . exact h.op o' E8
theorem Inv.OJ (h:Inv x tl nx tk pg ps os pi fi rd ou) {d:List Int} (h8:d.length≤4) (hw:aH d=true):Inv x tl nx tk pg ps os (ca aG pi v (gb d)) fi rd ou:=by
 have hm:∀ z∈pi,∃ z'∈ca aG pi v (gb d),z'.1=z.1:=λz hz=>by
  by_cases k:aG z=v
  . exact ⟨gb d z,gl.2 ⟨z,hz,aaZ k⟩,rfl⟩
  . exact ⟨z,gl.2 ⟨z,hz,aae k⟩,rfl⟩
 refine { h with Aj:=eA h.Aj λ_ _ _=>rfl,uv:=λz hz=> ?_,op:=λo ho=>(h.op o ho).mono rfl (by grind) (by grind) };obtain ⟨z0,hz0,e⟩:=gl.1 hz;by_cases k:aG z0=v
 . rw [aaZ k] at e
   subst e;have:=h.uv z0 hz0;exact ⟨this.id,⟨h8,hw⟩,this.ends⟩
 . rw [aae k] at e
   subst e;exact h.uv z0 hz0
theorem Inv.make (h:Inv x tl nx tk pg ps os pi fi rd ou) (hv:0≤v∧v≤5) (hn:∀ y∈fi,y.1≠v):Inv x tl nx tk pg ps os pi (bS aW (v,[],()) fi) rd ou:=by
 refine { h with B6:=iJ h.B6 hn,AZ:=λz hz=> ?_,op:=λo ho=>(h.op o ho).mono rfl (by grind) λz hz _ _=>⟨z,dK.2 (.inr hz),rfl,adK _⟩ };rcases dK.1 hz with rfl|hz
 . unfold fA
   simp only [aa6,eS,adS];exact ⟨hv,afI _,rfl⟩
 . exact h.AZ z hz
theorem Inv.unlink (h:Inv x tl nx tk pg ps os pi fi rd ou) (hn:∀ o∈os,bN o=2→cu o≠v):Inv x tl nx tk pg ps os pi (OI fi v) rd ou:=by
 refine { h with B6:=(show (fi.map aW).Pairwise (· < ·) from h.B6).sublist (List.filter_sublist.map aW),AZ:=λz hz=>h.AZ z (BB.1 hz).1,op:=λo ho=>(h.op o ho).mono rfl (by grind) λz hz k e=>⟨z,BB.2 (by grind),rfl,adK _⟩ }
def mY (nx:Int) (p:af):af:=(nx,p.1,1,p.2.2.2.1,p.2.2.2.2.1,p.2.2.2.2.2.1,p.2.2.2.2.2.2.1,0,0,())
def cF (l:List Int) (os:List ai):List ai:=os.map λo=>dg (bP o+(l.count o.1:Nat)) o
theorem Inv.fork (h:Inv 0 tl nx tk pg ps os pi fi rd ou) (hp:p∈ps) (h1:cU p=1) (hn:nx<100000) (h6:ps.length<6) (ht:oV ps+(ct p).length≤64):
  Inv 0 tl (nx+1) tk pg (ps++[mY nx p]) (cF (aE p) os) pi fi (rd++[nx]) ou:=by
 have hc:=h.ctx p hp;have l:=h.loc p hp;have hm:∀ {w:Int},(∃ e∈os,e.1=w)→∃ e∈cF (aE p) os,e.1=w:=λ⟨e,he,hw⟩=>⟨_,alD he,hw⟩
 have hN:∀ id,pR (ps++[mY nx p]) id=pR ps id+(aE p).count id:=λid=>by
  rw [nn,ph];rfl
 refine ⟨by have:=h.OE;omega,h.B5,h.uY,h.Fa,by grind, ?_, ?_,λq hq=> ?_,λq hq=> ?_, ?_,λo ho=> ?_,h.Aj,λy hy=> ?_,h.B6,h.AZ, ?_⟩
 . rw [lH,pj];exact ht
 . unfold bZ
   rw [akY,List.pairwise_append];refine ⟨h.df,by simp,λa ha b hb=> ?_⟩;obtain ⟨q,hq,rfl⟩:=List.mem_map.1 ha;simp only [ael,alr,aey] at hb;subst hb;exact (h.ctx q hq).pid.2
 . rcases adE.1 hq with hq|hq
   . exact h.loc q hq
   . rw [aey] at hq
     subst hq;exact ⟨by show (1:Int)≤1∧(1:Int)≤6;omega,l.pg,l.pW,l.mem,l.fds,by show b9 0=true;rfl,λe=>absurd (show (1:Int)=6 from e) (by omega),λ_=>⟨rfl,λ_=>(l.live (by omega)).2 (by have:=hc.pid.1;omega)⟩,λ_=>rfl⟩
 . rcases adE.1 hq with hq|hq
   . have hc:=h.ctx q hq
     refine ⟨by have:=hc.pid;omega,λf hf=>(hc.fds f hf).imp id hm, ?_,hc.Uw,λe=>⟨(hc.wt e).1,hm (hc.wt e).2⟩⟩;rcases hc.par with e|⟨e,r,hr,q1⟩
     . exact .inl e
     grind
   . rw [aey] at hq
     subst hq;refine ⟨by have:=h.OE;show 1≤nx∧nx<nx+1;omega,λf hf=>(hc.fds f hf).imp id hm, .inr ⟨?_,p,by grind,rfl,by omega⟩,λe=>absurd (show (1:Int)=2 from e) (by omega),λe=>absurd (show (1:Int)=4∨(1:Int)=5 from e) (by omega)⟩;show p.1≠nx;have:=hc.pid.2;omega
 . have e:(cF (aE p) os).map an=os.map an:=by
    unfold cF;rw [agR];rfl
   unfold bZ;rw [e];exact h.rp
 . obtain ⟨e,he,rfl⟩:=List.mem_map.1 ho
   have h1:=h.op e he;refine ⟨h1.id, ?_,h1.kind⟩;show bP e+_=((pR _ e.1:Nat):Int)∧0<pR _ e.1;rw [hN];have:=h1.refs;omega
 . have JJ:=h.uv y hy
   obtain ⟨e,he,k1,t1⟩:=JJ.ends;exact ⟨JJ.id,JJ.data,_,alD he,k1,t1⟩
 . rw [gZ]
   exact List.Perm.append h.HD (List.Perm.refl _)
end
theorem gt3 (n:Nat):decide (((n:Nat):Int)>(3:Int))= !decide (n≤3):=oc (m:=3)
theorem gt4 (n:Nat):decide (((n:Nat):Int)>(4:Int))= !decide (n≤4):=oc (m:=4)
theorem gt6 (n:Nat):decide (((n:Nat):Int)>(6:Int))= !decide (n≤6):=oc (m:=6)
theorem gt8 (n:Nat):decide (((n:Nat):Int)>(8:Int))= !decide (n≤8):=oc (m:=8)
theorem arM (n:Nat):decide (((n:Nat):Int)>(12:Int))= !decide (n≤12):=oc (m:=12)
theorem aom (n:Nat):decide (((n:Nat):Int)>(60:Int))= !decide (n≤60):=oc (m:=60)
theorem le3 (n:Nat):decide (((n:Nat):Int)≤(3:Int))=decide (n≤3):=Ix (m:=3)
theorem ne4 (n:Nat):(((n:Nat):Int) != (4:Int))= !decide (n=4):=aaq (m:=4)
theorem eq4 (n:Nat):(((n:Nat):Int)==(4:Int))=decide (n=4):=by grind
theorem aeI (n:Nat):(Int.tmod ((n:Nat):Int) (4:Int) != (0:Int))= !decide (n % 4=0):=by
 grind
theorem aa1 (x:Int):decide (x<(0:Int))= !decide (0≤x):=by grind
theorem beq_false (c:Bool):(c==false)= !c:=by grind
theorem GH (c:Bool):(c==true)=c:=by simp_all
theorem qv {α:Type} {key:α→Int} {a:List α} (h:iT key a v=none):dM key a v= -1:=by unfold dM;rw [h];rfl
theorem qw {α:Type} {key:α→Int} {a:List α} (h:iT key a v=some i):dM key a v=((i:Nat):Int):=by unfold dM;rw [h];rfl
theorem Dt {α:Type} {key:α→Int} {a:List α} (h:iT key a v=some i):i<a.length:=(afe.1 h).1
abbrev Vw:=(Int×Int×Unit)×(bA×Unit)
def zm:Vw→Out (Round Vw ((Unit)×(Unit)) ((Int×Unit)×(Unit)))
|((p0,p1,_),(p2,p3,p4,p5,p6,p7,p8,p9,bL,_),_)=> .ite (decide (p1<((List.length p5:Nat):Int))) (.ite (decide (0≤p1)) (.get (nth p5 (Int.toNat p1)) λy1=> .ite ((y1.1==p0)) (.ret (.ret ((p1,()),()))) (.ret (.again ((p0,(abs (p1+(1:Int))),()),((p2,p3,p4,p5,p6,p7,p8,p9,bL,()),()))))) .fail) (.ret (.out ((),())))
def Du (a0 a1:Int) (a2:List (List ar)) (a3:List af) (a4:List ai) (a5 a6:List ah) (a7 a8:List Int) (a9:Int):Out (((Int×Unit)×Unit)×XI):= .get (iter zm aI ((a9,(0:Int),()),((a0,a1,a2,a3,a4,a5,a6,a7,a8,()),()))) λy1=> .alt y1 (λ_=> .ret ((((-1:Int),()),()),((),(),()))) (λy3=> .ret (((y3.1.1,()),()),((),(),())))
abbrev Dv:List (Nat×dT):=[(act, .var [.i .i64, .i .i64, .ro (.sl cT) (some 0), .ro jc (some 1), .ro eF (some 2), .ro dp (some 3), .ro dp (some 4), .ro (.int .i64) (some 5), .ro (.int .i64) (some 6)])]
def aon:Nat→Option au:=λn=>bw [(0,⟨⟨[.dead, .i .i64, .vptr act 0, .dead, .dead, .i .i64]++dd 16,Dv⟩,⟨dd 22,[]⟩,some ⟨dd 4++[.i .i64]++dd 17,[]⟩,false⟩)] n
def Pz:bK:={ f:=75,lend:=true,aF:=[ws,wl],lay:=[none,none],rs:=[wl],F:=λx=> .ret ((((al x.1.2.2.2.1 x.2.1.1),()),()),((),(),())) }
abbrev aeJ:Type:=ac×(Int×Unit)×Unit
abbrev aeK (x:aeJ):=Du x.1.1 x.1.2.1 x.1.2.2.1 x.1.2.2.2.1 x.1.2.2.2.2.1 x.1.2.2.2.2.2.1 x.1.2.2.2.2.2.2.1 x.1.2.2.2.2.2.2.2.1 x.1.2.2.2.2.2.2.2.2.1 x.2.1.1
theorem aje (x:aw Pz.aF):bo [] aon Tryz.f75 Pz [.tmp 4] x=aeK x:=by kernel_rfl
theorem ajf (hr:∀ x:aeJ,aB Pz.aF x→(aeK x).eval=(Pz.F x).eval):Pz.Ok acl:=aD [] trivial aje λx hw _ hy=>(hr x hw).trans hy
theorem vq:Pz.Ok acl:=by
 refine ajf λx hw=> ?_;obtain ⟨⟨a0,a1,a2,a3,a4,a5,a6,a7,a8,_⟩,⟨a9,_⟩,_⟩:=x;have l3:List.length a3≤cj:=hw.1.2.1.1;show (Du a0 a1 a2 a3 a4 a5 a6 a7 a8 a9).eval=some ((((al a3 a9),()),()),((),(),()));unfold Du al dM iT;have h:iter zm aI ((a9,(0:Int),()),((a0,a1,a2,a3,a4,a5,a6,a7,a8,()),()))=some (match List.findIdx? (λx=>aA x==a9) a3 with|some i=> .inr ((((i:Nat):Int),()),())|none=> .inl ((),())):=ei (f:=zm) a3 (λx=>aA x==a9) (λi=>((a9,((i:Nat):Int),()),((a0,a1,a2,a3,a4,a5,a6,a7,a8,()),()))) (y:=((),())) (z:=λi=>((((i:Nat):Int),()),()))
  (by grind [aq,zm,Out.eval,aA])
  (by grind [zm,Out.eval,aA])
  (by simp [zm,Out.eval]) l3
 refine (aa h).trans ?_;cases List.findIdx? (λx=>aA x==a9) a3<;>rfl
abbrev Vx:=(Int×Int×Unit)×(bA×Unit)
def zn:Vx→Out (Round Vx ((Unit)×(Unit)) ((Int×Unit)×(Unit)))
|((p0,p1,_),(p2,p3,p4,p5,p6,p7,p8,p9,bL,_),_)=> .ite (decide (p1<((List.length p6:Nat):Int))) (.ite (decide (0≤p1)) (.get (nth p6 (Int.toNat p1)) λy1=> .ite ((y1.1==p0)) (.ret (.ret ((p1,()),()))) (.ret (.again ((p0,(abs (p1+(1:Int))),()),((p2,p3,p4,p5,p6,p7,p8,p9,bL,()),()))))) .fail) (.ret (.out ((),())))
def Dw (a0 a1:Int) (a2:List (List ar)) (a3:List af) (a4:List ai) (a5 a6:List ah) (a7 a8:List Int) (a9:Int):Out (((Int×Unit)×Unit)×XI):= .get (iter zn aI ((a9,(0:Int),()),((a0,a1,a2,a3,a4,a5,a6,a7,a8,()),()))) λy1=> .alt y1 (λ_=> .ret ((((-1:Int),()),()),((),(),()))) (λy3=> .ret (((y3.1.1,()),()),((),(),())))
def aoo:Nat→Option au:=λn=>bw [(0,⟨⟨[.dead, .i .i64, .vptr act 0, .dead, .dead, .i .i64]++dd 16,Dv⟩,⟨dd 22,[]⟩,some ⟨dd 4++[.i .i64]++dd 17,[]⟩,false⟩)] n
def Ru:bK:={ f:=74,lend:=true,aF:=[ws,wl],lay:=[none,none],rs:=[wl],F:=λx=> .ret ((((aM x.1.2.2.2.2.1 x.2.1.1),()),()),((),(),())) }
abbrev aeL:Type:=ac×(Int×Unit)×Unit
abbrev aeM (x:aeL):=Dw x.1.1 x.1.2.1 x.1.2.2.1 x.1.2.2.2.1 x.1.2.2.2.2.1 x.1.2.2.2.2.2.1 x.1.2.2.2.2.2.2.1 x.1.2.2.2.2.2.2.2.1 x.1.2.2.2.2.2.2.2.2.1 x.2.1.1
theorem ajg (x:aw Ru.aF):bo [] aoo Tryz.f74 Ru [.tmp 4] x=aeM x:=by kernel_rfl
theorem ajh (hr:∀ x:aeL,aB Ru.aF x→(aeM x).eval=(Ru.F x).eval):Ru.Ok acl:=aD [] trivial ajg λx hw _ hy=>(hr x hw).trans hy
theorem zo:Ru.Ok acl:=by
 refine ajh λx hw=> ?_;obtain ⟨⟨a0,a1,a2,a3,a4,a5,a6,a7,a8,_⟩,⟨a9,_⟩,_⟩:=x;have l4:List.length a4≤cj:=hw.1.2.2.1.1;show (Dw a0 a1 a2 a3 a4 a5 a6 a7 a8 a9).eval=some ((((aM a4 a9),()),()),((),(),()));unfold Dw aM dM iT;have h:iter zn aI ((a9,(0:Int),()),((a0,a1,a2,a3,a4,a5,a6,a7,a8,()),()))=some (match List.findIdx? (λx=>an x==a9) a4 with|some i=> .inr ((((i:Nat):Int),()),())|none=> .inl ((),())):=ei (f:=zn) a4 (λx=>an x==a9) (λi=>((a9,((i:Nat):Int),()),((a0,a1,a2,a3,a4,a5,a6,a7,a8,()),()))) (y:=((),())) (z:=λi=>((((i:Nat):Int),()),()))
  (by grind [aq,zn,Out.eval,an])
  (by grind [zn,Out.eval,an])
  (by simp [zn,Out.eval]) l4
 refine (aa h).trans ?_;cases List.findIdx? (λx=>an x==a9) a4<;>rfl
abbrev PA:=(Int×Int×Unit)×(bA×Unit)
def tD:PA→Out (Round PA ((Unit)×(Unit)) ((Int×Unit)×(Unit)))
|((p0,p1,_),(p2,p3,p4,p5,p6,p7,p8,p9,bL,_),_)=> .ite (decide (p1<((List.length p7:Nat):Int))) (.ite (decide (0≤p1)) (.get (nth p7 (Int.toNat p1)) λy1=> .ite ((y1.1==p0)) (.ret (.ret ((p1,()),()))) (.ret (.again ((p0,(abs (p1+(1:Int))),()),((p2,p3,p4,p5,p6,p7,p8,p9,bL,()),()))))) .fail) (.ret (.out ((),())))
def zp (a0 a1:Int) (a2:List (List ar)) (a3:List af) (a4:List ai) (a5 a6:List ah) (a7 a8:List Int) (a9:Int):Out (((Int×Unit)×Unit)×XI):= .get (iter tD aI ((a9,(0:Int),()),((a0,a1,a2,a3,a4,a5,a6,a7,a8,()),()))) λy1=> .alt y1 (λ_=> .ret ((((-1:Int),()),()),((),(),()))) (λy3=> .ret (((y3.1.1,()),()),((),(),())))
def aji:Nat→Option au:=λn=>bw [(0,⟨⟨[.dead, .i .i64, .vptr act 0, .dead, .dead, .i .i64]++dd 16,Dv⟩,⟨dd 22,[]⟩,some ⟨dd 4++[.i .i64]++dd 17,[]⟩,false⟩)] n
def A7:bK:={ f:=118,lend:=true,aF:=[ws,wl],lay:=[none,none],rs:=[wl],F:=λx=> .ret ((((bq x.1.2.2.2.2.2.1 x.2.1.1),()),()),((),(),())) }
abbrev Vy:Type:=ac×(Int×Unit)×Unit
abbrev Vz (x:Vy):=zp x.1.1 x.1.2.1 x.1.2.2.1 x.1.2.2.2.1 x.1.2.2.2.2.1 x.1.2.2.2.2.2.1 x.1.2.2.2.2.2.2.1 x.1.2.2.2.2.2.2.2.1 x.1.2.2.2.2.2.2.2.2.1 x.2.1.1
theorem aa2 (x:aw A7.aF):bo [] aji Tryz.f118 A7 [.tmp 4] x=Vz x:=by kernel_rfl
theorem aa3 (hr:∀ x:Vy,aB A7.aF x→(Vz x).eval=(A7.F x).eval):A7.Ok acl:=aD [] trivial aa2 λx hw _ hy=>(hr x hw).trans hy
theorem xz:A7.Ok acl:=by
 refine aa3 λx hw=> ?_;obtain ⟨⟨a0,a1,a2,a3,a4,a5,a6,a7,a8,_⟩,⟨a9,_⟩,_⟩:=x;have l5:List.length a5≤cj:=hw.1.2.2.2.1.1;show (zp a0 a1 a2 a3 a4 a5 a6 a7 a8 a9).eval=some ((((bq a5 a9),()),()),((),(),()));unfold zp bq dM iT;have h:iter tD aI ((a9,(0:Int),()),((a0,a1,a2,a3,a4,a5,a6,a7,a8,()),()))=some (match List.findIdx? (λx=>aG x==a9) a5 with|some i=> .inr ((((i:Nat):Int),()),())|none=> .inl ((),())):=ei (f:=tD) a5 (λx=>aG x==a9) (λi=>((a9,((i:Nat):Int),()),((a0,a1,a2,a3,a4,a5,a6,a7,a8,()),()))) (y:=((),())) (z:=λi=>((((i:Nat):Int),()),()))
  (by grind [aq,tD,Out.eval,aG])
  (by grind [tD,Out.eval,aG])
  (by simp [tD,Out.eval]) l5
 refine (aa h).trans ?_;cases List.findIdx? (λx=>aG x==a9) a5<;>rfl
abbrev PB:=(Int×Int×Unit)×(bA×Unit)
def tE:PB→Out (Round PB ((Unit)×(Unit)) ((Int×Unit)×(Unit)))
|((p0,p1,_),(p2,p3,p4,p5,p6,p7,p8,p9,bL,_),_)=> .ite (decide (p1<((List.length p8:Nat):Int))) (.ite (decide (0≤p1)) (.get (nth p8 (Int.toNat p1)) λy1=> .ite ((y1.1==p0)) (.ret (.ret ((p1,()),()))) (.ret (.again ((p0,(abs (p1+(1:Int))),()),((p2,p3,p4,p5,p6,p7,p8,p9,bL,()),()))))) .fail) (.ret (.out ((),())))
def zq (a0 a1:Int) (a2:List (List ar)) (a3:List af) (a4:List ai) (a5 a6:List ah) (a7 a8:List Int) (a9:Int):Out (((Int×Unit)×Unit)×XI):= .get (iter tE aI ((a9,(0:Int),()),((a0,a1,a2,a3,a4,a5,a6,a7,a8,()),()))) λy1=> .alt y1 (λ_=> .ret ((((-1:Int),()),()),((),(),()))) (λy3=> .ret (((y3.1.1,()),()),((),(),())))
def ajj:Nat→Option au:=λn=>bw [(0,⟨⟨[.dead, .i .i64, .vptr act 0, .dead, .dead, .i .i64]++dd 16,Dv⟩,⟨dd 22,[]⟩,some ⟨dd 4++[.i .i64]++dd 17,[]⟩,false⟩)] n
def A8:bK:={ f:=117,lend:=true,aF:=[ws,wl],lay:=[none,none],rs:=[wl],F:=λx=> .ret ((((br x.1.2.2.2.2.2.2.1 x.2.1.1),()),()),((),(),())) }
abbrev VA:Type:=ac×(Int×Unit)×Unit
abbrev VB (x:VA):=zq x.1.1 x.1.2.1 x.1.2.2.1 x.1.2.2.2.1 x.1.2.2.2.2.1 x.1.2.2.2.2.2.1 x.1.2.2.2.2.2.2.1 x.1.2.2.2.2.2.2.2.1 x.1.2.2.2.2.2.2.2.2.1 x.2.1.1
theorem aa4 (x:aw A8.aF):bo [] ajj Tryz.f117 A8 [.tmp 4] x=VB x:=by kernel_rfl
theorem aa5 (hr:∀ x:VA,aB A8.aF x→(VB x).eval=(A8.F x).eval):A8.Ok acl:=aD [] trivial aa4 λx hw _ hy=>(hr x hw).trans hy
theorem xA:A8.Ok acl:=by
 refine aa5 λx hw=> ?_;obtain ⟨⟨a0,a1,a2,a3,a4,a5,a6,a7,a8,_⟩,⟨a9,_⟩,_⟩:=x;have l6:List.length a6≤cj:=hw.1.2.2.2.2.1.1;show (zq a0 a1 a2 a3 a4 a5 a6 a7 a8 a9).eval=some ((((br a6 a9),()),()),((),(),()));unfold zq br dM iT;have h:iter tE aI ((a9,(0:Int),()),((a0,a1,a2,a3,a4,a5,a6,a7,a8,()),()))=some (match List.findIdx? (λx=>aW x==a9) a6 with|some i=> .inr ((((i:Nat):Int),()),())|none=> .inl ((),())):=ei (f:=tE) a6 (λx=>aW x==a9) (λi=>((a9,((i:Nat):Int),()),((a0,a1,a2,a3,a4,a5,a6,a7,a8,()),()))) (y:=((),())) (z:=λi=>((((i:Nat):Int),()),()))
  (by grind [aq,tE,Out.eval,aW])
  (by grind [tE,Out.eval,aW])
  (by simp [tE,Out.eval]) l6
 refine (aa h).trans ?_;cases List.findIdx? (λx=>aW x==a9) a6<;>rfl
abbrev VC:=XE×(Unit)
def Dx:VC→Out (Round VC ((Unit)×(Unit)) ((Bool×Unit)×(Unit)))
|((p0,p1,p2,_),_)=> .ite (decide (p2<((List.length p0:Nat):Int))) (.ite (decide (0≤p2)) (.get (nth p0 (Int.toNat p2)) λy1=> .ite ((y1==p1)) (.ret (.ret ((true,()),()))) (.ret (.again ((p0,p1,(abs (p2+(1:Int))),()),())))) .fail) (.ret (.out ((),())))
def xB (a0:List Int) (a1:Int):Out (((Bool×Unit)×Unit)×XI):= .get (iter Dx aI ((a0,a1,(0:Int),()),())) λy1=> .alt y1 (λ_=> .ret (((false,()),()),((),(),()))) (λy3=> .ret (((y3.1.1,()),()),((),(),())))
def aop:Nat→Option au:=λn=>bw [(0,⟨⟨[.ro (.int .i64) (some 0), .i .i64, .dead, .dead, .dead, .i .i64]++dd 12,[]⟩,⟨dd 18,[]⟩,some ⟨dd 4++[.b]++dd 13,[]⟩,false⟩)] n
def Y3:bK:={ f:=76,lend:=true,aF:=[ww,wl],lay:=[none,none],rs:=[wn],F:=λx=> .ret ((((mF x.1.1 x.2.1.1),()),()),((),(),())) }
theorem ajk (x:aw Y3.aF):bo [] aop Tryz.f76 Y3 [.tmp 4] x=xB x.1.1 x.2.1.1:=by kernel_rfl
theorem ajl (hr:∀ x:(List Int×Unit)×(Int×Unit)×Unit,aB Y3.aF x→(xB x.1.1 x.2.1.1).eval=(Y3.F x).eval):Y3.Ok acl:=aD [] trivial ajk λx hw _ hy=>(hr x hw).trans hy
theorem VD:Y3.Ok acl:=by
 refine ajl λx hw=> ?_;obtain ⟨⟨a0,_⟩,⟨a1,_⟩,_⟩:=x;have l0:List.length a0≤cj:=hw.1.1.1;show (xB a0 a1).eval=some ((((mF a0 a1),()),()),((),(),()));unfold xB mF;have h:iter Dx aI ((a0,a1,(0:Int),()),())=some (if List.any a0 (λy=>decide (y=a1))=true then .inr ((true,()),()) else .inl ((),())):=K7 (f:=Dx) a0 (λy=>decide (y=a1)) (λi=>((a0,a1,((i:Nat):Int),()),())) (y:=((),())) (z:=((true,()),()))
  (by grind [aq,Dx,Out.eval])
  (by simp [Dx,Out.eval]) l0
 refine (aa h).trans ?_;cases List.any a0 (λy=>decide (y=a1))<;>rfl
abbrev VE:=(Int×Int×Unit)×(bA×Unit)
def Dy:VE→Out (Round VE ((Int×Unit)×(Unit)) Empty)
|((p0,p1,_),(p2,p3,p4,p5,p6,p7,p8,p9,bL,_),_)=> .ite (decide (p1<((List.length p5:Nat):Int))) (.ite (decide (0≤p1)) (.get (nth p5 (Int.toNat p1)) λy1=> .ite ((4:Int)==0) .fail (.ret (.again (((abs (p0+(abs (Int.tdiv ((List.length y1.2.2.2.2.2.1:Nat):Int) (4:Int))))),(abs (p1+(1:Int))),()),((p2,p3,p4,p5,p6,p7,p8,p9,bL,()),()))))) .fail) (.ret (.out ((p0,()),())))
def Dz (a0 a1:Int) (a2:List (List ar)) (a3:List af) (a4:List ai) (a5 a6:List ah) (a7 a8:List Int):Out gt:= .get (aP Dy aI (((0:Int),(0:Int),()),((a0,a1,a2,a3,a4,a5,a6,a7,a8,()),()))) λy1=> .ret (((y1.1.1,()),()),((),()))
def aoq:Nat→Option au:=λn=>bw [(0,⟨⟨[.dead, .vptr act 0, .dead, .i .i64, .i .i64]++dd 18,Dv⟩,⟨[.dead, .dead, .dead, .i .i64]++dd 19,[]⟩,none,false⟩)] n
def k27:bK:={ f:=27,lend:=true,aF:=[ws],lay:=[none],rs:=[wl],F:=λx=> .ret ((((oL x.1.2.2.2.1),()),()),((),())) }
abbrev aeN:Type:=ac×Unit
abbrev aeO (x:aeN):=Dz x.1.1 x.1.2.1 x.1.2.2.1 x.1.2.2.2.1 x.1.2.2.2.2.1 x.1.2.2.2.2.2.1 x.1.2.2.2.2.2.2.1 x.1.2.2.2.2.2.2.2.1 x.1.2.2.2.2.2.2.2.2.1
theorem ajm (x:aw k27.aF):bo [] aoq Tryz.f27 k27 [.tmp 2] x=aeO x:=by kernel_rfl
theorem ajn (hr:∀ x:aeN,aB k27.aF x→(aeO x).eval=(k27.F x).eval):k27.Ok acl:=aD [] trivial ajm λx hw _ hy=>(hr x hw).trans hy
theorem VF:k27.Ok acl:=by
 refine ajn λx hw=> ?_;obtain ⟨⟨a0,a1,a2,a3,a4,a5,a6,a7,a8,_⟩,_⟩:=x;have l3:List.length a3≤cj:=hw.1.2.1.1;show (Dz a0 a1 a2 a3 a4 a5 a6 a7 a8).eval=some ((((oL a3),()),()),((),()));unfold Dz oL;have h:aP Dy aI (((0:Int),(0:Int),()),((a0,a1,a2,a3,a4,a5,a6,a7,a8,()),()))=some (((List.foldl (λ(n:Int) (p:af)=>abs (n+((p.2.2.2.2.2.1.length / 4:Nat):Int))) (0:Int) a3),()),()):=foldl_loop (f:=Dy) (λ_ _=>True) (λ(n:Int) (p:af)=>abs (n+((p.2.2.2.2.2.1.length / 4:Nat):Int))) a3 (λd i=>((d,((i:Nat):Int),()),((a0,a1,a2,a3,a4,a5,a6,a7,a8,()),()))) (λd=>((d,()),()))
  (λi hi d _=>by
   have h1:=aq (i:=i) (by omega);have lj:List.length a3[i].2.2.2.2.2.1≤9223372036854775807:=(hw.1.2.1.2 i a3[i] (aa7 hi)).2.2.2.2.2.1.1;have h2:abs (((List.length a3[i].2.2.2.2.2.1:Nat):Int) / 4)=((List.length a3[i].2.2.2.2.2.1:Nat):Int) / 4:=by grind [bt]
   simp [Dy,Out.eval,hi,h1,cond_eq_ite,h2])
  (by grind [Dy,Out.eval]) (λ_ _ _ _=>trivial) l3 (0:Int) trivial
 exact aa h
def xC (a0:Int) (a1:List Int):Out ci:= .ite ((dL a0 (0:Int) (40:Int))==true) (.ite (((((List.length a1:Nat):Int)==(4:Int)))==true) (.ret ((((aH a1),()),()),((),()))) (.ret (((false,()),()),((),())))) (.ret (((false,()),()),((),())))
def k73:bK:={ f:=73,lend:=true,aF:=[If],lay:=[none],rs:=[wn],F:=λx=> .ret ((((aU x.1.1 x.1.2.1),()),()),((),())) }
theorem ajo (x:aw k73.aF):bo [wZ,Pp] (λ_=>none) Tryz.f73 k73 [.tmp 2] x=xC x.1.1 x.1.2.1:=by kernel_rfl
theorem ajp (hr:∀ x:ah×Unit,aB k73.aF x→(xC x.1.1 x.1.2.1).eval=(k73.F x).eval):k73.Ok acl:=aD [wZ,Pp] ⟨kW,IC,trivial⟩ ajo λx hw _ hy=>(hr x hw).trans hy
theorem VG:k73.Ok acl:=by
 refine ajp λx hw=> ?_;obtain ⟨⟨a0,a1,_⟩,_⟩:=x;show (xC a0 a1).eval=some ((((aU a0 a1),()),()),((),()));unfold xC aU oG;simp only [eq4,GH];cases dL a0 0 40<;>cases decide (List.length a1=4)<;>rfl
abbrev VH:=(List (List ar)×Int×Unit)×(Unit)
def DA:VH→Out (Round VH ((Unit)×(Unit)) ((Bool×Unit)×(Unit)))
|((p0,p1,_),_)=> .ite (decide (p1<((List.length p0:Nat):Int))) (.ite (decide (0≤p1)) (.get (nth p0 (Int.toNat p1)) λy1=> .ite (!(bm y1)) (.ret (.ret ((false,()),()))) (.ret (.again ((p0,(abs (p1+(1:Int))),()),())))) .fail) (.ret (.out ((),())))
def xD (a0:List (List ar)):Out ci:= .ite (!(dL ((List.length a0:Nat):Int) (1:Int) (4:Int))) (.ret (((false,()),()),((),()))) (.get (iter DA aI ((a0,(0:Int),()),())) λy1=> .alt y1 (λ_=> .ret (((true,()),()),((),()))) (λy3=> .ret (((y3.1.1,()),()),((),()))))
def aor:Nat→Option au:=λn=>bw [(0,⟨⟨[.ro (.sl cT) (some 0), .dead, .dead, .i .i64]++dd 16,[]⟩,⟨dd 20,[]⟩,some ⟨[.dead, .dead, .b]++dd 17,[]⟩,false⟩)] n
def Z2:bK:={ f:=25,lend:=true,aF:=[IR],lay:=[none],rs:=[wn],F:=λx=> .ret ((((cH x.1.1),()),()),((),())) }
theorem ajq (x:aw Z2.aF):bo [wZ,Y0] aor Tryz.f25 Z2 [.tmp 2] x=xD x.1.1:=by kernel_rfl
theorem ajr (hr:∀ x:(List (List ar)×Unit)×Unit,aB Z2.aF x→(xD x.1.1).eval=(Z2.F x).eval):Z2.Ok acl:=aD [wZ,Y0] ⟨kW,TU,trivial⟩ ajq λx hw _ hy=>(hr x hw).trans hy
theorem UA:Z2.Ok acl:=by
 refine ajr λx hw=> ?_;obtain ⟨⟨a0,_⟩,_⟩:=x;have l0:List.length a0≤cj:=hw.1.1.1;show (xD a0).eval=some ((((cH a0),()),()),((),()));unfold xD cH;have e1:dL ((List.length a0:Nat):Int) 1 4=(decide (1≤List.length a0)&&decide (List.length a0≤4)):=by
  unfold dL;congr 1<;>(rw [aeA];simp;omega)
 rw [e1];have h:iter DA aI ((a0,(0:Int),()),())=some (if List.all a0 bm=true then .inl ((),()) else .inr ((false,()),())):=zk (f:=DA) a0 bm (λi=>((a0,((i:Nat):Int),()),())) (y:=((),())) (z:=((false,()),()))
  (λi hi=>by
   have h1:=aq (i:=i) (by omega);cases q:bm a0[i]<;>simp [DA,Out.eval,hi,h1,cond_eq_ite] at q ⊢ <;>simp_all)
  (by simp [DA,Out.eval]) l0
 cases decide (1≤List.length a0)&&decide (List.length a0≤4)
 . rfl
 . refine (ae rfl).trans ((aa h).trans ?_)
   cases List.all a0 bm<;>rfl
theorem VI {β:Type} (st code par:Int) (n:Nat) (r:Bool→β):
  (Out.ite (st==(6:Int)) (Out.ite (((((n:Nat):Int)==(0:Int)))==true) (.ret (r (par != (0:Int)))) (.ret (r false))) (Out.ite ((decide (((n:Nat):Int)>(0:Int)))==true) (.ret (r (code==(0:Int)))) (.ret (r false)))).eval=
   some (r (if st=6 then decide (n=0)&& !(par==0) else decide (0<n)&&code==0)):=by
 simp only [Out.eval,cond_eq_ite];rcases Nat.eq_zero_or_pos n with h2|h2
 . subst h2
   by_cases h:st=6<;>simp [h,bne]
 . have h3:¬ n=0:=by omega
   by_cases h:st=6<;>simp [h,h2,h3]
theorem Rv {β:Type} (tick st n6 v code par:Int) (u:Bool) (n:Nat) (r:Bool→β) (e:Out β)
  (he:e.eval=some (r (if st=6 then decide (n=0)&& !(par==0) else decide (0<n)&&code==0))):
  (Out.ite (st==(2:Int)) (.ite (decide (n6≤tick)) (.ret (r false)) e)
   (.ite (st==(4:Int)) (.ite ((decide (v<(0:Int)))==false) (.ite (!u) (.ret (r false)) e) (.ret (r false)))
    (.ite (st==(5:Int)) (.ite ((decide (v<(0:Int)))==false) (.ite (!u) (.ret (r false)) e) (.ret (r false)))
     (.ite (n6 != (0:Int)) (.ret (r false)) e)))).eval=
   some (r ((if st=2 then decide (tick<n6) else if st=4∨st=5 then u&&decide (0≤v) else n6==0)&&(if st=6 then decide (n=0)&& !(par==0) else decide (0<n)&&code==0))):=by
 generalize (if st=6 then decide (n=0)&& !(par==0) else decide (0<n)&&code==0)=b at*;simp only [Out.eval,cond_eq_ite,he];by_cases h2:st=2
 . by_cases h:n6≤tick
   . have:¬ tick<n6:=by omega
     simp [h2,h,this]
   . have:tick<n6:=by omega
     simp [h2,h,this]
 . by_cases h4:st=4
   . by_cases h:v<0
     . have:¬ 0≤v:=by omega
       simp [h4,h,this]
     . have:0≤v:=by omega
       cases u<;>simp [h4,h,this]
   . by_cases h5:st=5
     . by_cases h:v<0
       . have:¬ 0≤v:=by omega
         simp [h5,h,this]
       . have:0≤v:=by omega
         cases u<;>simp [h5,h,this]
     . by_cases h0:n6=0
       . simp [h2,h4,h5,h0]
       . have h1:(n6==(0:Int))=false:=by simpa using h0
         simp [h2,h4,h5,h0,h1]
abbrev VJ:=(Int×Unit)×(bA×XM×Unit)
def DB:VJ→Out (Round VJ ((Unit)×(bA×XM×Unit)) ((Bool×Unit)×(Unit)))
|((p0,_),(p1,p2,p3,p4,p5,p6,p7,p8,p9,_),(bL,b8,cr,dc,cO,cn,cX,dz,dC,dP,_),_)=> .ite (decide (p0<((List.length dz:Nat):Int))) (.ite (decide (0≤p0)) (.get (nth dz (Int.toNat p0)) λy1=> .ite (((y1 != (-1:Int)))==true) (.ite (decide (0≤p0)) (.get (nth dz (Int.toNat p0)) λy2=> .ite ((decide ((aM p5 y2)<(0:Int)))==false) (.ite ((cr==(6:Int))) (.ret (.ret ((false,()),()))) (.ret (.again (((abs (p0+(1:Int))),()),((p1,p2,p3,p4,p5,p6,p7,p8,p9,()),(bL,b8,cr,dc,cO,cn,cX,dz,dC,dP,()),()))))) (.ret (.ret ((false,()),())))) .fail) (.ret (.again (((abs (p0+(1:Int))),()),((p1,p2,p3,p4,p5,p6,p7,p8,p9,()),(bL,b8,cr,dc,cO,cn,cX,dz,dC,dP,()),()))))) .fail) (.ret (.out ((),((p1,p2,p3,p4,p5,p6,p7,p8,p9,()),(bL,b8,cr,dc,cO,cn,cX,dz,dC,dP,()),()))))
def DC (a0 a1:Int) (a2:List (List ar)) (a3:List af) (a4:List ai) (a5 a6:List ah) (a7 a8:List Int) (a9 fG jw a12 oh:Int) (Fq nR mT:List Int) (uk yu:Int):Out (((Bool×Unit)×Unit)×XI):= .ite ((!(dL jw (1:Int) (6:Int)))==false) (.ite ((decide (a12<(0:Int)))==false) (.ite ((decide (a12≥((List.length a2:Nat):Int)))==false) (.ite ((!(aU oh Fq))==false) (.ite ((decide (((List.length nR:Nat):Int)>(12:Int)))==false) (.ite ((4:Int)==0) .fail (.ite ((((Int.tmod ((List.length nR:Nat):Int) (4:Int)) != (0:Int)))==false) (.ite ((!(aH nR))==false) (.ite (((((List.length mT:Nat):Int) != (4:Int)))==false) (.ite (!(b9 yu)) (.ret (((false,()),()),((),(),()))) (.get (iter DB aI (((0:Int),()),((a0,a1,a2,a3,a4,a5,a6,a7,a8,()),(a9,fG,jw,a12,oh,Fq,nR,mT,uk,yu,()),()))) λy1=> .alt y1 (λy2=> .ite ((y2.2.2.1.2.1 != (0:Int))) (.ite ((decide ((al y2.2.1.2.2.2.1 y2.2.2.1.2.1)<(0:Int)))==false) (.ite (((y2.2.2.1.2.1==y2.2.2.1.1))==false) (.ite (decide (0≤(al y2.2.1.2.2.2.1 y2.2.2.1.2.1))) (.get (nth y2.2.1.2.2.2.1 (Int.toNat (al y2.2.1.2.2.2.1 y2.2.2.1.2.1))) λy4=> .ite ((y4.2.2.1==(6:Int))) (.ret (((false,()),()),((),(),()))) (.ite ((y2.2.2.1.2.2.1==(2:Int))) (.ite (decide (y2.2.2.1.2.2.2.2.2.2.2.2.1≤y2.2.1.2.1)) (.ret (((false,()),()),((),(),()))) (.ite ((y2.2.2.1.2.2.1==(6:Int))) (.ite (((((List.length y2.2.2.1.2.2.2.2.2.2.1:Nat):Int)==(0:Int)))==true) (.ret (((((y2.2.2.1.2.1 != (0:Int))),()),()),((),(),()))) (.ret (((false,()),()),((),(),())))) (.ite ((decide (((List.length y2.2.2.1.2.2.2.2.2.2.1:Nat):Int)>(0:Int)))==true) (.ret (((((y2.2.2.1.2.2.2.2.2.2.2.2.2.1==(0:Int))),()),()),((),(),()))) (.ret (((false,()),()),((),(),())))))) (.ite ((y2.2.2.1.2.2.1==(4:Int))) (.ite ((decide ((aM y2.2.1.2.2.2.2.1 y2.2.2.1.2.2.2.2.2.2.2.2.1)<(0:Int)))==false) (.ite (!(mF y2.2.2.1.2.2.2.2.2.2.2.1 y2.2.2.1.2.2.2.2.2.2.2.2.1)) (.ret (((false,()),()),((),(),()))) (.ite ((y2.2.2.1.2.2.1==(6:Int))) (.ite (((((List.length y2.2.2.1.2.2.2.2.2.2.1:Nat):Int)==(0:Int)))==true) (.ret (((((y2.2.2.1.2.1 != (0:Int))),()),()),((),(),()))) (.ret (((false,()),()),((),(),())))) (.ite ((decide (((List.length y2.2.2.1.2.2.2.2.2.2.1:Nat):Int)>(0:Int)))==true) (.ret (((((y2.2.2.1.2.2.2.2.2.2.2.2.2.1==(0:Int))),()),()),((),(),()))) (.ret (((false,()),()),((),(),())))))) (.ret (((false,()),()),((),(),())))) (.ite ((y2.2.2.1.2.2.1==(5:Int))) (.ite ((decide ((aM y2.2.1.2.2.2.2.1 y2.2.2.1.2.2.2.2.2.2.2.2.1)<(0:Int)))==false) (.ite (!(mF y2.2.2.1.2.2.2.2.2.2.2.1 y2.2.2.1.2.2.2.2.2.2.2.2.1)) (.ret (((false,()),()),((),(),()))) (.ite ((y2.2.2.1.2.2.1==(6:Int))) (.ite (((((List.length y2.2.2.1.2.2.2.2.2.2.1:Nat):Int)==(0:Int)))==true) (.ret (((((y2.2.2.1.2.1 != (0:Int))),()),()),((),(),()))) (.ret (((false,()),()),((),(),())))) (.ite ((decide (((List.length y2.2.2.1.2.2.2.2.2.2.1:Nat):Int)>(0:Int)))==true) (.ret (((((y2.2.2.1.2.2.2.2.2.2.2.2.2.1==(0:Int))),()),()),((),(),()))) (.ret (((false,()),()),((),(),())))))) (.ret (((false,()),()),((),(),())))) (.ite ((y2.2.2.1.2.2.2.2.2.2.2.2.1 != (0:Int))) (.ret (((false,()),()),((),(),()))) (.ite ((y2.2.2.1.2.2.1==(6:Int))) (.ite (((((List.length y2.2.2.1.2.2.2.2.2.2.1:Nat):Int)==(0:Int)))==true) (.ret (((((y2.2.2.1.2.1 != (0:Int))),()),()),((),(),()))) (.ret (((false,()),()),((),(),())))) (.ite ((decide (((List.length y2.2.2.1.2.2.2.2.2.2.1:Nat):Int)>(0:Int)))==true) (.ret (((((y2.2.2.1.2.2.2.2.2.2.2.2.2.1==(0:Int))),()),()),((),(),()))) (.ret (((false,()),()),((),(),())))))))))) .fail) (.ret (((false,()),()),((),(),())))) (.ret (((false,()),()),((),(),())))) (.ite ((y2.2.2.1.2.2.1==(2:Int))) (.ite (decide (y2.2.2.1.2.2.2.2.2.2.2.2.1≤y2.2.1.2.1)) (.ret (((false,()),()),((),(),()))) (.ite ((y2.2.2.1.2.2.1==(6:Int))) (.ite (((((List.length y2.2.2.1.2.2.2.2.2.2.1:Nat):Int)==(0:Int)))==true) (.ret (((((y2.2.2.1.2.1 != (0:Int))),()),()),((),(),()))) (.ret (((false,()),()),((),(),())))) (.ite ((decide (((List.length y2.2.2.1.2.2.2.2.2.2.1:Nat):Int)>(0:Int)))==true) (.ret (((((y2.2.2.1.2.2.2.2.2.2.2.2.2.1==(0:Int))),()),()),((),(),()))) (.ret (((false,()),()),((),(),())))))) (.ite ((y2.2.2.1.2.2.1==(4:Int))) (.ite ((decide ((aM y2.2.1.2.2.2.2.1 y2.2.2.1.2.2.2.2.2.2.2.2.1)<(0:Int)))==false) (.ite (!(mF y2.2.2.1.2.2.2.2.2.2.2.1 y2.2.2.1.2.2.2.2.2.2.2.2.1)) (.ret (((false,()),()),((),(),()))) (.ite ((y2.2.2.1.2.2.1==(6:Int))) (.ite (((((List.length y2.2.2.1.2.2.2.2.2.2.1:Nat):Int)==(0:Int)))==true) (.ret (((((y2.2.2.1.2.1 != (0:Int))),()),()),((),(),()))) (.ret (((false,()),()),((),(),())))) (.ite ((decide (((List.length y2.2.2.1.2.2.2.2.2.2.1:Nat):Int)>(0:Int)))==true) (.ret (((((y2.2.2.1.2.2.2.2.2.2.2.2.2.1==(0:Int))),()),()),((),(),()))) (.ret (((false,()),()),((),(),())))))) (.ret (((false,()),()),((),(),())))) (.ite ((y2.2.2.1.2.2.1==(5:Int))) (.ite ((decide ((aM y2.2.1.2.2.2.2.1 y2.2.2.1.2.2.2.2.2.2.2.2.1)<(0:Int)))==false) (.ite (!(mF y2.2.2.1.2.2.2.2.2.2.2.1 y2.2.2.1.2.2.2.2.2.2.2.2.1)) (.ret (((false,()),()),((),(),()))) (.ite ((y2.2.2.1.2.2.1==(6:Int))) (.ite (((((List.length y2.2.2.1.2.2.2.2.2.2.1:Nat):Int)==(0:Int)))==true) (.ret (((((y2.2.2.1.2.1 != (0:Int))),()),()),((),(),()))) (.ret (((false,()),()),((),(),())))) (.ite ((decide (((List.length y2.2.2.1.2.2.2.2.2.2.1:Nat):Int)>(0:Int)))==true) (.ret (((((y2.2.2.1.2.2.2.2.2.2.2.2.2.1==(0:Int))),()),()),((),(),()))) (.ret (((false,()),()),((),(),())))))) (.ret (((false,()),()),((),(),())))) (.ite ((y2.2.2.1.2.2.2.2.2.2.2.2.1 != (0:Int))) (.ret (((false,()),()),((),(),()))) (.ite ((y2.2.2.1.2.2.1==(6:Int))) (.ite (((((List.length y2.2.2.1.2.2.2.2.2.2.1:Nat):Int)==(0:Int)))==true) (.ret (((((y2.2.2.1.2.1 != (0:Int))),()),()),((),(),()))) (.ret (((false,()),()),((),(),())))) (.ite ((decide (((List.length y2.2.2.1.2.2.2.2.2.2.1:Nat):Int)>(0:Int)))==true) (.ret (((((y2.2.2.1.2.2.2.2.2.2.2.2.2.1==(0:Int))),()),()),((),(),()))) (.ret (((false,()),()),((),(),())))))))))) (λy3=> .ret (((y3.1.1,()),()),((),(),()))))) (.ret (((false,()),()),((),(),())))) (.ret (((false,()),()),((),(),())))) (.ret (((false,()),()),((),(),()))))) (.ret (((false,()),()),((),(),())))) (.ret (((false,()),()),((),(),())))) (.ret (((false,()),()),((),(),())))) (.ret (((false,()),()),((),(),())))) (.ret (((false,()),()),((),(),())))
abbrev VK:List (Nat×dT):=[(act, .var [.i .i64, .i .i64, .ro (.sl cT) (some 0), .ro jc (some 1), .ro eF (some 2), .ro dp (some 3), .ro dp (some 4), .ro (.int .i64) (some 5), .ro (.int .i64) (some 6)]),(adc, .var [.i .i64, .i .i64, .i .i64, .i .i64, .i .i64, .ro (.int .i64) (some 7), .ro (.int .i64) (some 8), .ro (.int .i64) (some 9), .i .i64, .i .i64])]
def aos:Nat→Option au:=λn=>bw [(0,⟨⟨[.dead, .dead, .vptr act 0, .vptr adc 0, .dead, .i .i64]++dd 157,VK⟩,⟨[.dead, .dead, .vptr act 0, .vptr adc 0]++dd 159,VK⟩,some ⟨dd 4++[.b]++dd 158,[]⟩,false⟩)] n
def fZ (tick:Int) (dO:List (List ar)) (ps:List af) (os:List ai) (pid par st pg pc:Int) (iY mem fds:List Int) (n6 code:Int):Bool:=
 dG tick dO.length ps os pid par st pg pc iY mem fds n6 code
def k28:bK:={ f:=28,lend:=true,aF:=[ws,Fn],lay:=[none,none],rs:=[wn],F:=λx=> .ret ((((fZ x.1.2.1 x.1.2.2.1 x.1.2.2.2.1 x.1.2.2.2.2.1 x.2.1.1 x.2.1.2.1 x.2.1.2.2.1 x.2.1.2.2.2.1 x.2.1.2.2.2.2.1 x.2.1.2.2.2.2.2.1 x.2.1.2.2.2.2.2.2.1 x.2.1.2.2.2.2.2.2.2.1 x.2.1.2.2.2.2.2.2.2.2.1 x.2.1.2.2.2.2.2.2.2.2.2.1),()),()),((),(),())) }
abbrev aeQ:Type:=ac×XM×Unit
abbrev aeR (x:aeQ):=DC x.1.1 x.1.2.1 x.1.2.2.1 x.1.2.2.2.1 x.1.2.2.2.2.1 x.1.2.2.2.2.2.1 x.1.2.2.2.2.2.2.1 x.1.2.2.2.2.2.2.2.1 x.1.2.2.2.2.2.2.2.2.1 x.2.1.1 x.2.1.2.1 x.2.1.2.2.1 x.2.1.2.2.2.1 x.2.1.2.2.2.2.1 x.2.1.2.2.2.2.2.1 x.2.1.2.2.2.2.2.2.1 x.2.1.2.2.2.2.2.2.2.1 x.2.1.2.2.2.2.2.2.2.2.1 x.2.1.2.2.2.2.2.2.2.2.2.1
theorem ajs (x:aw k28.aF):bo [wZ,k73,Pp,Sm,Ru,Pz,Y3] aos Tryz.f28 k28 [.tmp 4] x=aeR x:=by kernel_rfl
theorem ajt (hr:∀ x:aeQ,aB k28.aF x→(aeR x).eval=(k28.F x).eval):k28.Ok acl:=aD [wZ,k73,Pp,Sm,Ru,Pz,Y3] ⟨kW,VG,IC,IB,zo,vq,VD,trivial⟩ ajs λx hw _ hy=>(hr x hw).trans hy
theorem aju:k28.Ok acl:=by
 refine ajt λx hw=> ?_;obtain ⟨⟨a0,a1,a2,a3,a4,a5,a6,a7,a8,_⟩,⟨a9,fG,jw,a12,oh,Fq,nR,mT,uk,yu,_⟩,_⟩:=x;have l16:List.length mT≤cj:=hw.2.1.2.2.1.1;show (DC a0 a1 a2 a3 a4 a5 a6 a7 a8 a9 fG jw a12 oh Fq nR mT uk yu).eval=some ((((fZ a1 a2 a3 a4 a9 fG jw a12 oh Fq nR mT uk yu),()),()),((),(),()));unfold DC;have h:iter DB aI (((0:Int),()),((a0,a1,a2,a3,a4,a5,a6,a7,a8,()),(a9,fG,jw,a12,oh,Fq,nR,mT,uk,yu,()),()))=some (if List.all mT (rf a4 jw)=true then .inl ((),((a0,a1,a2,a3,a4,a5,a6,a7,a8,()),(a9,fG,jw,a12,oh,Fq,nR,mT,uk,yu,()),())) else .inr ((false,()),())):=zk (f:=DB) mT (rf a4 jw) (λi=>((((i:Nat):Int),()),((a0,a1,a2,a3,a4,a5,a6,a7,a8,()),(a9,fG,jw,a12,oh,Fq,nR,mT,uk,yu,()),()))) (y:=((),((a0,a1,a2,a3,a4,a5,a6,a7,a8,()),(a9,fG,jw,a12,oh,Fq,nR,mT,uk,yu,()),()))) (z:=((false,()),()))
  (λi hi=>by
   have h1:=aq (i:=i) (by omega);by_cases q0:mT[i]= -1<;>by_cases q1:0≤aM a4 mT[i]<;>by_cases q2:jw=6<;>simp [DB,Out.eval,hi,h1,cond_eq_ite,rf,aa1,q0,q1,q2])
  (by simp [DB,Out.eval]) l16
 by_cases c1:dL jw 1 6=true
 case neg=>rw [ae (by simp [c1])];simp [Out.eval,fZ,dG,c1]
 rw [ab (by simp [c1])];by_cases c2:0≤a12
 case neg=>rw [ae (by (rw [aac];rfl))];simp [Out.eval,fZ,dG,c2]
 rw [ab (by simp [c2])];by_cases c3:a12<((List.length a2:Nat):Int)
 case neg=>rw [ae (by (rw [aac];rfl))];simp [Out.eval,fZ,dG,c3]
 rw [ab (by simp [c3])];by_cases c4:aU oh Fq=true
 case neg=>rw [ae (by simp [c4])];simp [Out.eval,fZ,dG,c4]
 rw [ab (by simp [c4])];by_cases c5:List.length nR≤12
 case neg=>rw [ae (by (rw [aac];rfl))];simp [Out.eval,fZ,dG,c5]
 rw [ab (by (rw [adD];rfl))];rw [ae (by decide),aeI,ne4];by_cases c6:List.length nR % 4=0
 case neg=>rw [ae (by simp [c6])];simp [Out.eval,fZ,dG,c6]
 rw [ab (by simp [c6])];by_cases c7:aH nR=true
 case neg=>rw [ae (by simp [c7])];simp [Out.eval,fZ,dG,c7]
 rw [ab (by simp [c7])];by_cases c8:List.length mT=4
 case neg=>rw [ae (by simp [c8])];simp [Out.eval,fZ,dG,c8]
 rw [ab (by simp [c8])];by_cases c9:b9 yu=true
 case neg=>rw [ab (by simp [c9])];simp [Out.eval,fZ,dG,c9]
 rw [ae (by simp [c9])];refine (aa h).trans ?_;by_cases q:List.all mT (rf a4 jw)=true
 case neg=>rw [aae q];simp [Out.eval,fZ,dG,q]
 have e:fZ a1 a2 a3 a4 a9 fG jw a12 oh Fq nR mT uk yu=(cd a3 a9 fG&&(gY a1 a4 jw mT uk&&vk fG jw nR yu)):=by
  simp only [fZ,dG,c1,c2,c3,c4,c5,c6,c7,c8,c9,q,decide_true,Bool.and_true,agd,Bool.and_assoc]
 rw [aaZ q,e];refine (bG _).trans ?_;dsimp only;have en:=VI jw yu fG (List.length nR) (λb=>(((b,()),()),((),(),())));have tl:=Rv a1 jw uk (aM a4 uk) yu fG (mF mT uk) (List.length nR) (λb=>(((b,()),()),((),(),()))) _ en;unfold gY vk;by_cases p0:fG=0
 . have e2:cd a3 a9 fG=true:=by simp [cd,p0]
   rw [e2,agd,ae (by simp [p0])];exact tl
 . rw [ab (by simp [p0])]
   cases hx:iT aA a3 fG with
   |none=>
    have e2:cd a3 a9 fG=false:=by simp [cd,p0,hx]
    have e3:al a3 fG= -1:=qv hx;rw [e2,e3];rfl
   |some i=>
    have hi:=Dt hx;have e3:al a3 fG=((i:Nat):Int):=qw hx;rw [e3,ab (by rw [adD];rfl),adu];by_cases p1:fG=a9
    . have p2:(fG==a9)=true:=by simpa using p1
      have p3:(fG==(0:Int))=false:=by simpa using p0
      have e2:cd a3 a9 fG=false:=by unfold cd;rw [p3,p2];simp
      rw [e2,ae (by rw [p2];rfl)];rfl
    . rw [ab (by simp [p1]),ab (pQ i)]
      refine (aa (x:=a3[i]) (by simp [nth,hi])).trans ?_;by_cases p2:a3[i].2.2.1=6
      . have e2:cd a3 a9 fG=false:=by simp [cd,p0,hx,hi,p2]
        rw [e2,ab (by simp [p2])];rfl
      . have e2:cd a3 a9 fG=true:=by simp [cd,p0,p1,hx,hi,p2]
        rw [e2,agd,ae (by simp [p2])];exact tl
theorem GI {β:Type} (kind target off:Int) (cA:List fq) (files:List cB) (r:Bool→β):
  (Out.ite (kind==(1:Int)) (.ite ((target==(0:Int))==true) (.ret (r (off==(0:Int)))) (.ret (r false)))
   (.ite (kind==(2:Int)) (.ite ((decide (br files target≥(0:Int)))==true) (.ite (decide (0≤br files target)) (.get (nth files (Int.toNat (br files target))) λy2=> .ret (r (dL off (0:Int) ((List.length y2.2.1:Nat):Int)))) .fail) (.ret (r false)))
    (.ite (kind==(3:Int)) (.ite ((decide (bq cA target≥(0:Int)))==true) (.ret (r (off==(0:Int)))) (.ret (r false)))
     (.ite (kind==(4:Int)) (.ite ((decide (bq cA target≥(0:Int)))==true) (.ret (r (off==(0:Int)))) (.ret (r false))) (.ret (r false)))))).eval=some (r (tC cA files kind target off)):=by
 unfold tC;simp only [Out.eval,cond_eq_ite];by_cases h1:kind=1
 . grind
 by_cases h2:kind=2
 . cases hx:iT aW files target with
   |none=>
    grind [br,qv]
   |some i=>
    have hi:=Dt hx;simp_all [br,qw,nth]
 grind
abbrev VL:=(Int×Int×Int×Unit)×(bA×ai×Unit)
def DD:VL→Out (Round VL ((Int×Int×Unit)×(bA×ai×Unit)) Empty)
|((p0,p1,p2,_),(p3,p4,p5,p6,p7,p8,p9,bL,b8,_),(cr,dc,cO,cn,cX,_),_)=> .ite (decide (0≤p1)) (.get (nth p6 (Int.toNat p1)) λy1=> .ite (decide (p2<((List.length y1.2.2.2.2.2.2.1:Nat):Int))) (.ite (decide (0≤p1)) (.get (nth p6 (Int.toNat p1)) λy2=> .ite (decide (0≤p2)) (.get (nth y2.2.2.2.2.2.2.1 (Int.toNat p2)) λy3=> .ite ((y3==cr)) (.ret (.again (((abs (p0+(1:Int))),p1,(abs (p2+(1:Int))),()),((p3,p4,p5,p6,p7,p8,p9,bL,b8,()),(cr,dc,cO,cn,cX,()),())))) (.ret (.again ((p0,p1,(abs (p2+(1:Int))),()),((p3,p4,p5,p6,p7,p8,p9,bL,b8,()),(cr,dc,cO,cn,cX,()),()))))) .fail) .fail) (.ret (.out ((p0,p1,()),((p3,p4,p5,p6,p7,p8,p9,bL,b8,()),(cr,dc,cO,cn,cX,()),()))))) .fail
abbrev VM:=(Int×Int×Unit)×(bA×ai×Unit)
def DE:VM→Out (Round VM ((Int×Unit)×(bA×ai×Unit)) Empty)
|((p0,p1,_),(p2,p3,p4,p5,p6,p7,p8,p9,bL,_),(b8,cr,dc,cO,cn,_),_)=> .ite (decide (p1<((List.length p5:Nat):Int))) (.get (aP DD aI ((p0,p1,(0:Int),()),((p2,p3,p4,p5,p6,p7,p8,p9,bL,()),(b8,cr,dc,cO,cn,()),()))) λy1=> .ret (.again ((y1.1.1,(abs (y1.1.2.1+(1:Int))),()),((y1.2.1.1,y1.2.1.2.1,y1.2.1.2.2.1,y1.2.1.2.2.2.1,y1.2.1.2.2.2.2.1,y1.2.1.2.2.2.2.2.1,y1.2.1.2.2.2.2.2.2.1,y1.2.1.2.2.2.2.2.2.2.1,y1.2.1.2.2.2.2.2.2.2.2.1,()),(y1.2.2.1.1,y1.2.2.1.2.1,y1.2.2.1.2.2.1,y1.2.2.1.2.2.2.1,y1.2.2.1.2.2.2.2.1,()),())))) (.ret (.out ((p0,()),((p2,p3,p4,p5,p6,p7,p8,p9,bL,()),(b8,cr,dc,cO,cn,()),()))))
def DF (a0 a1:Int) (a2:List (List ar)) (a3:List af) (a4:List ai) (a5 a6:List ah) (a7 a8:List Int) (a9 fG jw a12 oh:Int):Out (((Bool×Unit)×Unit)×XI):= .get (aP DE aI (((0:Int),(0:Int),()),((a0,a1,a2,a3,a4,a5,a6,a7,a8,()),(a9,fG,jw,a12,oh,()),()))) λy1=> .ite (((y1.1.1==(0:Int)))==false) (.ite (((y1.2.2.1.2.2.2.2.1 != y1.1.1))==false) (.ite (!(dL y1.2.2.1.1 (0:Int) (7:Int))) (.ret (((false,()),()),((),(),()))) (.ite ((y1.2.2.1.2.1==(1:Int))) (.ite (((y1.2.2.1.2.2.1==(0:Int)))==true) (.ret (((((y1.2.2.1.2.2.2.1==(0:Int))),()),()),((),(),()))) (.ret (((false,()),()),((),(),())))) (.ite ((y1.2.2.1.2.1==(2:Int))) (.ite ((decide ((br y1.2.1.2.2.2.2.2.2.1 y1.2.2.1.2.2.1)≥(0:Int)))==true) (.ite (decide (0≤(br y1.2.1.2.2.2.2.2.2.1 y1.2.2.1.2.2.1))) (.get (nth y1.2.1.2.2.2.2.2.2.1 (Int.toNat (br y1.2.1.2.2.2.2.2.2.1 y1.2.2.1.2.2.1))) λy2=> .ret ((((dL y1.2.2.1.2.2.2.1 (0:Int) ((List.length y2.2.1:Nat):Int)),()),()),((),(),()))) .fail) (.ret (((false,()),()),((),(),())))) (.ite ((y1.2.2.1.2.1==(3:Int))) (.ite ((decide ((bq y1.2.1.2.2.2.2.2.1 y1.2.2.1.2.2.1)≥(0:Int)))==true) (.ret (((((y1.2.2.1.2.2.2.1==(0:Int))),()),()),((),(),()))) (.ret (((false,()),()),((),(),())))) (.ite ((y1.2.2.1.2.1==(4:Int))) (.ite ((decide ((bq y1.2.1.2.2.2.2.2.1 y1.2.2.1.2.2.1)≥(0:Int)))==true) (.ret (((((y1.2.2.1.2.2.2.1==(0:Int))),()),()),((),(),()))) (.ret (((false,()),()),((),(),())))) (.ret (((false,()),()),((),(),())))))))) (.ret (((false,()),()),((),(),())))) (.ret (((false,()),()),((),(),())))
abbrev IH:List (Nat×dT):=[(act, .var [.i .i64, .i .i64, .ro (.sl cT) (some 0), .ro jc (some 1), .ro eF (some 2), .ro dp (some 3), .ro dp (some 4), .ro (.int .i64) (some 5), .ro (.int .i64) (some 6)]),(adc, .var [.i .i64, .i .i64, .i .i64, .i .i64, .i .i64])]
def aot:Nat→Option au:=λn=>bw [(0,⟨⟨[.dead, .dead, .vptr act 0, .vptr adc 0, .dead, .i .i64, .i .i64]++dd 94,IH⟩,⟨[.dead, .dead, .vptr act 0, .vptr adc 0, .dead, .i .i64]++dd 95,IH⟩,none,false⟩),(2,⟨⟨[.dead, .dead, .vptr act 0, .vptr adc 0, .dead, .i .i64, .i .i64, .i .i64]++dd 93,IH⟩,⟨[.dead, .dead, .vptr act 0, .vptr adc 0, .dead, .i .i64, .i .i64]++dd 94,IH⟩,none,false⟩)] n
def k77:bK:={ f:=77,lend:=true,aF:=[ws,Fr],lay:=[none,none],rs:=[wn],F:=λx=> .ret ((((ir x.1.2.2.2.1 x.1.2.2.2.2.2.1 x.1.2.2.2.2.2.2.1 x.2.1.1 x.2.1.2.1 x.2.1.2.2.1 x.2.1.2.2.2.1 x.2.1.2.2.2.2.1),()),()),((),(),())) }
abbrev aeT:Type:=ac×ms×Unit
abbrev aeU (x:aeT):=DF x.1.1 x.1.2.1 x.1.2.2.1 x.1.2.2.2.1 x.1.2.2.2.2.1 x.1.2.2.2.2.2.1 x.1.2.2.2.2.2.2.1 x.1.2.2.2.2.2.2.2.1 x.1.2.2.2.2.2.2.2.2.1 x.2.1.1 x.2.1.2.1 x.2.1.2.2.1 x.2.1.2.2.2.1 x.2.1.2.2.2.2.1
theorem ajv (x:aw k77.aF):bo [wZ,A8,A7] aot Tryz.f77 k77 [.tmp 4] x=aeU x:=by kernel_rfl
theorem ajw (hr:∀ x:aeT,aB k77.aF x→(aeU x).eval=(k77.F x).eval):k77.Ok acl:=aD [wZ,A8,A7] ⟨kW,xA,xz,trivial⟩ ajv λx hw _ hy=>(hr x hw).trans hy
theorem ajx:k77.Ok acl:=by
 refine ajw λx hw=> ?_;obtain ⟨⟨a0,a1,a2,a3,a4,a5,a6,a7,a8,_⟩,⟨a9,fG,jw,a12,oh,_⟩,_⟩:=x;have l3:List.length a3≤cj:=hw.1.2.1.1;show (DF a0 a1 a2 a3 a4 a5 a6 a7 a8 a9 fG jw a12 oh).eval=some ((((ir a3 a5 a6 a9 fG jw a12 oh),()),()),((),(),()));unfold DF;have inner:∀ (n:Int) (j:Nat) (hj:j<List.length a3),aP DD aI ((n,((j:Nat):Int),(0:Int),()),((a0,a1,a2,a3,a4,a5,a6,a7,a8,()),(a9,fG,jw,a12,oh,()),()))=
   some ((List.foldl (λn f=>sc f a9 n) n a3[j].2.2.2.2.2.2.1,((j:Nat):Int),()),((a0,a1,a2,a3,a4,a5,a6,a7,a8,()),(a9,fG,jw,a12,oh,()),())):=λn j hj=>by
  have lj:List.length a3[j].2.2.2.2.2.2.1≤cj:=(hw.1.2.1.2 j a3[j] (aa7 hj)).2.2.2.2.2.2.1.1;exact foldl_loop (f:=DD) (λ_ _=>True) (λn f=>sc f a9 n) a3[j].2.2.2.2.2.2.1 (λd i=>((d,((j:Nat):Int),((i:Nat):Int),()),((a0,a1,a2,a3,a4,a5,a6,a7,a8,()),(a9,fG,jw,a12,oh,()),())))
   (λd=>((d,((j:Nat):Int),()),((a0,a1,a2,a3,a4,a5,a6,a7,a8,()),(a9,fG,jw,a12,oh,()),())))
   (λi hi d _=>by
    have h1:=aq (i:=i) (by omega);by_cases q:a3[j].2.2.2.2.2.2.1[i]=a9<;>simp [DD,Out.eval,hj,hi,h1,sc,cond_eq_ite,q])
   (by grind [DD,Out.eval]) (λ_ _ _ _=>trivial) lj n trivial
 have h:aP DE aI (((0:Int),(0:Int),()),((a0,a1,a2,a3,a4,a5,a6,a7,a8,()),(a9,fG,jw,a12,oh,()),()))=some (((List.foldl (λ(n:Int) (p:af)=>p.2.2.2.2.2.2.1.foldl (λn f=>sc f a9 n) n) (0:Int) a3),()),((a0,a1,a2,a3,a4,a5,a6,a7,a8,()),(a9,fG,jw,a12,oh,()),())):=foldl_loop (f:=DE) (λ_ _=>True) (λ(n:Int) (p:af)=>p.2.2.2.2.2.2.1.foldl (λn f=>sc f a9 n) n) a3 (λd i=>((d,((i:Nat):Int),()),((a0,a1,a2,a3,a4,a5,a6,a7,a8,()),(a9,fG,jw,a12,oh,()),()))) (λd=>((d,()),((a0,a1,a2,a3,a4,a5,a6,a7,a8,()),(a9,fG,jw,a12,oh,()),())))
  (by grind [aq,DE,Out.eval])
  (by grind [DE,Out.eval]) (λ_ _ _ _=>trivial) l3 (0:Int) trivial
 refine (aa h).trans ?_;have er:List.foldl (λ(n:Int) (p:af)=>p.2.2.2.2.2.2.1.foldl (λn f=>sc f a9 n) n) 0 a3=sd a3 a9:=rfl;rw [er];dsimp only;unfold ir;generalize sd a3 a9=r;by_cases c1:r=0
 . grind [ae,Out.eval]
 rw [ab (by simp [c1])];by_cases c2:oh=r
 case neg=>grind [ae,Out.eval]
 rw [ab (by simp [c2])];by_cases c3:dL a9 0 7=true
 case neg=>grind [ab,Out.eval]
 rw [ae (by simp [c3])];refine (GI fG jw a12 a5 a6 (λb=>(((b,()),()),((),(),())))).trans ?_;grind
abbrev VN:=ar×(bA×Unit)
def DG:VN→Out (Round VN ((Int×Unit)×(Unit)) Empty)
|((p0,p1,p2,p3,_),(p4,p5,p6,p7,p8,p9,bL,b8,cr,_),_)=> .ite (decide (p3<((List.length p8:Nat):Int))) (.ite (decide (0≤p3)) (.get (nth p8 (Int.toNat p3)) λy1=> .ite (((y1.2.1==p1))==true) (.ite (decide (0≤p3)) (.get (nth p8 (Int.toNat p3)) λy2=> .ite ((y2.2.2.1==p0)) (.ret (.again ((p0,p1,(abs (p2+(1:Int))),(abs (p3+(1:Int))),()),((p4,p5,p6,p7,p8,p9,bL,b8,cr,()),())))) (.ret (.again ((p0,p1,p2,(abs (p3+(1:Int))),()),((p4,p5,p6,p7,p8,p9,bL,b8,cr,()),()))))) .fail) (.ret (.again ((p0,p1,p2,(abs (p3+(1:Int))),()),((p4,p5,p6,p7,p8,p9,bL,b8,cr,()),()))))) .fail) (.ret (.out ((p2,()),())))
def DH (a0 a1:Int) (a2:List (List ar)) (a3:List af) (a4:List ai) (a5 a6:List ah) (a7 a8:List Int) (a9 fG:Int):Out (((Int×Unit)×Unit)×(Unit×XI)):= .get (aP DG aI ((a9,fG,(0:Int),(0:Int),()),((a0,a1,a2,a3,a4,a5,a6,a7,a8,()),()))) λy1=> .ret (((y1.1.1,()),()),((),(),(),()))
abbrev zr:List (Nat×dT):=[(act, .var [.i .i64, .i .i64, .ro (.sl cT) (some 0), .ro jc (some 1), .ro eF (some 2), .ro dp (some 3), .ro dp (some 4), .ro (.int .i64) (some 5), .ro (.int .i64) (some 6)])]
def aou:Nat→Option au:=λn=>bw [(0,⟨⟨[.dead, .i .i64, .i .i64, .vptr act 0, .dead, .dead, .dead, .i .i64, .i .i64]++dd 28,zr⟩,⟨dd 7++[.i .i64]++dd 29,[]⟩,none,false⟩)] n
def Sq:bK:={ f:=78,lend:=true,aF:=[ws,wl,wl],lay:=[none,none,none],rs:=[wl],F:=λx=> .ret ((((jg x.1.2.2.2.2.1 x.2.1.1 x.2.2.1.1),()),()),((),(),(),())) }
abbrev aeV:Type:=ac×(Int×Unit)×(Int×Unit)×Unit
abbrev aeW (x:aeV):=DH x.1.1 x.1.2.1 x.1.2.2.1 x.1.2.2.2.1 x.1.2.2.2.2.1 x.1.2.2.2.2.2.1 x.1.2.2.2.2.2.2.1 x.1.2.2.2.2.2.2.2.1 x.1.2.2.2.2.2.2.2.2.1 x.2.1.1 x.2.2.1.1
theorem ajy (x:aw Sq.aF):bo [] aou Tryz.f78 Sq [.tmp 6] x=aeW x:=by kernel_rfl
theorem ajz (hr:∀ x:aeV,aB Sq.aF x→(aeW x).eval=(Sq.F x).eval):Sq.Ok acl:=aD [] trivial ajy λx hw _ hy=>(hr x hw).trans hy
theorem DI:Sq.Ok acl:=by
 refine ajz λx hw=> ?_;obtain ⟨⟨a0,a1,a2,a3,a4,a5,a6,a7,a8,_⟩,⟨a9,_⟩,⟨fG,_⟩,_⟩:=x;have l4:List.length a4≤cj:=hw.1.2.2.1.1;show (DH a0 a1 a2 a3 a4 a5 a6 a7 a8 a9 fG).eval=some ((((jg a4 a9 fG),()),()),((),(),(),()));unfold DH jg;have h:aP DG aI ((a9,fG,(0:Int),(0:Int),()),((a0,a1,a2,a3,a4,a5,a6,a7,a8,()),()))=some (((List.foldl (λ(n:Int) (o:ai)=>if oF fG a9 o=true then abs (n+1) else n) (0:Int) a4),()),()):=foldl_loop (f:=DG) (λ_ _=>True) (λ(n:Int) (o:ai)=>if oF fG a9 o=true then abs (n+1) else n) a4 (λd i=>((a9,fG,d,((i:Nat):Int),()),((a0,a1,a2,a3,a4,a5,a6,a7,a8,()),()))) (λd=>((d,()),()))
  (λi hi d _=>by
   have h1:=aq (i:=i) (by omega);by_cases q:a4[i].2.1=fG<;>by_cases q2:a4[i].2.2.1=a9<;>simp [oF,DG,Out.eval,hi,h1,cond_eq_ite,q,q2])
  (by grind [DG,Out.eval]) (λ_ _ _ _=>trivial) l4 (0:Int) trivial
 exact aa h
abbrev VO:=(Int×Unit)×(bA×Unit)
def zt:VO→Out (Round VO ((Unit)×(bA×Unit)) ((Bool×Unit)×(Unit)))
|((p0,_),(p1,p2,p3,p4,p5,p6,p7,p8,p9,_),_)=> .ite (decide (p0<((List.length p5:Nat):Int))) (.ite (decide (0≤p0)) (.get (nth p5 (Int.toNat p0)) λy1=> .ite ((!(ir p4 p6 p7 y1.1 y1.2.1 y1.2.2.1 y1.2.2.2.1 y1.2.2.2.2.1))==false) (.ite ((decide (p0>(0:Int)))==true) (.ite (decide (0≤(abs (p0 - (1:Int))))) (.get (nth p5 (Int.toNat (abs (p0 - (1:Int))))) λy2=> .ite (decide (0≤p0)) (.get (nth p5 (Int.toNat p0)) λy3=> .ite (decide (y2.1≥y3.1)) (.ret (.ret ((false,()),()))) (.ret (.again (((abs (p0+(1:Int))),()),((p1,p2,p3,p4,p5,p6,p7,p8,p9,()),()))))) .fail) .fail) (.ret (.again (((abs (p0+(1:Int))),()),((p1,p2,p3,p4,p5,p6,p7,p8,p9,()),()))))) (.ret (.ret ((false,()),())))) .fail) (.ret (.out ((),((p1,p2,p3,p4,p5,p6,p7,p8,p9,()),()))))
abbrev VP:=(Int×Unit)×(bA×Unit)
def zu:VP→Out (Round VP ((Unit)×(bA×Unit)) ((Bool×Unit)×(Unit)))
|((p0,_),(p1,p2,p3,p4,p5,p6,p7,p8,p9,_),_)=> .ite (decide (p0<((List.length p6:Nat):Int))) (.ite (decide (0≤p0)) (.get (nth p6 (Int.toNat p0)) λy1=> .ite ((!(dL y1.1 (0:Int) (2:Int)))==false) (.ite ((decide (((List.length y1.2.1:Nat):Int)>(4:Int)))==false) (.ite ((!(aH y1.2.1))==false) (.ite ((decide (p0>(0:Int)))==true) (.ite (decide (0≤(abs (p0 - (1:Int))))) (.get (nth p6 (Int.toNat (abs (p0 - (1:Int))))) λy2=> .ite ((decide (y2.1≥y1.1))==false) (.ite (((abs ((jg p5 y1.1 (3:Int))+(jg p5 y1.1 (4:Int))))==(0:Int))) (.ret (.ret ((false,()),()))) (.ret (.again (((abs (p0+(1:Int))),()),((p1,p2,p3,p4,p5,p6,p7,p8,p9,()),()))))) (.ret (.ret ((false,()),())))) .fail) (.ite (((abs ((jg p5 y1.1 (3:Int))+(jg p5 y1.1 (4:Int))))==(0:Int))) (.ret (.ret ((false,()),()))) (.ret (.again (((abs (p0+(1:Int))),()),((p1,p2,p3,p4,p5,p6,p7,p8,p9,()),())))))) (.ret (.ret ((false,()),())))) (.ret (.ret ((false,()),())))) (.ret (.ret ((false,()),())))) .fail) (.ret (.out ((),((p1,p2,p3,p4,p5,p6,p7,p8,p9,()),()))))
abbrev VQ:=(Int×Unit)×(bA×Unit)
def zv:VQ→Out (Round VQ ((Unit)×(Unit)) ((Bool×Unit)×(Unit)))
|((p0,_),(p1,p2,p3,p4,p5,p6,p7,p8,p9,_),_)=> .ite (decide (p0<((List.length p7:Nat):Int))) (.ite (decide (0≤p0)) (.get (nth p7 (Int.toNat p0)) λy1=> .ite ((!(dL y1.1 (0:Int) (5:Int)))==false) (.ite ((decide (((List.length y1.2.1:Nat):Int)>(8:Int)))==false) (.ite ((!(aH y1.2.1))==false) (.ite ((decide (p0>(0:Int)))==true) (.ite (decide (0≤(abs (p0 - (1:Int))))) (.get (nth p7 (Int.toNat (abs (p0 - (1:Int))))) λy2=> .ite (decide (y2.1≥y1.1)) (.ret (.ret ((false,()),()))) (.ret (.again (((abs (p0+(1:Int))),()),((p1,p2,p3,p4,p5,p6,p7,p8,p9,()),()))))) .fail) (.ret (.again (((abs (p0+(1:Int))),()),((p1,p2,p3,p4,p5,p6,p7,p8,p9,()),()))))) (.ret (.ret ((false,()),())))) (.ret (.ret ((false,()),())))) (.ret (.ret ((false,()),())))) .fail) (.ret (.out ((),())))
def DJ (a0 a1:Int) (a2:List (List ar)) (a3:List af) (a4:List ai) (a5 a6:List ah) (a7 a8:List Int):Out ci:= .ite ((decide (((List.length a4:Nat):Int)>(8:Int)))==false) (.ite ((decide (((List.length a5:Nat):Int)>(3:Int)))==false) (.ite (decide (((List.length a6:Nat):Int)>(6:Int))) (.ret (((false,()),()),((),()))) (.get (iter zt aI (((0:Int),()),((a0,a1,a2,a3,a4,a5,a6,a7,a8,()),()))) λy1=> .alt y1 (λy2=> .get (iter zu aI (((0:Int),()),((y2.2.1.1,y2.2.1.2.1,y2.2.1.2.2.1,y2.2.1.2.2.2.1,y2.2.1.2.2.2.2.1,y2.2.1.2.2.2.2.2.1,y2.2.1.2.2.2.2.2.2.1,y2.2.1.2.2.2.2.2.2.2.1,y2.2.1.2.2.2.2.2.2.2.2.1,()),()))) λy4=> .alt y4 (λy5=> .get (iter zv aI (((0:Int),()),((y5.2.1.1,y5.2.1.2.1,y5.2.1.2.2.1,y5.2.1.2.2.2.1,y5.2.1.2.2.2.2.1,y5.2.1.2.2.2.2.2.1,y5.2.1.2.2.2.2.2.2.1,y5.2.1.2.2.2.2.2.2.2.1,y5.2.1.2.2.2.2.2.2.2.2.1,()),()))) λy7=> .alt y7 (λ_=> .ret (((true,()),()),((),()))) (λy9=> .ret (((y9.1.1,()),()),((),())))) (λy6=> .ret (((y6.1.1,()),()),((),())))) (λy3=> .ret (((y3.1.1,()),()),((),()))))) (.ret (((false,()),()),((),())))) (.ret (((false,()),()),((),())))
def aov:Nat→Option au:=λn=>bw [(0,⟨⟨[.dead, .vptr act 0, .dead, .i .i64]++dd 155,zr⟩,⟨[.dead, .vptr act 0]++dd 157,zr⟩,some ⟨[.dead, .dead, .b]++dd 156,[]⟩,false⟩),(2,⟨⟨[.dead, .vptr act 0, .dead, .dead, .i .i64]++dd 154,zr⟩,⟨[.dead, .vptr act 0]++dd 157,zr⟩,some ⟨[.dead, .dead, .b]++dd 156,[]⟩,false⟩),(4,⟨⟨[.dead, .vptr act 0]++dd 4++[.i .i64]++dd 152,zr⟩,⟨dd 159,[]⟩,some ⟨[.dead, .dead, .b]++dd 156,[]⟩,false⟩)] n
def k29:bK:={ f:=29,lend:=true,aF:=[ws],lay:=[none],rs:=[wn],F:=λx=> .ret ((((im x.1.2.2.2.1 x.1.2.2.2.2.1 x.1.2.2.2.2.2.1 x.1.2.2.2.2.2.2.1),()),()),((),())) }
abbrev aeY:Type:=ac×Unit
abbrev aeZ (x:aeY):=DJ x.1.1 x.1.2.1 x.1.2.2.1 x.1.2.2.2.1 x.1.2.2.2.2.1 x.1.2.2.2.2.2.1 x.1.2.2.2.2.2.2.1 x.1.2.2.2.2.2.2.2.1 x.1.2.2.2.2.2.2.2.2.1
theorem ajA (x:aw k29.aF):bo [k77,wZ,Pp,Sq] aov Tryz.f29 k29 [.tmp 2] x=aeZ x:=by kernel_rfl
theorem ajB (hr:∀ x:aeY,aB k29.aF x→(aeZ x).eval=(k29.F x).eval):k29.Ok acl:=aD [k77,wZ,Pp,Sq] ⟨ajx,kW,IC,DI,trivial⟩ ajA λx hw _ hy=>(hr x hw).trans hy
theorem ajC:k29.Ok acl:=by
 refine ajB λx hw=> ?_;obtain ⟨⟨a0,a1,a2,a3,a4,a5,a6,a7,a8,_⟩,_⟩:=x;have l4:List.length a4≤cj:=hw.1.2.2.1.1;have l5:List.length a5≤cj:=hw.1.2.2.2.1.1;have l6:List.length a6≤cj:=hw.1.2.2.2.2.1.1;show (DJ a0 a1 a2 a3 a4 a5 a6 a7 a8).eval=some ((((im a3 a4 a5 a6),()),()),((),()));unfold DJ;rw [gt8,gt3,gt6];by_cases c1:List.length a4≤8
 case neg=>rw [ae (by simp [c1])];simp [Out.eval,im,c1]
 rw [ab (by simp [c1])];by_cases c2:List.length a5≤3
 case neg=>rw [ae (by simp [c2])];simp [Out.eval,im,c2]
 rw [ab (by simp [c2])];by_cases c3:List.length a6≤6
 case neg=>rw [ab (by simp [c3])];simp [Out.eval,im,c3]
 rw [ae (by simp [c3])];have h1:iter zt aI (((0:Int),()),((a0,a1,a2,a3,a4,a5,a6,a7,a8,()),()))=some (if fH an (kX a3 a5 a6) a4=true then .inl ((),((a0,a1,a2,a3,a4,a5,a6,a7,a8,()),())) else .inr ((false,()),())):=lG (f:=zt) (List.length a4) (xy an (kX a3 a5 a6) a4) (λi=>((((i:Nat):Int),()),((a0,a1,a2,a3,a4,a5,a6,a7,a8,()),()))) (y:=((),((a0,a1,a2,a3,a4,a5,a6,a7,a8,()),()))) (z:=((false,()),()))
  (λi hi=>by
   have w1:=aq (i:=i) (by omega);cases i with
   |zero=>
    rw [jD hi];have w3:decide (((0:Nat):Int)>0)=false:=rfl
    try unfold kX
    try unfold an
    simp only [zt,Out.eval,iZ hi,pQ,bD hi,adN,aed,w1,w3];cases p0:ir a3 a5 a6 a4[0].1 a4[0].2.1 a4[0].2.2.1 a4[0].2.2.2.1 a4[0].2.2.2.2.1<;>rfl
   |succ i=>
    rw [iM hi];have w2:=kz i;have w3:decide (((i+1:Nat):Int)>0)=true:=aac
    try unfold kX
    try unfold an
    simp only [zt,Out.eval,iZ hi,bD hi,adN,aed,w1,w3,bD (show i<List.length a4 by omega),w2,rZ];cases p0:ir a3 a5 a6 a4[i+1].1 a4[i+1].2.1 a4[i+1].2.2.1 a4[i+1].2.2.2.1 a4[i+1].2.2.2.2.1<;>cases p1:decide (a4[i].1<a4[i+1].1)<;>rfl)
  (by simp [zt,Out.eval]) l4
 refine (aa h1).trans ?_;by_cases q1:fH an (kX a3 a5 a6) a4=true
 case neg=>rw [aae q1];simp [Out.eval,im,q1]
 rw [aaZ q1];refine (bG _).trans ?_;dsimp only;have h2:iter zu aI (((0:Int),()),((a0,a1,a2,a3,a4,a5,a6,a7,a8,()),()))=some (if fH aG (ko a4) a5=true then .inl ((),((a0,a1,a2,a3,a4,a5,a6,a7,a8,()),())) else .inr ((false,()),())):=lG (f:=zu) (List.length a5) (xy aG (ko a4) a5) (λi=>((((i:Nat):Int),()),((a0,a1,a2,a3,a4,a5,a6,a7,a8,()),()))) (y:=((),((a0,a1,a2,a3,a4,a5,a6,a7,a8,()),()))) (z:=((false,()),()))
  (λi hi=>by
   have w1:=aq (i:=i) (by omega);cases i with
   |zero=>
    rw [jD hi];have w3:decide (((0:Nat):Int)>0)=false:=rfl
    try unfold ko
    try unfold aG
    simp only [zu,Out.eval,iZ hi,pQ,bD hi,adN,aed,w1,w3,gt4,Ds l4];cases p0:dL a5[0].1 0 2<;>cases p2:decide (List.length a5[0].2.1≤4)<;>cases p3:aH a5[0].2.1<;>cases p4:List.any a4 (fY a5[0].1)<;>rfl
   |succ i=>
    rw [iM hi];have w2:=kz i;have w3:decide (((i+1:Nat):Int)>0)=true:=aac
    try unfold ko
    try unfold aG
    simp only [zu,Out.eval,iZ hi,bD hi,adN,aed,w1,w3,gt4,Ds l4,bD (show i<List.length a5 by omega),w2,rZ];cases p0:dL a5[i+1].1 0 2<;>cases p1:decide (a5[i].1<a5[i+1].1)<;>cases p2:decide (List.length a5[i+1].2.1≤4)<;>cases p3:aH a5[i+1].2.1<;>cases p4:List.any a4 (fY a5[i+1].1)<;>rfl)
  (by simp [zu,Out.eval]) l5
 refine (aa h2).trans ?_;by_cases q2:fH aG (ko a4) a5=true
 case neg=>rw [aae q2];simp [Out.eval,im,q2]
 rw [aaZ q2];refine (bG _).trans ?_;dsimp only;have h3:iter zv aI (((0:Int),()),((a0,a1,a2,a3,a4,a5,a6,a7,a8,()),()))=some (if fH aW fA a6=true then .inl ((),()) else .inr ((false,()),())):=lG (f:=zv) (List.length a6) (xy aW fA a6) (λi=>((((i:Nat):Int),()),((a0,a1,a2,a3,a4,a5,a6,a7,a8,()),()))) (y:=((),())) (z:=((false,()),()))
  (λi hi=>by
   have w1:=aq (i:=i) (by omega);cases i with
   |zero=>
    rw [jD hi];have w3:decide (((0:Nat):Int)>0)=false:=rfl
    try unfold fA
    try unfold aW
    simp only [zv,Out.eval,iZ hi,pQ,bD hi,adN,aed,w1,w3,gt8];cases p0:dL a6[0].1 0 5<;>cases p2:decide (List.length a6[0].2.1≤8)<;>cases p3:aH a6[0].2.1<;>rfl
   |succ i=>
    rw [iM hi];have w2:=kz i;have w3:decide (((i+1:Nat):Int)>0)=true:=aac
    try unfold fA
    try unfold aW
    simp only [zv,Out.eval,iZ hi,bD hi,adN,aed,w1,w3,gt8,bD (show i<List.length a6 by omega),w2,rZ];cases p0:dL a6[i+1].1 0 5<;>cases p1:decide (a6[i].1<a6[i+1].1)<;>cases p2:decide (List.length a6[i+1].2.1≤8)<;>cases p3:aH a6[i+1].2.1<;>rfl)
  (by simp [zv,Out.eval]) l6
 refine (aa h3).trans ?_;by_cases q3:fH aW fA a6=true
 case neg=>simp_all [Out.eval,im]
 simp_all [Out.eval,im]
abbrev VR:=(Int×Int×Unit)×(bA×Unit)
def II:VR→Out (Round VR ((Int×Unit)×(bA×Unit)) ((Bool×Unit)×(Unit)))
|((p0,p1,_),(p2,p3,p4,p5,p6,p7,p8,p9,bL,_),_)=> .ite (decide (p1<((List.length p5:Nat):Int))) (.ite (decide (0≤p1)) (.get (nth p5 (Int.toNat p1)) λy1=> .ite ((y1.2.2.1==(1:Int))) (.ite (decide (0≤p1)) (.get (nth p5 (Int.toNat p1)) λy2=> .ite (!(mF p9 y2.1)) (.ret (.ret ((false,()),()))) (.ret (.again (((abs (p0+(1:Int))),(abs (p1+(1:Int))),()),((p2,p3,p4,p5,p6,p7,p8,p9,bL,()),()))))) .fail) (.ret (.again ((p0,(abs (p1+(1:Int))),()),((p2,p3,p4,p5,p6,p7,p8,p9,bL,()),()))))) .fail) (.ret (.out ((p0,()),((p2,p3,p4,p5,p6,p7,p8,p9,bL,()),()))))
def DK (a0 a1:Int) (a2:List (List ar)) (a3:List af) (a4:List ai) (a5 a6:List ah) (a7 a8:List Int):Out ci:= .get (iter II aI (((0:Int),(0:Int),()),((a0,a1,a2,a3,a4,a5,a6,a7,a8,()),()))) λy1=> .alt y1 (λy2=> .ret (((((y2.1.1==((List.length y2.2.1.2.2.2.2.2.2.2.1:Nat):Int))),()),()),((),()))) (λy3=> .ret (((y3.1.1,()),()),((),())))
abbrev IJ:List (Nat×dT):=[(act, .var [.i .i64, .i .i64, .ro (.sl cT) (some 0), .ro jc (some 1), .ro eF (some 2), .ro dp (some 3), .ro dp (some 4), .ro (.int .i64) (some 5), .ro (.int .i64) (some 6)])]
def aow:Nat→Option au:=λn=>bw [(0,⟨⟨[.dead, .vptr act 0, .dead, .i .i64, .i .i64]++dd 31,IJ⟩,⟨[.dead, .vptr act 0, .dead, .i .i64]++dd 32,IJ⟩,some ⟨[.dead, .dead, .b]++dd 33,[]⟩,false⟩)] n
def DL (rd:List Int) (n:Int) (p:af):Option Int:=if p.2.2.1=1 then (if mF rd p.1=true then some (abs (n+1)) else none) else some n
theorem si (rd:List Int):∀ (ps:List af) (n:Nat),n+ps.length≤9223372036854775807→
  Dq (DL rd) ((n:Nat):Int) ps=if (aN ps).all (mF rd)=true then some ((n+(aN ps).length:Nat):Int) else none
 |[],n,_=>by simp [Dq,aN]
 |p::r,n,h=>by
  rw [aay] at h;simp only [Dq];by_cases hp:p.2.2.1=1
  . have e:aN (p::r)=p.1::aN r:=by simp [aN,mm,hp,aA]
    have eg:DL rd ((n:Nat):Int) p=if mF rd p.1=true then some (abs (((n:Nat):Int)+1)) else none:=aaZ hp
    rw [eg,e,aeB,aay];by_cases hh:mF rd p.1=true
    . rw [aaZ hh,hh,agd]
      have ih:=si rd r (n+1) (by omega);rw [kN (by omega) (by omega),show ((n:Nat):Int)+1=((n+1:Nat):Int) by omega];simp only;rw [ih];congr 2;omega
    . rw [aae hh,Bool.eq_false_iff.2 hh,Bool.false_and,aae (by decide)]
  . have e:aN (p::r)=aN r:=by simp [aN,mm,hp]
    have eg:DL rd ((n:Nat):Int) p=some ((n:Nat):Int):=aae hp;rw [eg,e];simp only;exact si rd r n (by omega)
def k30:bK:={ f:=30,lend:=true,aF:=[ws],lay:=[none],rs:=[wn],F:=λx=> .ret ((((nb x.1.2.2.2.1 x.1.2.2.2.2.2.2.2.1),()),()),((),())) }
abbrev ae1:Type:=ac×Unit
abbrev ae2 (x:ae1):=DK x.1.1 x.1.2.1 x.1.2.2.1 x.1.2.2.2.1 x.1.2.2.2.2.1 x.1.2.2.2.2.2.1 x.1.2.2.2.2.2.2.1 x.1.2.2.2.2.2.2.2.1 x.1.2.2.2.2.2.2.2.2.1
theorem ajD (x:aw k30.aF):bo [Y3] aow Tryz.f30 k30 [.tmp 2] x=ae2 x:=by kernel_rfl
theorem ajE (hr:∀ x:ae1,aB k30.aF x→(ae2 x).eval=(k30.F x).eval):k30.Ok acl:=aD [Y3] ⟨VD,trivial⟩ ajD λx hw _ hy=>(hr x hw).trans hy
theorem ajF:k30.Ok acl:=by
 refine ajE λx hw=> ?_;obtain ⟨⟨a0,a1,a2,a3,a4,a5,a6,a7,a8,_⟩,_⟩:=x;have l3:List.length a3≤cj:=hw.1.2.1.1;show (DK a0 a1 a2 a3 a4 a5 a6 a7 a8).eval=some ((((nb a3 a7),()),()),((),()));unfold DK nb;have h:=Rn (f:=II) a3 (DL a7) (λ_ _=>True) (λd i=>((d,((i:Nat):Int),()),((a0,a1,a2,a3,a4,a5,a6,a7,a8,()),()))) (λd=>((d,()),((a0,a1,a2,a3,a4,a5,a6,a7,a8,()),()))) ((false,()),())
  (λ_ _ _ _ _ _=>trivial)
  (λi hi d _=>by
   have h1:=aq (i:=i) (by omega);unfold DL;by_cases q:a3[i].2.2.1=1<;>cases q2:mF a7 a3[i].1<;>simp [II,Out.eval,hi,h1,cond_eq_ite,q,q2])
  (λd _=>by simp [II,Out.eval]) l3 (d:=0) trivial
 have e:=si a7 a3 0 (by have:List.length a3≤9223372036854775807:=l3;omega);rw [show (((0:Nat):Int))=0 from rfl] at e;rw [e] at h;refine (aa h).trans ?_;by_cases q:List.all (aN a3) (mF a7)=true
 . rw [aaZ q,q,aeS,agd]
   refine (bG _).trans ?_;have e2:(((List.length (aN a3):Nat):Int)==((List.length a7:Nat):Int))=decide (List.length (aN a3)=List.length a7):=by rw [aeA];simp;omega
   dsimp only;rw [e2];rfl
 . rw [aae q,Bool.eq_false_iff.2 q];rfl
abbrev ae3:=(Int×Unit)×(bA×Unit)
def GJ:ae3→Out (Round ae3 ((Unit)×(bA×Unit)) ((Bool×Unit)×(Unit)))
|((p0,_),(p1,p2,p3,p4,p5,p6,p7,p8,p9,_),_)=> .ite (decide (p0<((List.length p4:Nat):Int))) (.ite (decide (0≤p0)) (.get (nth p4 (Int.toNat p0)) λy1=> .ite ((!(dL y1.1 (1:Int) (abs (p1 - (1:Int)))))==false) (.ite ((decide (p0>(0:Int)))==true) (.ite (decide (0≤(abs (p0 - (1:Int))))) (.get (nth p4 (Int.toNat (abs (p0 - (1:Int))))) λy2=> .ite ((decide (y2.1≥y1.1))==false) (.ite (!(fZ p2 p3 p4 p5 y1.1 y1.2.1 y1.2.2.1 y1.2.2.2.1 y1.2.2.2.2.1.1 y1.2.2.2.2.1.2.1 y1.2.2.2.2.2.1 y1.2.2.2.2.2.2.1 y1.2.2.2.2.2.2.2.1 y1.2.2.2.2.2.2.2.2.1)) (.ret (.ret ((false,()),()))) (.ret (.again (((abs (p0+(1:Int))),()),((p1,p2,p3,p4,p5,p6,p7,p8,p9,()),()))))) (.ret (.ret ((false,()),())))) .fail) (.ite (!(fZ p2 p3 p4 p5 y1.1 y1.2.1 y1.2.2.1 y1.2.2.2.1 y1.2.2.2.2.1.1 y1.2.2.2.2.1.2.1 y1.2.2.2.2.2.1 y1.2.2.2.2.2.2.1 y1.2.2.2.2.2.2.2.1 y1.2.2.2.2.2.2.2.2.1)) (.ret (.ret ((false,()),()))) (.ret (.again (((abs (p0+(1:Int))),()),((p1,p2,p3,p4,p5,p6,p7,p8,p9,()),())))))) (.ret (.ret ((false,()),())))) .fail) (.ret (.out ((),((p1,p2,p3,p4,p5,p6,p7,p8,p9,()),()))))
def IK (a0 a1:Int) (a2:List (List ar)) (a3:List af) (a4:List ai) (a5 a6:List ah) (a7 a8:List Int):Out ci:= .ite ((!(dL a0 (1:Int) (100000:Int)))==false) (.ite ((!(dL a1 (0:Int) (1000000:Int)))==false) (.ite ((!(cH a2))==false) (.ite ((decide (((List.length a8:Nat):Int)>(60:Int)))==false) (.ite ((!(aH a8))==false) (.ite ((decide (((List.length a3:Nat):Int)>(6:Int)))==false) (.ite (decide ((oL a3)>(16:Int))) (.ret (((false,()),()),((),()))) (.get (iter GJ aI (((0:Int),()),((a0,a1,a2,a3,a4,a5,a6,a7,a8,()),()))) λy1=> .alt y1 (λy2=> .ite ((im y2.2.1.2.2.2.1 y2.2.1.2.2.2.2.1 y2.2.1.2.2.2.2.2.1 y2.2.1.2.2.2.2.2.2.1)==true) (.ret ((((nb y2.2.1.2.2.2.1 y2.2.1.2.2.2.2.2.2.2.1),()),()),((),()))) (.ret (((false,()),()),((),())))) (λy3=> .ret (((y3.1.1,()),()),((),()))))) (.ret (((false,()),()),((),())))) (.ret (((false,()),()),((),())))) (.ret (((false,()),()),((),())))) (.ret (((false,()),()),((),())))) (.ret (((false,()),()),((),())))) (.ret (((false,()),()),((),())))
def arN:Nat→Option au:=λn=>bw [(0,⟨⟨[.dead, .vptr act 0, .dead, .i .i64]++dd 87,IJ⟩,⟨[.dead, .vptr act 0]++dd 89,IJ⟩,some ⟨[.dead, .dead, .b]++dd 88,[]⟩,false⟩)] n
def k8:bK:={ f:=8,lend:=true,aF:=[ws],lay:=[none],rs:=[wn],F:=λx=> .ret ((((cw x.1.1 x.1.2.1 x.1.2.2.1 x.1.2.2.2.1 x.1.2.2.2.2.1 x.1.2.2.2.2.2.1 x.1.2.2.2.2.2.2.1 x.1.2.2.2.2.2.2.2.1 x.1.2.2.2.2.2.2.2.2.1),()),()),((),())) }
abbrev aox:Type:=ac×Unit
abbrev aoy (x:aox):=IK x.1.1 x.1.2.1 x.1.2.2.1 x.1.2.2.2.1 x.1.2.2.2.2.1 x.1.2.2.2.2.2.1 x.1.2.2.2.2.2.2.1 x.1.2.2.2.2.2.2.2.1 x.1.2.2.2.2.2.2.2.2.1
theorem aoz (x:aw k8.aF):bo [wZ,Z2,Pp,k27,k28,k29,k30] arN Tryz.f8 k8 [.tmp 2] x=aoy x:=by kernel_rfl
theorem aoA (hr:∀ x:aox,aB k8.aF x→(aoy x).eval=(k8.F x).eval):k8.Ok acl:=aD [wZ,Z2,Pp,k27,k28,k29,k30] ⟨kW,UA,IC,VF,aju,ajC,ajF,trivial⟩ aoz λx hw _ hy=>(hr x hw).trans hy
theorem ad8:k8.Ok acl:=by
 refine aoA λx hw=> ?_;obtain ⟨⟨a0,a1,a2,a3,a4,a5,a6,a7,a8,_⟩,_⟩:=x;have l3:List.length a3≤cj:=hw.1.2.1.1;show (IK a0 a1 a2 a3 a4 a5 a6 a7 a8).eval=some ((((cw a0 a1 a2 a3 a4 a5 a6 a7 a8),()),()),((),()));unfold IK;rw [aom,gt6];by_cases c1:dL a0 1 100000=true
 case neg=>rw [ae (by simp [c1])];simp [Out.eval,cw,c1]
 rw [ab (by simp [c1])];by_cases c2:dL a1 0 1000000=true
 case neg=>rw [ae (by simp [c2])];simp [Out.eval,cw,c2]
 rw [ab (by simp [c2])];by_cases c3:cH a2=true
 case neg=>rw [ae (by simp [c3])];simp [Out.eval,cw,c3]
 rw [ab (by simp [c3])];by_cases c4:List.length a8≤60
 case neg=>rw [ae (by simp [c4])];simp [Out.eval,cw,c4]
 rw [ab (by simp [c4])];by_cases c5:aH a8=true
 case neg=>rw [ae (by simp [c5])];simp [Out.eval,cw,c5]
 rw [ab (by simp [c5])];by_cases c6:List.length a3≤6
 case neg=>rw [ae (by simp [c6])];simp [Out.eval,cw,c6]
 rw [ab (by simp [c6])];by_cases c7:oL a3≤16
 case neg=>rw [ab (by rw [aac])];simp [Out.eval,cw,c7]
 rw [ae (by simp [c7])];have h:iter GJ aI (((0:Int),()),((a0,a1,a2,a3,a4,a5,a6,a7,a8,()),()))=some (if fH aA (fL a0 a1 (List.length a2) a3 a4) a3=true then .inl ((),((a0,a1,a2,a3,a4,a5,a6,a7,a8,()),())) else .inr ((false,()),())):=lG (f:=GJ) (List.length a3) (xy aA (fL a0 a1 (List.length a2) a3 a4) a3) (λi=>((((i:Nat):Int),()),((a0,a1,a2,a3,a4,a5,a6,a7,a8,()),()))) (y:=((),((a0,a1,a2,a3,a4,a5,a6,a7,a8,()),()))) (z:=((false,()),()))
  (λi hi=>by
   have w1:=aq (i:=i) (by omega);cases i with
   |zero=>
    rw [jD hi];have w3:decide (((0:Nat):Int)>0)=false:=rfl
    try unfold fL
    try unfold sg
    try unfold aA
    simp only [GJ,Out.eval,iZ hi,pQ,bD hi,adN,aed,w1,w3,fZ];cases p0:dL a3[0].1 1 (abs (a0 - 1))<;>cases p2:dG a1 (List.length a2) a3 a4 a3[0].1 a3[0].2.1 a3[0].2.2.1 a3[0].2.2.2.1 a3[0].2.2.2.2.1.1 a3[0].2.2.2.2.1.2.1 a3[0].2.2.2.2.2.1 a3[0].2.2.2.2.2.2.1 a3[0].2.2.2.2.2.2.2.1 a3[0].2.2.2.2.2.2.2.2.1<;>rfl
   |succ i=>
    rw [iM hi];have w2:=kz i;have w3:decide (((i+1:Nat):Int)>0)=true:=aac
    try unfold fL
    try unfold sg
    try unfold aA
    simp only [GJ,Out.eval,iZ hi,bD hi,adN,aed,w1,w3,fZ,bD (show i<List.length a3 by omega),w2,rZ];cases p0:dL a3[i+1].1 1 (abs (a0 - 1))<;>cases p1:decide (a3[i].1<a3[i+1].1)<;>cases p2:dG a1 (List.length a2) a3 a4 a3[i+1].1 a3[i+1].2.1 a3[i+1].2.2.1 a3[i+1].2.2.2.1 a3[i+1].2.2.2.2.1.1 a3[i+1].2.2.2.2.1.2.1 a3[i+1].2.2.2.2.2.1 a3[i+1].2.2.2.2.2.2.1 a3[i+1].2.2.2.2.2.2.2.1 a3[i+1].2.2.2.2.2.2.2.2.1<;>rfl)
  (by simp [GJ,Out.eval]) l3
 refine (aa h).trans ?_;by_cases q:fH aA (fL a0 a1 (List.length a2) a3 a4) a3=true
 case neg=>rw [aae q];simp [Out.eval,cw,q]
 rw [aaZ q];refine (bG _).trans ?_;dsimp only;unfold cw;rw [c1,c2,c3,aac c4,c5,aac c6,aac c7,q];cases im a3 a4 a5 a6<;>cases nb a3 a7<;>rfl
def lS (pid v:Int):Bool×Int:=(pid==v,v)
def zw (a0 _ _ _ _:Int) (_ _ _:List Int) (_ _ fG:Int):Out ip:= .ret (((((a0==fG)),()),()),((),(fG,()),()))
def Le:bK:={ f:=133,lend:=true,aF:=[Fn,AC],lay:=[none,none],rs:=[wn],F:=λx=> .ret ((((lS x.1.1 x.2.1.1).1,()),()),((),((lS x.1.1 x.2.1.1).2,()),())) }
abbrev VS:Type:=XM×(Int×Unit)×Unit
abbrev VT (x:VS):=zw x.1.1 x.1.2.1 x.1.2.2.1 x.1.2.2.2.1 x.1.2.2.2.2.1 x.1.2.2.2.2.2.1 x.1.2.2.2.2.2.2.1 x.1.2.2.2.2.2.2.2.1 x.1.2.2.2.2.2.2.2.2.1 x.1.2.2.2.2.2.2.2.2.2.1 x.2.1.1
theorem aa8 (x:aw Le.aF):bo [] (λ_=>none) Tryz.f133 Le [.tmp 3] x=VT x:=by kernel_rfl
theorem aa9 (hr:∀ x:VS,aB Le.aF x→(VT x).eval=(Le.F x).eval):Le.Ok acl:=aD [] trivial aa8 λx hw _ hy=>(hr x hw).trans hy
theorem aba:Le.Ok acl:=by
 refine aa9 λx hw=> ?_;obtain ⟨⟨a0,a1,a2,a3,a4,a5,a6,a7,a8,a9,_⟩,⟨fG,_⟩,_⟩:=x;show (zw a0 a1 a2 a3 a4 a5 a6 a7 a8 a9 fG).eval=some ((((lS a0 fG).1,()),()),((),((lS a0 fG).2,()),()));grind [zw,lS,Out.eval]
def nq (a:List af) (v:Int):Int×Int:=(al a v,v)
abbrev Lf:=XS×((Int×Unit)×Unit)
def pn:Lf→Out (Round Lf up rg)
|((p0,p1,p2,_),(p3,_),_)=> .ite (decide (p2<p1)) (.ite (decide (0≤p2)) (.get (nth p0 (Int.toNat p2)) λy1=> .ite ((lS y1.1 p3).1) (.ret (.ret ((p2,()),(((lS y1.1 p3).2,()),())))) (.ret (.again ((p0,p1,(abs (p2+(1:Int))),()),(((lS y1.1 p3).2,()),()))))) .fail) (.ret (.out ((),((p3,()),()))))
def qx (a0:List af) (a1:Int):Out mp:= .get (iter pn aI ((a0,((List.length a0:Nat):Int),(0:Int),()),((a1,()),()))) λy1=> .alt y1 (λy2=> .ret ((((-1:Int),()),()),((),(y2.2.1.1,()),()))) (λy3=> .ret (((y3.1.1,()),()),((),(y3.2.1.1,()),())))
def abb:Nat→Option au:=λn=>bw [(0,⟨⟨[.ro jc (some 0), .fn 133 [1]]++dd 5++[.i .i64, .i .i64]++dd 10,[(1, .var [.i .i64])]⟩,⟨[.dead, .fn 133 [1]]++dd 17,[(1, .var [.i .i64])]⟩,some ⟨[.dead, .fn 133 [1], .dead, .dead, .i .i64]++dd 14,[(1, .var [.i .i64])]⟩,false⟩)] n
def Az:bK:={ f:=132,lend:=true,aF:=[⟨false,false,[.ro jc]⟩,AC],lay:=[none,some (133,1)],rs:=[wl],F:=λx=> .ret ((((nq x.1.1 x.2.1.1).1,()),()),((),((nq x.1.1 x.2.1.1).2,()),())) }
theorem VU (x:aw Az.aF):bo [Le] abb Tryz.f132 Az [.tmp 4] x=qx x.1.1 x.2.1.1:=by kernel_rfl
theorem VV (hr:∀ x:(List af×Unit)×(Int×Unit)×Unit,aB Az.aF x→(qx x.1.1 x.2.1.1).eval=(Az.F x).eval):Az.Ok acl:=aD [Le] ⟨aba,trivial⟩ VU λx hw _ hy=>(hr x hw).trans hy
theorem VW:Az.Ok acl:=by
 refine VV λx hw=> ?_;obtain ⟨⟨a0,_⟩,⟨a1,_⟩,_⟩:=x;have l0:List.length a0≤cj:=hw.1.1.1;show (qx a0 a1).eval=some ((((nq a0 a1).1,()),()),((),((nq a0 a1).2,()),()));unfold qx nq al dM iT;have h:iter pn aI ((a0,((List.length a0:Nat):Int),(0:Int),()),((a1,()),()))=some (match List.findIdx? (λx=>aA x==a1) a0 with|some i=> .inr ((((i:Nat):Int),()),((a1,()),()))|none=> .inl ((),((a1,()),()))):=ei (f:=pn) a0 (λx=>aA x==a1) (λi=>((a0,((List.length a0:Nat):Int),((i:Nat):Int),()),((a1,()),()))) (y:=((),((a1,()),()))) (z:=λi=>((((i:Nat):Int),()),((a1,()),())))
  (by grind [aq,pn,Out.eval,aA,lS])
  (by grind [pn,Out.eval,aA,lS])
  (by simp [pn,Out.eval]) l0
 refine (aa h).trans ?_;cases List.findIdx? (λx=>aA x==a1) a0<;>rfl
def zx (_ _:Int) (_:List (List ar)) (a3:List af) (_:List ai) (_ _:List ah) (_ _:List Int) (a9:Int):Out (((Int×Unit)×Unit)×XI):= .ret ((((nq a3 a9).1,()),()),((),(),()))
def Lg:bK:={ f:=100,lend:=true,aF:=[ws,wl],lay:=[none,none],rs:=[wl],F:=λx=> .ret ((((al x.1.2.2.2.1 x.2.1.1),()),()),((),(),())) }
abbrev VX:Type:=ac×(Int×Unit)×Unit
abbrev VY (x:VX):=zx x.1.1 x.1.2.1 x.1.2.2.1 x.1.2.2.2.1 x.1.2.2.2.2.1 x.1.2.2.2.2.2.1 x.1.2.2.2.2.2.2.1 x.1.2.2.2.2.2.2.2.1 x.1.2.2.2.2.2.2.2.2.1 x.2.1.1
theorem abc (x:aw Lg.aF):bo [Az] (λ_=>none) Tryz.f100 Lg [.tmp 4] x=VY x:=by kernel_rfl
theorem abd (hr:∀ x:VX,aB Lg.aF x→(VY x).eval=(Lg.F x).eval):Lg.Ok acl:=aD [Az] ⟨VW,trivial⟩ abc λx hw _ hy=>(hr x hw).trans hy
theorem abe:Lg.Ok acl:=by
 refine abd λx hw=> ?_;obtain ⟨⟨a0,a1,a2,a3,a4,a5,a6,a7,a8,_⟩,⟨a9,_⟩,_⟩:=x;show (zx a0 a1 a2 a3 a4 a5 a6 a7 a8 a9).eval=some ((((al a3 a9),()),()),((),(),()));grind [zx,nq,Out.eval]
def lT (id v:Int):Bool×Int:=(id==v,v)
def tF (a0 _ _ _ _ a5:Int):Out ip:= .ret (((((a0==a5)),()),()),((),(a5,()),()))
def Lh:bK:={ f:=136,lend:=true,aF:=[Fr,AC],lay:=[none,none],rs:=[wn],F:=λx=> .ret ((((lT x.1.1 x.2.1.1).1,()),()),((),((lT x.1.1 x.2.1.1).2,()),())) }
theorem abf (x:aw Lh.aF):bo [] (λ_=>none) Tryz.f136 Lh [.tmp 3] x=tF x.1.1 x.1.2.1 x.1.2.2.1 x.1.2.2.2.1 x.1.2.2.2.2.1 x.2.1.1:=by kernel_rfl
theorem abg (hr:∀ x:ai×(Int×Unit)×Unit,aB Lh.aF x→(tF x.1.1 x.1.2.1 x.1.2.2.1 x.1.2.2.2.1 x.1.2.2.2.2.1 x.2.1.1).eval=(Lh.F x).eval):Lh.Ok acl:=aD [] trivial abf λx hw _ hy=>(hr x hw).trans hy
theorem abh:Lh.Ok acl:=by
 refine abg λx hw=> ?_;obtain ⟨⟨a0,a1,a2,a3,a4,_⟩,⟨a5,_⟩,_⟩:=x;show (tF a0 a1 a2 a3 a4 a5).eval=some ((((lT a0 a5).1,()),()),((),((lT a0 a5).2,()),()));grind [tF,lT,Out.eval]
def nr (a:List ai) (v:Int):Int×Int:=(aM a v,v)
abbrev Li:=(List ai×Int×Int×Unit)×((Int×Unit)×Unit)
def po:Li→Out (Round Li up rg)
|((p0,p1,p2,_),(p3,_),_)=> .ite (decide (p2<p1)) (.ite (decide (0≤p2)) (.get (nth p0 (Int.toNat p2)) λy1=> .ite ((lT y1.1 p3).1) (.ret (.ret ((p2,()),(((lT y1.1 p3).2,()),())))) (.ret (.again ((p0,p1,(abs (p2+(1:Int))),()),(((lT y1.1 p3).2,()),()))))) .fail) (.ret (.out ((),((p3,()),()))))
def qy (a0:List ai) (a1:Int):Out mp:= .get (iter po aI ((a0,((List.length a0:Nat):Int),(0:Int),()),((a1,()),()))) λy1=> .alt y1 (λy2=> .ret ((((-1:Int),()),()),((),(y2.2.1.1,()),()))) (λy3=> .ret (((y3.1.1,()),()),((),(y3.2.1.1,()),())))
def abi:Nat→Option au:=λn=>bw [(0,⟨⟨[.ro eF (some 0), .fn 136 [1]]++dd 5++[.i .i64, .i .i64]++dd 10,[(1, .var [.i .i64])]⟩,⟨[.dead, .fn 136 [1]]++dd 17,[(1, .var [.i .i64])]⟩,some ⟨[.dead, .fn 136 [1], .dead, .dead, .i .i64]++dd 14,[(1, .var [.i .i64])]⟩,false⟩)] n
def AA:bK:={ f:=135,lend:=true,aF:=[LE,AC],lay:=[none,some (136,1)],rs:=[wl],F:=λx=> .ret ((((nr x.1.1 x.2.1.1).1,()),()),((),((nr x.1.1 x.2.1.1).2,()),())) }
theorem VZ (x:aw AA.aF):bo [Lh] abi Tryz.f135 AA [.tmp 4] x=qy x.1.1 x.2.1.1:=by kernel_rfl
theorem V0 (hr:∀ x:(List ai×Unit)×(Int×Unit)×Unit,aB AA.aF x→(qy x.1.1 x.2.1.1).eval=(AA.F x).eval):AA.Ok acl:=aD [Lh] ⟨abh,trivial⟩ VZ λx hw _ hy=>(hr x hw).trans hy
theorem V1:AA.Ok acl:=by
 refine V0 λx hw=> ?_;obtain ⟨⟨a0,_⟩,⟨a1,_⟩,_⟩:=x;have l0:List.length a0≤cj:=hw.1.1.1;show (qy a0 a1).eval=some ((((nr a0 a1).1,()),()),((),((nr a0 a1).2,()),()));unfold qy nr aM dM iT;have h:iter po aI ((a0,((List.length a0:Nat):Int),(0:Int),()),((a1,()),()))=some (match List.findIdx? (λx=>an x==a1) a0 with|some i=> .inr ((((i:Nat):Int),()),((a1,()),()))|none=> .inl ((),((a1,()),()))):=ei (f:=po) a0 (λx=>an x==a1) (λi=>((a0,((List.length a0:Nat):Int),((i:Nat):Int),()),((a1,()),()))) (y:=((),((a1,()),()))) (z:=λi=>((((i:Nat):Int),()),((a1,()),())))
  (by grind [aq,po,Out.eval,an,lT])
  (by grind [po,Out.eval,an,lT])
  (by simp [po,Out.eval]) l0
 refine (aa h).trans ?_;cases List.findIdx? (λx=>an x==a1) a0<;>rfl
def zy (_ _:Int) (_:List (List ar)) (_:List af) (a4:List ai) (_ _:List ah) (_ _:List Int) (a9:Int):Out (((Int×Unit)×Unit)×XI):= .ret ((((nr a4 a9).1,()),()),((),(),()))
def Fs:bK:={ f:=103,lend:=true,aF:=[ws,wl],lay:=[none,none],rs:=[wl],F:=λx=> .ret ((((aM x.1.2.2.2.2.1 x.2.1.1),()),()),((),(),())) }
abbrev V2:Type:=ac×(Int×Unit)×Unit
abbrev V3 (x:V2):=zy x.1.1 x.1.2.1 x.1.2.2.1 x.1.2.2.2.1 x.1.2.2.2.2.1 x.1.2.2.2.2.2.1 x.1.2.2.2.2.2.2.1 x.1.2.2.2.2.2.2.2.1 x.1.2.2.2.2.2.2.2.2.1 x.2.1.1
theorem abj (x:aw Fs.aF):bo [AA] (λ_=>none) Tryz.f103 Fs [.tmp 4] x=V3 x:=by kernel_rfl
theorem abk (hr:∀ x:V2,aB Fs.aF x→(V3 x).eval=(Fs.F x).eval):Fs.Ok acl:=aD [AA] ⟨V1,trivial⟩ abj λx hw _ hy=>(hr x hw).trans hy
theorem PC:Fs.Ok acl:=by
 refine abk λx hw=> ?_;obtain ⟨⟨a0,a1,a2,a3,a4,a5,a6,a7,a8,_⟩,⟨a9,_⟩,_⟩:=x;show (zy a0 a1 a2 a3 a4 a5 a6 a7 a8 a9).eval=some ((((aM a4 a9),()),()),((),(),()));grind [zy,nr,Out.eval]
def lU (id v:Int):Bool×Int:=(id==v,v)
def tG (a0:Int) (_:List Int) (a2:Int):Out ip:= .ret (((((a0==a2)),()),()),((),(a2,()),()))
def Lj:bK:={ f:=140,lend:=true,aF:=[If,AC],lay:=[none,none],rs:=[wn],F:=λx=> .ret ((((lU x.1.1 x.2.1.1).1,()),()),((),((lU x.1.1 x.2.1.1).2,()),())) }
theorem abl (x:aw Lj.aF):bo [] (λ_=>none) Tryz.f140 Lj [.tmp 3] x=tG x.1.1 x.1.2.1 x.2.1.1:=by kernel_rfl
theorem abm (hr:∀ x:ah×(Int×Unit)×Unit,aB Lj.aF x→(tG x.1.1 x.1.2.1 x.2.1.1).eval=(Lj.F x).eval):Lj.Ok acl:=aD [] trivial abl λx hw _ hy=>(hr x hw).trans hy
theorem abn:Lj.Ok acl:=by
 refine abm λx hw=> ?_;obtain ⟨⟨a0,a1,_⟩,⟨a2,_⟩,_⟩:=x;show (tG a0 a1 a2).eval=some ((((lU a0 a2).1,()),()),((),((lU a0 a2).2,()),()));grind [tG,lU,Out.eval]
def nt (a:List fq) (v:Int):Int×Int:=(bq a v,v)
abbrev Lk:=(List ah×Int×Int×Unit)×((Int×Unit)×Unit)
def pq:Lk→Out (Round Lk up rg)
|((p0,p1,p2,_),(p3,_),_)=> .ite (decide (p2<p1)) (.ite (decide (0≤p2)) (.get (nth p0 (Int.toNat p2)) λy1=> .ite ((lU y1.1 p3).1) (.ret (.ret ((p2,()),(((lU y1.1 p3).2,()),())))) (.ret (.again ((p0,p1,(abs (p2+(1:Int))),()),(((lU y1.1 p3).2,()),()))))) .fail) (.ret (.out ((),((p3,()),()))))
def qz (a0:List ah) (a1:Int):Out mp:= .get (iter pq aI ((a0,((List.length a0:Nat):Int),(0:Int),()),((a1,()),()))) λy1=> .alt y1 (λy2=> .ret ((((-1:Int),()),()),((),(y2.2.1.1,()),()))) (λy3=> .ret (((y3.1.1,()),()),((),(y3.2.1.1,()),())))
def abo:Nat→Option au:=λn=>bw [(0,⟨⟨[.ro dp (some 0), .fn 140 [1]]++dd 5++[.i .i64, .i .i64]++dd 10,[(1, .var [.i .i64])]⟩,⟨[.dead, .fn 140 [1]]++dd 17,[(1, .var [.i .i64])]⟩,some ⟨[.dead, .fn 140 [1], .dead, .dead, .i .i64]++dd 14,[(1, .var [.i .i64])]⟩,false⟩)] n
def AB:bK:={ f:=139,lend:=true,aF:=[FS,AC],lay:=[none,some (140,1)],rs:=[wl],F:=λx=> .ret ((((nt x.1.1 x.2.1.1).1,()),()),((),((nt x.1.1 x.2.1.1).2,()),())) }
theorem V4 (x:aw AB.aF):bo [Lj] abo Tryz.f139 AB [.tmp 4] x=qz x.1.1 x.2.1.1:=by kernel_rfl
theorem V5 (hr:∀ x:(List ah×Unit)×(Int×Unit)×Unit,aB AB.aF x→(qz x.1.1 x.2.1.1).eval=(AB.F x).eval):AB.Ok acl:=aD [Lj] ⟨abn,trivial⟩ V4 λx hw _ hy=>(hr x hw).trans hy
theorem V6:AB.Ok acl:=by
 refine V5 λx hw=> ?_;obtain ⟨⟨a0,_⟩,⟨a1,_⟩,_⟩:=x;have l0:List.length a0≤cj:=hw.1.1.1;show (qz a0 a1).eval=some ((((nt a0 a1).1,()),()),((),((nt a0 a1).2,()),()));unfold qz nt bq dM iT;have h:iter pq aI ((a0,((List.length a0:Nat):Int),(0:Int),()),((a1,()),()))=some (match List.findIdx? (λx=>aG x==a1) a0 with|some i=> .inr ((((i:Nat):Int),()),((a1,()),()))|none=> .inl ((),((a1,()),()))):=ei (f:=pq) a0 (λx=>aG x==a1) (λi=>((a0,((List.length a0:Nat):Int),((i:Nat):Int),()),((a1,()),()))) (y:=((),((a1,()),()))) (z:=λi=>((((i:Nat):Int),()),((a1,()),())))
  (by grind [aq,pq,Out.eval,aG,lU])
  (by grind [pq,Out.eval,aG,lU])
  (by simp [pq,Out.eval]) l0
 refine (aa h).trans ?_;cases List.findIdx? (λx=>aG x==a1) a0<;>rfl
def zz (_ _:Int) (_:List (List ar)) (_:List af) (_:List ai) (a5 _:List ah) (_ _:List Int) (a9:Int):Out (((Int×Unit)×Unit)×XI):= .ret ((((nt a5 a9).1,()),()),((),(),()))
def Ll:bK:={ f:=107,lend:=true,aF:=[ws,wl],lay:=[none,none],rs:=[wl],F:=λx=> .ret ((((bq x.1.2.2.2.2.2.1 x.2.1.1),()),()),((),(),())) }
abbrev V7:Type:=ac×(Int×Unit)×Unit
abbrev V8 (x:V7):=zz x.1.1 x.1.2.1 x.1.2.2.1 x.1.2.2.2.1 x.1.2.2.2.2.1 x.1.2.2.2.2.2.1 x.1.2.2.2.2.2.2.1 x.1.2.2.2.2.2.2.2.1 x.1.2.2.2.2.2.2.2.2.1 x.2.1.1
theorem abp (x:aw Ll.aF):bo [AB] (λ_=>none) Tryz.f107 Ll [.tmp 4] x=V8 x:=by kernel_rfl
theorem abq (hr:∀ x:V7,aB Ll.aF x→(V8 x).eval=(Ll.F x).eval):Ll.Ok acl:=aD [AB] ⟨V6,trivial⟩ abp λx hw _ hy=>(hr x hw).trans hy
theorem abr:Ll.Ok acl:=by
 refine abq λx hw=> ?_;obtain ⟨⟨a0,a1,a2,a3,a4,a5,a6,a7,a8,_⟩,⟨a9,_⟩,_⟩:=x;show (zz a0 a1 a2 a3 a4 a5 a6 a7 a8 a9).eval=some ((((bq a5 a9),()),()),((),(),()));grind [zz,nt,Out.eval]
def lV (id v:Int):Bool×Int:=(id==v,v)
def tH (a0:Int) (_:List Int) (a2:Int):Out ip:= .ret (((((a0==a2)),()),()),((),(a2,()),()))
def Lm:bK:={ f:=138,lend:=true,aF:=[If,AC],lay:=[none,none],rs:=[wn],F:=λx=> .ret ((((lV x.1.1 x.2.1.1).1,()),()),((),((lV x.1.1 x.2.1.1).2,()),())) }
theorem abt (x:aw Lm.aF):bo [] (λ_=>none) Tryz.f138 Lm [.tmp 3] x=tH x.1.1 x.1.2.1 x.2.1.1:=by kernel_rfl
theorem abu (hr:∀ x:ah×(Int×Unit)×Unit,aB Lm.aF x→(tH x.1.1 x.1.2.1 x.2.1.1).eval=(Lm.F x).eval):Lm.Ok acl:=aD [] trivial abt λx hw _ hy=>(hr x hw).trans hy
theorem abv:Lm.Ok acl:=by
 refine abu λx hw=> ?_;obtain ⟨⟨a0,a1,_⟩,⟨a2,_⟩,_⟩:=x;show (tH a0 a1 a2).eval=some ((((lV a0 a2).1,()),()),((),((lV a0 a2).2,()),()));grind [tH,lV,Out.eval]
def nu (a:List cB) (v:Int):Int×Int:=(br a v,v)
abbrev Ln:=(List ah×Int×Int×Unit)×((Int×Unit)×Unit)
def pt:Ln→Out (Round Ln up rg)
|((p0,p1,p2,_),(p3,_),_)=> .ite (decide (p2<p1)) (.ite (decide (0≤p2)) (.get (nth p0 (Int.toNat p2)) λy1=> .ite ((lV y1.1 p3).1) (.ret (.ret ((p2,()),(((lV y1.1 p3).2,()),())))) (.ret (.again ((p0,p1,(abs (p2+(1:Int))),()),(((lV y1.1 p3).2,()),()))))) .fail) (.ret (.out ((),((p3,()),()))))
def qA (a0:List ah) (a1:Int):Out mp:= .get (iter pt aI ((a0,((List.length a0:Nat):Int),(0:Int),()),((a1,()),()))) λy1=> .alt y1 (λy2=> .ret ((((-1:Int),()),()),((),(y2.2.1.1,()),()))) (λy3=> .ret (((y3.1.1,()),()),((),(y3.2.1.1,()),())))
def abw:Nat→Option au:=λn=>bw [(0,⟨⟨[.ro dp (some 0), .fn 138 [1]]++dd 5++[.i .i64, .i .i64]++dd 10,[(1, .var [.i .i64])]⟩,⟨[.dead, .fn 138 [1]]++dd 17,[(1, .var [.i .i64])]⟩,some ⟨[.dead, .fn 138 [1], .dead, .dead, .i .i64]++dd 14,[(1, .var [.i .i64])]⟩,false⟩)] n
def AD:bK:={ f:=137,lend:=true,aF:=[FS,AC],lay:=[none,some (138,1)],rs:=[wl],F:=λx=> .ret ((((nu x.1.1 x.2.1.1).1,()),()),((),((nu x.1.1 x.2.1.1).2,()),())) }
theorem V9 (x:aw AD.aF):bo [Lm] abw Tryz.f137 AD [.tmp 4] x=qA x.1.1 x.2.1.1:=by kernel_rfl
theorem Wa (hr:∀ x:(List ah×Unit)×(Int×Unit)×Unit,aB AD.aF x→(qA x.1.1 x.2.1.1).eval=(AD.F x).eval):AD.Ok acl:=aD [Lm] ⟨abv,trivial⟩ V9 λx hw _ hy=>(hr x hw).trans hy
theorem Wb:AD.Ok acl:=by
 refine Wa λx hw=> ?_;obtain ⟨⟨a0,_⟩,⟨a1,_⟩,_⟩:=x;have l0:List.length a0≤cj:=hw.1.1.1;show (qA a0 a1).eval=some ((((nu a0 a1).1,()),()),((),((nu a0 a1).2,()),()));unfold qA nu br dM iT;have h:iter pt aI ((a0,((List.length a0:Nat):Int),(0:Int),()),((a1,()),()))=some (match List.findIdx? (λx=>aW x==a1) a0 with|some i=> .inr ((((i:Nat):Int),()),((a1,()),()))|none=> .inl ((),((a1,()),()))):=ei (f:=pt) a0 (λx=>aW x==a1) (λi=>((a0,((List.length a0:Nat):Int),((i:Nat):Int),()),((a1,()),()))) (y:=((),((a1,()),()))) (z:=λi=>((((i:Nat):Int),()),((a1,()),())))
  (by grind [aq,pt,Out.eval,aW,lV])
  (by grind [pt,Out.eval,aW,lV])
  (by simp [pt,Out.eval]) l0
 refine (aa h).trans ?_;cases List.findIdx? (λx=>aW x==a1) a0<;>rfl
def zA (_ _:Int) (_:List (List ar)) (_:List af) (_:List ai) (_ a6:List ah) (_ _:List Int) (a9:Int):Out (((Int×Unit)×Unit)×XI):= .ret ((((nu a6 a9).1,()),()),((),(),()))
def Lo:bK:={ f:=106,lend:=true,aF:=[ws,wl],lay:=[none,none],rs:=[wl],F:=λx=> .ret ((((br x.1.2.2.2.2.2.2.1 x.2.1.1),()),()),((),(),())) }
abbrev Wc:Type:=ac×(Int×Unit)×Unit
abbrev Wd (x:Wc):=zA x.1.1 x.1.2.1 x.1.2.2.1 x.1.2.2.2.1 x.1.2.2.2.2.1 x.1.2.2.2.2.2.1 x.1.2.2.2.2.2.2.1 x.1.2.2.2.2.2.2.2.1 x.1.2.2.2.2.2.2.2.2.1 x.2.1.1
theorem abx (x:aw Lo.aF):bo [AD] (λ_=>none) Tryz.f106 Lo [.tmp 4] x=Wd x:=by kernel_rfl
theorem aby (hr:∀ x:Wc,aB Lo.aF x→(Wd x).eval=(Lo.F x).eval):Lo.Ok acl:=aD [AD] ⟨Wb,trivial⟩ abx λx hw _ hy=>(hr x hw).trans hy
theorem abz:Lo.Ok acl:=by
 refine aby λx hw=> ?_;obtain ⟨⟨a0,a1,a2,a3,a4,a5,a6,a7,a8,_⟩,⟨a9,_⟩,_⟩:=x;show (zA a0 a1 a2 a3 a4 a5 a6 a7 a8 a9).eval=some ((((br a6 a9),()),()),((),(),()));grind [zA,nu,Out.eval]
def xE (a0:Int) (a1:List Int):Out ci:= .ite ((oG a0)==true) (.ite (((((List.length a1:Nat):Int)==(4:Int)))==true) (.ret ((((aH a1),()),()),((),()))) (.ret (((false,()),()),((),())))) (.ret (((false,()),()),((),())))
def k99:bK:={ f:=99,lend:=true,aF:=[If],lay:=[none],rs:=[wn],F:=λx=> .ret ((((aU x.1.1 x.1.2.1),()),()),((),())) }
theorem ajG (x:aw k99.aF):bo [Fo,ME] (λ_=>none) Tryz.f99 k99 [.tmp 2] x=xE x.1.1 x.1.2.1:=by kernel_rfl
theorem ajH (hr:∀ x:ah×Unit,aB k99.aF x→(xE x.1.1 x.1.2.1).eval=(k99.F x).eval):k99.Ok acl:=aD [Fo,ME] ⟨Ps,Dl,trivial⟩ ajG λx hw _ hy=>(hr x hw).trans hy
theorem ajI:k99.Ok acl:=by
 refine ajH λx hw=> ?_;obtain ⟨⟨a0,a1,_⟩,_⟩:=x;show (xE a0 a1).eval=some ((((aU a0 a1),()),()),((),()));unfold xE aU;simp only [eq4,GH];cases oG a0<;>cases decide (List.length a1=4)<;>rfl
abbrev PD:=(List Int×Int×Int×Int×Unit)×(Unit)
def tI:PD→Out (Round PD ((Unit)×(Unit)) ((Int×Unit)×(Unit)))
|((p0,p1,p2,p3,_),_)=> .ite (decide (p3<p2)) (.ite (decide (0≤p3)) (.get (nth p0 (Int.toNat p3)) λy1=> .ite ((p1==y1)) (.ret (.ret ((p3,()),()))) (.ret (.again ((p0,p1,p2,(abs (p3+(1:Int))),()),())))) .fail) (.ret (.out ((),())))
def tJ (a0:List Int) (a1:Int):Out (((Int×Unit)×Unit)×XI):= .get (iter tI aI ((a0,a1,((List.length a0:Nat):Int),(0:Int),()),())) λy1=> .alt y1 (λ_=> .ret ((((-1:Int),()),()),((),(),()))) (λy3=> .ret (((y3.1.1,()),()),((),(),())))
def ajJ:Nat→Option au:=λn=>bw [(0,⟨⟨[.ro (.int .i64) (some 0), .i .i64]++dd 5++[.i .i64, .i .i64]++dd 10,[]⟩,⟨dd 19,[]⟩,some ⟨dd 4++[.i .i64]++dd 14,[]⟩,false⟩)] n
def pw (a:List Int) (v:Int):Int:=vS (a.findIdx? λy=>v==y)
def Lp:bK:={ f:=156,lend:=true,aF:=[ww,wl],lay:=[none,none],rs:=[wl],F:=λx=> .ret ((((pw x.1.1 x.2.1.1),()),()),((),(),())) }
theorem abA (x:aw Lp.aF):bo [] ajJ Tryz.f156 Lp [.tmp 4] x=tJ x.1.1 x.2.1.1:=by kernel_rfl
theorem abB (hr:∀ x:(List Int×Unit)×(Int×Unit)×Unit,aB Lp.aF x→(tJ x.1.1 x.2.1.1).eval=(Lp.F x).eval):Lp.Ok acl:=aD [] trivial abA λx hw _ hy=>(hr x hw).trans hy
theorem abC:Lp.Ok acl:=by
 refine abB λx hw=> ?_;obtain ⟨⟨a0,_⟩,⟨a1,_⟩,_⟩:=x;have l0:List.length a0≤cj:=hw.1.1.1;show (tJ a0 a1).eval=some ((((pw a0 a1),()),()),((),(),()));unfold tJ pw;have h:iter tI aI ((a0,a1,((List.length a0:Nat):Int),(0:Int),()),())=some (match List.findIdx? (λy=>a1==y) a0 with|some i=> .inr ((((i:Nat):Int),()),())|none=> .inl ((),())):=ei (f:=tI) a0 (λy=>a1==y) (λi=>((a0,a1,((List.length a0:Nat):Int),((i:Nat):Int),()),())) (y:=((),())) (z:=λi=>((((i:Nat):Int),()),()))
  (by grind [aq,tI,Out.eval])
  (by grind [tI,Out.eval])
  (by simp [tI,Out.eval]) l0
 refine (aa h).trans ?_;cases List.findIdx? (λy=>a1==y) a0<;>rfl
def tK (a0:List Int) (a1:Int):Out (((Bool×Unit)×Unit)×XI):= .ret ((((decide ((pw a0 a1)≥(0:Int))),()),()),((),(),()))
def Lq:bK:={ f:=134,lend:=true,aF:=[ww,wl],lay:=[none,none],rs:=[wn],F:=λx=> .ret ((((mF x.1.1 x.2.1.1),()),()),((),(),())) }
theorem abD (x:aw Lq.aF):bo [Lp] (λ_=>none) Tryz.f134 Lq [.tmp 4] x=tK x.1.1 x.2.1.1:=by kernel_rfl
theorem abE (hr:∀ x:(List Int×Unit)×(Int×Unit)×Unit,aB Lq.aF x→(tK x.1.1 x.2.1.1).eval=(Lq.F x).eval):Lq.Ok acl:=aD [Lp] ⟨abC,trivial⟩ abD λx hw _ hy=>(hr x hw).trans hy
theorem abF:Lq.Ok acl:=by
 refine abE λx hw=> ?_;obtain ⟨⟨a0,_⟩,⟨a1,_⟩,_⟩:=x;show (tK a0 a1).eval=some ((((mF a0 a1),()),()),((),(),()));unfold tK pw mF;have e:(λy:Int=>a1==y)=λy=>decide (y=a1):=by
  grind
 rw [lQ,e];rfl
def zB (_ a1:Int) (_:List (List ar)) (_:List af) (a4:List ai) (_ _:List ah) (_ _:List Int) (_ _ jw _ _:Int) (_ _ mT:List Int) (uk _:Int):Out (((Bool×Unit)×Unit)×XI):= .ite ((jw==(2:Int))) (.ret ((((decide (uk>a1)),()),()),((),(),()))) (.ite ((jw==(4:Int))) (.ite ((mF mT uk)==true) (.ret ((((decide ((aM a4 uk)≥(0:Int))),()),()),((),(),()))) (.ret (((false,()),()),((),(),())))) (.ite ((jw==(5:Int))) (.ite ((mF mT uk)==true) (.ret ((((decide ((aM a4 uk)≥(0:Int))),()),()),((),(),()))) (.ret (((false,()),()),((),(),())))) (.ret (((((uk==(0:Int))),()),()),((),(),())))))
def Lr:bK:={ f:=101,lend:=true,aF:=[ws,Fn],lay:=[none,none],rs:=[wn],F:=λx=> .ret ((((gY x.1.2.1 x.1.2.2.2.2.1 x.2.1.2.2.1 x.2.1.2.2.2.2.2.2.2.1 x.2.1.2.2.2.2.2.2.2.2.1),()),()),((),(),())) }
abbrev We:Type:=ac×XM×Unit
abbrev Wf (x:We):=zB x.1.1 x.1.2.1 x.1.2.2.1 x.1.2.2.2.1 x.1.2.2.2.2.1 x.1.2.2.2.2.2.1 x.1.2.2.2.2.2.2.1 x.1.2.2.2.2.2.2.2.1 x.1.2.2.2.2.2.2.2.2.1 x.2.1.1 x.2.1.2.1 x.2.1.2.2.1 x.2.1.2.2.2.1 x.2.1.2.2.2.2.1 x.2.1.2.2.2.2.2.1 x.2.1.2.2.2.2.2.2.1 x.2.1.2.2.2.2.2.2.2.1 x.2.1.2.2.2.2.2.2.2.2.1 x.2.1.2.2.2.2.2.2.2.2.2.1
theorem abG (x:aw Lr.aF):bo [Lq,Fs] (λ_=>none) Tryz.f101 Lr [.tmp 4] x=Wf x:=by kernel_rfl
theorem abH (hr:∀ x:We,aB Lr.aF x→(Wf x).eval=(Lr.F x).eval):Lr.Ok acl:=aD [Lq,Fs] ⟨abF,PC,trivial⟩ abG λx hw _ hy=>(hr x hw).trans hy
theorem abI:Lr.Ok acl:=by
 refine abH λx hw=> ?_;obtain ⟨⟨a0,a1,a2,a3,a4,a5,a6,a7,a8,_⟩,⟨a9,fG,jw,a12,oh,Fq,nR,mT,uk,yu,_⟩,_⟩:=x;show (zB a0 a1 a2 a3 a4 a5 a6 a7 a8 a9 fG jw a12 oh Fq nR mT uk yu).eval=some ((((gY a1 a4 jw mT uk),()),()),((),(),()));grind [zB,gY,Out.eval]
def gH (f nx tk:Int) (os:List ai):Bool×Int×Int:=(!(f== -1)&&decide (aM os f<0),nx,tk)
def zC (a0 a1 a2:Int) (_:List (List ar)) (_:List af) (a5:List ai) (_ _:List ah) (_ _:List Int):Out (((Bool×Unit)×Unit)×(Unit×(Int×Int×Unit)×Unit)):= .ite (((a0 != (-1:Int)))==true) (.ret ((((decide ((aM a5 a0)<(0:Int))),()),()),((),(a1,a2,()),()))) (.ret (((false,()),()),((),(a1,a2,()),())))
def Ls:bK:={ f:=102,lend:=true,aF:=[wl,LT],lay:=[none,none],rs:=[wn],F:=λx=> .ret ((((gH x.1.1 x.2.1.1 x.2.1.2.1 x.2.1.2.2.2.2.1).1,()),()),((),((gH x.1.1 x.2.1.1 x.2.1.2.1 x.2.1.2.2.2.2.1).2.1,(gH x.1.1 x.2.1.1 x.2.1.2.1 x.2.1.2.2.2.2.1).2.2,()),())) }
abbrev Wg:Type:=(Int×Unit)×ac×Unit
abbrev Wh (x:Wg):=zC x.1.1 x.2.1.1 x.2.1.2.1 x.2.1.2.2.1 x.2.1.2.2.2.1 x.2.1.2.2.2.2.1 x.2.1.2.2.2.2.2.1 x.2.1.2.2.2.2.2.2.1 x.2.1.2.2.2.2.2.2.2.1 x.2.1.2.2.2.2.2.2.2.2.1
theorem abJ (x:aw Ls.aF):bo [Fs] (λ_=>none) Tryz.f102 Ls [.tmp 3] x=Wh x:=by kernel_rfl
theorem abK (hr:∀ x:Wg,aB Ls.aF x→(Wh x).eval=(Ls.F x).eval):Ls.Ok acl:=aD [Fs] ⟨PC,trivial⟩ abJ λx hw _ hy=>(hr x hw).trans hy
theorem abL:Ls.Ok acl:=by
 refine abK λx hw=> ?_;obtain ⟨⟨a0,_⟩,⟨a1,a2,a3,a4,a5,a6,a7,a8,a9,_⟩,_⟩:=x;show (zC a0 a1 a2 a3 a4 a5 a6 a7 a8 a9).eval=some ((((gH a0 a1 a2 a5).1,()),()),((),((gH a0 a1 a2 a5).2.1,(gH a0 a1 a2 a5).2.2,()),()));grind [zC,gH,Out.eval]
def lW (f:Int):Bool:= !(f== -1)
def zD (a0:Int):Out ci:= .ret (((((a0 != (-1:Int))),()),()),((),()))
def Lt:bK:={ f:=104,lend:=true,aF:=[wl],lay:=[none],rs:=[wn],F:=λx=> .ret ((((lW x.1.1),()),()),((),())) }
theorem abM (x:aw Lt.aF):bo [] (λ_=>none) Tryz.f104 Lt [.tmp 2] x=zD x.1.1:=by kernel_rfl
theorem abN (hr:∀ x:(Int×Unit)×Unit,aB Lt.aF x→(zD x.1.1).eval=(Lt.F x).eval):Lt.Ok acl:=aD [] trivial abM λx hw _ hy=>(hr x hw).trans hy
theorem abO:Lt.Ok acl:=by
 refine abN λx hw=> ?_;obtain ⟨⟨a0,_⟩,_⟩:=x;show (zD a0).eval=some ((((lW a0),()),()),((),()));rfl
def hJ (a:List Int) (nx tk:Int) (os:List ai):Int×Int×Int:=(vS (a.findIdx? λf=>(gH f nx tk os).1),nx,tk)
abbrev Lu:=XE×(bA×Unit)
def px:Lu→Out (Round Lu ((Unit)×(bA×Unit)) ((Int×Unit)×(bA×Unit)))
|((p0,p1,p2,_),(p3,p4,p5,p6,p7,p8,p9,bL,b8,_),_)=> .ite (decide (p2<p1)) (.ite (decide (0≤p2)) (.get (nth p0 (Int.toNat p2)) λy1=> .ite ((gH y1 p3 p4 p7).1) (.ret (.ret ((p2,()),(((gH y1 p3 p4 p7).2.1,(gH y1 p3 p4 p7).2.2,p5,p6,p7,p8,p9,bL,b8,()),())))) (.ret (.again ((p0,p1,(abs (p2+(1:Int))),()),(((gH y1 p3 p4 p7).2.1,(gH y1 p3 p4 p7).2.2,p5,p6,p7,p8,p9,bL,b8,()),()))))) .fail) (.ret (.out ((),((p3,p4,p5,p6,p7,p8,p9,bL,b8,()),()))))
def vt (a0:List Int) (a1 a2:Int) (a3:List (List ar)) (a4:List af) (a5:List ai) (a6 a7:List ah) (a8 a9:List Int):Out (((Int×Unit)×Unit)×(Unit×(Int×Int×Unit)×Unit)):= .get (iter px aI ((a0,((List.length a0:Nat):Int),(0:Int),()),((a1,a2,a3,a4,a5,a6,a7,a8,a9,()),()))) λy1=> .alt y1 (λy2=> .ret ((((-1:Int),()),()),((),(y2.2.1.1,y2.2.1.2.1,()),()))) (λy3=> .ret (((y3.1.1,()),()),((),(y3.2.1.1,y3.2.1.2.1,()),())))
abbrev DM:List (Nat×dT):=[(1, .var [.i .i64, .i .i64, .ro (.sl cT) (some 2), .ro jc (some 3), .ro eF (some 4), .ro dp (some 5), .ro dp (some 6), .ro (.int .i64) (some 7), .ro (.int .i64) (some 8)])]
def abP:Nat→Option au:=λn=>bw [(0,⟨⟨[.ro (.int .i64) (some 0), .fn 102 [1]]++dd 5++[.i .i64, .i .i64]++dd 10,DM⟩,⟨[.dead, .fn 102 [1]]++dd 17,DM⟩,some ⟨[.dead, .fn 102 [1], .dead, .dead, .i .i64]++dd 14,DM⟩,false⟩)] n
def AE:bK:={ f:=128,lend:=true,aF:=[ww,LT],lay:=[none,some (102,1)],rs:=[wl],F:=λx=> .ret ((((hJ x.1.1 x.2.1.1 x.2.1.2.1 x.2.1.2.2.2.2.1).1,()),()),((),((hJ x.1.1 x.2.1.1 x.2.1.2.1 x.2.1.2.2.2.2.1).2.1,(hJ x.1.1 x.2.1.1 x.2.1.2.1 x.2.1.2.2.2.2.1).2.2,()),())) }
abbrev PE:Type:=(List Int×Unit)×ac×Unit
abbrev PF (x:PE):=vt x.1.1 x.2.1.1 x.2.1.2.1 x.2.1.2.2.1 x.2.1.2.2.2.1 x.2.1.2.2.2.2.1 x.2.1.2.2.2.2.2.1 x.2.1.2.2.2.2.2.2.1 x.2.1.2.2.2.2.2.2.2.1 x.2.1.2.2.2.2.2.2.2.2.1
theorem Wi (x:aw AE.aF):bo [Ls] abP Tryz.f128 AE [.tmp 4] x=PF x:=by kernel_rfl
theorem Wj (hr:∀ x:PE,aB AE.aF x→(PF x).eval=(AE.F x).eval):AE.Ok acl:=aD [Ls] ⟨abL,trivial⟩ Wi λx hw _ hy=>(hr x hw).trans hy
theorem Wk:AE.Ok acl:=by
 refine Wj λx hw=> ?_;obtain ⟨⟨a0,_⟩,⟨a1,a2,a3,a4,a5,a6,a7,a8,a9,_⟩,_⟩:=x;have l0:List.length a0≤cj:=hw.1.1.1;show (vt a0 a1 a2 a3 a4 a5 a6 a7 a8 a9).eval=some ((((hJ a0 a1 a2 a5).1,()),()),((),((hJ a0 a1 a2 a5).2.1,(hJ a0 a1 a2 a5).2.2,()),()));unfold vt hJ;have h:iter px aI ((a0,((List.length a0:Nat):Int),(0:Int),()),((a1,a2,a3,a4,a5,a6,a7,a8,a9,()),()))=some (match List.findIdx? (λf=>(gH f a1 a2 a5).1) a0 with|some i=> .inr ((((i:Nat):Int),()),((a1,a2,a3,a4,a5,a6,a7,a8,a9,()),()))|none=> .inl ((),((a1,a2,a3,a4,a5,a6,a7,a8,a9,()),()))):=ei (f:=px) a0 (λf=>(gH f a1 a2 a5).1) (λi=>((a0,((List.length a0:Nat):Int),((i:Nat):Int),()),((a1,a2,a3,a4,a5,a6,a7,a8,a9,()),()))) (y:=((),((a1,a2,a3,a4,a5,a6,a7,a8,a9,()),()))) (z:=λi=>((((i:Nat):Int),()),((a1,a2,a3,a4,a5,a6,a7,a8,a9,()),())))
  (by grind [aq,px,Out.eval,gH])
  (by grind [px,Out.eval,gH])
  (by simp [px,Out.eval]) l0
 refine (aa h).trans ?_;cases List.findIdx? (λf=>(gH f a1 a2 a5).1) a0<;>rfl
def gj (a:List Int) (nx tk:Int) (os:List ai):Bool×Int×Int:=(a.any λf=>(gH f nx tk os).1,nx,tk)
def zE (a0:List Int) (a1 a2:Int) (_:List (List ar)) (_:List af) (a5:List ai) (_ _:List ah) (_ _:List Int):Out (((Bool×Unit)×Unit)×(Unit×(Int×Int×Unit)×Unit)):= .ret ((((decide ((hJ a0 a1 a2 a5).1≥(0:Int))),()),()),((),((hJ a0 a1 a2 a5).2.1,(hJ a0 a1 a2 a5).2.2,()),()))
def Lv:bK:={ f:=92,lend:=true,aF:=[ww,LT],lay:=[none,some (102,1)],rs:=[wn],F:=λx=> .ret ((((gj x.1.1 x.2.1.1 x.2.1.2.1 x.2.1.2.2.2.2.1).1,()),()),((),((gj x.1.1 x.2.1.1 x.2.1.2.1 x.2.1.2.2.2.2.1).2.1,(gj x.1.1 x.2.1.1 x.2.1.2.1 x.2.1.2.2.2.2.1).2.2,()),())) }
abbrev Wl:Type:=(List Int×Unit)×ac×Unit
abbrev Wm (x:Wl):=zE x.1.1 x.2.1.1 x.2.1.2.1 x.2.1.2.2.1 x.2.1.2.2.2.1 x.2.1.2.2.2.2.1 x.2.1.2.2.2.2.2.1 x.2.1.2.2.2.2.2.2.1 x.2.1.2.2.2.2.2.2.2.1 x.2.1.2.2.2.2.2.2.2.2.1
theorem abQ (x:aw Lv.aF):bo [AE] (λ_=>none) Tryz.f92 Lv [.tmp 4] x=Wm x:=by kernel_rfl
theorem abR (hr:∀ x:Wl,aB Lv.aF x→(Wm x).eval=(Lv.F x).eval):Lv.Ok acl:=aD [AE] ⟨Wk,trivial⟩ abQ λx hw _ hy=>(hr x hw).trans hy
theorem abS:Lv.Ok acl:=by
 refine abR λx hw=> ?_;obtain ⟨⟨a0,_⟩,⟨a1,a2,a3,a4,a5,a6,a7,a8,a9,_⟩,_⟩:=x;show (zE a0 a1 a2 a3 a4 a5 a6 a7 a8 a9).eval=some ((((gj a0 a1 a2 a5).1,()),()),((),((gj a0 a1 a2 a5).2.1,(gj a0 a1 a2 a5).2.2,()),()));unfold zE gj hJ;rw [lQ];rfl
def nv (a:List Int):Int:=vS (a.findIdx? lW)
abbrev Lw:=XE×(Unit)
def py:Lw→Out (Round Lw ((Unit)×(Unit)) ((Int×Unit)×(Unit)))
|((p0,p1,p2,_),_)=> .ite (decide (p2<p1)) (.ite (decide (0≤p2)) (.get (nth p0 (Int.toNat p2)) λy1=> .ite (lW y1) (.ret (.ret ((p2,()),()))) (.ret (.again ((p0,p1,(abs (p2+(1:Int))),()),())))) .fail) (.ret (.out ((),())))
def qB (a0:List Int):Out gt:= .get (iter py aI ((a0,((List.length a0:Nat):Int),(0:Int),()),())) λy1=> .alt y1 (λ_=> .ret ((((-1:Int),()),()),((),()))) (λy3=> .ret (((y3.1.1,()),()),((),())))
def abT:Nat→Option au:=λn=>bw [(0,⟨⟨[.ro (.int .i64) (some 0), .fn 104 []]++dd 5++[.i .i64, .i .i64]++dd 10,[]⟩,⟨dd 19,[]⟩,some ⟨dd 4++[.i .i64]++dd 14,[]⟩,false⟩)] n
def AF:bK:={ f:=128,lend:=true,aF:=[ww],lay:=[none,some (104,0)],rs:=[wl],F:=λx=> .ret ((((nv x.1.1),()),()),((),())) }
theorem Wn (x:aw AF.aF):bo [Lt] abT Tryz.f128 AF [.tmp 4] x=qB x.1.1:=by kernel_rfl
theorem Wo (hr:∀ x:(List Int×Unit)×Unit,aB AF.aF x→(qB x.1.1).eval=(AF.F x).eval):AF.Ok acl:=aD [Lt] ⟨abO,trivial⟩ Wn λx hw _ hy=>(hr x hw).trans hy
theorem Wp:AF.Ok acl:=by
 refine Wo λx hw=> ?_;obtain ⟨⟨a0,_⟩,_⟩:=x;have l0:List.length a0≤cj:=hw.1.1.1;show (qB a0).eval=some ((((nv a0),()),()),((),()));unfold qB nv;have h:iter py aI ((a0,((List.length a0:Nat):Int),(0:Int),()),())=some (match List.findIdx? lW a0 with|some i=> .inr ((((i:Nat):Int),()),())|none=> .inl ((),())):=ei (f:=py) a0 lW (λi=>((a0,((List.length a0:Nat):Int),((i:Nat):Int),()),())) (y:=((),())) (z:=λi=>((((i:Nat):Int),()),()))
  (by grind [aq,py,Out.eval])
  (by grind [py,Out.eval])
  (by simp [py,Out.eval]) l0
 refine (aa h).trans ?_;cases List.findIdx? lW a0<;>rfl
def jn (a:List Int):Bool:=a.any lW
def tL (a0:List Int):Out ci:= .ret ((((decide ((nv a0)≥(0:Int))),()),()),((),()))
def Lx:bK:={ f:=92,lend:=true,aF:=[ww],lay:=[none,some (104,0)],rs:=[wn],F:=λx=> .ret ((((jn x.1.1),()),()),((),())) }
theorem abU (x:aw Lx.aF):bo [AF] (λ_=>none) Tryz.f92 Lx [.tmp 4] x=tL x.1.1:=by kernel_rfl
theorem abV (hr:∀ x:(List Int×Unit)×Unit,aB Lx.aF x→(tL x.1.1).eval=(Lx.F x).eval):Lx.Ok acl:=aD [AF] ⟨Wp,trivial⟩ abU λx hw _ hy=>(hr x hw).trans hy
theorem abW:Lx.Ok acl:=by
 refine abV λx hw=> ?_;obtain ⟨⟨a0,_⟩,_⟩:=x;show (tL a0).eval=some ((((jn a0),()),()),((),()));unfold tL jn nv;rw [lQ];rfl
theorem Rw {os:List ai} {nx tk:Int} (a:List Int):(a.any λf=>(gH f nx tk os).1)= !(a.all λf=>f== -1||decide (0≤aM os f)):=by
 rw [aeA];simp only [gH,List.any_eq_true,aa6,beq_eq_false_iff_ne,adS,Bool.not_eq_eq_eq_not,Bool.not_true,List.all_eq_false,af7,afH,not_or,Int.not_le]
theorem Wq (os:List ai) (st:Int) (a:List Int):a.all (rf os st)=((a.all λf=>f== -1||decide (0≤aM os f))&&(!(st==6)|| !a.any lW)):=by
 grind [rf,lW,aM]
theorem Rx {β:Type} (st code par:Int) (n:Nat) (fo:Bool) (r:Bool→β):
  (Out.ite (st==(6:Int)) (Out.ite (((((n:Nat):Int)==(0:Int)))==true) (.ite (((par != (0:Int)))==true) (.ret (r (!fo))) (.ret (r false))) (.ret (r false)))
   (Out.ite ((decide (((n:Nat):Int)>(0:Int)))==true) (.ret (r (code==(0:Int)))) (.ret (r false)))).eval=
   some (r (if st=6 then decide (n=0)&& !(par==0)&& !fo else decide (0<n)&&code==0)):=by
 simp only [Out.eval,cond_eq_ite];rcases Nat.eq_zero_or_pos n with h2|h2
 . grind
 . have h3:¬ n=0:=by omega
   grind
theorem NI {β:Type} (n m:Nat) (wo uo fb:Bool) (r:Bool→β) {e:Out β} {b:Bool} (he:e.eval=some (r b)):
  (Out.ite ((decide (((n:Nat):Int)>(12:Int)))==false) (.ite ((4:Int)==0) .fail (.ite ((((Int.tmod ((n:Nat):Int) (4:Int)) != (0:Int)))==false) (.ite ((!wo)==false) (.ite (((((m:Nat):Int) != (4:Int)))==false)
   (.ite (!uo) (.ret (r false)) (.ite fb (.ret (r false)) e)) (.ret (r false))) (.ret (r false))) (.ret (r false)))) (.ret (r false))).eval=
   some (r (decide (n≤12)&&(decide (n % 4=0)&&(wo&&(decide (m=4)&&(uo&&(!fb&&b))))))):=by
 simp only [Out.eval,he,arM,aeI,ne4,beq_false,Bool.not_not];grind
theorem abX (nx tk:Int) (os:List ai) (st par code:Int) (mem fds:List Int):(fds.all (rf os st)&&vk par st mem code)=
  (!(gj fds nx tk os).1&&(if st=6 then decide (mem.length=0)&& !(par==0)&& !(jn fds) else decide (0<mem.length)&&code==0)):=by
 unfold gj jn vk;rw [Wq,Rw];grind
def DN (a0 a1:Int) (a2:List (List ar)) (a3:List af) (a4:List ai) (_ _:List ah) (_ _:List Int) (a9 fG jw a12 oh:Int) (Fq nR mT:List Int) (uk yu:Int):Out (((Bool×Unit)×Unit)×XI):= .ite ((!(dL a9 (1:Int) (abs (a0 - (1:Int)))))==false) (.ite ((!(dL jw (1:Int) (6:Int)))==false) (.ite ((!(dL a12 (0:Int) (abs (((List.length a2:Nat):Int) - (1:Int)))))==false) (.ite ((!(aU oh Fq))==false) (.ite (!(b9 yu)) (.ret (((false,()),()),((),(),()))) (.ite ((fG != (0:Int))) (.ite ((decide ((al a3 fG)<(0:Int)))==false) (.ite (((fG==a9))==false) (.ite (decide (0≤(al a3 fG))) (.get (nth a3 (Int.toNat (al a3 fG))) λy1=> .ite ((y1.2.2.1==(6:Int))) (.ret (((false,()),()),((),(),()))) (.ite ((decide (((List.length nR:Nat):Int)>(12:Int)))==false) (.ite ((4:Int)==0) .fail (.ite ((((Int.tmod ((List.length nR:Nat):Int) (4:Int)) != (0:Int)))==false) (.ite ((!(aH nR))==false) (.ite (((((List.length mT:Nat):Int) != (4:Int)))==false) (.ite (!(gY a1 a4 jw mT uk)) (.ret (((false,()),()),((),(),()))) (.ite ((gj mT a0 a1 a4).1) (.ret (((false,()),()),((),(),()))) (.ite ((jw==(6:Int))) (.ite (((((List.length nR:Nat):Int)==(0:Int)))==true) (.ite (((fG != (0:Int)))==true) (.ret ((((!(jn mT)),()),()),((),(),()))) (.ret (((false,()),()),((),(),())))) (.ret (((false,()),()),((),(),())))) (.ite ((decide (((List.length nR:Nat):Int)>(0:Int)))==true) (.ret (((((yu==(0:Int))),()),()),((),(),()))) (.ret (((false,()),()),((),(),()))))))) (.ret (((false,()),()),((),(),())))) (.ret (((false,()),()),((),(),())))) (.ret (((false,()),()),((),(),()))))) (.ret (((false,()),()),((),(),()))))) .fail) (.ret (((false,()),()),((),(),())))) (.ret (((false,()),()),((),(),())))) (.ite ((decide (((List.length nR:Nat):Int)>(12:Int)))==false) (.ite ((4:Int)==0) .fail (.ite ((((Int.tmod ((List.length nR:Nat):Int) (4:Int)) != (0:Int)))==false) (.ite ((!(aH nR))==false) (.ite (((((List.length mT:Nat):Int) != (4:Int)))==false) (.ite (!(gY a1 a4 jw mT uk)) (.ret (((false,()),()),((),(),()))) (.ite ((gj mT a0 a1 a4).1) (.ret (((false,()),()),((),(),()))) (.ite ((jw==(6:Int))) (.ite (((((List.length nR:Nat):Int)==(0:Int)))==true) (.ite (((fG != (0:Int)))==true) (.ret ((((!(jn mT)),()),()),((),(),()))) (.ret (((false,()),()),((),(),())))) (.ret (((false,()),()),((),(),())))) (.ite ((decide (((List.length nR:Nat):Int)>(0:Int)))==true) (.ret (((((yu==(0:Int))),()),()),((),(),()))) (.ret (((false,()),()),((),(),()))))))) (.ret (((false,()),()),((),(),())))) (.ret (((false,()),()),((),(),())))) (.ret (((false,()),()),((),(),()))))) (.ret (((false,()),()),((),(),())))))) (.ret (((false,()),()),((),(),())))) (.ret (((false,()),()),((),(),())))) (.ret (((false,()),()),((),(),())))) (.ret (((false,()),()),((),(),())))
def jE (next tick:Int) (dO:List (List ar)) (ps:List af) (os:List ai) (pid par st pg pc:Int) (iY mem fds:List Int) (n6 code:Int):Bool:=
 dL pid 1 (abs (next - 1))&&dG tick dO.length ps os pid par st pg pc iY mem fds n6 code
def k61:bK:={ f:=61,lend:=true,aF:=[ws,Fn],lay:=[none,none],rs:=[wn],F:=λx=> .ret ((((jE x.1.1 x.1.2.1 x.1.2.2.1 x.1.2.2.2.1 x.1.2.2.2.2.1 x.2.1.1 x.2.1.2.1 x.2.1.2.2.1 x.2.1.2.2.2.1 x.2.1.2.2.2.2.1 x.2.1.2.2.2.2.2.1 x.2.1.2.2.2.2.2.2.1 x.2.1.2.2.2.2.2.2.2.1 x.2.1.2.2.2.2.2.2.2.2.1 x.2.1.2.2.2.2.2.2.2.2.2.1),()),()),((),(),())) }
abbrev ae6:Type:=ac×XM×Unit
abbrev ae7 (x:ae6):=DN x.1.1 x.1.2.1 x.1.2.2.1 x.1.2.2.2.1 x.1.2.2.2.2.1 x.1.2.2.2.2.2.1 x.1.2.2.2.2.2.2.1 x.1.2.2.2.2.2.2.2.1 x.1.2.2.2.2.2.2.2.2.1 x.2.1.1 x.2.1.2.1 x.2.1.2.2.1 x.2.1.2.2.2.1 x.2.1.2.2.2.2.1 x.2.1.2.2.2.2.2.1 x.2.1.2.2.2.2.2.2.1 x.2.1.2.2.2.2.2.2.2.1 x.2.1.2.2.2.2.2.2.2.2.1 x.2.1.2.2.2.2.2.2.2.2.2.1
theorem ajK (x:aw k61.aF):bo [As,k99,Sp,Lg,ME,Lr,Lv,Lx] (λ_=>none) Tryz.f61 k61 [.tmp 4] x=ae7 x:=by kernel_rfl
theorem ajL (hr:∀ x:ae6,aB k61.aF x→(ae7 x).eval=(k61.F x).eval):k61.Ok acl:=aD [As,k99,Sp,Lg,ME,Lr,Lv,Lx] ⟨oJ,ajI,NA,abe,Dl,abI,abS,abW,trivial⟩ ajK λx hw _ hy=>(hr x hw).trans hy
theorem ajM:k61.Ok acl:=by
 refine ajL λx hw=> ?_;obtain ⟨⟨a0,a1,a2,a3,a4,a5,a6,a7,a8,_⟩,⟨a9,fG,jw,a12,oh,Fq,nR,mT,uk,yu,_⟩,_⟩:=x;have l2:List.length a2≤cj:=hw.1.1.1;show (DN a0 a1 a2 a3 a4 a5 a6 a7 a8 a9 fG jw a12 oh Fq nR mT uk yu).eval=some ((((jE a0 a1 a2 a3 a4 a9 fG jw a12 oh Fq nR mT uk yu),()),()),((),(),()));unfold DN;by_cases c1:dL a9 1 (abs (a0 - 1))=true
 case neg=>rw [ae (by simp [c1])];simp [Out.eval,jE,c1]
 rw [ab (by simp [c1])];by_cases c2:dL jw 1 6=true
 case neg=>rw [ae (by simp [c2])];simp [Out.eval,jE,dG,c2]
 rw [ab (by simp [c2])];have e0:dL a12 0 (abs (((List.length a2:Nat):Int) - 1))=(decide (0≤a12)&&decide (a12<((List.length a2:Nat):Int))):=by
  have:List.length a2≤9223372036854775807:=l2;unfold dL;rw [kN (by omega) (by omega)];congr 1;rw [aeA];simp;omega
 rw [e0];by_cases c3:(decide (0≤a12)&&decide (a12<((List.length a2:Nat):Int)))=true
 case neg=>rw [ae (by simp [c3])];simp [Out.eval,jE,dG,c3]
 rw [ab (by simp [c3])];by_cases c4:aU oh Fq=true
 case neg=>rw [ae (by simp [c4])];simp [Out.eval,jE,dG,c4]
 rw [ab (by simp [c4])];by_cases c5:b9 yu=true
 case neg=>rw [ab (by simp [c5])];simp [Out.eval,jE,dG,c5]
 rw [ae (by simp [c5])];have e:jE a0 a1 a2 a3 a4 a9 fG jw a12 oh Fq nR mT uk yu=(cd a3 a9 fG&&(decide (List.length nR≤12)&&(decide (List.length nR % 4=0)&&(aH nR&&(decide (List.length mT=4)&&(gY a1 a4 jw mT uk&&(List.all mT (rf a4 jw)&&vk fG jw nR yu))))))):=by
  unfold jE dG;rw [c1,c2,c3,c4,c5];cases decide (List.length nR≤12)<;>cases decide (List.length nR % 4=0)<;>cases aH nR<;>cases decide (List.length mT=4)<;>cases List.all mT (rf a4 jw)<;>cases cd a3 a9 fG<;>cases gY a1 a4 jw mT uk<;>rfl
 rw [e,abX a0 a1];have en:=Rx jw yu fG (List.length nR) (jn mT) (λb=>(((b,()),()),((),(),())));have tl:=NI (List.length nR) (List.length mT) (aH nR) (gY a1 a4 jw mT uk) (gj mT a0 a1 a4).1 (λb=>(((b,()),()),((),(),()))) en;by_cases p0:fG=0
 . have e2:cd a3 a9 fG=true:=by simp [cd,p0]
   rw [e2,agd,ae (by simp [p0])];exact tl
 . rw [ab (by simp [p0])]
   cases hx:iT aA a3 fG with
   |none=>
    have e2:cd a3 a9 fG=false:=by simp [cd,p0,hx]
    have e3:al a3 fG= -1:=qv hx;rw [e2,e3];rfl
   |some i=>
    have hi:=Dt hx;have e3:al a3 fG=((i:Nat):Int):=qw hx;rw [e3,ab (by rw [adD];rfl),adu];by_cases p1:fG=a9
    . have p2:(fG==a9)=true:=by simpa using p1
      have p3:(fG==(0:Int))=false:=by simpa using p0
      have e2:cd a3 a9 fG=false:=by unfold cd;rw [p3,p2];simp
      rw [e2,ae (by rw [p2];rfl)];rfl
    . rw [ab (by simp [p1]),ab (pQ i)]
      refine (aa (x:=a3[i]) (by simp [nth,hi])).trans ?_;by_cases p2:a3[i].2.2.1=6
      . have e2:cd a3 a9 fG=false:=by grind [cd]
        rw [e2,ab (by simp [p2])];rfl
      . have e2:cd a3 a9 fG=true:=by grind [cd]
        simp_all [ae]
abbrev PG:=(Int×Int×List af×Int×Int×XE)×(Unit)
def xF:PG→Out (Round PG ((Int×Int×XS)×(Unit)) Empty)
|((p0,p1,p2,p3,p4,p5,p6,p7,_),_)=> .ite (decide (p7<p6)) (.ite (decide (0≤p7)) (.get (nth p5 (Int.toNat p7)) λy1=> .ite ((y1==p0)) (.ret (.again ((p0,(abs (p1+(1:Int))),p2,p3,p4,p5,p6,(abs (p7+(1:Int))),()),()))) (.ret (.again ((p0,p1,p2,p3,p4,p5,p6,(abs (p7+(1:Int))),()),())))) .fail) (.ret (.out ((p0,p1,p2,p3,p4,()),())))
abbrev PH:=(Int×Int×XS)×(Unit)
def xG:PH→Out (Round PH ((Int×Unit)×(Unit)) Empty)
|((p0,p1,p2,p3,p4,_),_)=> .ite (decide (p4<p3)) (.ite (decide (0≤p4)) (.get (nth p2 (Int.toNat p4)) λy1=> .get (aP xF aI ((p0,p1,p2,p3,p4,y1.2.2.2.2.2.2.1,((List.length y1.2.2.2.2.2.2.1:Nat):Int),(0:Int),()),())) λy2=> .ret (.again ((y2.1.1,y2.1.2.1,y2.1.2.2.1,y2.1.2.2.2.1,(abs (y2.1.2.2.2.2.1+(1:Int))),()),()))) .fail) (.ret (.out ((p1,()),())))
def zH (_ _:Int) (_:List (List ar)) (a3:List af) (_:List ai) (_ _:List ah) (_ _:List Int) (a9:Int):Out (((Int×Unit)×Unit)×XI):= .get (aP xG aI ((a9,(0:Int),a3,((List.length a3:Nat):Int),(0:Int),()),())) λy1=> .ret (((y1.1.1,()),()),((),(),()))
def ajN:Nat→Option au:=λn=>bw [(0,⟨⟨[.dead, .i .i64, .dead, .dead, .dead, .i .i64]++dd 5++[.ro jc (some 1), .i .i64, .i .i64]++dd 18,[]⟩,⟨dd 5++[.i .i64]++dd 26,[]⟩,none,false⟩),(2,⟨⟨[.dead, .i .i64, .dead, .dead, .dead, .i .i64]++dd 5++[.ro jc (some 1), .i .i64, .i .i64]++dd 4++[.ro (.int .i64) none, .i .i64, .i .i64]++dd 11,[]⟩,⟨[.dead, .i .i64, .dead, .dead, .dead, .i .i64]++dd 5++[.ro jc (some 1), .i .i64, .i .i64]++dd 18,[]⟩,none,false⟩)] n
def Ly:bK:={ f:=105,lend:=true,aF:=[ws,wl],lay:=[none,none],rs:=[wl],F:=λx=> .ret ((((sd x.1.2.2.2.1 x.2.1.1),()),()),((),(),())) }
abbrev Wr:Type:=ac×(Int×Unit)×Unit
abbrev Ws (x:Wr):=zH x.1.1 x.1.2.1 x.1.2.2.1 x.1.2.2.2.1 x.1.2.2.2.2.1 x.1.2.2.2.2.2.1 x.1.2.2.2.2.2.2.1 x.1.2.2.2.2.2.2.2.1 x.1.2.2.2.2.2.2.2.2.1 x.2.1.1
theorem abY (x:aw Ly.aF):bo [] ajN Tryz.f105 Ly [.tmp 4] x=Ws x:=by kernel_rfl
theorem abZ (hr:∀ x:Wr,aB Ly.aF x→(Ws x).eval=(Ly.F x).eval):Ly.Ok acl:=aD [] trivial abY λx hw _ hy=>(hr x hw).trans hy
theorem ab0:Ly.Ok acl:=by
 refine abZ λx hw=> ?_;obtain ⟨⟨a0,a1,a2,a3,a4,a5,a6,a7,a8,_⟩,⟨a9,_⟩,_⟩:=x;have l3:List.length a3≤cj:=hw.1.2.1.1;show (zH a0 a1 a2 a3 a4 a5 a6 a7 a8 a9).eval=some ((((sd a3 a9),()),()),((),(),()));unfold zH sd;have inner:∀ (n:Int) (j:Nat) (hj:j<List.length a3),aP xF aI ((a9,n,a3,((List.length a3:Nat):Int),((j:Nat):Int),a3[j].2.2.2.2.2.2.1,((List.length a3[j].2.2.2.2.2.2.1:Nat):Int),(0:Int),()),())=
   some ((a9,List.foldl (λn f=>sc f a9 n) n a3[j].2.2.2.2.2.2.1,a3,((List.length a3:Nat):Int),((j:Nat):Int),()),()):=λn j hj=>by
  have lj:List.length a3[j].2.2.2.2.2.2.1≤cj:=(hw.1.2.1.2 j a3[j] (aa7 hj)).2.2.2.2.2.2.1.1;exact foldl_loop (f:=xF) (λ_ _=>True) (λn f=>sc f a9 n) a3[j].2.2.2.2.2.2.1 (λd i=>((a9,d,a3,((List.length a3:Nat):Int),((j:Nat):Int),a3[j].2.2.2.2.2.2.1,((List.length a3[j].2.2.2.2.2.2.1:Nat):Int),((i:Nat):Int),()),()))
   (λd=>((a9,d,a3,((List.length a3:Nat):Int),((j:Nat):Int),()),()))
   (λi hi d _=>by
    have h1:=aq (i:=i) (by omega);by_cases q:a3[j].2.2.2.2.2.2.1[i]=a9<;>simp [xF,Out.eval,hi,h1,sc,cond_eq_ite,q])
   (λd _=>by simp [xF,Out.eval]) (λ_ _ _ _=>trivial) lj n trivial
 have h:aP xG aI ((a9,(0:Int),a3,((List.length a3:Nat):Int),(0:Int),()),())=some (((List.foldl (λ(n:Int) (p:af)=>p.2.2.2.2.2.2.1.foldl (λn f=>sc f a9 n) n) (0:Int) a3),()),()):=foldl_loop (f:=xG) (λ_ _=>True) (λ(n:Int) (p:af)=>p.2.2.2.2.2.2.1.foldl (λn f=>sc f a9 n) n) a3 (λd i=>((a9,d,a3,((List.length a3:Nat):Int),((i:Nat):Int),()),())) (λd=>((d,()),()))
  (λi hi d _=>by
   have h1:=aq (i:=i) (by omega);simp_all [xG,Out.eval])
  (by grind [xG,Out.eval]) (λ_ _ _ _=>trivial) l3 (0:Int) trivial
 exact aa h
def DO (_ _:Int) (_:List (List ar)) (a3:List af) (_:List ai) (a5 a6:List ah) (_ _:List Int) (a9 fG jw a12 oh:Int):Out (((Bool×Unit)×Unit)×XI):= .ite ((!(dL a9 (0:Int) (7:Int)))==false) (.ite (((oh==(0:Int)))==false) (.ite ((oh != (sd a3 a9))) (.ret (((false,()),()),((),(),()))) (.ite ((fG==(1:Int))) (.ite (((jw==(0:Int)))==true) (.ret (((((a12==(0:Int))),()),()),((),(),()))) (.ret (((false,()),()),((),(),())))) (.ite ((fG==(2:Int))) (.ite ((decide ((br a6 jw)≥(0:Int)))==true) (.ite (decide (0≤(br a6 jw))) (.get (nth a6 (Int.toNat (br a6 jw))) λy1=> .ret ((((dL a12 (0:Int) ((List.length y1.2.1:Nat):Int)),()),()),((),(),()))) .fail) (.ret (((false,()),()),((),(),())))) (.ite ((fG==(3:Int))) (.ite ((decide ((bq a5 jw)≥(0:Int)))==true) (.ret (((((a12==(0:Int))),()),()),((),(),()))) (.ret (((false,()),()),((),(),())))) (.ite ((fG==(4:Int))) (.ite ((decide ((bq a5 jw)≥(0:Int)))==true) (.ret (((((a12==(0:Int))),()),()),((),(),()))) (.ret (((false,()),()),((),(),())))) (.ret (((false,()),()),((),(),())))))))) (.ret (((false,()),()),((),(),())))) (.ret (((false,()),()),((),(),())))
def k62:bK:={ f:=62,lend:=true,aF:=[ws,Fr],lay:=[none,none],rs:=[wn],F:=λx=> .ret ((((ir x.1.2.2.2.1 x.1.2.2.2.2.2.1 x.1.2.2.2.2.2.2.1 x.2.1.1 x.2.1.2.1 x.2.1.2.2.1 x.2.1.2.2.2.1 x.2.1.2.2.2.2.1),()),()),((),(),())) }
abbrev ae9:Type:=ac×ms×Unit
abbrev afa (x:ae9):=DO x.1.1 x.1.2.1 x.1.2.2.1 x.1.2.2.2.1 x.1.2.2.2.2.1 x.1.2.2.2.2.2.1 x.1.2.2.2.2.2.2.1 x.1.2.2.2.2.2.2.2.1 x.1.2.2.2.2.2.2.2.2.1 x.2.1.1 x.2.1.2.1 x.2.1.2.2.1 x.2.1.2.2.2.1 x.2.1.2.2.2.2.1
theorem ajO (x:aw k62.aF):bo [As,Ly,Lo,Ll] (λ_=>none) Tryz.f62 k62 [.tmp 4] x=afa x:=by kernel_rfl
theorem ajP (hr:∀ x:ae9,aB k62.aF x→(afa x).eval=(k62.F x).eval):k62.Ok acl:=aD [As,Ly,Lo,Ll] ⟨oJ,ab0,abz,abr,trivial⟩ ajO λx hw _ hy=>(hr x hw).trans hy
theorem ajQ:k62.Ok acl:=by
 refine ajP λx hw=> ?_;obtain ⟨⟨a0,a1,a2,a3,a4,a5,a6,a7,a8,_⟩,⟨a9,fG,jw,a12,oh,_⟩,_⟩:=x;show (DO a0 a1 a2 a3 a4 a5 a6 a7 a8 a9 fG jw a12 oh).eval=some ((((ir a3 a5 a6 a9 fG jw a12 oh),()),()),((),(),()));unfold DO;unfold ir;generalize sd a3 a9=r;by_cases c3:dL a9 0 7=true
 case neg=>grind [ae,Out.eval]
 rw [ab (by simp [c3])];by_cases c1:oh=0
 . rw [ae (by simp [c1])]
   have e:(!(r==0)&&oh==r&&dL a9 0 7&&tC a5 a6 fG jw a12)=false:=by
    grind
   rw [e];rfl
 rw [ab (by simp [c1])];by_cases c2:oh=r
 case neg=>grind [ab,Out.eval]
 rw [ae (by simp [c2])];refine (GI fG jw a12 a5 a6 (λb=>(((b,()),()),((),(),())))).trans ?_;grind
def vu (kind target pipe:Int):Bool:=(kind==3&&target==pipe)||(kind==4&&target==pipe)
def tM (_ a1 a2 _ _ a5:Int):Out (((Bool×Unit)×Unit)×XI):= .ite (((a1==(3:Int)))==false) (.ite (((a1==(4:Int)))==true) (.ret (((((a2==a5)),()),()),((),(),()))) (.ret (((false,()),()),((),(),())))) (.ret (((((a2==a5)),()),()),((),(),())))
def Lz:bK:={ f:=110,lend:=true,aF:=[Fr,wl],lay:=[none,none],rs:=[wn],F:=λx=> .ret ((((vu x.1.2.1 x.1.2.2.1 x.2.1.1),()),()),((),(),())) }
theorem ab1 (x:aw Lz.aF):bo [] (λ_=>none) Tryz.f110 Lz [.tmp 4] x=tM x.1.1 x.1.2.1 x.1.2.2.1 x.1.2.2.2.1 x.1.2.2.2.2.1 x.2.1.1:=by kernel_rfl
theorem ab2 (hr:∀ x:ai×(Int×Unit)×Unit,aB Lz.aF x→(tM x.1.1 x.1.2.1 x.1.2.2.1 x.1.2.2.2.1 x.1.2.2.2.2.1 x.2.1.1).eval=(Lz.F x).eval):Lz.Ok acl:=aD [] trivial ab1 λx hw _ hy=>(hr x hw).trans hy
theorem ab3:Lz.Ok acl:=by
 refine ab2 λx hw=> ?_;obtain ⟨⟨a0,a1,a2,a3,a4,_⟩,⟨a5,_⟩,_⟩:=x;show (tM a0 a1 a2 a3 a4 a5).eval=some ((((vu a1 a2 a5),()),()),((),(),()));grind [tM,vu,Out.eval]
def oM (kind target pipe:Int):Bool×Int:=(vu kind target pipe,pipe)
def tN (_ a1 a2 _ _ a5:Int) (_:List Int):Out ip:= .ret ((((vu a1 a2 a5),()),()),((),(a5,()),()))
def LA:bK:={ f:=109,lend:=true,aF:=[Fr,Nm],lay:=[none,none],rs:=[wn],F:=λx=> .ret ((((oM x.1.2.1 x.1.2.2.1 x.2.1.1).1,()),()),((),((oM x.1.2.1 x.1.2.2.1 x.2.1.1).2,()),())) }
theorem ab4 (x:aw LA.aF):bo [Lz] (λ_=>none) Tryz.f109 LA [.tmp 3] x=tN x.1.1 x.1.2.1 x.1.2.2.1 x.1.2.2.2.1 x.1.2.2.2.2.1 x.2.1.1 x.2.1.2.1:=by kernel_rfl
theorem ab5 (hr:∀ x:ai×ah×Unit,aB LA.aF x→(tN x.1.1 x.1.2.1 x.1.2.2.1 x.1.2.2.2.1 x.1.2.2.2.2.1 x.2.1.1 x.2.1.2.1).eval=(LA.F x).eval):LA.Ok acl:=aD [Lz] ⟨ab3,trivial⟩ ab4 λx hw _ hy=>(hr x hw).trans hy
theorem ab6:LA.Ok acl:=by
 refine ab5 λx hw=> ?_;obtain ⟨⟨a0,a1,a2,a3,a4,_⟩,⟨a5,a6,_⟩,_⟩:=x;show (tN a0 a1 a2 a3 a4 a5 a6).eval=some ((((oM a1 a2 a5).1,()),()),((),((oM a1 a2 a5).2,()),()));grind [tN,oM,Out.eval]
def oi (a:List ai) (pipe:Int):Int×Int:=(vS (a.findIdx? (fY pipe)),pipe)
abbrev LB:=(List ai×Int×Int×Unit)×((Int×List Int×Unit)×Unit)
def pz:LB→Out (Round LB ((Unit)×((Int×List Int×Unit)×Unit)) ((Int×Unit)×((Int×List Int×Unit)×Unit)))
|((p0,p1,p2,_),(p3,p4,_),_)=> .ite (decide (p2<p1)) (.ite (decide (0≤p2)) (.get (nth p0 (Int.toNat p2)) λy1=> .ite ((oM y1.2.1 y1.2.2.1 p3).1) (.ret (.ret ((p2,()),(((oM y1.2.1 y1.2.2.1 p3).2,p4,()),())))) (.ret (.again ((p0,p1,(abs (p2+(1:Int))),()),(((oM y1.2.1 y1.2.2.1 p3).2,p4,()),()))))) .fail) (.ret (.out ((),((p3,p4,()),()))))
def qC (a0:List ai) (a1:Int) (a2:List Int):Out mp:= .get (iter pz aI ((a0,((List.length a0:Nat):Int),(0:Int),()),((a1,a2,()),()))) λy1=> .alt y1 (λy2=> .ret ((((-1:Int),()),()),((),(y2.2.1.1,()),()))) (λy3=> .ret (((y3.1.1,()),()),((),(y3.2.1.1,()),())))
abbrev DP:List (Nat×dT):=[(1, .var [.i .i64, .ro (.int .i64) (some 2)])]
def ab7:Nat→Option au:=λn=>bw [(0,⟨⟨[.ro eF (some 0), .fn 109 [1]]++dd 5++[.i .i64, .i .i64]++dd 10,DP⟩,⟨[.dead, .fn 109 [1]]++dd 17,DP⟩,some ⟨[.dead, .fn 109 [1], .dead, .dead, .i .i64]++dd 14,DP⟩,false⟩)] n
def AG:bK:={ f:=135,lend:=true,aF:=[LE,Nm],lay:=[none,some (109,1)],rs:=[wl],F:=λx=> .ret ((((oi x.1.1 x.2.1.1).1,()),()),((),((oi x.1.1 x.2.1.1).2,()),())) }
theorem Wt (x:aw AG.aF):bo [LA] ab7 Tryz.f135 AG [.tmp 4] x=qC x.1.1 x.2.1.1 x.2.1.2.1:=by kernel_rfl
theorem Wu (hr:∀ x:(List ai×Unit)×ah×Unit,aB AG.aF x→(qC x.1.1 x.2.1.1 x.2.1.2.1).eval=(AG.F x).eval):AG.Ok acl:=aD [LA] ⟨ab6,trivial⟩ Wt λx hw _ hy=>(hr x hw).trans hy
theorem Wv:AG.Ok acl:=by
 refine Wu λx hw=> ?_;obtain ⟨⟨a0,_⟩,⟨a1,a2,_⟩,_⟩:=x;have l0:List.length a0≤cj:=hw.1.1.1;show (qC a0 a1 a2).eval=some ((((oi a0 a1).1,()),()),((),((oi a0 a1).2,()),()));unfold qC oi;have h:iter pz aI ((a0,((List.length a0:Nat):Int),(0:Int),()),((a1,a2,()),()))=some (match List.findIdx? (fY a1) a0 with|some i=> .inr ((((i:Nat):Int),()),((a1,a2,()),()))|none=> .inl ((),((a1,a2,()),()))):=ei (f:=pz) a0 (fY a1) (λi=>((a0,((List.length a0:Nat):Int),((i:Nat):Int),()),((a1,a2,()),()))) (y:=((),((a1,a2,()),()))) (z:=λi=>((((i:Nat):Int),()),((a1,a2,()),())))
  (by grind [aq,pz,Out.eval,oM,vu,fY,oF])
  (by grind [pz,Out.eval,oM,vu,fY,oF])
  (by simp [pz,Out.eval]) l0
 refine (aa h).trans ?_;cases List.findIdx? (fY a1) a0<;>rfl
def mG (a:List ai) (pipe:Int):Bool×Int:=(a.any (fY pipe),pipe)
def qD (a0:List ai) (a1:Int) (_:List Int):Out ip:= .ret ((((decide ((oi a0 a1).1≥(0:Int))),()),()),((),((oi a0 a1).2,()),()))
def AH:bK:={ f:=108,lend:=true,aF:=[LE,Nm],lay:=[none,some (109,1)],rs:=[wn],F:=λx=> .ret ((((mG x.1.1 x.2.1.1).1,()),()),((),((mG x.1.1 x.2.1.1).2,()),())) }
theorem Ww (x:aw AH.aF):bo [AG] (λ_=>none) Tryz.f108 AH [.tmp 4] x=qD x.1.1 x.2.1.1 x.2.1.2.1:=by kernel_rfl
theorem Wx (hr:∀ x:(List ai×Unit)×ah×Unit,aB AH.aF x→(qD x.1.1 x.2.1.1 x.2.1.2.1).eval=(AH.F x).eval):AH.Ok acl:=aD [AG] ⟨Wv,trivial⟩ Ww λx hw _ hy=>(hr x hw).trans hy
theorem Wy:AH.Ok acl:=by
 refine Wx λx hw=> ?_;obtain ⟨⟨a0,_⟩,⟨a1,a2,_⟩,_⟩:=x;show (qD a0 a1 a2).eval=some ((((mG a0 a1).1,()),()),((),((mG a0 a1).2,()),()));unfold qD mG oi;rw [lQ];rfl
abbrev Wz:=(Int×XS)×(Unit)
def DQ:Wz→Out (Round Wz ((Int×Unit)×(Unit)) Empty)
|((p0,p1,p2,p3,_),_)=> .ite (decide (p3<p2)) (.ite (decide (0≤p3)) (.get (nth p1 (Int.toNat p3)) λy1=> .ret (.again (((abs (p0+((List.length y1.2.2.2.2.2.1:Nat):Int))),p1,p2,(abs (p3+(1:Int))),()),()))) .fail) (.ret (.out ((p0,()),())))
def DR (_ _:Int) (_:List (List ar)) (a3:List af) (_:List ai) (_ _:List ah) (_ _:List Int):Out gt:= .get (aP DQ aI (((0:Int),a3,((List.length a3:Nat):Int),(0:Int),()),())) λy1=> .ret (((y1.1.1,()),()),((),()))
def aoB:Nat→Option au:=λn=>bw [(0,⟨⟨[.dead, .dead, .dead, .i .i64, .dead, .dead, .dead, .ro jc (some 1), .i .i64, .i .i64]++dd 10,[]⟩,⟨[.dead, .dead, .dead, .i .i64]++dd 16,[]⟩,none,false⟩)] n
def k63:bK:={ f:=63,lend:=true,aF:=[ws],lay:=[none],rs:=[wl],F:=λx=> .ret ((((se x.1.2.2.2.1),()),()),((),())) }
abbrev afc:Type:=ac×Unit
abbrev afd (x:afc):=DR x.1.1 x.1.2.1 x.1.2.2.1 x.1.2.2.2.1 x.1.2.2.2.2.1 x.1.2.2.2.2.2.1 x.1.2.2.2.2.2.2.1 x.1.2.2.2.2.2.2.2.1 x.1.2.2.2.2.2.2.2.2.1
theorem ajR (x:aw k63.aF):bo [] aoB Tryz.f63 k63 [.tmp 2] x=afd x:=by kernel_rfl
theorem ajS (hr:∀ x:afc,aB k63.aF x→(afd x).eval=(k63.F x).eval):k63.Ok acl:=aD [] trivial ajR λx hw _ hy=>(hr x hw).trans hy
theorem ajT:k63.Ok acl:=by
 refine ajS λx hw=> ?_;obtain ⟨⟨a0,a1,a2,a3,a4,a5,a6,a7,a8,_⟩,_⟩:=x;have l3:List.length a3≤cj:=hw.1.2.1.1;show (DR a0 a1 a2 a3 a4 a5 a6 a7 a8).eval=some ((((se a3),()),()),((),()));unfold DR se;have h:aP DQ aI (((0:Int),a3,((List.length a3:Nat):Int),(0:Int),()),())=some (((List.foldl (λ(n:Int) (p:af)=>abs (n+((p.2.2.2.2.2.1.length:Nat):Int))) (0:Int) a3),()),()):=foldl_loop (f:=DQ) (λ_ _=>True) (λ(n:Int) (p:af)=>abs (n+((p.2.2.2.2.2.1.length:Nat):Int))) a3 (λd i=>((d,a3,((List.length a3:Nat):Int),((i:Nat):Int),()),())) (λd=>((d,()),()))
  (by grind [aq,DQ,Out.eval])
  (by grind [DQ,Out.eval]) (λ_ _ _ _=>trivial) l3 (0:Int) trivial
 exact aa h
abbrev WA:=(List ah×Int×Int×Unit)×(bA×Unit)
def zI:WA→Out (Round WA ((Unit)×(bA×Unit)) ((Bool×Unit)×(Unit)))
|((p0,p1,p2,_),(p3,p4,p5,p6,p7,p8,p9,bL,b8,_),_)=> .ite (decide (p2<p1)) (.ite (decide (0≤p2)) (.get (nth p0 (Int.toNat p2)) λy1=> .ite ((!(dL y1.1 (0:Int) (2:Int)))==false) (.ite ((decide (p2>(0:Int)))==true) (.ite (decide (0≤(abs (p2 - (1:Int))))) (.get (nth p8 (Int.toNat (abs (p2 - (1:Int))))) λy2=> .ite ((decide (y2.1≥y1.1))==false) (.ite ((decide (((List.length y1.2.1:Nat):Int)>(4:Int)))==false) (.ite (!(aH y1.2.1)) (.ret (.ret ((false,()),()))) (.ite (!(mG p7 y1.1).1) (.ret (.ret ((false,()),()))) (.ret (.again ((p0,p1,(abs (p2+(1:Int))),()),((p3,p4,p5,p6,p7,p8,p9,bL,b8,()),())))))) (.ret (.ret ((false,()),())))) (.ret (.ret ((false,()),())))) .fail) (.ite ((decide (((List.length y1.2.1:Nat):Int)>(4:Int)))==false) (.ite (!(aH y1.2.1)) (.ret (.ret ((false,()),()))) (.ite (!(mG p7 y1.1).1) (.ret (.ret ((false,()),()))) (.ret (.again ((p0,p1,(abs (p2+(1:Int))),()),((p3,p4,p5,p6,p7,p8,p9,bL,b8,()),())))))) (.ret (.ret ((false,()),()))))) (.ret (.ret ((false,()),())))) .fail) (.ret (.out ((),((p3,p4,p5,p6,p7,p8,p9,bL,b8,()),()))))
def DS (a0 a1:Int) (a2:List (List ar)) (a3:List af) (a4:List ai) (a5 a6:List ah) (a7 a8:List Int):Out ci:= .get (iter zI aI ((a5,((List.length a5:Nat):Int),(0:Int),()),((a0,a1,a2,a3,a4,a5,a6,a7,a8,()),()))) λy1=> .alt y1 (λy2=> .ret ((((decide (((List.length y2.2.1.2.2.2.2.2.1:Nat):Int)≤(3:Int))),()),()),((),()))) (λy3=> .ret (((y3.1.1,()),()),((),())))
abbrev WB:List (Nat×dT):=[(act, .var [.i .i64, .i .i64, .ro (.sl cT) (some 0), .ro jc (some 1), .ro eF (some 2), .ro dp (some 3), .ro dp (some 4), .ro (.int .i64) (some 5), .ro (.int .i64) (some 6)])]
def aoC:Nat→Option au:=λn=>bw [(0,⟨⟨[.dead, .vptr act 0]++dd 4++[.ro dp (some 3), .i .i64, .i .i64]++dd 46,WB⟩,⟨[.dead, .vptr act 0]++dd 53,WB⟩,some ⟨[.dead, .dead, .b]++dd 52,[]⟩,false⟩)] n
def k64:bK:={ f:=64,lend:=true,aF:=[ws],lay:=[none],rs:=[wn],F:=λx=> .ret ((((nm x.1.2.2.2.2.1 x.1.2.2.2.2.2.1),()),()),((),())) }
abbrev aff:Type:=ac×Unit
abbrev afg (x:aff):=DS x.1.1 x.1.2.1 x.1.2.2.1 x.1.2.2.2.1 x.1.2.2.2.2.1 x.1.2.2.2.2.2.1 x.1.2.2.2.2.2.2.1 x.1.2.2.2.2.2.2.2.1 x.1.2.2.2.2.2.2.2.2.1
theorem ajU (x:aw k64.aF):bo [As,ME,AH] aoC Tryz.f64 k64 [.tmp 2] x=afg x:=by kernel_rfl
theorem ajV (hr:∀ x:aff,aB k64.aF x→(afg x).eval=(k64.F x).eval):k64.Ok acl:=aD [As,ME,AH] ⟨oJ,Dl,Wy,trivial⟩ ajU λx hw _ hy=>(hr x hw).trans hy
theorem ajW:k64.Ok acl:=by
 refine ajV λx hw=> ?_;obtain ⟨⟨a0,a1,a2,a3,a4,a5,a6,a7,a8,_⟩,_⟩:=x;have l5:List.length a5≤cj:=hw.1.2.2.2.1.1;show (DS a0 a1 a2 a3 a4 a5 a6 a7 a8).eval=some ((((nm a4 a5),()),()),((),()));unfold DS nm;have h:iter zI aI ((a5,((List.length a5:Nat):Int),(0:Int),()),((a0,a1,a2,a3,a4,a5,a6,a7,a8,()),()))=some (if fH aG (ko a4) a5=true then .inl ((),((a0,a1,a2,a3,a4,a5,a6,a7,a8,()),())) else .inr ((false,()),())):=lG (f:=zI) (List.length a5) (xy aG (ko a4) a5) (λi=>((a5,((List.length a5:Nat):Int),((i:Nat):Int),()),((a0,a1,a2,a3,a4,a5,a6,a7,a8,()),()))) (y:=((),((a0,a1,a2,a3,a4,a5,a6,a7,a8,()),()))) (z:=((false,()),()))
  (λi hi=>by
   have w1:=aq (i:=i) (by omega);cases i with
   |zero=>
    rw [jD hi];have w3:decide (((0:Nat):Int)>0)=false:=rfl
    try unfold ko
    try unfold aG
    simp only [zI,Out.eval,iZ hi,pQ,bD hi,adN,aed,w1,w3,gt4,mG];cases p0:dL a5[0].1 0 2<;>cases p2:decide (List.length a5[0].2.1≤4)<;>cases p3:aH a5[0].2.1<;>cases p4:List.any a4 (fY a5[0].1)<;>rfl
   |succ i=>
    rw [iM hi];have w2:=kz i;have w3:decide (((i+1:Nat):Int)>0)=true:=aac
    try unfold ko
    try unfold aG
    simp only [zI,Out.eval,iZ hi,bD hi,adN,aed,w1,w3,gt4,mG,bD (show i<List.length a5 by omega),w2,rZ];cases p0:dL a5[i+1].1 0 2<;>cases p1:decide (a5[i].1<a5[i+1].1)<;>cases p2:decide (List.length a5[i+1].2.1≤4)<;>cases p3:aH a5[i+1].2.1<;>cases p4:List.any a4 (fY a5[i+1].1)<;>rfl)
  (by simp [zI,Out.eval]) l5
 refine (aa h).trans ?_;cases fH aG (ko a4) a5
 . cases decide (List.length a5≤3)<;>rfl
 . refine (bG _).trans ?_
   dsimp only;rw [le3,Bool.and_true];rfl
def ajX:bK:={ f:=112,lend:=true,aF:=[⟨false,false,[.mut (.int .i64)]⟩],lay:=[none],rs:=[],F:=λx=> .get (GK x.1.1) λy=> .ret ((),((y,()),())) }
theorem ab8:ajX.Ok acl:=WC ⟨⟨_,Tryz.func112,by kernel_rfl,by kernel_rfl⟩⟩ (λb o c z w h1 h2 h3=>Tryz.slices_Sort_int b o c z w h1 h2 h3) λp c w=>Tryz.slices_Sort_int_none p c w
abbrev WD:=XS×(List Int×List Int×Unit)
def IL:WD→Out (Round WD ((Unit)×(List Int×List Int×Unit)) Empty)
|((p0,p1,p2,_),p3,p4,_)=> .ite (decide (p2<p1)) (.ite (decide (0≤p2)) (.get (nth p0 (Int.toNat p2)) λy1=> .ite ((y1.2.2.1==(1:Int))) (.ite (decide (List.length p4+List.length ([y1.1]:List Int)≤bn)) (.ret (.again ((p0,p1,(abs (p2+(1:Int))),()),(p3,(p4++([y1.1]:List Int)),())))) .fail) (.ret (.again ((p0,p1,(abs (p2+(1:Int))),()),(p3,p4,()))))) .fail) (.ret (.out ((),(p3,p4,()))))
def DT (_ _:Int) (_:List (List ar)) (a3:List af) (_:List ai) (_ _:List ah) (a7 _:List Int):Out ci:= .get (Dg a7) λy1=> .get (GK y1) λy2=> .get (aP IL aI ((a3,((List.length a3:Nat):Int),(0:Int),()),(y2,([]:List Int),()))) λy3=> .ret ((((fN y3.2.1 y3.2.2.1),()),()),((),()))
abbrev WE:List (Nat×dT):=[(act, .arr (.int .i64)),(adc, .arr (.int .i64))]
def aoD:Nat→Option au:=λn=>bw [(0,⟨⟨[.dead, .dead, .dead, .aR act, .aR adc]++dd 9++[.ro jc (some 1), .i .i64, .i .i64]++dd 15,WE⟩,⟨[.dead, .dead, .dead, .aR act, .aR adc]++dd 27,WE⟩,none,false⟩)] n
def DU (ps:List af) (rd:List Int):Option Bool:=if rd.length≤bn∧ps.length≤bn then some (decide (kY rd=aN ps)) else none
def k66:bK:={ f:=66,lend:=true,aF:=[ws],lay:=[none],rs:=[wn],F:=λx=> .get (DU x.1.2.2.2.1 x.1.2.2.2.2.2.2.2.1) λy=> .ret (((y,()),()),((),())) }
abbrev afi:Type:=ac×Unit
abbrev afj (x:afi):=DT x.1.1 x.1.2.1 x.1.2.2.1 x.1.2.2.2.1 x.1.2.2.2.2.1 x.1.2.2.2.2.2.1 x.1.2.2.2.2.2.2.1 x.1.2.2.2.2.2.2.2.1 x.1.2.2.2.2.2.2.2.2.1
theorem ajY (x:aw k66.aF):bo [IA,ajX,KR] aoD Tryz.f66 k66 [.tmp 2] x=afj x:=by kernel_rfl
theorem ab9 (hr:∀ x:afi,aB k66.aF x→∀ y,(k66.F x).eval=some y→(afj x).eval=some y):k66.Ok acl:=aD [IA,ajX,KR] ⟨aaw,ab8,aao,trivial⟩ ajY hr
theorem zJ:∀ (a:List af) (l:List Int),a.foldl (λ(l:List Int) p=>if p.2.2.1=1 then l++[p.1] else l) l=l++aN a
 |[],l=>by simp [aN]
 |p::r,l=>by
  rw [ae5];by_cases hp:p.2.2.1=1
  . rw [aaZ hp,zJ r]
    simp [aN,mm,hp,aA]
  . rw [aae hp,zJ r]
    simp [aN,mm,hp]
theorem ajZ:k66.Ok acl:=by
 refine ab9 λx hw y hy=> ?_;obtain ⟨⟨a0,a1,a2,a3,a4,a5,a6,a7,a8,_⟩,_⟩:=x;have l3:List.length a3≤cj:=hw.1.2.1.1;change (Out.get (DU a3 a7) λy=>Out.ret (((y,()),()),((),()))).eval=some y at hy;show (DT a0 a1 a2 a3 a4 a5 a6 a7 a8).eval=some y;unfold DU at hy;by_cases hb:List.length a7≤bn∧List.length a3≤bn
 case neg=>rw [aae hb] at hy;exact nomatch hy
 rw [aaZ hb] at hy;refine afk ?_ hy;obtain ⟨hl,hq⟩:=hb;unfold DT;have e1:Dg a7=some a7:=jj hl;have e2:GK a7=some (kY a7):=aaZ (by rw [jQ] at hl;omega);refine (aa e1).trans ((aa e2).trans ?_);have h:=foldl_loop (f:=IL) (λ(d:List Int) i=>d.length≤i) (λ(l:List Int) (p:af)=>if p.2.2.1=1 then l++[p.1] else l) a3 (λd i=>((a3,((List.length a3:Nat):Int),((i:Nat):Int),()),(kY a7,d,()))) (λd=>((),(kY a7,d,())))
  (λi hi d hd=>by
   have h1:=aq (i:=i) (by omega);have h2:d.length+1≤bn:=by omega
   by_cases q:a3[i].2.2.1=1<;>simp [IL,Out.eval,hi,h1,cond_eq_ite,q,h2])
  (λd _=>by simp [IL,Out.eval])
  (λi hi d hd=>by
   split
   . simp;omega
   . omega) l3 [] (by simp)
 rw [zJ a3 [],ad0] at h;refine (aa h).trans ?_;rfl
def j6 (p:List ar):Bool:= !bm p
def xH (a0:List ar):Out ci:= .ret ((((!(bm a0)),()),()),((),()))
def k59:bK:={ f:=59,lend:=true,aF:=[At],lay:=[none],rs:=[wn],F:=λx=> .ret ((((j6 x.1.1),()),()),((),())) }
theorem aj0 (x:aw k59.aF):bo [Sj] (λ_=>none) Tryz.f59 k59 [.tmp 2] x=xH x.1.1:=by kernel_rfl
theorem aj1 (hr:∀ x:(List ar×Unit)×Unit,aB k59.aF x→(xH x.1.1).eval=(k59.F x).eval):k59.Ok acl:=aD [Sj] ⟨Nd,trivial⟩ aj0 λx hw _ hy=>(hr x hw).trans hy
theorem aj2:k59.Ok acl:=by
 refine aj1 λx hw=> ?_;obtain ⟨⟨a0,_⟩,_⟩:=x;show (xH a0).eval=some ((((j6 a0),()),()),((),()));unfold xH j6;simp only [Out.eval]
 all_goals ((repeat' split)<;>simp_all)
def mn (a:List (List ar)):Int:=vS (a.findIdx? j6)
abbrev PI:=(List (List ar)×Int×Int×Unit)×(Unit)
def tO:PI→Out (Round PI ((Unit)×(Unit)) ((Int×Unit)×(Unit)))
|((p0,p1,p2,_),_)=> .ite (decide (p2<p1)) (.ite (decide (0≤p2)) (.get (nth p0 (Int.toNat p2)) λy1=> .ite (j6 y1) (.ret (.ret ((p2,()),()))) (.ret (.again ((p0,p1,(abs (p2+(1:Int))),()),())))) .fail) (.ret (.out ((),())))
def tP (a0:List (List ar)):Out gt:= .get (iter tO aI ((a0,((List.length a0:Nat):Int),(0:Int),()),())) λy1=> .alt y1 (λ_=> .ret ((((-1:Int),()),()),((),()))) (λy3=> .ret (((y3.1.1,()),()),((),())))
def aj3:Nat→Option au:=λn=>bw [(0,⟨⟨[.ro (.sl cT) (some 0), .fn 59 []]++dd 5++[.i .i64, .i .i64]++dd 10,[]⟩,⟨dd 19,[]⟩,some ⟨dd 4++[.i .i64]++dd 14,[]⟩,false⟩)] n
def LC:bK:={ f:=95,lend:=true,aF:=[IR],lay:=[none,some (59,0)],rs:=[wl],F:=λx=> .ret ((((mn x.1.1),()),()),((),())) }
theorem aca (x:aw LC.aF):bo [k59] aj3 Tryz.f95 LC [.tmp 4] x=tP x.1.1:=by kernel_rfl
theorem acb (hr:∀ x:(List (List ar)×Unit)×Unit,aB LC.aF x→(tP x.1.1).eval=(LC.F x).eval):LC.Ok acl:=aD [k59] ⟨aj2,trivial⟩ aca λx hw _ hy=>(hr x hw).trans hy
theorem acd:LC.Ok acl:=by
 refine acb λx hw=> ?_;obtain ⟨⟨a0,_⟩,_⟩:=x;have l0:List.length a0≤cj:=hw.1.1.1;show (tP a0).eval=some ((((mn a0),()),()),((),()));unfold tP mn;have h:iter tO aI ((a0,((List.length a0:Nat):Int),(0:Int),()),())=some (match List.findIdx? j6 a0 with|some i=> .inr ((((i:Nat):Int),()),())|none=> .inl ((),())):=ei (f:=tO) a0 j6 (λi=>((a0,((List.length a0:Nat):Int),((i:Nat):Int),()),())) (y:=((),())) (z:=λi=>((((i:Nat):Int),()),()))
  (λi hi hp=>by
   have h1:=aq (i:=i) (by omega);simp [tO,Out.eval,hi,h1,cond_eq_ite] at hp ⊢ <;>(try simp_all))
  (λi hi hp=>by simp [tO,Out.eval,hi,cond_eq_ite] at hp ⊢ <;>(try simp_all))
  (by simp [tO,Out.eval]) l0
 refine (aa h).trans ?_;cases List.findIdx? j6 a0<;>rfl
def kB (a:List (List ar)):Bool:=a.any j6
def tQ (a0:List (List ar)):Out ci:= .ret ((((decide ((mn a0)≥(0:Int))),()),()),((),()))
def LD:bK:={ f:=58,lend:=true,aF:=[IR],lay:=[none,some (59,0)],rs:=[wn],F:=λx=> .ret ((((kB x.1.1),()),()),((),())) }
theorem ace (x:aw LD.aF):bo [LC] (λ_=>none) Tryz.f58 LD [.tmp 4] x=tQ x.1.1:=by kernel_rfl
theorem acf (hr:∀ x:(List (List ar)×Unit)×Unit,aB LD.aF x→(tQ x.1.1).eval=(LD.F x).eval):LD.Ok acl:=aD [LC] ⟨acd,trivial⟩ ace λx hw _ hy=>(hr x hw).trans hy
theorem acg:LD.Ok acl:=by
 refine acf λx hw=> ?_;obtain ⟨⟨a0,_⟩,_⟩:=x;show (tQ a0).eval=some ((((kB a0),()),()),((),()));unfold tQ kB mn;rw [lQ];rfl
abbrev WG:=XS×(bA×Unit)
def zK:WG→Out (Round WG ((Unit)×(bA×Unit)) ((Bool×Unit)×(Unit)))
|((p0,p1,p2,_),(p3,p4,p5,p6,p7,p8,p9,bL,b8,_),_)=> .ite (decide (p2<p1)) (.ite (decide (0≤p2)) (.get (nth p0 (Int.toNat p2)) λy1=> .ite ((decide (p2>(0:Int)))==true) (.ite (decide (0≤(abs (p2 - (1:Int))))) (.get (nth p6 (Int.toNat (abs (p2 - (1:Int))))) λy2=> .ite ((decide (y2.1≥y1.1))==false) (.ite (!(jE p3 p4 p5 p6 p7 y1.1 y1.2.1 y1.2.2.1 y1.2.2.2.1 y1.2.2.2.2.1.1 y1.2.2.2.2.1.2.1 y1.2.2.2.2.2.1 y1.2.2.2.2.2.2.1 y1.2.2.2.2.2.2.2.1 y1.2.2.2.2.2.2.2.2.1)) (.ret (.ret ((false,()),()))) (.ret (.again ((p0,p1,(abs (p2+(1:Int))),()),((p3,p4,p5,p6,p7,p8,p9,bL,b8,()),()))))) (.ret (.ret ((false,()),())))) .fail) (.ite (!(jE p3 p4 p5 p6 p7 y1.1 y1.2.1 y1.2.2.1 y1.2.2.2.1 y1.2.2.2.2.1.1 y1.2.2.2.2.1.2.1 y1.2.2.2.2.2.1 y1.2.2.2.2.2.2.1 y1.2.2.2.2.2.2.2.1 y1.2.2.2.2.2.2.2.2.1)) (.ret (.ret ((false,()),()))) (.ret (.again ((p0,p1,(abs (p2+(1:Int))),()),((p3,p4,p5,p6,p7,p8,p9,bL,b8,()),())))))) .fail) (.ret (.out ((),((p3,p4,p5,p6,p7,p8,p9,bL,b8,()),()))))
abbrev WH:=(List ai×Int×Int×Unit)×(bA×Unit)
def zL:WH→Out (Round WH ((Unit)×(bA×Unit)) ((Bool×Unit)×(Unit)))
|((p0,p1,p2,_),(p3,p4,p5,p6,p7,p8,p9,bL,b8,_),_)=> .ite (decide (p2<p1)) (.ite (decide (0≤p2)) (.get (nth p0 (Int.toNat p2)) λy1=> .ite ((decide (p2>(0:Int)))==true) (.ite (decide (0≤(abs (p2 - (1:Int))))) (.get (nth p7 (Int.toNat (abs (p2 - (1:Int))))) λy2=> .ite ((decide (y2.1≥y1.1))==false) (.ite (!(ir p6 p8 p9 y1.1 y1.2.1 y1.2.2.1 y1.2.2.2.1 y1.2.2.2.2.1)) (.ret (.ret ((false,()),()))) (.ret (.again ((p0,p1,(abs (p2+(1:Int))),()),((p3,p4,p5,p6,p7,p8,p9,bL,b8,()),()))))) (.ret (.ret ((false,()),())))) .fail) (.ite (!(ir p6 p8 p9 y1.1 y1.2.1 y1.2.2.1 y1.2.2.2.1 y1.2.2.2.2.1)) (.ret (.ret ((false,()),()))) (.ret (.again ((p0,p1,(abs (p2+(1:Int))),()),((p3,p4,p5,p6,p7,p8,p9,bL,b8,()),())))))) .fail) (.ret (.out ((),((p3,p4,p5,p6,p7,p8,p9,bL,b8,()),()))))
def DV (a0 a1:Int) (a2:List (List ar)) (a3:List af) (a4:List ai) (a5 a6:List ah) (a7 a8:List Int):Out ci:= .ite ((!(dL a0 (1:Int) (100000:Int)))==false) (.ite ((!(dL a1 (0:Int) (1000000:Int)))==false) (.ite ((!(dL ((List.length a2:Nat):Int) (1:Int) (4:Int)))==false) (.ite ((decide (((List.length a8:Nat):Int)>(60:Int)))==false) (.ite (!(aH a8)) (.ret (((false,()),()),((),()))) (.ite ((kB a2)==false) (.ite ((decide (((List.length a3:Nat):Int)>(6:Int)))==false) (.ite (decide (((List.length a4:Nat):Int)>(8:Int))) (.ret (((false,()),()),((),()))) (.get (iter zK aI ((a3,((List.length a3:Nat):Int),(0:Int),()),((a0,a1,a2,a3,a4,a5,a6,a7,a8,()),()))) λy1=> .alt y1 (λy2=> .get (iter zL aI ((y2.2.1.2.2.2.2.1,((List.length y2.2.1.2.2.2.2.1:Nat):Int),(0:Int),()),((y2.2.1.1,y2.2.1.2.1,y2.2.1.2.2.1,y2.2.1.2.2.2.1,y2.2.1.2.2.2.2.1,y2.2.1.2.2.2.2.2.1,y2.2.1.2.2.2.2.2.2.1,y2.2.1.2.2.2.2.2.2.2.1,y2.2.1.2.2.2.2.2.2.2.2.1,()),()))) λy4=> .alt y4 (λy5=> .ite ((decide ((se y5.2.1.2.2.2.1)≤(64:Int)))==true) (.ite ((nm y5.2.1.2.2.2.2.1 y5.2.1.2.2.2.2.2.1)==true) (.ite ((gX y5.2.1.2.2.2.2.2.2.1)==true) (.get (DU y5.2.1.2.2.2.1 y5.2.1.2.2.2.2.2.2.2.1) λy7=> .ret (((y7,()),()),((),()))) (.ret (((false,()),()),((),())))) (.ret (((false,()),()),((),())))) (.ret (((false,()),()),((),())))) (λy6=> .ret (((y6.1.1,()),()),((),())))) (λy3=> .ret (((y3.1.1,()),()),((),()))))) (.ret (((false,()),()),((),())))) (.ret (((false,()),()),((),()))))) (.ret (((false,()),()),((),())))) (.ret (((false,()),()),((),())))) (.ret (((false,()),()),((),())))) (.ret (((false,()),()),((),())))
abbrev IM:List (Nat×dT):=[(act, .var [.i .i64, .i .i64, .ro (.sl cT) (some 0), .ro jc (some 1), .ro eF (some 2), .ro dp (some 3), .ro dp (some 4), .ro (.int .i64) (some 5), .ro (.int .i64) (some 6)])]
def aoE:Nat→Option au:=λn=>bw [(0,⟨⟨[.dead, .vptr act 0]++dd 50++[.ro jc (some 1), .i .i64, .i .i64]++dd 70,IM⟩,⟨[.dead, .vptr act 0]++dd 123,IM⟩,some ⟨[.dead, .dead, .b]++dd 122,[]⟩,false⟩),(2,⟨⟨[.dead, .vptr act 0]++dd 79++[.ro eF (some 2), .i .i64, .i .i64]++dd 41,IM⟩,⟨[.dead, .vptr act 0]++dd 123,IM⟩,some ⟨[.dead, .dead, .b]++dd 122,[]⟩,false⟩)] n
def tc (next tick:Int) (dO:List (List ar)) (ps:List af) (os:List ai) (cA:List fq) (files:List cB) (rd out:List Int):Option Bool:=
 if rd.length≤bn then some (iu next tick dO ps os cA files rd out) else none
def k17:bK:={ f:=17,lend:=true,aF:=[ws],lay:=[none],rs:=[wn],F:=λx=> .get (tc x.1.1 x.1.2.1 x.1.2.2.1 x.1.2.2.2.1 x.1.2.2.2.2.1 x.1.2.2.2.2.2.1 x.1.2.2.2.2.2.2.1 x.1.2.2.2.2.2.2.2.1 x.1.2.2.2.2.2.2.2.2.1) λy=> .ret (((y,()),()),((),())) }
abbrev afl:Type:=ac×Unit
abbrev afm (x:afl):=DV x.1.1 x.1.2.1 x.1.2.2.1 x.1.2.2.2.1 x.1.2.2.2.2.1 x.1.2.2.2.2.2.1 x.1.2.2.2.2.2.2.1 x.1.2.2.2.2.2.2.2.1 x.1.2.2.2.2.2.2.2.2.1
theorem aj4 (x:aw k17.aF):bo [As,ME,LD,k61,k62,k63,k64,k65,k66] aoE Tryz.f17 k17 [.tmp 2] x=afm x:=by kernel_rfl
theorem ach (hr:∀ x:afl,aB k17.aF x→∀ y,(k17.F x).eval=some y→(afm x).eval=some y):k17.Ok acl:=aD [As,ME,LD,k61,k62,k63,k64,k65,k66] ⟨oJ,Dl,acg,ajM,ajQ,ajT,ajW,aiz,ajZ,trivial⟩ aj4 hr
theorem ag4:k17.Ok acl:=by
 refine ach λx hw y hy=> ?_;obtain ⟨⟨a0,a1,a2,a3,a4,a5,a6,a7,a8,_⟩,_⟩:=x;have l3:List.length a3≤cj:=hw.1.2.1.1;have l4:List.length a4≤cj:=hw.1.2.2.1.1;change (Out.get (tc a0 a1 a2 a3 a4 a5 a6 a7 a8) λy=>Out.ret (((y,()),()),((),()))).eval=some y at hy;show (DV a0 a1 a2 a3 a4 a5 a6 a7 a8).eval=some y;unfold tc at hy;by_cases hl:List.length a7≤bn
 case neg=>rw [aae hl] at hy;exact nomatch hy
 rw [aaZ hl] at hy;refine afk ?_ hy;unfold DV;change _=some (((iu a0 a1 a2 a3 a4 a5 a6 a7 a8,()),()),((),()));rw [aom,gt6,gt8];by_cases c1:dL a0 1 100000=true
 case neg=>rw [ae (by simp [c1])];simp [Out.eval,iu,c1]
 rw [ab (by simp [c1])];by_cases c2:dL a1 0 1000000=true
 case neg=>rw [ae (by simp [c2])];simp [Out.eval,iu,c2]
 rw [ab (by simp [c2])];by_cases c3:dL ((List.length a2:Nat):Int) 1 4=true
 case neg=>rw [ae (by simp [c3])];simp [Out.eval,iu,c3]
 rw [ab (by simp [c3])];by_cases c4:List.length a8≤60
 case neg=>rw [ae (by simp [c4])];simp [Out.eval,iu,c4]
 rw [ab (by simp [c4])];by_cases c5:aH a8=true
 case neg=>rw [ab (by simp [c5])];simp [Out.eval,iu,c5]
 rw [ae (by simp [c5])];have e6:kB a2= !List.all a2 bm:=by
  unfold kB j6;rw [aeA];simp
 rw [e6];by_cases c6:List.all a2 bm=true
 case neg=>rw [ae (by simp [c6])];simp [Out.eval,iu,c6]
 rw [ab (by simp [c6])];by_cases c7:List.length a3≤6
 case neg=>rw [ae (by simp [c7])];simp [Out.eval,iu,c7]
 rw [ab (by simp [c7])];by_cases c8:List.length a4≤8
 case neg=>rw [ab (by simp [c8])];simp [Out.eval,iu,c8]
 rw [ae (by simp [c8])];have h1:iter zK aI ((a3,((List.length a3:Nat):Int),(0:Int),()),((a0,a1,a2,a3,a4,a5,a6,a7,a8,()),()))=some (if fH aA (fL a0 a1 (List.length a2) a3 a4) a3=true then .inl ((),((a0,a1,a2,a3,a4,a5,a6,a7,a8,()),())) else .inr ((false,()),())):=lG (f:=zK) (List.length a3) (xy aA (fL a0 a1 (List.length a2) a3 a4) a3) (λi=>((a3,((List.length a3:Nat):Int),((i:Nat):Int),()),((a0,a1,a2,a3,a4,a5,a6,a7,a8,()),()))) (y:=((),((a0,a1,a2,a3,a4,a5,a6,a7,a8,()),()))) (z:=((false,()),()))
  (λi hi=>by
   have w1:=aq (i:=i) (by omega);cases i with
   |zero=>
    rw [jD hi];have w3:decide (((0:Nat):Int)>0)=false:=rfl
    try unfold fL
    try unfold sg
    try unfold aA
    simp only [zK,Out.eval,iZ hi,pQ,bD hi,adN,aed,w1,w3,jE];cases p0:dL a3[0].1 1 (abs (a0 - 1))<;>cases p2:dG a1 (List.length a2) a3 a4 a3[0].1 a3[0].2.1 a3[0].2.2.1 a3[0].2.2.2.1 a3[0].2.2.2.2.1.1 a3[0].2.2.2.2.1.2.1 a3[0].2.2.2.2.2.1 a3[0].2.2.2.2.2.2.1 a3[0].2.2.2.2.2.2.2.1 a3[0].2.2.2.2.2.2.2.2.1<;>rfl
   |succ i=>
    rw [iM hi];have w2:=kz i;have w3:decide (((i+1:Nat):Int)>0)=true:=aac
    try unfold fL
    try unfold sg
    try unfold aA
    simp only [zK,Out.eval,iZ hi,bD hi,adN,aed,w1,w3,jE,bD (show i<List.length a3 by omega),w2,rZ];cases p0:dL a3[i+1].1 1 (abs (a0 - 1))<;>cases p1:decide (a3[i].1<a3[i+1].1)<;>cases p2:dG a1 (List.length a2) a3 a4 a3[i+1].1 a3[i+1].2.1 a3[i+1].2.2.1 a3[i+1].2.2.2.1 a3[i+1].2.2.2.2.1.1 a3[i+1].2.2.2.2.1.2.1 a3[i+1].2.2.2.2.2.1 a3[i+1].2.2.2.2.2.2.1 a3[i+1].2.2.2.2.2.2.2.1 a3[i+1].2.2.2.2.2.2.2.2.1<;>rfl)
  (by simp [zK,Out.eval]) l3
 refine (aa h1).trans ?_;by_cases q1:fH aA (fL a0 a1 (List.length a2) a3 a4) a3=true
 case neg=>rw [aae q1];simp [Out.eval,iu,q1]
 rw [aaZ q1];refine (bG _).trans ?_;dsimp only;have h2:iter zL aI ((a4,((List.length a4:Nat):Int),(0:Int),()),((a0,a1,a2,a3,a4,a5,a6,a7,a8,()),()))=some (if fH an (kX a3 a5 a6) a4=true then .inl ((),((a0,a1,a2,a3,a4,a5,a6,a7,a8,()),())) else .inr ((false,()),())):=lG (f:=zL) (List.length a4) (xy an (kX a3 a5 a6) a4) (λi=>((a4,((List.length a4:Nat):Int),((i:Nat):Int),()),((a0,a1,a2,a3,a4,a5,a6,a7,a8,()),()))) (y:=((),((a0,a1,a2,a3,a4,a5,a6,a7,a8,()),()))) (z:=((false,()),()))
  (λi hi=>by
   have w1:=aq (i:=i) (by omega);cases i with
   |zero=>
    rw [jD hi];have w3:decide (((0:Nat):Int)>0)=false:=rfl
    try unfold kX
    try unfold an
    simp only [zL,Out.eval,iZ hi,pQ,bD hi,adN,aed,w1,w3];cases p0:ir a3 a5 a6 a4[0].1 a4[0].2.1 a4[0].2.2.1 a4[0].2.2.2.1 a4[0].2.2.2.2.1<;>rfl
   |succ i=>
    rw [iM hi];have w2:=kz i;have w3:decide (((i+1:Nat):Int)>0)=true:=aac
    try unfold kX
    try unfold an
    simp only [zL,Out.eval,iZ hi,bD hi,adN,aed,w1,w3,bD (show i<List.length a4 by omega),w2,rZ];cases p0:ir a3 a5 a6 a4[i+1].1 a4[i+1].2.1 a4[i+1].2.2.1 a4[i+1].2.2.2.1 a4[i+1].2.2.2.2.1<;>cases p1:decide (a4[i].1<a4[i+1].1)<;>rfl)
  (by simp [zL,Out.eval]) l4
 refine (aa h2).trans ?_;by_cases q2:fH an (kX a3 a5 a6) a4=true
 case neg=>rw [aae q2];simp [Out.eval,iu,q2]
 rw [aaZ q2];refine (bG _).trans ?_;dsimp only;have e9:DU a3 a7=some (decide (kY a7=aN a3)):=aaZ ⟨hl,by rw [jQ];omega⟩;unfold iu;rw [c1,c2,c3,aac c4,c5,c6,aac c7,aac c8,q1,q2,e9];cases decide (se a3≤64)<;>cases nm a4 a5<;>cases gX a6<;>rfl
def zM (a0 a1 a2 a3 a4:Int) (a5 a6 a7:List Int) (a8 a9:Int):Out ((XM×Unit)×(Unit×Unit)):= .ite (decide (List.length ([]:List Int)+List.length a5≤bn)) (.ite (decide (List.length ([]:List Int)+List.length a6≤bn)) (.ite (decide (List.length ([]:List Int)+List.length a7≤bn)) (.ret (((a0,a1,a2,a3,a4,(([]:List Int)++a5),(([]:List Int)++a6),(([]:List Int)++a7),a8,a9,()),()),((),()))) .fail) .fail) .fail
def gS (pid par st pg pc:Int) (iY mem fds:List Int) (n6 code:Int):Option (Int×Int×Int×Int×Int×List Int×List Int×List Int×Int×Int):=
 if iY.length≤bn∧mem.length≤bn∧fds.length≤bn then some (pid,par,st,pg,pc,iY,mem,fds,n6,code) else none
def IP:bK:={ f:=127,lend:=true,aF:=[Fn],lay:=[none],rs:=[Or],F:=λx=> .get (gS x.1.1 x.1.2.1 x.1.2.2.1 x.1.2.2.2.1 x.1.2.2.2.2.1 x.1.2.2.2.2.2.1 x.1.2.2.2.2.2.2.1 x.1.2.2.2.2.2.2.2.1 x.1.2.2.2.2.2.2.2.2.1 x.1.2.2.2.2.2.2.2.2.2.1) λy=> .ret (((y.1,y.2.1,y.2.2.1,y.2.2.2.1,y.2.2.2.2.1,y.2.2.2.2.2.1,y.2.2.2.2.2.2.1,y.2.2.2.2.2.2.2.1,y.2.2.2.2.2.2.2.2.1,y.2.2.2.2.2.2.2.2.2,()),()),((),())) }
abbrev WI:Type:=XM×Unit
abbrev WJ (x:WI):=zM x.1.1 x.1.2.1 x.1.2.2.1 x.1.2.2.2.1 x.1.2.2.2.2.1 x.1.2.2.2.2.2.1 x.1.2.2.2.2.2.2.1 x.1.2.2.2.2.2.2.2.1 x.1.2.2.2.2.2.2.2.2.1 x.1.2.2.2.2.2.2.2.2.2.1
theorem aci (x:aw IP.aF):bo [] (λ_=>none) Tryz.f127 IP [.cell 2 57] x=WJ x:=by kernel_rfl
theorem WK (hr:∀ x:WI,aB IP.aF x→∀ y,(IP.F x).eval=some y→(WJ x).eval=some y):IP.Ok acl:=aD [] trivial aci hr
theorem IQ:IP.Ok acl:=by
 refine WK λx hw y hy=> ?_;obtain ⟨⟨a0,a1,a2,a3,a4,a5,a6,a7,a8,a9,_⟩,_⟩:=x;change (Out.get (gS a0 a1 a2 a3 a4 a5 a6 a7 a8 a9) λy=>Out.ret (((y.1,y.2.1,y.2.2.1,y.2.2.2.1,y.2.2.2.2.1,y.2.2.2.2.2.1,y.2.2.2.2.2.2.1,y.2.2.2.2.2.2.2.1,y.2.2.2.2.2.2.2.2.1,y.2.2.2.2.2.2.2.2.2,()),()),((),()))).eval=some y at hy;show (zM a0 a1 a2 a3 a4 a5 a6 a7 a8 a9).eval=some y;unfold gS at hy;by_cases hl:List.length a5≤bn∧List.length a6≤bn∧List.length a7≤bn
 case neg=>rw [aae hl] at hy;exact nomatch hy
 rw [aaZ hl] at hy;refine afk ?_ hy;unfold zM;have e:∀ (l:List Int),l.length≤bn→decide (List.length ([]:List Int)+List.length l≤bn)=true:=λl h=>aac (by rw [adC,aeS];exact h);rw [ab (e _ hl.1),ab (e _ hl.2.1),ab (e _ hl.2.2)];rfl
theorem vg {next tick:Int} {dO:List (List ar)} {ps:List af} {os:List ai} {cA:List fq} {files:List cB} {rd out:List Int} (h:cw next tick dO ps os cA files rd out=true) {p:af} (hp:p∈ps):
  p.2.2.2.2.1.2.1.length=4∧p.2.2.2.2.2.1.length≤12∧p.2.2.2.2.2.2.1.length=4:=by
 unfold cw at h;simp only [aa6] at h;have:=adG.1 (o7 h.1.1.2) p hp;unfold fL sg dG aU at this;simp only [aa6,adS] at this;exact ⟨this.2.1.1.1.1.1.1.1.1.1.2.1.2,this.2.1.1.1.1.1.1.1.1.2,this.2.1.1.1.1.1.2⟩
abbrev bi:=(Int×Int×Unit)×(Int×Int×Unit)×List (List ar)×List af×List ai×List ah×List ah×List Int×List Int×rV
abbrev bv:=(List UInt8×Bool×Unit)×(Int×Int×Unit)×(Int×Int×Unit)×List (List ar)×List af×List ai×List ah×List ah×List Int×List Int×rV
abbrev ce:=(Int×Int×Unit)×(Int×Int×Unit)×List Int×List (List ar)×List af×List ai×List ah×List ah×List Int×List Int×List am×List (List ar)×List af×List ai×List ah×List ah×List Int×List Int×List am×Unit
abbrev co:=(Int×Int×Unit)×(Int×Int×Unit)×List (List ar)×List af×List ai×List ah×List ah×List Int×List Int×List am×List (List ar)×List af×List ai×List ah×List ah×List Int×List Int×List am×Unit
abbrev dl:=(Int×Int×Unit)×XM×(Int×List Int×Unit)×(Int×Int×Unit)×List (List ar)×List af×List ai×List ah×List ah×List Int×List Int×List am×List (List ar)×List af×List ai×List ah×List ah×List Int×List Int×List am×Unit
abbrev ge:=(Int×Int×Unit)×am×(Int×Int×Unit)×List ah×List (List ar)×List af×List ai×List ah×List ah×List Int×List Int×rV
abbrev pm:=(Int×Int×Unit)×am×(Int×Int×Unit)×List ai×List (List ar)×List af×List ai×List ah×List ah×List Int×List Int×rV
abbrev ut:=(List UInt8×Int×Unit)×bi
end Go.Proofs.YtkmhgofibfmjfaaGreat.Dm
