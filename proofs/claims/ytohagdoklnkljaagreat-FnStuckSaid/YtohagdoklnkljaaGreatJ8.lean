/- f -/
import Derived.Test.YtohagdoklnkljaaGreatJ5
import Derived.Test.YtohagdoklnkljaaGreatSo
import Derived.Test.YtohagdoklnkljaaGreatShelf
namespace Go.Proofs.YtohagdoklnkljaaGreat.Dm
section
open Go Go.ChangeShapes Go.WideShapes Go.ChangeAt Go.RowKit
section
variable {α δ σ β γ:Type}
theorem xn {f:σ→Out (Round σ β γ)} (a:List α) (p:α→Bool) (S:Nat→σ) {y:β} {z:γ} (hs:∀ i (hi:i<a.length),(f (S i)).eval=some (if p a[i]=true then .again (S (i+1)) else .ret z))
  (hy:(f (S a.length)).eval=some (.out y)) (ha:a.length≤aS):iter f bn (S 0)=some (if a.all p=true then .inl y else .inr z):=by
 rw [Hx (f:=f) a (fun x=> !p x) S (y:=y) (z:=z) (fun i hi=>by rw [hs i hi];cases p a[i]<;>rfl) hy ha];have e:(a.any fun x=> !p x)= !a.all p:=by rw [acK];simp
 rw [e];cases a.all p<;>rfl
theorem kh {f:σ→Out (Round σ β γ)} (n:Nat) (p:Nat→Bool) (S:Nat→σ) {y:β} {z:γ} (hs:∀ i (_:i<n),(f (S i)).eval=some (if p i=true then .again (S (i+1)) else .ret z))
  (hy:(f (S n)).eval=some (.out y)) (hn:n≤aS):iter f bn (S 0)=some (if (List.range n).all p=true then .inl y else .inr z):=
 xn (f:=f) (List.range n) p S (fun i hi=>by rw [List.getElem_range];exact hs i (by simpa using hi)) (by rw [List.length_range];exact hy) (by rw [List.length_range];exact hn)
def AM (g:δ→α→Option δ):δ→List α→Option δ
 |d,[]=>some d
 |d,x::r=>match g d x with|none=>none|some d'=>AM g d' r
theorem Og {f:σ→Out (Round σ β γ)} (a:List α) (g:δ→α→Option δ) (P:Nat→δ→Prop) (S:δ→Nat→σ) (y:δ→β) (z:γ) (hP:∀ i (_:i<a.length) d d',P i d→g d a[i]=some d'→P (i+1) d')
  (hs:∀ i (hi:i<a.length) d,P i d→(f (S d i)).eval=some (match g d a[i] with|none=> .ret z|some d'=> .again (S d' (i+1)))) (hy:∀ d,P a.length d→(f (S d a.length)).eval=some (.out (y d))) (ha:a.length≤aS) {d:δ} (h0:P 0 d):
  iter f bn (S d 0)=some (match AM g d a with|none=> .inr z|some d'=> .inl (y d')):=by
 have key:∀ (m i:Nat) (d:δ) (n:Nat),i+m=a.length→m<n→P i d→iter f n (S d i)=some (match AM g d (a.drop i) with|none=> .inr z|some d'=> .inl (y d')):=by
  intro m
  induction m with
  |zero=>
   intro i d n hi hn hp;obtain rfl:i=a.length:=by omega
   rw [lD (hy d hp) hn,List.drop_length];rfl
  |succ m ih=>
   intro i d n hi hn hp;have bZ:i<a.length:=by omega
   have hq:=hs i bZ d hp;rw [acN bZ];simp only [AM];cases e:g d a[i] with
   |none=>rw [e] at hq;rw [nC hq (by omega)]
   |some d'=>
    rw [e] at hq;obtain ⟨n,rfl⟩:∃ n',n=n'+1:=⟨n - 1,by omega⟩
    rw [ke hq,ih (i+1) _ n (by omega) (by omega) (hP i bZ d d' hp e)]
 simpa using key a.length 0 d bn (by omega) (fL ha) h0
end
abbrev Cz:=List (List aw)×List af×List ah×List ag×List ag×List Int×List Int×Unit
def lr (a:List Int) (x:Int):Bool:=a.any fun y=>decide (y=x)
theorem uA {a:List Int} {x:Int}:lr a x=true↔x∈a:=by simp [lr]
abbrev mL:=ag
def ie {α:Type} (key:α→Int) (a:List α) (v:Int):Option Nat:=a.findIdx? fun x=>key x==v
def dv {α:Type} (key:α→Int) (a:List α) (v:Int):Int:=uQ (ie key a v)
def ao (x:af):Int:=x.1
def al (x:ah):Int:=x.1
def aC (x:mL):Int:=x.1
def aV (x:gn):Int:=x.1
def ak (a:List af) (v:Int):Int:=dv ao a v
def aF (a:List ah) (v:Int):Int:=dv al a v
def bp (a:List mL) (v:Int):Int:=dv aC a v
def bt (a:List gn) (v:Int):Int:=dv aV a v
def vk {α:Type} (key:α→Int) (ok:α→Bool) (a:List α) (i:Nat):Bool:=match a[i]? with
 |none=>true
 |some x=>ok x&&(match i with|0=>true|j+1=>match a[j]? with|none=>true|some z=>decide (key z<key x))
def eO {α:Type} (key:α→Int) (ok:α→Bool) (a:List α):Bool:=(List.range a.length).all (vk key ok a)
theorem iK {α:Type} {key:α→Int} {ok:α→Bool} {a:List α} (h:0<a.length):vk key ok a 0=ok a[0]:=by
 unfold vk;rw [aaf h];simp
theorem gT {α:Type} {key:α→Int} {ok:α→Bool} {a:List α} {i:Nat} (h:i+1<a.length):vk key ok a (i+1)=(ok a[i+1]&&decide (key a[i]<key a[i+1])):=by
 unfold vk;rw [aaf h];simp only [aaf (show i<a.length by omega)]
def aR (pc:Int) (vm:List Int):Bool:=m9 pc&&decide (vm.length=4)&&aG vm
def gg (tick:Int) (os:List ah) (st:Int) (fds:List Int) (om:Int):Bool:=
 if st=2 then decide (tick<om) else if st=4∨st=5 then lr fds om&&decide (0≤aF os om) else om==0
def pj (os:List ah) (st:Int) (f:Int):Bool:=f== -1||(decide (0≤aF os f)&& !(st==6))
def cg (ps:List af) (pid par:Int):Bool:=par==0||(!(par==pid)&&match ie ao ps par with
 |none=>false
 |some i=>match ps[i]? with|none=>false|some q=> !(q.2.2.1==6))
def tC (par st:Int) (mem:List Int) (code:Int):Bool:=if st=6 then decide (mem.length=0)&& !(par==0) else decide (0<mem.length)&&code==0
def dw (tick:Int) (np:Nat) (ps:List af) (os:List ah) (pid par st pg pc:Int) (vm mem fds:List Int) (om code:Int):Bool:=
 dC st 1 6&&(decide (0≤pg)&&decide (pg<(np:Int)))&&aR pc vm&&decide (mem.length≤12)&&decide (mem.length % 4=0)&&aG mem&&decide (fds.length=4)&&b6 code
  &&fds.all (pj os st)&&cg ps pid par&&gg tick os st fds om&&tC par st mem code
def pQ (f id n:Int):Int:=if f=id then IntKind.i64.wrap (n+1) else n
def pR (ps:List af) (id:Int):Int:=ps.foldl (fun n p=>p.2.2.2.2.2.2.1.foldl (fun n f=>pQ f id n) n) 0
def qW (cO:List mL) (files:List gn) (kind target off:Int):Bool:=
 if kind=1 then target==0&&off==0 else if kind=2 then (match ie aV files target with
  |none=>false
  |some i=>match files[i]? with|none=>false|some x=>dC off 0 ((x.2.1.length:Nat):Int))
 else if kind=3∨kind=4 then decide (0≤bp cO target)&&off==0 else false
def gC (ps:List af) (cO:List mL) (files:List gn) (id kind target off refs:Int):Bool:=
 !(pR ps id==0)&&refs==pR ps id&&dC id 0 7&&qW cO files kind target off
def m0 (k pipe:Int) (o:ah):Bool:=o.2.1==k&&o.2.2.1==pipe
def ix (os:List ah) (pipe k:Int):Int:=os.foldl (fun n o=>if m0 k pipe o=true then IntKind.i64.wrap (n+1) else n) 0
def eR (pipe:Int) (o:ah):Bool:=m0 3 pipe o||m0 4 pipe o
def jQ (os:List ah) (x:mL):Bool:=dC x.1 0 2&&decide (x.2.1.length≤4)&&aG x.2.1&&os.any (eR x.1)
def cD (a:List (List aw)):Bool:=decide (1≤a.length)&&decide (a.length≤4)&&a.all bT
def mZ (ps:List af):Int:=ps.foldl (fun n p=>IntKind.i64.wrap (n+((p.2.2.2.2.2.1.length / 4:Nat):Int))) 0
def qm (ps:List af):Int:=ps.foldl (fun n p=>IntKind.i64.wrap (n+((p.2.2.2.2.2.1.length:Nat):Int))) 0
def jR (p:af):Bool:=p.2.2.1==1
def aL (ps:List af):List Int:=(ps.filter jR).map ao
def m2 (ps:List af) (rd:List Int):Bool:=(aL ps).all (lr rd)&&decide ((aL ps).length=rd.length)
def tB (tick:Int) (np:Nat) (ps:List af) (os:List ah) (p:af):Bool:=
 dw tick np ps os p.1 p.2.1 p.2.2.1 p.2.2.2.1 p.2.2.2.2.1.1 p.2.2.2.2.1.2.1 p.2.2.2.2.2.1 p.2.2.2.2.2.2.1 p.2.2.2.2.2.2.2.1 p.2.2.2.2.2.2.2.2.1
def fG (next tick:Int) (np:Nat) (ps:List af) (os:List ah) (p:af):Bool:=dC p.1 1 (IntKind.i64.wrap (next - 1))&&tB tick np ps os p
def jP (ps:List af) (cO:List mL) (files:List gn) (o:ah):Bool:=gC ps cO files o.1 o.2.1 o.2.2.1 o.2.2.2.1 o.2.2.2.2.1
def ig (ps:List af) (os:List ah) (cO:List mL) (files:List gn):Bool:=
 decide (os.length≤8)&&decide (cO.length≤3)&&decide (files.length≤6)&&eO al (jP ps cO files) os&&eO aC (jQ os) cO&&eO aV fw files
def dz (next tick:Int) (jX:List (List aw)) (ps:List af) (os:List ah) (cO:List mL) (files:List gn) (rd out:List Int):Bool:=
 dC next 1 100000&&dC tick 0 1000000&&cD jX&&decide (out.length≤60)&&aG out&&decide (ps.length≤6)&&decide (mZ ps≤16)
  &&eO ao (fG next tick jX.length ps os) ps&&ig ps os cO files&&m2 ps rd
def lY (os:List ah) (cO:List mL):Bool:=decide (cO.length≤3)&&eO aC (jQ os) cO
def gH (next tick:Int) (jX:List (List aw)) (ps:List af) (os:List ah) (cO:List mL) (files:List gn) (rd out:List Int):Bool:=
 dC next 1 100000&&dC tick 0 1000000&&dC ((jX.length:Nat):Int) 1 4&&decide (out.length≤60)&&aG out&&jX.all bT&&decide (ps.length≤6)&&decide (os.length≤8)
  &&eO ao (fG next tick jX.length ps os) ps&&eO al (jP ps cO files) os&&decide (qm ps≤64)&&lY os cO&&gq files&&decide (jY rd=aL ps)
theorem pS:∀ {w r:List Int},w.Nodup→(∀ x∈w,x∈r)→w.length=r.length→w.Perm r
 |[],r,_,_,h=>by
  have:r=[]:=ac4 (by simpa using h.symm);subst this;exact List.Perm.nil
 |x::w,r,hn,hs,hl=>by
  have hx:x∈r:=hs x (by simp);have hp:=List.perm_cons_erase hx;rw [ac9] at hn;refine List.Perm.trans (List.Perm.cons x ?_) hp.symm;refine pS hn.2 (fun y hy=> ?_) ?_
  . have dW:y≠x:=fun e=>hn.1 (e ▸ hy)
    exact (List.mem_erase_of_ne dW).2 (hs y (by simp [hy]))
  . rw [List.length_erase_of_mem hx]
    simp only [aai] at hl;omega
theorem R1 (a:List Int):(jY a).Pairwise (· ≤ ·):=by
 have:=List.pairwise_mergeSort (le:=fun (x y:Int)=>decide (x≤y)) (fun a b c h1 h2=>aaa (Int.le_trans (abH h1) (abH h2))) (fun a b=>by
  rcases Int.le_total a b with h|h<;>simp [h]) a
 exact this.imp fun h=>abH h
theorem Mr:∀ {a b:List Int},a.Pairwise (· < ·)→b.Pairwise (· < ·)→(∀ x,x∈a↔x∈b)→a=b
 |[],b,_,_,h=>by
  cases b with
  |nil=>rfl
  |cons y r=>exact absurd ((h y).2 (by simp)) (by simp)
 |x::a,[],_,_,h=>absurd ((h x).1 (by simp)) (by simp)
 |x::a,y::b,ha,hb,h=>by
  rw [af2] at ha hb;have hxy:x=y:=by
   have h1:x∈y::b:=(h x).1 (by simp);have h2:y∈x::a:=(h y).2 (by simp);rcases abE.1 h1 with e|h1
   . exact e
   . rcases abE.1 h2 with e|h2
     . exact e.symm
     . have:=hb.1 x h1;have:=ha.1 y h2;omega
  subst hxy;congr 1;refine Mr ha.2 hb.2 fun z=> ?_;constructor
  . intro hz
    rcases abE.1 ((h z).1 (by simp [hz])) with e|q
    . have:=ha.1 z hz;omega
    . exact q
  . intro hz
    rcases abE.1 ((h z).2 (by simp [hz])) with e|q
    . have:=hb.1 z hz;omega
    . exact q
theorem Oh {rd w:List Int} (hw:w.Pairwise (· < ·)):jY rd=w↔((∀ x∈w,x∈rd)∧w.length=rd.length):=by
 constructor
 . rintro rfl
   exact ⟨fun x hx=>List.mem_mergeSort.1 hx,List.length_mergeSort _⟩
 . rintro ⟨h1,h2⟩
   have hn:w.Nodup:=hw.imp fun h e=>by omega
   have hp:w.Perm rd:=pS hn h1 h2;have hq:(jY rd).Perm rd:=List.mergeSort_perm _ _;have UH:(jY rd).Nodup:=(hq.trans hp.symm).nodup_iff.2 hn;refine Mr ?_ hw fun x=>(hq.trans hp.symm).mem_iff;exact (List.pairwise_and_iff.2 ⟨R1 rd,UH⟩).imp fun ⟨a,b⟩=>by omega
theorem GK {α:Type} {key:α→Int} {ok:α→Bool} {a:List α} (h:eO key ok a=true):a.all ok=true:=by
 unfold eO at h;rw [aa1] at h ⊢;intro x hx;obtain ⟨i,hi,rfl⟩:=afQ hx;have:=h i (List.mem_range.2 hi);cases i with
 |zero=>rw [iK hi] at this;exact this
 |succ i=>rw [gT hi,aaE] at this;exact this.1
theorem CB {α:Type} {key:α→Int} {ok:α→Bool} {a:List α} (h:eO key ok a=true):(a.map key).Pairwise (· < ·):=by
 unfold eO at h;rw [aa1] at h;have h1:∀ i (hi:i+1<a.length),key a[i]<key a[i+1]:=fun i hi=>by
  have:=h (i+1) (List.mem_range.2 hi);rw [gT hi,aaE] at this;exact abH this.2
 rw [List.pairwise_iff_getElem];have al2:∀ (m i:Nat) (hi:i+m+1<a.length),key a[i]<key a[i+m+1]:=by
  intro m
  induction m with
  |zero=>intro i hi;exact h1 i hi
  |succ m ih=>intro i hi;exact Int.lt_trans (ih i (by omega)) (h1 (i+m+1) hi)
 intro i j hi hj yJ;simp only [aeN] at hi hj;simp only [List.getElem_map];obtain ⟨m,rfl⟩:∃ m,j=i+m+1:=⟨j - i - 1,by omega⟩
 exact al2 m i hj
theorem AN {ok:af→Bool} {ps:List af} (h:eO ao ok ps=true):(aL ps).Pairwise (· < ·):=
 (CB h).sublist (List.filter_sublist.map ao)
theorem Kc {ok:af→Bool} {ps:List af} {rd:List Int} (h:eO ao ok ps=true):decide (jY rd=aL ps)=m2 ps rd:=by
 rw [acK,ac3,Oh (AN h)];unfold m2;rw [aaE,aa1,ac3];simp only [uA]
theorem xW:∀ (ps:List af) (n:Nat),(∀ p∈ps,p.2.2.2.2.2.1.length≤12∧p.2.2.2.2.2.1.length % 4=0)→n+12*ps.length≤1000→
  ∃ m:Nat,ps.foldl (fun n (p:af)=>IntKind.i64.wrap (n+((p.2.2.2.2.2.1.length / 4:Nat):Int))) ((n:Nat):Int)=((m:Nat):Int)∧
    ps.foldl (fun n (p:af)=>IntKind.i64.wrap (n+((p.2.2.2.2.2.1.length:Nat):Int))) ((4*n:Nat):Int)=((4*m:Nat):Int)
 |[],n,_,_=>⟨n,rfl,rfl⟩
 |p::r,n,h,hn=>by
  have hp:=h p (by simp);simp only [aai] at hn;obtain ⟨m,h1,h2⟩:=xW r (n+p.2.2.2.2.2.1.length / 4) (fun q hq=>h q (by simp [hq])) (by omega);refine ⟨m, ?_, ?_⟩
  . rw [ade,jO (by omega) (by omega), ← h1];congr 1
  . rw [ade,jO (by omega) (by omega), ← h2];congr 1;omega
theorem Kd {ps:List af} (h:∀ p∈ps,p.2.2.2.2.2.1.length≤12∧p.2.2.2.2.2.1.length % 4=0) (hl:ps.length≤6):decide (qm ps≤64)=decide (mZ ps≤16):=by
 obtain ⟨m,h1,h2⟩:=xW ps 0 h (by omega);unfold qm mZ;have h1':ps.foldl (fun n (p:af)=>IntKind.i64.wrap (n+((p.2.2.2.2.2.1.length / 4:Nat):Int))) 0=((m:Nat):Int):=h1;have h2':ps.foldl (fun n (p:af)=>IntKind.i64.wrap (n+((p.2.2.2.2.2.1.length:Nat):Int))) 0=((4*m:Nat):Int):=h2;rw [h1',h2',acK,ac3,ac3];omega
theorem B8 (a:List gn):gq a=(decide (a.length≤6)&&eO aV fw a):=by
 have e:gP a=vk aV fw a:=by
  funext i;unfold gP vk;cases a[i]? with
  |none=>rfl
  |some x=>
   cases i with
   |zero=>rfl
   |succ j=>cases h:a[j]? <;>simp only [h]<;>rfl
 unfold gq eO;rw [e]
theorem Oi {next tick:Int} {np:Nat} {ps:List af} {os:List ah} (h:eO ao (fG next tick np ps os) ps=true):∀ p∈ps,p.2.2.2.2.2.1.length≤12∧p.2.2.2.2.2.1.length % 4=0:=fun p hp=>by
 have:=aa1.1 (GK h) p hp;unfold fG tB dw at this;simp only [aaE,ack] at this;exact ⟨this.2.1.1.1.1.1.1.1.1.2,this.2.1.1.1.1.1.1.1.2⟩
theorem Od (next tick:Int) (jX:List (List aw)) (ps:List af) (os:List ah) (cO:List mL) (files:List gn) (rd out:List Int):
  gH next tick jX ps os cO files rd out=dz next tick jX ps os cO files rd out:=by
 unfold gH dz ig lY cD;rw [B8];have e1:dC ((jX.length:Nat):Int) 1 4=(decide (1≤jX.length)&&decide (jX.length≤4)):=by
  unfold dC;congr 1<;>(rw [acK];simp;omega)
 rw [e1];by_cases hr:eO ao (fG next tick jX.length ps os) ps=true
 . by_cases hl:ps.length≤6
   . rw [Kd (Oi hr) hl,Kc hr,hr]
     simp only [ag3]
     ac_rfl
   . simp [hl]
 . rw [Bool.eq_false_iff.2 hr]
   simp
theorem AO {α:Type} (p:α→Bool):∀ (a:List α) (n:Nat),n+a.length≤9223372036854775807→
  a.foldl (fun (n:Int) x=>if p x=true then IntKind.i64.wrap (n+1) else n) ((n:Nat):Int)=((n+a.countP p:Nat):Int)
 |[],n,_=>rfl
 |x::r,n,h=>by
  rw [aai] at h;rw [ade,List.countP_cons];cases hx:p x with
  |false=>
   rw [aap (by decide),AO p r n (by omega)];simp
  |true=>
   rw [aaK rfl,jO (by omega) (by omega)];have:=AO p r (n+1) (by omega);rw [show ((n:Nat):Int)+1=((n+1:Nat):Int) by omega,this];simp only [af7];omega
theorem rv {os:List ah} (h:os.length≤aS) (pipe k:Int):ix os pipe k=((os.countP (m0 k pipe):Nat):Int):=by
 have:=AO (m0 k pipe) os 0 (by have:os.length≤9223372036854775807:=h;omega);unfold ix;refine this.trans ?_;rw [ada]
theorem Ms {α:Type} {p q r:α→Bool} (h:∀ x,r x=(p x||q x)) (hd:∀ x,(p x&&q x)=false):∀ a:List α,a.countP p+a.countP q=a.countP r
 |[]=>rfl
 |x::l=>by
  have ih:=Ms h hd l;have h1:=h x;have h2:=hd x;rw [List.countP_cons,List.countP_cons,List.countP_cons];revert h1 h2;cases p x<;>cases q x<;>intro h1 h2
  . rw [h1];simp;omega
  . rw [h1];simp;omega
  . rw [h1];simp;omega
  . simp at h2
theorem Aa {os:List ah} (h:os.length≤aS) (pipe:Int):(IntKind.i64.wrap (ix os pipe 3+ix os pipe 4)==0)= !os.any (eR pipe):=by
 have hb:os.length≤9223372036854775807:=h;have h2:=Ms (p:=m0 3 pipe) (q:=m0 4 pipe) (r:=eR pipe) (fun _=>rfl) (fun x=>by
  unfold m0;by_cases q:x.2.1=3
  . simp [q]
  . simp [q]) os
 have h3:os.countP (eR pipe)≤os.length:=List.countP_le_length;rw [rv h,rv h,jO (by omega) (by omega)];rw [acK];simp only [aeM,aeO,List.any_eq_false];have h4:os.countP (eR pipe)=0↔∀ x∈os,¬ eR pipe x=true:=List.countP_eq_zero;constructor
 . intro q;exact fun x hx=>h4.1 (by omega) x hx
 . intro q
   have:=h4.2 q;omega
end
section
open Go Go.ChangeShapes Go.WideShapes Go.ChangeAt Go.RowKit
theorem gt3 (n:Nat):decide (((n:Nat):Int)>(3:Int))= !decide (n≤3):=mK (m:=3)
theorem gt4 (n:Nat):decide (((n:Nat):Int)>(4:Int))= !decide (n≤4):=mK (m:=4)
theorem gt6 (n:Nat):decide (((n:Nat):Int)>(6:Int))= !decide (n≤6):=mK (m:=6)
theorem gt8 (n:Nat):decide (((n:Nat):Int)>(8:Int))= !decide (n≤8):=mK (m:=8)
theorem al4 (n:Nat):decide (((n:Nat):Int)>(12:Int))= !decide (n≤12):=mK (m:=12)
theorem aic (n:Nat):decide (((n:Nat):Int)>(60:Int))= !decide (n≤60):=mK (m:=60)
theorem le3 (n:Nat):decide (((n:Nat):Int)≤(3:Int))=decide (n≤3):=FI (m:=3)
theorem ne4 (n:Nat):(((n:Nat):Int) != (4:Int))= !decide (n=4):=Wg (m:=4)
theorem eq4 (n:Nat):(((n:Nat):Int)==(4:Int))=decide (n=4):=by rw [acK];simp;omega
theorem aaB (n:Nat):(Int.tmod ((n:Nat):Int) (4:Int) != (0:Int))= !decide (n % 4=0):=by
 rw [Int.tmod_eq_emod_of_nonneg (by omega),acK];simp;omega
theorem Xd (x:Int):decide (x<(0:Int))= !decide (0≤x):=by rw [acK];simp
theorem beq_false (c:Bool):(c==false)= !c:=by cases c<;>rfl
theorem Dc (c:Bool):(c==true)=c:=by cases c<;>rfl
theorem oF {α:Type} {key:α→Int} {a:List α} {v:Int} (h:ie key a v=none):dv key a v= -1:=by unfold dv;rw [h];rfl
theorem oG {α:Type} {key:α→Int} {a:List α} {v:Int} {i:Nat} (h:ie key a v=some i):dv key a v=((i:Nat):Int):=by unfold dv;rw [h];rfl
theorem AP {α:Type} {key:α→Int} {a:List α} {v:Int} {i:Nat} (h:ie key a v=some i):i<a.length:=(aeR.1 h).1
abbrev Mt:=(Int×Int×Unit)×(bw×Unit)
def rU:Mt→Out (Round Mt ((Unit)×(Unit)) ((Int×Unit)×(Unit)))
|((p0,p1,_),(p2,p3,p4,p5,p6,p7,p8,p9,cz,_),_)=>
 .ite (decide (p1<((List.length p5:Nat):Int)))
 (.ite (decide (0≤p1))
 (.get (nth p5 (Int.toNat p1)) fun y1=>
 .ite ((y1.1==p0))
 (.ret (.ret ((p1,()),())))
 (.ret (.again ((p0,(IntKind.i64.wrap (p1+(1:Int))),()),((p2,p3,p4,p5,p6,p7,p8,p9,cz,()),())))))
 .fail)
 (.ret (.out ((),())))
def rV (a0:Int) (a1:Int) (a2:List (List aw)) (a3:List af) (a4:List ah) (a5:List ag) (a6:List ag) (a7:List Int) (a8:List Int) (a9:Int):Out (((Int×Unit)×Unit)×XI):=
 .get (iter rU bn ((a9,(0:Int),()),((a0,a1,a2,a3,a4,a5,a6,a7,a8,()),()))) fun y1=> .alt y1 (fun _=>
 .ret ((((-1:Int),()),()),((),(),()))) (fun y3=>
 .ret (((y3.1.1,()),()),((),(),())))
abbrev vn:List (Nat×dT):=[(64000000, .var [.i .i64, .i .i64, .ro (.sl b8) (some 0), .ro jr (some 1), .ro cH (some 2), .ro ck (some 3), .ro ck (some 4), .ro (.int .i64) (some 5), .ro (.int .i64) (some 6)])]
def aee:Nat→Option aq:=fun n=>bU [(0,⟨⟨[.dead, .i .i64, .vptr 64000000 0, .dead, .dead, .i .i64]++dd 16,vn⟩,⟨dd 22,[]⟩,some ⟨dd 4++[.i .i64]++dd 17,[]⟩,false⟩)] n
def uF:bM:={ f:=198,lend:=true,aK:=[⟨false,true,[.i .i64, .i .i64, .ro (.sl b8), .ro jr, .ro cH, .ro ck, .ro ck, .ro (.int .i64), .ro (.int .i64)]⟩,⟨false,false,[.i .i64]⟩],lay:=[none,none],rs:=[⟨false,false,[.i .i64]⟩],F:=fun x=> .ret ((((ak x.1.2.2.2.1 x.2.1.1),()),()),((),(),())) }
theorem Xe (x:az uF.aK):bo [] aee Tryz.f198 uF [.tmp 4] x=rV x.1.1 x.1.2.1 x.1.2.2.1 x.1.2.2.2.1 x.1.2.2.2.2.1 x.1.2.2.2.2.2.1 x.1.2.2.2.2.2.2.1 x.1.2.2.2.2.2.2.2.1 x.1.2.2.2.2.2.2.2.2.1 x.2.1.1:=by kernel_rfl
theorem Xf (hr:∀ x:bw×(Int×Unit)×Unit,aD uF.aK x→(rV x.1.1 x.1.2.1 x.1.2.2.1 x.1.2.2.2.1 x.1.2.2.2.2.1 x.1.2.2.2.2.2.1 x.1.2.2.2.2.2.2.1 x.1.2.2.2.2.2.2.2.1 x.1.2.2.2.2.2.2.2.2.1 x.2.1.1).eval=(uF.F x).eval):uF.Ok Tryz.prog:=aU [] trivial Xe fun x hw _ hy=>(hr x hw).trans hy
theorem oz:uF.Ok Tryz.prog:=by
 refine Xf fun x hw=> ?_;obtain ⟨⟨a0,a1,a2,a3,a4,a5,a6,a7,a8,_⟩,⟨a9,_⟩,_⟩:=x;have l2:List.length a2≤aS:=hw.1.1.1;have l3:List.length a3≤aS:=hw.1.2.1.1;have l4:List.length a4≤aS:=hw.1.2.2.1.1;have l5:List.length a5≤aS:=hw.1.2.2.2.1.1;have l6:List.length a6≤aS:=hw.1.2.2.2.2.1.1;have l7:List.length a7≤aS:=hw.1.2.2.2.2.2.1.1;have l8:List.length a8≤aS:=hw.1.2.2.2.2.2.2.1.1;show (rV a0 a1 a2 a3 a4 a5 a6 a7 a8 a9).eval=some ((((ak a3 a9),()),()),((),(),()));unfold rV ak dv ie;have h:iter rU bn ((a9,(0:Int),()),((a0,a1,a2,a3,a4,a5,a6,a7,a8,()),()))=some (match List.findIdx? (fun x=>ao x==a9) a3 with|some i=> .inr ((((i:Nat):Int),()),())|none=> .inl ((),())):=dZ (f:=rU) a3 (fun x=>ao x==a9) (fun i=>((a9,((i:Nat):Int),()),((a0,a1,a2,a3,a4,a5,a6,a7,a8,()),()))) (y:=((),())) (z:=fun i=>((((i:Nat):Int),()),()))
  (fun i hi hp=>by
   have h1:=ar (i:=i) (by omega);simp [rU,Out.eval,hi,h1,cond_eq_ite,ao] at hp ⊢ <;>(try simp_all)<;>(try (rcases hp with h|h<;>simp_all)))
  (fun i hi hp=>by simp [rU,Out.eval,hi,cond_eq_ite,ao] at hp ⊢ <;>(try simp_all)<;>(try (rcases hp with h|h<;>simp_all)))
  (by simp [rU,Out.eval]) l3
 refine (aa h).trans ?_;cases List.findIdx? (fun x=>ao x==a9) a3<;>rfl
abbrev Mu:=(Int×Int×Unit)×(bw×Unit)
def rW:Mu→Out (Round Mu ((Unit)×(Unit)) ((Int×Unit)×(Unit)))
|((p0,p1,_),(p2,p3,p4,p5,p6,p7,p8,p9,cz,_),_)=>
 .ite (decide (p1<((List.length p6:Nat):Int)))
 (.ite (decide (0≤p1))
 (.get (nth p6 (Int.toNat p1)) fun y1=>
 .ite ((y1.1==p0))
 (.ret (.ret ((p1,()),())))
 (.ret (.again ((p0,(IntKind.i64.wrap (p1+(1:Int))),()),((p2,p3,p4,p5,p6,p7,p8,p9,cz,()),())))))
 .fail)
 (.ret (.out ((),())))
def rX (a0:Int) (a1:Int) (a2:List (List aw)) (a3:List af) (a4:List ah) (a5:List ag) (a6:List ag) (a7:List Int) (a8:List Int) (a9:Int):Out (((Int×Unit)×Unit)×XI):=
 .get (iter rW bn ((a9,(0:Int),()),((a0,a1,a2,a3,a4,a5,a6,a7,a8,()),()))) fun y1=> .alt y1 (fun _=>
 .ret ((((-1:Int),()),()),((),(),()))) (fun y3=>
 .ret (((y3.1.1,()),()),((),(),())))
def aef:Nat→Option aq:=fun n=>bU [(0,⟨⟨[.dead, .i .i64, .vptr 64000000 0, .dead, .dead, .i .i64]++dd 16,vn⟩,⟨dd 22,[]⟩,some ⟨dd 4++[.i .i64]++dd 17,[]⟩,false⟩)] n
def wL:bM:={ f:=202,lend:=true,aK:=[⟨false,true,[.i .i64, .i .i64, .ro (.sl b8), .ro jr, .ro cH, .ro ck, .ro ck, .ro (.int .i64), .ro (.int .i64)]⟩,⟨false,false,[.i .i64]⟩],lay:=[none,none],rs:=[⟨false,false,[.i .i64]⟩],F:=fun x=> .ret ((((aF x.1.2.2.2.2.1 x.2.1.1),()),()),((),(),())) }
theorem Xg (x:az wL.aK):bo [] aef Tryz.f202 wL [.tmp 4] x=rX x.1.1 x.1.2.1 x.1.2.2.1 x.1.2.2.2.1 x.1.2.2.2.2.1 x.1.2.2.2.2.2.1 x.1.2.2.2.2.2.2.1 x.1.2.2.2.2.2.2.2.1 x.1.2.2.2.2.2.2.2.2.1 x.2.1.1:=by kernel_rfl
theorem Xh (hr:∀ x:bw×(Int×Unit)×Unit,aD wL.aK x→(rX x.1.1 x.1.2.1 x.1.2.2.1 x.1.2.2.2.1 x.1.2.2.2.2.1 x.1.2.2.2.2.2.1 x.1.2.2.2.2.2.2.1 x.1.2.2.2.2.2.2.2.1 x.1.2.2.2.2.2.2.2.2.1 x.2.1.1).eval=(wL.F x).eval):wL.Ok Tryz.prog:=aU [] trivial Xg fun x hw _ hy=>(hr x hw).trans hy
theorem ra:wL.Ok Tryz.prog:=by
 refine Xh fun x hw=> ?_;obtain ⟨⟨a0,a1,a2,a3,a4,a5,a6,a7,a8,_⟩,⟨a9,_⟩,_⟩:=x;have l2:List.length a2≤aS:=hw.1.1.1;have l3:List.length a3≤aS:=hw.1.2.1.1;have l4:List.length a4≤aS:=hw.1.2.2.1.1;have l5:List.length a5≤aS:=hw.1.2.2.2.1.1;have l6:List.length a6≤aS:=hw.1.2.2.2.2.1.1;have l7:List.length a7≤aS:=hw.1.2.2.2.2.2.1.1;have l8:List.length a8≤aS:=hw.1.2.2.2.2.2.2.1.1;show (rX a0 a1 a2 a3 a4 a5 a6 a7 a8 a9).eval=some ((((aF a4 a9),()),()),((),(),()));unfold rX aF dv ie;have h:iter rW bn ((a9,(0:Int),()),((a0,a1,a2,a3,a4,a5,a6,a7,a8,()),()))=some (match List.findIdx? (fun x=>al x==a9) a4 with|some i=> .inr ((((i:Nat):Int),()),())|none=> .inl ((),())):=dZ (f:=rW) a4 (fun x=>al x==a9) (fun i=>((a9,((i:Nat):Int),()),((a0,a1,a2,a3,a4,a5,a6,a7,a8,()),()))) (y:=((),())) (z:=fun i=>((((i:Nat):Int),()),()))
  (fun i hi hp=>by
   have h1:=ar (i:=i) (by omega);simp [rW,Out.eval,hi,h1,cond_eq_ite,al] at hp ⊢ <;>(try simp_all)<;>(try (rcases hp with h|h<;>simp_all)))
  (fun i hi hp=>by simp [rW,Out.eval,hi,cond_eq_ite,al] at hp ⊢ <;>(try simp_all)<;>(try (rcases hp with h|h<;>simp_all)))
  (by simp [rW,Out.eval]) l4
 refine (aa h).trans ?_;cases List.findIdx? (fun x=>al x==a9) a4<;>rfl
abbrev Mv:=(Int×Int×Unit)×(bw×Unit)
def rY:Mv→Out (Round Mv ((Unit)×(Unit)) ((Int×Unit)×(Unit)))
|((p0,p1,_),(p2,p3,p4,p5,p6,p7,p8,p9,cz,_),_)=>
 .ite (decide (p1<((List.length p7:Nat):Int)))
 (.ite (decide (0≤p1))
 (.get (nth p7 (Int.toNat p1)) fun y1=>
 .ite ((y1.1==p0))
 (.ret (.ret ((p1,()),())))
 (.ret (.again ((p0,(IntKind.i64.wrap (p1+(1:Int))),()),((p2,p3,p4,p5,p6,p7,p8,p9,cz,()),())))))
 .fail)
 (.ret (.out ((),())))
def rZ (a0:Int) (a1:Int) (a2:List (List aw)) (a3:List af) (a4:List ah) (a5:List ag) (a6:List ag) (a7:List Int) (a8:List Int) (a9:Int):Out (((Int×Unit)×Unit)×XI):=
 .get (iter rY bn ((a9,(0:Int),()),((a0,a1,a2,a3,a4,a5,a6,a7,a8,()),()))) fun y1=> .alt y1 (fun _=>
 .ret ((((-1:Int),()),()),((),(),()))) (fun y3=>
 .ret (((y3.1.1,()),()),((),(),())))
def aeg:Nat→Option aq:=fun n=>bU [(0,⟨⟨[.dead, .i .i64, .vptr 64000000 0, .dead, .dead, .i .i64]++dd 16,vn⟩,⟨dd 22,[]⟩,some ⟨dd 4++[.i .i64]++dd 17,[]⟩,false⟩)] n
def yA:bM:={ f:=203,lend:=true,aK:=[⟨false,true,[.i .i64, .i .i64, .ro (.sl b8), .ro jr, .ro cH, .ro ck, .ro ck, .ro (.int .i64), .ro (.int .i64)]⟩,⟨false,false,[.i .i64]⟩],lay:=[none,none],rs:=[⟨false,false,[.i .i64]⟩],F:=fun x=> .ret ((((bp x.1.2.2.2.2.2.1 x.2.1.1),()),()),((),(),())) }
theorem Xi (x:az yA.aK):bo [] aeg Tryz.f203 yA [.tmp 4] x=rZ x.1.1 x.1.2.1 x.1.2.2.1 x.1.2.2.2.1 x.1.2.2.2.2.1 x.1.2.2.2.2.2.1 x.1.2.2.2.2.2.2.1 x.1.2.2.2.2.2.2.2.1 x.1.2.2.2.2.2.2.2.2.1 x.2.1.1:=by kernel_rfl
theorem Xj (hr:∀ x:bw×(Int×Unit)×Unit,aD yA.aK x→(rZ x.1.1 x.1.2.1 x.1.2.2.1 x.1.2.2.2.1 x.1.2.2.2.2.1 x.1.2.2.2.2.2.1 x.1.2.2.2.2.2.2.1 x.1.2.2.2.2.2.2.2.1 x.1.2.2.2.2.2.2.2.2.1 x.2.1.1).eval=(yA.F x).eval):yA.Ok Tryz.prog:=aU [] trivial Xi fun x hw _ hy=>(hr x hw).trans hy
theorem uI:yA.Ok Tryz.prog:=by
 refine Xj fun x hw=> ?_;obtain ⟨⟨a0,a1,a2,a3,a4,a5,a6,a7,a8,_⟩,⟨a9,_⟩,_⟩:=x;have l2:List.length a2≤aS:=hw.1.1.1;have l3:List.length a3≤aS:=hw.1.2.1.1;have l4:List.length a4≤aS:=hw.1.2.2.1.1;have l5:List.length a5≤aS:=hw.1.2.2.2.1.1;have l6:List.length a6≤aS:=hw.1.2.2.2.2.1.1;have l7:List.length a7≤aS:=hw.1.2.2.2.2.2.1.1;have l8:List.length a8≤aS:=hw.1.2.2.2.2.2.2.1.1;show (rZ a0 a1 a2 a3 a4 a5 a6 a7 a8 a9).eval=some ((((bp a5 a9),()),()),((),(),()));unfold rZ bp dv ie;have h:iter rY bn ((a9,(0:Int),()),((a0,a1,a2,a3,a4,a5,a6,a7,a8,()),()))=some (match List.findIdx? (fun x=>aC x==a9) a5 with|some i=> .inr ((((i:Nat):Int),()),())|none=> .inl ((),())):=dZ (f:=rY) a5 (fun x=>aC x==a9) (fun i=>((a9,((i:Nat):Int),()),((a0,a1,a2,a3,a4,a5,a6,a7,a8,()),()))) (y:=((),())) (z:=fun i=>((((i:Nat):Int),()),()))
  (fun i hi hp=>by
   have h1:=ar (i:=i) (by omega);simp [rY,Out.eval,hi,h1,cond_eq_ite,aC] at hp ⊢ <;>(try simp_all)<;>(try (rcases hp with h|h<;>simp_all)))
  (fun i hi hp=>by simp [rY,Out.eval,hi,cond_eq_ite,aC] at hp ⊢ <;>(try simp_all)<;>(try (rcases hp with h|h<;>simp_all)))
  (by simp [rY,Out.eval]) l5
 refine (aa h).trans ?_;cases List.findIdx? (fun x=>aC x==a9) a5<;>rfl
abbrev Mw:=(Int×Int×Unit)×(bw×Unit)
def r7:Mw→Out (Round Mw ((Unit)×(Unit)) ((Int×Unit)×(Unit)))
|((p0,p1,_),(p2,p3,p4,p5,p6,p7,p8,p9,cz,_),_)=>
 .ite (decide (p1<((List.length p8:Nat):Int)))
 (.ite (decide (0≤p1))
 (.get (nth p8 (Int.toNat p1)) fun y1=>
 .ite ((y1.1==p0))
 (.ret (.ret ((p1,()),())))
 (.ret (.again ((p0,(IntKind.i64.wrap (p1+(1:Int))),()),((p2,p3,p4,p5,p6,p7,p8,p9,cz,()),())))))
 .fail)
 (.ret (.out ((),())))
def r8 (a0:Int) (a1:Int) (a2:List (List aw)) (a3:List af) (a4:List ah) (a5:List ag) (a6:List ag) (a7:List Int) (a8:List Int) (a9:Int):Out (((Int×Unit)×Unit)×XI):=
 .get (iter r7 bn ((a9,(0:Int),()),((a0,a1,a2,a3,a4,a5,a6,a7,a8,()),()))) fun y1=> .alt y1 (fun _=>
 .ret ((((-1:Int),()),()),((),(),()))) (fun y3=>
 .ret (((y3.1.1,()),()),((),(),())))
def aeh:Nat→Option aq:=fun n=>bU [(0,⟨⟨[.dead, .i .i64, .vptr 64000000 0, .dead, .dead, .i .i64]++dd 16,vn⟩,⟨dd 22,[]⟩,some ⟨dd 4++[.i .i64]++dd 17,[]⟩,false⟩)] n
def yB:bM:={ f:=204,lend:=true,aK:=[⟨false,true,[.i .i64, .i .i64, .ro (.sl b8), .ro jr, .ro cH, .ro ck, .ro ck, .ro (.int .i64), .ro (.int .i64)]⟩,⟨false,false,[.i .i64]⟩],lay:=[none,none],rs:=[⟨false,false,[.i .i64]⟩],F:=fun x=> .ret ((((bt x.1.2.2.2.2.2.2.1 x.2.1.1),()),()),((),(),())) }
theorem Xk (x:az yB.aK):bo [] aeh Tryz.f204 yB [.tmp 4] x=r8 x.1.1 x.1.2.1 x.1.2.2.1 x.1.2.2.2.1 x.1.2.2.2.2.1 x.1.2.2.2.2.2.1 x.1.2.2.2.2.2.2.1 x.1.2.2.2.2.2.2.2.1 x.1.2.2.2.2.2.2.2.2.1 x.2.1.1:=by kernel_rfl
theorem Xl (hr:∀ x:bw×(Int×Unit)×Unit,aD yB.aK x→(r8 x.1.1 x.1.2.1 x.1.2.2.1 x.1.2.2.2.1 x.1.2.2.2.2.1 x.1.2.2.2.2.2.1 x.1.2.2.2.2.2.2.1 x.1.2.2.2.2.2.2.2.1 x.1.2.2.2.2.2.2.2.2.1 x.2.1.1).eval=(yB.F x).eval):yB.Ok Tryz.prog:=aU [] trivial Xk fun x hw _ hy=>(hr x hw).trans hy
theorem uK:yB.Ok Tryz.prog:=by
 refine Xl fun x hw=> ?_;obtain ⟨⟨a0,a1,a2,a3,a4,a5,a6,a7,a8,_⟩,⟨a9,_⟩,_⟩:=x;have l2:List.length a2≤aS:=hw.1.1.1;have l3:List.length a3≤aS:=hw.1.2.1.1;have l4:List.length a4≤aS:=hw.1.2.2.1.1;have l5:List.length a5≤aS:=hw.1.2.2.2.1.1;have l6:List.length a6≤aS:=hw.1.2.2.2.2.1.1;have l7:List.length a7≤aS:=hw.1.2.2.2.2.2.1.1;have l8:List.length a8≤aS:=hw.1.2.2.2.2.2.2.1.1;show (r8 a0 a1 a2 a3 a4 a5 a6 a7 a8 a9).eval=some ((((bt a6 a9),()),()),((),(),()));unfold r8 bt dv ie;have h:iter r7 bn ((a9,(0:Int),()),((a0,a1,a2,a3,a4,a5,a6,a7,a8,()),()))=some (match List.findIdx? (fun x=>aV x==a9) a6 with|some i=> .inr ((((i:Nat):Int),()),())|none=> .inl ((),())):=dZ (f:=r7) a6 (fun x=>aV x==a9) (fun i=>((a9,((i:Nat):Int),()),((a0,a1,a2,a3,a4,a5,a6,a7,a8,()),()))) (y:=((),())) (z:=fun i=>((((i:Nat):Int),()),()))
  (fun i hi hp=>by
   have h1:=ar (i:=i) (by omega);simp [r7,Out.eval,hi,h1,cond_eq_ite,aV] at hp ⊢ <;>(try simp_all)<;>(try (rcases hp with h|h<;>simp_all)))
  (fun i hi hp=>by simp [r7,Out.eval,hi,cond_eq_ite,aV] at hp ⊢ <;>(try simp_all)<;>(try (rcases hp with h|h<;>simp_all)))
  (by simp [r7,Out.eval]) l6
 refine (aa h).trans ?_;cases List.findIdx? (fun x=>aV x==a9) a6<;>rfl
abbrev Mx:=XE×(Unit)
def vp:Mx→Out (Round Mx ((Unit)×(Unit)) ((Bool×Unit)×(Unit)))
|((p0,p1,p2,_),_)=>
 .ite (decide (p2<((List.length p0:Nat):Int)))
 (.ite (decide (0≤p2))
 (.get (nth p0 (Int.toNat p2)) fun y1=>
 .ite ((y1==p1))
 (.ret (.ret ((true,()),())))
 (.ret (.again ((p0,p1,(IntKind.i64.wrap (p2+(1:Int))),()),()))))
 .fail)
 (.ret (.out ((),())))
def r9 (a0:List Int) (a1:Int):Out (((Bool×Unit)×Unit)×XI):=
 .get (iter vp bn ((a0,a1,(0:Int),()),())) fun y1=> .alt y1 (fun _=>
 .ret (((false,()),()),((),(),()))) (fun y3=>
 .ret (((y3.1.1,()),()),((),(),())))
def aei:Nat→Option aq:=fun n=>bU [(0,⟨⟨[.ro (.int .i64) (some 0), .i .i64, .dead, .dead, .dead, .i .i64]++dd 12,[]⟩,⟨dd 18,[]⟩,some ⟨dd 4++[.b]++dd 13,[]⟩,false⟩)] n
def B9:bM:={ f:=223,lend:=true,aK:=[⟨false,false,[.ro (.int .i64)]⟩,⟨false,false,[.i .i64]⟩],lay:=[none,none],rs:=[⟨false,false,[.b]⟩],F:=fun x=> .ret ((((lr x.1.1 x.2.1.1),()),()),((),(),())) }
theorem Xm (x:az B9.aK):bo [] aei Tryz.f223 B9 [.tmp 4] x=r9 x.1.1 x.2.1.1:=by kernel_rfl
theorem Xn (hr:∀ x:(List Int×Unit)×(Int×Unit)×Unit,aD B9.aK x→(r9 x.1.1 x.2.1.1).eval=(B9.F x).eval):B9.Ok Tryz.prog:=aU [] trivial Xm fun x hw _ hy=>(hr x hw).trans hy
theorem My:B9.Ok Tryz.prog:=by
 refine Xn fun x hw=> ?_;obtain ⟨⟨a0,_⟩,⟨a1,_⟩,_⟩:=x;have l0:List.length a0≤aS:=hw.1.1.1;show (r9 a0 a1).eval=some ((((lr a0 a1),()),()),((),(),()));unfold r9 lr;have h:iter vp bn ((a0,a1,(0:Int),()),())=some (if List.any a0 (fun y=>decide (y=a1))=true then .inr ((true,()),()) else .inl ((),())):=Hx (f:=vp) a0 (fun y=>decide (y=a1)) (fun i=>((a0,a1,((i:Nat):Int),()),())) (y:=((),())) (z:=((true,()),()))
  (fun i hi=>by
   have h1:=ar (i:=i) (by omega);cases q:(fun y=>decide (y=a1)) a0[i]<;>simp [vp,Out.eval,hi,h1,cond_eq_ite] at q ⊢ <;>simp_all)
  (by simp [vp,Out.eval]) l0
 refine (aa h).trans ?_;cases List.any a0 (fun y=>decide (y=a1))<;>rfl
abbrev Mz:=(Int×Int×Unit)×(bw×Unit)
def vq:Mz→Out (Round Mz ((Int×Unit)×(Unit)) Empty)
|((p0,p1,_),(p2,p3,p4,p5,p6,p7,p8,p9,cz,_),_)=>
 .ite (decide (p1<((List.length p5:Nat):Int)))
 (.ite (decide (0≤p1))
 (.get (nth p5 (Int.toNat p1)) fun y1=>
 .ite ((4:Int)==0)
 .fail
 (.ret (.again (((IntKind.i64.wrap (p0+(IntKind.i64.wrap (Int.tdiv ((List.length y1.2.2.2.2.2.1:Nat):Int) (4:Int))))),(IntKind.i64.wrap (p1+(1:Int))),()),((p2,p3,p4,p5,p6,p7,p8,p9,cz,()),())))))
 .fail)
 (.ret (.out ((p0,()),())))
def sa (a0:Int) (a1:Int) (a2:List (List aw)) (a3:List af) (a4:List ah) (a5:List ag) (a6:List ag) (a7:List Int) (a8:List Int):Out (((Int×Unit)×Unit)×(Unit×Unit)):=
 .get (b5 vq bn (((0:Int),(0:Int),()),((a0,a1,a2,a3,a4,a5,a6,a7,a8,()),()))) fun y1=>
 .ret (((y1.1.1,()),()),((),()))
def aej:Nat→Option aq:=fun n=>bU [(0,⟨⟨[.dead, .vptr 64000000 0, .dead, .i .i64, .i .i64]++dd 18,vn⟩,⟨[.dead, .dead, .dead, .i .i64]++dd 19,[]⟩,none,false⟩)] n
def FJ:bM:={ f:=136,lend:=true,aK:=[⟨false,true,[.i .i64, .i .i64, .ro (.sl b8), .ro jr, .ro cH, .ro ck, .ro ck, .ro (.int .i64), .ro (.int .i64)]⟩],lay:=[none],rs:=[⟨false,false,[.i .i64]⟩],F:=fun x=> .ret ((((mZ x.1.2.2.2.1),()),()),((),())) }
theorem Xo (x:az FJ.aK):bo [] aej Tryz.f136 FJ [.tmp 2] x=sa x.1.1 x.1.2.1 x.1.2.2.1 x.1.2.2.2.1 x.1.2.2.2.2.1 x.1.2.2.2.2.2.1 x.1.2.2.2.2.2.2.1 x.1.2.2.2.2.2.2.2.1 x.1.2.2.2.2.2.2.2.2.1:=by kernel_rfl
theorem Xp (hr:∀ x:bw×Unit,aD FJ.aK x→(sa x.1.1 x.1.2.1 x.1.2.2.1 x.1.2.2.2.1 x.1.2.2.2.2.1 x.1.2.2.2.2.2.1 x.1.2.2.2.2.2.2.1 x.1.2.2.2.2.2.2.2.1 x.1.2.2.2.2.2.2.2.2.1).eval=(FJ.F x).eval):FJ.Ok Tryz.prog:=aU [] trivial Xo fun x hw _ hy=>(hr x hw).trans hy
theorem MA:FJ.Ok Tryz.prog:=by
 refine Xp fun x hw=> ?_;obtain ⟨⟨a0,a1,a2,a3,a4,a5,a6,a7,a8,_⟩,_⟩:=x;have l2:List.length a2≤aS:=hw.1.1.1;have l3:List.length a3≤aS:=hw.1.2.1.1;have l4:List.length a4≤aS:=hw.1.2.2.1.1;have l5:List.length a5≤aS:=hw.1.2.2.2.1.1;have l6:List.length a6≤aS:=hw.1.2.2.2.2.1.1;have l7:List.length a7≤aS:=hw.1.2.2.2.2.2.1.1;have l8:List.length a8≤aS:=hw.1.2.2.2.2.2.2.1.1;show (sa a0 a1 a2 a3 a4 a5 a6 a7 a8).eval=some ((((mZ a3),()),()),((),()));unfold sa mZ;have h:b5 vq bn (((0:Int),(0:Int),()),((a0,a1,a2,a3,a4,a5,a6,a7,a8,()),()))=some (((List.foldl (fun (n:Int) (p:af)=>IntKind.i64.wrap (n+((p.2.2.2.2.2.1.length / 4:Nat):Int))) (0:Int) a3),()),()):=foldl_loop (f:=vq) (fun _ _=>True) (fun (n:Int) (p:af)=>IntKind.i64.wrap (n+((p.2.2.2.2.2.1.length / 4:Nat):Int))) a3 (fun d i=>((d,((i:Nat):Int),()),((a0,a1,a2,a3,a4,a5,a6,a7,a8,()),()))) (fun d=>((d,()),()))
  (fun i hi d _=>by
   have h1:=ar (i:=i) (by omega);have lj:List.length a3[i].2.2.2.2.2.1≤9223372036854775807:=(hw.1.2.1.2 i a3[i] (aaf hi)).2.2.2.2.2.1.1;have h2:IntKind.i64.wrap (((List.length a3[i].2.2.2.2.2.1:Nat):Int) / 4)=((List.length a3[i].2.2.2.2.2.1:Nat):Int) / 4:=cS (by omega) (by omega);simp [vq,Out.eval,hi,h1,cond_eq_ite,h2])
  (fun d _=>by simp [vq,Out.eval]) (fun _ _ _ _=>trivial) l3 (0:Int) trivial
 exact aa h
def sb (a0:Int) (a1:List Int):Out (((Bool×Unit)×Unit)×(Unit×Unit)):=
 .ite ((dC a0 (0:Int) (40:Int))==true)
 (.ite (((((List.length a1:Nat):Int)==(4:Int)))==true)
 (.ret ((((aG a1),()),()),((),())))
 (.ret (((false,()),()),((),()))))
 (.ret (((false,()),()),((),())))
def FK:bM:={ f:=200,lend:=true,aK:=[⟨false,true,[.i .i64, .ro (.int .i64)]⟩],lay:=[none],rs:=[⟨false,false,[.b]⟩],F:=fun x=> .ret ((((aR x.1.1 x.1.2.1),()),()),((),())) }
theorem Xq (x:az FK.aK):bo [wO,vc] (fun _=>none) Tryz.f200 FK [.tmp 2] x=sb x.1.1 x.1.2.1:=by kernel_rfl
theorem Xr (hr:∀ x:ag×Unit,aD FK.aK x→(sb x.1.1 x.1.2.1).eval=(FK.F x).eval):FK.Ok Tryz.prog:=aU [wO,vc] ⟨kc,zr,trivial⟩ Xq fun x hw _ hy=>(hr x hw).trans hy
theorem MB:FK.Ok Tryz.prog:=by
 refine Xr fun x hw=> ?_;obtain ⟨⟨a0,a1,_⟩,_⟩:=x;have l1:List.length a1≤aS:=hw.1.1.1;show (sb a0 a1).eval=some ((((aR a0 a1),()),()),((),()));unfold sb aR m9;simp only [eq4,Dc];cases dC a0 0 40<;>cases decide (List.length a1=4)<;>rfl
abbrev MC:=(List (List aw)×Int×Unit)×(Unit)
def vt:MC→Out (Round MC ((Unit)×(Unit)) ((Bool×Unit)×(Unit)))
|((p0,p1,_),_)=>
 .ite (decide (p1<((List.length p0:Nat):Int)))
 (.ite (decide (0≤p1))
 (.get (nth p0 (Int.toNat p1)) fun y1=>
 .ite (!(bT y1))
 (.ret (.ret ((false,()),())))
 (.ret (.again ((p0,(IntKind.i64.wrap (p1+(1:Int))),()),()))))
 .fail)
 (.ret (.out ((),())))
def sc (a0:List (List aw)):Out (((Bool×Unit)×Unit)×(Unit×Unit)):=
 .ite (!(dC ((List.length a0:Nat):Int) (1:Int) (4:Int)))
 (.ret (((false,()),()),((),())))
 (.get (iter vt bn ((a0,(0:Int),()),())) fun y1=> .alt y1 (fun _=>
 .ret (((true,()),()),((),()))) (fun y3=>
 .ret (((y3.1.1,()),()),((),()))))
def aek:Nat→Option aq:=fun n=>bU [(0,⟨⟨[.ro (.sl b8) (some 0), .dead, .dead, .i .i64]++dd 16,[]⟩,⟨dd 20,[]⟩,some ⟨[.dead, .dead, .b]++dd 17,[]⟩,false⟩)] n
def Fv:bM:={ f:=125,lend:=true,aK:=[⟨false,false,[.ro (.sl b8)]⟩],lay:=[none],rs:=[⟨false,false,[.b]⟩],F:=fun x=> .ret ((((cD x.1.1),()),()),((),())) }
theorem Xs (x:az Fv.aK):bo [wO,Ht] aek Tryz.f125 Fv [.tmp 2] x=sc x.1.1:=by kernel_rfl
theorem Xt (hr:∀ x:(List (List aw)×Unit)×Unit,aD Fv.aK x→(sc x.1.1).eval=(Fv.F x).eval):Fv.Ok Tryz.prog:=aU [wO,Ht] ⟨kc,W3,trivial⟩ Xs fun x hw _ hy=>(hr x hw).trans hy
theorem LS:Fv.Ok Tryz.prog:=by
 refine Xt fun x hw=> ?_;obtain ⟨⟨a0,_⟩,_⟩:=x;have l0:List.length a0≤aS:=hw.1.1.1;show (sc a0).eval=some ((((cD a0),()),()),((),()));unfold sc cD;have e1:dC ((List.length a0:Nat):Int) 1 4=(decide (1≤List.length a0)&&decide (List.length a0≤4)):=by
  unfold dC;congr 1<;>(rw [acK];simp;omega)
 rw [e1];have h:iter vt bn ((a0,(0:Int),()),())=some (if List.all a0 bT=true then .inl ((),()) else .inr ((false,()),())):=xn (f:=vt) a0 bT (fun i=>((a0,((i:Nat):Int),()),())) (y:=((),())) (z:=((false,()),()))
  (fun i hi=>by
   have h1:=ar (i:=i) (by omega);cases q:bT a0[i]<;>simp [vt,Out.eval,hi,h1,cond_eq_ite] at q ⊢ <;>simp_all)
  (by simp [vt,Out.eval]) l0
 cases decide (1≤List.length a0)&&decide (List.length a0≤4)
 . rfl
 . refine (ae rfl).trans ((aa h).trans ?_)
   cases List.all a0 bT<;>rfl
end
section
open Go Go.ChangeShapes Go.WideShapes Go.ChangeAt Go.RowKit
theorem R2 {β:Type} (st code par:Int) (n:Nat) (r:Bool→β):
  (Out.ite (st==(6:Int)) (Out.ite (((((n:Nat):Int)==(0:Int)))==true) (.ret (r (par != (0:Int)))) (.ret (r false))) (Out.ite ((decide (((n:Nat):Int)>(0:Int)))==true) (.ret (r (code==(0:Int)))) (.ret (r false)))).eval=
   some (r (if st=6 then decide (n=0)&& !(par==0) else decide (0<n)&&code==0)):=by
 simp only [Out.eval,cond_eq_ite];rcases Nat.eq_zero_or_pos n with h2|h2
 . subst h2
   by_cases h:st=6<;>simp [h,bne]
 . have h3:¬ n=0:=by omega
   by_cases h:st=6<;>simp [h,h2,h3]
theorem Oj {β:Type} (tick st om v code par:Int) (u:Bool) (n:Nat) (r:Bool→β) (e:Out β)
  (he:e.eval=some (r (if st=6 then decide (n=0)&& !(par==0) else decide (0<n)&&code==0))):
  (Out.ite (st==(2:Int)) (.ite (decide (om≤tick)) (.ret (r false)) e)
   (.ite (st==(4:Int)) (.ite ((decide (v<(0:Int)))==false) (.ite (!u) (.ret (r false)) e) (.ret (r false)))
    (.ite (st==(5:Int)) (.ite ((decide (v<(0:Int)))==false) (.ite (!u) (.ret (r false)) e) (.ret (r false)))
     (.ite (om != (0:Int)) (.ret (r false)) e)))).eval=
   some (r ((if st=2 then decide (tick<om) else if st=4∨st=5 then u&&decide (0≤v) else om==0)&&(if st=6 then decide (n=0)&& !(par==0) else decide (0<n)&&code==0))):=by
 generalize (if st=6 then decide (n=0)&& !(par==0) else decide (0<n)&&code==0)=b at*;simp only [Out.eval,cond_eq_ite,he];by_cases h2:st=2
 . by_cases h:om≤tick
   . have:¬ tick<om:=by omega
     simp [h2,h,this]
   . have:tick<om:=by omega
     simp [h2,h,this]
 . by_cases h4:st=4
   . by_cases h:v<0
     . have:¬ 0≤v:=by omega
       simp [h4,h,this]
     . have:0≤v:=by omega
       cases u<;>simp [h4,h,this]
   . by_cases h5:st=5
     . by_cases h:v<0
       . have:¬ 0≤v:=by omega
         simp [h5,h,this]
       . have:0≤v:=by omega
         cases u<;>simp [h5,h,this]
     . by_cases h0:om=0
       . simp [h2,h4,h5,h0]
       . have h1:(om==(0:Int))=false:=by simpa using h0
         simp [h2,h4,h5,h0,h1]
abbrev MD:=(Int×Unit)×(bw×XM×Unit)
def vu:MD→Out (Round MD ((Unit)×(bw×XM×Unit)) ((Bool×Unit)×(Unit)))
|((p0,_),(p1,p2,p3,p4,p5,p6,p7,p8,p9,_),(cz,cE,dp,dh,du,cP,dG,dX,ep,eZ,_),_)=>
 .ite (decide (p0<((List.length dX:Nat):Int)))
 (.ite (decide (0≤p0))
 (.get (nth dX (Int.toNat p0)) fun y1=>
 .ite (((y1 != (-1:Int)))==true)
 (.ite (decide (0≤p0))
 (.get (nth dX (Int.toNat p0)) fun y2=>
 .ite ((decide ((aF p5 y2)<(0:Int)))==false)
 (.ite ((dp==(6:Int)))
 (.ret (.ret ((false,()),())))
 (.ret (.again (((IntKind.i64.wrap (p0+(1:Int))),()),((p1,p2,p3,p4,p5,p6,p7,p8,p9,()),(cz,cE,dp,dh,du,cP,dG,dX,ep,eZ,()),())))))
 (.ret (.ret ((false,()),()))))
 .fail)
 (.ret (.again (((IntKind.i64.wrap (p0+(1:Int))),()),((p1,p2,p3,p4,p5,p6,p7,p8,p9,()),(cz,cE,dp,dh,du,cP,dG,dX,ep,eZ,()),())))))
 .fail)
 (.ret (.out ((),((p1,p2,p3,p4,p5,p6,p7,p8,p9,()),(cz,cE,dp,dh,du,cP,dG,dX,ep,eZ,()),()))))
def sd (a0:Int) (a1:Int) (a2:List (List aw)) (a3:List af) (a4:List ah) (a5:List ag) (a6:List ag) (a7:List Int) (a8:List Int) (a9:Int) (fg:Int) (iI:Int) (a12:Int) (mM:Int) (zu:List Int) (lu:List Int) (ll:List Int) (s9:Int) (wz:Int):Out (((Bool×Unit)×Unit)×XI):=
 .ite ((!(dC iI (1:Int) (6:Int)))==false)
 (.ite ((decide (a12<(0:Int)))==false)
 (.ite ((decide (a12≥((List.length a2:Nat):Int)))==false)
 (.ite ((!(aR mM zu))==false)
 (.ite ((decide (((List.length lu:Nat):Int)>(12:Int)))==false)
 (.ite ((4:Int)==0)
 .fail
 (.ite ((((Int.tmod ((List.length lu:Nat):Int) (4:Int)) != (0:Int)))==false)
 (.ite ((!(aG lu))==false)
 (.ite (((((List.length ll:Nat):Int) != (4:Int)))==false)
 (.ite (!(b6 wz))
 (.ret (((false,()),()),((),(),())))
 (.get (iter vu bn (((0:Int),()),((a0,a1,a2,a3,a4,a5,a6,a7,a8,()),(a9,fg,iI,a12,mM,zu,lu,ll,s9,wz,()),()))) fun y1=> .alt y1 (fun y2=>
 .ite ((y2.2.2.1.2.1 != (0:Int)))
 (.ite ((decide ((ak y2.2.1.2.2.2.1 y2.2.2.1.2.1)<(0:Int)))==false)
 (.ite (((y2.2.2.1.2.1==y2.2.2.1.1))==false)
 (.ite (decide (0≤(ak y2.2.1.2.2.2.1 y2.2.2.1.2.1)))
 (.get (nth y2.2.1.2.2.2.1 (Int.toNat (ak y2.2.1.2.2.2.1 y2.2.2.1.2.1))) fun y4=>
 .ite ((y4.2.2.1==(6:Int)))
 (.ret (((false,()),()),((),(),())))
 (.ite ((y2.2.2.1.2.2.1==(2:Int)))
 (.ite (decide (y2.2.2.1.2.2.2.2.2.2.2.2.1≤y2.2.1.2.1))
 (.ret (((false,()),()),((),(),())))
 (.ite ((y2.2.2.1.2.2.1==(6:Int)))
 (.ite (((((List.length y2.2.2.1.2.2.2.2.2.2.1:Nat):Int)==(0:Int)))==true)
 (.ret (((((y2.2.2.1.2.1 != (0:Int))),()),()),((),(),())))
 (.ret (((false,()),()),((),(),()))))
 (.ite ((decide (((List.length y2.2.2.1.2.2.2.2.2.2.1:Nat):Int)>(0:Int)))==true)
 (.ret (((((y2.2.2.1.2.2.2.2.2.2.2.2.2.1==(0:Int))),()),()),((),(),())))
 (.ret (((false,()),()),((),(),()))))))
 (.ite ((y2.2.2.1.2.2.1==(4:Int)))
 (.ite ((decide ((aF y2.2.1.2.2.2.2.1 y2.2.2.1.2.2.2.2.2.2.2.2.1)<(0:Int)))==false)
 (.ite (!(lr y2.2.2.1.2.2.2.2.2.2.2.1 y2.2.2.1.2.2.2.2.2.2.2.2.1))
 (.ret (((false,()),()),((),(),())))
 (.ite ((y2.2.2.1.2.2.1==(6:Int)))
 (.ite (((((List.length y2.2.2.1.2.2.2.2.2.2.1:Nat):Int)==(0:Int)))==true)
 (.ret (((((y2.2.2.1.2.1 != (0:Int))),()),()),((),(),())))
 (.ret (((false,()),()),((),(),()))))
 (.ite ((decide (((List.length y2.2.2.1.2.2.2.2.2.2.1:Nat):Int)>(0:Int)))==true)
 (.ret (((((y2.2.2.1.2.2.2.2.2.2.2.2.2.1==(0:Int))),()),()),((),(),())))
 (.ret (((false,()),()),((),(),()))))))
 (.ret (((false,()),()),((),(),()))))
 (.ite ((y2.2.2.1.2.2.1==(5:Int)))
 (.ite ((decide ((aF y2.2.1.2.2.2.2.1 y2.2.2.1.2.2.2.2.2.2.2.2.1)<(0:Int)))==false)
 (.ite (!(lr y2.2.2.1.2.2.2.2.2.2.2.1 y2.2.2.1.2.2.2.2.2.2.2.2.1))
 (.ret (((false,()),()),((),(),())))
 (.ite ((y2.2.2.1.2.2.1==(6:Int)))
 (.ite (((((List.length y2.2.2.1.2.2.2.2.2.2.1:Nat):Int)==(0:Int)))==true)
 (.ret (((((y2.2.2.1.2.1 != (0:Int))),()),()),((),(),())))
 (.ret (((false,()),()),((),(),()))))
 (.ite ((decide (((List.length y2.2.2.1.2.2.2.2.2.2.1:Nat):Int)>(0:Int)))==true)
 (.ret (((((y2.2.2.1.2.2.2.2.2.2.2.2.2.1==(0:Int))),()),()),((),(),())))
 (.ret (((false,()),()),((),(),()))))))
 (.ret (((false,()),()),((),(),()))))
 (.ite ((y2.2.2.1.2.2.2.2.2.2.2.2.1 != (0:Int)))
 (.ret (((false,()),()),((),(),())))
 (.ite ((y2.2.2.1.2.2.1==(6:Int)))
 (.ite (((((List.length y2.2.2.1.2.2.2.2.2.2.1:Nat):Int)==(0:Int)))==true)
 (.ret (((((y2.2.2.1.2.1 != (0:Int))),()),()),((),(),())))
 (.ret (((false,()),()),((),(),()))))
 (.ite ((decide (((List.length y2.2.2.1.2.2.2.2.2.2.1:Nat):Int)>(0:Int)))==true)
 (.ret (((((y2.2.2.1.2.2.2.2.2.2.2.2.2.1==(0:Int))),()),()),((),(),())))
 (.ret (((false,()),()),((),(),()))))))))))
 .fail)
 (.ret (((false,()),()),((),(),()))))
 (.ret (((false,()),()),((),(),()))))
 (.ite ((y2.2.2.1.2.2.1==(2:Int)))
 (.ite (decide (y2.2.2.1.2.2.2.2.2.2.2.2.1≤y2.2.1.2.1))
 (.ret (((false,()),()),((),(),())))
 (.ite ((y2.2.2.1.2.2.1==(6:Int)))
 (.ite (((((List.length y2.2.2.1.2.2.2.2.2.2.1:Nat):Int)==(0:Int)))==true)
 (.ret (((((y2.2.2.1.2.1 != (0:Int))),()),()),((),(),())))
 (.ret (((false,()),()),((),(),()))))
 (.ite ((decide (((List.length y2.2.2.1.2.2.2.2.2.2.1:Nat):Int)>(0:Int)))==true)
 (.ret (((((y2.2.2.1.2.2.2.2.2.2.2.2.2.1==(0:Int))),()),()),((),(),())))
 (.ret (((false,()),()),((),(),()))))))
 (.ite ((y2.2.2.1.2.2.1==(4:Int)))
 (.ite ((decide ((aF y2.2.1.2.2.2.2.1 y2.2.2.1.2.2.2.2.2.2.2.2.1)<(0:Int)))==false)
 (.ite (!(lr y2.2.2.1.2.2.2.2.2.2.2.1 y2.2.2.1.2.2.2.2.2.2.2.2.1))
 (.ret (((false,()),()),((),(),())))
 (.ite ((y2.2.2.1.2.2.1==(6:Int)))
 (.ite (((((List.length y2.2.2.1.2.2.2.2.2.2.1:Nat):Int)==(0:Int)))==true)
 (.ret (((((y2.2.2.1.2.1 != (0:Int))),()),()),((),(),())))
 (.ret (((false,()),()),((),(),()))))
 (.ite ((decide (((List.length y2.2.2.1.2.2.2.2.2.2.1:Nat):Int)>(0:Int)))==true)
 (.ret (((((y2.2.2.1.2.2.2.2.2.2.2.2.2.1==(0:Int))),()),()),((),(),())))
 (.ret (((false,()),()),((),(),()))))))
 (.ret (((false,()),()),((),(),()))))
 (.ite ((y2.2.2.1.2.2.1==(5:Int)))
 (.ite ((decide ((aF y2.2.1.2.2.2.2.1 y2.2.2.1.2.2.2.2.2.2.2.2.1)<(0:Int)))==false)
 (.ite (!(lr y2.2.2.1.2.2.2.2.2.2.2.1 y2.2.2.1.2.2.2.2.2.2.2.2.1))
 (.ret (((false,()),()),((),(),())))
 (.ite ((y2.2.2.1.2.2.1==(6:Int)))
 (.ite (((((List.length y2.2.2.1.2.2.2.2.2.2.1:Nat):Int)==(0:Int)))==true)
 (.ret (((((y2.2.2.1.2.1 != (0:Int))),()),()),((),(),())))
 (.ret (((false,()),()),((),(),()))))
 (.ite ((decide (((List.length y2.2.2.1.2.2.2.2.2.2.1:Nat):Int)>(0:Int)))==true)
 (.ret (((((y2.2.2.1.2.2.2.2.2.2.2.2.2.1==(0:Int))),()),()),((),(),())))
 (.ret (((false,()),()),((),(),()))))))
 (.ret (((false,()),()),((),(),()))))
 (.ite ((y2.2.2.1.2.2.2.2.2.2.2.2.1 != (0:Int)))
 (.ret (((false,()),()),((),(),())))
 (.ite ((y2.2.2.1.2.2.1==(6:Int)))
 (.ite (((((List.length y2.2.2.1.2.2.2.2.2.2.1:Nat):Int)==(0:Int)))==true)
 (.ret (((((y2.2.2.1.2.1 != (0:Int))),()),()),((),(),())))
 (.ret (((false,()),()),((),(),()))))
 (.ite ((decide (((List.length y2.2.2.1.2.2.2.2.2.2.1:Nat):Int)>(0:Int)))==true)
 (.ret (((((y2.2.2.1.2.2.2.2.2.2.2.2.2.1==(0:Int))),()),()),((),(),())))
 (.ret (((false,()),()),((),(),())))))))))) (fun y3=>
 .ret (((y3.1.1,()),()),((),(),())))))
 (.ret (((false,()),()),((),(),()))))
 (.ret (((false,()),()),((),(),()))))
 (.ret (((false,()),()),((),(),())))))
 (.ret (((false,()),()),((),(),()))))
 (.ret (((false,()),()),((),(),()))))
 (.ret (((false,()),()),((),(),()))))
 (.ret (((false,()),()),((),(),()))))
 (.ret (((false,()),()),((),(),())))
abbrev ME:List (Nat×dT):=[(64000000, .var [.i .i64, .i .i64, .ro (.sl b8) (some 0), .ro jr (some 1), .ro cH (some 2), .ro ck (some 3), .ro ck (some 4), .ro (.int .i64) (some 5), .ro (.int .i64) (some 6)]),(64000001, .var [.i .i64, .i .i64, .i .i64, .i .i64, .i .i64, .ro (.int .i64) (some 7), .ro (.int .i64) (some 8), .ro (.int .i64) (some 9), .i .i64, .i .i64])]
def ael:Nat→Option aq:=fun n=>bU [(0,⟨⟨[.dead, .dead, .vptr 64000000 0, .vptr 64000001 0, .dead, .i .i64]++dd 157,ME⟩,⟨[.dead, .dead, .vptr 64000000 0, .vptr 64000001 0]++dd 159,ME⟩,some ⟨dd 4++[.b]++dd 158,[]⟩,false⟩)] n
def fq (tick:Int) (jX:List (List aw)) (ps:List af) (os:List ah) (pid par st pg pc:Int) (vm mem fds:List Int) (om code:Int):Bool:=
 dw tick jX.length ps os pid par st pg pc vm mem fds om code
def Hy:bM:={ f:=137,lend:=true,aK:=[⟨false,true,[.i .i64, .i .i64, .ro (.sl b8), .ro jr, .ro cH, .ro ck, .ro ck, .ro (.int .i64), .ro (.int .i64)]⟩,⟨false,true,[.i .i64, .i .i64, .i .i64, .i .i64, .i .i64, .ro (.int .i64), .ro (.int .i64), .ro (.int .i64), .i .i64, .i .i64]⟩],lay:=[none,none],rs:=[⟨false,false,[.b]⟩],F:=fun x=> .ret ((((fq x.1.2.1 x.1.2.2.1 x.1.2.2.2.1 x.1.2.2.2.2.1 x.2.1.1 x.2.1.2.1 x.2.1.2.2.1 x.2.1.2.2.2.1 x.2.1.2.2.2.2.1 x.2.1.2.2.2.2.2.1 x.2.1.2.2.2.2.2.2.1 x.2.1.2.2.2.2.2.2.2.1 x.2.1.2.2.2.2.2.2.2.2.1 x.2.1.2.2.2.2.2.2.2.2.2.1),()),()),((),(),())) }
theorem Xu (x:az Hy.aK):bo [wO,FK,vc,yF,wL,uF,B9] ael Tryz.f137 Hy [.tmp 4] x=sd x.1.1 x.1.2.1 x.1.2.2.1 x.1.2.2.2.1 x.1.2.2.2.2.1 x.1.2.2.2.2.2.1 x.1.2.2.2.2.2.2.1 x.1.2.2.2.2.2.2.2.1 x.1.2.2.2.2.2.2.2.2.1 x.2.1.1 x.2.1.2.1 x.2.1.2.2.1 x.2.1.2.2.2.1 x.2.1.2.2.2.2.1 x.2.1.2.2.2.2.2.1 x.2.1.2.2.2.2.2.2.1 x.2.1.2.2.2.2.2.2.2.1 x.2.1.2.2.2.2.2.2.2.2.1 x.2.1.2.2.2.2.2.2.2.2.2.1:=by kernel_rfl
theorem Xv (hr:∀ x:bw×XM×Unit,aD Hy.aK x→(sd x.1.1 x.1.2.1 x.1.2.2.1 x.1.2.2.2.1 x.1.2.2.2.2.1 x.1.2.2.2.2.2.1 x.1.2.2.2.2.2.2.1 x.1.2.2.2.2.2.2.2.1 x.1.2.2.2.2.2.2.2.2.1 x.2.1.1 x.2.1.2.1 x.2.1.2.2.1 x.2.1.2.2.2.1 x.2.1.2.2.2.2.1 x.2.1.2.2.2.2.2.1 x.2.1.2.2.2.2.2.2.1 x.2.1.2.2.2.2.2.2.2.1 x.2.1.2.2.2.2.2.2.2.2.1 x.2.1.2.2.2.2.2.2.2.2.2.1).eval=(Hy.F x).eval):Hy.Ok Tryz.prog:=aU [wO,FK,vc,yF,wL,uF,B9] ⟨kc,MB,zr,zq,ra,oz,My,trivial⟩ Xu fun x hw _ hy=>(hr x hw).trans hy
theorem Xw:Hy.Ok Tryz.prog:=by
 refine Xv fun x hw=> ?_;obtain ⟨⟨a0,a1,a2,a3,a4,a5,a6,a7,a8,_⟩,⟨a9,fg,iI,a12,mM,zu,lu,ll,s9,wz,_⟩,_⟩:=x;have l2:List.length a2≤aS:=hw.1.1.1;have l3:List.length a3≤aS:=hw.1.2.1.1;have l4:List.length a4≤aS:=hw.1.2.2.1.1;have l5:List.length a5≤aS:=hw.1.2.2.2.1.1;have l6:List.length a6≤aS:=hw.1.2.2.2.2.1.1;have l7:List.length a7≤aS:=hw.1.2.2.2.2.2.1.1;have l8:List.length a8≤aS:=hw.1.2.2.2.2.2.2.1.1;have l14:List.length zu≤aS:=hw.2.1.1.1;have l15:List.length lu≤aS:=hw.2.1.2.1.1;have l16:List.length ll≤aS:=hw.2.1.2.2.1.1;show (sd a0 a1 a2 a3 a4 a5 a6 a7 a8 a9 fg iI a12 mM zu lu ll s9 wz).eval=some ((((fq a1 a2 a3 a4 a9 fg iI a12 mM zu lu ll s9 wz),()),()),((),(),()));unfold sd;have h:iter vu bn (((0:Int),()),((a0,a1,a2,a3,a4,a5,a6,a7,a8,()),(a9,fg,iI,a12,mM,zu,lu,ll,s9,wz,()),()))=some (if List.all ll (pj a4 iI)=true then .inl ((),((a0,a1,a2,a3,a4,a5,a6,a7,a8,()),(a9,fg,iI,a12,mM,zu,lu,ll,s9,wz,()),())) else .inr ((false,()),())):=xn (f:=vu) ll (pj a4 iI) (fun i=>((((i:Nat):Int),()),((a0,a1,a2,a3,a4,a5,a6,a7,a8,()),(a9,fg,iI,a12,mM,zu,lu,ll,s9,wz,()),()))) (y:=((),((a0,a1,a2,a3,a4,a5,a6,a7,a8,()),(a9,fg,iI,a12,mM,zu,lu,ll,s9,wz,()),()))) (z:=((false,()),()))
  (fun i hi=>by
   have h1:=ar (i:=i) (by omega);by_cases q0:ll[i]= -1<;>by_cases q1:0≤aF a4 ll[i]<;>by_cases q2:iI=6<;>simp [vu,Out.eval,hi,h1,cond_eq_ite,pj,Xd,q0,q1,q2])
  (by simp [vu,Out.eval]) l16
 by_cases c1:dC iI 1 6=true
 case neg=>rw [ae (by first|(simp [c1];done)|(rw [aaa (by omega)];done)|(rw [aae (by omega)];done)|(rw [aaa (by omega)];rfl)|(rw [aae (by omega)];rfl)|(rw [c1];rfl)|(rw [Bool.eq_false_iff.2 c1];rfl))];simp [Out.eval,fq,dw,c1]
 rw [ab (by first|(simp [c1];done)|(rw [aaa (by omega)];done)|(rw [aae (by omega)];done)|(rw [aaa (by omega)];rfl)|(rw [aae (by omega)];rfl)|(rw [c1];rfl)|(rw [Bool.eq_false_iff.2 c1];rfl))];by_cases c2:0≤a12
 case neg=>rw [ae (by first|(simp;done)|(rw [aaa (by omega)];done)|(rw [aae (by omega)];done)|(rw [aaa (by omega)];rfl)|(rw [aae (by omega)];rfl)|(rw [c2];rfl)|(rw [Bool.eq_false_iff.2 c2];rfl))];simp [Out.eval,fq,dw,c2]
 rw [ab (by first|(simp [c2];done)|(rw [aaa (by omega)];done)|(rw [aae (by omega)];done)|(rw [aaa (by omega)];rfl)|(rw [aae (by omega)];rfl)|(rw [c2];rfl)|(rw [Bool.eq_false_iff.2 c2];rfl))];by_cases c3:a12<((List.length a2:Nat):Int)
 case neg=>rw [ae (by first|(simp;done)|(rw [aaa (by omega)];done)|(rw [aae (by omega)];done)|(rw [aaa (by omega)];rfl)|(rw [aae (by omega)];rfl)|(rw [c3];rfl)|(rw [Bool.eq_false_iff.2 c3];rfl))];simp [Out.eval,fq,dw,c3]
 rw [ab (by first|(simp [c3];done)|(rw [aaa (by omega)];done)|(rw [aae (by omega)];done)|(rw [aaa (by omega)];rfl)|(rw [aae (by omega)];rfl)|(rw [c3];rfl)|(rw [Bool.eq_false_iff.2 c3];rfl))];by_cases c4:aR mM zu=true
 case neg=>rw [ae (by first|(simp [c4];done)|(rw [aaa (by omega)];done)|(rw [aae (by omega)];done)|(rw [aaa (by omega)];rfl)|(rw [aae (by omega)];rfl)|(rw [c4];rfl)|(rw [Bool.eq_false_iff.2 c4];rfl))];simp [Out.eval,fq,dw,c4]
 rw [ab (by first|(simp [c4];done)|(rw [aaa (by omega)];done)|(rw [aae (by omega)];done)|(rw [aaa (by omega)];rfl)|(rw [aae (by omega)];rfl)|(rw [c4];rfl)|(rw [Bool.eq_false_iff.2 c4];rfl))];by_cases c5:List.length lu≤12
 case neg=>rw [ae (by first|(simp;done)|(rw [aaa (by omega)];done)|(rw [aae (by omega)];done)|(rw [aaa (by omega)];rfl)|(rw [aae (by omega)];rfl)|(rw [c5];rfl)|(rw [Bool.eq_false_iff.2 c5];rfl))];simp [Out.eval,fq,dw,c5]
 rw [ab (by first|(simp;done)|(rw [aaa (by omega)];done)|(rw [aae (by omega)];done)|(rw [aaa (by omega)];rfl)|(rw [aae (by omega)];rfl)|(rw [c5];rfl)|(rw [Bool.eq_false_iff.2 c5];rfl))];rw [ae (by decide),aaB,ne4];by_cases c6:List.length lu % 4=0
 case neg=>rw [ae (by first|(simp [c6];done)|(rw [aaa (by omega)];done)|(rw [aae (by omega)];done)|(rw [aaa (by omega)];rfl)|(rw [aae (by omega)];rfl)|(rw [c6];rfl)|(rw [Bool.eq_false_iff.2 c6];rfl))];simp [Out.eval,fq,dw,c6]
 rw [ab (by first|(simp [c6];done)|(rw [aaa (by omega)];done)|(rw [aae (by omega)];done)|(rw [aaa (by omega)];rfl)|(rw [aae (by omega)];rfl)|(rw [c6];rfl)|(rw [Bool.eq_false_iff.2 c6];rfl))];by_cases c7:aG lu=true
 case neg=>rw [ae (by first|(simp [c7];done)|(rw [aaa (by omega)];done)|(rw [aae (by omega)];done)|(rw [aaa (by omega)];rfl)|(rw [aae (by omega)];rfl)|(rw [c7];rfl)|(rw [Bool.eq_false_iff.2 c7];rfl))];simp [Out.eval,fq,dw,c7]
 rw [ab (by first|(simp [c7];done)|(rw [aaa (by omega)];done)|(rw [aae (by omega)];done)|(rw [aaa (by omega)];rfl)|(rw [aae (by omega)];rfl)|(rw [c7];rfl)|(rw [Bool.eq_false_iff.2 c7];rfl))];by_cases c8:List.length ll=4
 case neg=>rw [ae (by first|(simp [c8];done)|(rw [aaa (by omega)];done)|(rw [aae (by omega)];done)|(rw [aaa (by omega)];rfl)|(rw [aae (by omega)];rfl)|(rw [c8];rfl)|(rw [Bool.eq_false_iff.2 c8];rfl))];simp [Out.eval,fq,dw,c8]
 rw [ab (by first|(simp [c8];done)|(rw [aaa (by omega)];done)|(rw [aae (by omega)];done)|(rw [aaa (by omega)];rfl)|(rw [aae (by omega)];rfl)|(rw [c8];rfl)|(rw [Bool.eq_false_iff.2 c8];rfl))];by_cases c9:b6 wz=true
 case neg=>rw [ab (by first|(simp [c9];done)|(rw [aaa (by omega)];done)|(rw [aae (by omega)];done)|(rw [aaa (by omega)];rfl)|(rw [aae (by omega)];rfl)|(rw [c9];rfl)|(rw [Bool.eq_false_iff.2 c9];rfl))];simp [Out.eval,fq,dw,c9]
 rw [ae (by first|(simp [c9];done)|(rw [aaa (by omega)];done)|(rw [aae (by omega)];done)|(rw [aaa (by omega)];rfl)|(rw [aae (by omega)];rfl)|(rw [c9];rfl)|(rw [Bool.eq_false_iff.2 c9];rfl))];refine (aa h).trans ?_;by_cases q:List.all ll (pj a4 iI)=true
 case neg=>rw [aap q];simp [Out.eval,fq,dw,q]
 have e:fq a1 a2 a3 a4 a9 fg iI a12 mM zu lu ll s9 wz=(cg a3 a9 fg&&(gg a1 a4 iI ll s9&&tC fg iI lu wz)):=by
  simp only [fq,dw,c1,c2,c3,c4,c5,c6,c7,c8,c9,q,decide_true,ag3,afN,Bool.and_assoc]
 rw [aaK q,e];refine (gF _).trans ?_;dsimp only;have en:=R2 iI wz fg (List.length lu) (fun b=>(((b,()),()),((),(),())));have tl:=Oj a1 iI s9 (aF a4 s9) wz fg (lr ll s9) (List.length lu) (fun b=>(((b,()),()),((),(),()))) _ en;unfold gg tC;by_cases p0:fg=0
 . have e2:cg a3 a9 fg=true:=by simp [cg,p0]
   rw [e2,afN,ae (by simp [p0])];exact tl
 . rw [ab (by simp [p0])]
   cases hx:ie ao a3 fg with
   |none=>
    have e2:cg a3 a9 fg=false:=by simp [cg,p0,hx]
    have e3:ak a3 fg= -1:=oF hx;rw [e2,e3];rfl
   |some i=>
    have hi:=AP hx;have e3:ak a3 fg=((i:Nat):Int):=oG hx;rw [e3,ab (by rw [aae (by omega)];rfl),aaH];by_cases p1:fg=a9
    . have p2:(fg==a9)=true:=by simpa using p1
      have p3:(fg==(0:Int))=false:=by simpa using p0
      have e2:cg a3 a9 fg=false:=by unfold cg;rw [p3,p2];simp
      rw [e2,ae (by rw [p2];rfl)];rfl
    . rw [ab (by simp [p1]),ab (Gu i)]
      refine (aa (x:=a3[i]) (by simp [nth,hi])).trans ?_;by_cases p2:a3[i].2.2.1=6
      . have e2:cg a3 a9 fg=false:=by simp [cg,p0,hx,hi,p2]
        rw [e2,ab (by simp [p2])];rfl
      . have e2:cg a3 a9 fg=true:=by simp [cg,p0,p1,hx,hi,p2]
        rw [e2,afN,ae (by simp [p2])];exact tl
end
section
open Go Go.ChangeShapes Go.WideShapes Go.ChangeAt Go.RowKit
theorem Dd {β:Type} (kind target off:Int) (cO:List mL) (files:List gn) (r:Bool→β):
  (Out.ite (kind==(1:Int)) (.ite ((target==(0:Int))==true) (.ret (r (off==(0:Int)))) (.ret (r false)))
   (.ite (kind==(2:Int)) (.ite ((decide (bt files target≥(0:Int)))==true) (.ite (decide (0≤bt files target)) (.get (nth files (Int.toNat (bt files target))) fun y2=> .ret (r (dC off (0:Int) ((List.length y2.2.1:Nat):Int)))) .fail) (.ret (r false)))
    (.ite (kind==(3:Int)) (.ite ((decide (bp cO target≥(0:Int)))==true) (.ret (r (off==(0:Int)))) (.ret (r false)))
     (.ite (kind==(4:Int)) (.ite ((decide (bp cO target≥(0:Int)))==true) (.ret (r (off==(0:Int)))) (.ret (r false))) (.ret (r false)))))).eval=some (r (qW cO files kind target off)):=by
 unfold qW;simp only [Out.eval,cond_eq_ite];by_cases h1:kind=1
 . by_cases h:target=0
   . simp [h1,h]
   . have:(target==(0:Int))=false:=by simpa using h
     simp [h1,this]
 by_cases h2:kind=2
 . cases hx:ie aV files target with
   |none=>
    have e3:bt files target= -1:=oF hx;simp [h2,e3]
   |some i=>
    have hi:=AP hx;have e3:bt files target=((i:Nat):Int):=oG hx;simp [h2,e3,nth,hi]
 by_cases h3:kind=3
 . by_cases h:0≤bp cO target<;>simp [h3,h]
 by_cases h4:kind=4
 . by_cases h:0≤bp cO target<;>simp [h4,h]
 simp [h1,h2,h3,h4]
abbrev MF:=(Int×Int×Int×Unit)×(bw×ah×Unit)
def vv:MF→Out (Round MF ((Int×Int×Unit)×(bw×ah×Unit)) Empty)
|((p0,p1,p2,_),(p3,p4,p5,p6,p7,p8,p9,cz,cE,_),(dp,dh,du,cP,dG,_),_)=>
 .ite (decide (0≤p1))
 (.get (nth p6 (Int.toNat p1)) fun y1=>
 .ite (decide (p2<((List.length y1.2.2.2.2.2.2.1:Nat):Int)))
 (.ite (decide (0≤p1))
 (.get (nth p6 (Int.toNat p1)) fun y2=>
 .ite (decide (0≤p2))
 (.get (nth y2.2.2.2.2.2.2.1 (Int.toNat p2)) fun y3=>
 .ite ((y3==dp))
 (.ret (.again (((IntKind.i64.wrap (p0+(1:Int))),p1,(IntKind.i64.wrap (p2+(1:Int))),()),((p3,p4,p5,p6,p7,p8,p9,cz,cE,()),(dp,dh,du,cP,dG,()),()))))
 (.ret (.again ((p0,p1,(IntKind.i64.wrap (p2+(1:Int))),()),((p3,p4,p5,p6,p7,p8,p9,cz,cE,()),(dp,dh,du,cP,dG,()),())))))
 .fail)
 .fail)
 (.ret (.out ((p0,p1,()),((p3,p4,p5,p6,p7,p8,p9,cz,cE,()),(dp,dh,du,cP,dG,()),())))))
 .fail
abbrev MG:=(Int×Int×Unit)×(bw×ah×Unit)
def vz:MG→Out (Round MG ((Int×Unit)×(bw×ah×Unit)) Empty)
|((p0,p1,_),(p2,p3,p4,p5,p6,p7,p8,p9,cz,_),(cE,dp,dh,du,cP,_),_)=>
 .ite (decide (p1<((List.length p5:Nat):Int)))
 (.get (b5 vv bn ((p0,p1,(0:Int),()),((p2,p3,p4,p5,p6,p7,p8,p9,cz,()),(cE,dp,dh,du,cP,()),()))) fun y1=>
 .ret (.again ((y1.1.1,(IntKind.i64.wrap (y1.1.2.1+(1:Int))),()),((y1.2.1.1,y1.2.1.2.1,y1.2.1.2.2.1,y1.2.1.2.2.2.1,y1.2.1.2.2.2.2.1,y1.2.1.2.2.2.2.2.1,y1.2.1.2.2.2.2.2.2.1,y1.2.1.2.2.2.2.2.2.2.1,y1.2.1.2.2.2.2.2.2.2.2.1,()),(y1.2.2.1.1,y1.2.2.1.2.1,y1.2.2.1.2.2.1,y1.2.2.1.2.2.2.1,y1.2.2.1.2.2.2.2.1,()),()))))
 (.ret (.out ((p0,()),((p2,p3,p4,p5,p6,p7,p8,p9,cz,()),(cE,dp,dh,du,cP,()),()))))
def se (a0:Int) (a1:Int) (a2:List (List aw)) (a3:List af) (a4:List ah) (a5:List ag) (a6:List ag) (a7:List Int) (a8:List Int) (a9:Int) (fg:Int) (iI:Int) (a12:Int) (mM:Int):Out (((Bool×Unit)×Unit)×XI):=
 .get (b5 vz bn (((0:Int),(0:Int),()),((a0,a1,a2,a3,a4,a5,a6,a7,a8,()),(a9,fg,iI,a12,mM,()),()))) fun y1=>
 .ite (((y1.1.1==(0:Int)))==false)
 (.ite (((y1.2.2.1.2.2.2.2.1 != y1.1.1))==false)
 (.ite (!(dC y1.2.2.1.1 (0:Int) (7:Int)))
 (.ret (((false,()),()),((),(),())))
 (.ite ((y1.2.2.1.2.1==(1:Int)))
 (.ite (((y1.2.2.1.2.2.1==(0:Int)))==true)
 (.ret (((((y1.2.2.1.2.2.2.1==(0:Int))),()),()),((),(),())))
 (.ret (((false,()),()),((),(),()))))
 (.ite ((y1.2.2.1.2.1==(2:Int)))
 (.ite ((decide ((bt y1.2.1.2.2.2.2.2.2.1 y1.2.2.1.2.2.1)≥(0:Int)))==true)
 (.ite (decide (0≤(bt y1.2.1.2.2.2.2.2.2.1 y1.2.2.1.2.2.1)))
 (.get (nth y1.2.1.2.2.2.2.2.2.1 (Int.toNat (bt y1.2.1.2.2.2.2.2.2.1 y1.2.2.1.2.2.1))) fun y2=>
 .ret ((((dC y1.2.2.1.2.2.2.1 (0:Int) ((List.length y2.2.1:Nat):Int)),()),()),((),(),())))
 .fail)
 (.ret (((false,()),()),((),(),()))))
 (.ite ((y1.2.2.1.2.1==(3:Int)))
 (.ite ((decide ((bp y1.2.1.2.2.2.2.2.1 y1.2.2.1.2.2.1)≥(0:Int)))==true)
 (.ret (((((y1.2.2.1.2.2.2.1==(0:Int))),()),()),((),(),())))
 (.ret (((false,()),()),((),(),()))))
 (.ite ((y1.2.2.1.2.1==(4:Int)))
 (.ite ((decide ((bp y1.2.1.2.2.2.2.2.1 y1.2.2.1.2.2.1)≥(0:Int)))==true)
 (.ret (((((y1.2.2.1.2.2.2.1==(0:Int))),()),()),((),(),())))
 (.ret (((false,()),()),((),(),()))))
 (.ret (((false,()),()),((),(),()))))))))
 (.ret (((false,()),()),((),(),()))))
 (.ret (((false,()),()),((),(),())))
abbrev zv:List (Nat×dT):=[(64000000, .var [.i .i64, .i .i64, .ro (.sl b8) (some 0), .ro jr (some 1), .ro cH (some 2), .ro ck (some 3), .ro ck (some 4), .ro (.int .i64) (some 5), .ro (.int .i64) (some 6)]),(64000001, .var [.i .i64, .i .i64, .i .i64, .i .i64, .i .i64])]
def aem:Nat→Option aq:=fun n=>bU [(0,⟨⟨[.dead, .dead, .vptr 64000000 0, .vptr 64000001 0, .dead, .i .i64, .i .i64]++dd 94,zv⟩,⟨[.dead, .dead, .vptr 64000000 0, .vptr 64000001 0, .dead, .i .i64]++dd 95,zv⟩,none,false⟩),(2,⟨⟨[.dead, .dead, .vptr 64000000 0, .vptr 64000001 0, .dead, .i .i64, .i .i64, .i .i64]++dd 93,zv⟩,⟨[.dead, .dead, .vptr 64000000 0, .vptr 64000001 0, .dead, .i .i64, .i .i64]++dd 94,zv⟩,none,false⟩)] n
def Hz:bM:={ f:=224,lend:=true,aK:=[⟨false,true,[.i .i64, .i .i64, .ro (.sl b8), .ro jr, .ro cH, .ro ck, .ro ck, .ro (.int .i64), .ro (.int .i64)]⟩,⟨false,true,[.i .i64, .i .i64, .i .i64, .i .i64, .i .i64]⟩],lay:=[none,none],rs:=[⟨false,false,[.b]⟩],F:=fun x=> .ret ((((gC x.1.2.2.2.1 x.1.2.2.2.2.2.1 x.1.2.2.2.2.2.2.1 x.2.1.1 x.2.1.2.1 x.2.1.2.2.1 x.2.1.2.2.2.1 x.2.1.2.2.2.2.1),()),()),((),(),())) }
theorem Xx (x:az Hz.aK):bo [wO,yB,yA] aem Tryz.f224 Hz [.tmp 4] x=se x.1.1 x.1.2.1 x.1.2.2.1 x.1.2.2.2.1 x.1.2.2.2.2.1 x.1.2.2.2.2.2.1 x.1.2.2.2.2.2.2.1 x.1.2.2.2.2.2.2.2.1 x.1.2.2.2.2.2.2.2.2.1 x.2.1.1 x.2.1.2.1 x.2.1.2.2.1 x.2.1.2.2.2.1 x.2.1.2.2.2.2.1:=by kernel_rfl
theorem Xy (hr:∀ x:bw×ah×Unit,aD Hz.aK x→(se x.1.1 x.1.2.1 x.1.2.2.1 x.1.2.2.2.1 x.1.2.2.2.2.1 x.1.2.2.2.2.2.1 x.1.2.2.2.2.2.2.1 x.1.2.2.2.2.2.2.2.1 x.1.2.2.2.2.2.2.2.2.1 x.2.1.1 x.2.1.2.1 x.2.1.2.2.1 x.2.1.2.2.2.1 x.2.1.2.2.2.2.1).eval=(Hz.F x).eval):Hz.Ok Tryz.prog:=aU [wO,yB,yA] ⟨kc,uK,uI,trivial⟩ Xx fun x hw _ hy=>(hr x hw).trans hy
theorem Xz:Hz.Ok Tryz.prog:=by
 refine Xy fun x hw=> ?_;obtain ⟨⟨a0,a1,a2,a3,a4,a5,a6,a7,a8,_⟩,⟨a9,fg,iI,a12,mM,_⟩,_⟩:=x;have l2:List.length a2≤aS:=hw.1.1.1;have l3:List.length a3≤aS:=hw.1.2.1.1;have l4:List.length a4≤aS:=hw.1.2.2.1.1;have l5:List.length a5≤aS:=hw.1.2.2.2.1.1;have l6:List.length a6≤aS:=hw.1.2.2.2.2.1.1;have l7:List.length a7≤aS:=hw.1.2.2.2.2.2.1.1;have l8:List.length a8≤aS:=hw.1.2.2.2.2.2.2.1.1;show (se a0 a1 a2 a3 a4 a5 a6 a7 a8 a9 fg iI a12 mM).eval=some ((((gC a3 a5 a6 a9 fg iI a12 mM),()),()),((),(),()));unfold se;have inner:∀ (n:Int) (j:Nat) (hj:j<List.length a3),b5 vv bn ((n,((j:Nat):Int),(0:Int),()),((a0,a1,a2,a3,a4,a5,a6,a7,a8,()),(a9,fg,iI,a12,mM,()),()))=
   some ((List.foldl (fun n f=>pQ f a9 n) n a3[j].2.2.2.2.2.2.1,((j:Nat):Int),()),((a0,a1,a2,a3,a4,a5,a6,a7,a8,()),(a9,fg,iI,a12,mM,()),())):=fun n j hj=>by
  have lj:List.length a3[j].2.2.2.2.2.2.1≤aS:=(hw.1.2.1.2 j a3[j] (aaf hj)).2.2.2.2.2.2.1.1;exact foldl_loop (f:=vv) (fun _ _=>True) (fun n f=>pQ f a9 n) a3[j].2.2.2.2.2.2.1 (fun d i=>((d,((j:Nat):Int),((i:Nat):Int),()),((a0,a1,a2,a3,a4,a5,a6,a7,a8,()),(a9,fg,iI,a12,mM,()),())))
   (fun d=>((d,((j:Nat):Int),()),((a0,a1,a2,a3,a4,a5,a6,a7,a8,()),(a9,fg,iI,a12,mM,()),())))
   (fun i hi d _=>by
    have h1:=ar (i:=i) (by omega);by_cases q:a3[j].2.2.2.2.2.2.1[i]=a9<;>simp [vv,Out.eval,hj,hi,h1,pQ,cond_eq_ite,q])
   (fun d _=>by simp [vv,Out.eval,hj]) (fun _ _ _ _=>trivial) lj n trivial
 have h:b5 vz bn (((0:Int),(0:Int),()),((a0,a1,a2,a3,a4,a5,a6,a7,a8,()),(a9,fg,iI,a12,mM,()),()))=some (((List.foldl (fun (n:Int) (p:af)=>p.2.2.2.2.2.2.1.foldl (fun n f=>pQ f a9 n) n) (0:Int) a3),()),((a0,a1,a2,a3,a4,a5,a6,a7,a8,()),(a9,fg,iI,a12,mM,()),())):=foldl_loop (f:=vz) (fun _ _=>True) (fun (n:Int) (p:af)=>p.2.2.2.2.2.2.1.foldl (fun n f=>pQ f a9 n) n) a3 (fun d i=>((d,((i:Nat):Int),()),((a0,a1,a2,a3,a4,a5,a6,a7,a8,()),(a9,fg,iI,a12,mM,()),()))) (fun d=>((d,()),((a0,a1,a2,a3,a4,a5,a6,a7,a8,()),(a9,fg,iI,a12,mM,()),())))
  (fun i hi d _=>by
   have h1:=ar (i:=i) (by omega);simp [vz,Out.eval,hi,h1,inner d i hi])
  (fun d _=>by simp [vz,Out.eval]) (fun _ _ _ _=>trivial) l3 (0:Int) trivial
 refine (aa h).trans ?_;have er:List.foldl (fun (n:Int) (p:af)=>p.2.2.2.2.2.2.1.foldl (fun n f=>pQ f a9 n) n) 0 a3=pR a3 a9:=rfl;rw [er];dsimp only;unfold gC;generalize pR a3 a9=r;by_cases c1:r=0
 . rw [ae (by simp [c1])];simp [Out.eval,c1]
 rw [ab (by simp [c1])];by_cases c2:mM=r
 case neg=>rw [ae (by simp [c2])];simp [Out.eval,c2]
 rw [ab (by simp [c2])];by_cases c3:dC a9 0 7=true
 case neg=>rw [ab (by simp [c3])];simp [Out.eval,c3]
 rw [ae (by simp [c3])];refine (Dd fg iI a12 a5 a6 (fun b=>(((b,()),()),((),(),())))).trans ?_;simp [c1,c2,c3]
abbrev MH:=aw×(bw×Unit)
def vA:MH→Out (Round MH ((Int×Unit)×(Unit)) Empty)
|((p0,p1,p2,p3,_),(p4,p5,p6,p7,p8,p9,cz,cE,dp,_),_)=>
 .ite (decide (p3<((List.length p8:Nat):Int)))
 (.ite (decide (0≤p3))
 (.get (nth p8 (Int.toNat p3)) fun y1=>
 .ite (((y1.2.1==p1))==true)
 (.ite (decide (0≤p3))
 (.get (nth p8 (Int.toNat p3)) fun y2=>
 .ite ((y2.2.2.1==p0))
 (.ret (.again ((p0,p1,(IntKind.i64.wrap (p2+(1:Int))),(IntKind.i64.wrap (p3+(1:Int))),()),((p4,p5,p6,p7,p8,p9,cz,cE,dp,()),()))))
 (.ret (.again ((p0,p1,p2,(IntKind.i64.wrap (p3+(1:Int))),()),((p4,p5,p6,p7,p8,p9,cz,cE,dp,()),())))))
 .fail)
 (.ret (.again ((p0,p1,p2,(IntKind.i64.wrap (p3+(1:Int))),()),((p4,p5,p6,p7,p8,p9,cz,cE,dp,()),())))))
 .fail)
 (.ret (.out ((p2,()),())))
def sg (a0:Int) (a1:Int) (a2:List (List aw)) (a3:List af) (a4:List ah) (a5:List ag) (a6:List ag) (a7:List Int) (a8:List Int) (a9:Int) (fg:Int):Out (((Int×Unit)×Unit)×(Unit×XI)):=
 .get (b5 vA bn ((a9,fg,(0:Int),(0:Int),()),((a0,a1,a2,a3,a4,a5,a6,a7,a8,()),()))) fun y1=>
 .ret (((y1.1.1,()),()),((),(),(),()))
abbrev sh:List (Nat×dT):=[(64000000, .var [.i .i64, .i .i64, .ro (.sl b8) (some 0), .ro jr (some 1), .ro cH (some 2), .ro ck (some 3), .ro ck (some 4), .ro (.int .i64) (some 5), .ro (.int .i64) (some 6)])]
def aen:Nat→Option aq:=fun n=>bU [(0,⟨⟨[.dead, .i .i64, .i .i64, .vptr 64000000 0, .dead, .dead, .dead, .i .i64, .i .i64]++dd 28,sh⟩,⟨dd 7++[.i .i64]++dd 29,[]⟩,none,false⟩)] n
def yz:bM:={ f:=225,lend:=true,aK:=[⟨false,true,[.i .i64, .i .i64, .ro (.sl b8), .ro jr, .ro cH, .ro ck, .ro ck, .ro (.int .i64), .ro (.int .i64)]⟩,⟨false,false,[.i .i64]⟩,⟨false,false,[.i .i64]⟩],lay:=[none,none,none],rs:=[⟨false,false,[.i .i64]⟩],F:=fun x=> .ret ((((ix x.1.2.2.2.2.1 x.2.1.1 x.2.2.1.1),()),()),((),(),(),())) }
theorem XA (x:az yz.aK):bo [] aen Tryz.f225 yz [.tmp 6] x=sg x.1.1 x.1.2.1 x.1.2.2.1 x.1.2.2.2.1 x.1.2.2.2.2.1 x.1.2.2.2.2.2.1 x.1.2.2.2.2.2.2.1 x.1.2.2.2.2.2.2.2.1 x.1.2.2.2.2.2.2.2.2.1 x.2.1.1 x.2.2.1.1:=by kernel_rfl
theorem XB (hr:∀ x:bw×(Int×Unit)×(Int×Unit)×Unit,aD yz.aK x→(sg x.1.1 x.1.2.1 x.1.2.2.1 x.1.2.2.2.1 x.1.2.2.2.2.1 x.1.2.2.2.2.2.1 x.1.2.2.2.2.2.2.1 x.1.2.2.2.2.2.2.2.1 x.1.2.2.2.2.2.2.2.2.1 x.2.1.1 x.2.2.1.1).eval=(yz.F x).eval):yz.Ok Tryz.prog:=aU [] trivial XA fun x hw _ hy=>(hr x hw).trans hy
theorem uG:yz.Ok Tryz.prog:=by
 refine XB fun x hw=> ?_;obtain ⟨⟨a0,a1,a2,a3,a4,a5,a6,a7,a8,_⟩,⟨a9,_⟩,⟨fg,_⟩,_⟩:=x;have l2:List.length a2≤aS:=hw.1.1.1;have l3:List.length a3≤aS:=hw.1.2.1.1;have l4:List.length a4≤aS:=hw.1.2.2.1.1;have l5:List.length a5≤aS:=hw.1.2.2.2.1.1;have l6:List.length a6≤aS:=hw.1.2.2.2.2.1.1;have l7:List.length a7≤aS:=hw.1.2.2.2.2.2.1.1;have l8:List.length a8≤aS:=hw.1.2.2.2.2.2.2.1.1;show (sg a0 a1 a2 a3 a4 a5 a6 a7 a8 a9 fg).eval=some ((((ix a4 a9 fg),()),()),((),(),(),()));unfold sg ix;have h:b5 vA bn ((a9,fg,(0:Int),(0:Int),()),((a0,a1,a2,a3,a4,a5,a6,a7,a8,()),()))=some (((List.foldl (fun (n:Int) (o:ah)=>if m0 fg a9 o=true then IntKind.i64.wrap (n+1) else n) (0:Int) a4),()),()):=foldl_loop (f:=vA) (fun _ _=>True) (fun (n:Int) (o:ah)=>if m0 fg a9 o=true then IntKind.i64.wrap (n+1) else n) a4 (fun d i=>((a9,fg,d,((i:Nat):Int),()),((a0,a1,a2,a3,a4,a5,a6,a7,a8,()),()))) (fun d=>((d,()),()))
  (fun i hi d _=>by
   have h1:=ar (i:=i) (by omega);by_cases q:a4[i].2.1=fg<;>by_cases q2:a4[i].2.2.1=a9<;>simp [m0,vA,Out.eval,hi,h1,cond_eq_ite,q,q2])
  (fun d _=>by simp [vA,Out.eval]) (fun _ _ _ _=>trivial) l4 (0:Int) trivial
 exact aa h
abbrev MI:=(Int×Unit)×(bw×Unit)
def si:MI→Out (Round MI ((Unit)×(bw×Unit)) ((Bool×Unit)×(Unit)))
|((p0,_),(p1,p2,p3,p4,p5,p6,p7,p8,p9,_),_)=>
 .ite (decide (p0<((List.length p5:Nat):Int)))
 (.ite (decide (0≤p0))
 (.get (nth p5 (Int.toNat p0)) fun y1=>
 .ite ((!(gC p4 p6 p7 y1.1 y1.2.1 y1.2.2.1 y1.2.2.2.1 y1.2.2.2.2.1))==false)
 (.ite ((decide (p0>(0:Int)))==true)
 (.ite (decide (0≤(IntKind.i64.wrap (p0 - (1:Int)))))
 (.get (nth p5 (Int.toNat (IntKind.i64.wrap (p0 - (1:Int))))) fun y2=>
 .ite (decide (0≤p0))
 (.get (nth p5 (Int.toNat p0)) fun y3=>
 .ite (decide (y2.1≥y3.1))
 (.ret (.ret ((false,()),())))
 (.ret (.again (((IntKind.i64.wrap (p0+(1:Int))),()),((p1,p2,p3,p4,p5,p6,p7,p8,p9,()),())))))
 .fail)
 .fail)
 (.ret (.again (((IntKind.i64.wrap (p0+(1:Int))),()),((p1,p2,p3,p4,p5,p6,p7,p8,p9,()),())))))
 (.ret (.ret ((false,()),()))))
 .fail)
 (.ret (.out ((),((p1,p2,p3,p4,p5,p6,p7,p8,p9,()),()))))
abbrev MJ:=(Int×Unit)×(bw×Unit)
def sj:MJ→Out (Round MJ ((Unit)×(bw×Unit)) ((Bool×Unit)×(Unit)))
|((p0,_),(p1,p2,p3,p4,p5,p6,p7,p8,p9,_),_)=>
 .ite (decide (p0<((List.length p6:Nat):Int)))
 (.ite (decide (0≤p0))
 (.get (nth p6 (Int.toNat p0)) fun y1=>
 .ite ((!(dC y1.1 (0:Int) (2:Int)))==false)
 (.ite ((decide (((List.length y1.2.1:Nat):Int)>(4:Int)))==false)
 (.ite ((!(aG y1.2.1))==false)
 (.ite ((decide (p0>(0:Int)))==true)
 (.ite (decide (0≤(IntKind.i64.wrap (p0 - (1:Int)))))
 (.get (nth p6 (Int.toNat (IntKind.i64.wrap (p0 - (1:Int))))) fun y2=>
 .ite ((decide (y2.1≥y1.1))==false)
 (.ite (((IntKind.i64.wrap ((ix p5 y1.1 (3:Int))+(ix p5 y1.1 (4:Int))))==(0:Int)))
 (.ret (.ret ((false,()),())))
 (.ret (.again (((IntKind.i64.wrap (p0+(1:Int))),()),((p1,p2,p3,p4,p5,p6,p7,p8,p9,()),())))))
 (.ret (.ret ((false,()),()))))
 .fail)
 (.ite (((IntKind.i64.wrap ((ix p5 y1.1 (3:Int))+(ix p5 y1.1 (4:Int))))==(0:Int)))
 (.ret (.ret ((false,()),())))
 (.ret (.again (((IntKind.i64.wrap (p0+(1:Int))),()),((p1,p2,p3,p4,p5,p6,p7,p8,p9,()),()))))))
 (.ret (.ret ((false,()),()))))
 (.ret (.ret ((false,()),()))))
 (.ret (.ret ((false,()),()))))
 .fail)
 (.ret (.out ((),((p1,p2,p3,p4,p5,p6,p7,p8,p9,()),()))))
abbrev MK:=(Int×Unit)×(bw×Unit)
def sk:MK→Out (Round MK ((Unit)×(Unit)) ((Bool×Unit)×(Unit)))
|((p0,_),(p1,p2,p3,p4,p5,p6,p7,p8,p9,_),_)=>
 .ite (decide (p0<((List.length p7:Nat):Int)))
 (.ite (decide (0≤p0))
 (.get (nth p7 (Int.toNat p0)) fun y1=>
 .ite ((!(dC y1.1 (0:Int) (5:Int)))==false)
 (.ite ((decide (((List.length y1.2.1:Nat):Int)>(8:Int)))==false)
 (.ite ((!(aG y1.2.1))==false)
 (.ite ((decide (p0>(0:Int)))==true)
 (.ite (decide (0≤(IntKind.i64.wrap (p0 - (1:Int)))))
 (.get (nth p7 (Int.toNat (IntKind.i64.wrap (p0 - (1:Int))))) fun y2=>
 .ite (decide (y2.1≥y1.1))
 (.ret (.ret ((false,()),())))
 (.ret (.again (((IntKind.i64.wrap (p0+(1:Int))),()),((p1,p2,p3,p4,p5,p6,p7,p8,p9,()),())))))
 .fail)
 (.ret (.again (((IntKind.i64.wrap (p0+(1:Int))),()),((p1,p2,p3,p4,p5,p6,p7,p8,p9,()),())))))
 (.ret (.ret ((false,()),()))))
 (.ret (.ret ((false,()),()))))
 (.ret (.ret ((false,()),()))))
 .fail)
 (.ret (.out ((),())))
def sm (a0:Int) (a1:Int) (a2:List (List aw)) (a3:List af) (a4:List ah) (a5:List ag) (a6:List ag) (a7:List Int) (a8:List Int):Out (((Bool×Unit)×Unit)×(Unit×Unit)):=
 .ite ((decide (((List.length a4:Nat):Int)>(8:Int)))==false)
 (.ite ((decide (((List.length a5:Nat):Int)>(3:Int)))==false)
 (.ite (decide (((List.length a6:Nat):Int)>(6:Int)))
 (.ret (((false,()),()),((),())))
 (.get (iter si bn (((0:Int),()),((a0,a1,a2,a3,a4,a5,a6,a7,a8,()),()))) fun y1=> .alt y1 (fun y2=>
 .get (iter sj bn (((0:Int),()),((y2.2.1.1,y2.2.1.2.1,y2.2.1.2.2.1,y2.2.1.2.2.2.1,y2.2.1.2.2.2.2.1,y2.2.1.2.2.2.2.2.1,y2.2.1.2.2.2.2.2.2.1,y2.2.1.2.2.2.2.2.2.2.1,y2.2.1.2.2.2.2.2.2.2.2.1,()),()))) fun y4=> .alt y4 (fun y5=>
 .get (iter sk bn (((0:Int),()),((y5.2.1.1,y5.2.1.2.1,y5.2.1.2.2.1,y5.2.1.2.2.2.1,y5.2.1.2.2.2.2.1,y5.2.1.2.2.2.2.2.1,y5.2.1.2.2.2.2.2.2.1,y5.2.1.2.2.2.2.2.2.2.1,y5.2.1.2.2.2.2.2.2.2.2.1,()),()))) fun y7=> .alt y7 (fun _=>
 .ret (((true,()),()),((),()))) (fun y9=>
 .ret (((y9.1.1,()),()),((),())))) (fun y6=>
 .ret (((y6.1.1,()),()),((),())))) (fun y3=>
 .ret (((y3.1.1,()),()),((),())))))
 (.ret (((false,()),()),((),()))))
 (.ret (((false,()),()),((),())))
def aeo:Nat→Option aq:=fun n=>bU [(0,⟨⟨[.dead, .vptr 64000000 0, .dead, .i .i64]++dd 155,sh⟩,⟨[.dead, .vptr 64000000 0]++dd 157,sh⟩,some ⟨[.dead, .dead, .b]++dd 156,[]⟩,false⟩),(2,⟨⟨[.dead, .vptr 64000000 0, .dead, .dead, .i .i64]++dd 154,sh⟩,⟨[.dead, .vptr 64000000 0]++dd 157,sh⟩,some ⟨[.dead, .dead, .b]++dd 156,[]⟩,false⟩),(4,⟨⟨[.dead, .vptr 64000000 0]++dd 4++[.i .i64]++dd 152,sh⟩,⟨dd 159,[]⟩,some ⟨[.dead, .dead, .b]++dd 156,[]⟩,false⟩)] n
def HA:bM:={ f:=138,lend:=true,aK:=[⟨false,true,[.i .i64, .i .i64, .ro (.sl b8), .ro jr, .ro cH, .ro ck, .ro ck, .ro (.int .i64), .ro (.int .i64)]⟩],lay:=[none],rs:=[⟨false,false,[.b]⟩],F:=fun x=> .ret ((((ig x.1.2.2.2.1 x.1.2.2.2.2.1 x.1.2.2.2.2.2.1 x.1.2.2.2.2.2.2.1),()),()),((),())) }
theorem XC (x:az HA.aK):bo [Hz,wO,vc,yz] aeo Tryz.f138 HA [.tmp 2] x=sm x.1.1 x.1.2.1 x.1.2.2.1 x.1.2.2.2.1 x.1.2.2.2.2.1 x.1.2.2.2.2.2.1 x.1.2.2.2.2.2.2.1 x.1.2.2.2.2.2.2.2.1 x.1.2.2.2.2.2.2.2.2.1:=by kernel_rfl
theorem XD (hr:∀ x:bw×Unit,aD HA.aK x→(sm x.1.1 x.1.2.1 x.1.2.2.1 x.1.2.2.2.1 x.1.2.2.2.2.1 x.1.2.2.2.2.2.1 x.1.2.2.2.2.2.2.1 x.1.2.2.2.2.2.2.2.1 x.1.2.2.2.2.2.2.2.2.1).eval=(HA.F x).eval):HA.Ok Tryz.prog:=aU [Hz,wO,vc,yz] ⟨Xz,kc,zr,uG,trivial⟩ XC fun x hw _ hy=>(hr x hw).trans hy
theorem XF:HA.Ok Tryz.prog:=by
 refine XD fun x hw=> ?_;obtain ⟨⟨a0,a1,a2,a3,a4,a5,a6,a7,a8,_⟩,_⟩:=x;have l2:List.length a2≤aS:=hw.1.1.1;have l3:List.length a3≤aS:=hw.1.2.1.1;have l4:List.length a4≤aS:=hw.1.2.2.1.1;have l5:List.length a5≤aS:=hw.1.2.2.2.1.1;have l6:List.length a6≤aS:=hw.1.2.2.2.2.1.1;have l7:List.length a7≤aS:=hw.1.2.2.2.2.2.1.1;have l8:List.length a8≤aS:=hw.1.2.2.2.2.2.2.1.1;show (sm a0 a1 a2 a3 a4 a5 a6 a7 a8).eval=some ((((ig a3 a4 a5 a6),()),()),((),()));unfold sm;rw [gt8,gt3,gt6];by_cases c1:List.length a4≤8
 case neg=>rw [ae (by first|(simp [c1];done)|(rw [aaa (by omega)];done)|(rw [aae (by omega)];done)|(rw [aaa (by omega)];rfl)|(rw [aae (by omega)];rfl)|(rw [c1];rfl)|(rw [Bool.eq_false_iff.2 c1];rfl))];simp [Out.eval,ig,c1]
 rw [ab (by first|(simp [c1];done)|(rw [aaa (by omega)];done)|(rw [aae (by omega)];done)|(rw [aaa (by omega)];rfl)|(rw [aae (by omega)];rfl)|(rw [c1];rfl)|(rw [Bool.eq_false_iff.2 c1];rfl))];by_cases c2:List.length a5≤3
 case neg=>rw [ae (by first|(simp [c2];done)|(rw [aaa (by omega)];done)|(rw [aae (by omega)];done)|(rw [aaa (by omega)];rfl)|(rw [aae (by omega)];rfl)|(rw [c2];rfl)|(rw [Bool.eq_false_iff.2 c2];rfl))];simp [Out.eval,ig,c2]
 rw [ab (by first|(simp [c2];done)|(rw [aaa (by omega)];done)|(rw [aae (by omega)];done)|(rw [aaa (by omega)];rfl)|(rw [aae (by omega)];rfl)|(rw [c2];rfl)|(rw [Bool.eq_false_iff.2 c2];rfl))];by_cases c3:List.length a6≤6
 case neg=>rw [ab (by first|(simp [c3];done)|(rw [aaa (by omega)];done)|(rw [aae (by omega)];done)|(rw [aaa (by omega)];rfl)|(rw [aae (by omega)];rfl)|(rw [c3];rfl)|(rw [Bool.eq_false_iff.2 c3];rfl))];simp [Out.eval,ig,c3]
 rw [ae (by first|(simp [c3];done)|(rw [aaa (by omega)];done)|(rw [aae (by omega)];done)|(rw [aaa (by omega)];rfl)|(rw [aae (by omega)];rfl)|(rw [c3];rfl)|(rw [Bool.eq_false_iff.2 c3];rfl))];have h1:iter si bn (((0:Int),()),((a0,a1,a2,a3,a4,a5,a6,a7,a8,()),()))=some (if eO al (jP a3 a5 a6) a4=true then .inl ((),((a0,a1,a2,a3,a4,a5,a6,a7,a8,()),())) else .inr ((false,()),())):=kh (f:=si) (List.length a4) (vk al (jP a3 a5 a6) a4) (fun i=>((((i:Nat):Int),()),((a0,a1,a2,a3,a4,a5,a6,a7,a8,()),()))) (y:=((),((a0,a1,a2,a3,a4,a5,a6,a7,a8,()),()))) (z:=((false,()),()))
  (fun i hi=>by
   have w1:=ar (i:=i) (by omega);cases i with
   |zero=>
    rw [iK hi];have w3:decide (((0:Nat):Int)>0)=false:=rfl
    try unfold jP
    try unfold al
    simp only [si,Out.eval,s7 hi,Gu,dH hi,adb,afL,w1,w3];cases p0:gC a3 a5 a6 a4[0].1 a4[0].2.1 a4[0].2.2.1 a4[0].2.2.2.1 a4[0].2.2.2.2.1<;>rfl
   |succ i=>
    rw [gT hi];have w2:=jB i (by omega);have w3:decide (((i+1:Nat):Int)>0)=true:=aaa (by omega)
    try unfold jP
    try unfold al
    simp only [si,Out.eval,s7 hi,dH hi,adb,afL,w1,w3,dH (show i<List.length a4 by omega),w2,qi];cases p0:gC a3 a5 a6 a4[i+1].1 a4[i+1].2.1 a4[i+1].2.2.1 a4[i+1].2.2.2.1 a4[i+1].2.2.2.2.1<;>cases p1:decide (a4[i].1<a4[i+1].1)<;>rfl)
  (by simp [si,Out.eval]) l4
 refine (aa h1).trans ?_;by_cases q1:eO al (jP a3 a5 a6) a4=true
 case neg=>rw [aap q1];simp [Out.eval,ig,q1]
 rw [aaK q1];refine (gF _).trans ?_;dsimp only;have h2:iter sj bn (((0:Int),()),((a0,a1,a2,a3,a4,a5,a6,a7,a8,()),()))=some (if eO aC (jQ a4) a5=true then .inl ((),((a0,a1,a2,a3,a4,a5,a6,a7,a8,()),())) else .inr ((false,()),())):=kh (f:=sj) (List.length a5) (vk aC (jQ a4) a5) (fun i=>((((i:Nat):Int),()),((a0,a1,a2,a3,a4,a5,a6,a7,a8,()),()))) (y:=((),((a0,a1,a2,a3,a4,a5,a6,a7,a8,()),()))) (z:=((false,()),()))
  (fun i hi=>by
   have w1:=ar (i:=i) (by omega);cases i with
   |zero=>
    rw [iK hi];have w3:decide (((0:Nat):Int)>0)=false:=rfl
    try unfold jQ
    try unfold aC
    simp only [sj,Out.eval,s7 hi,Gu,dH hi,adb,afL,w1,w3,gt4,Aa l4];cases p0:dC a5[0].1 0 2<;>cases p2:decide (List.length a5[0].2.1≤4)<;>cases p3:aG a5[0].2.1<;>cases p4:List.any a4 (eR a5[0].1)<;>rfl
   |succ i=>
    rw [gT hi];have w2:=jB i (by omega);have w3:decide (((i+1:Nat):Int)>0)=true:=aaa (by omega)
    try unfold jQ
    try unfold aC
    simp only [sj,Out.eval,s7 hi,dH hi,adb,afL,w1,w3,gt4,Aa l4,dH (show i<List.length a5 by omega),w2,qi];cases p0:dC a5[i+1].1 0 2<;>cases p1:decide (a5[i].1<a5[i+1].1)<;>cases p2:decide (List.length a5[i+1].2.1≤4)<;>cases p3:aG a5[i+1].2.1<;>cases p4:List.any a4 (eR a5[i+1].1)<;>rfl)
  (by simp [sj,Out.eval]) l5
 refine (aa h2).trans ?_;by_cases q2:eO aC (jQ a4) a5=true
 case neg=>rw [aap q2];simp [Out.eval,ig,q2]
 rw [aaK q2];refine (gF _).trans ?_;dsimp only;have h3:iter sk bn (((0:Int),()),((a0,a1,a2,a3,a4,a5,a6,a7,a8,()),()))=some (if eO aV fw a6=true then .inl ((),()) else .inr ((false,()),())):=kh (f:=sk) (List.length a6) (vk aV fw a6) (fun i=>((((i:Nat):Int),()),((a0,a1,a2,a3,a4,a5,a6,a7,a8,()),()))) (y:=((),())) (z:=((false,()),()))
  (fun i hi=>by
   have w1:=ar (i:=i) (by omega);cases i with
   |zero=>
    rw [iK hi];have w3:decide (((0:Nat):Int)>0)=false:=rfl
    try unfold fw
    try unfold aV
    simp only [sk,Out.eval,s7 hi,Gu,dH hi,adb,afL,w1,w3,gt8];cases p0:dC a6[0].1 0 5<;>cases p2:decide (List.length a6[0].2.1≤8)<;>cases p3:aG a6[0].2.1<;>rfl
   |succ i=>
    rw [gT hi];have w2:=jB i (by omega);have w3:decide (((i+1:Nat):Int)>0)=true:=aaa (by omega)
    try unfold fw
    try unfold aV
    simp only [sk,Out.eval,s7 hi,dH hi,adb,afL,w1,w3,gt8,dH (show i<List.length a6 by omega),w2,qi];cases p0:dC a6[i+1].1 0 5<;>cases p1:decide (a6[i].1<a6[i+1].1)<;>cases p2:decide (List.length a6[i+1].2.1≤8)<;>cases p3:aG a6[i+1].2.1<;>rfl)
  (by simp [sk,Out.eval]) l6
 refine (aa h3).trans ?_;by_cases q3:eO aV fw a6=true
 case neg=>rw [aap q3];simp [Out.eval,ig,q3]
 rw [aaK q3];simp [Out.eval,ig,c1,c2,c3,q1,q2,q3]
end
section
open Go Go.ChangeShapes Go.WideShapes Go.ChangeAt Go.RowKit
abbrev ML:=(Int×Int×Unit)×(bw×Unit)
def zw:ML→Out (Round ML ((Int×Unit)×(bw×Unit)) ((Bool×Unit)×(Unit)))
|((p0,p1,_),(p2,p3,p4,p5,p6,p7,p8,p9,cz,_),_)=>
 .ite (decide (p1<((List.length p5:Nat):Int)))
 (.ite (decide (0≤p1))
 (.get (nth p5 (Int.toNat p1)) fun y1=>
 .ite ((y1.2.2.1==(1:Int)))
 (.ite (decide (0≤p1))
 (.get (nth p5 (Int.toNat p1)) fun y2=>
 .ite (!(lr p9 y2.1))
 (.ret (.ret ((false,()),())))
 (.ret (.again (((IntKind.i64.wrap (p0+(1:Int))),(IntKind.i64.wrap (p1+(1:Int))),()),((p2,p3,p4,p5,p6,p7,p8,p9,cz,()),())))))
 .fail)
 (.ret (.again ((p0,(IntKind.i64.wrap (p1+(1:Int))),()),((p2,p3,p4,p5,p6,p7,p8,p9,cz,()),())))))
 .fail)
 (.ret (.out ((p0,()),((p2,p3,p4,p5,p6,p7,p8,p9,cz,()),()))))
def sn (a0:Int) (a1:Int) (a2:List (List aw)) (a3:List af) (a4:List ah) (a5:List ag) (a6:List ag) (a7:List Int) (a8:List Int):Out (((Bool×Unit)×Unit)×(Unit×Unit)):=
 .get (iter zw bn (((0:Int),(0:Int),()),((a0,a1,a2,a3,a4,a5,a6,a7,a8,()),()))) fun y1=> .alt y1 (fun y2=>
 .ret (((((y2.1.1==((List.length y2.2.1.2.2.2.2.2.2.2.1:Nat):Int))),()),()),((),()))) (fun y3=>
 .ret (((y3.1.1,()),()),((),())))
abbrev zx:List (Nat×dT):=[(64000000, .var [.i .i64, .i .i64, .ro (.sl b8) (some 0), .ro jr (some 1), .ro cH (some 2), .ro ck (some 3), .ro ck (some 4), .ro (.int .i64) (some 5), .ro (.int .i64) (some 6)])]
def aep:Nat→Option aq:=fun n=>bU [(0,⟨⟨[.dead, .vptr 64000000 0, .dead, .i .i64, .i .i64]++dd 31,zx⟩,⟨[.dead, .vptr 64000000 0, .dead, .i .i64]++dd 32,zx⟩,some ⟨[.dead, .dead, .b]++dd 33,[]⟩,false⟩)] n
def AQ (rd:List Int) (n:Int) (p:af):Option Int:=if p.2.2.1=1 then (if lr rd p.1=true then some (IntKind.i64.wrap (n+1)) else none) else some n
theorem qn (rd:List Int):∀ (ps:List af) (n:Nat),n+ps.length≤9223372036854775807→
  AM (AQ rd) ((n:Nat):Int) ps=if (aL ps).all (lr rd)=true then some ((n+(aL ps).length:Nat):Int) else none
 |[],n,_=>by simp [AM,aL]
 |p::r,n,h=>by
  rw [aai] at h;simp only [AM];by_cases hp:p.2.2.1=1
  . have e:aL (p::r)=p.1::aL r:=by simp [aL,jR,hp,ao]
    have eg:AQ rd ((n:Nat):Int) p=if lr rd p.1=true then some (IntKind.i64.wrap (((n:Nat):Int)+1)) else none:=aaK hp
    rw [eg,e,acY,aai];by_cases hh:lr rd p.1=true
    . rw [aaK hh,hh,afN]
      have ih:=qn rd r (n+1) (by omega);rw [jO (by omega) (by omega),show ((n:Nat):Int)+1=((n+1:Nat):Int) by omega];simp only;rw [ih];congr 2;omega
    . rw [aap hh,Bool.eq_false_iff.2 hh,Bool.false_and,aap (by decide)]
  . have e:aL (p::r)=aL r:=by simp [aL,jR,hp]
    have eg:AQ rd ((n:Nat):Int) p=some ((n:Nat):Int):=aap hp;rw [eg,e];simp only;exact qn rd r n (by omega)
def HB:bM:={ f:=139,lend:=true,aK:=[⟨false,true,[.i .i64, .i .i64, .ro (.sl b8), .ro jr, .ro cH, .ro ck, .ro ck, .ro (.int .i64), .ro (.int .i64)]⟩],lay:=[none],rs:=[⟨false,false,[.b]⟩],F:=fun x=> .ret ((((m2 x.1.2.2.2.1 x.1.2.2.2.2.2.2.2.1),()),()),((),())) }
theorem XG (x:az HB.aK):bo [B9] aep Tryz.f139 HB [.tmp 2] x=sn x.1.1 x.1.2.1 x.1.2.2.1 x.1.2.2.2.1 x.1.2.2.2.2.1 x.1.2.2.2.2.2.1 x.1.2.2.2.2.2.2.1 x.1.2.2.2.2.2.2.2.1 x.1.2.2.2.2.2.2.2.2.1:=by kernel_rfl
theorem XH (hr:∀ x:bw×Unit,aD HB.aK x→(sn x.1.1 x.1.2.1 x.1.2.2.1 x.1.2.2.2.1 x.1.2.2.2.2.1 x.1.2.2.2.2.2.1 x.1.2.2.2.2.2.2.1 x.1.2.2.2.2.2.2.2.1 x.1.2.2.2.2.2.2.2.2.1).eval=(HB.F x).eval):HB.Ok Tryz.prog:=aU [B9] ⟨My,trivial⟩ XG fun x hw _ hy=>(hr x hw).trans hy
theorem XJ:HB.Ok Tryz.prog:=by
 refine XH fun x hw=> ?_;obtain ⟨⟨a0,a1,a2,a3,a4,a5,a6,a7,a8,_⟩,_⟩:=x;have l2:List.length a2≤aS:=hw.1.1.1;have l3:List.length a3≤aS:=hw.1.2.1.1;have l4:List.length a4≤aS:=hw.1.2.2.1.1;have l5:List.length a5≤aS:=hw.1.2.2.2.1.1;have l6:List.length a6≤aS:=hw.1.2.2.2.2.1.1;have l7:List.length a7≤aS:=hw.1.2.2.2.2.2.1.1;have l8:List.length a8≤aS:=hw.1.2.2.2.2.2.2.1.1;show (sn a0 a1 a2 a3 a4 a5 a6 a7 a8).eval=some ((((m2 a3 a7),()),()),((),()));unfold sn m2;have h:=Og (f:=zw) a3 (AQ a7) (fun _ _=>True) (fun d i=>((d,((i:Nat):Int),()),((a0,a1,a2,a3,a4,a5,a6,a7,a8,()),()))) (fun d=>((d,()),((a0,a1,a2,a3,a4,a5,a6,a7,a8,()),()))) ((false,()),())
  (fun _ _ _ _ _ _=>trivial)
  (fun i hi d _=>by
   have h1:=ar (i:=i) (by omega);unfold AQ;by_cases q:a3[i].2.2.1=1<;>cases q2:lr a7 a3[i].1<;>simp [zw,Out.eval,hi,h1,cond_eq_ite,q,q2])
  (fun d _=>by simp [zw,Out.eval]) l3 (d:=0) trivial
 have e:=qn a7 a3 0 (by have:List.length a3≤9223372036854775807:=l3;omega);rw [show (((0:Nat):Int))=0 from rfl] at e;rw [e] at h;refine (aa h).trans ?_;by_cases q:List.all (aL a3) (lr a7)=true
 . rw [aaK q,q,ada,afN]
   refine (gF _).trans ?_;have e2:(((List.length (aL a3):Nat):Int)==((List.length a7:Nat):Int))=decide (List.length (aL a3)=List.length a7):=by rw [acK];simp;omega
   dsimp only;rw [e2];rfl
 . rw [aap q,Bool.eq_false_iff.2 q];rfl
abbrev R3:=(Int×Unit)×(bw×Unit)
def xo:R3→Out (Round R3 ((Unit)×(bw×Unit)) ((Bool×Unit)×(Unit)))
|((p0,_),(p1,p2,p3,p4,p5,p6,p7,p8,p9,_),_)=>
 .ite (decide (p0<((List.length p4:Nat):Int)))
 (.ite (decide (0≤p0))
 (.get (nth p4 (Int.toNat p0)) fun y1=>
 .ite ((!(dC y1.1 (1:Int) (IntKind.i64.wrap (p1 - (1:Int)))))==false)
 (.ite ((decide (p0>(0:Int)))==true)
 (.ite (decide (0≤(IntKind.i64.wrap (p0 - (1:Int)))))
 (.get (nth p4 (Int.toNat (IntKind.i64.wrap (p0 - (1:Int))))) fun y2=>
 .ite ((decide (y2.1≥y1.1))==false)
 (.ite (!(fq p2 p3 p4 p5 y1.1 y1.2.1 y1.2.2.1 y1.2.2.2.1 y1.2.2.2.2.1.1 y1.2.2.2.2.1.2.1 y1.2.2.2.2.2.1 y1.2.2.2.2.2.2.1 y1.2.2.2.2.2.2.2.1 y1.2.2.2.2.2.2.2.2.1))
 (.ret (.ret ((false,()),())))
 (.ret (.again (((IntKind.i64.wrap (p0+(1:Int))),()),((p1,p2,p3,p4,p5,p6,p7,p8,p9,()),())))))
 (.ret (.ret ((false,()),()))))
 .fail)
 (.ite (!(fq p2 p3 p4 p5 y1.1 y1.2.1 y1.2.2.1 y1.2.2.2.1 y1.2.2.2.2.1.1 y1.2.2.2.2.1.2.1 y1.2.2.2.2.2.1 y1.2.2.2.2.2.2.1 y1.2.2.2.2.2.2.2.1 y1.2.2.2.2.2.2.2.2.1))
 (.ret (.ret ((false,()),())))
 (.ret (.again (((IntKind.i64.wrap (p0+(1:Int))),()),((p1,p2,p3,p4,p5,p6,p7,p8,p9,()),()))))))
 (.ret (.ret ((false,()),()))))
 .fail)
 (.ret (.out ((),((p1,p2,p3,p4,p5,p6,p7,p8,p9,()),()))))
def vB (a0:Int) (a1:Int) (a2:List (List aw)) (a3:List af) (a4:List ah) (a5:List ag) (a6:List ag) (a7:List Int) (a8:List Int):Out (((Bool×Unit)×Unit)×(Unit×Unit)):=
 .ite ((!(dC a0 (1:Int) (100000:Int)))==false)
 (.ite ((!(dC a1 (0:Int) (1000000:Int)))==false)
 (.ite ((!(cD a2))==false)
 (.ite ((decide (((List.length a8:Nat):Int)>(60:Int)))==false)
 (.ite ((!(aG a8))==false)
 (.ite ((decide (((List.length a3:Nat):Int)>(6:Int)))==false)
 (.ite (decide ((mZ a3)>(16:Int)))
 (.ret (((false,()),()),((),())))
 (.get (iter xo bn (((0:Int),()),((a0,a1,a2,a3,a4,a5,a6,a7,a8,()),()))) fun y1=> .alt y1 (fun y2=>
 .ite ((ig y2.2.1.2.2.2.1 y2.2.1.2.2.2.2.1 y2.2.1.2.2.2.2.2.1 y2.2.1.2.2.2.2.2.2.1)==true)
 (.ret ((((m2 y2.2.1.2.2.2.1 y2.2.1.2.2.2.2.2.2.2.1),()),()),((),())))
 (.ret (((false,()),()),((),())))) (fun y3=>
 .ret (((y3.1.1,()),()),((),())))))
 (.ret (((false,()),()),((),()))))
 (.ret (((false,()),()),((),()))))
 (.ret (((false,()),()),((),()))))
 (.ret (((false,()),()),((),()))))
 (.ret (((false,()),()),((),()))))
 (.ret (((false,()),()),((),())))
def aid:Nat→Option aq:=fun n=>bU [(0,⟨⟨[.dead, .vptr 64000000 0, .dead, .i .i64]++dd 87,zx⟩,⟨[.dead, .vptr 64000000 0]++dd 89,zx⟩,some ⟨[.dead, .dead, .b]++dd 88,[]⟩,false⟩)] n
def k54:bM:={ f:=54,lend:=true,aK:=[⟨false,true,[.i .i64, .i .i64, .ro (.sl b8), .ro jr, .ro cH, .ro ck, .ro ck, .ro (.int .i64), .ro (.int .i64)]⟩],lay:=[none],rs:=[⟨false,false,[.b]⟩],F:=fun x=> .ret ((((dz x.1.1 x.1.2.1 x.1.2.2.1 x.1.2.2.2.1 x.1.2.2.2.2.1 x.1.2.2.2.2.2.1 x.1.2.2.2.2.2.2.1 x.1.2.2.2.2.2.2.2.1 x.1.2.2.2.2.2.2.2.2.1),()),()),((),())) }
theorem aeq (x:az k54.aK):bo [wO,Fv,vc,FJ,Hy,HA,HB] aid Tryz.f54 k54 [.tmp 2] x=vB x.1.1 x.1.2.1 x.1.2.2.1 x.1.2.2.2.1 x.1.2.2.2.2.1 x.1.2.2.2.2.2.1 x.1.2.2.2.2.2.2.1 x.1.2.2.2.2.2.2.2.1 x.1.2.2.2.2.2.2.2.2.1:=by kernel_rfl
theorem aer (hr:∀ x:bw×Unit,aD k54.aK x→(vB x.1.1 x.1.2.1 x.1.2.2.1 x.1.2.2.2.1 x.1.2.2.2.2.1 x.1.2.2.2.2.2.1 x.1.2.2.2.2.2.2.1 x.1.2.2.2.2.2.2.2.1 x.1.2.2.2.2.2.2.2.2.1).eval=(k54.F x).eval):k54.Ok Tryz.prog:=aU [wO,Fv,vc,FJ,Hy,HA,HB] ⟨kc,LS,zr,MA,Xw,XF,XJ,trivial⟩ aeq fun x hw _ hy=>(hr x hw).trans hy
theorem Rf:k54.Ok Tryz.prog:=by
 refine aer fun x hw=> ?_;obtain ⟨⟨a0,a1,a2,a3,a4,a5,a6,a7,a8,_⟩,_⟩:=x;have l2:List.length a2≤aS:=hw.1.1.1;have l3:List.length a3≤aS:=hw.1.2.1.1;have l4:List.length a4≤aS:=hw.1.2.2.1.1;have l5:List.length a5≤aS:=hw.1.2.2.2.1.1;have l6:List.length a6≤aS:=hw.1.2.2.2.2.1.1;have l7:List.length a7≤aS:=hw.1.2.2.2.2.2.1.1;have l8:List.length a8≤aS:=hw.1.2.2.2.2.2.2.1.1;show (vB a0 a1 a2 a3 a4 a5 a6 a7 a8).eval=some ((((dz a0 a1 a2 a3 a4 a5 a6 a7 a8),()),()),((),()));unfold vB;rw [aic,gt6];by_cases c1:dC a0 1 100000=true
 case neg=>rw [ae (by first|(simp [c1];done)|(rw [aaa (by omega)];done)|(rw [aae (by omega)];done)|(rw [aaa (by omega)];rfl)|(rw [aae (by omega)];rfl)|(rw [c1];rfl)|(rw [Bool.eq_false_iff.2 c1];rfl))];simp [Out.eval,dz,c1]
 rw [ab (by first|(simp [c1];done)|(rw [aaa (by omega)];done)|(rw [aae (by omega)];done)|(rw [aaa (by omega)];rfl)|(rw [aae (by omega)];rfl)|(rw [c1];rfl)|(rw [Bool.eq_false_iff.2 c1];rfl))];by_cases c2:dC a1 0 1000000=true
 case neg=>rw [ae (by first|(simp [c2];done)|(rw [aaa (by omega)];done)|(rw [aae (by omega)];done)|(rw [aaa (by omega)];rfl)|(rw [aae (by omega)];rfl)|(rw [c2];rfl)|(rw [Bool.eq_false_iff.2 c2];rfl))];simp [Out.eval,dz,c2]
 rw [ab (by first|(simp [c2];done)|(rw [aaa (by omega)];done)|(rw [aae (by omega)];done)|(rw [aaa (by omega)];rfl)|(rw [aae (by omega)];rfl)|(rw [c2];rfl)|(rw [Bool.eq_false_iff.2 c2];rfl))];by_cases c3:cD a2=true
 case neg=>rw [ae (by first|(simp [c3];done)|(rw [aaa (by omega)];done)|(rw [aae (by omega)];done)|(rw [aaa (by omega)];rfl)|(rw [aae (by omega)];rfl)|(rw [c3];rfl)|(rw [Bool.eq_false_iff.2 c3];rfl))];simp [Out.eval,dz,c3]
 rw [ab (by first|(simp [c3];done)|(rw [aaa (by omega)];done)|(rw [aae (by omega)];done)|(rw [aaa (by omega)];rfl)|(rw [aae (by omega)];rfl)|(rw [c3];rfl)|(rw [Bool.eq_false_iff.2 c3];rfl))];by_cases c4:List.length a8≤60
 case neg=>rw [ae (by first|(simp [c4];done)|(rw [aaa (by omega)];done)|(rw [aae (by omega)];done)|(rw [aaa (by omega)];rfl)|(rw [aae (by omega)];rfl)|(rw [c4];rfl)|(rw [Bool.eq_false_iff.2 c4];rfl))];simp [Out.eval,dz,c4]
 rw [ab (by first|(simp [c4];done)|(rw [aaa (by omega)];done)|(rw [aae (by omega)];done)|(rw [aaa (by omega)];rfl)|(rw [aae (by omega)];rfl)|(rw [c4];rfl)|(rw [Bool.eq_false_iff.2 c4];rfl))];by_cases c5:aG a8=true
 case neg=>rw [ae (by first|(simp [c5];done)|(rw [aaa (by omega)];done)|(rw [aae (by omega)];done)|(rw [aaa (by omega)];rfl)|(rw [aae (by omega)];rfl)|(rw [c5];rfl)|(rw [Bool.eq_false_iff.2 c5];rfl))];simp [Out.eval,dz,c5]
 rw [ab (by first|(simp [c5];done)|(rw [aaa (by omega)];done)|(rw [aae (by omega)];done)|(rw [aaa (by omega)];rfl)|(rw [aae (by omega)];rfl)|(rw [c5];rfl)|(rw [Bool.eq_false_iff.2 c5];rfl))];by_cases c6:List.length a3≤6
 case neg=>rw [ae (by first|(simp [c6];done)|(rw [aaa (by omega)];done)|(rw [aae (by omega)];done)|(rw [aaa (by omega)];rfl)|(rw [aae (by omega)];rfl)|(rw [c6];rfl)|(rw [Bool.eq_false_iff.2 c6];rfl))];simp [Out.eval,dz,c6]
 rw [ab (by first|(simp [c6];done)|(rw [aaa (by omega)];done)|(rw [aae (by omega)];done)|(rw [aaa (by omega)];rfl)|(rw [aae (by omega)];rfl)|(rw [c6];rfl)|(rw [Bool.eq_false_iff.2 c6];rfl))];by_cases c7:mZ a3≤16
 case neg=>rw [ab (by first|(simp;done)|(rw [aaa (by omega)];done)|(rw [aae (by omega)];done)|(rw [aaa (by omega)];rfl)|(rw [aae (by omega)];rfl)|(rw [c7];rfl)|(rw [Bool.eq_false_iff.2 c7];rfl))];simp [Out.eval,dz,c7]
 rw [ae (by first|(simp [c7];done)|(rw [aaa (by omega)];done)|(rw [aae (by omega)];done)|(rw [aaa (by omega)];rfl)|(rw [aae (by omega)];rfl)|(rw [c7];rfl)|(rw [Bool.eq_false_iff.2 c7];rfl))];have h:iter xo bn (((0:Int),()),((a0,a1,a2,a3,a4,a5,a6,a7,a8,()),()))=some (if eO ao (fG a0 a1 (List.length a2) a3 a4) a3=true then .inl ((),((a0,a1,a2,a3,a4,a5,a6,a7,a8,()),())) else .inr ((false,()),())):=kh (f:=xo) (List.length a3) (vk ao (fG a0 a1 (List.length a2) a3 a4) a3) (fun i=>((((i:Nat):Int),()),((a0,a1,a2,a3,a4,a5,a6,a7,a8,()),()))) (y:=((),((a0,a1,a2,a3,a4,a5,a6,a7,a8,()),()))) (z:=((false,()),()))
  (fun i hi=>by
   have w1:=ar (i:=i) (by omega);cases i with
   |zero=>
    rw [iK hi];have w3:decide (((0:Nat):Int)>0)=false:=rfl
    try unfold fG
    try unfold tB
    try unfold ao
    simp only [xo,Out.eval,s7 hi,Gu,dH hi,adb,afL,w1,w3,fq];cases p0:dC a3[0].1 1 (IntKind.i64.wrap (a0 - 1))<;>cases p2:dw a1 (List.length a2) a3 a4 a3[0].1 a3[0].2.1 a3[0].2.2.1 a3[0].2.2.2.1 a3[0].2.2.2.2.1.1 a3[0].2.2.2.2.1.2.1 a3[0].2.2.2.2.2.1 a3[0].2.2.2.2.2.2.1 a3[0].2.2.2.2.2.2.2.1 a3[0].2.2.2.2.2.2.2.2.1<;>rfl
   |succ i=>
    rw [gT hi];have w2:=jB i (by omega);have w3:decide (((i+1:Nat):Int)>0)=true:=aaa (by omega)
    try unfold fG
    try unfold tB
    try unfold ao
    simp only [xo,Out.eval,s7 hi,dH hi,adb,afL,w1,w3,fq,dH (show i<List.length a3 by omega),w2,qi];cases p0:dC a3[i+1].1 1 (IntKind.i64.wrap (a0 - 1))<;>cases p1:decide (a3[i].1<a3[i+1].1)<;>cases p2:dw a1 (List.length a2) a3 a4 a3[i+1].1 a3[i+1].2.1 a3[i+1].2.2.1 a3[i+1].2.2.2.1 a3[i+1].2.2.2.2.1.1 a3[i+1].2.2.2.2.1.2.1 a3[i+1].2.2.2.2.2.1 a3[i+1].2.2.2.2.2.2.1 a3[i+1].2.2.2.2.2.2.2.1 a3[i+1].2.2.2.2.2.2.2.2.1<;>rfl)
  (by simp [xo,Out.eval]) l3
 refine (aa h).trans ?_;by_cases q:eO ao (fG a0 a1 (List.length a2) a3 a4) a3=true
 case neg=>rw [aap q];simp [Out.eval,dz,q]
 rw [aaK q];refine (gF _).trans ?_;dsimp only;unfold dz;rw [c1,c2,c3,aaa c4,c5,aaa c6,aaa c7,q];cases ig a3 a4 a5 a6<;>cases m2 a3 a7<;>rfl
end
section
open Go Go.ChangeShapes Go.WideShapes Go.ChangeAt Go.RowKit
def ky (pid v:Int):Bool×Int:=(pid==v,v)
def so (a0:Int) (_:Int) (_:Int) (_:Int) (_:Int) (_:List Int) (_:List Int) (_:List Int) (_:Int) (_:Int) (fg:Int):Out (((Bool×Unit)×Unit)×(Unit×(Int×Unit)×Unit)):=
 .ret (((((a0==fg)),()),()),((),(fg,()),()))
def HC:bM:={ f:=196,lend:=true,aK:=[⟨false,true,[.i .i64, .i .i64, .i .i64, .i .i64, .i .i64, .ro (.int .i64), .ro (.int .i64), .ro (.int .i64), .i .i64, .i .i64]⟩,⟨true,false,[.i .i64]⟩],lay:=[none,none],rs:=[⟨false,false,[.b]⟩],F:=fun x=> .ret ((((ky x.1.1 x.2.1.1).1,()),()),((),((ky x.1.1 x.2.1.1).2,()),())) }
theorem XK (x:az HC.aK):bo [] (fun _=>none) Tryz.f196 HC [.tmp 3] x=so x.1.1 x.1.2.1 x.1.2.2.1 x.1.2.2.2.1 x.1.2.2.2.2.1 x.1.2.2.2.2.2.1 x.1.2.2.2.2.2.2.1 x.1.2.2.2.2.2.2.2.1 x.1.2.2.2.2.2.2.2.2.1 x.1.2.2.2.2.2.2.2.2.2.1 x.2.1.1:=by kernel_rfl
theorem XL (hr:∀ x:XM×(Int×Unit)×Unit,aD HC.aK x→(so x.1.1 x.1.2.1 x.1.2.2.1 x.1.2.2.2.1 x.1.2.2.2.2.1 x.1.2.2.2.2.2.1 x.1.2.2.2.2.2.2.1 x.1.2.2.2.2.2.2.2.1 x.1.2.2.2.2.2.2.2.2.1 x.1.2.2.2.2.2.2.2.2.2.1 x.2.1.1).eval=(HC.F x).eval):HC.Ok Tryz.prog:=aU [] trivial XK fun x hw _ hy=>(hr x hw).trans hy
theorem XN:HC.Ok Tryz.prog:=by
 refine XL fun x hw=> ?_;obtain ⟨⟨a0,a1,a2,a3,a4,a5,a6,a7,a8,a9,_⟩,⟨fg,_⟩,_⟩:=x;have l5:List.length a5≤aS:=hw.1.1.1;have l6:List.length a6≤aS:=hw.1.2.1.1;have l7:List.length a7≤aS:=hw.1.2.2.1.1;show (so a0 a1 a2 a3 a4 a5 a6 a7 a8 a9 fg).eval=some ((((ky a0 fg).1,()),()),((),((ky a0 fg).2,()),()));unfold so ky;simp only [Out.eval]
 all_goals ((repeat' split)<;>simp_all)
def lZ (a:List af) (v:Int):Int×Int:=(ak a v,v)
abbrev HD:=XS×((Int×Unit)×Unit)
def nK:HD→Out (Round HD ((Unit)×((Int×Unit)×Unit)) ((Int×Unit)×((Int×Unit)×Unit)))
|((p0,p1,p2,_),(p3,_),_)=>
 .ite (decide (p2<p1))
 (.ite (decide (0≤p2))
 (.get (nth p0 (Int.toNat p2)) fun y1=>
 .ite ((ky y1.1 p3).1)
 (.ret (.ret ((p2,()),(((ky y1.1 p3).2,()),()))))
 (.ret (.again ((p0,p1,(IntKind.i64.wrap (p2+(1:Int))),()),(((ky y1.1 p3).2,()),())))))
 .fail)
 (.ret (.out ((),((p3,()),()))))
def oH (a0:List af) (a1:Int):Out (((Int×Unit)×Unit)×(Unit×(Int×Unit)×Unit)):=
 .get (iter nK bn ((a0,((List.length a0:Nat):Int),(0:Int),()),((a1,()),()))) fun y1=> .alt y1 (fun y2=>
 .ret ((((-1:Int),()),()),((),(y2.2.1.1,()),()))) (fun y3=>
 .ret (((y3.1.1,()),()),((),(y3.2.1.1,()),())))
def XO:Nat→Option aq:=fun n=>bU [(0,⟨⟨[.ro jr (some 0), .fn 196 [1]]++dd 5++[.i .i64, .i .i64]++dd 10,[(1, .var [.i .i64])]⟩,⟨[.dead, .fn 196 [1]]++dd 17,[(1, .var [.i .i64])]⟩,some ⟨[.dead, .fn 196 [1], .dead, .dead, .i .i64]++dd 14,[(1, .var [.i .i64])]⟩,false⟩)] n
def xX:bM:={ f:=134,lend:=true,aK:=[⟨false,false,[.ro jr]⟩,⟨true,false,[.i .i64]⟩],lay:=[none,some (196,1)],rs:=[⟨false,false,[.i .i64]⟩],F:=fun x=> .ret ((((lZ x.1.1 x.2.1.1).1,()),()),((),((lZ x.1.1 x.2.1.1).2,()),())) }
theorem R4 (x:az xX.aK):bo [HC] XO Tryz.f134 xX [.tmp 4] x=oH x.1.1 x.2.1.1:=by kernel_rfl
theorem R5 (hr:∀ x:(List af×Unit)×(Int×Unit)×Unit,aD xX.aK x→(oH x.1.1 x.2.1.1).eval=(xX.F x).eval):xX.Ok Tryz.prog:=aU [HC] ⟨XN,trivial⟩ R4 fun x hw _ hy=>(hr x hw).trans hy
theorem R6:xX.Ok Tryz.prog:=by
 refine R5 fun x hw=> ?_;obtain ⟨⟨a0,_⟩,⟨a1,_⟩,_⟩:=x;have l0:List.length a0≤aS:=hw.1.1.1;show (oH a0 a1).eval=some ((((lZ a0 a1).1,()),()),((),((lZ a0 a1).2,()),()));unfold oH lZ ak dv ie;have h:iter nK bn ((a0,((List.length a0:Nat):Int),(0:Int),()),((a1,()),()))=some (match List.findIdx? (fun x=>ao x==a1) a0 with|some i=> .inr ((((i:Nat):Int),()),((a1,()),()))|none=> .inl ((),((a1,()),()))):=dZ (f:=nK) a0 (fun x=>ao x==a1) (fun i=>((a0,((List.length a0:Nat):Int),((i:Nat):Int),()),((a1,()),()))) (y:=((),((a1,()),()))) (z:=fun i=>((((i:Nat):Int),()),((a1,()),())))
  (fun i hi hp=>by
   have h1:=ar (i:=i) (by omega);simp [nK,Out.eval,hi,h1,cond_eq_ite,ao,ky] at hp ⊢ <;>(try simp_all)<;>(try (rcases hp with h|h<;>simp_all)))
  (fun i hi hp=>by simp [nK,Out.eval,hi,cond_eq_ite,ao,ky] at hp ⊢ <;>(try simp_all)<;>(try (rcases hp with h|h<;>simp_all)))
  (by simp [nK,Out.eval]) l0
 refine (aa h).trans ?_;cases List.findIdx? (fun x=>ao x==a1) a0<;>rfl
def sq (_:Int) (_:Int) (_:List (List aw)) (a3:List af) (_:List ah) (_:List ag) (_:List ag) (_:List Int) (_:List Int) (a9:Int):Out (((Int×Unit)×Unit)×XI):=
 .ret ((((lZ a3 a9).1,()),()),((),(),()))
def D6:bM:={ f:=108,lend:=true,aK:=[⟨false,true,[.i .i64, .i .i64, .ro (.sl b8), .ro jr, .ro cH, .ro ck, .ro ck, .ro (.int .i64), .ro (.int .i64)]⟩,⟨false,false,[.i .i64]⟩],lay:=[none,none],rs:=[⟨false,false,[.i .i64]⟩],F:=fun x=> .ret ((((ak x.1.2.2.2.1 x.2.1.1),()),()),((),(),())) }
theorem XP (x:az D6.aK):bo [xX] (fun _=>none) Tryz.f108 D6 [.tmp 4] x=sq x.1.1 x.1.2.1 x.1.2.2.1 x.1.2.2.2.1 x.1.2.2.2.2.1 x.1.2.2.2.2.2.1 x.1.2.2.2.2.2.2.1 x.1.2.2.2.2.2.2.2.1 x.1.2.2.2.2.2.2.2.2.1 x.2.1.1:=by kernel_rfl
theorem XQ (hr:∀ x:bw×(Int×Unit)×Unit,aD D6.aK x→(sq x.1.1 x.1.2.1 x.1.2.2.1 x.1.2.2.2.1 x.1.2.2.2.2.1 x.1.2.2.2.2.2.1 x.1.2.2.2.2.2.2.1 x.1.2.2.2.2.2.2.2.1 x.1.2.2.2.2.2.2.2.2.1 x.2.1.1).eval=(D6.F x).eval):D6.Ok Tryz.prog:=aU [xX] ⟨R6,trivial⟩ XP fun x hw _ hy=>(hr x hw).trans hy
theorem K3:D6.Ok Tryz.prog:=by
 refine XQ fun x hw=> ?_;obtain ⟨⟨a0,a1,a2,a3,a4,a5,a6,a7,a8,_⟩,⟨a9,_⟩,_⟩:=x;have l2:List.length a2≤aS:=hw.1.1.1;have l3:List.length a3≤aS:=hw.1.2.1.1;have l4:List.length a4≤aS:=hw.1.2.2.1.1;have l5:List.length a5≤aS:=hw.1.2.2.2.1.1;have l6:List.length a6≤aS:=hw.1.2.2.2.2.1.1;have l7:List.length a7≤aS:=hw.1.2.2.2.2.2.1.1;have l8:List.length a8≤aS:=hw.1.2.2.2.2.2.2.1.1;show (sq a0 a1 a2 a3 a4 a5 a6 a7 a8 a9).eval=some ((((ak a3 a9),()),()),((),(),()));unfold sq lZ;simp only [Out.eval]
 all_goals ((repeat' split)<;>simp_all)
def kz (id v:Int):Bool×Int:=(id==v,v)
def sr (a0:Int) (_:Int) (_:Int) (_:Int) (_:Int) (a5:Int):Out (((Bool×Unit)×Unit)×(Unit×(Int×Unit)×Unit)):=
 .ret (((((a0==a5)),()),()),((),(a5,()),()))
def HE:bM:={ f:=248,lend:=true,aK:=[⟨false,true,[.i .i64, .i .i64, .i .i64, .i .i64, .i .i64]⟩,⟨true,false,[.i .i64]⟩],lay:=[none,none],rs:=[⟨false,false,[.b]⟩],F:=fun x=> .ret ((((kz x.1.1 x.2.1.1).1,()),()),((),((kz x.1.1 x.2.1.1).2,()),())) }
theorem XR (x:az HE.aK):bo [] (fun _=>none) Tryz.f248 HE [.tmp 3] x=sr x.1.1 x.1.2.1 x.1.2.2.1 x.1.2.2.2.1 x.1.2.2.2.2.1 x.2.1.1:=by kernel_rfl
theorem XT (hr:∀ x:ah×(Int×Unit)×Unit,aD HE.aK x→(sr x.1.1 x.1.2.1 x.1.2.2.1 x.1.2.2.2.1 x.1.2.2.2.2.1 x.2.1.1).eval=(HE.F x).eval):HE.Ok Tryz.prog:=aU [] trivial XR fun x hw _ hy=>(hr x hw).trans hy
theorem XU:HE.Ok Tryz.prog:=by
 refine XT fun x hw=> ?_;obtain ⟨⟨a0,a1,a2,a3,a4,_⟩,⟨a5,_⟩,_⟩:=x;show (sr a0 a1 a2 a3 a4 a5).eval=some ((((kz a0 a5).1,()),()),((),((kz a0 a5).2,()),()));unfold sr kz;simp only [Out.eval]
 all_goals ((repeat' split)<;>simp_all)
def ma (a:List ah) (v:Int):Int×Int:=(aF a v,v)
abbrev HF:=(List ah×Int×Int×Unit)×((Int×Unit)×Unit)
def nL:HF→Out (Round HF ((Unit)×((Int×Unit)×Unit)) ((Int×Unit)×((Int×Unit)×Unit)))
|((p0,p1,p2,_),(p3,_),_)=>
 .ite (decide (p2<p1))
 (.ite (decide (0≤p2))
 (.get (nth p0 (Int.toNat p2)) fun y1=>
 .ite ((kz y1.1 p3).1)
 (.ret (.ret ((p2,()),(((kz y1.1 p3).2,()),()))))
 (.ret (.again ((p0,p1,(IntKind.i64.wrap (p2+(1:Int))),()),(((kz y1.1 p3).2,()),())))))
 .fail)
 (.ret (.out ((),((p3,()),()))))
def oI (a0:List ah) (a1:Int):Out (((Int×Unit)×Unit)×(Unit×(Int×Unit)×Unit)):=
 .get (iter nL bn ((a0,((List.length a0:Nat):Int),(0:Int),()),((a1,()),()))) fun y1=> .alt y1 (fun y2=>
 .ret ((((-1:Int),()),()),((),(y2.2.1.1,()),()))) (fun y3=>
 .ret (((y3.1.1,()),()),((),(y3.2.1.1,()),())))
def XV:Nat→Option aq:=fun n=>bU [(0,⟨⟨[.ro cH (some 0), .fn 248 [1]]++dd 5++[.i .i64, .i .i64]++dd 10,[(1, .var [.i .i64])]⟩,⟨[.dead, .fn 248 [1]]++dd 17,[(1, .var [.i .i64])]⟩,some ⟨[.dead, .fn 248 [1], .dead, .dead, .i .i64]++dd 14,[(1, .var [.i .i64])]⟩,false⟩)] n
def xY:bM:={ f:=180,lend:=true,aK:=[⟨false,false,[.ro cH]⟩,⟨true,false,[.i .i64]⟩],lay:=[none,some (248,1)],rs:=[⟨false,false,[.i .i64]⟩],F:=fun x=> .ret ((((ma x.1.1 x.2.1.1).1,()),()),((),((ma x.1.1 x.2.1.1).2,()),())) }
theorem R7 (x:az xY.aK):bo [HE] XV Tryz.f180 xY [.tmp 4] x=oI x.1.1 x.2.1.1:=by kernel_rfl
theorem R8 (hr:∀ x:(List ah×Unit)×(Int×Unit)×Unit,aD xY.aK x→(oI x.1.1 x.2.1.1).eval=(xY.F x).eval):xY.Ok Tryz.prog:=aU [HE] ⟨XU,trivial⟩ R7 fun x hw _ hy=>(hr x hw).trans hy
theorem R9:xY.Ok Tryz.prog:=by
 refine R8 fun x hw=> ?_;obtain ⟨⟨a0,_⟩,⟨a1,_⟩,_⟩:=x;have l0:List.length a0≤aS:=hw.1.1.1;show (oI a0 a1).eval=some ((((ma a0 a1).1,()),()),((),((ma a0 a1).2,()),()));unfold oI ma aF dv ie;have h:iter nL bn ((a0,((List.length a0:Nat):Int),(0:Int),()),((a1,()),()))=some (match List.findIdx? (fun x=>al x==a1) a0 with|some i=> .inr ((((i:Nat):Int),()),((a1,()),()))|none=> .inl ((),((a1,()),()))):=dZ (f:=nL) a0 (fun x=>al x==a1) (fun i=>((a0,((List.length a0:Nat):Int),((i:Nat):Int),()),((a1,()),()))) (y:=((),((a1,()),()))) (z:=fun i=>((((i:Nat):Int),()),((a1,()),())))
  (fun i hi hp=>by
   have h1:=ar (i:=i) (by omega);simp [nL,Out.eval,hi,h1,cond_eq_ite,al,kz] at hp ⊢ <;>(try simp_all)<;>(try (rcases hp with h|h<;>simp_all)))
  (fun i hi hp=>by simp [nL,Out.eval,hi,cond_eq_ite,al,kz] at hp ⊢ <;>(try simp_all)<;>(try (rcases hp with h|h<;>simp_all)))
  (by simp [nL,Out.eval]) l0
 refine (aa h).trans ?_;cases List.findIdx? (fun x=>al x==a1) a0<;>rfl
def ss (_:Int) (_:Int) (_:List (List aw)) (_:List af) (a4:List ah) (_:List ag) (_:List ag) (_:List Int) (_:List Int) (a9:Int):Out (((Int×Unit)×Unit)×XI):=
 .ret ((((ma a4 a9).1,()),()),((),(),()))
def Ca:bM:={ f:=179,lend:=true,aK:=[⟨false,true,[.i .i64, .i .i64, .ro (.sl b8), .ro jr, .ro cH, .ro ck, .ro ck, .ro (.int .i64), .ro (.int .i64)]⟩,⟨false,false,[.i .i64]⟩],lay:=[none,none],rs:=[⟨false,false,[.i .i64]⟩],F:=fun x=> .ret ((((aF x.1.2.2.2.2.1 x.2.1.1),()),()),((),(),())) }
theorem XW (x:az Ca.aK):bo [xY] (fun _=>none) Tryz.f179 Ca [.tmp 4] x=ss x.1.1 x.1.2.1 x.1.2.2.1 x.1.2.2.2.1 x.1.2.2.2.2.1 x.1.2.2.2.2.2.1 x.1.2.2.2.2.2.2.1 x.1.2.2.2.2.2.2.2.1 x.1.2.2.2.2.2.2.2.2.1 x.2.1.1:=by kernel_rfl
theorem XX (hr:∀ x:bw×(Int×Unit)×Unit,aD Ca.aK x→(ss x.1.1 x.1.2.1 x.1.2.2.1 x.1.2.2.2.1 x.1.2.2.2.2.1 x.1.2.2.2.2.2.1 x.1.2.2.2.2.2.2.1 x.1.2.2.2.2.2.2.2.1 x.1.2.2.2.2.2.2.2.2.1 x.2.1.1).eval=(Ca.F x).eval):Ca.Ok Tryz.prog:=aU [xY] ⟨R9,trivial⟩ XW fun x hw _ hy=>(hr x hw).trans hy
theorem MM:Ca.Ok Tryz.prog:=by
 refine XX fun x hw=> ?_;obtain ⟨⟨a0,a1,a2,a3,a4,a5,a6,a7,a8,_⟩,⟨a9,_⟩,_⟩:=x;have l2:List.length a2≤aS:=hw.1.1.1;have l3:List.length a3≤aS:=hw.1.2.1.1;have l4:List.length a4≤aS:=hw.1.2.2.1.1;have l5:List.length a5≤aS:=hw.1.2.2.2.1.1;have l6:List.length a6≤aS:=hw.1.2.2.2.2.1.1;have l7:List.length a7≤aS:=hw.1.2.2.2.2.2.1.1;have l8:List.length a8≤aS:=hw.1.2.2.2.2.2.2.1.1;show (ss a0 a1 a2 a3 a4 a5 a6 a7 a8 a9).eval=some ((((aF a4 a9),()),()),((),(),()));unfold ss ma;simp only [Out.eval]
 all_goals ((repeat' split)<;>simp_all)
def kA (id v:Int):Bool×Int:=(id==v,v)
def su (a0:Int) (_:List Int) (a2:Int):Out (((Bool×Unit)×Unit)×(Unit×(Int×Unit)×Unit)):=
 .ret (((((a0==a2)),()),()),((),(a2,()),()))
def HG:bM:={ f:=251,lend:=true,aK:=[⟨false,true,[.i .i64, .ro (.int .i64)]⟩,⟨true,false,[.i .i64]⟩],lay:=[none,none],rs:=[⟨false,false,[.b]⟩],F:=fun x=> .ret ((((kA x.1.1 x.2.1.1).1,()),()),((),((kA x.1.1 x.2.1.1).2,()),())) }
theorem XY (x:az HG.aK):bo [] (fun _=>none) Tryz.f251 HG [.tmp 3] x=su x.1.1 x.1.2.1 x.2.1.1:=by kernel_rfl
theorem XZ (hr:∀ x:ag×(Int×Unit)×Unit,aD HG.aK x→(su x.1.1 x.1.2.1 x.2.1.1).eval=(HG.F x).eval):HG.Ok Tryz.prog:=aU [] trivial XY fun x hw _ hy=>(hr x hw).trans hy
theorem X0:HG.Ok Tryz.prog:=by
 refine XZ fun x hw=> ?_;obtain ⟨⟨a0,a1,_⟩,⟨a2,_⟩,_⟩:=x;have l1:List.length a1≤aS:=hw.1.1.1;show (su a0 a1 a2).eval=some ((((kA a0 a2).1,()),()),((),((kA a0 a2).2,()),()));unfold su kA;simp only [Out.eval]
 all_goals ((repeat' split)<;>simp_all)
def mb (a:List mL) (v:Int):Int×Int:=(bp a v,v)
abbrev HH:=(List ag×Int×Int×Unit)×((Int×Unit)×Unit)
def nM:HH→Out (Round HH ((Unit)×((Int×Unit)×Unit)) ((Int×Unit)×((Int×Unit)×Unit)))
|((p0,p1,p2,_),(p3,_),_)=>
 .ite (decide (p2<p1))
 (.ite (decide (0≤p2))
 (.get (nth p0 (Int.toNat p2)) fun y1=>
 .ite ((kA y1.1 p3).1)
 (.ret (.ret ((p2,()),(((kA y1.1 p3).2,()),()))))
 (.ret (.again ((p0,p1,(IntKind.i64.wrap (p2+(1:Int))),()),(((kA y1.1 p3).2,()),())))))
 .fail)
 (.ret (.out ((),((p3,()),()))))
def oJ (a0:List ag) (a1:Int):Out (((Int×Unit)×Unit)×(Unit×(Int×Unit)×Unit)):=
 .get (iter nM bn ((a0,((List.length a0:Nat):Int),(0:Int),()),((a1,()),()))) fun y1=> .alt y1 (fun y2=>
 .ret ((((-1:Int),()),()),((),(y2.2.1.1,()),()))) (fun y3=>
 .ret (((y3.1.1,()),()),((),(y3.2.1.1,()),())))
def X1:Nat→Option aq:=fun n=>bU [(0,⟨⟨[.ro ck (some 0), .fn 251 [1]]++dd 5++[.i .i64, .i .i64]++dd 10,[(1, .var [.i .i64])]⟩,⟨[.dead, .fn 251 [1]]++dd 17,[(1, .var [.i .i64])]⟩,some ⟨[.dead, .fn 251 [1], .dead, .dead, .i .i64]++dd 14,[(1, .var [.i .i64])]⟩,false⟩)] n
def xZ:bM:={ f:=185,lend:=true,aK:=[⟨false,false,[.ro ck]⟩,⟨true,false,[.i .i64]⟩],lay:=[none,some (251,1)],rs:=[⟨false,false,[.i .i64]⟩],F:=fun x=> .ret ((((mb x.1.1 x.2.1.1).1,()),()),((),((mb x.1.1 x.2.1.1).2,()),())) }
theorem Sa (x:az xZ.aK):bo [HG] X1 Tryz.f185 xZ [.tmp 4] x=oJ x.1.1 x.2.1.1:=by kernel_rfl
theorem Sb (hr:∀ x:(List ag×Unit)×(Int×Unit)×Unit,aD xZ.aK x→(oJ x.1.1 x.2.1.1).eval=(xZ.F x).eval):xZ.Ok Tryz.prog:=aU [HG] ⟨X0,trivial⟩ Sa fun x hw _ hy=>(hr x hw).trans hy
theorem Sc:xZ.Ok Tryz.prog:=by
 refine Sb fun x hw=> ?_;obtain ⟨⟨a0,_⟩,⟨a1,_⟩,_⟩:=x;have l0:List.length a0≤aS:=hw.1.1.1;show (oJ a0 a1).eval=some ((((mb a0 a1).1,()),()),((),((mb a0 a1).2,()),()));unfold oJ mb bp dv ie;have h:iter nM bn ((a0,((List.length a0:Nat):Int),(0:Int),()),((a1,()),()))=some (match List.findIdx? (fun x=>aC x==a1) a0 with|some i=> .inr ((((i:Nat):Int),()),((a1,()),()))|none=> .inl ((),((a1,()),()))):=dZ (f:=nM) a0 (fun x=>aC x==a1) (fun i=>((a0,((List.length a0:Nat):Int),((i:Nat):Int),()),((a1,()),()))) (y:=((),((a1,()),()))) (z:=fun i=>((((i:Nat):Int),()),((a1,()),())))
  (fun i hi hp=>by
   have h1:=ar (i:=i) (by omega);simp [nM,Out.eval,hi,h1,cond_eq_ite,aC,kA] at hp ⊢ <;>(try simp_all)<;>(try (rcases hp with h|h<;>simp_all)))
  (fun i hi hp=>by simp [nM,Out.eval,hi,cond_eq_ite,aC,kA] at hp ⊢ <;>(try simp_all)<;>(try (rcases hp with h|h<;>simp_all)))
  (by simp [nM,Out.eval]) l0
 refine (aa h).trans ?_;cases List.findIdx? (fun x=>aC x==a1) a0<;>rfl
def sv (_:Int) (_:Int) (_:List (List aw)) (_:List af) (_:List ah) (a5:List ag) (_:List ag) (_:List Int) (_:List Int) (a9:Int):Out (((Int×Unit)×Unit)×XI):=
 .ret ((((mb a5 a9).1,()),()),((),(),()))
def HI:bM:={ f:=184,lend:=true,aK:=[⟨false,true,[.i .i64, .i .i64, .ro (.sl b8), .ro jr, .ro cH, .ro ck, .ro ck, .ro (.int .i64), .ro (.int .i64)]⟩,⟨false,false,[.i .i64]⟩],lay:=[none,none],rs:=[⟨false,false,[.i .i64]⟩],F:=fun x=> .ret ((((bp x.1.2.2.2.2.2.1 x.2.1.1),()),()),((),(),())) }
theorem X2 (x:az HI.aK):bo [xZ] (fun _=>none) Tryz.f184 HI [.tmp 4] x=sv x.1.1 x.1.2.1 x.1.2.2.1 x.1.2.2.2.1 x.1.2.2.2.2.1 x.1.2.2.2.2.2.1 x.1.2.2.2.2.2.2.1 x.1.2.2.2.2.2.2.2.1 x.1.2.2.2.2.2.2.2.2.1 x.2.1.1:=by kernel_rfl
theorem X3 (hr:∀ x:bw×(Int×Unit)×Unit,aD HI.aK x→(sv x.1.1 x.1.2.1 x.1.2.2.1 x.1.2.2.2.1 x.1.2.2.2.2.1 x.1.2.2.2.2.2.1 x.1.2.2.2.2.2.2.1 x.1.2.2.2.2.2.2.2.1 x.1.2.2.2.2.2.2.2.2.1 x.2.1.1).eval=(HI.F x).eval):HI.Ok Tryz.prog:=aU [xZ] ⟨Sc,trivial⟩ X2 fun x hw _ hy=>(hr x hw).trans hy
theorem X4:HI.Ok Tryz.prog:=by
 refine X3 fun x hw=> ?_;obtain ⟨⟨a0,a1,a2,a3,a4,a5,a6,a7,a8,_⟩,⟨a9,_⟩,_⟩:=x;have l2:List.length a2≤aS:=hw.1.1.1;have l3:List.length a3≤aS:=hw.1.2.1.1;have l4:List.length a4≤aS:=hw.1.2.2.1.1;have l5:List.length a5≤aS:=hw.1.2.2.2.1.1;have l6:List.length a6≤aS:=hw.1.2.2.2.2.1.1;have l7:List.length a7≤aS:=hw.1.2.2.2.2.2.1.1;have l8:List.length a8≤aS:=hw.1.2.2.2.2.2.2.1.1;show (sv a0 a1 a2 a3 a4 a5 a6 a7 a8 a9).eval=some ((((bp a5 a9),()),()),((),(),()));unfold sv mb;simp only [Out.eval]
 all_goals ((repeat' split)<;>simp_all)
def kB (id v:Int):Bool×Int:=(id==v,v)
def sw (a0:Int) (_:List Int) (a2:Int):Out (((Bool×Unit)×Unit)×(Unit×(Int×Unit)×Unit)):=
 .ret (((((a0==a2)),()),()),((),(a2,()),()))
def HJ:bM:={ f:=254,lend:=true,aK:=[⟨false,true,[.i .i64, .ro (.int .i64)]⟩,⟨true,false,[.i .i64]⟩],lay:=[none,none],rs:=[⟨false,false,[.b]⟩],F:=fun x=> .ret ((((kB x.1.1 x.2.1.1).1,()),()),((),((kB x.1.1 x.2.1.1).2,()),())) }
theorem X5 (x:az HJ.aK):bo [] (fun _=>none) Tryz.f254 HJ [.tmp 3] x=sw x.1.1 x.1.2.1 x.2.1.1:=by kernel_rfl
theorem X6 (hr:∀ x:ag×(Int×Unit)×Unit,aD HJ.aK x→(sw x.1.1 x.1.2.1 x.2.1.1).eval=(HJ.F x).eval):HJ.Ok Tryz.prog:=aU [] trivial X5 fun x hw _ hy=>(hr x hw).trans hy
theorem X7:HJ.Ok Tryz.prog:=by
 refine X6 fun x hw=> ?_;obtain ⟨⟨a0,a1,_⟩,⟨a2,_⟩,_⟩:=x;have l1:List.length a1≤aS:=hw.1.1.1;show (sw a0 a1 a2).eval=some ((((kB a0 a2).1,()),()),((),((kB a0 a2).2,()),()));unfold sw kB;simp only [Out.eval]
 all_goals ((repeat' split)<;>simp_all)
def mc (a:List gn) (v:Int):Int×Int:=(bt a v,v)
abbrev HK:=(List ag×Int×Int×Unit)×((Int×Unit)×Unit)
def nN:HK→Out (Round HK ((Unit)×((Int×Unit)×Unit)) ((Int×Unit)×((Int×Unit)×Unit)))
|((p0,p1,p2,_),(p3,_),_)=>
 .ite (decide (p2<p1))
 (.ite (decide (0≤p2))
 (.get (nth p0 (Int.toNat p2)) fun y1=>
 .ite ((kB y1.1 p3).1)
 (.ret (.ret ((p2,()),(((kB y1.1 p3).2,()),()))))
 (.ret (.again ((p0,p1,(IntKind.i64.wrap (p2+(1:Int))),()),(((kB y1.1 p3).2,()),())))))
 .fail)
 (.ret (.out ((),((p3,()),()))))
def oK (a0:List ag) (a1:Int):Out (((Int×Unit)×Unit)×(Unit×(Int×Unit)×Unit)):=
 .get (iter nN bn ((a0,((List.length a0:Nat):Int),(0:Int),()),((a1,()),()))) fun y1=> .alt y1 (fun y2=>
 .ret ((((-1:Int),()),()),((),(y2.2.1.1,()),()))) (fun y3=>
 .ret (((y3.1.1,()),()),((),(y3.2.1.1,()),())))
def X8:Nat→Option aq:=fun n=>bU [(0,⟨⟨[.ro ck (some 0), .fn 254 [1]]++dd 5++[.i .i64, .i .i64]++dd 10,[(1, .var [.i .i64])]⟩,⟨[.dead, .fn 254 [1]]++dd 17,[(1, .var [.i .i64])]⟩,some ⟨[.dead, .fn 254 [1], .dead, .dead, .i .i64]++dd 14,[(1, .var [.i .i64])]⟩,false⟩)] n
def x3:bM:={ f:=190,lend:=true,aK:=[⟨false,false,[.ro ck]⟩,⟨true,false,[.i .i64]⟩],lay:=[none,some (254,1)],rs:=[⟨false,false,[.i .i64]⟩],F:=fun x=> .ret ((((mc x.1.1 x.2.1.1).1,()),()),((),((mc x.1.1 x.2.1.1).2,()),())) }
theorem Sd (x:az x3.aK):bo [HJ] X8 Tryz.f190 x3 [.tmp 4] x=oK x.1.1 x.2.1.1:=by kernel_rfl
theorem Se (hr:∀ x:(List ag×Unit)×(Int×Unit)×Unit,aD x3.aK x→(oK x.1.1 x.2.1.1).eval=(x3.F x).eval):x3.Ok Tryz.prog:=aU [HJ] ⟨X7,trivial⟩ Sd fun x hw _ hy=>(hr x hw).trans hy
theorem Sf:x3.Ok Tryz.prog:=by
 refine Se fun x hw=> ?_;obtain ⟨⟨a0,_⟩,⟨a1,_⟩,_⟩:=x;have l0:List.length a0≤aS:=hw.1.1.1;show (oK a0 a1).eval=some ((((mc a0 a1).1,()),()),((),((mc a0 a1).2,()),()));unfold oK mc bt dv ie;have h:iter nN bn ((a0,((List.length a0:Nat):Int),(0:Int),()),((a1,()),()))=some (match List.findIdx? (fun x=>aV x==a1) a0 with|some i=> .inr ((((i:Nat):Int),()),((a1,()),()))|none=> .inl ((),((a1,()),()))):=dZ (f:=nN) a0 (fun x=>aV x==a1) (fun i=>((a0,((List.length a0:Nat):Int),((i:Nat):Int),()),((a1,()),()))) (y:=((),((a1,()),()))) (z:=fun i=>((((i:Nat):Int),()),((a1,()),())))
  (fun i hi hp=>by
   have h1:=ar (i:=i) (by omega);simp [nN,Out.eval,hi,h1,cond_eq_ite,aV,kB] at hp ⊢ <;>(try simp_all)<;>(try (rcases hp with h|h<;>simp_all)))
  (fun i hi hp=>by simp [nN,Out.eval,hi,cond_eq_ite,aV,kB] at hp ⊢ <;>(try simp_all)<;>(try (rcases hp with h|h<;>simp_all)))
  (by simp [nN,Out.eval]) l0
 refine (aa h).trans ?_;cases List.findIdx? (fun x=>aV x==a1) a0<;>rfl
def sx (_:Int) (_:Int) (_:List (List aw)) (_:List af) (_:List ah) (_:List ag) (a6:List ag) (_:List Int) (_:List Int) (a9:Int):Out (((Int×Unit)×Unit)×XI):=
 .ret ((((mc a6 a9).1,()),()),((),(),()))
def HL:bM:={ f:=189,lend:=true,aK:=[⟨false,true,[.i .i64, .i .i64, .ro (.sl b8), .ro jr, .ro cH, .ro ck, .ro ck, .ro (.int .i64), .ro (.int .i64)]⟩,⟨false,false,[.i .i64]⟩],lay:=[none,none],rs:=[⟨false,false,[.i .i64]⟩],F:=fun x=> .ret ((((bt x.1.2.2.2.2.2.2.1 x.2.1.1),()),()),((),(),())) }
theorem X9 (x:az HL.aK):bo [x3] (fun _=>none) Tryz.f189 HL [.tmp 4] x=sx x.1.1 x.1.2.1 x.1.2.2.1 x.1.2.2.2.1 x.1.2.2.2.2.1 x.1.2.2.2.2.2.1 x.1.2.2.2.2.2.2.1 x.1.2.2.2.2.2.2.2.1 x.1.2.2.2.2.2.2.2.2.1 x.2.1.1:=by kernel_rfl
theorem Ya (hr:∀ x:bw×(Int×Unit)×Unit,aD HL.aK x→(sx x.1.1 x.1.2.1 x.1.2.2.1 x.1.2.2.2.1 x.1.2.2.2.2.1 x.1.2.2.2.2.2.1 x.1.2.2.2.2.2.2.1 x.1.2.2.2.2.2.2.2.1 x.1.2.2.2.2.2.2.2.2.1 x.2.1.1).eval=(HL.F x).eval):HL.Ok Tryz.prog:=aU [x3] ⟨Sf,trivial⟩ X9 fun x hw _ hy=>(hr x hw).trans hy
theorem Yb:HL.Ok Tryz.prog:=by
 refine Ya fun x hw=> ?_;obtain ⟨⟨a0,a1,a2,a3,a4,a5,a6,a7,a8,_⟩,⟨a9,_⟩,_⟩:=x;have l2:List.length a2≤aS:=hw.1.1.1;have l3:List.length a3≤aS:=hw.1.2.1.1;have l4:List.length a4≤aS:=hw.1.2.2.1.1;have l5:List.length a5≤aS:=hw.1.2.2.2.1.1;have l6:List.length a6≤aS:=hw.1.2.2.2.2.1.1;have l7:List.length a7≤aS:=hw.1.2.2.2.2.2.1.1;have l8:List.length a8≤aS:=hw.1.2.2.2.2.2.2.1.1;show (sx a0 a1 a2 a3 a4 a5 a6 a7 a8 a9).eval=some ((((bt a6 a9),()),()),((),(),()));unfold sx mc;simp only [Out.eval]
 all_goals ((repeat' split)<;>simp_all)
def sy (a0:Int) (a1:List Int):Out (((Bool×Unit)×Unit)×(Unit×Unit)):=
 .ite ((m9 a0)==true)
 (.ite (((((List.length a1:Nat):Int)==(4:Int)))==true)
 (.ret ((((aG a1),()),()),((),())))
 (.ret (((false,()),()),((),()))))
 (.ret (((false,()),()),((),())))
def D4:bM:={ f:=143,lend:=true,aK:=[⟨false,true,[.i .i64, .ro (.int .i64)]⟩],lay:=[none],rs:=[⟨false,false,[.b]⟩],F:=fun x=> .ret ((((aR x.1.1 x.1.2.1),()),()),((),())) }
theorem Yc (x:az D4.aK):bo [B7,s8] (fun _=>none) Tryz.f143 D4 [.tmp 2] x=sy x.1.1 x.1.2.1:=by kernel_rfl
theorem Yd (hr:∀ x:ag×Unit,aD D4.aK x→(sy x.1.1 x.1.2.1).eval=(D4.F x).eval):D4.Ok Tryz.prog:=aU [B7,s8] ⟨Mo,ve,trivial⟩ Yc fun x hw _ hy=>(hr x hw).trans hy
theorem K1:D4.Ok Tryz.prog:=by
 refine Yd fun x hw=> ?_;obtain ⟨⟨a0,a1,_⟩,_⟩:=x;have l1:List.length a1≤aS:=hw.1.1.1;show (sy a0 a1).eval=some ((((aR a0 a1),()),()),((),()));unfold sy aR;simp only [eq4,Dc];cases m9 a0<;>cases decide (List.length a1=4)<;>rfl
abbrev MN:=(List Int×Int×Int×Int×Unit)×(Unit)
def sA:MN→Out (Round MN ((Unit)×(Unit)) ((Int×Unit)×(Unit)))
|((p0,p1,p2,p3,_),_)=>
 .ite (decide (p3<p2))
 (.ite (decide (0≤p3))
 (.get (nth p0 (Int.toNat p3)) fun y1=>
 .ite ((p1==y1))
 (.ret (.ret ((p3,()),())))
 (.ret (.again ((p0,p1,p2,(IntKind.i64.wrap (p3+(1:Int))),()),()))))
 .fail)
 (.ret (.out ((),())))
def sB (a0:List Int) (a1:Int):Out (((Int×Unit)×Unit)×XI):=
 .get (iter sA bn ((a0,a1,((List.length a0:Nat):Int),(0:Int),()),())) fun y1=> .alt y1 (fun _=>
 .ret ((((-1:Int),()),()),((),(),()))) (fun y3=>
 .ret (((y3.1.1,()),()),((),(),())))
def aes:Nat→Option aq:=fun n=>bU [(0,⟨⟨[.ro (.int .i64) (some 0), .i .i64]++dd 5++[.i .i64, .i .i64]++dd 10,[]⟩,⟨dd 19,[]⟩,some ⟨dd 4++[.i .i64]++dd 14,[]⟩,false⟩)] n
def gS (a:List Int) (v:Int):Int:=uQ (a.findIdx? fun y=>v==y)
def D5:bM:={ f:=194,lend:=true,aK:=[⟨false,false,[.ro (.int .i64)]⟩,⟨false,false,[.i .i64]⟩],lay:=[none,none],rs:=[⟨false,false,[.i .i64]⟩],F:=fun x=> .ret ((((gS x.1.1 x.2.1.1),()),()),((),(),())) }
theorem Ye (x:az D5.aK):bo [] aes Tryz.f194 D5 [.tmp 4] x=sB x.1.1 x.2.1.1:=by kernel_rfl
theorem Yf (hr:∀ x:(List Int×Unit)×(Int×Unit)×Unit,aD D5.aK x→(sB x.1.1 x.2.1.1).eval=(D5.F x).eval):D5.Ok Tryz.prog:=aU [] trivial Ye fun x hw _ hy=>(hr x hw).trans hy
theorem K2:D5.Ok Tryz.prog:=by
 refine Yf fun x hw=> ?_;obtain ⟨⟨a0,_⟩,⟨a1,_⟩,_⟩:=x;have l0:List.length a0≤aS:=hw.1.1.1;show (sB a0 a1).eval=some ((((gS a0 a1),()),()),((),(),()));unfold sB gS;have h:iter sA bn ((a0,a1,((List.length a0:Nat):Int),(0:Int),()),())=some (match List.findIdx? (fun y=>a1==y) a0 with|some i=> .inr ((((i:Nat):Int),()),())|none=> .inl ((),())):=dZ (f:=sA) a0 (fun y=>a1==y) (fun i=>((a0,a1,((List.length a0:Nat):Int),((i:Nat):Int),()),())) (y:=((),())) (z:=fun i=>((((i:Nat):Int),()),()))
  (fun i hi hp=>by
   have h1:=ar (i:=i) (by omega);simp [sA,Out.eval,hi,h1,cond_eq_ite] at hp ⊢ <;>(try simp_all)<;>(try (rcases hp with h|h<;>simp_all)))
  (fun i hi hp=>by simp [sA,Out.eval,hi,cond_eq_ite] at hp ⊢ <;>(try simp_all)<;>(try (rcases hp with h|h<;>simp_all)))
  (by simp [sA,Out.eval]) l0
 refine (aa h).trans ?_;cases List.findIdx? (fun y=>a1==y) a0<;>rfl
def sC (a0:List Int) (a1:Int):Out (((Bool×Unit)×Unit)×XI):=
 .ret ((((decide ((gS a0 a1)≥(0:Int))),()),()),((),(),()))
def HM:bM:={ f:=262,lend:=true,aK:=[⟨false,false,[.ro (.int .i64)]⟩,⟨false,false,[.i .i64]⟩],lay:=[none,none],rs:=[⟨false,false,[.b]⟩],F:=fun x=> .ret ((((lr x.1.1 x.2.1.1),()),()),((),(),())) }
theorem Yg (x:az HM.aK):bo [D5] (fun _=>none) Tryz.f262 HM [.tmp 4] x=sC x.1.1 x.2.1.1:=by kernel_rfl
theorem Yh (hr:∀ x:(List Int×Unit)×(Int×Unit)×Unit,aD HM.aK x→(sC x.1.1 x.2.1.1).eval=(HM.F x).eval):HM.Ok Tryz.prog:=aU [D5] ⟨K2,trivial⟩ Yg fun x hw _ hy=>(hr x hw).trans hy
theorem Yi:HM.Ok Tryz.prog:=by
 refine Yh fun x hw=> ?_;obtain ⟨⟨a0,_⟩,⟨a1,_⟩,_⟩:=x;have l0:List.length a0≤aS:=hw.1.1.1;show (sC a0 a1).eval=some ((((lr a0 a1),()),()),((),(),()));unfold sC gS lr;have e:(fun y:Int=>a1==y)=fun y=>decide (y=a1):=by
  funext y;rw [acK,aeM,ac3];exact ⟨Eq.symm,Eq.symm⟩
 rw [ku,e];rfl
def sD (_:Int) (a1:Int) (_:List (List aw)) (_:List af) (a4:List ah) (_:List ag) (_:List ag) (_:List Int) (_:List Int) (_:Int) (_:Int) (iI:Int) (_:Int) (_:Int) (_:List Int) (_:List Int) (ll:List Int) (s9:Int) (_:Int):Out (((Bool×Unit)×Unit)×XI):=
 .ite ((iI==(2:Int)))
 (.ret ((((decide (s9>a1)),()),()),((),(),())))
 (.ite ((iI==(4:Int)))
 (.ite ((lr ll s9)==true)
 (.ret ((((decide ((aF a4 s9)≥(0:Int))),()),()),((),(),())))
 (.ret (((false,()),()),((),(),()))))
 (.ite ((iI==(5:Int)))
 (.ite ((lr ll s9)==true)
 (.ret ((((decide ((aF a4 s9)≥(0:Int))),()),()),((),(),())))
 (.ret (((false,()),()),((),(),()))))
 (.ret (((((s9==(0:Int))),()),()),((),(),())))))
def HN:bM:={ f:=214,lend:=true,aK:=[⟨false,true,[.i .i64, .i .i64, .ro (.sl b8), .ro jr, .ro cH, .ro ck, .ro ck, .ro (.int .i64), .ro (.int .i64)]⟩,⟨false,true,[.i .i64, .i .i64, .i .i64, .i .i64, .i .i64, .ro (.int .i64), .ro (.int .i64), .ro (.int .i64), .i .i64, .i .i64]⟩],lay:=[none,none],rs:=[⟨false,false,[.b]⟩],F:=fun x=> .ret ((((gg x.1.2.1 x.1.2.2.2.2.1 x.2.1.2.2.1 x.2.1.2.2.2.2.2.2.2.1 x.2.1.2.2.2.2.2.2.2.2.1),()),()),((),(),())) }
theorem Yj (x:az HN.aK):bo [HM,Ca] (fun _=>none) Tryz.f214 HN [.tmp 4] x=sD x.1.1 x.1.2.1 x.1.2.2.1 x.1.2.2.2.1 x.1.2.2.2.2.1 x.1.2.2.2.2.2.1 x.1.2.2.2.2.2.2.1 x.1.2.2.2.2.2.2.2.1 x.1.2.2.2.2.2.2.2.2.1 x.2.1.1 x.2.1.2.1 x.2.1.2.2.1 x.2.1.2.2.2.1 x.2.1.2.2.2.2.1 x.2.1.2.2.2.2.2.1 x.2.1.2.2.2.2.2.2.1 x.2.1.2.2.2.2.2.2.2.1 x.2.1.2.2.2.2.2.2.2.2.1 x.2.1.2.2.2.2.2.2.2.2.2.1:=by kernel_rfl
theorem Yk (hr:∀ x:bw×XM×Unit,aD HN.aK x→(sD x.1.1 x.1.2.1 x.1.2.2.1 x.1.2.2.2.1 x.1.2.2.2.2.1 x.1.2.2.2.2.2.1 x.1.2.2.2.2.2.2.1 x.1.2.2.2.2.2.2.2.1 x.1.2.2.2.2.2.2.2.2.1 x.2.1.1 x.2.1.2.1 x.2.1.2.2.1 x.2.1.2.2.2.1 x.2.1.2.2.2.2.1 x.2.1.2.2.2.2.2.1 x.2.1.2.2.2.2.2.2.1 x.2.1.2.2.2.2.2.2.2.1 x.2.1.2.2.2.2.2.2.2.2.1 x.2.1.2.2.2.2.2.2.2.2.2.1).eval=(HN.F x).eval):HN.Ok Tryz.prog:=aU [HM,Ca] ⟨Yi,MM,trivial⟩ Yj fun x hw _ hy=>(hr x hw).trans hy
theorem Yl:HN.Ok Tryz.prog:=by
 refine Yk fun x hw=> ?_;obtain ⟨⟨a0,a1,a2,a3,a4,a5,a6,a7,a8,_⟩,⟨a9,fg,iI,a12,mM,zu,lu,ll,s9,wz,_⟩,_⟩:=x;have l2:List.length a2≤aS:=hw.1.1.1;have l3:List.length a3≤aS:=hw.1.2.1.1;have l4:List.length a4≤aS:=hw.1.2.2.1.1;have l5:List.length a5≤aS:=hw.1.2.2.2.1.1;have l6:List.length a6≤aS:=hw.1.2.2.2.2.1.1;have l7:List.length a7≤aS:=hw.1.2.2.2.2.2.1.1;have l8:List.length a8≤aS:=hw.1.2.2.2.2.2.2.1.1;have l14:List.length zu≤aS:=hw.2.1.1.1;have l15:List.length lu≤aS:=hw.2.1.2.1.1;have l16:List.length ll≤aS:=hw.2.1.2.2.1.1;show (sD a0 a1 a2 a3 a4 a5 a6 a7 a8 a9 fg iI a12 mM zu lu ll s9 wz).eval=some ((((gg a1 a4 iI ll s9),()),()),((),(),()));unfold sD gg;simp only [Out.eval,cond_eq_ite]
 all_goals ((repeat' split)<;>simp_all)
def fT (f nx tk:Int) (os:List ah):Bool×Int×Int:=(!(f== -1)&&decide (aF os f<0),nx,tk)
def sE (a0:Int) (a1:Int) (a2:Int) (_:List (List aw)) (_:List af) (a5:List ah) (_:List ag) (_:List ag) (_:List Int) (_:List Int):Out (((Bool×Unit)×Unit)×(Unit×(Int×Int×Unit)×Unit)):=
 .ite (((a0 != (-1:Int)))==true)
 (.ret ((((decide ((aF a5 a0)<(0:Int))),()),()),((),(a1,a2,()),())))
 (.ret (((false,()),()),((),(a1,a2,()),())))
def HO:bM:={ f:=215,lend:=true,aK:=[⟨false,false,[.i .i64]⟩,⟨true,false,[.i .i64, .i .i64, .ro (.sl b8), .ro jr, .ro cH, .ro ck, .ro ck, .ro (.int .i64), .ro (.int .i64)]⟩],lay:=[none,none],rs:=[⟨false,false,[.b]⟩],F:=fun x=> .ret ((((fT x.1.1 x.2.1.1 x.2.1.2.1 x.2.1.2.2.2.2.1).1,()),()),((),((fT x.1.1 x.2.1.1 x.2.1.2.1 x.2.1.2.2.2.2.1).2.1,(fT x.1.1 x.2.1.1 x.2.1.2.1 x.2.1.2.2.2.2.1).2.2,()),())) }
theorem Ym (x:az HO.aK):bo [Ca] (fun _=>none) Tryz.f215 HO [.tmp 3] x=sE x.1.1 x.2.1.1 x.2.1.2.1 x.2.1.2.2.1 x.2.1.2.2.2.1 x.2.1.2.2.2.2.1 x.2.1.2.2.2.2.2.1 x.2.1.2.2.2.2.2.2.1 x.2.1.2.2.2.2.2.2.2.1 x.2.1.2.2.2.2.2.2.2.2.1:=by kernel_rfl
theorem Yn (hr:∀ x:(Int×Unit)×bw×Unit,aD HO.aK x→(sE x.1.1 x.2.1.1 x.2.1.2.1 x.2.1.2.2.1 x.2.1.2.2.2.1 x.2.1.2.2.2.2.1 x.2.1.2.2.2.2.2.1 x.2.1.2.2.2.2.2.2.1 x.2.1.2.2.2.2.2.2.2.1 x.2.1.2.2.2.2.2.2.2.2.1).eval=(HO.F x).eval):HO.Ok Tryz.prog:=aU [Ca] ⟨MM,trivial⟩ Ym fun x hw _ hy=>(hr x hw).trans hy
theorem Yo:HO.Ok Tryz.prog:=by
 refine Yn fun x hw=> ?_;obtain ⟨⟨a0,_⟩,⟨a1,a2,a3,a4,a5,a6,a7,a8,a9,_⟩,_⟩:=x;have l3:List.length a3≤aS:=hw.2.1.1.1;have l4:List.length a4≤aS:=hw.2.1.2.1.1;have l5:List.length a5≤aS:=hw.2.1.2.2.1.1;have l6:List.length a6≤aS:=hw.2.1.2.2.2.1.1;have l7:List.length a7≤aS:=hw.2.1.2.2.2.2.1.1;have l8:List.length a8≤aS:=hw.2.1.2.2.2.2.2.1.1;have l9:List.length a9≤aS:=hw.2.1.2.2.2.2.2.2.1.1;show (sE a0 a1 a2 a3 a4 a5 a6 a7 a8 a9).eval=some ((((fT a0 a1 a2 a5).1,()),()),((),((fT a0 a1 a2 a5).2.1,(fT a0 a1 a2 a5).2.2,()),()));unfold sE fT;simp only [Out.eval,cond_eq_ite]
 all_goals ((repeat' split)<;>simp_all)
def jZ (f:Int):Bool:= !(f== -1)
def xp (a0:Int):Out (((Bool×Unit)×Unit)×(Unit×Unit)):=
 .ret (((((a0 != (-1:Int))),()),()),((),()))
def HP:bM:={ f:=216,lend:=true,aK:=[⟨false,false,[.i .i64]⟩],lay:=[none],rs:=[⟨false,false,[.b]⟩],F:=fun x=> .ret ((((jZ x.1.1),()),()),((),())) }
theorem Yp (x:az HP.aK):bo [] (fun _=>none) Tryz.f216 HP [.tmp 2] x=xp x.1.1:=by kernel_rfl
theorem Yq (hr:∀ x:(Int×Unit)×Unit,aD HP.aK x→(xp x.1.1).eval=(HP.F x).eval):HP.Ok Tryz.prog:=aU [] trivial Yp fun x hw _ hy=>(hr x hw).trans hy
theorem Yr:HP.Ok Tryz.prog:=by
 refine Yq fun x hw=> ?_;obtain ⟨⟨a0,_⟩,_⟩:=x;show (xp a0).eval=some ((((jZ a0),()),()),((),()));rfl
def gr (a:List Int) (nx tk:Int) (os:List ah):Int×Int×Int:=(uQ (a.findIdx? fun f=>(fT f nx tk os).1),nx,tk)
abbrev HQ:=XE×(bw×Unit)
def nO:HQ→Out (Round HQ ((Unit)×(bw×Unit)) ((Int×Unit)×(bw×Unit)))
|((p0,p1,p2,_),(p3,p4,p5,p6,p7,p8,p9,cz,cE,_),_)=>
 .ite (decide (p2<p1))
 (.ite (decide (0≤p2))
 (.get (nth p0 (Int.toNat p2)) fun y1=>
 .ite ((fT y1 p3 p4 p7).1)
 (.ret (.ret ((p2,()),(((fT y1 p3 p4 p7).2.1,(fT y1 p3 p4 p7).2.2,p5,p6,p7,p8,p9,cz,cE,()),()))))
 (.ret (.again ((p0,p1,(IntKind.i64.wrap (p2+(1:Int))),()),(((fT y1 p3 p4 p7).2.1,(fT y1 p3 p4 p7).2.2,p5,p6,p7,p8,p9,cz,cE,()),())))))
 .fail)
 (.ret (.out ((),((p3,p4,p5,p6,p7,p8,p9,cz,cE,()),()))))
def oL (a0:List Int) (a1:Int) (a2:Int) (a3:List (List aw)) (a4:List af) (a5:List ah) (a6:List ag) (a7:List ag) (a8:List Int) (a9:List Int):Out (((Int×Unit)×Unit)×(Unit×(Int×Int×Unit)×Unit)):=
 .get (iter nO bn ((a0,((List.length a0:Nat):Int),(0:Int),()),((a1,a2,a3,a4,a5,a6,a7,a8,a9,()),()))) fun y1=> .alt y1 (fun y2=>
 .ret ((((-1:Int),()),()),((),(y2.2.1.1,y2.2.1.2.1,()),()))) (fun y3=>
 .ret (((y3.1.1,()),()),((),(y3.2.1.1,y3.2.1.2.1,()),())))
abbrev AR:List (Nat×dT):=[(1, .var [.i .i64, .i .i64, .ro (.sl b8) (some 2), .ro jr (some 3), .ro cH (some 4), .ro ck (some 5), .ro ck (some 6), .ro (.int .i64) (some 7), .ro (.int .i64) (some 8)])]
def Ys:Nat→Option aq:=fun n=>bU [(0,⟨⟨[.ro (.int .i64) (some 0), .fn 215 [1]]++dd 5++[.i .i64, .i .i64]++dd 10,AR⟩,⟨[.dead, .fn 215 [1]]++dd 17,AR⟩,some ⟨[.dead, .fn 215 [1], .dead, .dead, .i .i64]++dd 14,AR⟩,false⟩)] n
def x4:bM:={ f:=261,lend:=true,aK:=[⟨false,false,[.ro (.int .i64)]⟩,⟨true,false,[.i .i64, .i .i64, .ro (.sl b8), .ro jr, .ro cH, .ro ck, .ro ck, .ro (.int .i64), .ro (.int .i64)]⟩],lay:=[none,some (215,1)],rs:=[⟨false,false,[.i .i64]⟩],F:=fun x=> .ret ((((gr x.1.1 x.2.1.1 x.2.1.2.1 x.2.1.2.2.2.2.1).1,()),()),((),((gr x.1.1 x.2.1.1 x.2.1.2.1 x.2.1.2.2.2.2.1).2.1,(gr x.1.1 x.2.1.1 x.2.1.2.1 x.2.1.2.2.2.2.1).2.2,()),())) }
theorem Sg (x:az x4.aK):bo [HO] Ys Tryz.f261 x4 [.tmp 4] x=oL x.1.1 x.2.1.1 x.2.1.2.1 x.2.1.2.2.1 x.2.1.2.2.2.1 x.2.1.2.2.2.2.1 x.2.1.2.2.2.2.2.1 x.2.1.2.2.2.2.2.2.1 x.2.1.2.2.2.2.2.2.2.1 x.2.1.2.2.2.2.2.2.2.2.1:=by kernel_rfl
theorem Sh (hr:∀ x:(List Int×Unit)×bw×Unit,aD x4.aK x→(oL x.1.1 x.2.1.1 x.2.1.2.1 x.2.1.2.2.1 x.2.1.2.2.2.1 x.2.1.2.2.2.2.1 x.2.1.2.2.2.2.2.1 x.2.1.2.2.2.2.2.2.1 x.2.1.2.2.2.2.2.2.2.1 x.2.1.2.2.2.2.2.2.2.2.1).eval=(x4.F x).eval):x4.Ok Tryz.prog:=aU [HO] ⟨Yo,trivial⟩ Sg fun x hw _ hy=>(hr x hw).trans hy
theorem Si:x4.Ok Tryz.prog:=by
 refine Sh fun x hw=> ?_;obtain ⟨⟨a0,_⟩,⟨a1,a2,a3,a4,a5,a6,a7,a8,a9,_⟩,_⟩:=x;have l0:List.length a0≤aS:=hw.1.1.1;have l3:List.length a3≤aS:=hw.2.1.1.1;have l4:List.length a4≤aS:=hw.2.1.2.1.1;have l5:List.length a5≤aS:=hw.2.1.2.2.1.1;have l6:List.length a6≤aS:=hw.2.1.2.2.2.1.1;have l7:List.length a7≤aS:=hw.2.1.2.2.2.2.1.1;have l8:List.length a8≤aS:=hw.2.1.2.2.2.2.2.1.1;have l9:List.length a9≤aS:=hw.2.1.2.2.2.2.2.2.1.1;show (oL a0 a1 a2 a3 a4 a5 a6 a7 a8 a9).eval=some ((((gr a0 a1 a2 a5).1,()),()),((),((gr a0 a1 a2 a5).2.1,(gr a0 a1 a2 a5).2.2,()),()));unfold oL gr;have h:iter nO bn ((a0,((List.length a0:Nat):Int),(0:Int),()),((a1,a2,a3,a4,a5,a6,a7,a8,a9,()),()))=some (match List.findIdx? (fun f=>(fT f a1 a2 a5).1) a0 with|some i=> .inr ((((i:Nat):Int),()),((a1,a2,a3,a4,a5,a6,a7,a8,a9,()),()))|none=> .inl ((),((a1,a2,a3,a4,a5,a6,a7,a8,a9,()),()))):=dZ (f:=nO) a0 (fun f=>(fT f a1 a2 a5).1) (fun i=>((a0,((List.length a0:Nat):Int),((i:Nat):Int),()),((a1,a2,a3,a4,a5,a6,a7,a8,a9,()),()))) (y:=((),((a1,a2,a3,a4,a5,a6,a7,a8,a9,()),()))) (z:=fun i=>((((i:Nat):Int),()),((a1,a2,a3,a4,a5,a6,a7,a8,a9,()),())))
  (fun i hi hp=>by
   have h1:=ar (i:=i) (by omega);simp [nO,Out.eval,hi,h1,cond_eq_ite,fT] at hp ⊢ <;>(try simp_all)<;>(try (rcases hp with h|h<;>simp_all)))
  (fun i hi hp=>by simp [nO,Out.eval,hi,cond_eq_ite,fT] at hp ⊢ <;>(try simp_all)<;>(try (rcases hp with h|h<;>simp_all)))
  (by simp [nO,Out.eval]) l0
 refine (aa h).trans ?_;cases List.findIdx? (fun f=>(fT f a1 a2 a5).1) a0<;>rfl
def fE (a:List Int) (nx tk:Int) (os:List ah):Bool×Int×Int:=(a.any fun f=>(fT f nx tk os).1,nx,tk)
def oM (a0:List Int) (a1:Int) (a2:Int) (_:List (List aw)) (_:List af) (a5:List ah) (_:List ag) (_:List ag) (_:List Int) (_:List Int):Out (((Bool×Unit)×Unit)×(Unit×(Int×Int×Unit)×Unit)):=
 .ret ((((decide ((gr a0 a1 a2 a5).1≥(0:Int))),()),()),((),((gr a0 a1 a2 a5).2.1,(gr a0 a1 a2 a5).2.2,()),()))
def x5:bM:={ f:=212,lend:=true,aK:=[⟨false,false,[.ro (.int .i64)]⟩,⟨true,false,[.i .i64, .i .i64, .ro (.sl b8), .ro jr, .ro cH, .ro ck, .ro ck, .ro (.int .i64), .ro (.int .i64)]⟩],lay:=[none,some (215,1)],rs:=[⟨false,false,[.b]⟩],F:=fun x=> .ret ((((fE x.1.1 x.2.1.1 x.2.1.2.1 x.2.1.2.2.2.2.1).1,()),()),((),((fE x.1.1 x.2.1.1 x.2.1.2.1 x.2.1.2.2.2.2.1).2.1,(fE x.1.1 x.2.1.1 x.2.1.2.1 x.2.1.2.2.2.2.1).2.2,()),())) }
theorem Sj (x:az x5.aK):bo [x4] (fun _=>none) Tryz.f212 x5 [.tmp 4] x=oM x.1.1 x.2.1.1 x.2.1.2.1 x.2.1.2.2.1 x.2.1.2.2.2.1 x.2.1.2.2.2.2.1 x.2.1.2.2.2.2.2.1 x.2.1.2.2.2.2.2.2.1 x.2.1.2.2.2.2.2.2.2.1 x.2.1.2.2.2.2.2.2.2.2.1:=by kernel_rfl
theorem Sk (hr:∀ x:(List Int×Unit)×bw×Unit,aD x5.aK x→(oM x.1.1 x.2.1.1 x.2.1.2.1 x.2.1.2.2.1 x.2.1.2.2.2.1 x.2.1.2.2.2.2.1 x.2.1.2.2.2.2.2.1 x.2.1.2.2.2.2.2.2.1 x.2.1.2.2.2.2.2.2.2.1 x.2.1.2.2.2.2.2.2.2.2.1).eval=(x5.F x).eval):x5.Ok Tryz.prog:=aU [x4] ⟨Si,trivial⟩ Sj fun x hw _ hy=>(hr x hw).trans hy
theorem Sl:x5.Ok Tryz.prog:=by
 refine Sk fun x hw=> ?_;obtain ⟨⟨a0,_⟩,⟨a1,a2,a3,a4,a5,a6,a7,a8,a9,_⟩,_⟩:=x;have l0:List.length a0≤aS:=hw.1.1.1;have l3:List.length a3≤aS:=hw.2.1.1.1;have l4:List.length a4≤aS:=hw.2.1.2.1.1;have l5:List.length a5≤aS:=hw.2.1.2.2.1.1;have l6:List.length a6≤aS:=hw.2.1.2.2.2.1.1;have l7:List.length a7≤aS:=hw.2.1.2.2.2.2.1.1;have l8:List.length a8≤aS:=hw.2.1.2.2.2.2.2.1.1;have l9:List.length a9≤aS:=hw.2.1.2.2.2.2.2.2.1.1;show (oM a0 a1 a2 a3 a4 a5 a6 a7 a8 a9).eval=some ((((fE a0 a1 a2 a5).1,()),()),((),((fE a0 a1 a2 a5).2.1,(fE a0 a1 a2 a5).2.2,()),()));unfold oM fE gr;rw [ku];rfl
def mf (a:List Int):Int:=uQ (a.findIdx? jZ)
abbrev HR:=XE×(Unit)
def nP:HR→Out (Round HR ((Unit)×(Unit)) ((Int×Unit)×(Unit)))
|((p0,p1,p2,_),_)=>
 .ite (decide (p2<p1))
 (.ite (decide (0≤p2))
 (.get (nth p0 (Int.toNat p2)) fun y1=>
 .ite (jZ y1)
 (.ret (.ret ((p2,()),())))
 (.ret (.again ((p0,p1,(IntKind.i64.wrap (p2+(1:Int))),()),()))))
 .fail)
 (.ret (.out ((),())))
def oN (a0:List Int):Out (((Int×Unit)×Unit)×(Unit×Unit)):=
 .get (iter nP bn ((a0,((List.length a0:Nat):Int),(0:Int),()),())) fun y1=> .alt y1 (fun _=>
 .ret ((((-1:Int),()),()),((),()))) (fun y3=>
 .ret (((y3.1.1,()),()),((),())))
def Yt:Nat→Option aq:=fun n=>bU [(0,⟨⟨[.ro (.int .i64) (some 0), .fn 216 []]++dd 5++[.i .i64, .i .i64]++dd 10,[]⟩,⟨dd 19,[]⟩,some ⟨dd 4++[.i .i64]++dd 14,[]⟩,false⟩)] n
def x6:bM:={ f:=261,lend:=true,aK:=[⟨false,false,[.ro (.int .i64)]⟩],lay:=[none,some (216,0)],rs:=[⟨false,false,[.i .i64]⟩],F:=fun x=> .ret ((((mf x.1.1),()),()),((),())) }
theorem Sm (x:az x6.aK):bo [HP] Yt Tryz.f261 x6 [.tmp 4] x=oN x.1.1:=by kernel_rfl
theorem Sp (hr:∀ x:(List Int×Unit)×Unit,aD x6.aK x→(oN x.1.1).eval=(x6.F x).eval):x6.Ok Tryz.prog:=aU [HP] ⟨Yr,trivial⟩ Sm fun x hw _ hy=>(hr x hw).trans hy
theorem Sq:x6.Ok Tryz.prog:=by
 refine Sp fun x hw=> ?_;obtain ⟨⟨a0,_⟩,_⟩:=x;have l0:List.length a0≤aS:=hw.1.1.1;show (oN a0).eval=some ((((mf a0),()),()),((),()));unfold oN mf;have h:iter nP bn ((a0,((List.length a0:Nat):Int),(0:Int),()),())=some (match List.findIdx? jZ a0 with|some i=> .inr ((((i:Nat):Int),()),())|none=> .inl ((),())):=dZ (f:=nP) a0 jZ (fun i=>((a0,((List.length a0:Nat):Int),((i:Nat):Int),()),())) (y:=((),())) (z:=fun i=>((((i:Nat):Int),()),()))
  (fun i hi hp=>by
   have h1:=ar (i:=i) (by omega);simp [nP,Out.eval,hi,h1,cond_eq_ite] at hp ⊢ <;>(try simp_all)<;>(try (rcases hp with h|h<;>simp_all)))
  (fun i hi hp=>by simp [nP,Out.eval,hi,cond_eq_ite] at hp ⊢ <;>(try simp_all)<;>(try (rcases hp with h|h<;>simp_all)))
  (by simp [nP,Out.eval]) l0
 refine (aa h).trans ?_;cases List.findIdx? jZ a0<;>rfl
def iB (a:List Int):Bool:=a.any jZ
def oO (a0:List Int):Out (((Bool×Unit)×Unit)×(Unit×Unit)):=
 .ret ((((decide ((mf a0)≥(0:Int))),()),()),((),()))
def x7:bM:={ f:=212,lend:=true,aK:=[⟨false,false,[.ro (.int .i64)]⟩],lay:=[none,some (216,0)],rs:=[⟨false,false,[.b]⟩],F:=fun x=> .ret ((((iB x.1.1),()),()),((),())) }
theorem Sr (x:az x7.aK):bo [x6] (fun _=>none) Tryz.f212 x7 [.tmp 4] x=oO x.1.1:=by kernel_rfl
theorem Ss (hr:∀ x:(List Int×Unit)×Unit,aD x7.aK x→(oO x.1.1).eval=(x7.F x).eval):x7.Ok Tryz.prog:=aU [x6] ⟨Sq,trivial⟩ Sr fun x hw _ hy=>(hr x hw).trans hy
theorem St:x7.Ok Tryz.prog:=by
 refine Ss fun x hw=> ?_;obtain ⟨⟨a0,_⟩,_⟩:=x;have l0:List.length a0≤aS:=hw.1.1.1;show (oO a0).eval=some ((((iB a0),()),()),((),()));unfold oO iB mf;rw [ku];rfl
theorem Ol {os:List ah} {nx tk:Int} (a:List Int):(a.any fun f=>(fT f nx tk os).1)= !(a.all fun f=>f== -1||decide (0≤aF os f)):=by
 rw [acK];simp only [fT,List.any_eq_true,aaE,beq_eq_false_iff_ne,ack,Bool.not_eq_eq_eq_not,Bool.not_true,List.all_eq_false,afR,aeM,not_or,Int.not_le]
theorem Su (os:List ah) (st:Int) (a:List Int):a.all (pj os st)=((a.all fun f=>f== -1||decide (0≤aF os f))&&(!(st==6)|| !a.any jZ)):=by
 induction a with
 |nil=>cases (st==6)<;>rfl
 |cons f r ih=>
  rw [acY,ih,acY,List.any_cons];unfold pj jZ;cases f== -1<;>cases decide (0≤aF os f)<;>cases (st==6)<;>cases (r.all fun f=>f== -1||decide (0≤aF os f))<;>cases (r.any fun f=> !(f== -1))<;>rfl
end
section
open Go Go.ChangeShapes Go.WideShapes Go.ChangeAt Go.RowKit
theorem Om {β:Type} (st code par:Int) (n:Nat) (fo:Bool) (r:Bool→β):
  (Out.ite (st==(6:Int)) (Out.ite (((((n:Nat):Int)==(0:Int)))==true) (.ite (((par != (0:Int)))==true) (.ret (r (!fo))) (.ret (r false))) (.ret (r false)))
   (Out.ite ((decide (((n:Nat):Int)>(0:Int)))==true) (.ret (r (code==(0:Int)))) (.ret (r false)))).eval=
   some (r (if st=6 then decide (n=0)&& !(par==0)&& !fo else decide (0<n)&&code==0)):=by
 simp only [Out.eval,cond_eq_ite];rcases Nat.eq_zero_or_pos n with h2|h2
 . subst h2
   by_cases h:st=6
   . by_cases h0:par=0
     . simp [h,h0]
     . have h1:(par==(0:Int))=false:=by simpa using h0
       simp [h,h0,h1]
   . simp [h]
 . have h3:¬ n=0:=by omega
   by_cases h:st=6<;>simp [h,h2,h3]
theorem Ke {β:Type} (n m:Nat) (wo uo fb:Bool) (r:Bool→β) {e:Out β} {b:Bool} (he:e.eval=some (r b)):
  (Out.ite ((decide (((n:Nat):Int)>(12:Int)))==false) (.ite ((4:Int)==0) .fail (.ite ((((Int.tmod ((n:Nat):Int) (4:Int)) != (0:Int)))==false) (.ite ((!wo)==false) (.ite (((((m:Nat):Int) != (4:Int)))==false)
   (.ite (!uo) (.ret (r false)) (.ite fb (.ret (r false)) e)) (.ret (r false))) (.ret (r false))) (.ret (r false)))) (.ret (r false))).eval=
   some (r (decide (n≤12)&&(decide (n % 4=0)&&(wo&&(decide (m=4)&&(uo&&(!fb&&b))))))):=by
 simp only [Out.eval,he,al4,aaB,ne4,beq_false,Bool.not_not];cases decide (n≤12)<;>cases decide (n % 4=0)<;>cases wo<;>cases decide (m=4)<;>cases uo<;>cases fb<;>rfl
theorem Yu (nx tk:Int) (os:List ah) (st par code:Int) (mem fds:List Int):(fds.all (pj os st)&&tC par st mem code)=
  (!(fE fds nx tk os).1&&(if st=6 then decide (mem.length=0)&& !(par==0)&& !(iB fds) else decide (0<mem.length)&&code==0)):=by
 unfold fE iB tC;rw [Su,Ol];by_cases h:st=6
 . have h1:(st==(6:Int))=true:=by simpa using h
   rw [h1,aaK h,aaK h];cases (fds.all fun f=>f== -1||decide (0≤aF os f))<;>cases decide (mem.length=0)<;>cases (par==(0:Int))<;>cases fds.any jZ<;>rfl
 . have h1:(st==(6:Int))=false:=by simpa using h
   rw [h1,aap h,aap h];cases (fds.all fun f=>f== -1||decide (0≤aF os f))<;>cases decide (0<mem.length)<;>rfl
def sF (a0:Int) (a1:Int) (a2:List (List aw)) (a3:List af) (a4:List ah) (_:List ag) (_:List ag) (_:List Int) (_:List Int) (a9:Int) (fg:Int) (iI:Int) (a12:Int) (mM:Int) (zu:List Int) (lu:List Int) (ll:List Int) (s9:Int) (wz:Int):Out (((Bool×Unit)×Unit)×XI):=
 .ite ((!(dC a9 (1:Int) (IntKind.i64.wrap (a0 - (1:Int)))))==false)
 (.ite ((!(dC iI (1:Int) (6:Int)))==false)
 (.ite ((!(dC a12 (0:Int) (IntKind.i64.wrap (((List.length a2:Nat):Int) - (1:Int)))))==false)
 (.ite ((!(aR mM zu))==false)
 (.ite (!(b6 wz))
 (.ret (((false,()),()),((),(),())))
 (.ite ((fg != (0:Int)))
 (.ite ((decide ((ak a3 fg)<(0:Int)))==false)
 (.ite (((fg==a9))==false)
 (.ite (decide (0≤(ak a3 fg)))
 (.get (nth a3 (Int.toNat (ak a3 fg))) fun y1=>
 .ite ((y1.2.2.1==(6:Int)))
 (.ret (((false,()),()),((),(),())))
 (.ite ((decide (((List.length lu:Nat):Int)>(12:Int)))==false)
 (.ite ((4:Int)==0)
 .fail
 (.ite ((((Int.tmod ((List.length lu:Nat):Int) (4:Int)) != (0:Int)))==false)
 (.ite ((!(aG lu))==false)
 (.ite (((((List.length ll:Nat):Int) != (4:Int)))==false)
 (.ite (!(gg a1 a4 iI ll s9))
 (.ret (((false,()),()),((),(),())))
 (.ite ((fE ll a0 a1 a4).1)
 (.ret (((false,()),()),((),(),())))
 (.ite ((iI==(6:Int)))
 (.ite (((((List.length lu:Nat):Int)==(0:Int)))==true)
 (.ite (((fg != (0:Int)))==true)
 (.ret ((((!(iB ll)),()),()),((),(),())))
 (.ret (((false,()),()),((),(),()))))
 (.ret (((false,()),()),((),(),()))))
 (.ite ((decide (((List.length lu:Nat):Int)>(0:Int)))==true)
 (.ret (((((wz==(0:Int))),()),()),((),(),())))
 (.ret (((false,()),()),((),(),())))))))
 (.ret (((false,()),()),((),(),()))))
 (.ret (((false,()),()),((),(),()))))
 (.ret (((false,()),()),((),(),())))))
 (.ret (((false,()),()),((),(),())))))
 .fail)
 (.ret (((false,()),()),((),(),()))))
 (.ret (((false,()),()),((),(),()))))
 (.ite ((decide (((List.length lu:Nat):Int)>(12:Int)))==false)
 (.ite ((4:Int)==0)
 .fail
 (.ite ((((Int.tmod ((List.length lu:Nat):Int) (4:Int)) != (0:Int)))==false)
 (.ite ((!(aG lu))==false)
 (.ite (((((List.length ll:Nat):Int) != (4:Int)))==false)
 (.ite (!(gg a1 a4 iI ll s9))
 (.ret (((false,()),()),((),(),())))
 (.ite ((fE ll a0 a1 a4).1)
 (.ret (((false,()),()),((),(),())))
 (.ite ((iI==(6:Int)))
 (.ite (((((List.length lu:Nat):Int)==(0:Int)))==true)
 (.ite (((fg != (0:Int)))==true)
 (.ret ((((!(iB ll)),()),()),((),(),())))
 (.ret (((false,()),()),((),(),()))))
 (.ret (((false,()),()),((),(),()))))
 (.ite ((decide (((List.length lu:Nat):Int)>(0:Int)))==true)
 (.ret (((((wz==(0:Int))),()),()),((),(),())))
 (.ret (((false,()),()),((),(),())))))))
 (.ret (((false,()),()),((),(),()))))
 (.ret (((false,()),()),((),(),()))))
 (.ret (((false,()),()),((),(),())))))
 (.ret (((false,()),()),((),(),()))))))
 (.ret (((false,()),()),((),(),()))))
 (.ret (((false,()),()),((),(),()))))
 (.ret (((false,()),()),((),(),()))))
 (.ret (((false,()),()),((),(),())))
def iO (next tick:Int) (jX:List (List aw)) (ps:List af) (os:List ah) (pid par st pg pc:Int) (vm mem fds:List Int) (om code:Int):Bool:=
 dC pid 1 (IntKind.i64.wrap (next - 1))&&dw tick jX.length ps os pid par st pg pc vm mem fds om code
def HS:bM:={ f:=128,lend:=true,aK:=[⟨false,true,[.i .i64, .i .i64, .ro (.sl b8), .ro jr, .ro cH, .ro ck, .ro ck, .ro (.int .i64), .ro (.int .i64)]⟩,⟨false,true,[.i .i64, .i .i64, .i .i64, .i .i64, .i .i64, .ro (.int .i64), .ro (.int .i64), .ro (.int .i64), .i .i64, .i .i64]⟩],lay:=[none,none],rs:=[⟨false,false,[.b]⟩],F:=fun x=> .ret ((((iO x.1.1 x.1.2.1 x.1.2.2.1 x.1.2.2.2.1 x.1.2.2.2.2.1 x.2.1.1 x.2.1.2.1 x.2.1.2.2.1 x.2.1.2.2.2.1 x.2.1.2.2.2.2.1 x.2.1.2.2.2.2.2.1 x.2.1.2.2.2.2.2.2.1 x.2.1.2.2.2.2.2.2.2.1 x.2.1.2.2.2.2.2.2.2.2.1 x.2.1.2.2.2.2.2.2.2.2.2.1),()),()),((),(),())) }
theorem Yv (x:az HS.aK):bo [kQ,D4,wD,D6,s8,HN,x5,x7] (fun _=>none) Tryz.f128 HS [.tmp 4] x=sF x.1.1 x.1.2.1 x.1.2.2.1 x.1.2.2.2.1 x.1.2.2.2.2.1 x.1.2.2.2.2.2.1 x.1.2.2.2.2.2.2.1 x.1.2.2.2.2.2.2.2.1 x.1.2.2.2.2.2.2.2.2.1 x.2.1.1 x.2.1.2.1 x.2.1.2.2.1 x.2.1.2.2.2.1 x.2.1.2.2.2.2.1 x.2.1.2.2.2.2.2.1 x.2.1.2.2.2.2.2.2.1 x.2.1.2.2.2.2.2.2.2.1 x.2.1.2.2.2.2.2.2.2.2.1 x.2.1.2.2.2.2.2.2.2.2.2.1:=by kernel_rfl
theorem Yw (hr:∀ x:bw×XM×Unit,aD HS.aK x→(sF x.1.1 x.1.2.1 x.1.2.2.1 x.1.2.2.2.1 x.1.2.2.2.2.1 x.1.2.2.2.2.2.1 x.1.2.2.2.2.2.2.1 x.1.2.2.2.2.2.2.2.1 x.1.2.2.2.2.2.2.2.2.1 x.2.1.1 x.2.1.2.1 x.2.1.2.2.1 x.2.1.2.2.2.1 x.2.1.2.2.2.2.1 x.2.1.2.2.2.2.2.1 x.2.1.2.2.2.2.2.2.1 x.2.1.2.2.2.2.2.2.2.1 x.2.1.2.2.2.2.2.2.2.2.1 x.2.1.2.2.2.2.2.2.2.2.2.1).eval=(HS.F x).eval):HS.Ok Tryz.prog:=aU [kQ,D4,wD,D6,s8,HN,x5,x7] ⟨ko,K1,yL,K3,ve,Yl,Sl,St,trivial⟩ Yv fun x hw _ hy=>(hr x hw).trans hy
theorem Yx:HS.Ok Tryz.prog:=by
 refine Yw fun x hw=> ?_;obtain ⟨⟨a0,a1,a2,a3,a4,a5,a6,a7,a8,_⟩,⟨a9,fg,iI,a12,mM,zu,lu,ll,s9,wz,_⟩,_⟩:=x;have l2:List.length a2≤aS:=hw.1.1.1;have l3:List.length a3≤aS:=hw.1.2.1.1;have l4:List.length a4≤aS:=hw.1.2.2.1.1;have l5:List.length a5≤aS:=hw.1.2.2.2.1.1;have l6:List.length a6≤aS:=hw.1.2.2.2.2.1.1;have l7:List.length a7≤aS:=hw.1.2.2.2.2.2.1.1;have l8:List.length a8≤aS:=hw.1.2.2.2.2.2.2.1.1;have l14:List.length zu≤aS:=hw.2.1.1.1;have l15:List.length lu≤aS:=hw.2.1.2.1.1;have l16:List.length ll≤aS:=hw.2.1.2.2.1.1;show (sF a0 a1 a2 a3 a4 a5 a6 a7 a8 a9 fg iI a12 mM zu lu ll s9 wz).eval=some ((((iO a0 a1 a2 a3 a4 a9 fg iI a12 mM zu lu ll s9 wz),()),()),((),(),()));unfold sF;by_cases c1:dC a9 1 (IntKind.i64.wrap (a0 - 1))=true
 case neg=>rw [ae (by first|(simp [c1];done)|(rw [aaa (by omega)];done)|(rw [aae (by omega)];done)|(rw [aaa (by omega)];rfl)|(rw [aae (by omega)];rfl)|(rw [c1];rfl)|(rw [Bool.eq_false_iff.2 c1];rfl))];simp [Out.eval,iO,c1]
 rw [ab (by first|(simp [c1];done)|(rw [aaa (by omega)];done)|(rw [aae (by omega)];done)|(rw [aaa (by omega)];rfl)|(rw [aae (by omega)];rfl)|(rw [c1];rfl)|(rw [Bool.eq_false_iff.2 c1];rfl))];by_cases c2:dC iI 1 6=true
 case neg=>rw [ae (by first|(simp [c2];done)|(rw [aaa (by omega)];done)|(rw [aae (by omega)];done)|(rw [aaa (by omega)];rfl)|(rw [aae (by omega)];rfl)|(rw [c2];rfl)|(rw [Bool.eq_false_iff.2 c2];rfl))];simp [Out.eval,iO,dw,c2]
 rw [ab (by first|(simp [c2];done)|(rw [aaa (by omega)];done)|(rw [aae (by omega)];done)|(rw [aaa (by omega)];rfl)|(rw [aae (by omega)];rfl)|(rw [c2];rfl)|(rw [Bool.eq_false_iff.2 c2];rfl))];have e0:dC a12 0 (IntKind.i64.wrap (((List.length a2:Nat):Int) - 1))=(decide (0≤a12)&&decide (a12<((List.length a2:Nat):Int))):=by
  have:List.length a2≤9223372036854775807:=l2;unfold dC;rw [jO (by omega) (by omega)];congr 1;rw [acK];simp;omega
 rw [e0];by_cases c3:(decide (0≤a12)&&decide (a12<((List.length a2:Nat):Int)))=true
 case neg=>rw [ae (by first|(simp [c3];done)|(rw [aaa (by omega)];done)|(rw [aae (by omega)];done)|(rw [aaa (by omega)];rfl)|(rw [aae (by omega)];rfl)|(rw [c3];rfl)|(rw [Bool.eq_false_iff.2 c3];rfl))];simp [Out.eval,iO,dw,c3]
 rw [ab (by first|(simp [c3];done)|(rw [aaa (by omega)];done)|(rw [aae (by omega)];done)|(rw [aaa (by omega)];rfl)|(rw [aae (by omega)];rfl)|(rw [c3];rfl)|(rw [Bool.eq_false_iff.2 c3];rfl))];by_cases c4:aR mM zu=true
 case neg=>rw [ae (by first|(simp [c4];done)|(rw [aaa (by omega)];done)|(rw [aae (by omega)];done)|(rw [aaa (by omega)];rfl)|(rw [aae (by omega)];rfl)|(rw [c4];rfl)|(rw [Bool.eq_false_iff.2 c4];rfl))];simp [Out.eval,iO,dw,c4]
 rw [ab (by first|(simp [c4];done)|(rw [aaa (by omega)];done)|(rw [aae (by omega)];done)|(rw [aaa (by omega)];rfl)|(rw [aae (by omega)];rfl)|(rw [c4];rfl)|(rw [Bool.eq_false_iff.2 c4];rfl))];by_cases c5:b6 wz=true
 case neg=>rw [ab (by first|(simp [c5];done)|(rw [aaa (by omega)];done)|(rw [aae (by omega)];done)|(rw [aaa (by omega)];rfl)|(rw [aae (by omega)];rfl)|(rw [c5];rfl)|(rw [Bool.eq_false_iff.2 c5];rfl))];simp [Out.eval,iO,dw,c5]
 rw [ae (by first|(simp [c5];done)|(rw [aaa (by omega)];done)|(rw [aae (by omega)];done)|(rw [aaa (by omega)];rfl)|(rw [aae (by omega)];rfl)|(rw [c5];rfl)|(rw [Bool.eq_false_iff.2 c5];rfl))];have e:iO a0 a1 a2 a3 a4 a9 fg iI a12 mM zu lu ll s9 wz=(cg a3 a9 fg&&(decide (List.length lu≤12)&&(decide (List.length lu % 4=0)&&(aG lu&&(decide (List.length ll=4)&&(gg a1 a4 iI ll s9&&(List.all ll (pj a4 iI)&&tC fg iI lu wz))))))):=by
  unfold iO dw;rw [c1,c2,c3,c4,c5];cases decide (List.length lu≤12)<;>cases decide (List.length lu % 4=0)<;>cases aG lu<;>cases decide (List.length ll=4)<;>cases List.all ll (pj a4 iI)<;>cases cg a3 a9 fg<;>cases gg a1 a4 iI ll s9<;>rfl
 rw [e,Yu a0 a1];have en:=Om iI wz fg (List.length lu) (iB ll) (fun b=>(((b,()),()),((),(),())));have tl:=Ke (List.length lu) (List.length ll) (aG lu) (gg a1 a4 iI ll s9) (fE ll a0 a1 a4).1 (fun b=>(((b,()),()),((),(),()))) en;by_cases p0:fg=0
 . have e2:cg a3 a9 fg=true:=by simp [cg,p0]
   rw [e2,afN,ae (by simp [p0])];exact tl
 . rw [ab (by simp [p0])]
   cases hx:ie ao a3 fg with
   |none=>
    have e2:cg a3 a9 fg=false:=by simp [cg,p0,hx]
    have e3:ak a3 fg= -1:=oF hx;rw [e2,e3];rfl
   |some i=>
    have hi:=AP hx;have e3:ak a3 fg=((i:Nat):Int):=oG hx;rw [e3,ab (by rw [aae (by omega)];rfl),aaH];by_cases p1:fg=a9
    . have p2:(fg==a9)=true:=by simpa using p1
      have p3:(fg==(0:Int))=false:=by simpa using p0
      have e2:cg a3 a9 fg=false:=by unfold cg;rw [p3,p2];simp
      rw [e2,ae (by rw [p2];rfl)];rfl
    . rw [ab (by simp [p1]),ab (Gu i)]
      refine (aa (x:=a3[i]) (by simp [nth,hi])).trans ?_;by_cases p2:a3[i].2.2.1=6
      . have e2:cg a3 a9 fg=false:=by simp [cg,p0,hx,hi,p2]
        rw [e2,ab (by simp [p2])];rfl
      . have e2:cg a3 a9 fg=true:=by simp [cg,p0,p1,hx,hi,p2]
        rw [e2,afN,ae (by simp [p2])];exact tl
end
section
open Go Go.ChangeShapes Go.WideShapes Go.ChangeAt Go.RowKit
abbrev MO:=(Int×Int×List af×Int×Int×XE)×(Unit)
def vC:MO→Out (Round MO ((Int×Int×XS)×(Unit)) Empty)
|((p0,p1,p2,p3,p4,p5,p6,p7,_),_)=>
 .ite (decide (p7<p6))
 (.ite (decide (0≤p7))
 (.get (nth p5 (Int.toNat p7)) fun y1=>
 .ite ((y1==p0))
 (.ret (.again ((p0,(IntKind.i64.wrap (p1+(1:Int))),p2,p3,p4,p5,p6,(IntKind.i64.wrap (p7+(1:Int))),()),())))
 (.ret (.again ((p0,p1,p2,p3,p4,p5,p6,(IntKind.i64.wrap (p7+(1:Int))),()),()))))
 .fail)
 (.ret (.out ((p0,p1,p2,p3,p4,()),())))
abbrev MP:=(Int×Int×XS)×(Unit)
def vD:MP→Out (Round MP ((Int×Unit)×(Unit)) Empty)
|((p0,p1,p2,p3,p4,_),_)=>
 .ite (decide (p4<p3))
 (.ite (decide (0≤p4))
 (.get (nth p2 (Int.toNat p4)) fun y1=>
 .get (b5 vC bn ((p0,p1,p2,p3,p4,y1.2.2.2.2.2.2.1,((List.length y1.2.2.2.2.2.2.1:Nat):Int),(0:Int),()),())) fun y2=>
 .ret (.again ((y2.1.1,y2.1.2.1,y2.1.2.2.1,y2.1.2.2.2.1,(IntKind.i64.wrap (y2.1.2.2.2.2.1+(1:Int))),()),())))
 .fail)
 (.ret (.out ((p1,()),())))
def sG (_:Int) (_:Int) (_:List (List aw)) (a3:List af) (_:List ah) (_:List ag) (_:List ag) (_:List Int) (_:List Int) (a9:Int):Out (((Int×Unit)×Unit)×XI):=
 .get (b5 vD bn ((a9,(0:Int),a3,((List.length a3:Nat):Int),(0:Int),()),())) fun y1=>
 .ret (((y1.1.1,()),()),((),(),()))
def aet:Nat→Option aq:=fun n=>bU [(0,⟨⟨[.dead, .i .i64, .dead, .dead, .dead, .i .i64]++dd 5++[.ro jr (some 1), .i .i64, .i .i64]++dd 18,[]⟩,⟨dd 5++[.i .i64]++dd 26,[]⟩,none,false⟩),(2,⟨⟨[.dead, .i .i64, .dead, .dead, .dead, .i .i64]++dd 5++[.ro jr (some 1), .i .i64, .i .i64]++dd 4++[.ro (.int .i64) none, .i .i64, .i .i64]++dd 11,[]⟩,⟨[.dead, .i .i64, .dead, .dead, .dead, .i .i64]++dd 5++[.ro jr (some 1), .i .i64, .i .i64]++dd 18,[]⟩,none,false⟩)] n
def HT:bM:={ f:=217,lend:=true,aK:=[⟨false,true,[.i .i64, .i .i64, .ro (.sl b8), .ro jr, .ro cH, .ro ck, .ro ck, .ro (.int .i64), .ro (.int .i64)]⟩,⟨false,false,[.i .i64]⟩],lay:=[none,none],rs:=[⟨false,false,[.i .i64]⟩],F:=fun x=> .ret ((((pR x.1.2.2.2.1 x.2.1.1),()),()),((),(),())) }
theorem Yy (x:az HT.aK):bo [] aet Tryz.f217 HT [.tmp 4] x=sG x.1.1 x.1.2.1 x.1.2.2.1 x.1.2.2.2.1 x.1.2.2.2.2.1 x.1.2.2.2.2.2.1 x.1.2.2.2.2.2.2.1 x.1.2.2.2.2.2.2.2.1 x.1.2.2.2.2.2.2.2.2.1 x.2.1.1:=by kernel_rfl
theorem Yz (hr:∀ x:bw×(Int×Unit)×Unit,aD HT.aK x→(sG x.1.1 x.1.2.1 x.1.2.2.1 x.1.2.2.2.1 x.1.2.2.2.2.1 x.1.2.2.2.2.2.1 x.1.2.2.2.2.2.2.1 x.1.2.2.2.2.2.2.2.1 x.1.2.2.2.2.2.2.2.2.1 x.2.1.1).eval=(HT.F x).eval):HT.Ok Tryz.prog:=aU [] trivial Yy fun x hw _ hy=>(hr x hw).trans hy
theorem YA:HT.Ok Tryz.prog:=by
 refine Yz fun x hw=> ?_;obtain ⟨⟨a0,a1,a2,a3,a4,a5,a6,a7,a8,_⟩,⟨a9,_⟩,_⟩:=x;have l2:List.length a2≤aS:=hw.1.1.1;have l3:List.length a3≤aS:=hw.1.2.1.1;have l4:List.length a4≤aS:=hw.1.2.2.1.1;have l5:List.length a5≤aS:=hw.1.2.2.2.1.1;have l6:List.length a6≤aS:=hw.1.2.2.2.2.1.1;have l7:List.length a7≤aS:=hw.1.2.2.2.2.2.1.1;have l8:List.length a8≤aS:=hw.1.2.2.2.2.2.2.1.1;show (sG a0 a1 a2 a3 a4 a5 a6 a7 a8 a9).eval=some ((((pR a3 a9),()),()),((),(),()));unfold sG pR;have inner:∀ (n:Int) (j:Nat) (hj:j<List.length a3),b5 vC bn ((a9,n,a3,((List.length a3:Nat):Int),((j:Nat):Int),a3[j].2.2.2.2.2.2.1,((List.length a3[j].2.2.2.2.2.2.1:Nat):Int),(0:Int),()),())=
   some ((a9,List.foldl (fun n f=>pQ f a9 n) n a3[j].2.2.2.2.2.2.1,a3,((List.length a3:Nat):Int),((j:Nat):Int),()),()):=fun n j hj=>by
  have lj:List.length a3[j].2.2.2.2.2.2.1≤aS:=(hw.1.2.1.2 j a3[j] (aaf hj)).2.2.2.2.2.2.1.1;exact foldl_loop (f:=vC) (fun _ _=>True) (fun n f=>pQ f a9 n) a3[j].2.2.2.2.2.2.1 (fun d i=>((a9,d,a3,((List.length a3:Nat):Int),((j:Nat):Int),a3[j].2.2.2.2.2.2.1,((List.length a3[j].2.2.2.2.2.2.1:Nat):Int),((i:Nat):Int),()),()))
   (fun d=>((a9,d,a3,((List.length a3:Nat):Int),((j:Nat):Int),()),()))
   (fun i hi d _=>by
    have h1:=ar (i:=i) (by omega);by_cases q:a3[j].2.2.2.2.2.2.1[i]=a9<;>simp [vC,Out.eval,hi,h1,pQ,cond_eq_ite,q])
   (fun d _=>by simp [vC,Out.eval]) (fun _ _ _ _=>trivial) lj n trivial
 have h:b5 vD bn ((a9,(0:Int),a3,((List.length a3:Nat):Int),(0:Int),()),())=some (((List.foldl (fun (n:Int) (p:af)=>p.2.2.2.2.2.2.1.foldl (fun n f=>pQ f a9 n) n) (0:Int) a3),()),()):=foldl_loop (f:=vD) (fun _ _=>True) (fun (n:Int) (p:af)=>p.2.2.2.2.2.2.1.foldl (fun n f=>pQ f a9 n) n) a3 (fun d i=>((a9,d,a3,((List.length a3:Nat):Int),((i:Nat):Int),()),())) (fun d=>((d,()),()))
  (fun i hi d _=>by
   have h1:=ar (i:=i) (by omega);simp [vD,Out.eval,hi,h1,inner d i hi])
  (fun d _=>by simp [vD,Out.eval]) (fun _ _ _ _=>trivial) l3 (0:Int) trivial
 exact aa h
def sH (_:Int) (_:Int) (_:List (List aw)) (a3:List af) (_:List ah) (a5:List ag) (a6:List ag) (_:List Int) (_:List Int) (a9:Int) (fg:Int) (iI:Int) (a12:Int) (mM:Int):Out (((Bool×Unit)×Unit)×XI):=
 .ite ((!(dC a9 (0:Int) (7:Int)))==false)
 (.ite (((mM==(0:Int)))==false)
 (.ite ((mM != (pR a3 a9)))
 (.ret (((false,()),()),((),(),())))
 (.ite ((fg==(1:Int)))
 (.ite (((iI==(0:Int)))==true)
 (.ret (((((a12==(0:Int))),()),()),((),(),())))
 (.ret (((false,()),()),((),(),()))))
 (.ite ((fg==(2:Int)))
 (.ite ((decide ((bt a6 iI)≥(0:Int)))==true)
 (.ite (decide (0≤(bt a6 iI)))
 (.get (nth a6 (Int.toNat (bt a6 iI))) fun y1=>
 .ret ((((dC a12 (0:Int) ((List.length y1.2.1:Nat):Int)),()),()),((),(),())))
 .fail)
 (.ret (((false,()),()),((),(),()))))
 (.ite ((fg==(3:Int)))
 (.ite ((decide ((bp a5 iI)≥(0:Int)))==true)
 (.ret (((((a12==(0:Int))),()),()),((),(),())))
 (.ret (((false,()),()),((),(),()))))
 (.ite ((fg==(4:Int)))
 (.ite ((decide ((bp a5 iI)≥(0:Int)))==true)
 (.ret (((((a12==(0:Int))),()),()),((),(),())))
 (.ret (((false,()),()),((),(),()))))
 (.ret (((false,()),()),((),(),()))))))))
 (.ret (((false,()),()),((),(),()))))
 (.ret (((false,()),()),((),(),())))
def HU:bM:={ f:=129,lend:=true,aK:=[⟨false,true,[.i .i64, .i .i64, .ro (.sl b8), .ro jr, .ro cH, .ro ck, .ro ck, .ro (.int .i64), .ro (.int .i64)]⟩,⟨false,true,[.i .i64, .i .i64, .i .i64, .i .i64, .i .i64]⟩],lay:=[none,none],rs:=[⟨false,false,[.b]⟩],F:=fun x=> .ret ((((gC x.1.2.2.2.1 x.1.2.2.2.2.2.1 x.1.2.2.2.2.2.2.1 x.2.1.1 x.2.1.2.1 x.2.1.2.2.1 x.2.1.2.2.2.1 x.2.1.2.2.2.2.1),()),()),((),(),())) }
theorem YB (x:az HU.aK):bo [kQ,HT,HL,HI] (fun _=>none) Tryz.f129 HU [.tmp 4] x=sH x.1.1 x.1.2.1 x.1.2.2.1 x.1.2.2.2.1 x.1.2.2.2.2.1 x.1.2.2.2.2.2.1 x.1.2.2.2.2.2.2.1 x.1.2.2.2.2.2.2.2.1 x.1.2.2.2.2.2.2.2.2.1 x.2.1.1 x.2.1.2.1 x.2.1.2.2.1 x.2.1.2.2.2.1 x.2.1.2.2.2.2.1:=by kernel_rfl
theorem YC (hr:∀ x:bw×ah×Unit,aD HU.aK x→(sH x.1.1 x.1.2.1 x.1.2.2.1 x.1.2.2.2.1 x.1.2.2.2.2.1 x.1.2.2.2.2.2.1 x.1.2.2.2.2.2.2.1 x.1.2.2.2.2.2.2.2.1 x.1.2.2.2.2.2.2.2.2.1 x.2.1.1 x.2.1.2.1 x.2.1.2.2.1 x.2.1.2.2.2.1 x.2.1.2.2.2.2.1).eval=(HU.F x).eval):HU.Ok Tryz.prog:=aU [kQ,HT,HL,HI] ⟨ko,YA,Yb,X4,trivial⟩ YB fun x hw _ hy=>(hr x hw).trans hy
theorem YD:HU.Ok Tryz.prog:=by
 refine YC fun x hw=> ?_;obtain ⟨⟨a0,a1,a2,a3,a4,a5,a6,a7,a8,_⟩,⟨a9,fg,iI,a12,mM,_⟩,_⟩:=x;have l2:List.length a2≤aS:=hw.1.1.1;have l3:List.length a3≤aS:=hw.1.2.1.1;have l4:List.length a4≤aS:=hw.1.2.2.1.1;have l5:List.length a5≤aS:=hw.1.2.2.2.1.1;have l6:List.length a6≤aS:=hw.1.2.2.2.2.1.1;have l7:List.length a7≤aS:=hw.1.2.2.2.2.2.1.1;have l8:List.length a8≤aS:=hw.1.2.2.2.2.2.2.1.1;show (sH a0 a1 a2 a3 a4 a5 a6 a7 a8 a9 fg iI a12 mM).eval=some ((((gC a3 a5 a6 a9 fg iI a12 mM),()),()),((),(),()));unfold sH;unfold gC;generalize pR a3 a9=r;by_cases c3:dC a9 0 7=true
 case neg=>rw [ae (by simp [c3])];simp [Out.eval,c3]
 rw [ab (by simp [c3])];by_cases c1:mM=0
 . rw [ae (by simp [c1])]
   have e:(!(r==0)&&mM==r&&dC a9 0 7&&qW a5 a6 fg iI a12)=false:=by
    subst c1;by_cases q:r=0
    . simp [q]
    . have:((0:Int)==r)=false:=by simpa using fun h=>q h.symm
      simp [this]
   rw [e];rfl
 rw [ab (by simp [c1])];by_cases c2:mM=r
 case neg=>rw [ab (by simp [c2])];simp [Out.eval,c2]
 rw [ae (by simp [c2])];refine (Dd fg iI a12 a5 a6 (fun b=>(((b,()),()),((),(),())))).trans ?_;subst c2;simp [c1,c3]
def tT (kind target pipe:Int):Bool:=(kind==3&&target==pipe)||(kind==4&&target==pipe)
def sI (_:Int) (a1:Int) (a2:Int) (_:Int) (_:Int) (a5:Int):Out (((Bool×Unit)×Unit)×XI):=
 .ite (((a1==(3:Int)))==false)
 (.ite (((a1==(4:Int)))==true)
 (.ret (((((a2==a5)),()),()),((),(),())))
 (.ret (((false,()),()),((),(),()))))
 (.ret (((((a2==a5)),()),()),((),(),())))
def HV:bM:={ f:=220,lend:=true,aK:=[⟨false,true,[.i .i64, .i .i64, .i .i64, .i .i64, .i .i64]⟩,⟨false,false,[.i .i64]⟩],lay:=[none,none],rs:=[⟨false,false,[.b]⟩],F:=fun x=> .ret ((((tT x.1.2.1 x.1.2.2.1 x.2.1.1),()),()),((),(),())) }
theorem YE (x:az HV.aK):bo [] (fun _=>none) Tryz.f220 HV [.tmp 4] x=sI x.1.1 x.1.2.1 x.1.2.2.1 x.1.2.2.2.1 x.1.2.2.2.2.1 x.2.1.1:=by kernel_rfl
theorem YF (hr:∀ x:ah×(Int×Unit)×Unit,aD HV.aK x→(sI x.1.1 x.1.2.1 x.1.2.2.1 x.1.2.2.2.1 x.1.2.2.2.2.1 x.2.1.1).eval=(HV.F x).eval):HV.Ok Tryz.prog:=aU [] trivial YE fun x hw _ hy=>(hr x hw).trans hy
theorem YG:HV.Ok Tryz.prog:=by
 refine YF fun x hw=> ?_;obtain ⟨⟨a0,a1,a2,a3,a4,_⟩,⟨a5,_⟩,_⟩:=x;show (sI a0 a1 a2 a3 a4 a5).eval=some ((((tT a1 a2 a5),()),()),((),(),()));unfold sI tT;simp only [Out.eval,cond_eq_ite]
 all_goals ((repeat' split)<;>simp_all)
def nc (kind target pipe:Int):Bool×Int:=(tT kind target pipe,pipe)
def sJ (_:Int) (a1:Int) (a2:Int) (_:Int) (_:Int) (a5:Int) (_:List Int):Out (((Bool×Unit)×Unit)×(Unit×(Int×Unit)×Unit)):=
 .ret ((((tT a1 a2 a5),()),()),((),(a5,()),()))
def HW:bM:={ f:=219,lend:=true,aK:=[⟨false,true,[.i .i64, .i .i64, .i .i64, .i .i64, .i .i64]⟩,⟨true,false,[.i .i64, .ro (.int .i64)]⟩],lay:=[none,none],rs:=[⟨false,false,[.b]⟩],F:=fun x=> .ret ((((nc x.1.2.1 x.1.2.2.1 x.2.1.1).1,()),()),((),((nc x.1.2.1 x.1.2.2.1 x.2.1.1).2,()),())) }
theorem YH (x:az HW.aK):bo [HV] (fun _=>none) Tryz.f219 HW [.tmp 3] x=sJ x.1.1 x.1.2.1 x.1.2.2.1 x.1.2.2.2.1 x.1.2.2.2.2.1 x.2.1.1 x.2.1.2.1:=by kernel_rfl
theorem YI (hr:∀ x:ah×ag×Unit,aD HW.aK x→(sJ x.1.1 x.1.2.1 x.1.2.2.1 x.1.2.2.2.1 x.1.2.2.2.2.1 x.2.1.1 x.2.1.2.1).eval=(HW.F x).eval):HW.Ok Tryz.prog:=aU [HV] ⟨YG,trivial⟩ YH fun x hw _ hy=>(hr x hw).trans hy
theorem YJ:HW.Ok Tryz.prog:=by
 refine YI fun x hw=> ?_;obtain ⟨⟨a0,a1,a2,a3,a4,_⟩,⟨a5,a6,_⟩,_⟩:=x;have l6:List.length a6≤aS:=hw.2.1.1.1;show (sJ a0 a1 a2 a3 a4 a5 a6).eval=some ((((nc a1 a2 a5).1,()),()),((),((nc a1 a2 a5).2,()),()));unfold sJ nc;simp only [Out.eval]
 all_goals ((repeat' split)<;>simp_all)
def mN (a:List ah) (pipe:Int):Int×Int:=(uQ (a.findIdx? (eR pipe)),pipe)
abbrev HX:=(List ah×Int×Int×Unit)×((Int×List Int×Unit)×Unit)
def nQ:HX→Out (Round HX ((Unit)×((Int×List Int×Unit)×Unit)) ((Int×Unit)×((Int×List Int×Unit)×Unit)))
|((p0,p1,p2,_),(p3,p4,_),_)=>
 .ite (decide (p2<p1))
 (.ite (decide (0≤p2))
 (.get (nth p0 (Int.toNat p2)) fun y1=>
 .ite ((nc y1.2.1 y1.2.2.1 p3).1)
 (.ret (.ret ((p2,()),(((nc y1.2.1 y1.2.2.1 p3).2,p4,()),()))))
 (.ret (.again ((p0,p1,(IntKind.i64.wrap (p2+(1:Int))),()),(((nc y1.2.1 y1.2.2.1 p3).2,p4,()),())))))
 .fail)
 (.ret (.out ((),((p3,p4,()),()))))
def oP (a0:List ah) (a1:Int) (a2:List Int):Out (((Int×Unit)×Unit)×(Unit×(Int×Unit)×Unit)):=
 .get (iter nQ bn ((a0,((List.length a0:Nat):Int),(0:Int),()),((a1,a2,()),()))) fun y1=> .alt y1 (fun y2=>
 .ret ((((-1:Int),()),()),((),(y2.2.1.1,()),()))) (fun y3=>
 .ret (((y3.1.1,()),()),((),(y3.2.1.1,()),())))
abbrev AS:List (Nat×dT):=[(1, .var [.i .i64, .ro (.int .i64) (some 2)])]
def YK:Nat→Option aq:=fun n=>bU [(0,⟨⟨[.ro cH (some 0), .fn 219 [1]]++dd 5++[.i .i64, .i .i64]++dd 10,AS⟩,⟨[.dead, .fn 219 [1]]++dd 17,AS⟩,some ⟨[.dead, .fn 219 [1], .dead, .dead, .i .i64]++dd 14,AS⟩,false⟩)] n
def x8:bM:={ f:=180,lend:=true,aK:=[⟨false,false,[.ro cH]⟩,⟨true,false,[.i .i64, .ro (.int .i64)]⟩],lay:=[none,some (219,1)],rs:=[⟨false,false,[.i .i64]⟩],F:=fun x=> .ret ((((mN x.1.1 x.2.1.1).1,()),()),((),((mN x.1.1 x.2.1.1).2,()),())) }
theorem Sv (x:az x8.aK):bo [HW] YK Tryz.f180 x8 [.tmp 4] x=oP x.1.1 x.2.1.1 x.2.1.2.1:=by kernel_rfl
theorem Sw (hr:∀ x:(List ah×Unit)×ag×Unit,aD x8.aK x→(oP x.1.1 x.2.1.1 x.2.1.2.1).eval=(x8.F x).eval):x8.Ok Tryz.prog:=aU [HW] ⟨YJ,trivial⟩ Sv fun x hw _ hy=>(hr x hw).trans hy
theorem Sx:x8.Ok Tryz.prog:=by
 refine Sw fun x hw=> ?_;obtain ⟨⟨a0,_⟩,⟨a1,a2,_⟩,_⟩:=x;have l0:List.length a0≤aS:=hw.1.1.1;have l2:List.length a2≤aS:=hw.2.1.1.1;show (oP a0 a1 a2).eval=some ((((mN a0 a1).1,()),()),((),((mN a0 a1).2,()),()));unfold oP mN;have h:iter nQ bn ((a0,((List.length a0:Nat):Int),(0:Int),()),((a1,a2,()),()))=some (match List.findIdx? (eR a1) a0 with|some i=> .inr ((((i:Nat):Int),()),((a1,a2,()),()))|none=> .inl ((),((a1,a2,()),()))):=dZ (f:=nQ) a0 (eR a1) (fun i=>((a0,((List.length a0:Nat):Int),((i:Nat):Int),()),((a1,a2,()),()))) (y:=((),((a1,a2,()),()))) (z:=fun i=>((((i:Nat):Int),()),((a1,a2,()),())))
  (fun i hi hp=>by
   have h1:=ar (i:=i) (by omega);simp [nQ,Out.eval,hi,h1,cond_eq_ite,nc,tT,eR,m0] at hp ⊢ <;>(try simp_all)<;>(try (rcases hp with h|h<;>simp_all)))
  (fun i hi hp=>by simp [nQ,Out.eval,hi,cond_eq_ite,nc,tT,eR,m0] at hp ⊢ <;>(try simp_all)<;>(try (rcases hp with h|h<;>simp_all)))
  (by simp [nQ,Out.eval]) l0
 refine (aa h).trans ?_;cases List.findIdx? (eR a1) a0<;>rfl
def lv (a:List ah) (pipe:Int):Bool×Int:=(a.any (eR pipe),pipe)
def oQ (a0:List ah) (a1:Int) (_:List Int):Out (((Bool×Unit)×Unit)×(Unit×(Int×Unit)×Unit)):=
 .ret ((((decide ((mN a0 a1).1≥(0:Int))),()),()),((),((mN a0 a1).2,()),()))
def x9:bM:={ f:=218,lend:=true,aK:=[⟨false,false,[.ro cH]⟩,⟨true,false,[.i .i64, .ro (.int .i64)]⟩],lay:=[none,some (219,1)],rs:=[⟨false,false,[.b]⟩],F:=fun x=> .ret ((((lv x.1.1 x.2.1.1).1,()),()),((),((lv x.1.1 x.2.1.1).2,()),())) }
theorem Sy (x:az x9.aK):bo [x8] (fun _=>none) Tryz.f218 x9 [.tmp 4] x=oQ x.1.1 x.2.1.1 x.2.1.2.1:=by kernel_rfl
theorem Sz (hr:∀ x:(List ah×Unit)×ag×Unit,aD x9.aK x→(oQ x.1.1 x.2.1.1 x.2.1.2.1).eval=(x9.F x).eval):x9.Ok Tryz.prog:=aU [x8] ⟨Sx,trivial⟩ Sy fun x hw _ hy=>(hr x hw).trans hy
theorem SA:x9.Ok Tryz.prog:=by
 refine Sz fun x hw=> ?_;obtain ⟨⟨a0,_⟩,⟨a1,a2,_⟩,_⟩:=x;have l0:List.length a0≤aS:=hw.1.1.1;have l2:List.length a2≤aS:=hw.2.1.1.1;show (oQ a0 a1 a2).eval=some ((((lv a0 a1).1,()),()),((),((lv a0 a1).2,()),()));unfold oQ lv mN;rw [ku];rfl
abbrev MQ:=(Int×XS)×(Unit)
def vE:MQ→Out (Round MQ ((Int×Unit)×(Unit)) Empty)
|((p0,p1,p2,p3,_),_)=>
 .ite (decide (p3<p2))
 (.ite (decide (0≤p3))
 (.get (nth p1 (Int.toNat p3)) fun y1=>
 .ret (.again (((IntKind.i64.wrap (p0+((List.length y1.2.2.2.2.2.1:Nat):Int))),p1,p2,(IntKind.i64.wrap (p3+(1:Int))),()),())))
 .fail)
 (.ret (.out ((p0,()),())))
def sK (_:Int) (_:Int) (_:List (List aw)) (a3:List af) (_:List ah) (_:List ag) (_:List ag) (_:List Int) (_:List Int):Out (((Int×Unit)×Unit)×(Unit×Unit)):=
 .get (b5 vE bn (((0:Int),a3,((List.length a3:Nat):Int),(0:Int),()),())) fun y1=>
 .ret (((y1.1.1,()),()),((),()))
def aeu:Nat→Option aq:=fun n=>bU [(0,⟨⟨[.dead, .dead, .dead, .i .i64, .dead, .dead, .dead, .ro jr (some 1), .i .i64, .i .i64]++dd 10,[]⟩,⟨[.dead, .dead, .dead, .i .i64]++dd 16,[]⟩,none,false⟩)] n
def HY:bM:={ f:=130,lend:=true,aK:=[⟨false,true,[.i .i64, .i .i64, .ro (.sl b8), .ro jr, .ro cH, .ro ck, .ro ck, .ro (.int .i64), .ro (.int .i64)]⟩],lay:=[none],rs:=[⟨false,false,[.i .i64]⟩],F:=fun x=> .ret ((((qm x.1.2.2.2.1),()),()),((),())) }
theorem YL (x:az HY.aK):bo [] aeu Tryz.f130 HY [.tmp 2] x=sK x.1.1 x.1.2.1 x.1.2.2.1 x.1.2.2.2.1 x.1.2.2.2.2.1 x.1.2.2.2.2.2.1 x.1.2.2.2.2.2.2.1 x.1.2.2.2.2.2.2.2.1 x.1.2.2.2.2.2.2.2.2.1:=by kernel_rfl
theorem YM (hr:∀ x:bw×Unit,aD HY.aK x→(sK x.1.1 x.1.2.1 x.1.2.2.1 x.1.2.2.2.1 x.1.2.2.2.2.1 x.1.2.2.2.2.2.1 x.1.2.2.2.2.2.2.1 x.1.2.2.2.2.2.2.2.1 x.1.2.2.2.2.2.2.2.2.1).eval=(HY.F x).eval):HY.Ok Tryz.prog:=aU [] trivial YL fun x hw _ hy=>(hr x hw).trans hy
theorem YN:HY.Ok Tryz.prog:=by
 refine YM fun x hw=> ?_;obtain ⟨⟨a0,a1,a2,a3,a4,a5,a6,a7,a8,_⟩,_⟩:=x;have l2:List.length a2≤aS:=hw.1.1.1;have l3:List.length a3≤aS:=hw.1.2.1.1;have l4:List.length a4≤aS:=hw.1.2.2.1.1;have l5:List.length a5≤aS:=hw.1.2.2.2.1.1;have l6:List.length a6≤aS:=hw.1.2.2.2.2.1.1;have l7:List.length a7≤aS:=hw.1.2.2.2.2.2.1.1;have l8:List.length a8≤aS:=hw.1.2.2.2.2.2.2.1.1;show (sK a0 a1 a2 a3 a4 a5 a6 a7 a8).eval=some ((((qm a3),()),()),((),()));unfold sK qm;have h:b5 vE bn (((0:Int),a3,((List.length a3:Nat):Int),(0:Int),()),())=some (((List.foldl (fun (n:Int) (p:af)=>IntKind.i64.wrap (n+((p.2.2.2.2.2.1.length:Nat):Int))) (0:Int) a3),()),()):=foldl_loop (f:=vE) (fun _ _=>True) (fun (n:Int) (p:af)=>IntKind.i64.wrap (n+((p.2.2.2.2.2.1.length:Nat):Int))) a3 (fun d i=>((d,a3,((List.length a3:Nat):Int),((i:Nat):Int),()),())) (fun d=>((d,()),()))
  (fun i hi d _=>by
   have h1:=ar (i:=i) (by omega);simp [vE,Out.eval,hi,h1,cond_eq_ite])
  (fun d _=>by simp [vE,Out.eval]) (fun _ _ _ _=>trivial) l3 (0:Int) trivial
 exact aa h
abbrev MR:=(List ag×Int×Int×Unit)×(bw×Unit)
def sL:MR→Out (Round MR ((Unit)×(bw×Unit)) ((Bool×Unit)×(Unit)))
|((p0,p1,p2,_),(p3,p4,p5,p6,p7,p8,p9,cz,cE,_),_)=>
 .ite (decide (p2<p1))
 (.ite (decide (0≤p2))
 (.get (nth p0 (Int.toNat p2)) fun y1=>
 .ite ((!(dC y1.1 (0:Int) (2:Int)))==false)
 (.ite ((decide (p2>(0:Int)))==true)
 (.ite (decide (0≤(IntKind.i64.wrap (p2 - (1:Int)))))
 (.get (nth p8 (Int.toNat (IntKind.i64.wrap (p2 - (1:Int))))) fun y2=>
 .ite ((decide (y2.1≥y1.1))==false)
 (.ite ((decide (((List.length y1.2.1:Nat):Int)>(4:Int)))==false)
 (.ite (!(aG y1.2.1))
 (.ret (.ret ((false,()),())))
 (.ite (!(lv p7 y1.1).1)
 (.ret (.ret ((false,()),())))
 (.ret (.again ((p0,p1,(IntKind.i64.wrap (p2+(1:Int))),()),((p3,p4,p5,p6,p7,p8,p9,cz,cE,()),()))))))
 (.ret (.ret ((false,()),()))))
 (.ret (.ret ((false,()),()))))
 .fail)
 (.ite ((decide (((List.length y1.2.1:Nat):Int)>(4:Int)))==false)
 (.ite (!(aG y1.2.1))
 (.ret (.ret ((false,()),())))
 (.ite (!(lv p7 y1.1).1)
 (.ret (.ret ((false,()),())))
 (.ret (.again ((p0,p1,(IntKind.i64.wrap (p2+(1:Int))),()),((p3,p4,p5,p6,p7,p8,p9,cz,cE,()),()))))))
 (.ret (.ret ((false,()),())))))
 (.ret (.ret ((false,()),()))))
 .fail)
 (.ret (.out ((),((p3,p4,p5,p6,p7,p8,p9,cz,cE,()),()))))
def sM (a0:Int) (a1:Int) (a2:List (List aw)) (a3:List af) (a4:List ah) (a5:List ag) (a6:List ag) (a7:List Int) (a8:List Int):Out (((Bool×Unit)×Unit)×(Unit×Unit)):=
 .get (iter sL bn ((a5,((List.length a5:Nat):Int),(0:Int),()),((a0,a1,a2,a3,a4,a5,a6,a7,a8,()),()))) fun y1=> .alt y1 (fun y2=>
 .ret ((((decide (((List.length y2.2.1.2.2.2.2.2.1:Nat):Int)≤(3:Int))),()),()),((),()))) (fun y3=>
 .ret (((y3.1.1,()),()),((),())))
abbrev MS:List (Nat×dT):=[(64000000, .var [.i .i64, .i .i64, .ro (.sl b8) (some 0), .ro jr (some 1), .ro cH (some 2), .ro ck (some 3), .ro ck (some 4), .ro (.int .i64) (some 5), .ro (.int .i64) (some 6)])]
def aev:Nat→Option aq:=fun n=>bU [(0,⟨⟨[.dead, .vptr 64000000 0]++dd 4++[.ro ck (some 3), .i .i64, .i .i64]++dd 46,MS⟩,⟨[.dead, .vptr 64000000 0]++dd 53,MS⟩,some ⟨[.dead, .dead, .b]++dd 52,[]⟩,false⟩)] n
def HZ:bM:={ f:=131,lend:=true,aK:=[⟨false,true,[.i .i64, .i .i64, .ro (.sl b8), .ro jr, .ro cH, .ro ck, .ro ck, .ro (.int .i64), .ro (.int .i64)]⟩],lay:=[none],rs:=[⟨false,false,[.b]⟩],F:=fun x=> .ret ((((lY x.1.2.2.2.2.1 x.1.2.2.2.2.2.1),()),()),((),())) }
theorem YO (x:az HZ.aK):bo [kQ,s8,x9] aev Tryz.f131 HZ [.tmp 2] x=sM x.1.1 x.1.2.1 x.1.2.2.1 x.1.2.2.2.1 x.1.2.2.2.2.1 x.1.2.2.2.2.2.1 x.1.2.2.2.2.2.2.1 x.1.2.2.2.2.2.2.2.1 x.1.2.2.2.2.2.2.2.2.1:=by kernel_rfl
theorem YP (hr:∀ x:bw×Unit,aD HZ.aK x→(sM x.1.1 x.1.2.1 x.1.2.2.1 x.1.2.2.2.1 x.1.2.2.2.2.1 x.1.2.2.2.2.2.1 x.1.2.2.2.2.2.2.1 x.1.2.2.2.2.2.2.2.1 x.1.2.2.2.2.2.2.2.2.1).eval=(HZ.F x).eval):HZ.Ok Tryz.prog:=aU [kQ,s8,x9] ⟨ko,ve,SA,trivial⟩ YO fun x hw _ hy=>(hr x hw).trans hy
theorem YQ:HZ.Ok Tryz.prog:=by
 refine YP fun x hw=> ?_;obtain ⟨⟨a0,a1,a2,a3,a4,a5,a6,a7,a8,_⟩,_⟩:=x;have l2:List.length a2≤aS:=hw.1.1.1;have l3:List.length a3≤aS:=hw.1.2.1.1;have l4:List.length a4≤aS:=hw.1.2.2.1.1;have l5:List.length a5≤aS:=hw.1.2.2.2.1.1;have l6:List.length a6≤aS:=hw.1.2.2.2.2.1.1;have l7:List.length a7≤aS:=hw.1.2.2.2.2.2.1.1;have l8:List.length a8≤aS:=hw.1.2.2.2.2.2.2.1.1;show (sM a0 a1 a2 a3 a4 a5 a6 a7 a8).eval=some ((((lY a4 a5),()),()),((),()));unfold sM lY;have h:iter sL bn ((a5,((List.length a5:Nat):Int),(0:Int),()),((a0,a1,a2,a3,a4,a5,a6,a7,a8,()),()))=some (if eO aC (jQ a4) a5=true then .inl ((),((a0,a1,a2,a3,a4,a5,a6,a7,a8,()),())) else .inr ((false,()),())):=kh (f:=sL) (List.length a5) (vk aC (jQ a4) a5) (fun i=>((a5,((List.length a5:Nat):Int),((i:Nat):Int),()),((a0,a1,a2,a3,a4,a5,a6,a7,a8,()),()))) (y:=((),((a0,a1,a2,a3,a4,a5,a6,a7,a8,()),()))) (z:=((false,()),()))
  (fun i hi=>by
   have w1:=ar (i:=i) (by omega);cases i with
   |zero=>
    rw [iK hi];have w3:decide (((0:Nat):Int)>0)=false:=rfl
    try unfold jQ
    try unfold aC
    simp only [sL,Out.eval,s7 hi,Gu,dH hi,adb,afL,w1,w3,gt4,lv];cases p0:dC a5[0].1 0 2<;>cases p2:decide (List.length a5[0].2.1≤4)<;>cases p3:aG a5[0].2.1<;>cases p4:List.any a4 (eR a5[0].1)<;>rfl
   |succ i=>
    rw [gT hi];have w2:=jB i (by omega);have w3:decide (((i+1:Nat):Int)>0)=true:=aaa (by omega)
    try unfold jQ
    try unfold aC
    simp only [sL,Out.eval,s7 hi,dH hi,adb,afL,w1,w3,gt4,lv,dH (show i<List.length a5 by omega),w2,qi];cases p0:dC a5[i+1].1 0 2<;>cases p1:decide (a5[i].1<a5[i+1].1)<;>cases p2:decide (List.length a5[i+1].2.1≤4)<;>cases p3:aG a5[i+1].2.1<;>cases p4:List.any a4 (eR a5[i+1].1)<;>rfl)
  (by simp [sL,Out.eval]) l5
 refine (aa h).trans ?_;cases eO aC (jQ a4) a5
 . cases decide (List.length a5≤3)<;>rfl
 . refine (gF _).trans ?_
   dsimp only;rw [le3,ag3];rfl
end
section
open Go Go.ChangeShapes Go.WideShapes Go.ChangeAt Go.RowKit
def aew:bM:={ f:=221,lend:=true,aK:=[⟨false,false,[.mut (.int .i64)]⟩],lay:=[none],rs:=[],F:=fun x=> .get (De x.1.1) fun y=> .ret ((),((y,()),())) }
theorem YR:aew.Ok Tryz.prog:=SB ⟨⟨_,Tryz.func221,by kernel_rfl,by kernel_rfl⟩⟩ (fun b o c z w h1 h2 h3=>Tryz.slices_Sort_int b o c z w h1 h2 h3) fun p c w=>Tryz.slices_Sort_int_none p c w
abbrev MT:=XS×(List Int×List Int×Unit)
def zy:MT→Out (Round MT ((Unit)×(List Int×List Int×Unit)) Empty)
|((p0,p1,p2,_),p3,p4,_)=>
 .ite (decide (p2<p1))
 (.ite (decide (0≤p2))
 (.get (nth p0 (Int.toNat p2)) fun y1=>
 .ite ((y1.2.2.1==(1:Int)))
 (.ite (decide (List.length p4+List.length ([y1.1]:List Int)≤bV))
 (.ret (.again ((p0,p1,(IntKind.i64.wrap (p2+(1:Int))),()),(p3,(p4++([y1.1]:List Int)),()))))
 .fail)
 (.ret (.again ((p0,p1,(IntKind.i64.wrap (p2+(1:Int))),()),(p3,p4,())))))
 .fail)
 (.ret (.out ((),(p3,p4,()))))
def sN (_:Int) (_:Int) (_:List (List aw)) (a3:List af) (_:List ah) (_:List ag) (_:List ag) (a7:List Int) (_:List Int):Out (((Bool×Unit)×Unit)×(Unit×Unit)):=
 .get (dO a7) fun y1=>
 .get (De y1) fun y2=>
 .get (b5 zy bn ((a3,((List.length a3:Nat):Int),(0:Int),()),(y2,([]:List Int),()))) fun y3=>
 .ret ((((eU y3.2.1 y3.2.2.1),()),()),((),()))
abbrev MU:List (Nat×dT):=[(64000000, .arr (.int .i64)),(64000001, .arr (.int .i64))]
def aex:Nat→Option aq:=fun n=>bU [(0,⟨⟨[.dead, .dead, .dead, .aP 64000000, .aP 64000001]++dd 9++[.ro jr (some 1), .i .i64, .i .i64]++dd 15,MU⟩,⟨[.dead, .dead, .dead, .aP 64000000, .aP 64000001]++dd 27,MU⟩,none,false⟩)] n
def AU (ps:List af) (rd:List Int):Option Bool:=if rd.length≤bV∧ps.length≤bV then some (decide (jY rd=aL ps)) else none
def H0:bM:={ f:=133,lend:=true,aK:=[⟨false,true,[.i .i64, .i .i64, .ro (.sl b8), .ro jr, .ro cH, .ro ck, .ro ck, .ro (.int .i64), .ro (.int .i64)]⟩],lay:=[none],rs:=[⟨false,false,[.b]⟩],F:=fun x=> .get (AU x.1.2.2.2.1 x.1.2.2.2.2.2.2.2.1) fun y=> .ret (((y,()),()),((),())) }
theorem YS (x:az H0.aK):bo [sX,aew,Hi] aex Tryz.f133 H0 [.tmp 2] x=sN x.1.1 x.1.2.1 x.1.2.2.1 x.1.2.2.2.1 x.1.2.2.2.2.1 x.1.2.2.2.2.2.1 x.1.2.2.2.2.2.2.1 x.1.2.2.2.2.2.2.2.1 x.1.2.2.2.2.2.2.2.2.1:=by kernel_rfl
theorem SC (hr:∀ x:bw×Unit,aD H0.aK x→∀ y,(H0.F x).eval=some y→(sN x.1.1 x.1.2.1 x.1.2.2.1 x.1.2.2.2.1 x.1.2.2.2.2.1 x.1.2.2.2.2.2.1 x.1.2.2.2.2.2.2.1 x.1.2.2.2.2.2.2.2.1 x.1.2.2.2.2.2.2.2.2.1).eval=some y):H0.Ok Tryz.prog:=aU [sX,aew,Hi] ⟨qT,YR,Wf,trivial⟩ YS hr
theorem xq:∀ (a:List af) (l:List Int),a.foldl (fun (l:List Int) p=>if p.2.2.1=1 then l++[p.1] else l) l=l++aL a
 |[],l=>by simp [aL]
 |p::r,l=>by
  rw [ade];by_cases hp:p.2.2.1=1
  . rw [aaK hp,xq r]
    simp [aL,jR,hp,ao]
  . rw [aap hp,xq r]
    simp [aL,jR,hp]
theorem YT:H0.Ok Tryz.prog:=by
 refine SC fun x hw y hy=> ?_;obtain ⟨⟨a0,a1,a2,a3,a4,a5,a6,a7,a8,_⟩,_⟩:=x;have l2:List.length a2≤aS:=hw.1.1.1;have l3:List.length a3≤aS:=hw.1.2.1.1;have l4:List.length a4≤aS:=hw.1.2.2.1.1;have l5:List.length a5≤aS:=hw.1.2.2.2.1.1;have l6:List.length a6≤aS:=hw.1.2.2.2.2.1.1;have l7:List.length a7≤aS:=hw.1.2.2.2.2.2.1.1;have l8:List.length a8≤aS:=hw.1.2.2.2.2.2.2.1.1;change (Out.get (AU a3 a7) fun y=>Out.ret (((y,()),()),((),()))).eval=some y at hy;show (sN a0 a1 a2 a3 a4 a5 a6 a7 a8).eval=some y;unfold AU at hy;by_cases hb:List.length a7≤bV∧List.length a3≤bV
 case neg=>rw [aap hb] at hy;exact nomatch hy
 rw [aaK hb] at hy;refine Eq.trans ?_ hy;obtain ⟨hl,hq⟩:=hb;unfold sN;have e1:dO a7=some a7:=kH hl;have e2:De a7=some (jY a7):=aaK (by rw [AB] at hl;omega);refine (aa e1).trans ((aa e2).trans ?_);have h:=foldl_loop (f:=zy) (fun (d:List Int) i=>d.length≤i) (fun (l:List Int) (p:af)=>if p.2.2.1=1 then l++[p.1] else l) a3 (fun d i=>((a3,((List.length a3:Nat):Int),((i:Nat):Int),()),(jY a7,d,()))) (fun d=>((),(jY a7,d,())))
  (fun i hi d hd=>by
   have h1:=ar (i:=i) (by omega);have h2:d.length+1≤bV:=by omega
   by_cases q:a3[i].2.2.1=1<;>simp [zy,Out.eval,hi,h1,cond_eq_ite,q,h2])
  (fun d _=>by simp [zy,Out.eval])
  (fun i hi d hd=>by
   split
   . simp;omega
   . omega) l3 [] (by simp)
 rw [xq a3 [],aaL] at h;refine (aa h).trans ?_;rfl
def jf (p:List aw):Bool:= !bT p
def sO (a0:List aw):Out (((Bool×Unit)×Unit)×(Unit×Unit)):=
 .ret ((((!(bT a0)),()),()),((),()))
def H2:bM:={ f:=127,lend:=true,aK:=[⟨false,false,[.ro b8]⟩],lay:=[none],rs:=[⟨false,false,[.b]⟩],F:=fun x=> .ret ((((jf x.1.1),()),()),((),())) }
theorem YU (x:az H2.aK):bo [Hw] (fun _=>none) Tryz.f127 H2 [.tmp 2] x=sO x.1.1:=by kernel_rfl
theorem YV (hr:∀ x:(List aw×Unit)×Unit,aD H2.aK x→(sO x.1.1).eval=(H2.F x).eval):H2.Ok Tryz.prog:=aU [Hw] ⟨Xc,trivial⟩ YU fun x hw _ hy=>(hr x hw).trans hy
theorem YW:H2.Ok Tryz.prog:=by
 refine YV fun x hw=> ?_;obtain ⟨⟨a0,_⟩,_⟩:=x;have l0:List.length a0≤aS:=hw.1.1.1;show (sO a0).eval=some ((((jf a0),()),()),((),()));unfold sO jf;simp only [Out.eval]
 all_goals ((repeat' split)<;>simp_all)
def kL (a:List (List aw)):Int:=uQ (a.findIdx? jf)
abbrev H3:=(List (List aw)×Int×Int×Unit)×(Unit)
def nR:H3→Out (Round H3 ((Unit)×(Unit)) ((Int×Unit)×(Unit)))
|((p0,p1,p2,_),_)=>
 .ite (decide (p2<p1))
 (.ite (decide (0≤p2))
 (.get (nth p0 (Int.toNat p2)) fun y1=>
 .ite (jf y1)
 (.ret (.ret ((p2,()),())))
 (.ret (.again ((p0,p1,(IntKind.i64.wrap (p2+(1:Int))),()),()))))
 .fail)
 (.ret (.out ((),())))
def oR (a0:List (List aw)):Out (((Int×Unit)×Unit)×(Unit×Unit)):=
 .get (iter nR bn ((a0,((List.length a0:Nat):Int),(0:Int),()),())) fun y1=> .alt y1 (fun _=>
 .ret ((((-1:Int),()),()),((),()))) (fun y3=>
 .ret (((y3.1.1,()),()),((),())))
def YX:Nat→Option aq:=fun n=>bU [(0,⟨⟨[.ro (.sl b8) (some 0), .fn 127 []]++dd 5++[.i .i64, .i .i64]++dd 10,[]⟩,⟨dd 19,[]⟩,some ⟨dd 4++[.i .i64]++dd 14,[]⟩,false⟩)] n
def ya:bM:={ f:=206,lend:=true,aK:=[⟨false,false,[.ro (.sl b8)]⟩],lay:=[none,some (127,0)],rs:=[⟨false,false,[.i .i64]⟩],F:=fun x=> .ret ((((kL x.1.1),()),()),((),())) }
theorem SD (x:az ya.aK):bo [H2] YX Tryz.f206 ya [.tmp 4] x=oR x.1.1:=by kernel_rfl
theorem SE (hr:∀ x:(List (List aw)×Unit)×Unit,aD ya.aK x→(oR x.1.1).eval=(ya.F x).eval):ya.Ok Tryz.prog:=aU [H2] ⟨YW,trivial⟩ SD fun x hw _ hy=>(hr x hw).trans hy
theorem SF:ya.Ok Tryz.prog:=by
 refine SE fun x hw=> ?_;obtain ⟨⟨a0,_⟩,_⟩:=x;have l0:List.length a0≤aS:=hw.1.1.1;show (oR a0).eval=some ((((kL a0),()),()),((),()));unfold oR kL;have h:iter nR bn ((a0,((List.length a0:Nat):Int),(0:Int),()),())=some (match List.findIdx? jf a0 with|some i=> .inr ((((i:Nat):Int),()),())|none=> .inl ((),())):=dZ (f:=nR) a0 jf (fun i=>((a0,((List.length a0:Nat):Int),((i:Nat):Int),()),())) (y:=((),())) (z:=fun i=>((((i:Nat):Int),()),()))
  (fun i hi hp=>by
   have h1:=ar (i:=i) (by omega);simp [nR,Out.eval,hi,h1,cond_eq_ite] at hp ⊢ <;>(try simp_all)<;>(try (rcases hp with h|h<;>simp_all)))
  (fun i hi hp=>by simp [nR,Out.eval,hi,cond_eq_ite] at hp ⊢ <;>(try simp_all)<;>(try (rcases hp with h|h<;>simp_all)))
  (by simp [nR,Out.eval]) l0
 refine (aa h).trans ?_;cases List.findIdx? jf a0<;>rfl
def jC (a:List (List aw)):Bool:=a.any jf
def oS (a0:List (List aw)):Out (((Bool×Unit)×Unit)×(Unit×Unit)):=
 .ret ((((decide ((kL a0)≥(0:Int))),()),()),((),()))
def yb:bM:={ f:=121,lend:=true,aK:=[⟨false,false,[.ro (.sl b8)]⟩],lay:=[none,some (127,0)],rs:=[⟨false,false,[.b]⟩],F:=fun x=> .ret ((((jC x.1.1),()),()),((),())) }
theorem SG (x:az yb.aK):bo [ya] (fun _=>none) Tryz.f121 yb [.tmp 4] x=oS x.1.1:=by kernel_rfl
theorem SH (hr:∀ x:(List (List aw)×Unit)×Unit,aD yb.aK x→(oS x.1.1).eval=(yb.F x).eval):yb.Ok Tryz.prog:=aU [ya] ⟨SF,trivial⟩ SG fun x hw _ hy=>(hr x hw).trans hy
theorem SI:yb.Ok Tryz.prog:=by
 refine SH fun x hw=> ?_;obtain ⟨⟨a0,_⟩,_⟩:=x;have l0:List.length a0≤aS:=hw.1.1.1;show (oS a0).eval=some ((((jC a0),()),()),((),()));unfold oS jC kL;rw [ku];rfl
abbrev SJ:=XS×(bw×Unit)
def xr:SJ→Out (Round SJ ((Unit)×(bw×Unit)) ((Bool×Unit)×(Unit)))
|((p0,p1,p2,_),(p3,p4,p5,p6,p7,p8,p9,cz,cE,_),_)=>
 .ite (decide (p2<p1))
 (.ite (decide (0≤p2))
 (.get (nth p0 (Int.toNat p2)) fun y1=>
 .ite ((decide (p2>(0:Int)))==true)
 (.ite (decide (0≤(IntKind.i64.wrap (p2 - (1:Int)))))
 (.get (nth p6 (Int.toNat (IntKind.i64.wrap (p2 - (1:Int))))) fun y2=>
 .ite ((decide (y2.1≥y1.1))==false)
 (.ite (!(iO p3 p4 p5 p6 p7 y1.1 y1.2.1 y1.2.2.1 y1.2.2.2.1 y1.2.2.2.2.1.1 y1.2.2.2.2.1.2.1 y1.2.2.2.2.2.1 y1.2.2.2.2.2.2.1 y1.2.2.2.2.2.2.2.1 y1.2.2.2.2.2.2.2.2.1))
 (.ret (.ret ((false,()),())))
 (.ret (.again ((p0,p1,(IntKind.i64.wrap (p2+(1:Int))),()),((p3,p4,p5,p6,p7,p8,p9,cz,cE,()),())))))
 (.ret (.ret ((false,()),()))))
 .fail)
 (.ite (!(iO p3 p4 p5 p6 p7 y1.1 y1.2.1 y1.2.2.1 y1.2.2.2.1 y1.2.2.2.2.1.1 y1.2.2.2.2.1.2.1 y1.2.2.2.2.2.1 y1.2.2.2.2.2.2.1 y1.2.2.2.2.2.2.2.1 y1.2.2.2.2.2.2.2.2.1))
 (.ret (.ret ((false,()),())))
 (.ret (.again ((p0,p1,(IntKind.i64.wrap (p2+(1:Int))),()),((p3,p4,p5,p6,p7,p8,p9,cz,cE,()),()))))))
 .fail)
 (.ret (.out ((),((p3,p4,p5,p6,p7,p8,p9,cz,cE,()),()))))
abbrev SK:=(List ah×Int×Int×Unit)×(bw×Unit)
def xt:SK→Out (Round SK ((Unit)×(bw×Unit)) ((Bool×Unit)×(Unit)))
|((p0,p1,p2,_),(p3,p4,p5,p6,p7,p8,p9,cz,cE,_),_)=>
 .ite (decide (p2<p1))
 (.ite (decide (0≤p2))
 (.get (nth p0 (Int.toNat p2)) fun y1=>
 .ite ((decide (p2>(0:Int)))==true)
 (.ite (decide (0≤(IntKind.i64.wrap (p2 - (1:Int)))))
 (.get (nth p7 (Int.toNat (IntKind.i64.wrap (p2 - (1:Int))))) fun y2=>
 .ite ((decide (y2.1≥y1.1))==false)
 (.ite (!(gC p6 p8 p9 y1.1 y1.2.1 y1.2.2.1 y1.2.2.2.1 y1.2.2.2.2.1))
 (.ret (.ret ((false,()),())))
 (.ret (.again ((p0,p1,(IntKind.i64.wrap (p2+(1:Int))),()),((p3,p4,p5,p6,p7,p8,p9,cz,cE,()),())))))
 (.ret (.ret ((false,()),()))))
 .fail)
 (.ite (!(gC p6 p8 p9 y1.1 y1.2.1 y1.2.2.1 y1.2.2.2.1 y1.2.2.2.2.1))
 (.ret (.ret ((false,()),())))
 (.ret (.again ((p0,p1,(IntKind.i64.wrap (p2+(1:Int))),()),((p3,p4,p5,p6,p7,p8,p9,cz,cE,()),()))))))
 .fail)
 (.ret (.out ((),((p3,p4,p5,p6,p7,p8,p9,cz,cE,()),()))))
def vF (a0:Int) (a1:Int) (a2:List (List aw)) (a3:List af) (a4:List ah) (a5:List ag) (a6:List ag) (a7:List Int) (a8:List Int):Out (((Bool×Unit)×Unit)×(Unit×Unit)):=
 .ite ((!(dC a0 (1:Int) (100000:Int)))==false)
 (.ite ((!(dC a1 (0:Int) (1000000:Int)))==false)
 (.ite ((!(dC ((List.length a2:Nat):Int) (1:Int) (4:Int)))==false)
 (.ite ((decide (((List.length a8:Nat):Int)>(60:Int)))==false)
 (.ite (!(aG a8))
 (.ret (((false,()),()),((),())))
 (.ite ((jC a2)==false)
 (.ite ((decide (((List.length a3:Nat):Int)>(6:Int)))==false)
 (.ite (decide (((List.length a4:Nat):Int)>(8:Int)))
 (.ret (((false,()),()),((),())))
 (.get (iter xr bn ((a3,((List.length a3:Nat):Int),(0:Int),()),((a0,a1,a2,a3,a4,a5,a6,a7,a8,()),()))) fun y1=> .alt y1 (fun y2=>
 .get (iter xt bn ((y2.2.1.2.2.2.2.1,((List.length y2.2.1.2.2.2.2.1:Nat):Int),(0:Int),()),((y2.2.1.1,y2.2.1.2.1,y2.2.1.2.2.1,y2.2.1.2.2.2.1,y2.2.1.2.2.2.2.1,y2.2.1.2.2.2.2.2.1,y2.2.1.2.2.2.2.2.2.1,y2.2.1.2.2.2.2.2.2.2.1,y2.2.1.2.2.2.2.2.2.2.2.1,()),()))) fun y4=> .alt y4 (fun y5=>
 .ite ((decide ((qm y5.2.1.2.2.2.1)≤(64:Int)))==true)
 (.ite ((lY y5.2.1.2.2.2.2.1 y5.2.1.2.2.2.2.2.1)==true)
 (.ite ((gq y5.2.1.2.2.2.2.2.2.1)==true)
 (.get (AU y5.2.1.2.2.2.1 y5.2.1.2.2.2.2.2.2.2.1) fun y7=>
 .ret (((y7,()),()),((),())))
 (.ret (((false,()),()),((),()))))
 (.ret (((false,()),()),((),()))))
 (.ret (((false,()),()),((),())))) (fun y6=>
 .ret (((y6.1.1,()),()),((),())))) (fun y3=>
 .ret (((y3.1.1,()),()),((),())))))
 (.ret (((false,()),()),((),()))))
 (.ret (((false,()),()),((),())))))
 (.ret (((false,()),()),((),()))))
 (.ret (((false,()),()),((),()))))
 (.ret (((false,()),()),((),()))))
 (.ret (((false,()),()),((),())))
abbrev FL:List (Nat×dT):=[(64000000, .var [.i .i64, .i .i64, .ro (.sl b8) (some 0), .ro jr (some 1), .ro cH (some 2), .ro ck (some 3), .ro ck (some 4), .ro (.int .i64) (some 5), .ro (.int .i64) (some 6)])]
def aie:Nat→Option aq:=fun n=>bU [(0,⟨⟨[.dead, .vptr 64000000 0]++dd 50++[.ro jr (some 1), .i .i64, .i .i64]++dd 70,FL⟩,⟨[.dead, .vptr 64000000 0]++dd 123,FL⟩,some ⟨[.dead, .dead, .b]++dd 122,[]⟩,false⟩),(2,⟨⟨[.dead, .vptr 64000000 0]++dd 79++[.ro cH (some 2), .i .i64, .i .i64]++dd 41,FL⟩,⟨[.dead, .vptr 64000000 0]++dd 123,FL⟩,some ⟨[.dead, .dead, .b]++dd 122,[]⟩,false⟩)] n
def kr (next tick:Int) (jX:List (List aw)) (ps:List af) (os:List ah) (cO:List mL) (files:List gn) (rd out:List Int):Option Bool:=
 if rd.length≤bV then some (gH next tick jX ps os cO files rd out) else none
def PD:bM:={ f:=51,lend:=true,aK:=[⟨false,true,[.i .i64, .i .i64, .ro (.sl b8), .ro jr, .ro cH, .ro ck, .ro ck, .ro (.int .i64), .ro (.int .i64)]⟩],lay:=[none],rs:=[⟨false,false,[.b]⟩],F:=fun x=> .get (kr x.1.1 x.1.2.1 x.1.2.2.1 x.1.2.2.2.1 x.1.2.2.2.2.1 x.1.2.2.2.2.2.1 x.1.2.2.2.2.2.2.1 x.1.2.2.2.2.2.2.2.1 x.1.2.2.2.2.2.2.2.2.1) fun y=> .ret (((y,()),()),((),())) }
theorem aey (x:az PD.aK):bo [kQ,s8,yb,HS,HU,HY,HZ,Hn,H0] aie Tryz.f51 PD [.tmp 2] x=vF x.1.1 x.1.2.1 x.1.2.2.1 x.1.2.2.2.1 x.1.2.2.2.2.1 x.1.2.2.2.2.2.1 x.1.2.2.2.2.2.2.1 x.1.2.2.2.2.2.2.2.1 x.1.2.2.2.2.2.2.2.2.1:=by kernel_rfl
theorem YY (hr:∀ x:bw×Unit,aD PD.aK x→∀ y,(PD.F x).eval=some y→(vF x.1.1 x.1.2.1 x.1.2.2.1 x.1.2.2.2.1 x.1.2.2.2.2.1 x.1.2.2.2.2.2.1 x.1.2.2.2.2.2.2.1 x.1.2.2.2.2.2.2.2.1 x.1.2.2.2.2.2.2.2.2.1).eval=some y):PD.Ok Tryz.prog:=aU [kQ,s8,yb,HS,HU,HY,HZ,Hn,H0] ⟨ko,ve,SI,Yx,YD,YN,YQ,WG,YT,trivial⟩ aey hr
theorem zM:PD.Ok Tryz.prog:=by
 refine YY fun x hw y hy=> ?_;obtain ⟨⟨a0,a1,a2,a3,a4,a5,a6,a7,a8,_⟩,_⟩:=x;have l2:List.length a2≤aS:=hw.1.1.1;have l3:List.length a3≤aS:=hw.1.2.1.1;have l4:List.length a4≤aS:=hw.1.2.2.1.1;have l5:List.length a5≤aS:=hw.1.2.2.2.1.1;have l6:List.length a6≤aS:=hw.1.2.2.2.2.1.1;have l7:List.length a7≤aS:=hw.1.2.2.2.2.2.1.1;have l8:List.length a8≤aS:=hw.1.2.2.2.2.2.2.1.1;change (Out.get (kr a0 a1 a2 a3 a4 a5 a6 a7 a8) fun y=>Out.ret (((y,()),()),((),()))).eval=some y at hy;show (vF a0 a1 a2 a3 a4 a5 a6 a7 a8).eval=some y;unfold kr at hy;by_cases hl:List.length a7≤bV
 case neg=>rw [aap hl] at hy;exact nomatch hy
 rw [aaK hl] at hy;refine Eq.trans ?_ hy;unfold vF;change _=some (((gH a0 a1 a2 a3 a4 a5 a6 a7 a8,()),()),((),()));rw [aic,gt6,gt8];by_cases c1:dC a0 1 100000=true
 case neg=>rw [ae (by first|(simp [c1];done)|(rw [aaa (by omega)];done)|(rw [aae (by omega)];done)|(rw [aaa (by omega)];rfl)|(rw [aae (by omega)];rfl)|(rw [c1];rfl)|(rw [Bool.eq_false_iff.2 c1];rfl))];simp [Out.eval,gH,c1]
 rw [ab (by first|(simp [c1];done)|(rw [aaa (by omega)];done)|(rw [aae (by omega)];done)|(rw [aaa (by omega)];rfl)|(rw [aae (by omega)];rfl)|(rw [c1];rfl)|(rw [Bool.eq_false_iff.2 c1];rfl))];by_cases c2:dC a1 0 1000000=true
 case neg=>rw [ae (by first|(simp [c2];done)|(rw [aaa (by omega)];done)|(rw [aae (by omega)];done)|(rw [aaa (by omega)];rfl)|(rw [aae (by omega)];rfl)|(rw [c2];rfl)|(rw [Bool.eq_false_iff.2 c2];rfl))];simp [Out.eval,gH,c2]
 rw [ab (by first|(simp [c2];done)|(rw [aaa (by omega)];done)|(rw [aae (by omega)];done)|(rw [aaa (by omega)];rfl)|(rw [aae (by omega)];rfl)|(rw [c2];rfl)|(rw [Bool.eq_false_iff.2 c2];rfl))];by_cases c3:dC ((List.length a2:Nat):Int) 1 4=true
 case neg=>rw [ae (by first|(simp [c3];done)|(rw [aaa (by omega)];done)|(rw [aae (by omega)];done)|(rw [aaa (by omega)];rfl)|(rw [aae (by omega)];rfl)|(rw [c3];rfl)|(rw [Bool.eq_false_iff.2 c3];rfl))];simp [Out.eval,gH,c3]
 rw [ab (by first|(simp [c3];done)|(rw [aaa (by omega)];done)|(rw [aae (by omega)];done)|(rw [aaa (by omega)];rfl)|(rw [aae (by omega)];rfl)|(rw [c3];rfl)|(rw [Bool.eq_false_iff.2 c3];rfl))];by_cases c4:List.length a8≤60
 case neg=>rw [ae (by first|(simp [c4];done)|(rw [aaa (by omega)];done)|(rw [aae (by omega)];done)|(rw [aaa (by omega)];rfl)|(rw [aae (by omega)];rfl)|(rw [c4];rfl)|(rw [Bool.eq_false_iff.2 c4];rfl))];simp [Out.eval,gH,c4]
 rw [ab (by first|(simp [c4];done)|(rw [aaa (by omega)];done)|(rw [aae (by omega)];done)|(rw [aaa (by omega)];rfl)|(rw [aae (by omega)];rfl)|(rw [c4];rfl)|(rw [Bool.eq_false_iff.2 c4];rfl))];by_cases c5:aG a8=true
 case neg=>rw [ab (by first|(simp [c5];done)|(rw [aaa (by omega)];done)|(rw [aae (by omega)];done)|(rw [aaa (by omega)];rfl)|(rw [aae (by omega)];rfl)|(rw [c5];rfl)|(rw [Bool.eq_false_iff.2 c5];rfl))];simp [Out.eval,gH,c5]
 rw [ae (by first|(simp [c5];done)|(rw [aaa (by omega)];done)|(rw [aae (by omega)];done)|(rw [aaa (by omega)];rfl)|(rw [aae (by omega)];rfl)|(rw [c5];rfl)|(rw [Bool.eq_false_iff.2 c5];rfl))];have e6:jC a2= !List.all a2 bT:=by
  unfold jC jf;rw [acK];simp
 rw [e6];by_cases c6:List.all a2 bT=true
 case neg=>rw [ae (by first|(simp [c6];done)|(rw [aaa (by omega)];done)|(rw [aae (by omega)];done)|(rw [aaa (by omega)];rfl)|(rw [aae (by omega)];rfl)|(rw [c6];rfl)|(rw [Bool.eq_false_iff.2 c6];rfl))];simp [Out.eval,gH,c6]
 rw [ab (by first|(simp [c6];done)|(rw [aaa (by omega)];done)|(rw [aae (by omega)];done)|(rw [aaa (by omega)];rfl)|(rw [aae (by omega)];rfl)|(rw [c6];rfl)|(rw [Bool.eq_false_iff.2 c6];rfl))];by_cases c7:List.length a3≤6
 case neg=>rw [ae (by first|(simp [c7];done)|(rw [aaa (by omega)];done)|(rw [aae (by omega)];done)|(rw [aaa (by omega)];rfl)|(rw [aae (by omega)];rfl)|(rw [c7];rfl)|(rw [Bool.eq_false_iff.2 c7];rfl))];simp [Out.eval,gH,c7]
 rw [ab (by first|(simp [c7];done)|(rw [aaa (by omega)];done)|(rw [aae (by omega)];done)|(rw [aaa (by omega)];rfl)|(rw [aae (by omega)];rfl)|(rw [c7];rfl)|(rw [Bool.eq_false_iff.2 c7];rfl))];by_cases c8:List.length a4≤8
 case neg=>rw [ab (by first|(simp [c8];done)|(rw [aaa (by omega)];done)|(rw [aae (by omega)];done)|(rw [aaa (by omega)];rfl)|(rw [aae (by omega)];rfl)|(rw [c8];rfl)|(rw [Bool.eq_false_iff.2 c8];rfl))];simp [Out.eval,gH,c8]
 rw [ae (by first|(simp [c8];done)|(rw [aaa (by omega)];done)|(rw [aae (by omega)];done)|(rw [aaa (by omega)];rfl)|(rw [aae (by omega)];rfl)|(rw [c8];rfl)|(rw [Bool.eq_false_iff.2 c8];rfl))];have h1:iter xr bn ((a3,((List.length a3:Nat):Int),(0:Int),()),((a0,a1,a2,a3,a4,a5,a6,a7,a8,()),()))=some (if eO ao (fG a0 a1 (List.length a2) a3 a4) a3=true then .inl ((),((a0,a1,a2,a3,a4,a5,a6,a7,a8,()),())) else .inr ((false,()),())):=kh (f:=xr) (List.length a3) (vk ao (fG a0 a1 (List.length a2) a3 a4) a3) (fun i=>((a3,((List.length a3:Nat):Int),((i:Nat):Int),()),((a0,a1,a2,a3,a4,a5,a6,a7,a8,()),()))) (y:=((),((a0,a1,a2,a3,a4,a5,a6,a7,a8,()),()))) (z:=((false,()),()))
  (fun i hi=>by
   have w1:=ar (i:=i) (by omega);cases i with
   |zero=>
    rw [iK hi];have w3:decide (((0:Nat):Int)>0)=false:=rfl
    try unfold fG
    try unfold tB
    try unfold ao
    simp only [xr,Out.eval,s7 hi,Gu,dH hi,adb,afL,w1,w3,iO];cases p0:dC a3[0].1 1 (IntKind.i64.wrap (a0 - 1))<;>cases p2:dw a1 (List.length a2) a3 a4 a3[0].1 a3[0].2.1 a3[0].2.2.1 a3[0].2.2.2.1 a3[0].2.2.2.2.1.1 a3[0].2.2.2.2.1.2.1 a3[0].2.2.2.2.2.1 a3[0].2.2.2.2.2.2.1 a3[0].2.2.2.2.2.2.2.1 a3[0].2.2.2.2.2.2.2.2.1<;>rfl
   |succ i=>
    rw [gT hi];have w2:=jB i (by omega);have w3:decide (((i+1:Nat):Int)>0)=true:=aaa (by omega)
    try unfold fG
    try unfold tB
    try unfold ao
    simp only [xr,Out.eval,s7 hi,dH hi,adb,afL,w1,w3,iO,dH (show i<List.length a3 by omega),w2,qi];cases p0:dC a3[i+1].1 1 (IntKind.i64.wrap (a0 - 1))<;>cases p1:decide (a3[i].1<a3[i+1].1)<;>cases p2:dw a1 (List.length a2) a3 a4 a3[i+1].1 a3[i+1].2.1 a3[i+1].2.2.1 a3[i+1].2.2.2.1 a3[i+1].2.2.2.2.1.1 a3[i+1].2.2.2.2.1.2.1 a3[i+1].2.2.2.2.2.1 a3[i+1].2.2.2.2.2.2.1 a3[i+1].2.2.2.2.2.2.2.1 a3[i+1].2.2.2.2.2.2.2.2.1<;>rfl)
  (by simp [xr,Out.eval]) l3
 refine (aa h1).trans ?_;by_cases q1:eO ao (fG a0 a1 (List.length a2) a3 a4) a3=true
 case neg=>rw [aap q1];simp [Out.eval,gH,q1]
 rw [aaK q1];refine (gF _).trans ?_;dsimp only;have h2:iter xt bn ((a4,((List.length a4:Nat):Int),(0:Int),()),((a0,a1,a2,a3,a4,a5,a6,a7,a8,()),()))=some (if eO al (jP a3 a5 a6) a4=true then .inl ((),((a0,a1,a2,a3,a4,a5,a6,a7,a8,()),())) else .inr ((false,()),())):=kh (f:=xt) (List.length a4) (vk al (jP a3 a5 a6) a4) (fun i=>((a4,((List.length a4:Nat):Int),((i:Nat):Int),()),((a0,a1,a2,a3,a4,a5,a6,a7,a8,()),()))) (y:=((),((a0,a1,a2,a3,a4,a5,a6,a7,a8,()),()))) (z:=((false,()),()))
  (fun i hi=>by
   have w1:=ar (i:=i) (by omega);cases i with
   |zero=>
    rw [iK hi];have w3:decide (((0:Nat):Int)>0)=false:=rfl
    try unfold jP
    try unfold al
    simp only [xt,Out.eval,s7 hi,Gu,dH hi,adb,afL,w1,w3];cases p0:gC a3 a5 a6 a4[0].1 a4[0].2.1 a4[0].2.2.1 a4[0].2.2.2.1 a4[0].2.2.2.2.1<;>rfl
   |succ i=>
    rw [gT hi];have w2:=jB i (by omega);have w3:decide (((i+1:Nat):Int)>0)=true:=aaa (by omega)
    try unfold jP
    try unfold al
    simp only [xt,Out.eval,s7 hi,dH hi,adb,afL,w1,w3,dH (show i<List.length a4 by omega),w2,qi];cases p0:gC a3 a5 a6 a4[i+1].1 a4[i+1].2.1 a4[i+1].2.2.1 a4[i+1].2.2.2.1 a4[i+1].2.2.2.2.1<;>cases p1:decide (a4[i].1<a4[i+1].1)<;>rfl)
  (by simp [xt,Out.eval]) l4
 refine (aa h2).trans ?_;by_cases q2:eO al (jP a3 a5 a6) a4=true
 case neg=>rw [aap q2];simp [Out.eval,gH,q2]
 rw [aaK q2];refine (gF _).trans ?_;dsimp only;have e9:AU a3 a7=some (decide (jY a7=aL a3)):=aaK ⟨hl,by rw [AB];omega⟩;unfold gH;rw [c1,c2,c3,aaa c4,c5,c6,aaa c7,aaa c8,q1,q2,e9];cases decide (qm a3≤64)<;>cases lY a4 a5<;>cases gq a6<;>rfl
end
section
open Go Go.ChangeShapes Go.WideShapes Go.ChangeAt Go.RowKit
def sP (a0:Int) (a1:Int) (a2:Int) (a3:Int) (a4:Int) (a5:List Int) (a6:List Int) (a7:List Int) (a8:Int) (a9:Int):Out ((XM×Unit)×(Unit×Unit)):=
 .ite (decide (List.length ([]:List Int)+List.length a5≤bV))
 (.ite (decide (List.length ([]:List Int)+List.length a6≤bV))
 (.ite (decide (List.length ([]:List Int)+List.length a7≤bV))
 (.ret (((a0,a1,a2,a3,a4,(([]:List Int)++a5),(([]:List Int)++a6),(([]:List Int)++a7),a8,a9,()),()),((),())))
 .fail)
 .fail)
 .fail
def et (pid par st pg pc:Int) (vm mem fds:List Int) (om code:Int):Option (Int×Int×Int×Int×Int×List Int×List Int×List Int×Int×Int):=
 if vm.length≤bV∧mem.length≤bV∧fds.length≤bV then some (pid,par,st,pg,pc,vm,mem,fds,om,code) else none
def B1:bM:={ f:=117,lend:=true,aK:=[⟨false,true,[.i .i64, .i .i64, .i .i64, .i .i64, .i .i64, .ro (.int .i64), .ro (.int .i64), .ro (.int .i64), .i .i64, .i .i64]⟩],lay:=[none],rs:=[⟨false,true,[.i .i64, .i .i64, .i .i64, .i .i64, .i .i64, .own (.int .i64), .own (.int .i64), .own (.int .i64), .i .i64, .i .i64]⟩],F:=fun x=> .get (et x.1.1 x.1.2.1 x.1.2.2.1 x.1.2.2.2.1 x.1.2.2.2.2.1 x.1.2.2.2.2.2.1 x.1.2.2.2.2.2.2.1 x.1.2.2.2.2.2.2.2.1 x.1.2.2.2.2.2.2.2.2.1 x.1.2.2.2.2.2.2.2.2.2.1) fun y=> .ret (((y.1,y.2.1,y.2.2.1,y.2.2.2.1,y.2.2.2.2.1,y.2.2.2.2.2.1,y.2.2.2.2.2.2.1,y.2.2.2.2.2.2.2.1,y.2.2.2.2.2.2.2.2.1,y.2.2.2.2.2.2.2.2.2,()),()),((),())) }
theorem YZ (x:az B1.aK):bo [] (fun _=>none) Tryz.f117 B1 [.cell 2 50] x=sP x.1.1 x.1.2.1 x.1.2.2.1 x.1.2.2.2.1 x.1.2.2.2.2.1 x.1.2.2.2.2.2.1 x.1.2.2.2.2.2.2.1 x.1.2.2.2.2.2.2.2.1 x.1.2.2.2.2.2.2.2.2.1 x.1.2.2.2.2.2.2.2.2.2.1:=by kernel_rfl
theorem SL (hr:∀ x:XM×Unit,aD B1.aK x→∀ y,(B1.F x).eval=some y→(sP x.1.1 x.1.2.1 x.1.2.2.1 x.1.2.2.2.1 x.1.2.2.2.2.1 x.1.2.2.2.2.2.1 x.1.2.2.2.2.2.2.1 x.1.2.2.2.2.2.2.2.1 x.1.2.2.2.2.2.2.2.2.1 x.1.2.2.2.2.2.2.2.2.2.1).eval=some y):B1.Ok Tryz.prog:=aU [] trivial YZ hr
theorem zc:B1.Ok Tryz.prog:=by
 refine SL fun x hw y hy=> ?_;obtain ⟨⟨a0,a1,a2,a3,a4,a5,a6,a7,a8,a9,_⟩,_⟩:=x;have l5:List.length a5≤aS:=hw.1.1.1;have l6:List.length a6≤aS:=hw.1.2.1.1;have l7:List.length a7≤aS:=hw.1.2.2.1.1;change (Out.get (et a0 a1 a2 a3 a4 a5 a6 a7 a8 a9) fun y=>Out.ret (((y.1,y.2.1,y.2.2.1,y.2.2.2.1,y.2.2.2.2.1,y.2.2.2.2.2.1,y.2.2.2.2.2.2.1,y.2.2.2.2.2.2.2.1,y.2.2.2.2.2.2.2.2.1,y.2.2.2.2.2.2.2.2.2,()),()),((),()))).eval=some y at hy;show (sP a0 a1 a2 a3 a4 a5 a6 a7 a8 a9).eval=some y;unfold et at hy;by_cases hl:List.length a5≤bV∧List.length a6≤bV∧List.length a7≤bV
 case neg=>rw [aap hl] at hy;exact nomatch hy
 rw [aaK hl] at hy;refine Eq.trans ?_ hy;unfold sP;have e:∀ (l:List Int),l.length≤bV→decide (List.length ([]:List Int)+List.length l≤bV)=true:=fun l h=>aaa (by rw [aat,ada];exact h);rw [ab (e _ hl.1),ab (e _ hl.2.1),ab (e _ hl.2.2)];rfl
def sQ (a0:Int) (a1:List Int):Out ((ag×Unit)×(Unit×Unit)):=
 .get (dO a1) fun y1=>
 .ret (((a0,y1,()),()),((),()))
def nS (pc:Int) (vm:List Int):Option (Int×List Int):=if vm.length≤bV then some (pc,vm) else none
def H4:bM:={ f:=144,lend:=true,aK:=[⟨false,true,[.i .i64, .ro (.int .i64)]⟩],lay:=[none],rs:=[⟨false,true,[.i .i64, .own (.int .i64)]⟩],F:=fun x=> .get (nS x.1.1 x.1.2.1) fun y=> .ret (((y.1,y.2,()),()),((),())) }
theorem Y0 (x:az H4.aK):bo [sX] (fun _=>none) Tryz.f144 H4 [.cell 2 48] x=sQ x.1.1 x.1.2.1:=by kernel_rfl
theorem SM (hr:∀ x:ag×Unit,aD H4.aK x→∀ y,(H4.F x).eval=some y→(sQ x.1.1 x.1.2.1).eval=some y):H4.Ok Tryz.prog:=aU [sX] ⟨qT,trivial⟩ Y0 hr
theorem Y1:H4.Ok Tryz.prog:=by
 refine SM fun x hw y hy=> ?_;obtain ⟨⟨a0,a1,_⟩,_⟩:=x;have l1:List.length a1≤aS:=hw.1.1.1;change (Out.get (nS a0 a1) fun y=>Out.ret (((y.1,y.2,()),()),((),()))).eval=some y at hy;show (sQ a0 a1).eval=some y;unfold nS at hy;by_cases hl:List.length a1≤bV
 case neg=>rw [aap hl] at hy;exact nomatch hy
 rw [aaK hl] at hy;refine Eq.trans ?_ hy;unfold sQ;have e1:dO a1=some a1:=kH hl;exact aa e1
def sR (a0:Int) (a1:Int) (a2:Int) (a3:Int) (a4:Int) (a5:List Int) (a6:List Int) (a7:List Int) (a8:Int) (a9:Int):Out ((XM×Unit)×(Unit×Unit)):=
 .get (nS a4 a5) fun y1=>
 .get (dO a6) fun y2=>
 .get (dO a7) fun y3=>
 .ret (((a0,a1,a2,a3,y1.1,y1.2,y2,y3,a8,a9,()),()),((),()))
def Jg:bM:={ f:=102,lend:=true,aK:=[⟨false,true,[.i .i64, .i .i64, .i .i64, .i .i64, .i .i64, .ro (.int .i64), .ro (.int .i64), .ro (.int .i64), .i .i64, .i .i64]⟩],lay:=[none],rs:=[⟨false,true,[.i .i64, .i .i64, .i .i64, .i .i64, .i .i64, .own (.int .i64), .own (.int .i64), .own (.int .i64), .i .i64, .i .i64]⟩],F:=fun x=> .get (et x.1.1 x.1.2.1 x.1.2.2.1 x.1.2.2.2.1 x.1.2.2.2.2.1 x.1.2.2.2.2.2.1 x.1.2.2.2.2.2.2.1 x.1.2.2.2.2.2.2.2.1 x.1.2.2.2.2.2.2.2.2.1 x.1.2.2.2.2.2.2.2.2.2.1) fun y=> .ret (((y.1,y.2.1,y.2.2.1,y.2.2.2.1,y.2.2.2.2.1,y.2.2.2.2.2.1,y.2.2.2.2.2.2.1,y.2.2.2.2.2.2.2.1,y.2.2.2.2.2.2.2.2.1,y.2.2.2.2.2.2.2.2.2,()),()),((),())) }
theorem Y2 (x:az Jg.aK):bo [H4,sX] (fun _=>none) Tryz.f102 Jg [.cell 2 50] x=sR x.1.1 x.1.2.1 x.1.2.2.1 x.1.2.2.2.1 x.1.2.2.2.2.1 x.1.2.2.2.2.2.1 x.1.2.2.2.2.2.2.1 x.1.2.2.2.2.2.2.2.1 x.1.2.2.2.2.2.2.2.2.1 x.1.2.2.2.2.2.2.2.2.2.1:=by kernel_rfl
theorem SN (hr:∀ x:XM×Unit,aD Jg.aK x→∀ y,(Jg.F x).eval=some y→(sR x.1.1 x.1.2.1 x.1.2.2.1 x.1.2.2.2.1 x.1.2.2.2.2.1 x.1.2.2.2.2.2.1 x.1.2.2.2.2.2.2.1 x.1.2.2.2.2.2.2.2.1 x.1.2.2.2.2.2.2.2.2.1 x.1.2.2.2.2.2.2.2.2.2.1).eval=some y):Jg.Ok Tryz.prog:=aU [H4,sX] ⟨Y1,qT,trivial⟩ Y2 hr
theorem UW:Jg.Ok Tryz.prog:=by
 refine SN fun x hw y hy=> ?_;obtain ⟨⟨a0,a1,a2,a3,a4,a5,a6,a7,a8,a9,_⟩,_⟩:=x;have l5:List.length a5≤aS:=hw.1.1.1;have l6:List.length a6≤aS:=hw.1.2.1.1;have l7:List.length a7≤aS:=hw.1.2.2.1.1;change (Out.get (et a0 a1 a2 a3 a4 a5 a6 a7 a8 a9) fun y=>Out.ret (((y.1,y.2.1,y.2.2.1,y.2.2.2.1,y.2.2.2.2.1,y.2.2.2.2.2.1,y.2.2.2.2.2.2.1,y.2.2.2.2.2.2.2.1,y.2.2.2.2.2.2.2.2.1,y.2.2.2.2.2.2.2.2.2,()),()),((),()))).eval=some y at hy;show (sR a0 a1 a2 a3 a4 a5 a6 a7 a8 a9).eval=some y;unfold et at hy;by_cases hl:List.length a5≤bV∧List.length a6≤bV∧List.length a7≤bV
 case neg=>rw [aap hl] at hy;exact nomatch hy
 rw [aaK hl] at hy;refine Eq.trans ?_ hy;unfold sR;have e1:nS a4 a5=some (a4,a5):=aaK hl.1;have e2:dO a6=some a6:=kH hl.2.1;have e3:dO a7=some a7:=kH hl.2.2;refine (aa e1).trans ((aa e2).trans ((aa e3).trans ?_));rfl
end
end Go.Proofs.YtohagdoklnkljaaGreat.Dm
