/- f -/
import Derived.Test.YtohagdoklnkljaaGreatBase
namespace Go.Proofs.YtohagdoklnkljaaGreat.Dm
section
open Go Go.ChangeShapes Go.WideShapes Go.ChangeAt Go.RowKit
abbrev Wc:=List UInt8
theorem all_eq {α:Type} [DecidableEq α] (a b:List α) (hl:a.length=b.length):(List.range a.length).all (fun i=>decide (a[i]? =b[i]?))=decide (a=b):=by
 rw [acK,aa1,ac3];constructor
 . intro h
   apply adQ;intro i;by_cases hi:i<a.length
   . exact abH (h i (List.mem_range.2 hi))
   . rw [aeH (by omega),aeH (by omega)]
 . rintro rfl
   intro i _;exact aaa rfl
theorem J6 {a b:Nat} (h:a≠b):(((a:Nat):Int) != ((b:Nat):Int))=true:=by
 simp only [bne_iff_ne,ne_eq];omega
theorem J5 {a b:Nat} (h:a=b):(((a:Nat):Int) != ((b:Nat):Int))=false:=by
 subst h;simp
theorem s7 {i n:Nat} (h:i<n):decide (((i:Nat):Int)<((n:Nat):Int))=true:=aaa (by omega)
theorem Gu (i:Nat):decide (0≤((i:Nat):Int))=true:=aaa (by omega)
theorem FE {α:Type} [DecidableEq α] {σ β γ:Type} {f:σ→Out (Round σ β γ)} (a b:List α) (s:Nat→σ) {y:β} {z:γ} (hl:a.length=b.length) (ha:a.length≤aS)
  (hy:∀ i (hi:i<a.length) (cU:i<b.length),a[i]=b[i]→(f (s i)).eval=some (.again (s (i+1)))) (hn:∀ i (hi:i<a.length) (cU:i<b.length),a[i]≠b[i]→(f (s i)).eval=some (.ret z))
  (he:(f (s a.length)).eval=some (.out y)):iter f bn (s 0)=some (if a=b then .inl y else .inr z):=by
 have:=C5 s (fun i=>decide (a[i]? =b[i]?)) a.length (fL ha) (fun i hi hp=>by
  have he:=abH hp;rw [aaf hi,aaf (by omega)] at he;exact hy i hi (by omega) (aaG he)) (fun i hi hp=>by
  have he:=ahe hp;rw [aaf hi,aaf (by omega)] at he;exact hn i hi (by omega) fun e=>he (by rw [e])) he
 rw [this,all_eq a b hl];by_cases h:a=b
 . simp only [aaa h,af7,aaK h]
 . simp only [aae h,aap h];rfl
end
section
open Go Go.ChangeShapes Go.WideShapes Go.ChangeAt Go.RowKit
def lim {α β:Type} (l:List α) (x:β):Option β:=if l.length≤bV then some x else none
theorem kH {α β:Type} {l:List α} {x:β} (h:l.length≤bV):lim l x=some x:=aaK h
theorem yK {α β:Type} {l:List α} {x:β} (h:¬ l.length≤bV):lim l x=none:=aap h
def eU (a b:List Int):Bool:=decide (a=b)
abbrev Mi:=(List (Int)×List (Int)×Int×Int×Unit)×(Unit)
def uZ:Mi→Out (Round Mi ((Unit)×(Unit)) ((Bool×Unit)×(Unit)))
|((p0,p1,p2,p3,_),_)=>
 .ite (decide (p3<p2))
 (.ite (decide (0≤p3))
 (.get (nth p0 (Int.toNat p3)) fun y1=>
 .ite (decide (0≤p3))
 (.get (nth p1 (Int.toNat p3)) fun y2=>
 .ite ((y1 != y2))
 (.ret (.ret ((false,()),())))
 (.ret (.again ((p0,p1,p2,(IntKind.i64.wrap (p3+(1:Int))),()),()))))
 .fail)
 .fail)
 (.ret (.out ((),())))
def rF (a0:List Int) (a1:List Int):Out (((Bool×Unit)×Unit)×XI):=
 .ite ((((List.length a0:Nat):Int) != ((List.length a1:Nat):Int)))
 (.ret (((false,()),()),((),(),())))
 (.get (iter uZ bn ((a0,a1,((List.length a0:Nat):Int),(0:Int),()),())) fun y1=> .alt y1 (fun _=>
 .ret (((true,()),()),((),(),()))) (fun y3=>
 .ret (((y3.1.1,()),()),((),(),()))))
def ad4:Nat→Option aq:=fun n=>bU [(0,⟨⟨[.ro (.int .i64) (some 0), .ro (.int .i64) (some 1)]++dd 10++[.i .i64, .i .i64]++dd 12,[]⟩,⟨dd 26,[]⟩,some ⟨dd 4++[.b]++dd 21,[]⟩,false⟩)] n
def Hi:bM:={ f:=222,lend:=true,aK:=[⟨false,false,[.ro (.int .i64)]⟩,⟨false,false,[.ro (.int .i64)]⟩],lay:=[none,none],rs:=[⟨false,false,[.b]⟩],F:=fun x=> .ret ((((eU x.1.1 x.2.1.1),()),()),((),(),())) }
theorem Wd (x:az Hi.aK):bo [] ad4 Tryz.f222 Hi [.tmp 4] x=rF x.1.1 x.2.1.1:=by kernel_rfl
theorem We (hr:∀ x:(List Int×Unit)×(List Int×Unit)×Unit,aD Hi.aK x→(rF x.1.1 x.2.1.1).eval=(Hi.F x).eval):Hi.Ok Tryz.prog:=aU [] trivial Wd fun x hw _ hy=>(hr x hw).trans hy
theorem Wf:Hi.Ok Tryz.prog:=by
 refine We fun x hw=> ?_;obtain ⟨⟨a,_⟩,⟨b,_⟩,_⟩:=x;have ha:a.length≤aS:=hw.1.1.1;show (rF a b).eval=some (((eU a b,()),()),((),((),())));unfold rF;by_cases hl:a.length=b.length
 . rw [ae (J5 hl)]
   have:=FE (f:=uZ) a b (fun i=>((a,(b,(((a.length:Nat):Int),(((i:Nat):Int),())))),())) (y:=((),())) (z:=((false,()),())) hl ha
    (fun i hi cU he=>by
     have:=ar (i:=i) (by omega);simp [uZ,Out.eval,hi,cU,he,this])
    (fun i hi cU he=>by simp [uZ,Out.eval,hi,cU,he,cond_eq_ite])
    (by simp [uZ,Out.eval])
   refine (aa this).trans ?_;unfold eU;by_cases Gt:a=b
   . simp only [aaK Gt,aaa Gt];rfl
   . simp only [aap Gt,aae Gt];rfl
 . rw [ab (J6 hl)]
   have:eU a b=false:=aae fun e=>hl (by rw [e]);rw [this];rfl
end
section
open Go Go.ChangeShapes Go.WideShapes Go.ChangeAt Go.RowKit
section
variable {α σ β γ:Type} {f:σ→Out (Round σ β γ)}
theorem dZ (a:List α) (p:α→Bool) (S:Nat→σ) {y:β} {z:Nat→γ} (hs:∀ i (hi:i<a.length),p a[i]=false→(f (S i)).eval=some (.again (S (i+1))))
  (hz:∀ i (hi:i<a.length),p a[i]=true→(f (S i)).eval=some (.ret (z i))) (hy:(f (S a.length)).eval=some (.out y)) (ha:a.length≤aS):
  iter f bn (S 0)=some (match a.findIdx? p with|some i=> .inr (z i)|none=> .inl y):=by
 cases h:a.findIdx? p with
 |none=>
  rw [afI] at h;exact kK S a.length (fL ha) (fun i hi=>hs i hi (h _ (acD hi))) hy
 |some i=>
  rw [aeR] at h;obtain ⟨hi,hp,ad5⟩:=h;exact Hj S i (af3 (by omega) (fL ha)) (fun j hj=>hs j (by omega) (by simpa using ad5 j hj)) (hz i hi hp)
theorem AH (a:List α) (p:α→Bool) (S:Nat→σ) {y:β} {z:γ} (hs:∀ i (hi:i<a.length),p a[i]=true→(f (S i)).eval=some (.again (S (i+1))))
  (hz:∀ i (hi:i<a.length),p a[i]=false→(f (S i)).eval=some (.ret z)) (hy:(f (S a.length)).eval=some (.out y)) (ha:a.length≤aS):
  iter f bn (S 0)=some (if a.all p=true then .inl y else .inr z):=by
 rw [dZ (f:=f) a (fun x=> !p x) S (y:=y) (z:=fun _=>z) (fun i hi hp=>hs i hi (by simpa using hp)) (fun i hi hp=>hz i hi (by simpa using hp)) hy ha];cases h:a.findIdx? (fun x=> !p x) with
 |none=>
  rw [afI] at h;rw [aaK (aa1.2 fun x hx=>by simpa using h x hx)]
 |some i=>
  rw [aeR] at h;obtain ⟨hi,hp,_⟩:=h;rw [aap (fun q=>by have:=aa1.1 q _ (acD hi);rw [this] at hp;exact absurd hp (by decide))]
end
theorem FI {n:Nat} {m:Nat}:decide (((n:Nat):Int)≤((m:Nat):Int))=decide (n≤m):=by
 rw [acK];simp
theorem Wg {n m:Nat}:(((n:Nat):Int) != ((m:Nat):Int))= !decide (n=m):=by
 rw [acK];simp;omega
theorem mK {n m:Nat}:decide (((n:Nat):Int)>((m:Nat):Int))= !decide (n≤m):=by
 rw [acK];simp
def rG (a0:Int) (a1:Int) (a2:Int):Out (((Bool×Unit)×Unit)×(Unit×XI)):=
 .ite ((decide (a0≥a1))==true)
 (.ret ((((decide (a0≤a2)),()),()),((),(),(),())))
 (.ret (((false,()),()),((),(),(),())))
def dC (x a b:Int):Bool:=decide (a≤x)&&decide (x≤b)
def kQ:bM:={ f:=120,lend:=true,aK:=[⟨false,false,[.i .i64]⟩,⟨false,false,[.i .i64]⟩,⟨false,false,[.i .i64]⟩],lay:=[none,none,none],rs:=[⟨false,false,[.b]⟩],F:=fun x=> .ret ((((dC x.1.1 x.2.1.1 x.2.2.1.1),()),()),((),(),(),())) }
theorem Wh (x:az kQ.aK):bo [] (fun _=>none) Tryz.f120 kQ [.tmp 6] x=rG x.1.1 x.2.1.1 x.2.2.1.1:=by kernel_rfl
theorem Wi (hr:∀ x:(Int×Unit)×(Int×Unit)×(Int×Unit)×Unit,aD kQ.aK x→(rG x.1.1 x.2.1.1 x.2.2.1.1).eval=(kQ.F x).eval):kQ.Ok Tryz.prog:=aU [] trivial Wh fun x hw _ hy=>(hr x hw).trans hy
theorem ko:kQ.Ok Tryz.prog:=by
 refine Wi fun x _=> ?_;obtain ⟨⟨x,_⟩,⟨a,_⟩,⟨b,_⟩,_⟩:=x;show (rG x a b).eval=some (((dC x a b,()),()),((),((),((),()))));unfold rG dC;by_cases h1:a≤x<;>simp [Out.eval,h1]
def u9 (a0:Int) (a1:Int) (a2:Int):Out (((Bool×Unit)×Unit)×(Unit×XI)):=
 .ite ((decide (a0≥a1))==true)
 (.ret ((((decide (a0≤a2)),()),()),((),(),(),())))
 (.ret (((false,()),()),((),(),(),())))
def wO:bM:={ f:=97,lend:=true,aK:=[⟨false,false,[.i .i64]⟩,⟨false,false,[.i .i64]⟩,⟨false,false,[.i .i64]⟩],lay:=[none,none,none],rs:=[⟨false,false,[.b]⟩],F:=fun x=> .ret ((((dC x.1.1 x.2.1.1 x.2.2.1.1),()),()),((),(),(),())) }
theorem ad6 (x:az wO.aK):bo [] (fun _=>none) Tryz.f97 wO [.tmp 6] x=u9 x.1.1 x.2.1.1 x.2.2.1.1:=by kernel_rfl
theorem ad7 (hr:∀ x:(Int×Unit)×(Int×Unit)×(Int×Unit)×Unit,aD wO.aK x→(u9 x.1.1 x.2.1.1 x.2.2.1.1).eval=(wO.F x).eval):wO.Ok Tryz.prog:=aU [] trivial ad6 fun x hw _ hy=>(hr x hw).trans hy
theorem kc:wO.Ok Tryz.prog:=by
 refine ad7 fun x _=> ?_;obtain ⟨⟨x,_⟩,⟨a,_⟩,⟨b,_⟩,_⟩:=x;show (u9 x a b).eval=some (((dC x a b,()),()),((),((),((),()))));unfold u9 dC;by_cases h1:a≤x<;>simp [Out.eval,h1]
def uQ:Option Nat→Int
 |some i=>((i:Nat):Int)
 |none=> -1
theorem ku {α:Type} (a:List α) (p:α→Bool):decide (uQ (a.findIdx? p)≥0)=a.any p:=by
 cases h:a.findIdx? p with
 |none=>
  rw [afI] at h;have:a.any p=false:=by rw [List.any_eq_false];intro x hx;simp [h x hx]
  rw [this];rfl
 |some i=>
  rw [aeR] at h;obtain ⟨hi,hp,_⟩:=h;have:a.any p=true:=List.any_eq_true.2 ⟨a[i],acD hi,hp⟩;rw [this];exact aaa (by show ((i:Nat):Int)≥0;omega)
theorem Mj {α:Type} (a:List α) (p:α→Bool):(!a.any fun x=> !p x)=a.all p:=by
 rw [acK];simp
end
section
open Go Go.ChangeShapes Go.WideShapes Go.ChangeAt Go.RowKit
theorem N3 (a:Nat):BitVec.ofInt 64 ((a:Nat):Int)=BitVec.ofNat 64 a:=by simp
theorem Rj {a:Nat} (h:a≤aS):IntKind.i64.wrap ((a:Nat):Int)=((a:Nat):Int):=by
 unfold aS at h;exact cS (by omega) (by omega)
theorem xS {α β:Type} {f:α→Out (Round α β Empty)} {n:Nat} {x x':α} (h:(f x).eval=some (.again x')):b5 f (n+1) x=b5 f n x':=by unfold b5;rw [ke h]
theorem Ac {α β:Type} {f:α→Out (Round α β Empty)} {n:Nat} {x:α} {y:β} (h:(f x).eval=some (.out y)) (hn:0<n):b5 f n x=some y:=by unfold b5;rw [lD h hn];rfl
theorem foldl_loop {α β σ δ:Type} {f:σ→Out (Round σ β Empty)} (P:δ→Nat→Prop) (g:δ→α→δ) (a:List α) (S:δ→Nat→σ) (y:δ→β)
  (hs:∀ i (hi:i<a.length) l,P l i→(f (S l i)).eval=some (.again (S (g l a[i]) (i+1)))) (hy:∀ l,P l a.length→(f (S l a.length)).eval=some (.out (y l)))
  (hP:∀ i (hi:i<a.length) l,P l i→P (g l a[i]) (i+1)) (ha:a.length≤aS) (l:δ) (hl:P l 0):b5 f bn (S l 0)=some (y (a.foldl g l)):=by
 have step:∀ i (hi:i<a.length),(a.take (i+1)).foldl g l=g ((a.take i).foldl g l) a[i]:=fun i hi=>by
  rw [agW hi,List.foldl_append];rfl
 have inv:∀ i,i≤a.length→P ((a.take i).foldl g l) i:=by
  intro i
  induction i with
  |zero=>intro _;simpa using hl
  |succ i ih=>intro hi;rw [step i (by omega)];exact hP i (by omega) _ (ih (by omega))
 have h:=Oe (f:=f) (fun i=>S ((a.take i).foldl g l) i) a.length (y:=y (a.foldl g l)) (fL ha)
  (fun i hi=>by rw [step i hi];exact hs i hi _ (inv i (by omega)))
  (by
   have:=hy _ (inv a.length (abD _));rw [List.take_length] at this ⊢;exact this)
 simpa using h
def ah9 (n:Nat):Wc:=if n<128 then [UInt8.ofNat n] else UInt8.ofNat (128+n % 128)::ah9 (n / 128)
termination_by n
decreasing_by omega
def aia (n:Int):Wc:=if dC n 0 562949953421311=true then ah9 n.toNat else []
theorem AB:bV=68719476736:=rfl
end
section
open Go Go.ChangeShapes Go.WideShapes Go.ChangeAt Go.RowKit
theorem jB (i:Nat) (h:i<aS):IntKind.i64.wrap (((i+1:Nat):Int) - 1)=((i:Nat):Int):=by
 rw [cS (by omega) (by unfold aS at h;omega)];omega
theorem qi (x y:Int):decide (x≥y)= !decide (x<y):=by
 rw [acK];simp
end
section
open Go Go.ChangeShapes Go.WideShapes Go.ChangeAt Go.RowKit
def dO {α:Type} (a:List α):Option (List α):=lim a a
def sX:bM:={ f:=101,lend:=true,aK:=[⟨false,false,[.ro (.int .i64)]⟩],lay:=[none],rs:=[⟨false,false,[.own (.int .i64)]⟩],F:=fun x=> .get (dO x.1.1) fun y=> .ret (((y,()),()),((),())) }
noncomputable def AL:Code:=js Tryz.f101
noncomputable def RX:Code:=lf (lf AL)
noncomputable def Ka:Code:=eY (lf AL)
noncomputable def RY:Code:=KW (lf Ka)
theorem Of:js Tryz.f101= .seq (eY AL) (.seq (.seq (.region 1 #[ZU (eY Ka) 0,ZU (eY Ka) 1] false) (.cond (.tmp 4) (.seq (.region 2 (D1 (eY RY)) false) .ret) .skip)) RX):=by kernel_rfl
theorem RZ (x:(List Int×Unit)×Unit):jN (Gz []) (fun _=>none) (eY AL) (.seq (.region 2 (D1 (eY RY)) false) .ret) sX.aK sX.lay Tryz.f101.ntmps sX.rs [.tmp 2] x=Out.ret ((((([]:List (Int))),()),()),((),())):=by kernel_rfl
theorem Wj (x:(List Int×Unit)×Unit):jN (Gz []) (fun _=>none) (eY AL) RX sX.aK sX.lay Tryz.f101.ntmps sX.rs [.tmp 2] x=Out.ite (decide (List.length ([]:List (Int))+List.length x.1.1≤bV)) (Out.ret (((([]:List (Int))++x.1.1,()),()),((),()))) Out.fail:=by kernel_rfl
theorem qT:sX.Ok Tryz.prog:=by
 refine oj (kG eo pK []) (nq [] (fun K hK=>by cases hK) rfl) nn (An:=fun _=>none) (rtm:=[.tmp 2]) (tk:=some 0) (tid:=29) (te:=3) (l:=fun x=>x.1.1) (by kernel_rfl) (ka (by kernel_rfl)) (by kernel_rfl) (by kernel_rfl) (by decide) (by decide) (by decide)
  Of (by kernel_rfl) (by kernel_rfl) (by kernel_rfl) (by kernel_rfl) (by kernel_rfl) (by kernel_rfl) (by kernel_rfl) (fun x=>by kernel_rfl) (fun x=>ahC (by kernel_rfl)) (fun x y _ hy=> ?_) (fun x y _ hl hy=> ?_)
 . obtain ⟨⟨a,_⟩,_⟩:=x
   refine (congrArg Out.eval (Wj _)).trans ?_;change (Out.get (dO a) fun y=>Out.ret (((y,()),()),((),()))).eval=some y at hy;unfold dO at hy;by_cases h:a.length≤bV
   . rw [kH h] at hy
     exact (ab (aaa (show 0+a.length≤bV from (ada _).symm ▸ h))).trans hy
   . rw [yK h] at hy;exact nomatch hy
 . obtain ⟨⟨a,_⟩,_⟩:=x
   obtain rfl:a=[]:=hl;exact (congrArg Out.eval (RZ _)).trans hy
end
section
open Go Go.ChangeShapes Go.WideShapes Go.ChangeAt Go.RowKit
abbrev gn:=Int×(List Int×Unit)
def nH (a b:List gn):Bool:=decide (a=b)
end
section
open Go Go.ChangeShapes Go.WideShapes Go.ChangeAt Go.RowKit
def alX (n:Int):Int:=if n<0 then IntKind.i64.wrap (IntKind.i64.wrap ((-2)*n) - 1) else IntKind.i64.wrap (2*n)
def b6 (n:Int):Bool:=dC n (-1000000) 1000000
def aG (l:List Int):Bool:=l.all b6
def ad8 (l:List Int):Wc:=aia ((l.length:Nat):Int)++l.flatMap fun n=>aia (alX n)
def Mk (d:List Int):Wc:=[102]++ad8 d
def gf:Nat→List (Option (List Int))→List gn
 |_,[]=>[]
 |i,none::r=>gf (i+1) r
 |i,some d::r=>(((i:Nat):Int),(d,()))::gf (i+1) r
def Wk:Option (List Int)→Wc
 |none=>[]
 |some d=>Mk d
def okO:Option (List Int)→Bool
 |none=>true
 |some d=>aG d&&decide (d.length≤8)
def Wl (o:List Wc) (x:gn):List Wc:=o.set x.1.toNat (Mk x.2.1)
theorem qj:∀ (ds:List (Option (List Int))) (i:Nat) (p:List Wc),p.length=i→(gf i ds).foldl Wl (p++List.replicate ds.length [])=p++ds.map Wk
 |[],i,p,_=>by simp [gf]
 |none::r,i,p,h=>by
  have:=qj r (i+1) (p++[[]]) (by simp [h]);simp only [gf,aai,acX,Wk];rw [List.replicate_succ,show p++[]::List.replicate r.length []=p++[[]]++List.replicate r.length [] by simp,this];simp
 |some d::r,i,p,h=>by
  have:=qj r (i+1) (p++[Mk d]) (by simp [h]);simp only [gf,aai,acX,Wk,ade];have e:Wl (p++List.replicate (r.length+1) []) (((i:Nat):Int),(d,()))=p++[Mk d]++List.replicate r.length []:=by
   unfold Wl;rw [aaH,List.replicate_succ,List.set_append_right _ _ (by omega),h,Nat.sub_self,List.set_cons_zero];simp
  rw [e,this];simp
def fw (x:gn):Bool:=dC x.1 0 5&&(decide (x.2.1.length≤8)&&aG x.2.1)
def gP (a:List gn) (i:Nat):Bool:=match a[i]? with
 |none=>true
 |some x=>fw x&&(match i with|0=>true|j+1=>match a[j]? with|none=>true|some z=>decide (z.1<x.1))
def gq (a:List gn):Bool:=decide (a.length≤6)&&(List.range a.length).all (gP a)
theorem ti {a:List gn} (h:0<a.length):gP a 0=fw a[0]:=by
 unfold gP;rw [aaf h];simp
theorem tj {a:List gn} {i:Nat} (h:i+1<a.length):gP a (i+1)=(fw a[i+1]&&decide (a[i].1<a[i+1].1)):=by
 unfold gP;rw [aaf h];simp only [aaf (show i<a.length by omega)]
def gY:Int→List gn→Bool
 |_,[]=>true
 |lo,x::r=>fw x&&(decide (lo≤x.1)&&gY (x.1+1) r)
theorem C6 (a:List gn):∀ (m i:Nat) (lo:Int),i+m=a.length→(∀ (h:i<a.length),gP a i=(fw a[i]&&decide (lo≤a[i].1)))→((∀ j,i≤j→j<a.length→gP a j=true)↔gY lo (a.drop i)=true)
 |0,i,lo,hi,_=>by
  rw [ahi (by omega)];exact ⟨fun _=>rfl,fun _ j h1 h2=>by omega⟩
 |m+1,i,lo,hi,h=>by
  have bZ:i<a.length:=by omega
  have ih:=C6 a m (i+1) (a[i].1+1) (by omega) (fun h'=>by
   rw [tj h'];congr 1)
  rw [acN bZ,gY,aaE,aaE, ← ih];have h0:=h bZ;constructor
  . intro q
    have q1:=q i (abD i) bZ;rw [h0,aaE] at q1;exact ⟨q1.1,q1.2,fun j hj=>q j (by omega)⟩
  . rintro ⟨q1,q2,q3⟩ j hj hl
    by_cases e:j=i
    . subst e;rw [h0,q1,q2];rfl
    . exact q3 j (by omega) hl
theorem tp (a:List gn):gq a=(decide (a.length≤6)&&gY 0 a):=by
 unfold gq;congr 1;have:=C6 a a.length 0 0 (by omega) (fun h=>by
  rw [ti h];cases hf:fw a[0] with
  |false=>rfl
  |true=>
   have:dC a[0].1 0 5=true:=(Bool.and_eq_true_iff.1 hf).1;have:(0:Int)≤a[0].1∧a[0].1≤(5:Int):=by simpa [dC] using this
   have e:decide ((0:Int)≤a[0].1)=true:=aaa this.1;exact (congrArg (fun b=>(true&&b)) e).symm)
 rw [acK,aa1];rw [ahP] at this;rw [← this];exact ⟨fun q j _ hj=>q j (List.mem_range.2 hj),fun q j hj=>q j (afO j) (List.mem_range.1 hj)⟩
theorem oE:∀ (ds:List (Option (List Int))) (i:Nat) (lo:Int),lo≤i→i+ds.length≤6→gY lo (gf i ds)=ds.all okO
 |[],_,_,_,_=>rfl
 |none::r,i,lo,h1,h2=>by
  rw [gf,acY,oE r (i+1) lo (by omega) (by rw [aai] at h2;omega)];rfl
 |some d::r,i,lo,h1,h2=>by
  rw [aai] at h2;rw [gf,gY,acY];simp only;rw [oE r (i+1) (((i:Nat):Int)+1) (by omega) (by omega),aaa h1,afN];congr 1;show (dC ((i:Nat):Int) 0 5&&(decide (d.length≤8)&&aG d))=(aG d&&decide (d.length≤8))
  have e:dC ((i:Nat):Int) 0 5=true:=by unfold dC;rw [aaa (show (0:Int)≤((i:Nat):Int) by omega),aaa (show ((i:Nat):Int)≤5 by omega)];rfl
  rw [e,afN,Bool.and_comm]
theorem qk:∀ (ds:List (Option (List Int))) (i:Nat),(gf i ds).length≤ds.length
 |[],_=>abD _
 |none::r,i=>by have:=qk r (i+1);simp only [gf,aai];omega
 |some d::r,i=>by have:=qk r (i+1);simp only [gf,aai];omega
theorem Kb {ds:List (Option (List Int))} (h:ds.length≤6):gq (gf 0 ds)=ds.all okO:=by
 have:=qk ds 0;rw [tp,aaa (by omega),oE ds 0 0 (by omega) (by omega)];rfl
theorem zp:∀ (m i:Nat) (lo:Int) (a:List gn),lo=i→i+m=6→gY lo a=true→∃ ds:List (Option (List Int)),ds.length=m∧gf i ds=a
 |0,i,lo,a,h1,h2,h=>by
  cases a with
  |nil=>exact ⟨[],rfl,rfl⟩
  |cons x r=>
   exfalso;rw [gY,aaE,aaE] at h;have q:dC x.1 0 5=true:=(Bool.and_eq_true_iff.1 h.1).1;have q:0≤x.1∧x.1≤5:=by simpa [dC] using q
   have:=abH h.2.1;omega
 |m+1,i,lo,a,h1,h2,h=>by
  cases a with
  |nil=>
   obtain ⟨ds,e1,e2⟩:=zp m (i+1) (((i+1:Nat):Int)) [] rfl (by omega) rfl;exact ⟨none::ds,by simp [e1],e2⟩
  |cons x r=>
   have h':=h;rw [gY,aaE,aaE] at h;have hl:=abH h.2.1;by_cases e:x.1=i
   . obtain ⟨ds,e1,e2⟩:=zp m (i+1) (((i+1:Nat):Int)) r rfl (by omega) (by have:=h.2.2;rw [e] at this;exact this)
     refine ⟨some x.2.1::ds,by simp [e1], ?_⟩;rw [gf,e2, ← e]
   . obtain ⟨ds,e1,e2⟩:=zp m (i+1) (((i+1:Nat):Int)) (x::r) rfl (by omega) (by
      rw [gY,h.1,h.2.2,aaa (by omega)];rfl)
     exact ⟨none::ds,by simp [e1],e2⟩
def xV (a:List gn):List Wc:=if gq a=true then a.foldl Wl (List.replicate 6 []) else []
theorem nb {a:List gn} (h:gq a=true):∃ ds:List (Option (List Int)),ds.length=6∧gf 0 ds=a∧ds.all okO=true∧xV a=ds.map Wk:=by
 have h2:=h;rw [tp,aaE] at h2;obtain ⟨ds,e1,e2⟩:=zp 6 0 0 a rfl (by omega) h2.2;refine ⟨ds,e1,e2, ?_, ?_⟩
 . rw [← Kb (by omega),e2];exact h
 . unfold xV
   rw [aaK h, ← e2, ← e1];exact qj ds 0 [] rfl
end
section
open Go Go.ChangeShapes Go.WideShapes Go.ChangeAt Go.RowKit
def C7 (a0:Int):Out (((Bool×Unit)×Unit)×(Unit×Unit)):=
 .ret ((((dC a0 (-1000000:Int) (1000000:Int)),()),()),((),()))
def yF:bM:={ f:=201,lend:=true,aK:=[⟨false,false,[.i .i64]⟩],lay:=[none],rs:=[⟨false,false,[.b]⟩],F:=fun x=> .ret ((((b6 x.1.1),()),()),((),())) }
theorem Wm (x:az yF.aK):bo [wO] (fun _=>none) Tryz.f201 yF [.tmp 2] x=C7 x.1.1:=by kernel_rfl
theorem Wn (hr:∀ x:(Int×Unit)×Unit,aD yF.aK x→(C7 x.1.1).eval=(yF.F x).eval):yF.Ok Tryz.prog:=aU [wO] ⟨kc,trivial⟩ Wm fun x hw _ hy=>(hr x hw).trans hy
theorem zq:yF.Ok Tryz.prog:=Wn fun _ _=>rfl
abbrev Ml:=(List (Int)×Int×Unit)×(Unit)
def vb:Ml→Out (Round Ml ((Unit)×(Unit)) ((Bool×Unit)×(Unit)))
|((p0,p1,_),_)=>
 .ite (decide (p1<((List.length p0:Nat):Int)))
 (.ite (decide (0≤p1))
 (.get (nth p0 (Int.toNat p1)) fun y1=>
 .ite (!(b6 y1))
 (.ret (.ret ((false,()),())))
 (.ret (.again ((p0,(IntKind.i64.wrap (p1+(1:Int))),()),()))))
 .fail)
 (.ret (.out ((),())))
def rH (a0:List Int):Out (((Bool×Unit)×Unit)×(Unit×Unit)):=
 .get (iter vb bn ((a0,(0:Int),()),())) fun y1=> .alt y1 (fun _=>
 .ret (((true,()),()),((),()))) (fun y3=>
 .ret (((y3.1.1,()),()),((),())))
def ad9:Nat→Option aq:=fun n=>bU [(0,⟨⟨[.ro (.int .i64) (some 0), .dead, .dead, .i .i64]++dd 12,[]⟩,⟨dd 16,[]⟩,some ⟨[.dead, .dead, .b]++dd 13,[]⟩,false⟩)] n
def vc:bM:={ f:=135,lend:=true,aK:=[⟨false,false,[.ro (.int .i64)]⟩],lay:=[none],rs:=[⟨false,false,[.b]⟩],F:=fun x=> .ret ((((aG x.1.1),()),()),((),())) }
theorem Wo (x:az vc.aK):bo [yF] ad9 Tryz.f135 vc [.tmp 2] x=rH x.1.1:=by kernel_rfl
theorem Wp (hr:∀ x:(List Int×Unit)×Unit,aD vc.aK x→(rH x.1.1).eval=(vc.F x).eval):vc.Ok Tryz.prog:=aU [yF] ⟨zq,trivial⟩ Wo fun x hw _ hy=>(hr x hw).trans hy
theorem zr:vc.Ok Tryz.prog:=by
 refine Wp fun x hw=> ?_;obtain ⟨⟨a,_⟩,_⟩:=x;have ha:a.length≤aS:=hw.1.1.1;show (rH a).eval=some (((aG a,()),()),((),()));unfold rH aG;have:=AH (f:=vb) a b6 (fun i=>((a,(((i:Nat):Int),())),())) (y:=((),())) (z:=((false,()),()))
  (fun i hi hp=>by
   have g1:=ar (i:=i) (by omega);simp [vb,Out.eval,hi,g1,hp])
  (fun i hi hp=>by simp [vb,Out.eval,hi,hp])
  (by simp [vb,Out.eval]) ha
 refine (aa this).trans ?_;cases a.all b6<;>rfl
def C8 (a0:Int):Out (((Bool×Unit)×Unit)×(Unit×Unit)):=
 .ret ((((dC a0 (-1000000:Int) (1000000:Int)),()),()),((),()))
def wD:bM:={ f:=145,lend:=true,aK:=[⟨false,false,[.i .i64]⟩],lay:=[none],rs:=[⟨false,false,[.b]⟩],F:=fun x=> .ret ((((b6 x.1.1),()),()),((),())) }
theorem Wq (x:az wD.aK):bo [kQ] (fun _=>none) Tryz.f145 wD [.tmp 2] x=C8 x.1.1:=by kernel_rfl
theorem Wr (hr:∀ x:(Int×Unit)×Unit,aD wD.aK x→(C8 x.1.1).eval=(wD.F x).eval):wD.Ok Tryz.prog:=aU [kQ] ⟨ko,trivial⟩ Wq fun x hw _ hy=>(hr x hw).trans hy
theorem yL:wD.Ok Tryz.prog:=Wr fun _ _=>rfl
def C9 (a0:Int):Out (((Bool×Unit)×Unit)×(Unit×Unit)):=
 .ret ((((!(b6 a0)),()),()),((),()))
def nI (n:Int):Bool:= !b6 n
def Hk:bM:={ f:=213,lend:=true,aK:=[⟨false,false,[.i .i64]⟩],lay:=[none],rs:=[⟨false,false,[.b]⟩],F:=fun x=> .ret ((((nI x.1.1),()),()),((),())) }
theorem Ws (x:az Hk.aK):bo [wD] (fun _=>none) Tryz.f213 Hk [.tmp 2] x=C9 x.1.1:=by kernel_rfl
theorem Wt (hr:∀ x:(Int×Unit)×Unit,aD Hk.aK x→(C9 x.1.1).eval=(Hk.F x).eval):Hk.Ok Tryz.prog:=aU [wD] ⟨yL,trivial⟩ Ws fun x hw _ hy=>(hr x hw).trans hy
theorem Wu:Hk.Ok Tryz.prog:=Wt fun _ _=>rfl
abbrev Mm:=(List (Int)×Int×Int×Unit)×(Unit)
def vd:Mm→Out (Round Mm ((Unit)×(Unit)) ((Int×Unit)×(Unit)))
|((p0,p1,p2,_),_)=>
 .ite (decide (p2<p1))
 (.ite (decide (0≤p2))
 (.get (nth p0 (Int.toNat p2)) fun y1=>
 .ite (nI y1)
 (.ret (.ret ((p2,()),())))
 (.ret (.again ((p0,p1,(IntKind.i64.wrap (p2+(1:Int))),()),()))))
 .fail)
 (.ret (.out ((),())))
def rI (a0:List Int):Out (((Int×Unit)×Unit)×(Unit×Unit)):=
 .get (iter vd bn ((a0,((List.length a0:Nat):Int),(0:Int),()),())) fun y1=> .alt y1 (fun _=>
 .ret ((((-1:Int),()),()),((),()))) (fun y3=>
 .ret (((y3.1.1,()),()),((),())))
def aea:Nat→Option aq:=fun n=>bU [(0,⟨⟨[.ro (.int .i64) (some 0), .fn 213 []]++dd 5++[.i .i64, .i .i64]++dd 10,[]⟩,⟨dd 19,[]⟩,some ⟨dd 4++[.i .i64]++dd 14,[]⟩,false⟩)] n
def lX (a:List Int):Int:=uQ (a.findIdx? nI)
def Hl:bM:={ f:=261,lend:=true,aK:=[⟨false,false,[.ro (.int .i64)]⟩],lay:=[none,some (213,0)],rs:=[⟨false,false,[.i .i64]⟩],F:=fun x=> .ret ((((lX x.1.1),()),()),((),())) }
theorem Wv (x:az Hl.aK):bo [Hk] aea Tryz.f261 Hl [.tmp 4] x=rI x.1.1:=by kernel_rfl
theorem Ww (hr:∀ x:(List Int×Unit)×Unit,aD Hl.aK x→(rI x.1.1).eval=(Hl.F x).eval):Hl.Ok Tryz.prog:=aU [Hk] ⟨Wu,trivial⟩ Wv fun x hw _ hy=>(hr x hw).trans hy
theorem Wx:Hl.Ok Tryz.prog:=by
 refine Ww fun x hw=> ?_;obtain ⟨⟨a,_⟩,_⟩:=x;have ha:a.length≤aS:=hw.1.1.1;show (rI a).eval=some (((lX a,()),()),((),()));unfold rI lX;have:=dZ (f:=vd) a nI (fun i=>((a,(((a.length:Nat):Int),(((i:Nat):Int),()))),())) (y:=((),())) (z:=fun i=>((((i:Nat):Int),()),()))
  (fun i hi hp=>by
   have g1:=ar (i:=i) (by omega);simp [vd,Out.eval,hi,g1,hp])
  (fun i hi hp=>by simp [vd,Out.eval,hi,hp])
  (by simp [vd,Out.eval]) ha
 refine (aa this).trans ?_;cases a.findIdx? nI<;>rfl
def rJ (a0:List Int):Out (((Bool×Unit)×Unit)×(Unit×Unit)):=
 .ret ((((decide ((lX a0)≥(0:Int))),()),()),((),()))
def ql (a:List Int):Bool:=a.any nI
def Hm:bM:={ f:=212,lend:=true,aK:=[⟨false,false,[.ro (.int .i64)]⟩],lay:=[none,some (213,0)],rs:=[⟨false,false,[.b]⟩],F:=fun x=> .ret ((((ql x.1.1),()),()),((),())) }
theorem Wy (x:az Hm.aK):bo [Hl] (fun _=>none) Tryz.f212 Hm [.tmp 4] x=rJ x.1.1:=by kernel_rfl
theorem Wz (hr:∀ x:(List Int×Unit)×Unit,aD Hm.aK x→(rJ x.1.1).eval=(Hm.F x).eval):Hm.Ok Tryz.prog:=aU [Hl] ⟨Wx,trivial⟩ Wy fun x hw _ hy=>(hr x hw).trans hy
theorem WA:Hm.Ok Tryz.prog:=by
 refine Wz fun x _=> ?_;obtain ⟨⟨a,_⟩,_⟩:=x;show (rJ a).eval=some (((ql a,()),()),((),()));unfold rJ ql lX;rw [ku];rfl
def xm (a0:List Int):Out (((Bool×Unit)×Unit)×(Unit×Unit)):=
 .ret ((((!(ql a0)),()),()),((),()))
def s8:bM:={ f:=126,lend:=true,aK:=[⟨false,false,[.ro (.int .i64)]⟩],lay:=[none],rs:=[⟨false,false,[.b]⟩],F:=fun x=> .ret ((((aG x.1.1),()),()),((),())) }
theorem WB (x:az s8.aK):bo [Hm] (fun _=>none) Tryz.f126 s8 [.tmp 2] x=xm x.1.1:=by kernel_rfl
theorem WC (hr:∀ x:(List Int×Unit)×Unit,aD s8.aK x→(xm x.1.1).eval=(s8.F x).eval):s8.Ok Tryz.prog:=aU [Hm] ⟨WA,trivial⟩ WB fun x hw _ hy=>(hr x hw).trans hy
theorem ve:s8.Ok Tryz.prog:=by
 refine WC fun x _=> ?_;obtain ⟨⟨a,_⟩,_⟩:=x;show (xm a).eval=some (((aG a,()),()),((),()));have:(!ql a)=aG a:=Mj a b6;rw [← this];rfl
abbrev Mn:=(List ((Int×List Int×Unit))×List ((Int×List Int×Unit))×Int×Int×Unit)×(Unit)
def rK:Mn→Out (Round Mn ((List ((Int×List Int×Unit))×Unit)×(Unit)) ((Bool×Unit)×(Unit)))
|((p0,p1,p2,p3,_),_)=>
 .ite (decide (p3<p2))
 (.ite (decide (0≤p3))
 (.get (nth p1 (Int.toNat p3)) fun y1=>
 .ite ((!(dC y1.1 (0:Int) (5:Int)))==false)
 (.ite ((decide (p3>(0:Int)))==true)
 (.ite (decide (0≤(IntKind.i64.wrap (p3 - (1:Int)))))
 (.get (nth p0 (Int.toNat (IntKind.i64.wrap (p3 - (1:Int))))) fun y2=>
 .ite ((decide (y2.1≥y1.1))==false)
 (.ite ((decide (((List.length y1.2.1:Nat):Int)>(8:Int)))==false)
 (.ite (!(aG y1.2.1))
 (.ret (.ret ((false,()),())))
 (.ret (.again ((p0,p1,p2,(IntKind.i64.wrap (p3+(1:Int))),()),()))))
 (.ret (.ret ((false,()),()))))
 (.ret (.ret ((false,()),()))))
 .fail)
 (.ite ((decide (((List.length y1.2.1:Nat):Int)>(8:Int)))==false)
 (.ite (!(aG y1.2.1))
 (.ret (.ret ((false,()),())))
 (.ret (.again ((p0,p1,p2,(IntKind.i64.wrap (p3+(1:Int))),()),()))))
 (.ret (.ret ((false,()),())))))
 (.ret (.ret ((false,()),()))))
 .fail)
 (.ret (.out ((p0,()),())))
def rL (a0:List (Int×List Int×Unit)):Out (((Bool×Unit)×Unit)×(Unit×Unit)):=
 .get (iter rK bn ((a0,a0,((List.length a0:Nat):Int),(0:Int),()),())) fun y1=> .alt y1 (fun y2=>
 .ret ((((decide (((List.length y2.1.1:Nat):Int)≤(6:Int))),()),()),((),()))) (fun y3=>
 .ret (((y3.1.1,()),()),((),())))
def aeb:Nat→Option aq:=fun n=>bU [(0,⟨⟨[.ro ck (some 0)]++dd 4++[.ro ck (some 0), .i .i64, .i .i64]++dd 39,[]⟩,⟨[.ro ck (some 0)]++dd 46,[]⟩,some ⟨[.dead, .dead, .b]++dd 44,[]⟩,false⟩)] n
def Hn:bM:={ f:=132,lend:=true,aK:=[⟨false,false,[.ro ck]⟩],lay:=[none],rs:=[⟨false,false,[.b]⟩],F:=fun x=> .ret ((((gq x.1.1),()),()),((),())) }
theorem WD (x:az Hn.aK):bo [kQ,s8] aeb Tryz.f132 Hn [.tmp 2] x=rL x.1.1:=by kernel_rfl
theorem WE (hr:∀ x:(List (Int×List Int×Unit)×Unit)×Unit,aD Hn.aK x→(rL x.1.1).eval=(Hn.F x).eval):Hn.Ok Tryz.prog:=aU [kQ,s8] ⟨ko,ve,trivial⟩ WD fun x hw _ hy=>(hr x hw).trans hy
theorem WG:Hn.Ok Tryz.prog:=by
 refine WE fun x hw=> ?_;obtain ⟨⟨a,_⟩,_⟩:=x;have ha:a.length≤aS:=hw.1.1.1;show (rL a).eval=some (((gq a,()),()),((),()));unfold rL gq;have key:∀ i (hi:i<a.length),(rK ((a,(a,(((a.length:Nat):Int),(((i:Nat):Int),())))),())).eval=some (bif gP a i then .again ((a,(a,(((a.length:Nat):Int),(((i+1:Nat):Int),())))),()) else .ret ((false,()),())):=fun i hi=>by
  have w1:=ar (i:=i) (by omega);have g:decide (((a[i].2.1.length:Nat):Int)>(8:Int))= !decide (a[i].2.1.length≤8):=mK (m:=8);cases i with
  |zero=>
   rw [ti hi];have w3:decide (((0:Nat):Int)>0)=false:=rfl;unfold fw;simp only [rK,Out.eval,s7 hi,Gu,dH hi,adb,afL,w3,g,w1];cases p1:dC a[0].1 0 5<;>cases p2:decide (a[0].2.1.length≤8)<;>cases p3:aG a[0].2.1<;>rfl
  |succ i=>
   rw [tj hi];have w2:=jB i (by omega);have w3:decide (((i+1:Nat):Int)>0)=true:=aaa (by omega);unfold fw;simp only [rK,Out.eval,s7 hi,dH hi,dH (show i<a.length by omega),w1,w2,w3,g,qi,adb,afL];cases p1:dC a[i+1].1 0 5<;>cases p2:decide (a[i].1<a[i+1].1)<;>cases p3:decide (a[i+1].2.1.length≤8)<;>cases p4:aG a[i+1].2.1<;>rfl
 have:=C5 (f:=rK) (fun i=>((a,(a,(((a.length:Nat):Int),(((i:Nat):Int),())))),())) (gP a) a.length (y:=((a,()),())) (z:=((false,()),())) (fL ha)
  (fun i hi hp=>by rw [key i hi,hp];rfl) (fun i hi hp=>by rw [key i hi,hp];rfl) (by simp [rK,Out.eval])
 refine (aa this).trans ?_;have e2:decide (((a.length:Nat):Int)≤(6:Int))=decide (a.length≤6):=FI (m:=6);cases (List.range a.length).all (gP a)
 . rw [Bool.and_false];rfl
 . rw [ag3, ← e2];rfl
end
section
open Go Go.ChangeShapes Go.WideShapes Go.ChangeAt Go.RowKit
end
section
open Go Go.ChangeShapes Go.WideShapes Go.ChangeAt Go.RowKit
abbrev aw:=Int×(Int×(Int×(Int×Unit)))
def cM (n:Int):Bool:=decide (0≤n)&&decide (n<4)
def m9 (n:Int):Bool:=dC n 0 40
def rM (a0:Int):Out (((Bool×Unit)×Unit)×(Unit×Unit)):=
 .ite ((decide (a0≥(0:Int)))==true)
 (.ret ((((decide (a0<(4:Int))),()),()),((),())))
 (.ret (((false,()),()),((),())))
def Ho:bM:={ f:=288,lend:=true,aK:=[⟨false,false,[.i .i64]⟩],lay:=[none],rs:=[⟨false,false,[.b]⟩],F:=fun x=> .ret ((((cM x.1.1),()),()),((),())) }
theorem WH (x:az Ho.aK):bo [] (fun _=>none) Tryz.f288 Ho [.tmp 2] x=rM x.1.1:=by kernel_rfl
theorem WI (hr:∀ x:(Int×Unit)×Unit,aD Ho.aK x→(rM x.1.1).eval=(Ho.F x).eval):Ho.Ok Tryz.prog:=aU [] trivial WH fun x hw _ hy=>(hr x hw).trans hy
theorem WJ:Ho.Ok Tryz.prog:=by
 refine WI fun x _=> ?_;obtain ⟨⟨n,_⟩,_⟩:=x;show (rM n).eval=some (((cM n,()),()),((),()));unfold rM cM;by_cases h1:0≤n<;>simp [Out.eval,h1]
def rN (a0:Int):Out (((Bool×Unit)×Unit)×(Unit×Unit)):=
 .ret ((((dC a0 (0:Int) (3:Int)),()),()),((),()))
def Hp:bM:={ f:=258,lend:=true,aK:=[⟨false,false,[.i .i64]⟩],lay:=[none],rs:=[⟨false,false,[.b]⟩],F:=fun x=> .ret ((((cM x.1.1),()),()),((),())) }
theorem WK (x:az Hp.aK):bo [kQ] (fun _=>none) Tryz.f258 Hp [.tmp 2] x=rN x.1.1:=by kernel_rfl
theorem WL (hr:∀ x:(Int×Unit)×Unit,aD Hp.aK x→(rN x.1.1).eval=(Hp.F x).eval):Hp.Ok Tryz.prog:=aU [kQ] ⟨ko,trivial⟩ WK fun x hw _ hy=>(hr x hw).trans hy
theorem WM:Hp.Ok Tryz.prog:=by
 refine WL fun x _=> ?_;obtain ⟨⟨n,_⟩,_⟩:=x;show (rN n).eval=some (((cM n,()),()),((),()));have h4:decide (n≤3)=decide (n<4):=by rw [acK];simp;omega
 unfold rN cM dC;rw [h4];rfl
def Da (a0:Int):Out (((Bool×Unit)×Unit)×(Unit×Unit)):=
 .ret ((((dC a0 (0:Int) (40:Int)),()),()),((),()))
def B7:bM:={ f:=229,lend:=true,aK:=[⟨false,false,[.i .i64]⟩],lay:=[none],rs:=[⟨false,false,[.b]⟩],F:=fun x=> .ret ((((m9 x.1.1),()),()),((),())) }
theorem WN (x:az B7.aK):bo [kQ] (fun _=>none) Tryz.f229 B7 [.tmp 2] x=Da x.1.1:=by kernel_rfl
theorem WO (hr:∀ x:(Int×Unit)×Unit,aD B7.aK x→(Da x.1.1).eval=(B7.F x).eval):B7.Ok Tryz.prog:=aU [kQ] ⟨ko,trivial⟩ WN fun x hw _ hy=>(hr x hw).trans hy
theorem Mo:B7.Ok Tryz.prog:=WO fun _ _=>rfl
def gl (o a b c:Int):Bool:=
 bif o==1 then cM a&&(dC b (-1000000) 1000000&&(c==0)) else
 bif o==2 then cM a&&(cM b&&cM c) else
 bif o==3 then cM a&&(cM b&&cM c) else
 bif o==4 then cM a&&(cM b&&(c==0)) else
 bif o==5 then cM a&&(cM b&&(c==0)) else
 bif o==6 then dC a 0 40&&((b==0)&&(c==0)) else
 bif o==7 then cM a&&(dC b 0 40&&(c==0)) else
 bif o==8 then dC a 1 20&&((b==0)&&(c==0)) else false
theorem zero_eq (n:Int):((0:Int)==n)=(n==0):=by
 rw [acK];simp only [aeM];omega
def rO (a0:Int) (a1:Int) (a2:Int) (a3:Int):Out (((Bool×Unit)×Unit)×(Unit×Unit)):=
 .ite ((a0==(1:Int)))
 (.ite ((cM a1)==true)
 (.ite ((dC a2 (-1000000:Int) (1000000:Int))==true)
 (.ret (((((a0==a0)&&((a1==a1)&&((a2==a2)&&(((0:Int)==a3)&&true)))),()),()),((),())))
 (.ret (((false,()),()),((),()))))
 (.ret (((false,()),()),((),()))))
 (.ite ((a0==(2:Int)))
 (.ite ((cM a1)==true)
 (.ite ((cM a2)==true)
 (.ite ((cM a3)==true)
 (.ret (((((a0==a0)&&((a1==a1)&&((a2==a2)&&((a3==a3)&&true)))),()),()),((),())))
 (.ret (((false,()),()),((),()))))
 (.ret (((false,()),()),((),()))))
 (.ret (((false,()),()),((),()))))
 (.ite ((a0==(3:Int)))
 (.ite ((cM a1)==true)
 (.ite ((cM a2)==true)
 (.ite ((cM a3)==true)
 (.ret (((((a0==a0)&&((a1==a1)&&((a2==a2)&&((a3==a3)&&true)))),()),()),((),())))
 (.ret (((false,()),()),((),()))))
 (.ret (((false,()),()),((),()))))
 (.ret (((false,()),()),((),()))))
 (.ite ((a0==(4:Int)))
 (.ite ((cM a1)==true)
 (.ite ((cM a2)==true)
 (.ret (((((a0==a0)&&((a1==a1)&&((a2==a2)&&(((0:Int)==a3)&&true)))),()),()),((),())))
 (.ret (((false,()),()),((),()))))
 (.ret (((false,()),()),((),()))))
 (.ite ((a0==(5:Int)))
 (.ite ((cM a1)==true)
 (.ite ((cM a2)==true)
 (.ret (((((a0==a0)&&((a1==a1)&&((a2==a2)&&(((0:Int)==a3)&&true)))),()),()),((),())))
 (.ret (((false,()),()),((),()))))
 (.ret (((false,()),()),((),()))))
 (.ite ((a0==(6:Int)))
 (.ite ((dC a1 (0:Int) (40:Int))==true)
 (.ret (((((a0==a0)&&((a1==a1)&&(((0:Int)==a2)&&(((0:Int)==a3)&&true)))),()),()),((),())))
 (.ret (((false,()),()),((),()))))
 (.ite ((a0==(7:Int)))
 (.ite ((cM a1)==true)
 (.ite ((dC a2 (0:Int) (40:Int))==true)
 (.ret (((((a0==a0)&&((a1==a1)&&((a2==a2)&&(((0:Int)==a3)&&true)))),()),()),((),())))
 (.ret (((false,()),()),((),()))))
 (.ret (((false,()),()),((),()))))
 (.ite ((a0==(8:Int)))
 (.ite ((dC a1 (1:Int) (20:Int))==true)
 (.ret (((((a0==a0)&&((a1==a1)&&(((0:Int)==a2)&&(((0:Int)==a3)&&true)))),()),()),((),())))
 (.ret (((false,()),()),((),()))))
 (.ret (((false,()),()),((),()))))))))))
def Hq:bM:={ f:=260,lend:=true,aK:=[⟨false,true,[.i .i64, .i .i64, .i .i64, .i .i64]⟩],lay:=[none],rs:=[⟨false,false,[.b]⟩],F:=fun x=> .ret ((((gl x.1.1 x.1.2.1 x.1.2.2.1 x.1.2.2.2.1),()),()),((),())) }
theorem WQ (x:az Hq.aK):bo [Ho,wO] (fun _=>none) Tryz.f260 Hq [.tmp 2] x=rO x.1.1 x.1.2.1 x.1.2.2.1 x.1.2.2.2.1:=by kernel_rfl
theorem WR (hr:∀ x:(Int×Int×Int×Int×Unit)×Unit,aD Hq.aK x→(rO x.1.1 x.1.2.1 x.1.2.2.1 x.1.2.2.2.1).eval=(Hq.F x).eval):Hq.Ok Tryz.prog:=aU [Ho,wO] ⟨WJ,kc,trivial⟩ WQ fun x hw _ hy=>(hr x hw).trans hy
theorem WS:Hq.Ok Tryz.prog:=by
 refine WR fun x _=> ?_;obtain ⟨⟨o,a,b,c,_⟩,_⟩:=x;show (rO o a b c).eval=some (((gl o a b c,()),()),((),()));unfold rO gl;simp only [Out.eval,zero_eq,aaP,afN,ag3];cases (o==(1:Int))
 rotate_left
 . cases cM a<;>cases dC b (-1000000) 1000000<;>rfl
 cases (o==(2:Int))
 rotate_left
 . cases cM a<;>cases cM b<;>cases cM c<;>rfl
 cases (o==(3:Int))
 rotate_left
 . cases cM a<;>cases cM b<;>cases cM c<;>rfl
 cases (o==(4:Int))
 rotate_left
 . cases cM a<;>cases cM b<;>rfl
 cases (o==(5:Int))
 rotate_left
 . cases cM a<;>cases cM b<;>rfl
 cases (o==(6:Int))
 rotate_left
 . cases dC a 0 40<;>rfl
 cases (o==(7:Int))
 rotate_left
 . cases cM a<;>cases dC b 0 40<;>rfl
 cases (o==(8:Int))
 . rfl
 . cases dC a 1 20<;>rfl
def rP (a0:Int) (a1:Int) (a2:Int) (a3:Int):Out (((Bool×Unit)×Unit)×(Unit×Unit)):=
 .ite ((a0==(1:Int)))
 (.ite ((cM a1)==true)
 (.ite ((b6 a2)==true)
 (.ret (((((a3==(0:Int))),()),()),((),())))
 (.ret (((false,()),()),((),()))))
 (.ret (((false,()),()),((),()))))
 (.ite ((a0==(2:Int)))
 (.ite ((cM a1)==true)
 (.ite ((cM a2)==true)
 (.ret ((((cM a3),()),()),((),())))
 (.ret (((false,()),()),((),()))))
 (.ret (((false,()),()),((),()))))
 (.ite ((a0==(3:Int)))
 (.ite ((cM a1)==true)
 (.ite ((cM a2)==true)
 (.ret ((((cM a3),()),()),((),())))
 (.ret (((false,()),()),((),()))))
 (.ret (((false,()),()),((),()))))
 (.ite ((a0==(4:Int)))
 (.ite ((cM a1)==true)
 (.ite ((cM a2)==true)
 (.ret (((((a3==(0:Int))),()),()),((),())))
 (.ret (((false,()),()),((),()))))
 (.ret (((false,()),()),((),()))))
 (.ite ((a0==(5:Int)))
 (.ite ((cM a1)==true)
 (.ite ((cM a2)==true)
 (.ret (((((a3==(0:Int))),()),()),((),())))
 (.ret (((false,()),()),((),()))))
 (.ret (((false,()),()),((),()))))
 (.ite ((a0==(6:Int)))
 (.ite ((m9 a1)==true)
 (.ite (((a2==(0:Int)))==true)
 (.ret (((((a3==(0:Int))),()),()),((),())))
 (.ret (((false,()),()),((),()))))
 (.ret (((false,()),()),((),()))))
 (.ite ((a0==(7:Int)))
 (.ite ((cM a1)==true)
 (.ite ((m9 a2)==true)
 (.ret (((((a3==(0:Int))),()),()),((),())))
 (.ret (((false,()),()),((),()))))
 (.ret (((false,()),()),((),()))))
 (.ite ((a0==(8:Int)))
 (.ite ((dC a1 (1:Int) (20:Int))==true)
 (.ite (((a2==(0:Int)))==true)
 (.ret (((((a3==(0:Int))),()),()),((),())))
 (.ret (((false,()),()),((),()))))
 (.ret (((false,()),()),((),()))))
 (.ret (((false,()),()),((),()))))))))))
def Hr:bM:={ f:=209,lend:=true,aK:=[⟨false,true,[.i .i64, .i .i64, .i .i64, .i .i64]⟩],lay:=[none],rs:=[⟨false,false,[.b]⟩],F:=fun x=> .ret ((((gl x.1.1 x.1.2.1 x.1.2.2.1 x.1.2.2.2.1),()),()),((),())) }
theorem WU (x:az Hr.aK):bo [Hp,wD,B7,kQ] (fun _=>none) Tryz.f209 Hr [.tmp 2] x=rP x.1.1 x.1.2.1 x.1.2.2.1 x.1.2.2.2.1:=by kernel_rfl
theorem WV (hr:∀ x:(Int×Int×Int×Int×Unit)×Unit,aD Hr.aK x→(rP x.1.1 x.1.2.1 x.1.2.2.1 x.1.2.2.2.1).eval=(Hr.F x).eval):Hr.Ok Tryz.prog:=aU [Hp,wD,B7,kQ] ⟨WM,yL,Mo,ko,trivial⟩ WU fun x hw _ hy=>(hr x hw).trans hy
theorem WW:Hr.Ok Tryz.prog:=by
 refine WV fun x _=> ?_;obtain ⟨⟨o,a,b,c,_⟩,_⟩:=x;show (rP o a b c).eval=some (((gl o a b c,()),()),((),()));unfold rP gl m9 b6;simp only [Out.eval];cases (o==(1:Int))
 rotate_left
 . cases cM a<;>cases dC b (-1000000) 1000000<;>rfl
 cases (o==(2:Int))
 rotate_left
 . cases cM a<;>cases cM b<;>cases cM c<;>rfl
 cases (o==(3:Int))
 rotate_left
 . cases cM a<;>cases cM b<;>cases cM c<;>rfl
 cases (o==(4:Int))
 rotate_left
 . cases cM a<;>cases cM b<;>rfl
 cases (o==(5:Int))
 rotate_left
 . cases cM a<;>cases cM b<;>rfl
 cases (o==(6:Int))
 rotate_left
 . cases dC a 0 40<;>cases (b==(0:Int))<;>rfl
 cases (o==(7:Int))
 rotate_left
 . cases cM a<;>cases dC b 0 40<;>rfl
 cases (o==(8:Int))
 . rfl
 . cases dC a 1 20<;>cases (b==(0:Int))<;>rfl
def Db (a0:Int) (a1:Int) (a2:Int) (a3:Int):Out (((Bool×Unit)×Unit)×(Unit×Unit)):=
 .ret ((((!(gl a0 a1 a2 a3)),()),()),((),()))
def zt (o a b c:Int):Bool:= !gl o a b c
def Hs:bM:={ f:=208,lend:=true,aK:=[⟨false,true,[.i .i64, .i .i64, .i .i64, .i .i64]⟩],lay:=[none],rs:=[⟨false,false,[.b]⟩],F:=fun x=> .ret ((((zt x.1.1 x.1.2.1 x.1.2.2.1 x.1.2.2.2.1),()),()),((),())) }
theorem WX (x:az Hs.aK):bo [Hr] (fun _=>none) Tryz.f208 Hs [.tmp 2] x=Db x.1.1 x.1.2.1 x.1.2.2.1 x.1.2.2.2.1:=by kernel_rfl
theorem WY (hr:∀ x:(Int×Int×Int×Int×Unit)×Unit,aD Hs.aK x→(Db x.1.1 x.1.2.1 x.1.2.2.1 x.1.2.2.2.1).eval=(Hs.F x).eval):Hs.Ok Tryz.prog:=aU [Hr] ⟨WW,trivial⟩ WX fun x hw _ hy=>(hr x hw).trans hy
theorem WZ:Hs.Ok Tryz.prog:=WY fun _ _=>rfl
def dt (x:aw):Bool:=gl x.1 x.2.1 x.2.2.1 x.2.2.2.1
def bT (l:List aw):Bool:=decide (l.length≤40)&&l.all dt
abbrev Mp:=(List ((Int×Int×Int×Int×Unit))×Int×Unit)×(Unit)
def vf:Mp→Out (Round Mp ((Unit)×(Unit)) ((Bool×Unit)×(Unit)))
|((p0,p1,_),_)=>
 .ite (decide (p1<((List.length p0:Nat):Int)))
 (.ite (decide (0≤p1))
 (.get (nth p0 (Int.toNat p1)) fun y1=>
 .ite (!(gl y1.1 y1.2.1 y1.2.2.1 y1.2.2.2.1))
 (.ret (.ret ((false,()),())))
 (.ret (.again ((p0,(IntKind.i64.wrap (p1+(1:Int))),()),()))))
 .fail)
 (.ret (.out ((),())))
def rQ (a0:List (Int×Int×Int×Int×Unit)):Out (((Bool×Unit)×Unit)×(Unit×Unit)):=
 .ite (decide (((List.length a0:Nat):Int)>(40:Int)))
 (.ret (((false,()),()),((),())))
 (.get (iter vf bn ((a0,(0:Int),()),())) fun y1=> .alt y1 (fun _=>
 .ret (((true,()),()),((),()))) (fun y3=>
 .ret (((y3.1.1,()),()),((),()))))
def aec:Nat→Option aq:=fun n=>bU [(0,⟨⟨[.ro b8 (some 0), .dead, .dead, .i .i64]++dd 15,[]⟩,⟨dd 19,[]⟩,some ⟨[.dead, .dead, .b]++dd 16,[]⟩,false⟩)] n
def Ht:bM:={ f:=211,lend:=true,aK:=[⟨false,false,[.ro b8]⟩],lay:=[none],rs:=[⟨false,false,[.b]⟩],F:=fun x=> .ret ((((bT x.1.1),()),()),((),())) }
theorem W0 (x:az Ht.aK):bo [Hq] aec Tryz.f211 Ht [.tmp 2] x=rQ x.1.1:=by kernel_rfl
theorem W2 (hr:∀ x:(List (Int×Int×Int×Int×Unit)×Unit)×Unit,aD Ht.aK x→(rQ x.1.1).eval=(Ht.F x).eval):Ht.Ok Tryz.prog:=aU [Hq] ⟨WS,trivial⟩ W0 fun x hw _ hy=>(hr x hw).trans hy
theorem W3:Ht.Ok Tryz.prog:=by
 refine W2 fun x hw=> ?_;obtain ⟨⟨a,_⟩,_⟩:=x;have ha:a.length≤aS:=hw.1.1.1;show (rQ a).eval=some (((bT a,()),()),((),()));unfold rQ bT;have e2:decide (((a.length:Nat):Int)>(40:Int))= !decide (a.length≤40):=mK (m:=40);rw [e2];by_cases h1:a.length≤40
 . rw [ae (by simp [h1]),aaa h1,afN]
   have:=AH (f:=vf) a dt (fun i=>((a,(((i:Nat):Int),())),())) (y:=((),())) (z:=((false,()),()))
    (fun i hi hp=>by
     have g1:=ar (i:=i) (by omega);have hp:gl a[i].1 a[i].2.1 a[i].2.2.1 a[i].2.2.2.1=true:=hp;simp [vf,Out.eval,hi,g1,hp])
    (fun i hi hp=>by
     have hp:gl a[i].1 a[i].2.1 a[i].2.2.1 a[i].2.2.2.1=false:=hp;simp [vf,Out.eval,hi,hp])
    (by simp [vf,Out.eval]) ha
   refine (aa this).trans ?_;cases a.all dt<;>rfl
 . rw [ab (by simp [h1]),aae h1];rfl
abbrev Mq:=(List ((Int×Int×Int×Int×Unit))×Int×Int×Unit)×(Unit)
def vg:Mq→Out (Round Mq ((Unit)×(Unit)) ((Int×Unit)×(Unit)))
|((p0,p1,p2,_),_)=>
 .ite (decide (p2<p1))
 (.ite (decide (0≤p2))
 (.get (nth p0 (Int.toNat p2)) fun y1=>
 .ite (zt y1.1 y1.2.1 y1.2.2.1 y1.2.2.2.1)
 (.ret (.ret ((p2,()),())))
 (.ret (.again ((p0,p1,(IntKind.i64.wrap (p2+(1:Int))),()),()))))
 .fail)
 (.ret (.out ((),())))
def rR (a0:List (Int×Int×Int×Int×Unit)):Out (((Int×Unit)×Unit)×(Unit×Unit)):=
 .get (iter vg bn ((a0,((List.length a0:Nat):Int),(0:Int),()),())) fun y1=> .alt y1 (fun _=>
 .ret ((((-1:Int),()),()),((),()))) (fun y3=>
 .ret (((y3.1.1,()),()),((),())))
def aed:Nat→Option aq:=fun n=>bU [(0,⟨⟨[.ro b8 (some 0), .fn 208 []]++dd 5++[.i .i64, .i .i64]++dd 10,[]⟩,⟨dd 19,[]⟩,some ⟨dd 4++[.i .i64]++dd 14,[]⟩,false⟩)] n
def nJ (a:List aw):Int:=uQ (a.findIdx? fun x=> !dt x)
def Hu:bM:={ f:=257,lend:=true,aK:=[⟨false,false,[.ro b8]⟩],lay:=[none,some (208,0)],rs:=[⟨false,false,[.i .i64]⟩],F:=fun x=> .ret ((((nJ x.1.1),()),()),((),())) }
theorem W4 (x:az Hu.aK):bo [Hs] aed Tryz.f257 Hu [.tmp 4] x=rR x.1.1:=by kernel_rfl
theorem W5 (hr:∀ x:(List (Int×Int×Int×Int×Unit)×Unit)×Unit,aD Hu.aK x→(rR x.1.1).eval=(Hu.F x).eval):Hu.Ok Tryz.prog:=aU [Hs] ⟨WZ,trivial⟩ W4 fun x hw _ hy=>(hr x hw).trans hy
theorem W6:Hu.Ok Tryz.prog:=by
 refine W5 fun x hw=> ?_;obtain ⟨⟨a,_⟩,_⟩:=x;have ha:a.length≤aS:=hw.1.1.1;show (rR a).eval=some (((nJ a,()),()),((),()));unfold rR nJ;have:=dZ (f:=vg) a (fun x:aw=> !dt x) (fun i=>((a,(((a.length:Nat):Int),(((i:Nat):Int),()))),())) (y:=((),())) (z:=fun i=>((((i:Nat):Int),()),()))
  (fun i hi hp=>by
   have g1:=ar (i:=i) (by omega);have hp:zt a[i].1 a[i].2.1 a[i].2.2.1 a[i].2.2.2.1=false:=hp;simp [vg,Out.eval,hi,g1,hp])
  (fun i hi hp=>by
   have hp:zt a[i].1 a[i].2.1 a[i].2.2.1 a[i].2.2.2.1=true:=hp;simp [vg,Out.eval,hi,hp])
  (by simp [vg,Out.eval]) ha
 refine (aa this).trans ?_;cases a.findIdx? (fun x:aw=> !dt x)<;>rfl
def rS (a0:List (Int×Int×Int×Int×Unit)):Out (((Bool×Unit)×Unit)×(Unit×Unit)):=
 .ret ((((decide ((nJ a0)≥(0:Int))),()),()),((),()))
def vj (a:List aw):Bool:=a.any fun x=> !dt x
def Hv:bM:={ f:=207,lend:=true,aK:=[⟨false,false,[.ro b8]⟩],lay:=[none,some (208,0)],rs:=[⟨false,false,[.b]⟩],F:=fun x=> .ret ((((vj x.1.1),()),()),((),())) }
theorem W7 (x:az Hv.aK):bo [Hu] (fun _=>none) Tryz.f207 Hv [.tmp 4] x=rS x.1.1:=by kernel_rfl
theorem W8 (hr:∀ x:(List (Int×Int×Int×Int×Unit)×Unit)×Unit,aD Hv.aK x→(rS x.1.1).eval=(Hv.F x).eval):Hv.Ok Tryz.prog:=aU [Hu] ⟨W6,trivial⟩ W7 fun x hw _ hy=>(hr x hw).trans hy
theorem W9:Hv.Ok Tryz.prog:=by
 refine W8 fun x _=> ?_;obtain ⟨⟨a,_⟩,_⟩:=x;show (rS a).eval=some (((vj a,()),()),((),()));unfold rS vj nJ;rw [ku];rfl
def rT (a0:List (Int×Int×Int×Int×Unit)):Out (((Bool×Unit)×Unit)×(Unit×Unit)):=
 .ite ((decide (((List.length a0:Nat):Int)≤(40:Int)))==true)
 (.ret ((((!(vj a0)),()),()),((),())))
 (.ret (((false,()),()),((),())))
def Hw:bM:={ f:=123,lend:=true,aK:=[⟨false,false,[.ro b8]⟩],lay:=[none],rs:=[⟨false,false,[.b]⟩],F:=fun x=> .ret ((((bT x.1.1),()),()),((),())) }
theorem Xa (x:az Hw.aK):bo [Hv] (fun _=>none) Tryz.f123 Hw [.tmp 2] x=rT x.1.1:=by kernel_rfl
theorem Xb (hr:∀ x:(List (Int×Int×Int×Int×Unit)×Unit)×Unit,aD Hw.aK x→(rT x.1.1).eval=(Hw.F x).eval):Hw.Ok Tryz.prog:=aU [Hv] ⟨W9,trivial⟩ Xa fun x hw _ hy=>(hr x hw).trans hy
theorem Xc:Hw.Ok Tryz.prog:=by
 refine Xb fun x _=> ?_;obtain ⟨⟨a,_⟩,_⟩:=x;show (rT a).eval=some (((bT a,()),()),((),()));unfold rT bT;have e2:decide (((a.length:Nat):Int)≤(40:Int))=decide (a.length≤40):=FI (m:=40);have e4:a.all dt= !vj a:=(Mj a _).symm;rw [e2,e4];by_cases h1:a.length≤40<;>simp [Out.eval,h1]
end
section
open Go Go.ChangeShapes Go.WideShapes Go.ChangeAt Go.RowKit
theorem jO {x:Int} (h0: -9223372036854775808≤x) (h1:x≤9223372036854775807):IntKind.i64.wrap x=x:=by
 rw [IntKind.wrap_i64];omega
section
variable {α δ σ β γ:Type}
theorem Hx {f:σ→Out (Round σ β γ)} (a:List α) (p:α→Bool) (S:Nat→σ) {y:β} {z:γ} (hs:∀ i (hi:i<a.length),(f (S i)).eval=some (if p a[i]=true then .ret z else .again (S (i+1))))
  (hy:(f (S a.length)).eval=some (.out y)) (ha:a.length≤aS):iter f bn (S 0)=some (if a.any p=true then .inr z else .inl y):=by
 have key:∀ (m i n:Nat),i+m=a.length→m<n→iter f n (S i)=some (if (a.drop i).any p=true then .inr z else .inl y):=by
  intro m
  induction m with
  |zero=>
   intro i n hi hn;obtain rfl:i=a.length:=by omega
   rw [lD hy hn,List.drop_length];rfl
  |succ m ih=>
   intro i n hi hn;have bZ:i<a.length:=by omega
   have hq:=hs i bZ;rw [acN bZ,List.any_cons];cases q:p a[i] with
   |true=>rw [q,aaK rfl] at hq;rw [nC hq (by omega)];simp
   |false=>
    rw [q,aap (by decide)] at hq;obtain ⟨n,rfl⟩:∃ n',n=n'+1:=⟨n - 1,by omega⟩
    rw [ke hq,ih (i+1) n (by omega) (by omega)];simp
 simpa using key a.length 0 bn (by omega) (fL ha)
end
end
section
open Go Go.ChangeShapes Go.WideShapes Go.ChangeAt Go.RowKit
abbrev aib:=Int×(Int×(Int×(Int×Unit)))
instance anR:DecidableEq aib:=(@instDecidableEqProd _ _ inferInstance (@instDecidableEqProd _ _ inferInstance (@instDecidableEqProd _ _ inferInstance (@instDecidableEqProd _ _ inferInstance inferInstance))))
abbrev ag:=Int×(List Int×Unit)
instance anS:DecidableEq ag:=(@instDecidableEqProd _ _ inferInstance (@instDecidableEqProd _ _ inferInstance inferInstance))
abbrev af:=Int×(Int×(Int×(Int×(ag×(List Int×(List Int×(Int×(Int×Unit))))))))
instance alZ:DecidableEq af:=(@instDecidableEqProd _ _ inferInstance (@instDecidableEqProd _ _ inferInstance (@instDecidableEqProd _ _ inferInstance (@instDecidableEqProd _ _ inferInstance (@instDecidableEqProd _ _ inferInstance (@instDecidableEqProd _ _ inferInstance (@instDecidableEqProd _ _ inferInstance (@instDecidableEqProd _ _ inferInstance (@instDecidableEqProd _ _ inferInstance inferInstance)))))))))
abbrev ah:=Int×(Int×(Int×(Int×(Int×Unit))))
instance al0:DecidableEq ah:=(@instDecidableEqProd _ _ inferInstance (@instDecidableEqProd _ _ inferInstance (@instDecidableEqProd _ _ inferInstance (@instDecidableEqProd _ _ inferInstance (@instDecidableEqProd _ _ inferInstance inferInstance)))))
abbrev bw:=Int×(Int×(List (List aib)×(List af×(List ah×(List ag×(List ag×(List Int×(List Int×Unit))))))))
instance al1:DecidableEq bw:=(@instDecidableEqProd _ _ inferInstance (@instDecidableEqProd _ _ inferInstance (@instDecidableEqProd _ _ inferInstance (@instDecidableEqProd _ _ inferInstance (@instDecidableEqProd _ _ inferInstance (@instDecidableEqProd _ _ inferInstance (@instDecidableEqProd _ _ inferInstance (@instDecidableEqProd _ _ inferInstance (@instDecidableEqProd _ _ inferInstance inferInstance)))))))))
end
section
open Go Go.ChangeShapes Go.WideShapes Go.ChangeAt Go.RowKit
end
section
open Go Go.ChangeShapes Go.WideShapes Go.ChangeAt Go.RowKit
end
end Go.Proofs.YtohagdoklnkljaaGreat.Dm
