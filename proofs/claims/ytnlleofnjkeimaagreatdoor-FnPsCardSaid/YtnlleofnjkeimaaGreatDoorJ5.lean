/- f -/
import Derived.Test.YtnlleofnjkeimaaGreatDoorBase
namespace Go.Proofs.YtnlleofnjkeimaaGreatDoor.Dm
open Go Go.ChangeShapes Go.WideShapes Go.ChangeAt Go.RowKit
abbrev yr:=List UInt8
theorem all_eq {α:Type} [DecidableEq α] (a b:List α) (hl:a.length=b.length):(List.range a.length).all (λi=>decide (a[i]? =b[i]?))=decide (a=b):=by
 rw [ace,abD,aco];constructor
 . intro h
   apply acB;intro i;by_cases hi:i<a.length
   . exact abJ (h i (List.mem_range.2 hi))
   . rw [acI (by omega),acI (by omega)]
 . rintro rfl
   intro i _;exact aaE rfl
theorem Xk {a b:Nat} (h:a≠b):(((a:Nat):Int) != ((b:Nat):Int))=true:=by
 simp only [bne_iff_ne,ne_eq];omega
theorem Xl {a b:Nat} (h:a=b):(((a:Nat):Int) != ((b:Nat):Int))=false:=by
 subst h;simp
theorem mP {i n:Nat} (h:i<n):decide (((i:Nat):Int)<((n:Nat):Int))=true:=aaE (by omega)
theorem Ay (i:Nat):decide (0≤((i:Nat):Int))=true:=aaE (by omega)
theorem RH {α:Type} [DecidableEq α] {σ β γ:Type} {f:σ→Out (Round σ β γ)} (a b:List α) (s:Nat→σ) {y:β} {z:γ} (hl:a.length=b.length) (ha:a.length≤aM)
  (hy:∀ i (hi:i<a.length) (cQ:i<b.length),a[i]=b[i]→(f (s i)).eval=some (.again (s (i+1)))) (hn:∀ i (hi:i<a.length) (cQ:i<b.length),a[i]≠b[i]→(f (s i)).eval=some (.ret z))
  (he:(f (s a.length)).eval=some (.out y)):iter f bc (s 0)=some (if a=b then .inl y else .inr z):=by
 have:=Bu s (λi=>decide (a[i]? =b[i]?)) a.length (jx ha) (λi hi hp=>by
  have he:=abJ hp;rw [aa2 hi,aa2 (by omega)] at he;exact hy i hi (by omega) (aa6 he)) (λi hi hp=>by
  have he:=afG hp;rw [aa2 hi,aa2 (by omega)] at he;exact hn i hi (by omega) λe=>he (by rw [e])) he
 rw [this,all_eq a b hl];by_cases h:a=b
 . simp only [aaE h,ae4,aa5 h]
 . simp only [aa1 h,aa3 h];rfl
def lim {α β:Type} (l:List α) (x:β):Option β:=if l.length≤bA then some x else none
theorem Fh {α β:Type} {l:List α} {x:β} (h:l.length≤bA):lim l x=some x:=aa5 h
theorem RI {α β:Type} {l:List α} {x:β} (h:¬ l.length≤bA):lim l x=none:=aa3 h
def sH (a b:List Int):Bool:=decide (a=b)
abbrev Nw:=(List (Int)×List (Int)×Int×Int×Unit)×(Unit)
def yH:Nw→Out (Round Nw ((Unit)×(Unit)) ((Bool×Unit)×(Unit)))
|((p0,p1,p2,p3,_),_)=> .ite (decide (p3<p2)) (.ite (decide (0≤p3)) (.get (nth p0 (Int.toNat p3)) λy1=> .ite (decide (0≤p3)) (.get (nth p1 (Int.toNat p3)) λy2=> .ite ((y1 != y2)) (.ret (.ret ((false,()),()))) (.ret (.again ((p0,p1,p2,(IntKind.i64.wrap (p3+(1:Int))),()),())))) .fail) .fail) (.ret (.out ((),())))
def sI (a0:List Int) (a1:List Int):Out (((Bool×Unit)×Unit)×XI):= .ite ((((List.length a0:Nat):Int) != ((List.length a1:Nat):Int))) (.ret (((false,()),()),((),(),()))) (.get (iter yH bc ((a0,a1,((List.length a0:Nat):Int),(0:Int),()),())) λy1=> .alt y1 (λ_=> .ret (((true,()),()),((),(),()))) (λy3=> .ret (((y3.1.1,()),()),((),(),()))))
def adX:Nat→Option aq:=λn=>b6 [(0,⟨⟨[.ro (.int .i64) (some 0), .ro (.int .i64) (some 1)]++dd 10++[.i .i64, .i .i64]++dd 12,[]⟩,⟨dd 26,[]⟩,some ⟨dd 4++[.b]++dd 21,[]⟩,false⟩)] n
def UI:bZ:={ f:=77,lend:=true,aJ:=[⟨false,false,[.ro (.int .i64)]⟩,⟨false,false,[.ro (.int .i64)]⟩],lay:=[none,none],rs:=[⟨false,false,[.b]⟩],F:=λx=> .ret ((((sH x.1.1 x.2.1.1),()),()),((),(),())) }
theorem Xm (x:au UI.aJ):bo [] adX Tryz.f77 UI [.tmp 4] x=sI x.1.1 x.2.1.1:=by kernel_rfl
theorem Xn (hr:∀ x:(List Int×Unit)×(List Int×Unit)×Unit,aD UI.aJ x→(sI x.1.1 x.2.1.1).eval=(UI.F x).eval):UI.Ok Tryz.prog:=aO [] trivial Xm λx hw _ hy=>(hr x hw).trans hy
theorem Xo:UI.Ok Tryz.prog:=by
 refine Xn λx hw=> ?_;obtain ⟨⟨a,_⟩,⟨b,_⟩,_⟩:=x;have ha:a.length≤aM:=hw.1.1.1;show (sI a b).eval=some (((sH a b,()),()),((),((),())));unfold sI;by_cases hl:a.length=b.length
 . rw [ae (Xl hl)]
   have:=RH (f:=yH) a b (λi=>((a,(b,(((a.length:Nat):Int),(((i:Nat):Int),())))),())) (y:=((),())) (z:=((false,()),())) hl ha
    (λi hi cQ he=>by
     have:=aw (i:=i) (by omega);simp [yH,Out.eval,hi,cQ,he,this])
    (λi hi cQ he=>by simp [yH,Out.eval,hi,cQ,he,cond_eq_ite])
    (by simp [yH,Out.eval])
   refine (aa this).trans ?_;unfold sH;by_cases Uh:a=b
   . simp only [aa5 Uh,aaE Uh];rfl
   . simp only [aa3 Uh,aa1 Uh];rfl
 . rw [ab (Xk hl)]
   have:sH a b=false:=aa1 λe=>hl (by rw [e]);rw [this];rfl
section
variable {α σ β γ:Type} {f:σ→Out (Round σ β γ)}
theorem dY (a:List α) (p:α→Bool) (S:Nat→σ) {y:β} {z:Nat→γ} (hs:∀ i (hi:i<a.length),p a[i]=false→(f (S i)).eval=some (.again (S (i+1))))
  (hz:∀ i (hi:i<a.length),p a[i]=true→(f (S i)).eval=some (.ret (z i))) (hy:(f (S a.length)).eval=some (.out y)) (ha:a.length≤aM):
  iter f bc (S 0)=some (match a.findIdx? p with|some i=> .inr (z i)|none=> .inl y):=by
 cases h:a.findIdx? p with
 |none=>
  rw [adz] at h;exact yI S a.length (jx ha) (λi hi=>hs i hi (h _ (acb hi))) hy
 |some i=>
  rw [acD] at h;obtain ⟨hi,hp,Xp⟩:=h;exact Fi S i (adP (by omega) (jx ha)) (λj hj=>hs j (by omega) (by simpa using Xp j hj)) (hz i hi hp)
theorem Fj (a:List α) (p:α→Bool) (S:Nat→σ) {y:β} {z:γ} (hs:∀ i (hi:i<a.length),p a[i]=true→(f (S i)).eval=some (.again (S (i+1))))
  (hz:∀ i (hi:i<a.length),p a[i]=false→(f (S i)).eval=some (.ret z)) (hy:(f (S a.length)).eval=some (.out y)) (ha:a.length≤aM):
  iter f bc (S 0)=some (if a.all p=true then .inl y else .inr z):=by
 rw [dY (f:=f) a (λx=> !p x) S (y:=y) (z:=λ_=>z) (λi hi hp=>hs i hi (by simpa using hp)) (λi hi hp=>hz i hi (by simpa using hp)) hy ha];cases h:a.findIdx? (λx=> !p x) with
 |none=>
  rw [adz] at h;rw [aa5 (abD.2 λx hx=>by simpa using h x hx)]
 |some i=>
  rw [acD] at h;obtain ⟨hi,hp,_⟩:=h;rw [aa3 (λq=>by have:=abD.1 q _ (acb hi);rw [this] at hp;exact absurd hp (by decide))]
end
theorem Dn {n:Nat} {m:Nat}:decide (((n:Nat):Int)≤((m:Nat):Int))=decide (n≤m):=by
 rw [ace];simp
theorem RJ {n m:Nat}:(((n:Nat):Int) != ((m:Nat):Int))= !decide (n=m):=by
 rw [ace];simp;omega
theorem lY {n m:Nat}:decide (((n:Nat):Int)>((m:Nat):Int))= !decide (n≤m):=by
 rw [ace];simp
def sJ (a0:Int) (a1:Int) (a2:Int):Out (((Bool×Unit)×Unit)×(Unit×XI)):= .ite ((decide (a0≥a1))==true) (.ret ((((decide (a0≤a2)),()),()),((),(),(),()))) (.ret (((false,()),()),((),(),(),())))
def dh (x a b:Int):Bool:=decide (a≤x)&&decide (x≤b)
def xx:bZ:={ f:=30,lend:=true,aJ:=[⟨false,false,[.i .i64]⟩,⟨false,false,[.i .i64]⟩,⟨false,false,[.i .i64]⟩],lay:=[none,none,none],rs:=[⟨false,false,[.b]⟩],F:=λx=> .ret ((((dh x.1.1 x.2.1.1 x.2.2.1.1),()),()),((),(),(),())) }
theorem Xq (x:au xx.aJ):bo [] (λ_=>none) Tryz.f30 xx [.tmp 6] x=sJ x.1.1 x.2.1.1 x.2.2.1.1:=by kernel_rfl
theorem Xr (hr:∀ x:(Int×Unit)×(Int×Unit)×(Int×Unit)×Unit,aD xx.aJ x→(sJ x.1.1 x.2.1.1 x.2.2.1.1).eval=(xx.F x).eval):xx.Ok Tryz.prog:=aO [] trivial Xq λx hw _ hy=>(hr x hw).trans hy
theorem nK:xx.Ok Tryz.prog:=by
 refine Xr λx _=> ?_;obtain ⟨⟨x,_⟩,⟨a,_⟩,⟨b,_⟩,_⟩:=x;show (sJ x a b).eval=some (((dh x a b,()),()),((),((),((),()))));unfold sJ dh;by_cases h1:a≤x<;>simp [Out.eval,h1]
def sK (a0:Int) (a1:Int) (a2:Int):Out (((Bool×Unit)×Unit)×(Unit×XI)):= .ite ((decide (a0≥a1))==true) (.ret ((((decide (a0≤a2)),()),()),((),(),(),()))) (.ret (((false,()),()),((),(),(),())))
def vu:bZ:={ f:=18,lend:=true,aJ:=[⟨false,false,[.i .i64]⟩,⟨false,false,[.i .i64]⟩,⟨false,false,[.i .i64]⟩],lay:=[none,none,none],rs:=[⟨false,false,[.b]⟩],F:=λx=> .ret ((((dh x.1.1 x.2.1.1 x.2.2.1.1),()),()),((),(),(),())) }
theorem Xs (x:au vu.aJ):bo [] (λ_=>none) Tryz.f18 vu [.tmp 6] x=sK x.1.1 x.2.1.1 x.2.2.1.1:=by kernel_rfl
theorem Xt (hr:∀ x:(Int×Unit)×(Int×Unit)×(Int×Unit)×Unit,aD vu.aJ x→(sK x.1.1 x.2.1.1 x.2.2.1.1).eval=(vu.F x).eval):vu.Ok Tryz.prog:=aO [] trivial Xs λx hw _ hy=>(hr x hw).trans hy
theorem jW:vu.Ok Tryz.prog:=by
 refine Xt λx _=> ?_;obtain ⟨⟨x,_⟩,⟨a,_⟩,⟨b,_⟩,_⟩:=x;show (sK x a b).eval=some (((dh x a b,()),()),((),((),((),()))));unfold sK dh;by_cases h1:a≤x<;>simp [Out.eval,h1]
def sv:Option Nat→Int
 |some i=>((i:Nat):Int)
 |none=> -1
theorem j4 {α:Type} (a:List α) (p:α→Bool):decide (sv (a.findIdx? p)≥0)=a.any p:=by
 cases h:a.findIdx? p with
 |none=>
  rw [adz] at h;have:a.any p=false:=by rw [List.any_eq_false];intro x hx;simp [h x hx]
  rw [this];rfl
 |some i=>
  rw [acD] at h;obtain ⟨hi,hp,_⟩:=h;have:a.any p=true:=List.any_eq_true.2 ⟨a[i],acb hi,hp⟩;rw [this];exact aaE (by show ((i:Nat):Int)≥0;omega)
theorem I1 {α:Type} (a:List α) (p:α→Bool):(!a.any λx=> !p x)=a.all p:=by
 rw [ace];simp
theorem KE (a:Nat):BitVec.ofInt 64 ((a:Nat):Int)=BitVec.ofNat 64 a:=by simp
theorem Na {a:Nat} (h:a≤aM):IntKind.i64.wrap ((a:Nat):Int)=((a:Nat):Int):=by
 unfold aM at h;exact b7 (by omega) (by omega)
theorem wv {α β:Type} {f:α→Out (Round α β Empty)} {n:Nat} {x x':α} (h:(f x).eval=some (.again x')):bx f (n+1) x=bx f n x':=by unfold bx;rw [jT h]
theorem rE {α β:Type} {f:α→Out (Round α β Empty)} {n:Nat} {x:α} {y:β} (h:(f x).eval=some (.out y)) (hn:0<n):bx f n x=some y:=by unfold bx;rw [kT h hn];rfl
theorem foldl_loop {α β σ δ:Type} {f:σ→Out (Round σ β Empty)} (P:δ→Nat→Prop) (g:δ→α→δ) (a:List α) (S:δ→Nat→σ) (y:δ→β)
  (hs:∀ i (hi:i<a.length) l,P l i→(f (S l i)).eval=some (.again (S (g l a[i]) (i+1)))) (hy:∀ l,P l a.length→(f (S l a.length)).eval=some (.out (y l)))
  (hP:∀ i (hi:i<a.length) l,P l i→P (g l a[i]) (i+1)) (ha:a.length≤aM) (l:δ) (hl:P l 0):bx f bc (S l 0)=some (y (a.foldl g l)):=by
 have step:∀ i (hi:i<a.length),(a.take (i+1)).foldl g l=g ((a.take i).foldl g l) a[i]:=λi hi=>by
  rw [afo hi,List.foldl_append];rfl
 have inv:∀ i,i≤a.length→P ((a.take i).foldl g l) i:=by
  intro i
  induction i with
  |zero=>intro _;simpa using hl
  |succ i ih=>intro hi;rw [step i (by omega)];exact hP i (by omega) _ (ih (by omega))
 have h:=KM (f:=f) (λi=>S ((a.take i).foldl g l) i) a.length (y:=y (a.foldl g l)) (jx ha)
  (λi hi=>by rw [step i hi];exact hs i hi _ (inv i (by omega)))
  (by
   have:=hy _ (inv a.length (abE _));rw [List.take_length] at this ⊢;exact this)
 simpa using h
theorem qg {α β σ γ:Type} {f:σ→Out (Round σ β Empty)} (h:α→List γ) (a:List α) (S:List γ→Nat→σ) (y:List γ→β) (m:Nat)
  (hs:∀ i (hi:i<a.length) s,s.length+(h a[i]).length≤m→(f (S s i)).eval=some (.again (S (s++h a[i]) (i+1)))) (hy:∀ s,(f (S s a.length)).eval=some (.out (y s)))
  (ha:a.length≤aM) (s:List γ) (hl:s.length+(a.flatMap h).length≤m):bx f bc (S s 0)=some (y (s++a.flatMap h)):=by
 have hd:∀ i (hi:i<a.length),(a.drop i).flatMap h=h a[i]++(a.drop (i+1)).flatMap h:=λi hi=>by rw [acr hi,aeC]
 have:=foldl_loop (f:=f) (λs i=>s.length+((a.drop i).flatMap h).length≤m) (λs x=>s++h x) a S y
  (λi hi s hp=>hs i hi s (by rw [hd i hi,abz] at hp;omega)) (λs _=>hy s)
  (λi hi s hp=>by rw [hd i hi,abz] at hp;rw [abz];omega) ha s (by simpa using hl)
 rw [this];congr 2;clear this hl hd hs hy ha
 induction a generalizing s with
 |nil=>simp
 |cons x r ih=>rw [acn,ih,aeC,acj]
def adY (n:Nat):yr:=if n<128 then [UInt8.ofNat n] else UInt8.ofNat (128+n % 128)::adY (n / 128)
termination_by n
decreasing_by omega
def adZ (n:Int):yr:=if dh n 0 562949953421311=true then adY n.toNat else []
theorem nF:bA=68719476736:=rfl
theorem jh (i:Nat) (h:i<aM):IntKind.i64.wrap (((i+1:Nat):Int) - 1)=((i:Nat):Int):=by
 rw [b7 (by omega) (by unfold aM at h;omega)];omega
theorem oZ (x y:Int):decide (x≥y)= !decide (x<y):=by
 rw [ace];simp
theorem jg {α β:Type} (h:α→List β) (m:Nat):∀ (a:List α),(∀ x∈a,(h x).length≤m)→(a.flatMap h).length≤m*a.length
 |[],_=>by simp
 |x::r,hx=>by
  have h1:=hx x (by simp);have h2:=jg h m r λy hy=>hx y (by simp [hy]);rw [aeC,abz,aby,Nat.mul_succ];omega
def yJ {α:Type} (a:List α):Option (List α):=lim a a
def RK:bZ:={ f:=75,lend:=true,aJ:=[⟨false,false,[.ro (.int .i64)]⟩],lay:=[none],rs:=[⟨false,false,[.own (.int .i64)]⟩],F:=λx=> .get (yJ x.1.1) λy=> .ret (((y,()),()),((),())) }
noncomputable def Fk:Code:=codeOf Tryz.f75
noncomputable def UJ:Code:=I2 (I2 Fk)
noncomputable def Nx:Code:=wC (I2 Fk)
noncomputable def UK:Code:=ad0 (I2 Nx)
theorem Ny:codeOf Tryz.f75= .seq (wC Fk) (.seq (.seq (.region 1 #[cOp (wC Nx) 0,cOp (wC Nx) 1] false) (.cond (.tmp 4) (.seq (.region 2 (Xu (wC UK)) false) .ret) .skip)) UJ):=by kernel_rfl
theorem RL (x:(List Int×Unit)×Unit):o5 (QO []) (λ_=>none) (wC Fk) (.seq (.region 2 (Xu (wC UK)) false) .ret) RK.aJ RK.lay Tryz.f75.ntmps RK.rs [.tmp 2] x=Out.ret ((((([]:List (Int))),()),()),((),())):=by kernel_rfl
theorem Xv (x:(List Int×Unit)×Unit):o5 (QO []) (λ_=>none) (wC Fk) UJ RK.aJ RK.lay Tryz.f75.ntmps RK.rs [.tmp 2] x=Out.ite (decide (List.length ([]:List (Int))+List.length x.1.1≤bA)) (Out.ret (((([]:List (Int))++x.1.1,()),()),((),()))) Out.fail:=by kernel_rfl
theorem Xw:RK.Ok Tryz.prog:=by
 refine Hw (sq ja Cj []) (xS [] (λK hK=>by cases hK) rfl) xR (An:=λ_=>none) (rtm:=[.tmp 2]) (tk:=some 0) (tid:=29) (te:=3) (l:=λx=>x.1.1) (by kernel_rfl) (pR (by kernel_rfl)) (by kernel_rfl) (by kernel_rfl) (by decide) (by decide) (by decide)
  Ny (by kernel_rfl) (by kernel_rfl) (by kernel_rfl) (by kernel_rfl) (by kernel_rfl) (by kernel_rfl) (by kernel_rfl) (λx=>by kernel_rfl) (λx=>Nat.le_of_ble_eq_true (by kernel_rfl)) (λx y _ hy=> ?_) (λx y _ hl hy=> ?_)
 . obtain ⟨⟨a,_⟩,_⟩:=x
   refine (congrArg Out.eval (Xv _)).trans ?_;change (Out.get (yJ a) λy=>Out.ret (((y,()),()),((),()))).eval=some y at hy;unfold yJ at hy;by_cases h:a.length≤bA
   . rw [Fh h] at hy
     exact (ab (aaE (show 0+a.length≤bA from (acw _).symm ▸ h))).trans hy
   . rw [RI h] at hy;exact nomatch hy
 . obtain ⟨⟨a,_⟩,_⟩:=x
   obtain rfl:a=[]:=hl;exact (congrArg Out.eval (RL _)).trans hy
abbrev et:=Int×(List Int×Unit)
def ahn (n:Int):Int:=if n<0 then IntKind.i64.wrap (IntKind.i64.wrap ((-2)*n) - 1) else IntKind.i64.wrap (2*n)
def bV (n:Int):Bool:=dh n (-1000000) 1000000
def aG (l:List Int):Bool:=l.all bV
def Xx (l:List Int):yr:=adZ ((l.length:Nat):Int)++l.flatMap λn=>adZ (ahn n)
def I3 (d:List Int):yr:=[102]++Xx d
def fR:Nat→List (Option (List Int))→List et
 |_,[]=>[]
 |i,none::r=>fR (i+1) r
 |i,some d::r=>(((i:Nat):Int),(d,()))::fR (i+1) r
def RM:Option (List Int)→yr
 |none=>[]
 |some d=>I3 d
def okO:Option (List Int)→Bool
 |none=>true
 |some d=>aG d&&decide (d.length≤8)
def RN (o:List yr) (x:et):List yr:=o.set x.1.toNat (I3 x.2.1)
theorem o6:∀ (ds:List (Option (List Int))) (i:Nat) (p:List yr),p.length=i→(fR i ds).foldl RN (p++List.replicate ds.length [])=p++ds.map RM
 |[],i,p,_=>by simp [fR]
 |none::r,i,p,h=>by
  have:=o6 r (i+1) (p++[[]]) (by simp [h]);simp only [fR,aby,acd,RM];rw [List.replicate_succ,show p++[]::List.replicate r.length []=p++[[]]++List.replicate r.length [] by simp,this];simp
 |some d::r,i,p,h=>by
  have:=o6 r (i+1) (p++[I3 d]) (by simp [h]);simp only [fR,aby,acd,RM,acn];have e:RN (p++List.replicate (r.length+1) []) (((i:Nat):Int),(d,()))=p++[I3 d]++List.replicate r.length []:=by
   unfold RN;rw [abo,List.replicate_succ,List.set_append_right _ _ (by omega),h,Nat.sub_self,List.set_cons_zero];simp
  rw [e,this];simp
def eF (x:et):Bool:=dh x.1 0 5&&(decide (x.2.1.length≤8)&&aG x.2.1)
def gC (a:List et) (i:Nat):Bool:=match a[i]? with
 |none=>true
 |some x=>eF x&&(match i with|0=>true|j+1=>match a[j]? with|none=>true|some z=>decide (z.1<x.1))
def fW (a:List et):Bool:=decide (a.length≤6)&&(List.range a.length).all (gC a)
theorem rn {a:List et} (h:0<a.length):gC a 0=eF a[0]:=by
 unfold gC;rw [aa2 h];simp
theorem rp {a:List et} {i:Nat} (h:i+1<a.length):gC a (i+1)=(eF a[i+1]&&decide (a[i].1<a[i+1].1)):=by
 unfold gC;rw [aa2 h];simp only [aa2 (show i<a.length by omega)]
def gI:Int→List et→Bool
 |_,[]=>true
 |lo,x::r=>eF x&&(decide (lo≤x.1)&&gI (x.1+1) r)
theorem Bv (a:List et):∀ (m i:Nat) (lo:Int),i+m=a.length→(∀ (h:i<a.length),gC a i=(eF a[i]&&decide (lo≤a[i].1)))→((∀ j,i≤j→j<a.length→gC a j=true)↔gI lo (a.drop i)=true)
 |0,i,lo,hi,_=>by
  rw [List.drop_of_length_le (by omega)];exact ⟨λ_=>rfl,λ_ j h1 h2=>by omega⟩
 |m+1,i,lo,hi,h=>by
  have bS:i<a.length:=by omega
  have ih:=Bv a m (i+1) (a[i].1+1) (by omega) (λh'=>by
   rw [rp h'];congr 1)
  rw [acr bS,gI,aa4,aa4, ← ih];have h0:=h bS;constructor
  . intro q
    have q1:=q i (abE i) bS;rw [h0,aa4] at q1;exact ⟨q1.1,q1.2,λj hj=>q j (by omega)⟩
  . rintro ⟨q1,q2,q3⟩ j hj hl
    by_cases e:j=i
    . subst e;rw [h0,q1,q2];rfl
    . exact q3 j (by omega) hl
theorem rq (a:List et):fW a=(decide (a.length≤6)&&gI 0 a):=by
 unfold fW;congr 1;have:=Bv a a.length 0 0 (by omega) (λh=>by
  rw [rn h];cases hf:eF a[0] with
  |false=>rfl
  |true=>
   have:dh a[0].1 0 5=true:=(Bool.and_eq_true_iff.1 hf).1;have:(0:Int)≤a[0].1∧a[0].1≤(5:Int):=by simpa [dh] using this
   have e:decide ((0:Int)≤a[0].1)=true:=aaE this.1;exact (congrArg (λb=>(true&&b)) e).symm)
 rw [ace,abD];rw [afW] at this;rw [← this];exact ⟨λq j _ hj=>q j (List.mem_range.2 hj),λq j hj=>q j (ac0 j) (List.mem_range.1 hj)⟩
theorem nL:∀ (ds:List (Option (List Int))) (i:Nat) (lo:Int),lo≤i→i+ds.length≤6→gI lo (fR i ds)=ds.all okO
 |[],_,_,_,_=>rfl
 |none::r,i,lo,h1,h2=>by
  rw [fR,ack,nL r (i+1) lo (by omega) (by rw [aby] at h2;omega)];rfl
 |some d::r,i,lo,h1,h2=>by
  rw [aby] at h2;rw [fR,gI,ack];simp only;rw [nL r (i+1) (((i:Nat):Int)+1) (by omega) (by omega),aaE h1,acU];congr 1;show (dh ((i:Nat):Int) 0 5&&(decide (d.length≤8)&&aG d))=(aG d&&decide (d.length≤8))
  have e:dh ((i:Nat):Int) 0 5=true:=by unfold dh;rw [aaE (show (0:Int)≤((i:Nat):Int) by omega),aaE (show ((i:Nat):Int)≤5 by omega)];rfl
  rw [e,acU,Bool.and_comm]
theorem o7:∀ (ds:List (Option (List Int))) (i:Nat),(fR i ds).length≤ds.length
 |[],_=>abE _
 |none::r,i=>by have:=o7 r (i+1);simp only [fR,aby];omega
 |some d::r,i=>by have:=o7 r (i+1);simp only [fR,aby];omega
theorem Hx {ds:List (Option (List Int))} (h:ds.length≤6):fW (fR 0 ds)=ds.all okO:=by
 have:=o7 ds 0;rw [rq,aaE (by omega),nL ds 0 0 (by omega) (by omega)];rfl
theorem xy:∀ (m i:Nat) (lo:Int) (a:List et),lo=i→i+m=6→gI lo a=true→∃ ds:List (Option (List Int)),ds.length=m∧fR i ds=a
 |0,i,lo,a,h1,h2,h=>by
  cases a with
  |nil=>exact ⟨[],rfl,rfl⟩
  |cons x r=>
   exfalso;rw [gI,aa4,aa4] at h;have q:dh x.1 0 5=true:=(Bool.and_eq_true_iff.1 h.1).1;have q:0≤x.1∧x.1≤5:=by simpa [dh] using q
   have:=abJ h.2.1;omega
 |m+1,i,lo,a,h1,h2,h=>by
  cases a with
  |nil=>
   obtain ⟨ds,e1,e2⟩:=xy m (i+1) (((i+1:Nat):Int)) [] rfl (by omega) rfl;exact ⟨none::ds,by simp [e1],e2⟩
  |cons x r=>
   have h':=h;rw [gI,aa4,aa4] at h;have hl:=abJ h.2.1;by_cases e:x.1=i
   . obtain ⟨ds,e1,e2⟩:=xy m (i+1) (((i+1:Nat):Int)) r rfl (by omega) (by have:=h.2.2;rw [e] at this;exact this)
     refine ⟨some x.2.1::ds,by simp [e1], ?_⟩;rw [fR,e2, ← e]
   . obtain ⟨ds,e1,e2⟩:=xy m (i+1) (((i+1:Nat):Int)) (x::r) rfl (by omega) (by
      rw [gI,h.1,h.2.2,aaE (by omega)];rfl)
     exact ⟨none::ds,by simp [e1],e2⟩
def wD (a:List et):List yr:=if fW a=true then a.foldl RN (List.replicate 6 []) else []
theorem places {a:List et} (h:fW a=true):∃ ds:List (Option (List Int)),ds.length=6∧fR 0 ds=a∧ds.all okO=true∧wD a=ds.map RM:=by
 have h2:=h;rw [rq,aa4] at h2;obtain ⟨ds,e1,e2⟩:=xy 6 0 0 a rfl (by omega) h2.2;refine ⟨ds,e1,e2, ?_, ?_⟩
 . rw [← Hx (by omega),e2];exact h
 . unfold wD
   rw [aa5 h, ← e2, ← e1];exact o6 ds 0 [] rfl
def Fl (a0:Int):Out (((Bool×Unit)×Unit)×(Unit×Unit)):= .ret ((((dh a0 (-1000000:Int) (1000000:Int)),()),()),((),()))
def LQ:bZ:={ f:=43,lend:=true,aJ:=[⟨false,false,[.i .i64]⟩],lay:=[none],rs:=[⟨false,false,[.b]⟩],F:=λx=> .ret ((((bV x.1.1),()),()),((),())) }
theorem Xy (x:au LQ.aJ):bo [vu] (λ_=>none) Tryz.f43 LQ [.tmp 2] x=Fl x.1.1:=by kernel_rfl
theorem Xz (hr:∀ x:(Int×Unit)×Unit,aD LQ.aJ x→(Fl x.1.1).eval=(LQ.F x).eval):LQ.Ok Tryz.prog:=aO [vu] ⟨jW,trivial⟩ Xy λx hw _ hy=>(hr x hw).trans hy
theorem Dp:LQ.Ok Tryz.prog:=Xz λ_ _=>rfl
abbrev Nz:=(List (Int)×Int×Unit)×(Unit)
def yK:Nz→Out (Round Nz ((Unit)×(Unit)) ((Bool×Unit)×(Unit)))
|((p0,p1,_),_)=> .ite (decide (p1<((List.length p0:Nat):Int))) (.ite (decide (0≤p1)) (.get (nth p0 (Int.toNat p1)) λy1=> .ite (!(bV y1)) (.ret (.ret ((false,()),()))) (.ret (.again ((p0,(IntKind.i64.wrap (p1+(1:Int))),()),())))) .fail) (.ret (.out ((),())))
def sL (a0:List Int):Out (((Bool×Unit)×Unit)×(Unit×Unit)):= .get (iter yK bc ((a0,(0:Int),()),())) λy1=> .alt y1 (λ_=> .ret (((true,()),()),((),()))) (λy3=> .ret (((y3.1.1,()),()),((),())))
def ad1:Nat→Option aq:=λn=>b6 [(0,⟨⟨[.ro (.int .i64) (some 0), .dead, .dead, .i .i64]++dd 12,[]⟩,⟨dd 16,[]⟩,some ⟨[.dead, .dead, .b]++dd 13,[]⟩,false⟩)] n
def I4:bZ:={ f:=20,lend:=true,aJ:=[⟨false,false,[.ro (.int .i64)]⟩],lay:=[none],rs:=[⟨false,false,[.b]⟩],F:=λx=> .ret ((((aG x.1.1),()),()),((),())) }
theorem XA (x:au I4.aJ):bo [LQ] ad1 Tryz.f20 I4 [.tmp 2] x=sL x.1.1:=by kernel_rfl
theorem XB (hr:∀ x:(List Int×Unit)×Unit,aD I4.aJ x→(sL x.1.1).eval=(I4.F x).eval):I4.Ok Tryz.prog:=aO [LQ] ⟨Dp,trivial⟩ XA λx hw _ hy=>(hr x hw).trans hy
theorem Dq:I4.Ok Tryz.prog:=by
 refine XB λx hw=> ?_;obtain ⟨⟨a,_⟩,_⟩:=x;have ha:a.length≤aM:=hw.1.1.1;show (sL a).eval=some (((aG a,()),()),((),()));unfold sL aG;have:=Fj (f:=yK) a bV (λi=>((a,(((i:Nat):Int),())),())) (y:=((),())) (z:=((false,()),()))
  (λi hi hp=>by
   have g1:=aw (i:=i) (by omega);simp [yK,Out.eval,hi,g1,hp])
  (λi hi hp=>by simp [yK,Out.eval,hi,hp])
  (by simp [yK,Out.eval]) ha
 refine (aa this).trans ?_;cases a.all bV<;>rfl
def Fm (a0:Int):Out (((Bool×Unit)×Unit)×(Unit×Unit)):= .ret ((((dh a0 (-1000000:Int) (1000000:Int)),()),()),((),()))
def LR:bZ:={ f:=58,lend:=true,aJ:=[⟨false,false,[.i .i64]⟩],lay:=[none],rs:=[⟨false,false,[.b]⟩],F:=λx=> .ret ((((bV x.1.1),()),()),((),())) }
theorem XC (x:au LR.aJ):bo [xx] (λ_=>none) Tryz.f58 LR [.tmp 2] x=Fm x.1.1:=by kernel_rfl
theorem XD (hr:∀ x:(Int×Unit)×Unit,aD LR.aJ x→(Fm x.1.1).eval=(LR.F x).eval):LR.Ok Tryz.prog:=aO [xx] ⟨nK,trivial⟩ XC λx hw _ hy=>(hr x hw).trans hy
theorem Hy:LR.Ok Tryz.prog:=XD λ_ _=>rfl
def Fo (a0:Int):Out (((Bool×Unit)×Unit)×(Unit×Unit)):= .ret ((((!(bV a0)),()),()),((),()))
def mR (n:Int):Bool:= !bV n
def UL:bZ:={ f:=57,lend:=true,aJ:=[⟨false,false,[.i .i64]⟩],lay:=[none],rs:=[⟨false,false,[.b]⟩],F:=λx=> .ret ((((mR x.1.1),()),()),((),())) }
theorem XF (x:au UL.aJ):bo [LR] (λ_=>none) Tryz.f57 UL [.tmp 2] x=Fo x.1.1:=by kernel_rfl
theorem XG (hr:∀ x:(Int×Unit)×Unit,aD UL.aJ x→(Fo x.1.1).eval=(UL.F x).eval):UL.Ok Tryz.prog:=aO [LR] ⟨Hy,trivial⟩ XF λx hw _ hy=>(hr x hw).trans hy
theorem XH:UL.Ok Tryz.prog:=XG λ_ _=>rfl
abbrev NA:=(List (Int)×Int×Int×Unit)×(Unit)
def yL:NA→Out (Round NA ((Unit)×(Unit)) ((Int×Unit)×(Unit)))
|((p0,p1,p2,_),_)=> .ite (decide (p2<p1)) (.ite (decide (0≤p2)) (.get (nth p0 (Int.toNat p2)) λy1=> .ite (mR y1) (.ret (.ret ((p2,()),()))) (.ret (.again ((p0,p1,(IntKind.i64.wrap (p2+(1:Int))),()),())))) .fail) (.ret (.out ((),())))
def sM (a0:List Int):Out (((Int×Unit)×Unit)×(Unit×Unit)):= .get (iter yL bc ((a0,((List.length a0:Nat):Int),(0:Int),()),())) λy1=> .alt y1 (λ_=> .ret ((((-1:Int),()),()),((),()))) (λy3=> .ret (((y3.1.1,()),()),((),())))
def ad3:Nat→Option aq:=λn=>b6 [(0,⟨⟨[.ro (.int .i64) (some 0), .fn 57 []]++dd 5++[.i .i64, .i .i64]++dd 10,[]⟩,⟨dd 19,[]⟩,some ⟨dd 4++[.i .i64]++dd 14,[]⟩,false⟩)] n
def lu (a:List Int):Int:=sv (a.findIdx? mR)
def UM:bZ:={ f:=87,lend:=true,aJ:=[⟨false,false,[.ro (.int .i64)]⟩],lay:=[none,some (57,0)],rs:=[⟨false,false,[.i .i64]⟩],F:=λx=> .ret ((((lu x.1.1),()),()),((),())) }
theorem XJ (x:au UM.aJ):bo [UL] ad3 Tryz.f87 UM [.tmp 4] x=sM x.1.1:=by kernel_rfl
theorem XK (hr:∀ x:(List Int×Unit)×Unit,aD UM.aJ x→(sM x.1.1).eval=(UM.F x).eval):UM.Ok Tryz.prog:=aO [UL] ⟨XH,trivial⟩ XJ λx hw _ hy=>(hr x hw).trans hy
theorem XL:UM.Ok Tryz.prog:=by
 refine XK λx hw=> ?_;obtain ⟨⟨a,_⟩,_⟩:=x;have ha:a.length≤aM:=hw.1.1.1;show (sM a).eval=some (((lu a,()),()),((),()));unfold sM lu;have:=dY (f:=yL) a mR (λi=>((a,(((a.length:Nat):Int),(((i:Nat):Int),()))),())) (y:=((),())) (z:=λi=>((((i:Nat):Int),()),()))
  (λi hi hp=>by
   have g1:=aw (i:=i) (by omega);simp [yL,Out.eval,hi,g1,hp])
  (λi hi hp=>by simp [yL,Out.eval,hi,hp])
  (by simp [yL,Out.eval]) ha
 refine (aa this).trans ?_;cases a.findIdx? mR<;>rfl
def sN (a0:List Int):Out (((Bool×Unit)×Unit)×(Unit×Unit)):= .ret ((((decide ((lu a0)≥(0:Int))),()),()),((),()))
def o8 (a:List Int):Bool:=a.any mR
def UN:bZ:={ f:=56,lend:=true,aJ:=[⟨false,false,[.ro (.int .i64)]⟩],lay:=[none,some (57,0)],rs:=[⟨false,false,[.b]⟩],F:=λx=> .ret ((((o8 x.1.1),()),()),((),())) }
theorem XN (x:au UN.aJ):bo [UM] (λ_=>none) Tryz.f56 UN [.tmp 4] x=sN x.1.1:=by kernel_rfl
theorem XO (hr:∀ x:(List Int×Unit)×Unit,aD UN.aJ x→(sN x.1.1).eval=(UN.F x).eval):UN.Ok Tryz.prog:=aO [UM] ⟨XL,trivial⟩ XN λx hw _ hy=>(hr x hw).trans hy
theorem XP:UN.Ok Tryz.prog:=by
 refine XO λx _=> ?_;obtain ⟨⟨a,_⟩,_⟩:=x;show (sN a).eval=some (((o8 a,()),()),((),()));unfold sN o8 lu;rw [j4];rfl
def yM (a0:List Int):Out (((Bool×Unit)×Unit)×(Unit×Unit)):= .ret ((((!(o8 a0)),()),()),((),()))
def GM:bZ:={ f:=31,lend:=true,aJ:=[⟨false,false,[.ro (.int .i64)]⟩],lay:=[none],rs:=[⟨false,false,[.b]⟩],F:=λx=> .ret ((((aG x.1.1),()),()),((),())) }
theorem XQ (x:au GM.aJ):bo [UN] (λ_=>none) Tryz.f31 GM [.tmp 2] x=yM x.1.1:=by kernel_rfl
theorem XR (hr:∀ x:(List Int×Unit)×Unit,aD GM.aJ x→(yM x.1.1).eval=(GM.F x).eval):GM.Ok Tryz.prog:=aO [UN] ⟨XP,trivial⟩ XQ λx hw _ hy=>(hr x hw).trans hy
theorem yN:GM.Ok Tryz.prog:=by
 refine XR λx _=> ?_;obtain ⟨⟨a,_⟩,_⟩:=x;show (yM a).eval=some (((aG a,()),()),((),()));have:(!o8 a)=aG a:=I1 a bV;rw [← this];rfl
abbrev NB:=(List ((Int×List Int×Unit))×List ((Int×List Int×Unit))×Int×Int×Unit)×(Unit)
def vv:NB→Out (Round NB ((List ((Int×List Int×Unit))×Unit)×(Unit)) ((Bool×Unit)×(Unit)))
|((p0,p1,p2,p3,_),_)=> .ite (decide (p3<p2)) (.ite (decide (0≤p3)) (.get (nth p1 (Int.toNat p3)) λy1=> .ite ((!(dh y1.1 (0:Int) (5:Int)))==false) (.ite ((decide (p3>(0:Int)))==true) (.ite (decide (0≤(IntKind.i64.wrap (p3 - (1:Int))))) (.get (nth p0 (Int.toNat (IntKind.i64.wrap (p3 - (1:Int))))) λy2=> .ite ((decide (y2.1≥y1.1))==false) (.ite ((decide (((List.length y1.2.1:Nat):Int)>(8:Int)))==false) (.ite (!(aG y1.2.1)) (.ret (.ret ((false,()),()))) (.ret (.again ((p0,p1,p2,(IntKind.i64.wrap (p3+(1:Int))),()),())))) (.ret (.ret ((false,()),())))) (.ret (.ret ((false,()),())))) .fail) (.ite ((decide (((List.length y1.2.1:Nat):Int)>(8:Int)))==false) (.ite (!(aG y1.2.1)) (.ret (.ret ((false,()),()))) (.ret (.again ((p0,p1,p2,(IntKind.i64.wrap (p3+(1:Int))),()),())))) (.ret (.ret ((false,()),()))))) (.ret (.ret ((false,()),())))) .fail) (.ret (.out ((p0,()),())))
def sO (a0:List (Int×List Int×Unit)):Out (((Bool×Unit)×Unit)×(Unit×Unit)):= .get (iter vv bc ((a0,a0,((List.length a0:Nat):Int),(0:Int),()),())) λy1=> .alt y1 (λy2=> .ret ((((decide (((List.length y2.1.1:Nat):Int)≤(6:Int))),()),()),((),()))) (λy3=> .ret (((y3.1.1,()),()),((),())))
def ad4:Nat→Option aq:=λn=>b6 [(0,⟨⟨[.ro dU (some 0)]++dd 4++[.ro dU (some 0), .i .i64, .i .i64]++dd 39,[]⟩,⟨[.ro dU (some 0)]++dd 46,[]⟩,some ⟨[.dead, .dead, .b]++dd 44,[]⟩,false⟩)] n
def UO:bZ:={ f:=39,lend:=true,aJ:=[⟨false,false,[.ro dU]⟩],lay:=[none],rs:=[⟨false,false,[.b]⟩],F:=λx=> .ret ((((fW x.1.1),()),()),((),())) }
theorem XT (x:au UO.aJ):bo [xx,GM] ad4 Tryz.f39 UO [.tmp 2] x=sO x.1.1:=by kernel_rfl
theorem XU (hr:∀ x:(List (Int×List Int×Unit)×Unit)×Unit,aD UO.aJ x→(sO x.1.1).eval=(UO.F x).eval):UO.Ok Tryz.prog:=aO [xx,GM] ⟨nK,yN,trivial⟩ XT λx hw _ hy=>(hr x hw).trans hy
theorem XV:UO.Ok Tryz.prog:=by
 refine XU λx hw=> ?_;obtain ⟨⟨a,_⟩,_⟩:=x;have ha:a.length≤aM:=hw.1.1.1;show (sO a).eval=some (((fW a,()),()),((),()));unfold sO fW;have key:∀ i (hi:i<a.length),(vv ((a,(a,(((a.length:Nat):Int),(((i:Nat):Int),())))),())).eval=some (bif gC a i then .again ((a,(a,(((a.length:Nat):Int),(((i+1:Nat):Int),())))),()) else .ret ((false,()),())):=λi hi=>by
  have w1:=aw (i:=i) (by omega);have g:decide (((a[i].2.1.length:Nat):Int)>(8:Int))= !decide (a[i].2.1.length≤8):=lY (m:=8);cases i with
  |zero=>
   rw [rn hi];have w3:decide (((0:Nat):Int)>0)=false:=rfl;unfold eF;simp only [vv,Out.eval,mP hi,Ay,cL hi,acf,acE,w3,g,w1];cases p1:dh a[0].1 0 5<;>cases p2:decide (a[0].2.1.length≤8)<;>cases p3:aG a[0].2.1<;>rfl
  |succ i=>
   rw [rp hi];have w2:=jh i (by omega);have w3:decide (((i+1:Nat):Int)>0)=true:=aaE (by omega);unfold eF;simp only [vv,Out.eval,mP hi,cL hi,cL (show i<a.length by omega),w1,w2,w3,g,oZ,acf,acE];cases p1:dh a[i+1].1 0 5<;>cases p2:decide (a[i].1<a[i+1].1)<;>cases p3:decide (a[i+1].2.1.length≤8)<;>cases p4:aG a[i+1].2.1<;>rfl
 have:=Bu (f:=vv) (λi=>((a,(a,(((a.length:Nat):Int),(((i:Nat):Int),())))),())) (gC a) a.length (y:=((a,()),())) (z:=((false,()),())) (jx ha)
  (λi hi hp=>by rw [key i hi,hp];rfl) (λi hi hp=>by rw [key i hi,hp];rfl) (by simp [vv,Out.eval])
 refine (aa this).trans ?_;have e2:decide (((a.length:Nat):Int)≤(6:Int))=decide (a.length≤6):=Dn (m:=6);cases (List.range a.length).all (gC a)
 . rw [Bool.and_false];rfl
 . rw [afy, ← e2];rfl
section
open Go Go.ChangeShapes Go.WideShapes Go.ChangeAt Go.RowKit
end
abbrev az:=Int×(Int×(Int×(Int×Unit)))
def cA (n:Int):Bool:=decide (0≤n)&&decide (n<4)
def mw (n:Int):Bool:=dh n 0 40
def ql (a0:Int):Out (((Bool×Unit)×Unit)×(Unit×Unit)):= .ite ((decide (a0≥(0:Int)))==true) (.ret ((((decide (a0<(4:Int))),()),()),((),()))) (.ret (((false,()),()),((),())))
def Fp:bZ:={ f:=103,lend:=true,aJ:=[⟨false,false,[.i .i64]⟩],lay:=[none],rs:=[⟨false,false,[.b]⟩],F:=λx=> .ret ((((cA x.1.1),()),()),((),())) }
theorem RO (x:au Fp.aJ):bo [] (λ_=>none) Tryz.f103 Fp [.tmp 2] x=ql x.1.1:=by kernel_rfl
theorem RP (hr:∀ x:(Int×Unit)×Unit,aD Fp.aJ x→(ql x.1.1).eval=(Fp.F x).eval):Fp.Ok Tryz.prog:=aO [] trivial RO λx hw _ hy=>(hr x hw).trans hy
theorem RQ:Fp.Ok Tryz.prog:=by
 refine RP λx _=> ?_;obtain ⟨⟨n,_⟩,_⟩:=x;show (ql n).eval=some (((cA n,()),()),((),()));unfold ql cA;by_cases h1:0≤n<;>simp [Out.eval,h1]
def sP (a0:Int):Out (((Bool×Unit)×Unit)×(Unit×Unit)):= .ret ((((dh a0 (0:Int) (3:Int)),()),()),((),()))
def UP:bZ:={ f:=89,lend:=true,aJ:=[⟨false,false,[.i .i64]⟩],lay:=[none],rs:=[⟨false,false,[.b]⟩],F:=λx=> .ret ((((cA x.1.1),()),()),((),())) }
theorem XW (x:au UP.aJ):bo [xx] (λ_=>none) Tryz.f89 UP [.tmp 2] x=sP x.1.1:=by kernel_rfl
theorem XX (hr:∀ x:(Int×Unit)×Unit,aD UP.aJ x→(sP x.1.1).eval=(UP.F x).eval):UP.Ok Tryz.prog:=aO [xx] ⟨nK,trivial⟩ XW λx hw _ hy=>(hr x hw).trans hy
theorem XY:UP.Ok Tryz.prog:=by
 refine XX λx _=> ?_;obtain ⟨⟨n,_⟩,_⟩:=x;show (sP n).eval=some (((cA n,()),()),((),()));have h4:decide (n≤3)=decide (n<4):=by rw [ace];simp;omega
 unfold sP cA dh;rw [h4];rfl
def Fq (a0:Int):Out (((Bool×Unit)×Unit)×(Unit×Unit)):= .ret ((((dh a0 (0:Int) (40:Int)),()),()),((),()))
def QC:bZ:={ f:=90,lend:=true,aJ:=[⟨false,false,[.i .i64]⟩],lay:=[none],rs:=[⟨false,false,[.b]⟩],F:=λx=> .ret ((((mw x.1.1),()),()),((),())) }
theorem XZ (x:au QC.aJ):bo [xx] (λ_=>none) Tryz.f90 QC [.tmp 2] x=Fq x.1.1:=by kernel_rfl
theorem X0 (hr:∀ x:(Int×Unit)×Unit,aD QC.aJ x→(Fq x.1.1).eval=(QC.F x).eval):QC.Ok Tryz.prog:=aO [xx] ⟨nK,trivial⟩ XZ λx hw _ hy=>(hr x hw).trans hy
theorem NC:QC.Ok Tryz.prog:=X0 λ_ _=>rfl
def fU (o a b c:Int):Bool:=
 bif o==1 then cA a&&(dh b (-1000000) 1000000&&(c==0)) else
 bif o==2 then cA a&&(cA b&&cA c) else
 bif o==3 then cA a&&(cA b&&cA c) else
 bif o==4 then cA a&&(cA b&&(c==0)) else
 bif o==5 then cA a&&(cA b&&(c==0)) else
 bif o==6 then dh a 0 40&&((b==0)&&(c==0)) else
 bif o==7 then cA a&&(dh b 0 40&&(c==0)) else
 bif o==8 then dh a 1 20&&((b==0)&&(c==0)) else false
theorem zero_eq (n:Int):((0:Int)==n)=(n==0):=by
 rw [ace];simp only [acy];omega
def sQ (a0:Int) (a1:Int) (a2:Int) (a3:Int):Out (((Bool×Unit)×Unit)×(Unit×Unit)):= .ite ((a0==(1:Int))) (.ite ((cA a1)==true) (.ite ((dh a2 (-1000000:Int) (1000000:Int))==true) (.ret (((((a0==a0)&&((a1==a1)&&((a2==a2)&&(((0:Int)==a3)&&true)))),()),()),((),()))) (.ret (((false,()),()),((),())))) (.ret (((false,()),()),((),())))) (.ite ((a0==(2:Int))) (.ite ((cA a1)==true) (.ite ((cA a2)==true) (.ite ((cA a3)==true) (.ret (((((a0==a0)&&((a1==a1)&&((a2==a2)&&((a3==a3)&&true)))),()),()),((),()))) (.ret (((false,()),()),((),())))) (.ret (((false,()),()),((),())))) (.ret (((false,()),()),((),())))) (.ite ((a0==(3:Int))) (.ite ((cA a1)==true) (.ite ((cA a2)==true) (.ite ((cA a3)==true) (.ret (((((a0==a0)&&((a1==a1)&&((a2==a2)&&((a3==a3)&&true)))),()),()),((),()))) (.ret (((false,()),()),((),())))) (.ret (((false,()),()),((),())))) (.ret (((false,()),()),((),())))) (.ite ((a0==(4:Int))) (.ite ((cA a1)==true) (.ite ((cA a2)==true) (.ret (((((a0==a0)&&((a1==a1)&&((a2==a2)&&(((0:Int)==a3)&&true)))),()),()),((),()))) (.ret (((false,()),()),((),())))) (.ret (((false,()),()),((),())))) (.ite ((a0==(5:Int))) (.ite ((cA a1)==true) (.ite ((cA a2)==true) (.ret (((((a0==a0)&&((a1==a1)&&((a2==a2)&&(((0:Int)==a3)&&true)))),()),()),((),()))) (.ret (((false,()),()),((),())))) (.ret (((false,()),()),((),())))) (.ite ((a0==(6:Int))) (.ite ((dh a1 (0:Int) (40:Int))==true) (.ret (((((a0==a0)&&((a1==a1)&&(((0:Int)==a2)&&(((0:Int)==a3)&&true)))),()),()),((),()))) (.ret (((false,()),()),((),())))) (.ite ((a0==(7:Int))) (.ite ((cA a1)==true) (.ite ((dh a2 (0:Int) (40:Int))==true) (.ret (((((a0==a0)&&((a1==a1)&&((a2==a2)&&(((0:Int)==a3)&&true)))),()),()),((),()))) (.ret (((false,()),()),((),())))) (.ret (((false,()),()),((),())))) (.ite ((a0==(8:Int))) (.ite ((dh a1 (1:Int) (20:Int))==true) (.ret (((((a0==a0)&&((a1==a1)&&(((0:Int)==a2)&&(((0:Int)==a3)&&true)))),()),()),((),()))) (.ret (((false,()),()),((),())))) (.ret (((false,()),()),((),()))))))))))
def UQ:bZ:={ f:=79,lend:=true,aJ:=[⟨false,true,[.i .i64, .i .i64, .i .i64, .i .i64]⟩],lay:=[none],rs:=[⟨false,false,[.b]⟩],F:=λx=> .ret ((((fU x.1.1 x.1.2.1 x.1.2.2.1 x.1.2.2.2.1),()),()),((),())) }
theorem X1 (x:au UQ.aJ):bo [Fp,vu] (λ_=>none) Tryz.f79 UQ [.tmp 2] x=sQ x.1.1 x.1.2.1 x.1.2.2.1 x.1.2.2.2.1:=by kernel_rfl
theorem X2 (hr:∀ x:(Int×Int×Int×Int×Unit)×Unit,aD UQ.aJ x→(sQ x.1.1 x.1.2.1 x.1.2.2.1 x.1.2.2.2.1).eval=(UQ.F x).eval):UQ.Ok Tryz.prog:=aO [Fp,vu] ⟨RQ,jW,trivial⟩ X1 λx hw _ hy=>(hr x hw).trans hy
theorem X3:UQ.Ok Tryz.prog:=by
 refine X2 λx _=> ?_;obtain ⟨⟨o,a,b,c,_⟩,_⟩:=x;show (sQ o a b c).eval=some (((fU o a b c,()),()),((),()));unfold sQ fU;simp only [Out.eval,zero_eq,beq_self_eq_true,acU,afy];cases (o==(1:Int))
 rotate_left
 . cases cA a<;>cases dh b (-1000000) 1000000<;>rfl
 cases (o==(2:Int))
 rotate_left
 . cases cA a<;>cases cA b<;>cases cA c<;>rfl
 cases (o==(3:Int))
 rotate_left
 . cases cA a<;>cases cA b<;>cases cA c<;>rfl
 cases (o==(4:Int))
 rotate_left
 . cases cA a<;>cases cA b<;>rfl
 cases (o==(5:Int))
 rotate_left
 . cases cA a<;>cases cA b<;>rfl
 cases (o==(6:Int))
 rotate_left
 . cases dh a 0 40<;>rfl
 cases (o==(7:Int))
 rotate_left
 . cases cA a<;>cases dh b 0 40<;>rfl
 cases (o==(8:Int))
 . rfl
 . cases dh a 1 20<;>rfl
def sR (a0:Int) (a1:Int) (a2:Int) (a3:Int):Out (((Bool×Unit)×Unit)×(Unit×Unit)):= .ite ((a0==(1:Int))) (.ite ((cA a1)==true) (.ite ((bV a2)==true) (.ret (((((a3==(0:Int))),()),()),((),()))) (.ret (((false,()),()),((),())))) (.ret (((false,()),()),((),())))) (.ite ((a0==(2:Int))) (.ite ((cA a1)==true) (.ite ((cA a2)==true) (.ret ((((cA a3),()),()),((),()))) (.ret (((false,()),()),((),())))) (.ret (((false,()),()),((),())))) (.ite ((a0==(3:Int))) (.ite ((cA a1)==true) (.ite ((cA a2)==true) (.ret ((((cA a3),()),()),((),()))) (.ret (((false,()),()),((),())))) (.ret (((false,()),()),((),())))) (.ite ((a0==(4:Int))) (.ite ((cA a1)==true) (.ite ((cA a2)==true) (.ret (((((a3==(0:Int))),()),()),((),()))) (.ret (((false,()),()),((),())))) (.ret (((false,()),()),((),())))) (.ite ((a0==(5:Int))) (.ite ((cA a1)==true) (.ite ((cA a2)==true) (.ret (((((a3==(0:Int))),()),()),((),()))) (.ret (((false,()),()),((),())))) (.ret (((false,()),()),((),())))) (.ite ((a0==(6:Int))) (.ite ((mw a1)==true) (.ite (((a2==(0:Int)))==true) (.ret (((((a3==(0:Int))),()),()),((),()))) (.ret (((false,()),()),((),())))) (.ret (((false,()),()),((),())))) (.ite ((a0==(7:Int))) (.ite ((cA a1)==true) (.ite ((mw a2)==true) (.ret (((((a3==(0:Int))),()),()),((),()))) (.ret (((false,()),()),((),())))) (.ret (((false,()),()),((),())))) (.ite ((a0==(8:Int))) (.ite ((dh a1 (1:Int) (20:Int))==true) (.ite (((a2==(0:Int)))==true) (.ret (((((a3==(0:Int))),()),()),((),()))) (.ret (((false,()),()),((),())))) (.ret (((false,()),()),((),())))) (.ret (((false,()),()),((),()))))))))))
def UR:bZ:={ f:=62,lend:=true,aJ:=[⟨false,true,[.i .i64, .i .i64, .i .i64, .i .i64]⟩],lay:=[none],rs:=[⟨false,false,[.b]⟩],F:=λx=> .ret ((((fU x.1.1 x.1.2.1 x.1.2.2.1 x.1.2.2.2.1),()),()),((),())) }
theorem X4 (x:au UR.aJ):bo [UP,LR,QC,xx] (λ_=>none) Tryz.f62 UR [.tmp 2] x=sR x.1.1 x.1.2.1 x.1.2.2.1 x.1.2.2.2.1:=by kernel_rfl
theorem X5 (hr:∀ x:(Int×Int×Int×Int×Unit)×Unit,aD UR.aJ x→(sR x.1.1 x.1.2.1 x.1.2.2.1 x.1.2.2.2.1).eval=(UR.F x).eval):UR.Ok Tryz.prog:=aO [UP,LR,QC,xx] ⟨XY,Hy,NC,nK,trivial⟩ X4 λx hw _ hy=>(hr x hw).trans hy
theorem X6:UR.Ok Tryz.prog:=by
 refine X5 λx _=> ?_;obtain ⟨⟨o,a,b,c,_⟩,_⟩:=x;show (sR o a b c).eval=some (((fU o a b c,()),()),((),()));unfold sR fU mw bV;simp only [Out.eval];cases (o==(1:Int))
 rotate_left
 . cases cA a<;>cases dh b (-1000000) 1000000<;>rfl
 cases (o==(2:Int))
 rotate_left
 . cases cA a<;>cases cA b<;>cases cA c<;>rfl
 cases (o==(3:Int))
 rotate_left
 . cases cA a<;>cases cA b<;>cases cA c<;>rfl
 cases (o==(4:Int))
 rotate_left
 . cases cA a<;>cases cA b<;>rfl
 cases (o==(5:Int))
 rotate_left
 . cases cA a<;>cases cA b<;>rfl
 cases (o==(6:Int))
 rotate_left
 . cases dh a 0 40<;>cases (b==(0:Int))<;>rfl
 cases (o==(7:Int))
 rotate_left
 . cases cA a<;>cases dh b 0 40<;>rfl
 cases (o==(8:Int))
 . rfl
 . cases dh a 1 20<;>cases (b==(0:Int))<;>rfl
def Fs (a0:Int) (a1:Int) (a2:Int) (a3:Int):Out (((Bool×Unit)×Unit)×(Unit×Unit)):= .ret ((((!(fU a0 a1 a2 a3)),()),()),((),()))
def xz (o a b c:Int):Bool:= !fU o a b c
def US:bZ:={ f:=61,lend:=true,aJ:=[⟨false,true,[.i .i64, .i .i64, .i .i64, .i .i64]⟩],lay:=[none],rs:=[⟨false,false,[.b]⟩],F:=λx=> .ret ((((xz x.1.1 x.1.2.1 x.1.2.2.1 x.1.2.2.2.1),()),()),((),())) }
theorem X7 (x:au US.aJ):bo [UR] (λ_=>none) Tryz.f61 US [.tmp 2] x=Fs x.1.1 x.1.2.1 x.1.2.2.1 x.1.2.2.2.1:=by kernel_rfl
theorem X8 (hr:∀ x:(Int×Int×Int×Int×Unit)×Unit,aD US.aJ x→(Fs x.1.1 x.1.2.1 x.1.2.2.1 x.1.2.2.2.1).eval=(US.F x).eval):US.Ok Tryz.prog:=aO [UR] ⟨X6,trivial⟩ X7 λx hw _ hy=>(hr x hw).trans hy
theorem X9:US.Ok Tryz.prog:=X8 λ_ _=>rfl
def df (x:az):Bool:=fU x.1 x.2.1 x.2.2.1 x.2.2.2.1
def bH (l:List az):Bool:=decide (l.length≤40)&&l.all df
abbrev ND:=(List ((Int×Int×Int×Int×Unit))×Int×Unit)×(Unit)
def yO:ND→Out (Round ND ((Unit)×(Unit)) ((Bool×Unit)×(Unit)))
|((p0,p1,_),_)=> .ite (decide (p1<((List.length p0:Nat):Int))) (.ite (decide (0≤p1)) (.get (nth p0 (Int.toNat p1)) λy1=> .ite (!(fU y1.1 y1.2.1 y1.2.2.1 y1.2.2.2.1)) (.ret (.ret ((false,()),()))) (.ret (.again ((p0,(IntKind.i64.wrap (p1+(1:Int))),()),())))) .fail) (.ret (.out ((),())))
def sS (a0:List (Int×Int×Int×Int×Unit)):Out (((Bool×Unit)×Unit)×(Unit×Unit)):= .ite (decide (((List.length a0:Nat):Int)>(40:Int))) (.ret (((false,()),()),((),()))) (.get (iter yO bc ((a0,(0:Int),()),())) λy1=> .alt y1 (λ_=> .ret (((true,()),()),((),()))) (λy3=> .ret (((y3.1.1,()),()),((),()))))
def ad5:Nat→Option aq:=λn=>b6 [(0,⟨⟨[.ro dk (some 0), .dead, .dead, .i .i64]++dd 15,[]⟩,⟨dd 19,[]⟩,some ⟨[.dead, .dead, .b]++dd 16,[]⟩,false⟩)] n
def UU:bZ:={ f:=42,lend:=true,aJ:=[⟨false,false,[.ro dk]⟩],lay:=[none],rs:=[⟨false,false,[.b]⟩],F:=λx=> .ret ((((bH x.1.1),()),()),((),())) }
theorem Ya (x:au UU.aJ):bo [UQ] ad5 Tryz.f42 UU [.tmp 2] x=sS x.1.1:=by kernel_rfl
theorem Yb (hr:∀ x:(List (Int×Int×Int×Int×Unit)×Unit)×Unit,aD UU.aJ x→(sS x.1.1).eval=(UU.F x).eval):UU.Ok Tryz.prog:=aO [UQ] ⟨X3,trivial⟩ Ya λx hw _ hy=>(hr x hw).trans hy
theorem Yc:UU.Ok Tryz.prog:=by
 refine Yb λx hw=> ?_;obtain ⟨⟨a,_⟩,_⟩:=x;have ha:a.length≤aM:=hw.1.1.1;show (sS a).eval=some (((bH a,()),()),((),()));unfold sS bH;have e2:decide (((a.length:Nat):Int)>(40:Int))= !decide (a.length≤40):=lY (m:=40);rw [e2];by_cases h1:a.length≤40
 . rw [ae (by simp [h1]),aaE h1,acU]
   have:=Fj (f:=yO) a df (λi=>((a,(((i:Nat):Int),())),())) (y:=((),())) (z:=((false,()),()))
    (λi hi hp=>by
     have g1:=aw (i:=i) (by omega);have hp:fU a[i].1 a[i].2.1 a[i].2.2.1 a[i].2.2.2.1=true:=hp;simp [yO,Out.eval,hi,g1,hp])
    (λi hi hp=>by
     have hp:fU a[i].1 a[i].2.1 a[i].2.2.1 a[i].2.2.2.1=false:=hp;simp [yO,Out.eval,hi,hp])
    (by simp [yO,Out.eval]) ha
   refine (aa this).trans ?_;cases a.all df<;>rfl
 . rw [ab (by simp [h1]),aa1 h1];rfl
abbrev NF:=(List ((Int×Int×Int×Int×Unit))×Int×Int×Unit)×(Unit)
def yP:NF→Out (Round NF ((Unit)×(Unit)) ((Int×Unit)×(Unit)))
|((p0,p1,p2,_),_)=> .ite (decide (p2<p1)) (.ite (decide (0≤p2)) (.get (nth p0 (Int.toNat p2)) λy1=> .ite (xz y1.1 y1.2.1 y1.2.2.1 y1.2.2.2.1) (.ret (.ret ((p2,()),()))) (.ret (.again ((p0,p1,(IntKind.i64.wrap (p2+(1:Int))),()),())))) .fail) (.ret (.out ((),())))
def sT (a0:List (Int×Int×Int×Int×Unit)):Out (((Int×Unit)×Unit)×(Unit×Unit)):= .get (iter yP bc ((a0,((List.length a0:Nat):Int),(0:Int),()),())) λy1=> .alt y1 (λ_=> .ret ((((-1:Int),()),()),((),()))) (λy3=> .ret (((y3.1.1,()),()),((),())))
def ad6:Nat→Option aq:=λn=>b6 [(0,⟨⟨[.ro dk (some 0), .fn 61 []]++dd 5++[.i .i64, .i .i64]++dd 10,[]⟩,⟨dd 19,[]⟩,some ⟨dd 4++[.i .i64]++dd 14,[]⟩,false⟩)] n
def mS (a:List az):Int:=sv (a.findIdx? λx=> !df x)
def UW:bZ:={ f:=88,lend:=true,aJ:=[⟨false,false,[.ro dk]⟩],lay:=[none,some (61,0)],rs:=[⟨false,false,[.i .i64]⟩],F:=λx=> .ret ((((mS x.1.1),()),()),((),())) }
theorem Yd (x:au UW.aJ):bo [US] ad6 Tryz.f88 UW [.tmp 4] x=sT x.1.1:=by kernel_rfl
theorem Ye (hr:∀ x:(List (Int×Int×Int×Int×Unit)×Unit)×Unit,aD UW.aJ x→(sT x.1.1).eval=(UW.F x).eval):UW.Ok Tryz.prog:=aO [US] ⟨X9,trivial⟩ Yd λx hw _ hy=>(hr x hw).trans hy
theorem Yf:UW.Ok Tryz.prog:=by
 refine Ye λx hw=> ?_;obtain ⟨⟨a,_⟩,_⟩:=x;have ha:a.length≤aM:=hw.1.1.1;show (sT a).eval=some (((mS a,()),()),((),()));unfold sT mS;have:=dY (f:=yP) a (λx:az=> !df x) (λi=>((a,(((a.length:Nat):Int),(((i:Nat):Int),()))),())) (y:=((),())) (z:=λi=>((((i:Nat):Int),()),()))
  (λi hi hp=>by
   have g1:=aw (i:=i) (by omega);have hp:xz a[i].1 a[i].2.1 a[i].2.2.1 a[i].2.2.2.1=false:=hp;simp [yP,Out.eval,hi,g1,hp])
  (λi hi hp=>by
   have hp:xz a[i].1 a[i].2.1 a[i].2.2.1 a[i].2.2.2.1=true:=hp;simp [yP,Out.eval,hi,hp])
  (by simp [yP,Out.eval]) ha
 refine (aa this).trans ?_;cases a.findIdx? (λx:az=> !df x)<;>rfl
def sU (a0:List (Int×Int×Int×Int×Unit)):Out (((Bool×Unit)×Unit)×(Unit×Unit)):= .ret ((((decide ((mS a0)≥(0:Int))),()),()),((),()))
def sV (a:List az):Bool:=a.any λx=> !df x
def UX:bZ:={ f:=60,lend:=true,aJ:=[⟨false,false,[.ro dk]⟩],lay:=[none,some (61,0)],rs:=[⟨false,false,[.b]⟩],F:=λx=> .ret ((((sV x.1.1),()),()),((),())) }
theorem Yg (x:au UX.aJ):bo [UW] (λ_=>none) Tryz.f60 UX [.tmp 4] x=sU x.1.1:=by kernel_rfl
theorem Yh (hr:∀ x:(List (Int×Int×Int×Int×Unit)×Unit)×Unit,aD UX.aJ x→(sU x.1.1).eval=(UX.F x).eval):UX.Ok Tryz.prog:=aO [UW] ⟨Yf,trivial⟩ Yg λx hw _ hy=>(hr x hw).trans hy
theorem Yi:UX.Ok Tryz.prog:=by
 refine Yh λx _=> ?_;obtain ⟨⟨a,_⟩,_⟩:=x;show (sU a).eval=some (((sV a,()),()),((),()));unfold sU sV mS;rw [j4];rfl
def sW (a0:List (Int×Int×Int×Int×Unit)):Out (((Bool×Unit)×Unit)×(Unit×Unit)):= .ite ((decide (((List.length a0:Nat):Int)≤(40:Int)))==true) (.ret ((((!(sV a0)),()),()),((),()))) (.ret (((false,()),()),((),())))
def UY:bZ:={ f:=34,lend:=true,aJ:=[⟨false,false,[.ro dk]⟩],lay:=[none],rs:=[⟨false,false,[.b]⟩],F:=λx=> .ret ((((bH x.1.1),()),()),((),())) }
theorem Yj (x:au UY.aJ):bo [UX] (λ_=>none) Tryz.f34 UY [.tmp 2] x=sW x.1.1:=by kernel_rfl
theorem Yk (hr:∀ x:(List (Int×Int×Int×Int×Unit)×Unit)×Unit,aD UY.aJ x→(sW x.1.1).eval=(UY.F x).eval):UY.Ok Tryz.prog:=aO [UX] ⟨Yi,trivial⟩ Yj λx hw _ hy=>(hr x hw).trans hy
theorem Yl:UY.Ok Tryz.prog:=by
 refine Yk λx _=> ?_;obtain ⟨⟨a,_⟩,_⟩:=x;show (sW a).eval=some (((bH a,()),()),((),()));unfold sW bH;have e2:decide (((a.length:Nat):Int)≤(40:Int))=decide (a.length≤40):=Dn (m:=40);have e4:a.all df= !sV a:=(I1 a _).symm;rw [e2,e4];by_cases h1:a.length≤40<;>simp [Out.eval,h1]
theorem jy {x:Int} (h0: -9223372036854775808≤x) (h1:x≤9223372036854775807):IntKind.i64.wrap x=x:=by
 rw [IntKind.wrap_i64];omega
section
variable {α δ σ β γ:Type}
theorem Ft {f:σ→Out (Round σ β γ)} (a:List α) (p:α→Bool) (S:Nat→σ) {y:β} {z:γ} (hs:∀ i (hi:i<a.length),(f (S i)).eval=some (if p a[i]=true then .ret z else .again (S (i+1))))
  (hy:(f (S a.length)).eval=some (.out y)) (ha:a.length≤aM):iter f bc (S 0)=some (if a.any p=true then .inr z else .inl y):=by
 have key:∀ (m i n:Nat),i+m=a.length→m<n→iter f n (S i)=some (if (a.drop i).any p=true then .inr z else .inl y):=by
  intro m
  induction m with
  |zero=>
   intro i n hi hn;obtain rfl:i=a.length:=by omega
   rw [kT hy hn,List.drop_length];rfl
  |succ m ih=>
   intro i n hi hn;have bS:i<a.length:=by omega
   have hq:=hs i bS;rw [acr bS,List.any_cons];cases q:p a[i] with
   |true=>rw [q,aa5 rfl] at hq;rw [mK hq (by omega)];simp
   |false=>
    rw [q,aa3 (by decide)] at hq;obtain ⟨n,rfl⟩:∃ n',n=n'+1:=⟨n - 1,by omega⟩
    rw [jT hq,ih (i+1) n (by omega) (by omega)];simp
 simpa using key a.length 0 bc (by omega) (jx ha)
end
abbrev ag:=Int×(List Int×Unit)
abbrev af:=Int×(Int×(Int×(Int×(ag×(List Int×(List Int×(Int×(Int×Unit))))))))
abbrev aj:=Int×(Int×(Int×(Int×(Int×Unit))))
abbrev bw:=Int×(Int×(List (List az)×(List af×(List aj×(List ag×(List ag×(List Int×(List Int×Unit))))))))
section
open Go Go.ChangeShapes Go.WideShapes Go.ChangeAt Go.RowKit
end
section
open Go Go.ChangeShapes Go.WideShapes Go.ChangeAt Go.RowKit
end
end Go.Proofs.YtnlleofnjkeimaaGreatDoor.Dm
