/- f -/
import Derived.Test.YtkmhgofibfmjfaaGreatBase
namespace Go.Proofs.YtkmhgofibfmjfaaGreat.Dm
open Go Go.ChangeShapes Go.WideShapes Go.ChangeAt Go.RowKit
abbrev bs:=List UInt8
theorem all_eq {α:Type} [DecidableEq α] (a b:List α) (hl:a.length=b.length):(List.range a.length).all (λi=>decide (a[i]? =b[i]?))=decide (a=b):=by
 rw [aeA,adG,ae4];constructor
 . intro h
   apply ae8;intro i;by_cases hi:i<a.length
   . exact adR (h i (List.mem_range.2 hi))
   . rw [afA (by omega),afA (by omega)]
 . rintro rfl
   intro i _;exact aac rfl
variable {a b:Nat}
theorem Nu (h:a≠b):(((a:Nat):Int) != ((b:Nat):Int))=true:=by
 simp only [bne_iff_ne,ne_eq];omega
theorem Nt (h:a=b):(((a:Nat):Int) != ((b:Nat):Int))=false:=by
 subst h;simp
variable {i n:Nat}
theorem iZ (h:i<n):decide (((i:Nat):Int)<((n:Nat):Int))=true:=aac
theorem pQ (i:Nat):decide (0≤((i:Nat):Int))=true:=aac
theorem It {α:Type} [DecidableEq α] {σ β γ:Type} {f:σ→Out (Round σ β γ)} (a b:List α) (s:Nat→σ) {y:β} {z:γ} (hl:a.length=b.length) (ha:a.length≤cj)
  (hy:∀ i (hi:i<a.length) (dh:i<b.length),a[i]=b[i]→(f (s i)).eval=some (.again (s (i+1)))) (hn:∀ i (hi:i<a.length) (dh:i<b.length),a[i]≠b[i]→(f (s i)).eval=some (.ret z))
  (he:(f (s a.length)).eval=some (.out y)):iter f aI (s 0)=some (if a=b then .inl y else .inr z):=by
 have:=Gt s (λi=>decide (a[i]? =b[i]?)) a.length (ij ha) (λi hi hp=>by
  have he:=adR hp;rw [aa7 hi,aa7 (by omega)] at he;exact hy i hi (by omega) (ac2 he)) (λi hi hp=>by
  have he:=akZ hp;rw [aa7 hi,aa7 (by omega)] at he;exact hn i hi (by omega) λe=>he (by rw [e])) he
 rw [this,all_eq a b hl];by_cases h:a=b
 . simp only [aac h,agm,aaZ h]
 . simp only [adD h,aae h];rfl
def lim {α β:Type} (l:List α) (x:β):Option β:=if l.length≤bn then some x else none
theorem jj {α β:Type} {l:List α} {x:β} (h:l.length≤bn):lim l x=some x:=aaZ h
theorem wz {α β:Type} {l:List α} {x:β} (h:¬ l.length≤bn):lim l x=none:=aae h
def fN (a b:List Int):Bool:=decide (a=b)
abbrev Ph:=(List (Int)×List (Int)×Int×Int×Unit)×(Unit)
def wW:Ph→Out (Round Ph ((Unit)×(Unit)) ((Bool×Unit)×(Unit)))
|((p0,p1,p2,p3,_),_)=> .ite (decide (p3<p2)) (.ite (decide (0≤p3)) (.get (nth p0 (Int.toNat p3)) λy1=> .ite (decide (0≤p3)) (.get (nth p1 (Int.toNat p3)) λy2=> .ite ((y1 != y2)) (.ret (.ret ((false,()),()))) (.ret (.again ((p0,p1,p2,(abs (p3+(1:Int))),()),())))) .fail) .fail) (.ret (.out ((),())))
def tq (a0 a1:List Int):Out (((Bool×Unit)×Unit)×XI):= .ite ((((List.length a0:Nat):Int) != ((List.length a1:Nat):Int))) (.ret (((false,()),()),((),(),()))) (.get (iter wW aI ((a0,a1,((List.length a0:Nat):Int),(0:Int),()),())) λy1=> .alt y1 (λ_=> .ret (((true,()),()),((),(),()))) (λy3=> .ret (((y3.1.1,()),()),((),(),()))))
def ah1:Nat→Option au:=λn=>bw [(0,⟨⟨[.ro (.int .i64) (some 0), .ro (.int .i64) (some 1)]++dd 10++[.i .i64, .i .i64]++dd 12,[]⟩,⟨dd 26,[]⟩,some ⟨dd 4++[.b]++dd 21,[]⟩,false⟩)] n
def KR:bK:={ f:=113,lend:=true,aF:=[ww,ww],lay:=[none,none],rs:=[wn],F:=λx=> .ret ((((fN x.1.1 x.2.1.1),()),()),((),(),())) }
theorem aam (x:aw KR.aF):bo [] ah1 Tryz.f113 KR [.tmp 4] x=tq x.1.1 x.2.1.1:=by kernel_rfl
theorem aan (hr:∀ x:(List Int×Unit)×(List Int×Unit)×Unit,aB KR.aF x→(tq x.1.1 x.2.1.1).eval=(KR.F x).eval):KR.Ok acl:=aD [] trivial aam λx hw _ hy=>(hr x hw).trans hy
theorem aao:KR.Ok acl:=by
 refine aan λx hw=> ?_;obtain ⟨⟨a,_⟩,⟨b,_⟩,_⟩:=x;have ha:a.length≤cj:=hw.1.1.1;show (tq a b).eval=some (((fN a b,()),()),((),((),())));unfold tq;by_cases hl:a.length=b.length
 . rw [ae (Nt hl)]
   have:=It (f:=wW) a b (λi=>((a,(b,(((a.length:Nat):Int),(((i:Nat):Int),())))),())) (y:=((),())) (z:=((false,()),())) hl ha
    (λi hi dh he=>by
     have:=aq (i:=i) (by omega);simp [wW,Out.eval,hi,dh,he,this])
    (λi hi dh he=>by simp [wW,Out.eval,hi,dh,he,cond_eq_ite])
    (by simp [wW,Out.eval])
   refine (aa this).trans ?_;unfold fN;by_cases JG:a=b
   . simp only [aaZ JG,aac JG];rfl
   . simp only [aae JG,adD JG];rfl
 . rw [ab (Nu hl)]
   have:fN a b=false:=adD λe=>hl (by rw [e]);rw [this];rfl
section
variable {α σ β γ:Type} {f:σ→Out (Round σ β γ)}
theorem ei (a:List α) (p:α→Bool) (S:Nat→σ) {y:β} {z:Nat→γ} (hs:∀ i (hi:i<a.length),p a[i]=false→(f (S i)).eval=some (.again (S (i+1))))
  (hz:∀ i (hi:i<a.length),p a[i]=true→(f (S i)).eval=some (.ret (z i))) (hy:(f (S a.length)).eval=some (.out y)) (ha:a.length≤cj):
  iter f aI (S 0)=some (match a.findIdx? p with|some i=> .inr (z i)|none=> .inl y):=by
 cases h:a.findIdx? p with
 |none=>
  rw [agq] at h;exact ml S a.length (ij ha) (λi hi=>hs i hi (h _ (ad9 hi))) hy
 |some i=>
  rw [afe] at h;obtain ⟨hi,hp,aap⟩:=h;exact KS S i (afb (by omega) (ij ha)) (λj hj=>hs j (by omega) (by simpa using aap j hj)) (hz i hi hp)
theorem KT (a:List α) (p:α→Bool) (S:Nat→σ) {y:β} {z:γ} (hs:∀ i (hi:i<a.length),p a[i]=true→(f (S i)).eval=some (.again (S (i+1))))
  (hz:∀ i (hi:i<a.length),p a[i]=false→(f (S i)).eval=some (.ret z)) (hy:(f (S a.length)).eval=some (.out y)) (ha:a.length≤cj):
  iter f aI (S 0)=some (if a.all p=true then .inl y else .inr z):=by
 rw [ei (f:=f) a (λx=> !p x) S (y:=y) (z:=λ_=>z) (λi hi hp=>hs i hi (by simpa using hp)) (λi hi hp=>hz i hi (by simpa using hp)) hy ha];cases h:a.findIdx? (λx=> !p x) with
 |none=>
  rw [agq] at h;rw [aaZ (adG.2 λx hx=>by simpa using h x hx)]
 |some i=>
  rw [afe] at h;obtain ⟨hi,hp,_⟩:=h;rw [aae (λq=>by have:=adG.1 q _ (ad9 hi);rw [this] at hp;exact absurd hp (by decide))]
end
variable {m:Nat}
theorem Ix:decide (((n:Nat):Int)≤((m:Nat):Int))=decide (n≤m):=by
 rw [aeA];simp
theorem aaq:(((n:Nat):Int) != ((m:Nat):Int))= !decide (n=m):=by
 rw [aeA];simp;omega
theorem oc:decide (((n:Nat):Int)>((m:Nat):Int))= !decide (n≤m):=by
 rw [aeA];simp
def wX (a0 a1 a2:Int):Out (((Bool×Unit)×Unit)×(Unit×XI)):= .ite ((decide (a0≥a1))==true) (.ret ((((decide (a0≤a2)),()),()),((),(),(),()))) (.ret (((false,()),()),((),(),(),())))
def dL (x a b:Int):Bool:=decide (a≤x)&&decide (x≤b)
def As:bK:={ f:=56,lend:=true,aF:=[wl,wl,wl],lay:=[none,none,none],rs:=[wn],F:=λx=> .ret ((((dL x.1.1 x.2.1.1 x.2.2.1.1),()),()),((),(),(),())) }
theorem ah2 (x:aw As.aF):bo [] (λ_=>none) Tryz.f56 As [.tmp 6] x=wX x.1.1 x.2.1.1 x.2.2.1.1:=by kernel_rfl
theorem ah3 (hr:∀ x:(Int×Unit)×(Int×Unit)×(Int×Unit)×Unit,aB As.aF x→(wX x.1.1 x.2.1.1 x.2.2.1.1).eval=(As.F x).eval):As.Ok acl:=aD [] trivial ah2 λx hw _ hy=>(hr x hw).trans hy
theorem oJ:As.Ok acl:=by
 refine ah3 λx _=> ?_;obtain ⟨⟨x,_⟩,⟨a,_⟩,⟨b,_⟩,_⟩:=x;show (wX x a b).eval=some (((dL x a b,()),()),((),((),((),()))));unfold wX dL;by_cases h1:a≤x<;>simp [Out.eval,h1]
def wY (a0 a1 a2:Int):Out (((Bool×Unit)×Unit)×(Unit×XI)):= .ite ((decide (a0≥a1))==true) (.ret ((((decide (a0≤a2)),()),()),((),(),(),()))) (.ret (((false,()),()),((),(),(),())))
def wZ:bK:={ f:=24,lend:=true,aF:=[wl,wl,wl],lay:=[none,none,none],rs:=[wn],F:=λx=> .ret ((((dL x.1.1 x.2.1.1 x.2.2.1.1),()),()),((),(),(),())) }
theorem ah4 (x:aw wZ.aF):bo [] (λ_=>none) Tryz.f24 wZ [.tmp 6] x=wY x.1.1 x.2.1.1 x.2.2.1.1:=by kernel_rfl
theorem ah5 (hr:∀ x:(Int×Unit)×(Int×Unit)×(Int×Unit)×Unit,aB wZ.aF x→(wY x.1.1 x.2.1.1 x.2.2.1.1).eval=(wZ.F x).eval):wZ.Ok acl:=aD [] trivial ah4 λx hw _ hy=>(hr x hw).trans hy
theorem kW:wZ.Ok acl:=by
 refine ah5 λx _=> ?_;obtain ⟨⟨x,_⟩,⟨a,_⟩,⟨b,_⟩,_⟩:=x;show (wY x a b).eval=some (((dL x a b,()),()),((),((),((),()))));unfold wY dL;by_cases h1:a≤x<;>simp [Out.eval,h1]
def vS:Option Nat→Int
 |some i=>((i:Nat):Int)
 |none=> -1
theorem lQ {α:Type} (a:List α) (p:α→Bool):decide (vS (a.findIdx? p)≥0)=a.any p:=by
 cases h:a.findIdx? p with
 |none=>
  rw [agq] at h;have:a.any p=false:=by rw [List.any_eq_false];intro x hx;simp [h x hx]
  rw [this];rfl
 |some i=>
  rw [afe] at h;obtain ⟨hi,hp,_⟩:=h;have:a.any p=true:=List.any_eq_true.2 ⟨a[i],ad9 hi,hp⟩;rw [this];exact aac (by show ((i:Nat):Int)≥0;omega)
theorem Pj {α:Type} (a:List α) (p:α→Bool):(!a.any λx=> !p x)=a.all p:=by
 rw [aeA];simp
theorem tp (a:Nat):BitVec.ofInt 64 ((a:Nat):Int)=BitVec.ofNat 64 a:=by simp
theorem ng (h:a≤cj):abs ((a:Nat):Int)=((a:Nat):Int):=by
 unfold cj at h;grind [bt]
theorem Pk (ha:a≤cj) (hb:b≤cj):abs (((BitVec.ofInt (IntKind.bits .i64) ((a:Nat):Int) &&& BitVec.ofInt (IntKind.bits .i64) ((b:Nat):Int)).toNat:Nat):Int)=((a &&& b:Nat):Int):=by
 show abs (((BitVec.ofInt 64 ((a:Nat):Int) &&& BitVec.ofInt 64 ((b:Nat):Int)).toNat:Nat):Int)=((a &&& b:Nat):Int)
 grind [tp,BitVec.toNat_and,BitVec.toNat_ofNat,Nat.mod_eq_of_lt,Nat.lt_of_le_of_lt,ng,Nat.le_trans,Nat.and_le_left]
theorem U6 (ha:a≤cj) (hb:b≤cj):abs (((BitVec.ofInt (IntKind.bits .i64) ((a:Nat):Int) ||| BitVec.ofInt (IntKind.bits .i64) ((b:Nat):Int)).toNat:Nat):Int)=((a ||| b:Nat):Int):=by
 show abs (((BitVec.ofInt 64 ((a:Nat):Int) ||| BitVec.ofInt 64 ((b:Nat):Int)).toNat:Nat):Int)=((a ||| b:Nat):Int)
 rw [tp,tp,BitVec.toNat_or,BitVec.toNat_ofNat,BitVec.toNat_ofNat,alC (afb ha (by decide)),alC (afb hb (by decide))];have:(a ||| b)<2 ^ 63:=Nat.or_lt_two_pow (by grind) (by grind);exact ng (by grind)
theorem ah6 (a b:Nat):Int.tmod ((a:Nat):Int) ((b:Nat):Int)=((a % b:Nat):Int):=(by grind)
theorem ah7 (a b:Nat):Int.tdiv ((a:Nat):Int) ((b:Nat):Int)=((a / b:Nat):Int):=(by grind)
theorem ah8 (a b:Nat):Int.fdiv ((a:Nat):Int) ((b:Nat):Int)=((a / b:Nat):Int):=by grind
theorem ah9 (a:Nat):IntKind.u8.wrap ((a:Nat):Int)=(((UInt8.ofNat a).toNat:Nat):Int):=by
 rw [IntKind.wrap_u8,UInt8.toNat_ofNat'];omega
theorem aar (b:UInt8):UInt8.ofNat (Int.toNat ((b.toNat:Nat):Int))=b:=by simp
theorem U7 (l:bs):(l.map λb=>((b.toNat:Nat):Int)).map (λn:Int=>UInt8.ofNat n.toNat)=l:=by
 simp_all [afp,akU]
theorem ie {α β:Type} {f:α→Out (Round α β Empty)} {x x':α} (h:(f x).eval=some (.again x')):aP f (n+1) x=aP f n x':=by grind [aP,je]
theorem gF {α β:Type} {f:α→Out (Round α β Empty)} {x:α} {y:β} (h:(f x).eval=some (.out y)) (hn:0<n):aP f n x=some y:=by simp_all [aP,jx]
theorem foldl_loop {α β σ δ:Type} {f:σ→Out (Round σ β Empty)} (P:δ→Nat→Prop) (g:δ→α→δ) (a:List α) (S:δ→Nat→σ) (y:δ→β)
  (hs:∀ i (hi:i<a.length) l,P l i→(f (S l i)).eval=some (.again (S (g l a[i]) (i+1)))) (hy:∀ l,P l a.length→(f (S l a.length)).eval=some (.out (y l)))
  (hP:∀ i (hi:i<a.length) l,P l i→P (g l a[i]) (i+1)) (ha:a.length≤cj) (l:δ) (hl:P l 0):aP f aI (S l 0)=some (y (a.foldl g l)):=by
 have step:∀ i (hi:i<a.length),(a.take (i+1)).foldl g l=g ((a.take i).foldl g l) a[i]:=by grind [List.take_succ_eq_append_getElem]
 have inv:∀ i,i≤a.length→P ((a.take i).foldl g l) i:=by
  intro i
  induction i with
  |zero=>grind
  |succ i ih=>grind
 have h:=Gu (f:=f) (λi=>S ((a.take i).foldl g l) i) a.length (y:=y (a.foldl g l)) (ij ha)
  (by grind)
  (by
   grind)
 simpa using h
theorem di {α β σ γ:Type} {f:σ→Out (Round σ β Empty)} (h:α→List γ) (a:List α) (S:List γ→Nat→σ) (y:List γ→β) (m:Nat)
  (hs:∀ i (hi:i<a.length) s,s.length+(h a[i]).length≤m→(f (S s i)).eval=some (.again (S (s++h a[i]) (i+1)))) (hy:∀ s,(f (S s a.length)).eval=some (.out (y s)))
  (ha:a.length≤cj) (s:List γ) (hl:s.length+(a.flatMap h).length≤m):aP f aI (S s 0)=some (y (s++a.flatMap h)):=by
 have hd:∀ i (hi:i<a.length),(a.drop i).flatMap h=h a[i]++(a.drop (i+1)).flatMap h:=by grind [List.drop_eq_getElem_cons]
 have:=foldl_loop (f:=f) (λs i=>s.length+((a.drop i).flatMap h).length≤m) (λs x=>s++h x) a S y
  (by grind) (λs _=>hy s)
  (by grind) ha s (by simpa using hl)
 rw [this];congr 2;clear this hl hd hs hy ha
 induction a generalizing s with
 |nil=>simp
 |cons x r ih=>grind
def iE (n:Nat):bs:=if n<128 then [UInt8.ofNat n] else UInt8.ofNat (128+n % 128)::iE (n / 128)
termination_by n
decreasing_by omega
theorem od (h:n<128):iE n=[UInt8.ofNat n]:=by rw [iE,aaZ h]
theorem tr (h:¬ n<128):iE n=UInt8.ofNat (128+n % 128)::iE (n / 128):=by rw [iE,aae h]
theorem KU:∀ {k n:Nat},n<128 ^ (k+1)→(iE n).length≤k+1
 |0,n,h=>by grind [od]
 |k+1,n,h=>by
  by_cases hn:n<128
  . grind [od]
  . rw [tr hn]
    have:=KU (k:=k) (n:=n / 128) (by grind);grind
theorem mQ (h:n<562949953421312):(iE n).length≤7:=KU (k:=6) h
def ay (n:Int):bs:=if dL n 0 562949953421311=true then iE n.toNat else []
theorem bQ (n:Int):(ay n).length≤7:=by
 grind [ay,dL,mQ]
theorem Df {f:((Int)×Unit)×((List Int)×Unit)→Out (Round (((Int)×Unit)×((List Int)×Unit)) (((Int)×Unit)×((List Int)×Unit)) Empty)}
  (h1:∀ (n:Nat) (l:List Int),128≤n→n<562949953421312→l.length≤7→(f ((((n:Nat):Int),()),(l,()))).eval=some (.again ((((n / 128:Nat):Int),()),(l++[(((UInt8.ofNat (128+n % 128)).toNat:Nat):Int)],()))))
  (h2:∀ (n:Nat) (l:List Int),n<128→(f ((((n:Nat):Int),()),(l,()))).eval=some (.out ((((n:Nat):Int),()),(l,())))):
  ∀ (k n:Nat) (l:List Int),n<k→n<562949953421312→l.length+(iE n).length≤7→
    ∃ (l':List Int) (m:Nat),aP f k ((((n:Nat):Int),()),(l,()))=some ((((m:Nat):Int),()),(l',()))∧l'++[(((UInt8.ofNat m).toNat:Nat):Int)]=l++(iE n).map λb=>((b.toNat:Nat):Int)
 |0,n,l,hk,_,_=>by grind
 |k+1,n,l,hk,hm,hl=>by
  by_cases hn:n<128
  . exact ⟨l,n,by grind [gF],by grind [od]⟩
  . rw [tr hn] at hl ⊢
    simp only [aay] at hl;obtain ⟨l',m,e1,e2⟩:=Df h1 h2 k (n / 128) (l++[(((UInt8.ofNat (128+n % 128)).toNat:Nat):Int)]) (by omega) (by omega) (by simp;omega);grind [ie]
theorem Pl {l':List Int} (e:l'++[(((UInt8.ofNat m).toNat:Nat):Int)]=[]++(iE n).map λb=>((b.toNat:Nat):Int)):(l'++[IntKind.u8.wrap ((m:Nat):Int)]).map (λn:Int=>UInt8.ofNat n.toNat)=iE n:=by
 rw [ah9,e,ad0,U7]
theorem jQ:bn=68719476736:=rfl
abbrev Pm:=(Int×Unit)×(List (Int)×Unit)
def Bv:Pm→Out (Round Pm to Empty)
|((p0,_),p1,_)=> .ite (decide (p0≥(128:Int))) (.ite ((128:Int)==0) .fail (.ite (decide (List.length p1+List.length ([(IntKind.u8.wrap (abs ((128:Int)+(Int.tmod p0 (128:Int)))))]:List (Int))≤bn)) (.ite ((128:Int)==0) .fail (.ret (.again (((abs (Int.tdiv p0 (128:Int))),()),((p1++([(IntKind.u8.wrap (abs ((128:Int)+(Int.tmod p0 (128:Int)))))]:List (Int))),()))))) .fail)) (.ret (.out ((p0,()),(p1,()))))
def tt (a0:Int):Out gc:= .ite (!(dL a0 (0:Int) (562949953421311:Int))) (.ret (((([]:List UInt8),()),()),((),()))) (.get (aP Bv aI ((a0,()),(([]:List (Int)),()))) λy1=> .ite (decide (List.length y1.2.1+List.length ([(IntKind.u8.wrap y1.1.1)]:List (Int))≤bn)) (.ret ((((List.map (λn:Int=>UInt8.ofNat n.toNat) (y1.2.1++([(IntKind.u8.wrap y1.1.1)]:List (Int)))),()),()),((),()))) .fail)
abbrev Bw:List (Nat×dT):=[(act, .arr (.int .u8))]
def aia:Nat→Option au:=λn=>bw [(0,⟨⟨[.i .i64, .dead, .dead, .aR act]++dd 21,Bw⟩,⟨[.i .i64, .dead, .dead, .aR act]++dd 21,Bw⟩,none,false⟩)] n
def rq:bK:={ f:=119,lend:=true,aF:=[wl],lay:=[none],rs:=[wr],F:=λx=> .ret ((((ay x.1.1),()),()),((),())) }
theorem aas (x:aw rq.aF):bo [wZ] aia Tryz.f119 rq [.tmp 2] x=tt x.1.1:=by kernel_rfl
theorem aat (hr:∀ x:(Int×Unit)×Unit,aB rq.aF x→(tt x.1.1).eval=(rq.F x).eval):rq.Ok acl:=aD [wZ] ⟨kW,trivial⟩ aas λx hw _ hy=>(hr x hw).trans hy
theorem s9:rq.Ok acl:=by
 refine aat λx _=> ?_;obtain ⟨⟨n,_⟩,_⟩:=x;show (tt n).eval=some (((ay n,()),()),((),()));unfold tt ay;by_cases h:dL n 0 562949953421311=true
 . rw [ae (by simp [h]),aaZ h]
   have hb:0≤n∧n≤562949953421311:=by grind [dL]
   obtain ⟨n,rfl⟩:=aft hb.1;have hn:n<562949953421312:=by omega
   obtain ⟨l',m,e1,e2⟩:=Df (f:=Bv) (λn l h1 h2 h3=>by
     have w1:abs (Int.tdiv ((n:Nat):Int) (128:Int))=((n / 128:Nat):Int):=(congrArg _ (ah7 n 128)).trans (ng (by grind));have w2:IntKind.u8.wrap (abs ((128:Int)+(Int.tmod ((n:Nat):Int) (128:Int))))=(((UInt8.ofNat (128+n % 128)).toNat:Nat):Int):=by
      have:(128:Int)+(Int.tmod ((n:Nat):Int) (128:Int))=((128+n % 128:Nat):Int):=by grind
      rw [this,ng (by grind),ah9]
     have w3:decide (((n:Nat):Int)≥(128:Int))=true:=by grind
     have w4:decide (List.length l+1≤bn)=true:=by grind
     simp_all [Bv,Out.eval])
    (by grind [decide_eq_false,Bv,Out.eval]) aI n [] (by grind) hn (by grind [mQ])
   have hl:l'.length+1≤7:=by
    have:=congrArg List.length e2;grind [mQ]
   refine (aa e1).trans ?_;rw [ab (aac (by rw [jQ];simp;omega))];simp only [Out.eval,Pl e2];rfl
 . rw [ab (by simp [h]),aae h];rfl
abbrev U8:=(Int×Unit)×(List (Int)×Unit)
def Iy:U8→Out (Round U8 to Empty)
|((p0,_),p1,_)=> .ite (decide (p0>(127:Int))) (.ite (decide (List.length p1+List.length ([(IntKind.u8.wrap (abs (((BitVec.ofInt (IntKind.bits IntKind.i64) (abs (((BitVec.ofInt (IntKind.bits IntKind.i64) p0 &&& BitVec.ofInt (IntKind.bits IntKind.i64) (127:Int)).toNat:Int))) ||| BitVec.ofInt (IntKind.bits IntKind.i64) (128:Int)).toNat:Int))))]:List (Int))≤bn)) (.ite (decide ((7:Int)<0)) .fail (.ret (.again (((Int.fdiv p0 (2 ^ (min (Int.toNat (7:Int)) (IntKind.bits IntKind.i64)))),()),((p1++([(IntKind.u8.wrap (abs (((BitVec.ofInt (IntKind.bits IntKind.i64) (abs (((BitVec.ofInt (IntKind.bits IntKind.i64) p0 &&& BitVec.ofInt (IntKind.bits IntKind.i64) (127:Int)).toNat:Int))) ||| BitVec.ofInt (IntKind.bits IntKind.i64) (128:Int)).toNat:Int))))]:List (Int))),()))))) .fail) (.ret (.out ((p0,()),(p1,()))))
def w9 (a0:Int):Out gc:= .ite (!(dL a0 (0:Int) (562949953421311:Int))) (.ret (((([]:List UInt8),()),()),((),()))) (.get (aP Iy aI ((a0,()),(([]:List (Int)),()))) λy1=> .ite (decide (List.length y1.2.1+List.length ([(IntKind.u8.wrap y1.1.1)]:List (Int))≤bn)) (.ret ((((List.map (λn:Int=>UInt8.ofNat n.toNat) (y1.2.1++([(IntKind.u8.wrap y1.1.1)]:List (Int)))),()),()),((),()))) .fail)
def an4:Nat→Option au:=λn=>bw [(0,⟨⟨[.i .i64, .dead, .dead, .aR act]++dd 21,Bw⟩,⟨[.i .i64, .dead, .dead, .aR act]++dd 21,Bw⟩,none,false⟩)] n
def JI:bK:={ f:=20,lend:=true,aF:=[wl],lay:=[none],rs:=[wr],F:=λx=> .ret ((((ay x.1.1),()),()),((),())) }
theorem aib (x:aw JI.aF):bo [As] an4 Tryz.f20 JI [.tmp 2] x=w9 x.1.1:=by kernel_rfl
theorem aic (hr:∀ x:(Int×Unit)×Unit,aB JI.aF x→(w9 x.1.1).eval=(JI.F x).eval):JI.Ok acl:=aD [As] ⟨oJ,trivial⟩ aib λx hw _ hy=>(hr x hw).trans hy
theorem U9 (n:Nat):n &&& 127=n % 128:=Nat.and_two_pow_sub_one_eq_mod n 7
theorem an5 (h:n<128):n ||| 128=128+n:=by
 rw [Nat.or_comm];exact (Nat.two_pow_add_eq_or_of_lt (i:=7) h 1).symm
theorem an6 (n k:Nat) (hk:k≤64):Int.fdiv ((n:Nat):Int) (2 ^ (min (Int.toNat ((k:Nat):Int)) (IntKind.bits IntKind.i64)))=((n / 2 ^ k:Nat):Int):=by
 grind [Int.toNat,IntKind.bits,ah8]
theorem yU:JI.Ok acl:=by
 refine aic λx _=> ?_;obtain ⟨⟨n,_⟩,_⟩:=x;show (w9 n).eval=some (((ay n,()),()),((),()));unfold w9 ay;by_cases h:dL n 0 562949953421311=true
 . rw [ae (by simp [h]),aaZ h]
   have hb:0≤n∧n≤562949953421311:=by grind [dL]
   obtain ⟨n,rfl⟩:=aft hb.1;have hn:n<562949953421312:=by omega
   obtain ⟨l',m,e1,e2⟩:=Df (f:=Iy) (λn l h1 h2 h3=>by
     have w1:Int.fdiv ((n:Nat):Int) (2 ^ (min (Int.toNat (7:Int)) (IntKind.bits IntKind.i64)))=((n / 128:Nat):Int):=an6 n 7 (by decide);have w0:abs (((BitVec.ofInt (IntKind.bits IntKind.i64) ((n:Nat):Int) &&& BitVec.ofInt (IntKind.bits IntKind.i64) (127:Int)).toNat:Nat):Int)=((n % 128:Nat):Int):=(Pk (a:=n) (b:=127) (by grind) (by decide)).trans (by rw [U9]);have w2:IntKind.u8.wrap (abs (((BitVec.ofInt (IntKind.bits IntKind.i64) ((n % 128:Nat):Int) ||| BitVec.ofInt (IntKind.bits IntKind.i64) (128:Int)).toNat:Nat):Int))=(((UInt8.ofNat (128+n % 128)).toNat:Nat):Int):=by
      rw [← ah9, ← an5 (n:=n % 128) (by omega)];exact congrArg _ (U6 (a:=n % 128) (b:=128) (by grind) (by decide))
     have w3:decide (((n:Nat):Int)>(127:Int))=true:=by grind
     have w4:decide (List.length l+1≤bn)=true:=by grind
     simp_all [Iy,Out.eval])
    (by grind [decide_eq_false,Iy,Out.eval]) aI n [] (by grind) hn (by grind [mQ])
   have hl:l'.length+1≤7:=by
    have:=congrArg List.length e2;grind [mQ]
   refine (aa e1).trans ?_;rw [ab (aac (by rw [jQ];simp;omega))];simp only [Out.eval,Pl e2];rfl
 . rw [ab (by simp [h]),aae h];rfl
theorem Gw (b:UInt8):abs ((b.toNat:Nat):Int)=((b.toNat:Nat):Int):=ng (by have:=b.toNat_lt;grind)
def CK (l:List Int):Option bs:=lim (l.flatMap ay) (l.flatMap ay)
abbrev Va:=(List UInt8×List (Int)×Int×Int×Unit)×(Unit)
def Iz:Va→Out (Round Va mt Empty)
|((p0,p1,p2,p3,_),_)=> .ite (decide (p3<p2)) (.ite (decide (0≤p3)) (.get (nth p1 (Int.toNat p3)) λy1=> .ite (decide (List.length p0+List.length (ay y1)≤bn)) (.ret (.again (((p0++(ay y1)),p1,p2,(abs (p3+(1:Int))),()),()))) .fail) .fail) (.ret (.out ((p0,()),())))
def xa (a0:List Int):Out gc:= .get (aP Iz aI ((([]:List UInt8),a0,((List.length a0:Nat):Int),(0:Int),()),())) λy1=> .ret (((y1.1.1,()),()),((),()))
def an7:Nat→Option au:=λn=>bw [(0,⟨⟨[.dead, .dead, .dead, .s, .dead, .dead, .ro (.int .i64) (some 0), .i .i64, .i .i64]++dd 9,[]⟩,⟨[.dead, .dead, .dead, .s]++dd 14,[]⟩,none,false⟩)] n
def k18:bK:={ f:=18,lend:=true,aF:=[ww],lay:=[none],rs:=[wr],F:=λx=> .get (CK x.1.1) λy=> .ret (((y,()),()),((),())) }
theorem aid (x:aw k18.aF):bo [JI] an7 Tryz.f18 k18 [.tmp 2] x=xa x.1.1:=by kernel_rfl
theorem aau (hr:∀ x:(List Int×Unit)×Unit,aB k18.aF x→∀ y,(k18.F x).eval=some y→(xa x.1.1).eval=some y):k18.Ok acl:=aD [JI] ⟨yU,trivial⟩ aid hr
theorem ag5:k18.Ok acl:=by
 refine aau λx hw y hy=> ?_;obtain ⟨⟨a,_⟩,_⟩:=x;have ha:a.length≤cj:=hw.1.1.1;change (Out.get (CK a) λy=>Out.ret (((y,()),()),((),()))).eval=some y at hy;show (xa a).eval=some y;unfold xa;unfold CK at hy;by_cases hl:(a.flatMap ay).length≤bn
 . rw [jj hl] at hy
   refine afk ?_ hy;have:=di (f:=Iz) ay a (λs i=>((s,(a,(((a.length:Nat):Int),(((i:Nat):Int),())))),())) (λs=>((s,()),())) bn
    (λi hi s hs=>by
     have w1:=aq (i:=i) (by omega);simp only [Iz,Out.eval,iZ hi,pQ,bD hi,adN,aed,aac hs,w1])
    (λs=>by simp [Iz,Out.eval]) ha [] (by simpa using hl)
   exact (aa this).trans rfl
 . rw [wz hl] at hy;exact nomatch hy
theorem kz (i:Nat) (h:i<cj:=by omega):abs (((i+1:Nat):Int) - 1)=((i:Nat):Int):=by
 rw [bt (by omega) (by unfold cj at h;omega)];omega
theorem rZ (x y:Int):decide (x≥y)= !decide (x<y):=by
 rw [aeA];simp
theorem dR {α β:Type} (h:α→List β) (m:Nat):∀ (a:List α),(∀ x∈a,(h x).length≤m)→(a.flatMap h).length≤m*a.length
 |[],_=>by simp
 |x::r,hx=>by
  have h1:=hx x (by simp);have h2:=dR h m r λy hy=>hx y (by simp [hy]);rw [aez,aaY,aay,Nat.mul_succ];omega
def Dg {α:Type} (a:List α):Option (List α):=lim a a
def IA:bK:={ f:=111,lend:=true,aF:=[ww],lay:=[none],rs:=[Fd],F:=λx=> .get (Dg x.1.1) λy=> .ret (((y,()),()),((),())) }
noncomputable def Dh:Code:=pU Tryz.f111
noncomputable def Vb:Code:=Pn (Pn Dh)
noncomputable def Nx:Code:=Au (Pn Dh)
noncomputable def Vc:Code:=an8 (Pn Nx)
theorem Rm:pU Tryz.f111= .seq (Au Dh) (.seq (.seq (.region 1 #[cOp (Au Nx) 0,cOp (Au Nx) 1] false) (.cond (.tmp 4) (.seq (.region 2 (aie (Au Vc)) false) .ret) .skip)) Vb):=by kernel_rfl
theorem Vd (x:(List Int×Unit)×Unit):r7 (Za []) (λ_=>none) (Au Dh) (.seq (.region 2 (aie (Au Vc)) false) .ret) IA.aF IA.lay Tryz.f111.ntmps IA.rs [.tmp 2] x=Out.ret ((((([]:List (Int))),()),()),((),())):=by kernel_rfl
theorem aav (x:(List Int×Unit)×Unit):r7 (Za []) (λ_=>none) (Au Dh) Vb IA.aF IA.lay Tryz.f111.ntmps IA.rs [.tmp 2] x=Out.ite (decide (List.length ([]:List (Int))+List.length x.1.1≤bn)) (Out.ret (((([]:List (Int))++x.1.1,()),()),((),()))) Out.fail:=by kernel_rfl
theorem aaw:IA.Ok acl:=by
 refine Ny (vQ jd Ht []) (BS [] (λK hK=>by cases hK) rfl) BR (An:=λ_=>none) (rtm:=[.tmp 2]) (tk:=some 0) (tid:=29) (te:=3) (l:=λx=>x.1.1) (by kernel_rfl) (sQ (by kernel_rfl)) (by kernel_rfl) (by kernel_rfl) (by decide) (by decide) (by decide)
  Rm (by kernel_rfl) (by kernel_rfl) (by kernel_rfl) (by kernel_rfl) (by kernel_rfl) (by kernel_rfl) (by kernel_rfl) (λx=>by kernel_rfl) (λx=>Nat.le_of_ble_eq_true (by kernel_rfl)) (λx y _ hy=> ?_) (λx y _ hl hy=> ?_)
 . obtain ⟨⟨a,_⟩,_⟩:=x
   refine (congrArg Out.eval (aav _)).trans ?_;change (Out.get (Dg a) λy=>Out.ret (((y,()),()),((),()))).eval=some y at hy;unfold Dg at hy;by_cases h:a.length≤bn
   . rw [jj h] at hy
     exact (ab (aac (show 0+a.length≤bn from (aeS _).symm ▸ h))).trans hy
   . rw [wz h] at hy;exact nomatch hy
 . obtain ⟨⟨a,_⟩,_⟩:=x
   obtain rfl:a=[]:=hl;exact (congrArg Out.eval (Vd _)).trans hy
abbrev cB:=Int×(List Int×Unit)
def pd (a b:List cB):Bool:=decide (a=b)
def dN:bs→Nat
 |[]=>0
 |b::r=>b.toNat % 128+128*dN r
def iR:bs→Bool
 |[]=>false
 |b::r=>if r=[] then decide (b.toNat<128) else decide (128≤b.toNat)&&iR r&& !decide (r=[0])
theorem jm:∀ (p:bs) (b:UInt8),iR (p++[b])=true↔(∀ x∈p,128≤x.toNat)∧b.toNat<128∧(p=[]∨b≠0)
 |[],b=>by simp [iR]
 |x::p,b=>by
  have ih:=jm p b;rw [List.cons_append,iR,aae (by simp)];simp only [aa6,ih,adS,afq,af6,adM,forall_eq_or_imp];constructor
  . grind
  . rintro ⟨⟨h1,h2⟩,h3,h4⟩
    rcases h4 with h4|h4
    . cases h4
    . refine ⟨by grind,λe=> ?_⟩
      cases p with
      |nil=>grind
      |cons y p=>simp at e
theorem an9 (b:UInt8):UInt8.ofNat b.toNat=b:=by simp
theorem xb:∀ (l:bs),l≠[]→(iE (dN l)=l↔iR l=true)
 |[],h=>absurd rfl h
 |[b],_=>by
  have hb:=b.toNat_lt;have e:dN [b]=b.toNat % 128:=by simp [dN]
  rw [e,od (by omega)];simp only [iR,agm,adS,List.cons.injEq,ahb];constructor
  . intro h
    have:=congrArg UInt8.toNat h;rw [UInt8.toNat_ofNat'] at this;omega
  . intro h
    rw [alC h];simp
 |b::c::r,_=>by
  have ih:=xb (c::r) (by simp);have hb:=b.toNat_lt;rw [iR,aae (by simp)];rw [dN];generalize hd:dN (c::r)=d at ih ⊢;simp only [aa6, ← ih,adS,afq,af6];constructor
  . intro h
    by_cases hn:b.toNat % 128+128*d<128
    . grind [od]
    . rw [tr hn] at h
      have e1:(b.toNat % 128+128*d) / 128=d:=by omega
      have e2:(b.toNat % 128+128*d) % 128=b.toNat % 128:=by omega
      rw [e1,e2,List.cons.injEq] at h;refine ⟨⟨?_,h.2⟩,λe=> ?_⟩
      . have:=congrArg UInt8.toNat h.1
        grind [UInt8.toNat_ofNat']
      . rw [e] at hd
        have:d=0:=by rw [← hd];rfl
        omega
  . rintro ⟨⟨h1,h2⟩,h3⟩
    have hd0:d≠0:=by
     rintro rfl
     grind [od]
    rw [tr (by omega)];grind [an9]
theorem qp:∀ (l:bs),dN l<128 ^ l.length
 |[]=>by simp [dN]
 |b::r=>by
  have:=qp r;simp only [dN,aay,Nat.pow_succ];omega
theorem Gx:∀ (l:bs) (b:UInt8),dN (l++[b])=dN l+128 ^ l.length*(b.toNat % 128)
 |[],b=>by simp [dN]
 |x::l,b=>by
  rw [List.cons_append,dN,dN,Gx l b,aay,Nat.pow_succ,Nat.mul_add, ← Nat.mul_assoc,Nat.mul_comm 128 (128 ^ l.length)];omega
def sY (s:bs):Option Nat:=(List.range (min 7 s.length)).findIdx? λi=>iR (s.take (i+1))
def oe (s:bs):Int×Int:=match sY s with
 |some i=>(((dN (s.take (i+1)):Nat):Int),((i+1:Nat):Int))
 |none=>(0,0)
variable {s:bs}
theorem r8:sY s=some i↔i<min 7 s.length∧iR (s.take (i+1))=true∧∀ j,j<i→iR (s.take (j+1))=false:=by
 grind [sY,List.findIdx?_eq_some_iff_getElem,List.length_range]
theorem KV:sY s=none↔∀ i,i<min 7 s.length→iR (s.take (i+1))=false:=by
 grind [sY,List.findIdx?_eq_none_iff]
theorem mR (h:i<s.length):s.take (i+1)=s.take i++[s[i]]:=by simp_all
theorem aax {j:Nat} (hj:j<min 7 s.length) (hb:∀ i (_:i<j) (h:i<s.length),128≤s[i].toNat) (he:(s[j]'(by omega)).toNat<128):
  sY s=if 0<j∧s[j]'(by omega)=0 then none else some j:=by
 have hjl:j<s.length:=by omega
 have no:∀ i,i<j→iR (s.take (i+1))=false:=λi hi=>by
  rw [Bool.eq_false_iff,ne_eq,mR (by omega),jm];grind
 have all:∀ x∈s.take j,128≤x.toNat:=λx hx=>by
  obtain ⟨i,hi,rfl⟩:=afM hx;grind
 split
 . rename_i h
   refine KV.2 λi hi=> ?_;by_cases h1:i<j
   . exact no i h1
   . rw [Bool.eq_false_iff,ne_eq,mR (by omega),jm]
     rintro ⟨q1,q2,q3⟩
     by_cases h2:i=j
     . subst h2
       rcases q3 with q3|q3
       . have:=congrArg List.length q3
         grind
       grind
     . have:=q1 (s[j]) (by
        have:j<(s.take i).length:=by grind
        grind [List.mem_of_getElem])
       omega
 grind [r8,mR,jm]
theorem aif (hb:∀ i (_:i<min 7 s.length) (h:i<s.length),128≤s[i].toNat):sY s=none:=by
 refine KV.2 λi hi=> ?_;rw [Bool.eq_false_iff,ne_eq,mR (by omega),jm];grind
theorem vj (s:bs):(0≤(oe s).1∧(oe s).1≤562949953421311)∧0≤(oe s).2∧(oe s).2≤((s.length:Nat):Int)∧(oe s).2≤7:=by
 unfold oe;split
 . rename_i i h
   have h:=(r8.1 h).1;have h1:=qp (s.take (i+1));have h2:128 ^ (s.take (i+1)).length≤128 ^ 7:=agt (by decide) (by grind);grind
 . simp
theorem qj (h:sY s=some i):i<7∧i<s.length:=by grind [r8]
theorem wg (h:sY s=some i):iE (dN (s.take (i+1)))=s.take (i+1):=
 (xb _ (by intro e;have:=congrArg List.length e;rw [ae0,adC] at this;have:=qj h;omega)).2 (r8.1 h).2.1
theorem Br (h:sY s=some i):dN (s.take (i+1))<562949953421312:=by
 have h1:=qp (s.take (i+1));have h2:128 ^ (s.take (i+1)).length≤128 ^ 7:=agt (by decide) (by rw [ae0];have:=qj h;omega);omega
theorem jW (h:n<562949953421312):ay ((n:Nat):Int)=iE n:=by
 unfold ay;rw [aaZ (by grind [dL,decide_eq_true])];rfl
theorem Gy:∀ (n:Nat),dN (iE n)=n:=by
 intro n
 induction n using Nat.strongRecOn with
 |_ n ih=>
  grind [od,dN,tr,UInt8.toNat_ofNat']
theorem lR (n:Nat):iE n≠[]:=by
 grind [od,tr]
theorem Av (n:Nat):iR (iE n)=true:=(by grind [xb,lR,Gy])
theorem tf (h:n<562949953421312) (r:bs):sY (iE n++r)=some ((iE n).length - 1):=by
 have hl:=mQ h;have hp:0<(iE n).length:=PP.2 (lR n);refine r8.2 ⟨by grind, ?_,λj hj=> ?_⟩
 . grind [Nat.sub_add_cancel,List.take_left',Av]
 . have hc:=Av n
   have e:iE n=(iE n).dropLast++[(iE n).getLast (lR n)]:=(List.dropLast_concat_getLast (lR n)).symm;rw [e,jm] at hc;rw [Bool.eq_false_iff,ne_eq,List.take_append_of_le_length (by omega),mR (by omega),jm];grind
theorem tg (_:n<562949953421312) (r:bs):dN ((iE n++r).take ((iE n).length - 1+1))=n:=by
 have hp:0<(iE n).length:=PP.2 (lR n);rw [ago hp,List.take_left' rfl,Gy]
def cW:Nat→bs→Option (List Int×Nat)
 |0,_=>some ([],0)
 |n+1,s=>match sY s with
  |none=>none
  |some i=>match cW n (s.drop (i+1)) with
   |none=>none
   |some (l,k)=>some (((dN (s.take (i+1)):Nat):Int)::l,i+1+k)
theorem fX:∀ {n:Nat} {s:bs} {l:List Int} {k:Nat},cW n s=some (l,k)→k≤s.length∧l.length=n∧(∀ x∈l,0≤x∧x≤562949953421311)∧s.take k=l.flatMap ay
 |0,s,l,k,h=>by simp only [cW,adI,ad3] at h;grind
 |n+1,s,l,k,h=>by
  simp only [cW] at h;split at h
  . grind
  . rename_i i hi
    split at h
    . grind
    . rename_i l' k' hr
      simp only [adI,ad3] at h;obtain ⟨rfl,rfl⟩:=h;have h1:=fX hr;have h2:=qj hi;have h3:=Br hi;rw [aec] at h1;refine ⟨by omega,by grind,λx hx=> ?_, ?_⟩
      . grind
      . rw [aez,jW h3,wg hi, ← h1.2.2.2,List.take_add]
theorem Gz:∀ (l:List Nat) (r:bs),(∀ x∈l,x<562949953421312)→cW l.length (l.flatMap iE++r)=some (l.map λx=>((x:Nat):Int),(l.flatMap iE).length)
 |[],r,_=>rfl
 |x::l,r,h=>by
  have hx:=h x (by simp);have ih:=Gz l r λy hy=>h y (by simp [hy]);have hp:0<(iE x).length:=PP.2 (lR x);rw [aay,cW,aez,adO,tf hx];simp only;rw [tg hx,ago hp,alm rfl,ih];simp
def cc (s:bs):Nat→Int→List Int→List Int×Int
 |0,p,out=>(out,p)
 |n+1,p,out=>if p<0∨((s.length:Nat):Int)<p then (out, -1) else if (oe (s.drop p.toNat)).2=0 then (out, -1) else cc s n (p+(oe (s.drop p.toNat)).2) (out++[(oe (s.drop p.toNat)).1])
theorem xc (h:sY s=none):oe s=(0,0):=by grind [oe]
theorem Di (h:sY s=some i):oe s=(((dN (s.take (i+1)):Nat):Int),((i+1:Nat):Int)):=by grind [oe]
theorem lE (s:bs):∀ (n p:Nat) (out:List Int),p≤s.length→match cW n (s.drop p) with
  |some (l,k)=>cc s n ((p:Nat):Int) out=(out++l,((p+k:Nat):Int))
  |none=>∃ l,cc s n ((p:Nat):Int) out=(l, -1)∧l.length≤out.length+n
 |0,p,out,_=>by simp [cW,cc]
 |n+1,p,out,h=>by
  have h1:¬ (((p:Nat):Int)<0∨((s.length:Nat):Int)<((p:Nat):Int)):=by omega
  simp only [cW,cc,aae h1,adu];cases hi:sY (s.drop p) with
  |none=>simp only [xc hi,agm];exact ⟨out,rfl,by omega⟩
  |some i=>
   have hl:=qj hi;rw [aec] at hl;simp only [Di hi];rw [aae,show ((p:Nat):Int)+((i+1:Nat):Int)=((p+(i+1):Nat):Int) by omega];have ih:=lE s n (p+(i+1)) (out++[((dN ((s.drop p).take (i+1)):Nat):Int)]) (by omega);grind [List.drop_drop,cW,List.length_append,List.length_cons,List.length_nil,Nat.add_assoc]
def ag (s:bs) (bad:Bool):Int×bs×Bool:=if bad||(oe s).2==0 then (0,s,true) else ((oe s).1,s.drop (oe s).2.toNat,false)
theorem Tt (s:bs):ag s true=(0,s,true):=rfl
theorem yR (h:sY s=none):ag s false=(0,s,true):=by grind [ag,xc]
theorem sZ (h:sY s=some i):ag s false=(((dN (s.take (i+1)):Nat):Int),s.drop (i+1),false):=by
 unfold ag;rw [Di h];grind
def jN:Nat→bs→Bool→List Int×bs×Bool
 |0,s,b=>([],s,b)
 |n+1,s,b=>((ag s b).1::(jN n (ag s b).2.1 (ag s b).2.2).1,(jN n (ag s b).2.1 (ag s b).2.2).2)
theorem yS:∀ (n:Nat) (s:bs),(jN n s true).2=(s,true)
 |0,_=>rfl
 |n+1,s=>yS n s
theorem Ct:∀ (n:Nat) (s:bs),match cW n s with
  |some (l,k)=>jN n s false=(l,s.drop k,false)
  |none=>(jN n s false).2.2=true
 |0,s=>by simp [cW,jN]
 |n+1,s=>by
  simp only [cW,jN];cases hi:sY s with
  |none=>simp only [yR hi];rw [yS]
  |some i=>
   simp only [sZ hi];have ih:=Ct n (s.drop (i+1));cases hr:cW n (s.drop (i+1)) with
   |none=>rw [hr] at ih;exact ih
   |some x=>
    obtain ⟨l,k⟩:=x;rw [hr] at ih;simp only at ih ⊢;rw [ih,aea]
def cm (s:bs) (bad:Bool) (we:Int):Int×bs×Bool:=if (ag s bad).1>we then (0,(ag s bad).2.1,true) else ag s bad
def il (n:Int):Int:=if n<0 then abs (abs ((-2)*n) - 1) else abs (2*n)
def dA (n:Int):Int:=if (Int.tmod n 2==1)=true then abs (Int.tdiv (abs (0 - abs (n+1))) 2) else abs (Int.tdiv n 2)
variable {x:Int}
theorem KW (h0:0≤x) (h1:x≤562949953421311) (ho:Int.tmod x 2=1):dA x= -((x+1) / 2):=by
 unfold dA;rw [aaZ (by rw [ho];rfl),bt (n:=x+1) (by omega) (by omega),bt (n:=0 - (x+1)) (by omega) (by omega)];grind [Int.tmod_eq_emod_of_nonneg,Int.neg_tdiv,Int.tdiv_eq_ediv_of_nonneg,bt]
theorem GA (h0:0≤x) (h1:x≤562949953421311) (ho:¬ Int.tmod x 2=1):dA x=x / 2:=by
 unfold dA;rw [aae (by simpa using ho),Int.tdiv_eq_ediv_of_nonneg h0];grind [bt]
theorem OP (h0:0≤x) (h1:x≤562949953421311):il (dA x)=x:=by
 have hm:=Int.tmod_eq_emod_of_nonneg (b:=2) h0;by_cases ho:Int.tmod x 2=1
 . rw [KW h0 h1 ho]
   unfold il;rw [aaZ,bt (n:=(-2)* -((x+1) / 2)) (by omega) (by omega),bt (by omega) (by omega)];omega
 . rw [GA h0 h1 ho]
   unfold il;rw [aae,bt (by omega) (by omega)];omega
theorem rX {n:Int} (h:dL n (-1000000) 1000000=true):0≤il n∧il n≤2000000:=by
 grind [dL,il,bt]
theorem O0 {n:Int} (h:dL n (-1000000) 1000000=true):dA (il n)=n:=by
 have hb:=rX h;have h: -1000000≤n∧n≤1000000:=by grind [dL]
 have hm:=Int.tmod_eq_emod_of_nonneg (b:=2) hb.1;have e:il n=if n<0 then -2*n - 1 else 2*n:=by
  grind [il,bt]
 by_cases ho:Int.tmod (il n) 2=1
 . rw [KW hb.1 (by omega) ho,e]
   grind
 . rw [GA hb.1 (by omega) ho,e]
   grind
def b9 (n:Int):Bool:=dL n (-1000000) 1000000
def aH (l:List Int):Bool:=l.all b9
def cQ (l:List Int):bs:=ay ((l.length:Nat):Int)++l.flatMap λn=>ay (il n)
def gm (we:Nat) (s:bs):Option (List Int×Nat):=match sY s with
 |none=>none
 |some i=>if we<dN (s.take (i+1)) then none else match cW (dN (s.take (i+1))) (s.drop (i+1)) with
  |none=>none
  |some (l,k)=>some (l,i+1+k)
variable {l:List Int}
theorem gW {we:Nat} {k:Nat} (h:gm we s=some (l,k)):k≤s.length∧l.length≤we∧(∀ x∈l,0≤x∧x≤562949953421311)∧s.take k=ay ((l.length:Nat):Int)++l.flatMap ay:=by
 unfold gm at h;split at h
 . grind
 . rename_i i hi
   split at h
   . grind
   . rename_i hm
     split at h
     . grind
     . rename_i l' k' hr
       simp only [adI,ad3] at h;obtain ⟨rfl,rfl⟩:=h;have h1:=fX hr;have h2:=qj hi;have h3:=Br hi;rw [aec] at h1;refine ⟨by omega,by omega,h1.2.2.1, ?_⟩;rw [h1.2.1,jW h3,wg hi, ← h1.2.2.2,List.take_add]
theorem Tl (h:∀ x∈l,0≤x∧x≤562949953421311):(l.map dA).flatMap (λn=>ay (il n))=l.flatMap ay:=by
 induction l with
 |nil=>rfl
 |cons x r ih=>
  simp_all [OP]
theorem KJ {we:Nat} {d:List Int} (hm:d.length≤we) (hs:we<562949953421312) (hw:aH d=true) (r:bs):gm we (cQ d++r)=some (d.map il,(cQ d).length):=by
 have hd:∀ x∈d,0≤il x∧il x≤2000000:=λx hx=>rX (adG.1 hw x hx);have e:cQ d=iE d.length++(d.map λx=>(il x).toNat).flatMap iE:=by
  unfold cQ;rw [jW (by omega)];congr 1;clear hm hs hw
  induction d with
  |nil=>rfl
  |cons x r ih=>
   have:=hd x (by simp);obtain ⟨n,hn⟩:=aft this.1;rw [ael,aez,aez,ih (λy hy=>hd y (by simp [hy])),hn,jW (by omega)];rfl
 have hp:0<(iE d.length).length:=PP.2 (lR _);have hc:=Gz (d.map λx=>(il x).toNat) r (by grind);rw [afh] at hc;unfold gm;rw [e,adO,tf (by omega)];simp only;rw [tg (by omega),aae,ago hp,alm rfl,hc];simp only [adI,ad3,aaY,ahb,agR];grind [List.map_congr_left,il]
def Po (d:List Int):bs:=[102]++cQ d
def gO:Nat→List (Option (List Int))→List cB
 |_,[]=>[]
 |i,none::r=>gO (i+1) r
 |i,some d::r=>(((i:Nat):Int),(d,()))::gO (i+1) r
def aaz:Option (List Int)→bs
 |none=>[]
 |some d=>Po d
def okO:Option (List Int)→Bool
 |none=>true
 |some d=>aH d&&decide (d.length≤8)
def aih (o:List bs) (x:cB):List bs:=o.set x.1.toNat (Po x.2.1)
theorem r9:∀ (ds:List (Option (List Int))) (i:Nat) (p:List bs),p.length=i→(gO i ds).foldl aih (p++List.replicate ds.length [])=p++ds.map aaz
 |[],i,p,_=>by simp [gO]
 |none::r,i,p,h=>by
  have:=r9 r (i+1) (p++[[]]) (by simp [h]);simp only [gO,aay,ael,aaz];rw [List.replicate_succ,show p++[]::List.replicate r.length []=p++[[]]++List.replicate r.length [] by simp,this];simp
 |some d::r,i,p,h=>by
  have:=r9 r (i+1) (p++[Po d]) (by simp [h]);simp only [gO,aay,ael,aaz,ae5];simp_all [aih,List.replicate,Po,List.set_append_right,Nat.sub_self,List.set_cons_zero]
def fA (x:cB):Bool:=dL x.1 0 5&&(decide (x.2.1.length≤8)&&aH x.2.1)
def iF (a:List cB) (i:Nat):Bool:=match a[i]? with
 |none=>true
 |some x=>fA x&&(match i with|0=>true|j+1=>match a[j]? with|none=>true|some z=>decide (z.1<x.1))
def gX (a:List cB):Bool:=decide (a.length≤6)&&(List.range a.length).all (iF a)
theorem uD {a:List cB} (h:0<a.length):iF a 0=fA a[0]:=by
 grind [iF,List.getElem?_eq_getElem]
theorem uE {a:List cB} (h:i+1<a.length):iF a (i+1)=(fA a[i+1]&&decide (a[i].1<a[i+1].1)):=by
 grind [iF,List.getElem?_eq_getElem]
def iL:Int→List cB→Bool
 |_,[]=>true
 |lo,x::r=>fA x&&(decide (lo≤x.1)&&iL (x.1+1) r)
theorem GB (a:List cB):∀ (m i:Nat) (lo:Int),i+m=a.length→(∀ (h:i<a.length),iF a i=(fA a[i]&&decide (lo≤a[i].1)))→((∀ j,i≤j→j<a.length→iF a j=true)↔iL lo (a.drop i)=true)
 |0,i,lo,hi,_=>by
  rw [List.drop_of_length_le (by omega)];exact ⟨λ_=>rfl,by grind⟩
 |m+1,i,lo,hi,h=>by
  have cf:i<a.length:=by omega
  have ih:=GB a m (i+1) (a[i].1+1) (by omega) (by grind [uE]);rw [aeC cf,iL,aa6,aa6, ← ih];grind
theorem uF (a:List cB):gX a=(decide (a.length≤6)&&iL 0 a):=by
 unfold gX;congr 1;have:=GB a a.length 0 0 (by omega) (λh=>by
  rw [uD h];cases hf:fA a[0] with
  |false=>rfl
  |true=>
   have:dL a[0].1 0 5=true:=(Bool.and_eq_true_iff.1 hf).1;have:(0:Int)≤a[0].1∧a[0].1≤(5:Int):=by grind [dL]
   grind)
 grind
theorem qq:∀ (ds:List (Option (List Int))) (i:Nat) (lo:Int),lo≤i→i+ds.length≤6→iL lo (gO i ds)=ds.all okO
 |[],_,_,_,_=>rfl
 |none::r,i,lo,h1,h2=>by
  rw [gO,aeB,qq r (i+1) lo (by omega) (by rw [aay] at h2;omega)];rfl
 |some d::r,i,lo,h1,h2=>by
  rw [aay] at h2;rw [gO,iL,aeB];simp only;rw [qq r (i+1) (((i:Nat):Int)+1) (by omega) (by omega),aac h1,agd];congr 1;show (dL ((i:Nat):Int) 0 5&&(decide (d.length≤8)&&aH d))=(aH d&&decide (d.length≤8))
  have e:dL ((i:Nat):Int) 0 5=true:=by grind [dL,decide_eq_true]
  grind
theorem sa:∀ (ds:List (Option (List Int))) (i:Nat),(gO i ds).length≤ds.length
 |[],_=>adK _
 |none::r,i=>by have:=sa r (i+1);simp only [gO,aay];omega
 |some d::r,i=>by have:=sa r (i+1);simp only [gO,aay];omega
theorem Nz {ds:List (Option (List Int))} (h:ds.length≤6):gX (gO 0 ds)=ds.all okO:=by
 grind [sa,uF,decide_eq_true,qq]
theorem Bx:∀ (m i:Nat) (lo:Int) (a:List cB),lo=i→i+m=6→iL lo a=true→∃ ds:List (Option (List Int)),ds.length=m∧gO i ds=a
 |0,i,lo,a,h1,h2,h=>by
  cases a with
  |nil=>exact ⟨[],rfl,rfl⟩
  |cons x r=>
   exfalso;rw [iL,aa6,aa6] at h;have q:dL x.1 0 5=true:=(Bool.and_eq_true_iff.1 h.1).1;have q:0≤x.1∧x.1≤5:=by grind [dL]
   grind
 |m+1,i,lo,a,h1,h2,h=>by
  cases a with
  |nil=>
   obtain ⟨ds,e1,e2⟩:=Bx m (i+1) (((i+1:Nat):Int)) [] rfl (by omega) rfl;exact ⟨none::ds,by simp [e1],e2⟩
  |cons x r=>
   rw [iL,aa6,aa6] at h;have hl:=adR h.2.1;by_cases e:x.1=i
   . obtain ⟨ds,e1,e2⟩:=Bx m (i+1) (((i+1:Nat):Int)) r rfl (by omega) (by have:=h.2.2;rw [e] at this;exact this)
     refine ⟨some x.2.1::ds,by simp [e1], ?_⟩;rw [gO,e2, ← e]
   . obtain ⟨ds,e1,e2⟩:=Bx m (i+1) (((i+1:Nat):Int)) (x::r) rfl (by omega) (by
      rw [iL,h.1,h.2.2,aac];rfl)
     exact ⟨none::ds,by simp [e1],e2⟩
def Aw (a:List cB):List bs:=if gX a=true then a.foldl aih (List.replicate 6 []) else []
theorem oK {a:List cB} (h:gX a=true):∃ ds:List (Option (List Int)),ds.length=6∧gO 0 ds=a∧ds.all okO=true∧Aw a=ds.map aaz:=by
 have h2:=h;rw [uF,aa6] at h2;obtain ⟨ds,e1,e2⟩:=Bx 6 0 0 a rfl (by omega) h2.2;refine ⟨ds,e1,e2, ?_, ?_⟩
 . grind [Nz]
 . unfold Aw
   rw [aaZ h, ← e2, ← e1];exact r9 ds 0 [] rfl
def KX (a0:Int):Out ci:= .ret ((((dL a0 (-1000000:Int) (1000000:Int)),()),()),((),()))
def Sm:bK:={ f:=72,lend:=true,aF:=[wl],lay:=[none],rs:=[wn],F:=λx=> .ret ((((b9 x.1.1),()),()),((),())) }
theorem aii (x:aw Sm.aF):bo [wZ] (λ_=>none) Tryz.f72 Sm [.tmp 2] x=KX x.1.1:=by kernel_rfl
theorem aij (hr:∀ x:(Int×Unit)×Unit,aB Sm.aF x→(KX x.1.1).eval=(Sm.F x).eval):Sm.Ok acl:=aD [wZ] ⟨kW,trivial⟩ aii λx hw _ hy=>(hr x hw).trans hy
theorem IB:Sm.Ok acl:=aij λ_ _=>rfl
abbrev Ve:=(List (Int)×Int×Unit)×(Unit)
def Dj:Ve→Out (Round Ve ((Unit)×(Unit)) ((Bool×Unit)×(Unit)))
|((p0,p1,_),_)=> .ite (decide (p1<((List.length p0:Nat):Int))) (.ite (decide (0≤p1)) (.get (nth p0 (Int.toNat p1)) λy1=> .ite (!(b9 y1)) (.ret (.ret ((false,()),()))) (.ret (.again ((p0,(abs (p1+(1:Int))),()),())))) .fail) (.ret (.out ((),())))
def xd (a0:List Int):Out ci:= .get (iter Dj aI ((a0,(0:Int),()),())) λy1=> .alt y1 (λ_=> .ret (((true,()),()),((),()))) (λy3=> .ret (((y3.1.1,()),()),((),())))
def aoa:Nat→Option au:=λn=>bw [(0,⟨⟨[.ro (.int .i64) (some 0), .dead, .dead, .i .i64]++dd 12,[]⟩,⟨dd 16,[]⟩,some ⟨[.dead, .dead, .b]++dd 13,[]⟩,false⟩)] n
def Pp:bK:={ f:=26,lend:=true,aF:=[ww],lay:=[none],rs:=[wn],F:=λx=> .ret ((((aH x.1.1),()),()),((),())) }
theorem aik (x:aw Pp.aF):bo [Sm] aoa Tryz.f26 Pp [.tmp 2] x=xd x.1.1:=by kernel_rfl
theorem ail (hr:∀ x:(List Int×Unit)×Unit,aB Pp.aF x→(xd x.1.1).eval=(Pp.F x).eval):Pp.Ok acl:=aD [Sm] ⟨IB,trivial⟩ aik λx hw _ hy=>(hr x hw).trans hy
theorem IC:Pp.Ok acl:=by
 refine ail λx hw=> ?_;obtain ⟨⟨a,_⟩,_⟩:=x;have ha:a.length≤cj:=hw.1.1.1;show (xd a).eval=some (((aH a,()),()),((),()));unfold xd aH;have:=KT (f:=Dj) a b9 (λi=>((a,(((i:Nat):Int),())),())) (y:=((),())) (z:=((false,()),()))
  (by grind [aq,Dj,Out.eval])
  (by grind [Dj,Out.eval])
  (by simp [Dj,Out.eval]) ha
 refine (aa this).trans ?_;cases a.all b9<;>rfl
def KY (a0:Int):Out ci:= .ret ((((dL a0 (-1000000:Int) (1000000:Int)),()),()),((),()))
def Sp:bK:={ f:=94,lend:=true,aF:=[wl],lay:=[none],rs:=[wn],F:=λx=> .ret ((((b9 x.1.1),()),()),((),())) }
theorem aim (x:aw Sp.aF):bo [As] (λ_=>none) Tryz.f94 Sp [.tmp 2] x=KY x.1.1:=by kernel_rfl
theorem ain (hr:∀ x:(Int×Unit)×Unit,aB Sp.aF x→(KY x.1.1).eval=(Sp.F x).eval):Sp.Ok acl:=aD [As] ⟨oJ,trivial⟩ aim λx hw _ hy=>(hr x hw).trans hy
theorem NA:Sp.Ok acl:=ain λ_ _=>rfl
def KZ (a0:Int):Out ci:= .ret ((((!(b9 a0)),()),()),((),()))
def pe (n:Int):Bool:= !b9 n
def k93:bK:={ f:=93,lend:=true,aF:=[wl],lay:=[none],rs:=[wn],F:=λx=> .ret ((((pe x.1.1),()),()),((),())) }
theorem aio (x:aw k93.aF):bo [Sp] (λ_=>none) Tryz.f93 k93 [.tmp 2] x=KZ x.1.1:=by kernel_rfl
theorem aip (hr:∀ x:(Int×Unit)×Unit,aB k93.aF x→(KZ x.1.1).eval=(k93.F x).eval):k93.Ok acl:=aD [Sp] ⟨NA,trivial⟩ aio λx hw _ hy=>(hr x hw).trans hy
theorem aiq:k93.Ok acl:=aip λ_ _=>rfl
abbrev Pq:=wd×(Unit)
def xe:Pq→Out (Round Pq ((Unit)×(Unit)) ((Int×Unit)×(Unit)))
|((p0,p1,p2,_),_)=> .ite (decide (p2<p1)) (.ite (decide (0≤p2)) (.get (nth p0 (Int.toNat p2)) λy1=> .ite (pe y1) (.ret (.ret ((p2,()),()))) (.ret (.again ((p0,p1,(abs (p2+(1:Int))),()),())))) .fail) (.ret (.out ((),())))
def tu (a0:List Int):Out gt:= .get (iter xe aI ((a0,((List.length a0:Nat):Int),(0:Int),()),())) λy1=> .alt y1 (λ_=> .ret ((((-1:Int),()),()),((),()))) (λy3=> .ret (((y3.1.1,()),()),((),())))
def air:Nat→Option au:=λn=>bw [(0,⟨⟨[.ro (.int .i64) (some 0), .fn 93 []]++dd 5++[.i .i64, .i .i64]++dd 10,[]⟩,⟨dd 19,[]⟩,some ⟨dd 4++[.i .i64]++dd 14,[]⟩,false⟩)] n
def nk (a:List Int):Int:=vS (a.findIdx? pe)
def K1:bK:={ f:=128,lend:=true,aF:=[ww],lay:=[none,some (93,0)],rs:=[wl],F:=λx=> .ret ((((nk x.1.1),()),()),((),())) }
theorem aaA (x:aw K1.aF):bo [k93] air Tryz.f128 K1 [.tmp 4] x=tu x.1.1:=by kernel_rfl
theorem aaB (hr:∀ x:(List Int×Unit)×Unit,aB K1.aF x→(tu x.1.1).eval=(K1.F x).eval):K1.Ok acl:=aD [k93] ⟨aiq,trivial⟩ aaA λx hw _ hy=>(hr x hw).trans hy
theorem aaC:K1.Ok acl:=by
 refine aaB λx hw=> ?_;obtain ⟨⟨a,_⟩,_⟩:=x;have ha:a.length≤cj:=hw.1.1.1;show (tu a).eval=some (((nk a,()),()),((),()));unfold tu nk;have:=ei (f:=xe) a pe (λi=>((a,(((a.length:Nat):Int),(((i:Nat):Int),()))),())) (y:=((),())) (z:=λi=>((((i:Nat):Int),()),()))
  (by grind [aq,xe,Out.eval])
  (by grind [xe,Out.eval])
  (by simp [xe,Out.eval]) ha
 refine (aa this).trans ?_;cases a.findIdx? pe<;>rfl
def xf (a0:List Int):Out ci:= .ret ((((decide ((nk a0)≥(0:Int))),()),()),((),()))
def sb (a:List Int):Bool:=a.any pe
def k92:bK:={ f:=92,lend:=true,aF:=[ww],lay:=[none,some (93,0)],rs:=[wn],F:=λx=> .ret ((((sb x.1.1),()),()),((),())) }
theorem ais (x:aw k92.aF):bo [K1] (λ_=>none) Tryz.f92 k92 [.tmp 4] x=xf x.1.1:=by kernel_rfl
theorem ait (hr:∀ x:(List Int×Unit)×Unit,aB k92.aF x→(xf x.1.1).eval=(k92.F x).eval):k92.Ok acl:=aD [K1] ⟨aaC,trivial⟩ ais λx hw _ hy=>(hr x hw).trans hy
theorem aiu:k92.Ok acl:=by
 refine ait λx _=> ?_;obtain ⟨⟨a,_⟩,_⟩:=x;show (xf a).eval=some (((sb a,()),()),((),()));unfold xf sb nk;rw [lQ];rfl
def Dk (a0:List Int):Out ci:= .ret ((((!(sb a0)),()),()),((),()))
def ME:bK:={ f:=57,lend:=true,aF:=[ww],lay:=[none],rs:=[wn],F:=λx=> .ret ((((aH x.1.1),()),()),((),())) }
theorem aiv (x:aw ME.aF):bo [k92] (λ_=>none) Tryz.f57 ME [.tmp 2] x=Dk x.1.1:=by kernel_rfl
theorem aiw (hr:∀ x:(List Int×Unit)×Unit,aB ME.aF x→(Dk x.1.1).eval=(ME.F x).eval):ME.Ok acl:=aD [k92] ⟨aiu,trivial⟩ aiv λx hw _ hy=>(hr x hw).trans hy
theorem Dl:ME.Ok acl:=by
 refine aiw λx _=> ?_;obtain ⟨⟨a,_⟩,_⟩:=x;show (Dk a).eval=some (((aH a,()),()),((),()));have:(!sb a)=aH a:=Pj a b9;rw [← this];rfl
abbrev Vf:=(List ((Int×List Int×Unit))×List ((Int×List Int×Unit))×Int×Int×Unit)×(Unit)
def zh:Vf→Out (Round Vf ((List ((Int×List Int×Unit))×Unit)×(Unit)) ((Bool×Unit)×(Unit)))
|((p0,p1,p2,p3,_),_)=> .ite (decide (p3<p2)) (.ite (decide (0≤p3)) (.get (nth p1 (Int.toNat p3)) λy1=> .ite ((!(dL y1.1 (0:Int) (5:Int)))==false) (.ite ((decide (p3>(0:Int)))==true) (.ite (decide (0≤(abs (p3 - (1:Int))))) (.get (nth p0 (Int.toNat (abs (p3 - (1:Int))))) λy2=> .ite ((decide (y2.1≥y1.1))==false) (.ite ((decide (((List.length y1.2.1:Nat):Int)>(8:Int)))==false) (.ite (!(aH y1.2.1)) (.ret (.ret ((false,()),()))) (.ret (.again ((p0,p1,p2,(abs (p3+(1:Int))),()),())))) (.ret (.ret ((false,()),())))) (.ret (.ret ((false,()),())))) .fail) (.ite ((decide (((List.length y1.2.1:Nat):Int)>(8:Int)))==false) (.ite (!(aH y1.2.1)) (.ret (.ret ((false,()),()))) (.ret (.again ((p0,p1,p2,(abs (p3+(1:Int))),()),())))) (.ret (.ret ((false,()),()))))) (.ret (.ret ((false,()),())))) .fail) (.ret (.out ((p0,()),())))
def xg (a0:List (Int×List Int×Unit)):Out ci:= .get (iter zh aI ((a0,a0,((List.length a0:Nat):Int),(0:Int),()),())) λy1=> .alt y1 (λy2=> .ret ((((decide (((List.length y2.1.1:Nat):Int)≤(6:Int))),()),()),((),()))) (λy3=> .ret (((y3.1.1,()),()),((),())))
def aob:Nat→Option au:=λn=>bw [(0,⟨⟨[.ro dp (some 0)]++dd 4++[.ro dp (some 0), .i .i64, .i .i64]++dd 39,[]⟩,⟨[.ro dp (some 0)]++dd 46,[]⟩,some ⟨[.dead, .dead, .b]++dd 44,[]⟩,false⟩)] n
def k65:bK:={ f:=65,lend:=true,aF:=[FS],lay:=[none],rs:=[wn],F:=λx=> .ret ((((gX x.1.1),()),()),((),())) }
theorem aix (x:aw k65.aF):bo [As,ME] aob Tryz.f65 k65 [.tmp 2] x=xg x.1.1:=by kernel_rfl
theorem aiy (hr:∀ x:(List (Int×List Int×Unit)×Unit)×Unit,aB k65.aF x→(xg x.1.1).eval=(k65.F x).eval):k65.Ok acl:=aD [As,ME] ⟨oJ,Dl,trivial⟩ aix λx hw _ hy=>(hr x hw).trans hy
theorem aiz:k65.Ok acl:=by
 refine aiy λx hw=> ?_;obtain ⟨⟨a,_⟩,_⟩:=x;have ha:a.length≤cj:=hw.1.1.1;show (xg a).eval=some (((gX a,()),()),((),()));unfold xg gX;have key:∀ i (hi:i<a.length),(zh ((a,(a,(((a.length:Nat):Int),(((i:Nat):Int),())))),())).eval=some (bif iF a i then .again ((a,(a,(((a.length:Nat):Int),(((i+1:Nat):Int),())))),()) else .ret ((false,()),())):=λi hi=>by
  have w1:=aq (i:=i) (by omega);have g:decide (((a[i].2.1.length:Nat):Int)>(8:Int))= !decide (a[i].2.1.length≤8):=oc (m:=8);cases i with
  |zero=>
   rw [uD hi];have w3:decide (((0:Nat):Int)>0)=false:=rfl;unfold fA;simp only [zh,Out.eval,iZ hi,pQ,bD hi,adN,aed,w3,g,w1];cases p1:dL a[0].1 0 5<;>cases p2:decide (a[0].2.1.length≤8)<;>cases p3:aH a[0].2.1<;>rfl
  |succ i=>
   rw [uE hi];have w2:=kz i;have w3:decide (((i+1:Nat):Int)>0)=true:=aac;unfold fA;simp only [zh,Out.eval,iZ hi,bD hi,bD (show i<a.length by omega),w1,w2,w3,g,rZ,adN,aed];cases p1:dL a[i+1].1 0 5<;>cases p2:decide (a[i].1<a[i+1].1)<;>cases p3:decide (a[i+1].2.1.length≤8)<;>cases p4:aH a[i+1].2.1<;>rfl
 have:=Gt (f:=zh) (λi=>((a,(a,(((a.length:Nat):Int),(((i:Nat):Int),())))),())) (iF a) a.length (y:=((a,()),())) (z:=((false,()),())) (ij ha)
  (by grind) (by grind) (by simp [zh,Out.eval])
 refine (aa this).trans ?_;have e2:decide (((a.length:Nat):Int)≤(6:Int))=decide (a.length≤6):=Ix (m:=6);cases (List.range a.length).all (iF a)
 . rw [Bool.and_false];rfl
 . rw [Bool.and_true, ← e2];rfl
def tv (a0:Int):Out gt:= .ite (decide (a0<(0:Int))) (.ret ((((abs ((abs ((-2:Int)*a0)) - (1:Int))),()),()),((),()))) (.ret ((((abs ((2:Int)*a0)),()),()),((),())))
def Fj:bK:={ f:=146,lend:=true,aF:=[wl],lay:=[none],rs:=[wl],F:=λx=> .ret ((((il x.1.1),()),()),((),())) }
theorem aaD (x:aw Fj.aF):bo [] (λ_=>none) Tryz.f146 Fj [.tmp 2] x=tv x.1.1:=by kernel_rfl
theorem aaE (hr:∀ x:(Int×Unit)×Unit,aB Fj.aF x→(tv x.1.1).eval=(Fj.F x).eval):Fj.Ok acl:=aD [] trivial aaD λx hw _ hy=>(hr x hw).trans hy
theorem OT:Fj.Ok acl:=by
 refine aaE λx _=> ?_;obtain ⟨⟨n,_⟩,_⟩:=x;show (tv n).eval=some (((il n,()),()),((),()));unfold tv il;by_cases h:n<0
 . rw [ab (aac h),aaZ h];rfl
 . rw [ae (adD h),aae h];rfl
abbrev Pr:=(List (Int)×List UInt8×Int×Unit)×(Unit)
def By:Pr→Out (Round Pr mt Empty)
|((p0,p1,p2,_),_)=> .ite (decide (p2<((List.length p0:Nat):Int))) (.ite (decide (0≤p2)) (.get (nth p0 (Int.toNat p2)) λy1=> .ite (decide (List.length p1+List.length (ay (il y1))≤bn)) (.ret (.again ((p0,(p1++(ay (il y1))),(abs (p2+(1:Int))),()),()))) .fail) .fail) (.ret (.out ((p1,()),())))
def tw (a0:List Int):Out gc:= .get (aP By aI ((a0,(ay ((List.length a0:Nat):Int)),(0:Int),()),())) λy1=> .ret (((y1.1.1,()),()),((),()))
def aiA:Nat→Option au:=λn=>bw [(0,⟨⟨[.ro (.int .i64) (some 0), .dead, .dead, .s, .i .i64]++dd 18,[]⟩,⟨[.dead, .dead, .dead, .s]++dd 19,[]⟩,none,false⟩)] n
def ft (l:List Int):Option bs:=lim (cQ l) (cQ l)
def Fk:bK:={ f:=122,lend:=true,aF:=[ww],lay:=[none],rs:=[wr],F:=λx=> .get (ft x.1.1) λy=> .ret (((y,()),()),((),())) }
theorem aaF (x:aw Fk.aF):bo [rq,Fj] aiA Tryz.f122 Fk [.tmp 2] x=tw x.1.1:=by kernel_rfl
theorem Vg (hr:∀ x:(List Int×Unit)×Unit,aB Fk.aF x→∀ y,(Fk.F x).eval=some y→(tw x.1.1).eval=some y):Fk.Ok acl:=aD [rq,Fj] ⟨s9,OT,trivial⟩ aaF hr
theorem OV:Fk.Ok acl:=by
 refine Vg λx hw y hy=> ?_;obtain ⟨⟨a,_⟩,_⟩:=x;have ha:a.length≤cj:=hw.1.1.1;change (Out.get (ft a) λy=>Out.ret (((y,()),()),((),()))).eval=some y at hy;show (tw a).eval=some y;unfold tw;unfold ft at hy;by_cases hl:(cQ a).length≤bn
 . rw [jj hl] at hy
   refine afk ?_ hy;have:=di (f:=By) (λn=>ay (il n)) a (λs i=>((a,(s,(((i:Nat):Int),()))),())) (λs=>((s,()),())) bn
    (λi hi s hs=>by
     have w1:=aq (i:=i) (by omega);simp_all [By,Out.eval,decide_eq_true])
    (by grind [By,Out.eval]) ha (ay ((a.length:Nat):Int)) (by grind [cQ,List.length_append])
   exact (aa this).trans rfl
 . rw [wz hl] at hy;exact nomatch hy
def xh (a0:Int):Out gc:= .ite (decide (a0<(0:Int))) (.ret ((((ay (abs ((abs ((-2:Int)*a0)) - (1:Int)))),()),()),((),()))) (.ret ((((ay (abs ((2:Int)*a0))),()),()),((),())))
def jY (n:Int):bs:=ay (il n)
def YZ:bK:={ f:=67,lend:=true,aF:=[wl],lay:=[none],rs:=[wr],F:=λx=> .ret ((((jY x.1.1),()),()),((),())) }
theorem aiB (x:aw YZ.aF):bo [JI] (λ_=>none) Tryz.f67 YZ [.tmp 2] x=xh x.1.1:=by kernel_rfl
theorem aiC (hr:∀ x:(Int×Unit)×Unit,aB YZ.aF x→(xh x.1.1).eval=(YZ.F x).eval):YZ.Ok acl:=aD [JI] ⟨yU,trivial⟩ aiB λx hw _ hy=>(hr x hw).trans hy
theorem TC:YZ.Ok acl:=by
 refine aiC λx _=> ?_;obtain ⟨⟨n,_⟩,_⟩:=x;show (xh n).eval=some (((jY n,()),()),((),()));unfold xh jY il;by_cases h:n<0
 . rw [ab (aac h),aaZ h];rfl
 . rw [ae (adD h),aae h];rfl
abbrev Vh:=(List UInt8×List (Int)×Int×Int×Unit)×(Unit)
def ID:Vh→Out (Round Vh mt Empty)
|((p0,p1,p2,p3,_),_)=> .ite (decide (p3<p2)) (.ite (decide (0≤p3)) (.get (nth p1 (Int.toNat p3)) λy1=> .ite (decide (List.length p0+List.length (jY y1)≤bn)) (.ret (.again (((p0++(jY y1)),p1,p2,(abs (p3+(1:Int))),()),()))) .fail) .fail) (.ret (.out ((p0,()),())))
def xi (a0:List Int):Out gc:= .get (aP ID aI (((ay ((List.length a0:Nat):Int)),a0,((List.length a0:Nat):Int),(0:Int),()),())) λy1=> .ret (((y1.1.1,()),()),((),()))
def aoc:Nat→Option au:=λn=>bw [(0,⟨⟨[.dead, .dead, .dead, .s]++dd 5++[.ro (.int .i64) (some 0), .i .i64, .i .i64]++dd 9,[]⟩,⟨[.dead, .dead, .dead, .s]++dd 17,[]⟩,none,false⟩)] n
def k21:bK:={ f:=21,lend:=true,aF:=[ww],lay:=[none],rs:=[wr],F:=λx=> .get (ft x.1.1) λy=> .ret (((y,()),()),((),())) }
theorem aiD (x:aw k21.aF):bo [JI,YZ] aoc Tryz.f21 k21 [.tmp 2] x=xi x.1.1:=by kernel_rfl
theorem aaG (hr:∀ x:(List Int×Unit)×Unit,aB k21.aF x→∀ y,(k21.F x).eval=some y→(xi x.1.1).eval=some y):k21.Ok acl:=aD [JI,YZ] ⟨yU,TC,trivial⟩ aiD hr
theorem ag6:k21.Ok acl:=by
 refine aaG λx hw y hy=> ?_;obtain ⟨⟨a,_⟩,_⟩:=x;have ha:a.length≤cj:=hw.1.1.1;change (Out.get (ft a) λy=>Out.ret (((y,()),()),((),()))).eval=some y at hy;show (xi a).eval=some y;unfold xi;unfold ft at hy;by_cases hl:(cQ a).length≤bn
 . rw [jj hl] at hy
   refine afk ?_ hy;have:=di (f:=ID) jY a (λs i=>((s,(a,(((a.length:Nat):Int),(((i:Nat):Int),())))),())) (λs=>((s,()),())) bn
    (λi hi s hs=>by
     have w1:=aq (i:=i) (by omega);simp_all [ID,Out.eval,decide_eq_true])
    (by grind [ID,Out.eval]) ha (ay ((a.length:Nat):Int)) (by unfold cQ at hl;rw [aaY] at hl;exact hl)
   exact (aa this).trans rfl
 . rw [wz hl] at hy;exact nomatch hy
abbrev Vi:=(List UInt8×Int×Int×Int×Int×List UInt8×Int×Bool×Unit)×(Unit)
def Dn:Vi→Out (Round Vi ((List UInt8×Int×Int×Int×List UInt8×Int×Bool×Unit)×(Unit)) Empty)
|((p0,p1,p2,p3,p4,p5,p6,p7,_),_)=> .ite (decide (p3≥(0:Int))) (.ite (decide (0≤p3)) (.get (nth p0 (Int.toNat p3)) λy1=> .ite ((128:Int)==0) .fail (.ret (.again ((p0,p1,(abs ((abs (p2*(128:Int)))+(Int.tmod (abs ((UInt8.toNat y1:Nat):Int)) (128:Int)))),(abs (p3 - (1:Int))),p4,p5,p6,p7,()),())))) .fail) (.ret (.out ((p0,p1,p2,p4,p5,p6,p7,()),())))
abbrev Vj:=(List UInt8×Int×Unit)×(Unit)
def zi:Vj→Out (Round Vj ((Unit)×(Unit)) ((Int×Int×Unit)×(Unit)))
|((p0,p1,_),_)=> .ite ((decide (p1≤(7:Int)))==true) (.ite (decide (p1≤((List.length p0:Nat):Int))) (.get (aP Dn aI ((p0,p1,(0:Int),(abs (p1 - (1:Int))),p1,p0,((List.length p0:Nat):Int),(decide (p1≤((List.length p0:Nat):Int))),()),())) λy1=> .ite (decide (0≤(0:Int)∧(0:Int)≤y1.1.2.1∧y1.1.2.1≤((List.length y1.1.1:Nat):Int))) (.ite ((ay y1.1.2.2.1)==(List.drop (Int.toNat (0:Int)) (List.take (Int.toNat y1.1.2.1) y1.1.1))) (.ret (.ret ((y1.1.2.2.1,y1.1.2.1,()),()))) (.ret (.again ((y1.1.1,(abs (y1.1.2.1+(1:Int))),()),())))) .fail) (.ret (.out ((),())))) (.ret (.out ((),())))
def xj (a0:List UInt8):Out (ul×(Unit×Unit)):= .get (iter zi aI ((a0,(1:Int),()),())) λy1=> .alt y1 (λ_=> .ret ((((0:Int),()),((0:Int),()),()),((),()))) (λy3=> .ret (((y3.1.1,()),(y3.1.2.1,()),()),((),())))
def aod:Nat→Option au:=λn=>bw [(0,⟨⟨[.s, .dead, .dead, .dead, .i .i64]++dd 34,[]⟩,⟨dd 39,[]⟩,some ⟨[.dead, .dead, .i .i64, .i .i64]++dd 35,[]⟩,false⟩),(2,⟨⟨[.s, .dead, .dead, .dead, .i .i64, .i .i64, .i .i64, .dead, .dead, .dead, .i .i64, .s, .i .i64, .b]++dd 25,[]⟩,⟨[.s, .dead, .dead, .dead, .i .i64, .i .i64]++dd 4++[.i .i64, .s, .i .i64, .b]++dd 25,[]⟩,none,false⟩)] n
def k87:bK:={ f:=87,lend:=true,aF:=[wr],lay:=[none],rs:=[wl,wl],F:=λx=> .ret ((((oe x.1.1).1,()),((oe x.1.1).2,()),()),((),())) }
theorem aiE (x:aw k87.aF):bo [rq] aod Tryz.f87 k87 [.tmp 2, .tmp 3] x=xj x.1.1:=by kernel_rfl
theorem aiF (hr:∀ x:(List UInt8×Unit)×Unit,aB k87.aF x→(xj x.1.1).eval=(k87.F x).eval):k87.Ok acl:=aD [rq] ⟨s9,trivial⟩ aiE λx hw _ hy=>(hr x hw).trans hy
theorem aiG:k87.Ok acl:=by
 refine aiF λx hw=> ?_;obtain ⟨⟨s,_⟩,_⟩:=x;show (xj s).eval=some ((((oe s).1,()),(((oe s).2,()),())),((),()));unfold xj;have inner:∀ (k:Nat) (b:Bool),k≤7→k≤s.length→aP Dn aI ((s,(((k:Nat):Int),((0:Int),((((k:Nat):Int) - 1),(((k:Nat):Int),(s,(((s.length:Nat):Int),(b,())))))))),())=
   some ((s,(((k:Nat):Int),(((dN (s.take k):Nat):Int),(((k:Nat):Int),(s,(((s.length:Nat):Int),(b,()))))))),()):=λk b hk hl=>by
  have e:=Gu (f:=Dn) (λj=>((s,(((k:Nat):Int),(((dN ((s.take k).drop (k - j)):Nat):Int),((((k:Nat):Int) - 1 - ((j:Nat):Int)),(((k:Nat):Int),(s,(((s.length:Nat):Int),(b,())))))))),())) k
   (y:=((s,(((k:Nat):Int),(((dN (s.take k):Nat):Int),(((k:Nat):Int),(s,(((s.length:Nat):Int),(b,()))))))),())) (show k<aI from afb hk (by decide))
   (λj hj=>by
    obtain ⟨i,hi⟩:∃ i,k=j+1+i:=⟨k - (j+1),by omega⟩
    have ra:i<s.length:=by omega
    have w2:((k:Nat):Int) - 1 - ((j:Nat):Int)=((i:Nat):Int):=by omega
    have w2':((k:Nat):Int) - 1 - ((j+1:Nat):Int)=((i:Nat):Int) - 1:=by omega
    have w3:decide (((i:Nat):Int)≥0)=true:=aac;have w4:abs (((i:Nat):Int) - 1)=((i:Nat):Int) - 1:=bt (by omega) (by omega);have w5:k - j=i+1:=by omega
    have w6:k - (j+1)=i:=by omega
    have ZB:i<(s.take k).length:=by rw [ae0];omega
    have w7:(s.take k).drop i=s[i]::(s.take k).drop (i+1):=by rw [aeC ZB,List.getElem_take]
    have hd:=qp ((s.take k).drop (i+1));have hd2:128 ^ ((s.take k).drop (i+1)).length≤128 ^ 6:=agt (by decide) (by rw [aec,ae0];omega);have w8:abs (abs (((dN ((s.take k).drop (i+1)):Nat):Int)*(128:Int))+Int.tmod (abs ((UInt8.toNat s[i]:Nat):Int)) (128:Int))=((dN ((s.take k).drop i):Nat):Int):=by
     have t:Int.tmod ((UInt8.toNat s[i]:Nat):Int) (128:Int)=((UInt8.toNat s[i] % 128:Nat):Int):=ah6 _ 128;rw [Gw,t,bt (n:=((dN ((s.take k).drop (i+1)):Nat):Int)*128) (by omega) (by omega),bt (by omega) (by omega),w7,dN];omega
    simp only [w2,w2',w5,w6,Dn,Out.eval,w3,w4,bD ra,w8,adN,aed];rfl)
   (by
    have w2:((k:Nat):Int) - 1 - ((k:Nat):Int)= -1:=by omega
    simp [Dn,Out.eval,w2])
  simpa [dN] using e
 have step:∀ i,i<min 7 s.length→(zi ((s,(((i+1:Nat):Int),())),())).eval=some (bif iR (s.take (i+1)) then .ret ((((dN (s.take (i+1)):Nat):Int),(((i+1:Nat):Int),())),()) else .again ((s,(((i+1+1:Nat):Int),())),())):=λi hi=>by
  have g1:decide (((i+1:Nat):Int)≤7)=true:=aac;have g2:decide (((i+1:Nat):Int)≤((s.length:Nat):Int))=true:=aac;have g3:abs (((i+1:Nat):Int) - 1)=((i+1:Nat):Int) - 1:=bt (by omega) (by omega);have g4:abs (((i+1:Nat):Int)+1)=((i+1+1:Nat):Int):=aq (by unfold cj;omega);have g5:decide (0≤(0:Int)∧(0:Int)≤((i+1:Nat):Int)∧((i+1:Nat):Int)≤((s.length:Nat):Int))=true:=aac;have g6:dN (s.take (i+1))<562949953421312:=by
   have h1:=qp (s.take (i+1));have h2:128 ^ (s.take (i+1)).length≤128 ^ 7:=agt (by decide) (by rw [ae0];omega);omega
  have g7:=inner (i+1) true (by omega) (by omega);have g8:(ay ((dN (s.take (i+1)):Nat):Int)==List.drop (Int.toNat (0:Int)) (List.take (Int.toNat ((i+1:Nat):Int)) s))=iR (s.take (i+1)):=by
   rw [jW g6,aeA,afH, ← xb (s.take (i+1)) (by intro e;have:=congrArg List.length e;rw [ae0,adC] at this;omega)];exact Iff.rfl
  simp only [zi,Out.eval,g1,g2,g3,g7,g5,g8,g4,adN,aed];cases iR (s.take (i+1))<;>rfl
 have hlen:(List.range (min 7 s.length)).length=min 7 s.length:=List.length_range;have:=ei (f:=zi) (List.range (min 7 s.length)) (λi=>iR (s.take (i+1))) (λi=>((s,(((i+1:Nat):Int),())),())) (y:=((),())) (z:=λi=>((((dN (s.take (i+1)):Nat):Int),(((i+1:Nat):Int),())),()))
  (by grind)
  (by grind)
  (by
   rw [hlen];by_cases h:s.length<7
   . have g1:decide (((min 7 s.length+1:Nat):Int)≤7)=true:=by grind
     have g2:decide (((min 7 s.length+1:Nat):Int)≤((s.length:Nat):Int))=false:=by grind
     simp only [zi,Out.eval,g1,g2];rfl
   simp_all [decide_eq_false,zi,Out.eval]) (by rw [hlen];unfold cj;omega)
 refine (aa this).trans ?_;have e:(List.range (min 7 s.length)).findIdx? (λi=>iR (s.take (i+1)))=sY s:=rfl;rw [e];unfold oe;cases sY s<;>rfl
theorem aaH (hi:i<7) (hn:n<128 ^ i) (hm:m<128):
  abs (((BitVec.ofInt (IntKind.bits IntKind.i64) ((n:Nat):Int) ||| BitVec.ofInt (IntKind.bits IntKind.i64) (abs (((m:Nat):Int)*2 ^ (min (Int.toNat (abs ((7:Int)*((i:Nat):Int)))) (IntKind.bits IntKind.i64))))).toNat:Nat):Int)=((n+128 ^ i*m:Nat):Int):=by
 have e1:abs ((7:Int)*((i:Nat):Int))=((7*i:Nat):Int):=by grind [bt]
 have e2:min (Int.toNat ((7*i:Nat):Int)) (IntKind.bits IntKind.i64)=7*i:=by show min (7*i) 64=7*i;omega
 have e3:(2:Nat) ^ (7*i)=128 ^ i:=by rw [Nat.pow_mul]
 have h6:128 ^ i≤128 ^ 6:=agt (by decide) (by omega);have hmul:128 ^ i*m≤4398046511104*127:=Nat.mul_le_mul (by omega) (by omega);have e4:((m:Nat):Int)*2 ^ (7*i)=((128 ^ i*m:Nat):Int):=by
  grind
 rw [e1,e2,e4,ng (a:=128 ^ i*m) (by grind)];have:=U6 (a:=n) (b:=128 ^ i*m) (by grind) (by grind);grind [Nat.two_pow_add_eq_or_of_lt,Nat.add_comm]
abbrev Vk:=(List UInt8×Int×Int×Unit)×(Unit)
def zj:Vk→Out (Round Vk ((Unit)×(Unit)) ((Int×Int×Unit)×(Unit)))
|((p0,p1,p2,_),_)=> .ite ((decide (p2<(7:Int)))==true) (.ite (decide (p2<((List.length p0:Nat):Int))) (.ite (decide (0≤p2)) (.get (nth p0 (Int.toNat p2)) λy1=> .ite (decide ((abs ((7:Int)*p2))<0)) .fail (.ite (decide ((abs ((UInt8.toNat y1:Nat):Int))>(127:Int))) (.ret (.again ((p0,(abs (((BitVec.ofInt (IntKind.bits IntKind.i64) p1 ||| BitVec.ofInt (IntKind.bits IntKind.i64) (abs ((abs (((BitVec.ofInt (IntKind.bits IntKind.i64) (abs ((UInt8.toNat y1:Nat):Int)) &&& BitVec.ofInt (IntKind.bits IntKind.i64) (127:Int)).toNat:Int)))*2 ^ (min (Int.toNat (abs ((7:Int)*p2))) (IntKind.bits IntKind.i64))))).toNat:Int))),(abs (p2+(1:Int))),()),()))) (.ite ((((abs ((UInt8.toNat y1:Nat):Int))==(0:Int)))==true) (.ite ((decide (p2>(0:Int)))==false) (.ite (decide ((abs (((BitVec.ofInt (IntKind.bits IntKind.i64) p1 ||| BitVec.ofInt (IntKind.bits IntKind.i64) (abs ((abs (((BitVec.ofInt (IntKind.bits IntKind.i64) (abs ((UInt8.toNat y1:Nat):Int)) &&& BitVec.ofInt (IntKind.bits IntKind.i64) (127:Int)).toNat:Int)))*2 ^ (min (Int.toNat (abs ((7:Int)*p2))) (IntKind.bits IntKind.i64))))).toNat:Int)))>(562949953421311:Int))) (.ret (.ret (((0:Int),(0:Int),()),()))) (.ret (.ret (((abs (((BitVec.ofInt (IntKind.bits IntKind.i64) p1 ||| BitVec.ofInt (IntKind.bits IntKind.i64) (abs ((abs (((BitVec.ofInt (IntKind.bits IntKind.i64) (abs ((UInt8.toNat y1:Nat):Int)) &&& BitVec.ofInt (IntKind.bits IntKind.i64) (127:Int)).toNat:Int)))*2 ^ (min (Int.toNat (abs ((7:Int)*p2))) (IntKind.bits IntKind.i64))))).toNat:Int))),(abs (p2+(1:Int))),()),())))) (.ret (.ret (((0:Int),(0:Int),()),())))) (.ite (decide ((abs (((BitVec.ofInt (IntKind.bits IntKind.i64) p1 ||| BitVec.ofInt (IntKind.bits IntKind.i64) (abs ((abs (((BitVec.ofInt (IntKind.bits IntKind.i64) (abs ((UInt8.toNat y1:Nat):Int)) &&& BitVec.ofInt (IntKind.bits IntKind.i64) (127:Int)).toNat:Int)))*2 ^ (min (Int.toNat (abs ((7:Int)*p2))) (IntKind.bits IntKind.i64))))).toNat:Int)))>(562949953421311:Int))) (.ret (.ret (((0:Int),(0:Int),()),()))) (.ret (.ret (((abs (((BitVec.ofInt (IntKind.bits IntKind.i64) p1 ||| BitVec.ofInt (IntKind.bits IntKind.i64) (abs ((abs (((BitVec.ofInt (IntKind.bits IntKind.i64) (abs ((UInt8.toNat y1:Nat):Int)) &&& BitVec.ofInt (IntKind.bits IntKind.i64) (127:Int)).toNat:Int)))*2 ^ (min (Int.toNat (abs ((7:Int)*p2))) (IntKind.bits IntKind.i64))))).toNat:Int))),(abs (p2+(1:Int))),()),()))))))) .fail) (.ret (.out ((),())))) (.ret (.out ((),())))
def xk (a0:List UInt8):Out (ul×(Unit×Unit)):= .get (iter zj aI ((a0,(0:Int),(0:Int),()),())) λy1=> .alt y1 (λ_=> .ret ((((0:Int),()),((0:Int),()),()),((),()))) (λy3=> .ret (((y3.1.1,()),(y3.1.2.1,()),()),((),())))
def aoe:Nat→Option au:=λn=>bw [(0,⟨⟨[.s, .dead, .dead, .dead, .i .i64, .i .i64]++dd 37,[]⟩,⟨dd 43,[]⟩,some ⟨[.dead, .dead, .i .i64, .i .i64]++dd 39,[]⟩,false⟩)] n
def k90:bK:={ f:=90,lend:=true,aF:=[wr],lay:=[none],rs:=[wl,wl],F:=λx=> .ret ((((oe x.1.1).1,()),((oe x.1.1).2,()),()),((),())) }
theorem aiH (x:aw k90.aF):bo [] aoe Tryz.f90 k90 [.tmp 2, .tmp 3] x=xk x.1.1:=by kernel_rfl
theorem aiI (hr:∀ x:(List UInt8×Unit)×Unit,aB k90.aF x→(xk x.1.1).eval=(k90.F x).eval):k90.Ok acl:=aD [] trivial aiH λx hw _ hy=>(hr x hw).trans hy
theorem aiJ:k90.Ok acl:=by
 refine aiI λx hw=> ?_;obtain ⟨⟨s,_⟩,_⟩:=x;show (xk s).eval=some ((((oe s).1,()),(((oe s).2,()),())),((),()));unfold xk;have hlen:(List.range (min 7 s.length)).length=min 7 s.length:=List.length_range;have step:∀ i (hi:i<min 7 s.length) (ra:i<s.length),(zj ((s,(((dN (s.take i):Nat):Int),(((i:Nat):Int),()))),())).eval=
   some (bif decide (s[i].toNat<128) then .ret (if 0<i∧s[i]=0 then ((0,(0,())),()) else ((((dN (s.take (i+1)):Nat):Int),(((i+1:Nat):Int),())),())) else .again ((s,(((dN (s.take (i+1)):Nat):Int),(((i+1:Nat):Int),()))),())):=λi hi ra=>by
  have g1:decide (((i:Nat):Int)<7)=true:=aac;have g2:decide (((i:Nat):Int)<((s.length:Nat):Int))=true:=aac;have g3:decide (abs ((7:Int)*((i:Nat):Int))<0)=false:=adD (by rw [bt (by omega) (by omega)];omega);have hb:=s[i].toNat_lt;have g4:abs (((BitVec.ofInt (IntKind.bits IntKind.i64) ((s[i].toNat:Nat):Int) &&& BitVec.ofInt (IntKind.bits IntKind.i64) (127:Int)).toNat:Nat):Int)=((s[i].toNat % 128:Nat):Int):=(Pk (a:=s[i].toNat) (b:=127) (by unfold cj;omega) (by decide)).trans (by rw [U9]);have hd:=qp (s.take i);have cf:(s.take i).length=i:=by rw [ae0];omega
  rw [cf] at hd;have g5:=aaH (i:=i) (n:=dN (s.take i)) (m:=s[i].toNat % 128) (by omega) hd (by omega);have g6:dN (s.take (i+1))=dN (s.take i)+128 ^ i*(s[i].toNat % 128):=by rw [mR ra,Gx,cf]
  rw [← g6] at g5;have g7:abs (((i:Nat):Int)+1)=((i+1:Nat):Int):=aq (by unfold cj;omega);have g8:decide (((dN (s.take (i+1)):Nat):Int)>562949953421311)=false:=adD (by
   have h1:=qp (s.take (i+1));have h2:128 ^ (s.take (i+1)).length≤128 ^ 7:=agt (by decide) (by rw [ae0];omega);omega)
  have g9:decide (((s[i].toNat:Nat):Int)>(127:Int))= !decide (s[i].toNat<128):=by rw [aeA];simp;omega
  have g10:decide (((i:Nat):Int)>0)=decide (0<i):=by rw [aeA];simp
  have g11:(((s[i].toNat:Nat):Int)==0)=decide (s[i]=0):=by
   rw [aeA];simp only [afH,adS];constructor
   . intro h;exact UInt8.toNat_inj.1 (by rw [show (0:UInt8).toNat=0 from rfl];omega)
   . intro h;rw [h];rfl
  simp only [zj,Out.eval,g1,g2,g3,pQ,bD ra,Gw,g4,g5,g7,g8,g9,g10,g11,adN,aed];by_cases q1:s[i].toNat<128
  . by_cases q2:s[i]=0
    . by_cases q3:0<i
      . rw [aac q1,aac q2,aac q3,aaZ ⟨q3,q2⟩];rfl
      . rw [aac q1,aac q2,adD q3,aae (λq=>q3 q.1)];rfl
    . rw [aac q1,adD q2,aae (λq=>q2 q.2)];rfl
  . rw [adD q1];rfl
 have:=ei (f:=zj) (List.range (min 7 s.length)) (λi=>decide ((s.getD i 0).toNat<128)) (λi=>((s,(((dN (s.take i):Nat):Int),(((i:Nat):Int),()))),())) (y:=((),())) (z:=λi=>if 0<i∧s.getD i 0=0 then ((0,(0,())),()) else ((((dN (s.take (i+1)):Nat):Int),(((i+1:Nat):Int),())),()))
  (λi hi hp=>by
   have ra:i<s.length:=by omega
   rw [List.getElem_range,aeq,aa7 ra,agh] at hp;rw [step i (by omega) ra,hp];rfl)
  (λi hi hp=>by
   have ra:i<s.length:=by omega
   rw [List.getElem_range,aeq,aa7 ra,agh] at hp;rw [step i (by omega) ra,hp,aeq,aa7 ra,agh];rfl)
  (by
   rw [hlen];by_cases h:s.length<7
   . have g1:decide (((min 7 s.length:Nat):Int)<7)=true:=aac
     have g2:decide (((min 7 s.length:Nat):Int)<((s.length:Nat):Int))=false:=adD;simp only [zj,Out.eval,g1,g2];rfl
   . have g1:decide (((min 7 s.length:Nat):Int)<7)=false:=adD
     simp only [zj,Out.eval,g1];rfl) (by rw [hlen];unfold cj;omega)
 simp only [List.take_zero,show dN []=0 from rfl] at this;refine (aa this).trans ?_;cases h:(List.range (min 7 s.length)).findIdx? (λi=>decide ((s.getD i 0).toNat<128)) with
 |none=>
  rw [agq] at h;have:sY s=none:=aif λi hi ra=>by
   have:=h i (List.mem_range.2 hi);grind
  rw [xc this];rfl
 |some i=>
  rw [afe] at h;obtain ⟨hi,hp,aap⟩:=h;have ra:i<s.length:=by omega
  rw [List.getElem_range,aeq,aa7 ra,agh] at hp;have hr:=aax (s:=s) (j:=i) (by omega) (by grind) (adR hp);have hg:s.getD i 0=s[i]:=by grind
  simp only [hg];by_cases q:0<i∧s[i]=0
  . simp_all [xc,Out.eval]
  simp_all [if_neg,Di,Out.eval]
abbrev Vl:=ne×(List (Int)×Unit)
def qs:Vl→Out (Round Vl to to)
|((p0,p1,p2,p3,_),p4,_)=> .ite (decide (p3<p2)) (.ite ((decide (p1<(0:Int)))==false) (.ite (decide (p1>((List.length p0:Nat):Int))) (.ret (.ret (((-1:Int),()),(p4,())))) (.ite (decide (0≤p1∧p1≤((List.length p0:Nat):Int))) (.ite (((oe (List.drop (Int.toNat p1) p0)).2==(0:Int))) (.ret (.ret (((-1:Int),()),(p4,())))) (.ite (decide (List.length p4+List.length ([(oe (List.drop (Int.toNat p1) p0)).1]:List (Int))≤bn)) (.ret (.again ((p0,(abs (p1+(oe (List.drop (Int.toNat p1) p0)).2)),p2,(abs (p3+(1:Int))),()),((p4++([(oe (List.drop (Int.toNat p1) p0)).1]:List (Int))),())))) .fail)) .fail)) (.ret (.ret (((-1:Int),()),(p4,()))))) (.ret (.out ((p1,()),(p4,()))))
def xl (a0:List UInt8) (a1 a2:Int):Out (((List Int×Unit)×(Int×Unit)×Unit)×(Unit×XI)):= .get (iter qs aI ((a0,a1,a2,(0:Int),()),(([]:List (Int)),()))) λy1=> .alt y1 (λy2=> .ret (((y2.2.1,()),(y2.1.1,()),()),((),(),(),()))) (λy3=> .ret (((y3.2.1,()),(y3.1.1,()),()),((),(),(),())))
abbrev NB:List (Nat×dT):=[(act, .arr (.int .i64))]
def aof:Nat→Option au:=λn=>bw [(0,⟨⟨[.s, .i .i64, .i .i64]++dd 5++[.aR act, .i .i64]++dd 36,NB⟩,⟨[.dead, .i .i64]++dd 6++[.aR act]++dd 37,NB⟩,some ⟨dd 6++[.aR act, .i .i64]++dd 38,NB⟩,false⟩)] n
def cS (s:bs) (p n:Int):Option (List Int×Int):=if n≤1000 then some (cc s n.toNat p []) else none
def JH:bK:={ f:=39,lend:=true,aF:=[wr,wl,wl],lay:=[none,none,none],rs:=[Fd,wl],F:=λx=> .get (cS x.1.1 x.2.1.1 x.2.2.1.1) λy=> .ret (((y.1,()),(y.2,()),()),((),(),(),())) }
theorem aiK (x:aw JH.aF):bo [k87] aof Tryz.f39 JH [.tmp 6, .tmp 7] x=xl x.1.1 x.2.1.1 x.2.2.1.1:=by kernel_rfl
theorem aaI (hr:∀ x:(List UInt8×Unit)×(Int×Unit)×(Int×Unit)×Unit,aB JH.aF x→∀ y,(JH.F x).eval=some y→(xl x.1.1 x.2.1.1 x.2.2.1.1).eval=some y):JH.Ok acl:=aD [k87] ⟨aiG,trivial⟩ aiK hr
theorem yQ:JH.Ok acl:=by
 refine aaI λx hw y hy=> ?_;obtain ⟨⟨s,_⟩,⟨p,_⟩,⟨n,_⟩,_⟩:=x;have hs:s.length≤cj:=hw.1.1;change (Out.get (cS s p n) λy=>Out.ret (((y.1,()),((y.2,()),())),((),((),((),()))))).eval=some y at hy;show (xl s p n).eval=some y;unfold cS at hy;split at hy
 case isFalse=>exact nomatch hy
 rename_i hn;refine afk ?_ hy;have key:∀ (m i N:Nat) (p:Int) (out:List Int),i+m=n.toNat→m<N→out.length≤i→∃ r,iter qs N ((s,(p,(n,(((i:Nat):Int),())))),(out,()))=some r∧
   (r= .inl (((cc s m p out).2,()),((cc s m p out).1,()))∨r= .inr (((cc s m p out).2,()),((cc s m p out).1,()))):=by
  intro m
  induction m with
  |zero=>
   intro i N p out hi hN _;have w3:decide (((i:Nat):Int)<n)=false:=by grind
   refine ⟨_,jx (y:=((p,()),(out,()))) ?_ hN, .inl rfl⟩;grind [qs,Out.eval]
  |succ m ih=>
   intro i N p out hi hN ho;have w3:decide (((i:Nat):Int)<n)=true:=by grind
   have stop:∀ (h:(qs ((s,(p,(n,(((i:Nat):Int),())))),(out,()))).eval=some (.ret ((-1,()),(out,())))),cc s (m+1) p out=(out, -1)→∃ r,iter qs N ((s,(p,(n,(((i:Nat):Int),())))),(out,()))=some r∧
    (r= .inl (((cc s (m+1) p out).2,()),((cc s (m+1) p out).1,()))∨r= .inr (((cc s (m+1) p out).2,()),((cc s (m+1) p out).1,()))):=λh e=>⟨_,lu h (by omega),by grind⟩
   by_cases h1:p<0
   . simp_all [cc,qs,Out.eval,decide_eq_true]
   . by_cases h2:((s.length:Nat):Int)<p
     . simp_all [cc,decide_eq_true,qs,Out.eval,decide_eq_false]
     . have g:decide (p>((s.length:Nat):Int))=false:=adD h2
       have g2:decide (0≤p∧p≤((s.length:Nat):Int))=true:=by grind
       have hb:=vj (s.drop p.toNat);rw [aec] at hb;by_cases h3:(oe (s.drop p.toNat)).2=0
       . simp_all [cc,qs,Out.eval,decide_eq_false]
       . have g3:((oe (s.drop p.toNat)).2==(0:Int))=false:=by simpa using h3
         have g4:decide (out.length+([(oe (s.drop p.toNat)).1]:List Int).length≤bn)=true:=by grind
         have g5:abs (p+(oe (s.drop p.toNat)).2)=p+(oe (s.drop p.toNat)).2:=bt (by omega) (by grind);have g6:=aq (i:=i) (by grind);have e:cc s (m+1) p out=cc s m (p+(oe (s.drop p.toNat)).2) (out++[(oe (s.drop p.toNat)).1]):=by
          simp_all [cc,if_neg]
         obtain ⟨N,rfl⟩:∃ N',N=N'+1:=⟨N - 1,by omega⟩
         rw [e,je (x':=((s,(p+(oe (s.drop p.toNat)).2,(n,(((i+1:Nat):Int),())))),(out++[(oe (s.drop p.toNat)).1],())))]
         . exact ih (i+1) N _ _ (by omega) (by omega) (by simp;omega)
         grind [qs,Out.eval,decide_eq_false]
 obtain ⟨r,e,h⟩:=key n.toNat 0 aI p [] (by omega) (by grind) (by simp);unfold xl;refine (aa e).trans ?_;rcases h with h|h<;>subst h<;>rfl
def xm (a0:List UInt8) (a1:Bool):Out (((Int×Unit)×Unit)×un):= .ite (a1==false) (.ite (((oe a0).2==(0:Int))) (.ret ((((0:Int),()),()),((a0,true,()),()))) (.ite (decide (0≤(oe a0).2∧(oe a0).2≤((List.length a0:Nat):Int))) (.ret ((((oe a0).1,()),()),(((List.drop (Int.toNat (oe a0).2) a0),a1,()),()))) .fail)) (.ret ((((0:Int),()),()),((a0,true,()),())))
def MC:bK:={ f:=50,lend:=true,aF:=[EQ],lay:=[none],rs:=[wl],F:=λx=> .ret ((((ag x.1.1 x.1.2.1).1,()),()),(((ag x.1.1 x.1.2.1).2.1,(ag x.1.1 x.1.2.1).2.2,()),())) }
theorem aiL (x:aw MC.aF):bo [k90] (λ_=>none) Tryz.f50 MC [.tmp 2] x=xm x.1.1 x.1.2.1:=by kernel_rfl
theorem aiM (hr:∀ x:(List UInt8×Bool×Unit)×Unit,aB MC.aF x→(xm x.1.1 x.1.2.1).eval=(MC.F x).eval):MC.Ok acl:=aD [k90] ⟨aiJ,trivial⟩ aiL λx hw _ hy=>(hr x hw).trans hy
theorem Co:MC.Ok acl:=by
 refine aiM λx _=> ?_;obtain ⟨⟨s,b,_⟩,_⟩:=x;show (xm s b).eval=some ((((ag s b).1,()),()),(((ag s b).2.1,((ag s b).2.2,())),()));have hb:=vj s;grind [oe,decide_eq_true,xm,ag,Out.eval]
def xn (a0:List UInt8) (a1:Bool) (a2:Int):Out (((Int×Unit)×Unit)×((List UInt8×Bool×Unit)×Unit×Unit)):= .ite (decide ((ag a0 a1).1>a2)) (.ret ((((0:Int),()),()),(((ag a0 a1).2.1,true,()),(),()))) (.ret ((((ag a0 a1).1,()),()),(((ag a0 a1).2.1,(ag a0 a1).2.2,()),(),())))
def OQ:bK:={ f:=51,lend:=true,aF:=[EQ,wl],lay:=[none,none],rs:=[wl],F:=λx=> .ret ((((cm x.1.1 x.1.2.1 x.2.1.1).1,()),()),(((cm x.1.1 x.1.2.1 x.2.1.1).2.1,(cm x.1.1 x.1.2.1 x.2.1.1).2.2,()),(),())) }
theorem aiN (x:aw OQ.aF):bo [MC] (λ_=>none) Tryz.f51 OQ [.tmp 4] x=xn x.1.1 x.1.2.1 x.2.1.1:=by kernel_rfl
theorem aiO (hr:∀ x:(List UInt8×Bool×Unit)×(Int×Unit)×Unit,aB OQ.aF x→(xn x.1.1 x.1.2.1 x.2.1.1).eval=(OQ.F x).eval):OQ.Ok acl:=aD [MC] ⟨Co,trivial⟩ aiN λx hw _ hy=>(hr x hw).trans hy
theorem Ia:OQ.Ok acl:=by
 refine aiO λx _=> ?_;obtain ⟨⟨s,b,_⟩,⟨m,_⟩,_⟩:=x;show (xn s b m).eval=some ((((cm s b m).1,()),()),(((cm s b m).2.1,((cm s b m).2.2,())),((),())));unfold xn cm;by_cases h:(ag s b).1>m
 . rw [ab (aac h),aaZ h];rfl
 . rw [ae (adD h),aae h];rfl
def xo (a0:Int):Out gt:= .ite ((2:Int)==0) .fail (.ite (((Int.tmod a0 (2:Int))==(1:Int))) (.ite ((2:Int)==0) .fail (.ret ((((abs (Int.tdiv (abs (0 - (abs (a0+(1:Int))))) (2:Int))),()),()),((),())))) (.ite ((2:Int)==0) .fail (.ret ((((abs (Int.tdiv a0 (2:Int))),()),()),((),())))))
def Si:bK:={ f:=88,lend:=true,aF:=[wl],lay:=[none],rs:=[wl],F:=λx=> .ret ((((dA x.1.1),()),()),((),())) }
theorem aiP (x:aw Si.aF):bo [] (λ_=>none) Tryz.f88 Si [.tmp 2] x=xo x.1.1:=by kernel_rfl
theorem aiQ (hr:∀ x:(Int×Unit)×Unit,aB Si.aF x→(xo x.1.1).eval=(Si.F x).eval):Si.Ok acl:=aD [] trivial aiP λx hw _ hy=>(hr x hw).trans hy
theorem Na:Si.Ok acl:=by
 refine aiQ λx _=> ?_;obtain ⟨⟨n,_⟩,_⟩:=x;show (xo n).eval=some (((dA n,()),()),((),()));grind [xo,dA,Int.tmod,Out.eval]
def xp (a0:Int):Out gt:= .ite ((2:Int)==0) .fail (.ite (((Int.tmod a0 (2:Int))==(1:Int))) (.ite ((2:Int)==0) .fail (.ret ((((abs (Int.tdiv (abs (0 - (abs (a0+(1:Int))))) (2:Int))),()),()),((),())))) (.ite ((2:Int)==0) .fail (.ret ((((abs (Int.tdiv a0 (2:Int))),()),()),((),())))))
def YY:bK:={ f:=91,lend:=true,aF:=[wl],lay:=[none],rs:=[wl],F:=λx=> .ret ((((dA x.1.1),()),()),((),())) }
theorem aiR (x:aw YY.aF):bo [] (λ_=>none) Tryz.f91 YY [.tmp 2] x=xp x.1.1:=by kernel_rfl
theorem aiS (hr:∀ x:(Int×Unit)×Unit,aB YY.aF x→(xp x.1.1).eval=(YY.F x).eval):YY.Ok acl:=aD [] trivial aiR λx hw _ hy=>(hr x hw).trans hy
theorem Tr:YY.Ok acl:=by
 refine aiS λx _=> ?_;obtain ⟨⟨n,_⟩,_⟩:=x;show (xp n).eval=some (((dA n,()),()),((),()));grind [xp,dA,Int.tmod,Out.eval]
theorem mD (s:bs) (p:Int) (h:n≤1000):cS s p ((n:Nat):Int)=some (cc s n p []):=by
 unfold cS;grind
theorem aaJ (s:bs) (bad:Bool):0≤(ag s bad).1:=by
 unfold ag;split
 . grind
 simp_all [vj]
theorem Cp (s:bs) (bad:Bool) (m:Int) (hm:0≤m):0≤(cm s bad m).1∧(cm s bad m).1≤m:=by
 have:=aaJ s bad;unfold cm;grind
abbrev ar:=Int×(Int×(Int×(Int×Unit)))
def eT (n:Int):Bool:=decide (0≤n)&&decide (n<4)
def oG (n:Int):Bool:=dL n 0 40
def tx (a0:Int):Out ci:= .ite ((decide (a0≥(0:Int)))==true) (.ret ((((decide (a0<(4:Int))),()),()),((),()))) (.ret (((false,()),()),((),())))
def K2:bK:={ f:=145,lend:=true,aF:=[wl],lay:=[none],rs:=[wn],F:=λx=> .ret ((((eT x.1.1),()),()),((),())) }
theorem aaK (x:aw K2.aF):bo [] (λ_=>none) Tryz.f145 K2 [.tmp 2] x=tx x.1.1:=by kernel_rfl
theorem aaL (hr:∀ x:(Int×Unit)×Unit,aB K2.aF x→(tx x.1.1).eval=(K2.F x).eval):K2.Ok acl:=aD [] trivial aaK λx hw _ hy=>(hr x hw).trans hy
theorem aaM:K2.Ok acl:=by
 refine aaL λx _=> ?_;obtain ⟨⟨n,_⟩,_⟩:=x;show (tx n).eval=some (((eT n,()),()),((),()));grind [tx,eT,Out.eval]
def tz (a0:Int):Out ci:= .ret ((((dL a0 (0:Int) (3:Int)),()),()),((),()))
def K3:bK:={ f:=130,lend:=true,aF:=[wl],lay:=[none],rs:=[wn],F:=λx=> .ret ((((eT x.1.1),()),()),((),())) }
theorem aaN (x:aw K3.aF):bo [As] (λ_=>none) Tryz.f130 K3 [.tmp 2] x=tz x.1.1:=by kernel_rfl
theorem aaO (hr:∀ x:(Int×Unit)×Unit,aB K3.aF x→(tz x.1.1).eval=(K3.F x).eval):K3.Ok acl:=aD [As] ⟨oJ,trivial⟩ aaN λx hw _ hy=>(hr x hw).trans hy
theorem aaP:K3.Ok acl:=by
 refine aaO λx _=> ?_;obtain ⟨⟨n,_⟩,_⟩:=x;show (tz n).eval=some (((eT n,()),()),((),()));have h4:decide (n≤3)=decide (n<4):=by grind
 unfold tz eT dL;rw [h4];rfl
def GC (a0:Int):Out ci:= .ret ((((dL a0 (0:Int) (40:Int)),()),()),((),()))
def Fo:bK:={ f:=131,lend:=true,aF:=[wl],lay:=[none],rs:=[wn],F:=λx=> .ret ((((oG x.1.1),()),()),((),())) }
theorem aaQ (x:aw Fo.aF):bo [As] (λ_=>none) Tryz.f131 Fo [.tmp 2] x=GC x.1.1:=by kernel_rfl
theorem aaR (hr:∀ x:(Int×Unit)×Unit,aB Fo.aF x→(GC x.1.1).eval=(Fo.F x).eval):Fo.Ok acl:=aD [As] ⟨oJ,trivial⟩ aaQ λx hw _ hy=>(hr x hw).trans hy
theorem Ps:Fo.Ok acl:=aaR λ_ _=>rfl
def gg (o a b c:Int):Bool:=
 bif o==1 then eT a&&(dL b (-1000000) 1000000&&(c==0)) else
 bif o==2 then eT a&&(eT b&&eT c) else
 bif o==3 then eT a&&(eT b&&eT c) else
 bif o==4 then eT a&&(eT b&&(c==0)) else
 bif o==5 then eT a&&(eT b&&(c==0)) else
 bif o==6 then dL a 0 40&&((b==0)&&(c==0)) else
 bif o==7 then eT a&&(dL b 0 40&&(c==0)) else
 bif o==8 then dL a 1 20&&((b==0)&&(c==0)) else false
theorem zero_eq (n:Int):((0:Int)==n)=(n==0):=by
 grind
def tA (a0 a1 a2 a3:Int):Out ci:= .ite ((a0==(1:Int))) (.ite ((eT a1)==true) (.ite ((dL a2 (-1000000:Int) (1000000:Int))==true) (.ret (((((a0==a0)&&((a1==a1)&&((a2==a2)&&(((0:Int)==a3)&&true)))),()),()),((),()))) (.ret (((false,()),()),((),())))) (.ret (((false,()),()),((),())))) (.ite ((a0==(2:Int))) (.ite ((eT a1)==true) (.ite ((eT a2)==true) (.ite ((eT a3)==true) (.ret (((((a0==a0)&&((a1==a1)&&((a2==a2)&&((a3==a3)&&true)))),()),()),((),()))) (.ret (((false,()),()),((),())))) (.ret (((false,()),()),((),())))) (.ret (((false,()),()),((),())))) (.ite ((a0==(3:Int))) (.ite ((eT a1)==true) (.ite ((eT a2)==true) (.ite ((eT a3)==true) (.ret (((((a0==a0)&&((a1==a1)&&((a2==a2)&&((a3==a3)&&true)))),()),()),((),()))) (.ret (((false,()),()),((),())))) (.ret (((false,()),()),((),())))) (.ret (((false,()),()),((),())))) (.ite ((a0==(4:Int))) (.ite ((eT a1)==true) (.ite ((eT a2)==true) (.ret (((((a0==a0)&&((a1==a1)&&((a2==a2)&&(((0:Int)==a3)&&true)))),()),()),((),()))) (.ret (((false,()),()),((),())))) (.ret (((false,()),()),((),())))) (.ite ((a0==(5:Int))) (.ite ((eT a1)==true) (.ite ((eT a2)==true) (.ret (((((a0==a0)&&((a1==a1)&&((a2==a2)&&(((0:Int)==a3)&&true)))),()),()),((),()))) (.ret (((false,()),()),((),())))) (.ret (((false,()),()),((),())))) (.ite ((a0==(6:Int))) (.ite ((dL a1 (0:Int) (40:Int))==true) (.ret (((((a0==a0)&&((a1==a1)&&(((0:Int)==a2)&&(((0:Int)==a3)&&true)))),()),()),((),()))) (.ret (((false,()),()),((),())))) (.ite ((a0==(7:Int))) (.ite ((eT a1)==true) (.ite ((dL a2 (0:Int) (40:Int))==true) (.ret (((((a0==a0)&&((a1==a1)&&((a2==a2)&&(((0:Int)==a3)&&true)))),()),()),((),()))) (.ret (((false,()),()),((),())))) (.ret (((false,()),()),((),())))) (.ite ((a0==(8:Int))) (.ite ((dL a1 (1:Int) (20:Int))==true) (.ret (((((a0==a0)&&((a1==a1)&&(((0:Int)==a2)&&(((0:Int)==a3)&&true)))),()),()),((),()))) (.ret (((false,()),()),((),())))) (.ret (((false,()),()),((),()))))))))))
def K4:bK:={ f:=116,lend:=true,aF:=[Id],lay:=[none],rs:=[wn],F:=λx=> .ret ((((gg x.1.1 x.1.2.1 x.1.2.2.1 x.1.2.2.2.1),()),()),((),())) }
theorem aaS (x:aw K4.aF):bo [K2,wZ] (λ_=>none) Tryz.f116 K4 [.tmp 2] x=tA x.1.1 x.1.2.1 x.1.2.2.1 x.1.2.2.2.1:=by kernel_rfl
theorem aaT (hr:∀ x:(Int×Int×Int×Int×Unit)×Unit,aB K4.aF x→(tA x.1.1 x.1.2.1 x.1.2.2.1 x.1.2.2.2.1).eval=(K4.F x).eval):K4.Ok acl:=aD [K2,wZ] ⟨aaM,kW,trivial⟩ aaS λx hw _ hy=>(hr x hw).trans hy
theorem aaU:K4.Ok acl:=by
 refine aaT λx _=> ?_;obtain ⟨⟨o,a,b,c,_⟩,_⟩:=x;show (tA o a b c).eval=some (((gg o a b c,()),()),((),()));unfold tA gg;simp only [Out.eval,zero_eq,beq_self_eq_true,agd,Bool.and_true];grind
def xq (a0 a1 a2 a3:Int):Out ci:= .ite ((a0==(1:Int))) (.ite ((eT a1)==true) (.ite ((b9 a2)==true) (.ret (((((a3==(0:Int))),()),()),((),()))) (.ret (((false,()),()),((),())))) (.ret (((false,()),()),((),())))) (.ite ((a0==(2:Int))) (.ite ((eT a1)==true) (.ite ((eT a2)==true) (.ret ((((eT a3),()),()),((),()))) (.ret (((false,()),()),((),())))) (.ret (((false,()),()),((),())))) (.ite ((a0==(3:Int))) (.ite ((eT a1)==true) (.ite ((eT a2)==true) (.ret ((((eT a3),()),()),((),()))) (.ret (((false,()),()),((),())))) (.ret (((false,()),()),((),())))) (.ite ((a0==(4:Int))) (.ite ((eT a1)==true) (.ite ((eT a2)==true) (.ret (((((a3==(0:Int))),()),()),((),()))) (.ret (((false,()),()),((),())))) (.ret (((false,()),()),((),())))) (.ite ((a0==(5:Int))) (.ite ((eT a1)==true) (.ite ((eT a2)==true) (.ret (((((a3==(0:Int))),()),()),((),()))) (.ret (((false,()),()),((),())))) (.ret (((false,()),()),((),())))) (.ite ((a0==(6:Int))) (.ite ((oG a1)==true) (.ite (((a2==(0:Int)))==true) (.ret (((((a3==(0:Int))),()),()),((),()))) (.ret (((false,()),()),((),())))) (.ret (((false,()),()),((),())))) (.ite ((a0==(7:Int))) (.ite ((eT a1)==true) (.ite ((oG a2)==true) (.ret (((((a3==(0:Int))),()),()),((),()))) (.ret (((false,()),()),((),())))) (.ret (((false,()),()),((),())))) (.ite ((a0==(8:Int))) (.ite ((dL a1 (1:Int) (20:Int))==true) (.ite (((a2==(0:Int)))==true) (.ret (((((a3==(0:Int))),()),()),((),()))) (.ret (((false,()),()),((),())))) (.ret (((false,()),()),((),())))) (.ret (((false,()),()),((),()))))))))))
def k98:bK:={ f:=98,lend:=true,aF:=[Id],lay:=[none],rs:=[wn],F:=λx=> .ret ((((gg x.1.1 x.1.2.1 x.1.2.2.1 x.1.2.2.2.1),()),()),((),())) }
theorem aiT (x:aw k98.aF):bo [K3,Sp,Fo,As] (λ_=>none) Tryz.f98 k98 [.tmp 2] x=xq x.1.1 x.1.2.1 x.1.2.2.1 x.1.2.2.2.1:=by kernel_rfl
theorem aiU (hr:∀ x:(Int×Int×Int×Int×Unit)×Unit,aB k98.aF x→(xq x.1.1 x.1.2.1 x.1.2.2.1 x.1.2.2.2.1).eval=(k98.F x).eval):k98.Ok acl:=aD [K3,Sp,Fo,As] ⟨aaP,NA,Ps,oJ,trivial⟩ aiT λx hw _ hy=>(hr x hw).trans hy
theorem aiV:k98.Ok acl:=by
 refine aiU λx _=> ?_;obtain ⟨⟨o,a,b,c,_⟩,_⟩:=x;show (xq o a b c).eval=some (((gg o a b c,()),()),((),()));unfold xq gg oG b9;simp only [Out.eval];grind
def K5 (a0 a1 a2 a3:Int):Out ci:= .ret ((((!(gg a0 a1 a2 a3)),()),()),((),()))
def Bz (o a b c:Int):Bool:= !gg o a b c
def k97:bK:={ f:=97,lend:=true,aF:=[Id],lay:=[none],rs:=[wn],F:=λx=> .ret ((((Bz x.1.1 x.1.2.1 x.1.2.2.1 x.1.2.2.2.1),()),()),((),())) }
theorem aiW (x:aw k97.aF):bo [k98] (λ_=>none) Tryz.f97 k97 [.tmp 2] x=K5 x.1.1 x.1.2.1 x.1.2.2.1 x.1.2.2.2.1:=by kernel_rfl
theorem aiX (hr:∀ x:(Int×Int×Int×Int×Unit)×Unit,aB k97.aF x→(K5 x.1.1 x.1.2.1 x.1.2.2.1 x.1.2.2.2.1).eval=(k97.F x).eval):k97.Ok acl:=aD [k98] ⟨aiV,trivial⟩ aiW λx hw _ hy=>(hr x hw).trans hy
theorem aiY:k97.Ok acl:=aiX λ_ _=>rfl
def du (x:ar):Bool:=gg x.1 x.2.1 x.2.2.1 x.2.2.2.1
def bm (l:List ar):Bool:=decide (l.length≤40)&&l.all du
abbrev Vm:=(List ((Int×Int×Int×Int×Unit))×Int×Unit)×(Unit)
def Dp:Vm→Out (Round Vm ((Unit)×(Unit)) ((Bool×Unit)×(Unit)))
|((p0,p1,_),_)=> .ite (decide (p1<((List.length p0:Nat):Int))) (.ite (decide (0≤p1)) (.get (nth p0 (Int.toNat p1)) λy1=> .ite (!(gg y1.1 y1.2.1 y1.2.2.1 y1.2.2.2.1)) (.ret (.ret ((false,()),()))) (.ret (.again ((p0,(abs (p1+(1:Int))),()),())))) .fail) (.ret (.out ((),())))
def xr (a0:List (Int×Int×Int×Int×Unit)):Out ci:= .ite (decide (((List.length a0:Nat):Int)>(40:Int))) (.ret (((false,()),()),((),()))) (.get (iter Dp aI ((a0,(0:Int),()),())) λy1=> .alt y1 (λ_=> .ret (((true,()),()),((),()))) (λy3=> .ret (((y3.1.1,()),()),((),()))))
def aog:Nat→Option au:=λn=>bw [(0,⟨⟨[.ro cT (some 0), .dead, .dead, .i .i64]++dd 15,[]⟩,⟨dd 19,[]⟩,some ⟨[.dead, .dead, .b]++dd 16,[]⟩,false⟩)] n
def Y0:bK:={ f:=71,lend:=true,aF:=[At],lay:=[none],rs:=[wn],F:=λx=> .ret ((((bm x.1.1),()),()),((),())) }
theorem aiZ (x:aw Y0.aF):bo [K4] aog Tryz.f71 Y0 [.tmp 2] x=xr x.1.1:=by kernel_rfl
theorem ai0 (hr:∀ x:pl×Unit,aB Y0.aF x→(xr x.1.1).eval=(Y0.F x).eval):Y0.Ok acl:=aD [K4] ⟨aaU,trivial⟩ aiZ λx hw _ hy=>(hr x hw).trans hy
theorem TU:Y0.Ok acl:=by
 refine ai0 λx hw=> ?_;obtain ⟨⟨a,_⟩,_⟩:=x;have ha:a.length≤cj:=hw.1.1.1;show (xr a).eval=some (((bm a,()),()),((),()));unfold xr bm;have e2:decide (((a.length:Nat):Int)>(40:Int))= !decide (a.length≤40):=oc (m:=40);rw [e2];by_cases h1:a.length≤40
 . rw [ae (by simp [h1]),aac h1,agd]
   have:=KT (f:=Dp) a du (λi=>((a,(((i:Nat):Int),())),())) (y:=((),())) (z:=((false,()),()))
    (λi hi hp=>by
     have g1:=aq (i:=i) (by omega);have hp:gg a[i].1 a[i].2.1 a[i].2.2.1 a[i].2.2.2.1=true:=hp;simp [Dp,Out.eval,hi,g1,hp])
    (λi hi hp=>by
     have hp:gg a[i].1 a[i].2.1 a[i].2.2.1 a[i].2.2.2.1=false:=hp;grind [Dp,Out.eval])
    (by simp [Dp,Out.eval]) ha
   refine (aa this).trans ?_;cases a.all du<;>rfl
 . rw [ab (by simp [h1]),adD h1];rfl
abbrev Pt:=(List ((Int×Int×Int×Int×Unit))×Int×Int×Unit)×(Unit)
def xt:Pt→Out (Round Pt ((Unit)×(Unit)) ((Int×Unit)×(Unit)))
|((p0,p1,p2,_),_)=> .ite (decide (p2<p1)) (.ite (decide (0≤p2)) (.get (nth p0 (Int.toNat p2)) λy1=> .ite (Bz y1.1 y1.2.1 y1.2.2.1 y1.2.2.2.1) (.ret (.ret ((p2,()),()))) (.ret (.again ((p0,p1,(abs (p2+(1:Int))),()),())))) .fail) (.ret (.out ((),())))
def tB (a0:List (Int×Int×Int×Int×Unit)):Out gt:= .get (iter xt aI ((a0,((List.length a0:Nat):Int),(0:Int),()),())) λy1=> .alt y1 (λ_=> .ret ((((-1:Int),()),()),((),()))) (λy3=> .ret (((y3.1.1,()),()),((),())))
def ai1:Nat→Option au:=λn=>bw [(0,⟨⟨[.ro cT (some 0), .fn 97 []]++dd 5++[.i .i64, .i .i64]++dd 10,[]⟩,⟨dd 19,[]⟩,some ⟨dd 4++[.i .i64]++dd 14,[]⟩,false⟩)] n
def pf (a:List ar):Int:=vS (a.findIdx? λx=> !du x)
def K6:bK:={ f:=129,lend:=true,aF:=[At],lay:=[none,some (97,0)],rs:=[wl],F:=λx=> .ret ((((pf x.1.1),()),()),((),())) }
theorem aaV (x:aw K6.aF):bo [k97] ai1 Tryz.f129 K6 [.tmp 4] x=tB x.1.1:=by kernel_rfl
theorem aaW (hr:∀ x:pl×Unit,aB K6.aF x→(tB x.1.1).eval=(K6.F x).eval):K6.Ok acl:=aD [k97] ⟨aiY,trivial⟩ aaV λx hw _ hy=>(hr x hw).trans hy
theorem aaX:K6.Ok acl:=by
 refine aaW λx hw=> ?_;obtain ⟨⟨a,_⟩,_⟩:=x;have ha:a.length≤cj:=hw.1.1.1;show (tB a).eval=some (((pf a,()),()),((),()));unfold tB pf;have:=ei (f:=xt) a (λx:ar=> !du x) (λi=>((a,(((a.length:Nat):Int),(((i:Nat):Int),()))),())) (y:=((),())) (z:=λi=>((((i:Nat):Int),()),()))
  (λi hi hp=>by
   have g1:=aq (i:=i) (by omega);have hp:Bz a[i].1 a[i].2.1 a[i].2.2.1 a[i].2.2.2.1=false:=hp;simp [xt,Out.eval,hi,g1,hp])
  (λi hi hp=>by
   have hp:Bz a[i].1 a[i].2.1 a[i].2.2.1 a[i].2.2.2.1=true:=hp;grind [xt,Out.eval])
  (by simp [xt,Out.eval]) ha
 refine (aa this).trans ?_;cases a.findIdx? (λx:ar=> !du x)<;>rfl
def xu (a0:List (Int×Int×Int×Int×Unit)):Out ci:= .ret ((((decide ((pf a0)≥(0:Int))),()),()),((),()))
def xv (a:List ar):Bool:=a.any λx=> !du x
def k96:bK:={ f:=96,lend:=true,aF:=[At],lay:=[none,some (97,0)],rs:=[wn],F:=λx=> .ret ((((xv x.1.1),()),()),((),())) }
theorem ai2 (x:aw k96.aF):bo [K6] (λ_=>none) Tryz.f96 k96 [.tmp 4] x=xu x.1.1:=by kernel_rfl
theorem ai3 (hr:∀ x:pl×Unit,aB k96.aF x→(xu x.1.1).eval=(k96.F x).eval):k96.Ok acl:=aD [K6] ⟨aaX,trivial⟩ ai2 λx hw _ hy=>(hr x hw).trans hy
theorem ai4:k96.Ok acl:=by
 refine ai3 λx _=> ?_;obtain ⟨⟨a,_⟩,_⟩:=x;show (xu a).eval=some (((xv a,()),()),((),()));unfold xu xv pf;rw [lQ];rfl
def xw (a0:List (Int×Int×Int×Int×Unit)):Out ci:= .ite ((decide (((List.length a0:Nat):Int)≤(40:Int)))==true) (.ret ((((!(xv a0)),()),()),((),()))) (.ret (((false,()),()),((),())))
def Sj:bK:={ f:=60,lend:=true,aF:=[At],lay:=[none],rs:=[wn],F:=λx=> .ret ((((bm x.1.1),()),()),((),())) }
theorem ai5 (x:aw Sj.aF):bo [k96] (λ_=>none) Tryz.f60 Sj [.tmp 2] x=xw x.1.1:=by kernel_rfl
theorem ai6 (hr:∀ x:pl×Unit,aB Sj.aF x→(xw x.1.1).eval=(Sj.F x).eval):Sj.Ok acl:=aD [k96] ⟨ai4,trivial⟩ ai5 λx hw _ hy=>(hr x hw).trans hy
theorem Nd:Sj.Ok acl:=by
 refine ai6 λx _=> ?_;obtain ⟨⟨a,_⟩,_⟩:=x;show (xw a).eval=some (((bm a,()),()),((),()));grind [xw,bm,Ix,du,xv,Pj,Out.eval]
def Tj (a b c d:Int):ar:=(a,(b,((bif a==1 then dA c else c),(d,()))))
def yT:List Int→ar
 |[a,b,c,d]=>Tj a b c d
 |_=>(0,(0,(0,(0,()))))
theorem Bs (h:l.length=4):∃ a b c d,l=[a,b,c,d]:=by
 rcases l with _|⟨a,_|⟨b,_|⟨c,_|⟨d,_|⟨e,r⟩⟩⟩⟩⟩
 . grind
 . grind
 . grind
 . grind
 . grind
 . simp at h
def Ap:Nat→bs→Bool→List ar→List ar×bs×Bool
 |0,s,b,p=>(p,s,b)
 |n+1,s,b,p=>Ap n (jN 4 s b).2.1 (jN 4 s b).2.2 (p++[yT (jN 4 s b).1])
abbrev Vn:=(Int×Int×Unit)×((List UInt8×Bool×Unit)×List ((Int×Int×Int×Int×Unit))×Unit)
def Vo:Vn→Out (Round Vn ((Unit)×((List UInt8×Bool×Unit)×List ((Int×Int×Int×Int×Unit))×Unit)) Empty)
|((p0,p1,_),(p2,p3,_),p4,_)=> .ite (decide (p1<p0)) (.ite (((ag p2 p3).1==(1:Int))) (.ite (decide (List.length p4+List.length ([((ag p2 p3).1,(ag (ag p2 p3).2.1 (ag p2 p3).2.2).1,(dA (ag (ag (ag p2 p3).2.1 (ag p2 p3).2.2).2.1 (ag (ag p2 p3).2.1 (ag p2 p3).2.2).2.2).1),(ag (ag (ag (ag p2 p3).2.1 (ag p2 p3).2.2).2.1 (ag (ag p2 p3).2.1 (ag p2 p3).2.2).2.2).2.1 (ag (ag (ag p2 p3).2.1 (ag p2 p3).2.2).2.1 (ag (ag p2 p3).2.1 (ag p2 p3).2.2).2.2).2.2).1,())]:List ((Int×Int×Int×Int×Unit)))≤bn)) (.ret (.again ((p0,(abs (p1+(1:Int))),()),(((ag (ag (ag (ag p2 p3).2.1 (ag p2 p3).2.2).2.1 (ag (ag p2 p3).2.1 (ag p2 p3).2.2).2.2).2.1 (ag (ag (ag p2 p3).2.1 (ag p2 p3).2.2).2.1 (ag (ag p2 p3).2.1 (ag p2 p3).2.2).2.2).2.2).2.1,(ag (ag (ag (ag p2 p3).2.1 (ag p2 p3).2.2).2.1 (ag (ag p2 p3).2.1 (ag p2 p3).2.2).2.2).2.1 (ag (ag (ag p2 p3).2.1 (ag p2 p3).2.2).2.1 (ag (ag p2 p3).2.1 (ag p2 p3).2.2).2.2).2.2).2.2,()),(p4++([((ag p2 p3).1,(ag (ag p2 p3).2.1 (ag p2 p3).2.2).1,(dA (ag (ag (ag p2 p3).2.1 (ag p2 p3).2.2).2.1 (ag (ag p2 p3).2.1 (ag p2 p3).2.2).2.2).1),(ag (ag (ag (ag p2 p3).2.1 (ag p2 p3).2.2).2.1 (ag (ag p2 p3).2.1 (ag p2 p3).2.2).2.2).2.1 (ag (ag (ag p2 p3).2.1 (ag p2 p3).2.2).2.1 (ag (ag p2 p3).2.1 (ag p2 p3).2.2).2.2).2.2).1,())]:List ((Int×Int×Int×Int×Unit)))),())))) .fail) (.ite (decide (List.length p4+List.length ([((ag p2 p3).1,(ag (ag p2 p3).2.1 (ag p2 p3).2.2).1,(ag (ag (ag p2 p3).2.1 (ag p2 p3).2.2).2.1 (ag (ag p2 p3).2.1 (ag p2 p3).2.2).2.2).1,(ag (ag (ag (ag p2 p3).2.1 (ag p2 p3).2.2).2.1 (ag (ag p2 p3).2.1 (ag p2 p3).2.2).2.2).2.1 (ag (ag (ag p2 p3).2.1 (ag p2 p3).2.2).2.1 (ag (ag p2 p3).2.1 (ag p2 p3).2.2).2.2).2.2).1,())]:List ((Int×Int×Int×Int×Unit)))≤bn)) (.ret (.again ((p0,(abs (p1+(1:Int))),()),(((ag (ag (ag (ag p2 p3).2.1 (ag p2 p3).2.2).2.1 (ag (ag p2 p3).2.1 (ag p2 p3).2.2).2.2).2.1 (ag (ag (ag p2 p3).2.1 (ag p2 p3).2.2).2.1 (ag (ag p2 p3).2.1 (ag p2 p3).2.2).2.2).2.2).2.1,(ag (ag (ag (ag p2 p3).2.1 (ag p2 p3).2.2).2.1 (ag (ag p2 p3).2.1 (ag p2 p3).2.2).2.2).2.1 (ag (ag (ag p2 p3).2.1 (ag p2 p3).2.2).2.1 (ag (ag p2 p3).2.1 (ag p2 p3).2.2).2.2).2.2).2.2,()),(p4++([((ag p2 p3).1,(ag (ag p2 p3).2.1 (ag p2 p3).2.2).1,(ag (ag (ag p2 p3).2.1 (ag p2 p3).2.2).2.1 (ag (ag p2 p3).2.1 (ag p2 p3).2.2).2.2).1,(ag (ag (ag (ag p2 p3).2.1 (ag p2 p3).2.2).2.1 (ag (ag p2 p3).2.1 (ag p2 p3).2.2).2.2).2.1 (ag (ag (ag p2 p3).2.1 (ag p2 p3).2.2).2.1 (ag (ag p2 p3).2.1 (ag p2 p3).2.2).2.2).2.2).1,())]:List ((Int×Int×Int×Int×Unit)))),())))) .fail)) (.ret (.out ((),((p2,p3,()),p4,()))))
def xx (a0:List UInt8) (a1:Bool):Out ((pl×Unit)×un):= .get (aP Vo aI (((cm a0 a1 (40:Int)).1,(0:Int),()),(((cm a0 a1 (40:Int)).2.1,(cm a0 a1 (40:Int)).2.2,()),([]:List ((Int×Int×Int×Int×Unit))),()))) λy1=> .ite (y1.2.1.2.1==false) (.ret (((y1.2.2.1,()),()),((y1.2.1.1,(!(bm y1.2.2.1)),()),()))) (.ret (((y1.2.2.1,()),()),((y1.2.1.1,true,()),())))
abbrev Vp:List (Nat×dT):=[(0, .var [.s, .b]),(act, .arr cT)]
def aoh:Nat→Option au:=λn=>bw [(0,⟨⟨[.vptr 0 0, .dead, .dead, .aR act, .dead, .dead, .i .i64, .i .i64]++dd 38,Vp⟩,⟨[.vptr 0 0, .dead, .dead, .aR act]++dd 42,Vp⟩,none,false⟩)] n
def mC (s:bs) (bad:Bool):List ar×bs×Bool:=match Ap (cm s bad 40).1.toNat (cm s bad 40).2.1 (cm s bad 40).2.2 [] with
 |(p,r,b)=>(p,r,b|| !bm p)
def k52:bK:={ f:=52,lend:=true,aF:=[EQ],lay:=[none],rs:=[IO],F:=λx=> .ret ((((mC x.1.1 x.1.2.1).1,()),()),(((mC x.1.1 x.1.2.1).2.1,(mC x.1.1 x.1.2.1).2.2,()),())) }
theorem ai7 (x:aw k52.aF):bo [OQ,MC,YY,Sj] aoh Tryz.f52 k52 [.tmp 2] x=xx x.1.1 x.1.2.1:=by kernel_rfl
theorem ai8 (hr:∀ x:(List UInt8×Bool×Unit)×Unit,aB k52.aF x→(xx x.1.1 x.1.2.1).eval=(k52.F x).eval):k52.Ok acl:=aD [OQ,MC,YY,Sj] ⟨Ia,Co,Tr,Nd,trivial⟩ ai7 λx hw _ hy=>(hr x hw).trans hy
theorem aht:k52.Ok acl:=by
 refine ai8 λx _=> ?_;obtain ⟨⟨s,b,_⟩,_⟩:=x;show (xx s b).eval=some ((((mC s b).1,()),()),(((mC s b).2.1,((mC s b).2.2,())),()));unfold xx mC;have hb:=Cp s b 40 (by omega);obtain ⟨n,hn⟩:=aft hb.1;rw [hn] at hb ⊢;rw [adu];have key:∀ (m j N:Nat) (s:bs) (b:Bool) (p:List ar),j+m=n→m<N→p.length=j→aP Vo N ((((n:Nat):Int),(((j:Nat):Int),())),((s,(b,())),(p,())))=
   some ((),(((Ap m s b p).2.1,((Ap m s b p).2.2,())),((Ap m s b p).1,()))):=by
  intro m
  induction m with
  |zero=>
   intro j N s b p hj hN hp;have w3:decide (((j:Nat):Int)<((n:Nat):Int))=false:=by grind
   refine gF ?_ hN;exact (ae w3).trans rfl
  |succ m ih=>
   intro j N s b p hj hN hp;have w3:decide (((j:Nat):Int)<((n:Nat):Int))=true:=by grind
   have g6:=aq (i:=j) (by grind);have g8:∀ z:ar,decide (p.length+([z]:List ar).length≤bn)=true:=by grind
   obtain ⟨N,rfl⟩:∃ N',N=N'+1:=⟨N - 1,by omega⟩
   rw [ie (x':=((((n:Nat):Int),(((j+1:Nat):Int),())),(((jN 4 s b).2.1,((jN 4 s b).2.2,())),(p++[yT (jN 4 s b).1],()))))]
   . exact ih (j+1) N _ _ _ (by omega) (by omega) (by simp;omega)
   . refine (ab w3).trans ?_
     have e:yT (jN 4 s b).1=((ag s b).1,((ag (ag s b).2.1 (ag s b).2.2).1,((bif (ag s b).1==1 then dA (ag (ag (ag s b).2.1 (ag s b).2.2).2.1 (ag (ag s b).2.1 (ag s b).2.2).2.2).1 else (ag (ag (ag s b).2.1 (ag s b).2.2).2.1 (ag (ag s b).2.1 (ag s b).2.2).2.2).1),((ag (ag (ag (ag s b).2.1 (ag s b).2.2).2.1 (ag (ag s b).2.1 (ag s b).2.2).2.2).2.1 (ag (ag (ag s b).2.1 (ag s b).2.2).2.1 (ag (ag s b).2.1 (ag s b).2.2).2.2).2.2).1,())))):=rfl;rw [e];cases h1:((ag s b).1==(1:Int))
     . rw [← g6];exact (ae rfl).trans ((ab (g8 _)).trans rfl)
     . rw [← g6];exact (ab rfl).trans ((ab (g8 _)).trans rfl)
 have hk:=key n 0 aI (cm s b 40).2.1 (cm s b 40).2.2 [] (by omega) (by grind) rfl;refine (aa hk).trans ?_;generalize Ap n (cm s b 40).2.1 (cm s b 40).2.2 []=r;obtain ⟨p,r,c⟩:=r;cases c<;>rfl
theorem kN (h0: -9223372036854775808≤x) (h1:x≤9223372036854775807):abs x=x:=by
 rw [abs,IntKind.wrap_i64];omega
section
variable {α δ σ β γ:Type}
theorem K7 {f:σ→Out (Round σ β γ)} (a:List α) (p:α→Bool) (S:Nat→σ) {y:β} {z:γ} (hs:∀ i (hi:i<a.length),(f (S i)).eval=some (if p a[i]=true then .ret z else .again (S (i+1))))
  (hy:(f (S a.length)).eval=some (.out y)) (ha:a.length≤cj):iter f aI (S 0)=some (if a.any p=true then .inr z else .inl y):=by
 have key:∀ (m i n:Nat),i+m=a.length→m<n→iter f n (S i)=some (if (a.drop i).any p=true then .inr z else .inl y):=by
  intro m
  induction m with
  |zero=>
   intro i n hi hn;obtain rfl:i=a.length:=by omega
   rw [jx hy hn,List.drop_length];rfl
  |succ m ih=>
   intro i n hi hn;have cf:i<a.length:=by omega
   have hq:=hs i cf;rw [aeC cf,List.any_cons];cases q:p a[i] with
   |true=>rw [q,aaZ rfl] at hq;rw [lu hq (by omega)];simp
   |false=>
    rw [q,aae (by decide)] at hq;obtain ⟨n,rfl⟩:∃ n',n=n'+1:=⟨n - 1,by omega⟩
    rw [je hq,ih (i+1) n (by omega) (by omega)];simp
 simpa using key a.length 0 aI (by omega) (ij ha)
end
abbrev ah:=Int×(List Int×Unit)
abbrev af:=Int×(Int×(Int×(Int×(ah×(List Int×(List Int×(Int×(Int×Unit))))))))
abbrev ai:=Int×(Int×(Int×(Int×(Int×Unit))))
abbrev bA:=Int×(Int×(List (List ar)×(List af×(List ai×(List ah×(List ah×(List Int×(List Int×Unit))))))))
section
open Go Go.ChangeShapes Go.WideShapes Go.ChangeAt Go.RowKit
end
section
open Go Go.ChangeShapes Go.WideShapes Go.ChangeAt Go.RowKit
end
abbrev ii:=bA×List (List UInt8)×Unit
abbrev io:=(Int×Int×Unit)×(Int×Int×Unit)×(Int×Int×Unit)×List af×List ai×List ah×List ah×List Int×List Int×List (List ar)×List af×List ai×List ah×List ah×List Int×List Int×List (List ar)×List af×List ai×List ah×List ah×Unit
abbrev jp:=(Int×Int×Unit)×(Int×Int×Unit)×(Int×Int×Unit)×List af×List ai×List ah×List ah×List Int×List Int×List (List ar)×List af×List ai×List ah×List ah×List Int×List Int×List (List ar)×List af×List ai×List ah×Unit
abbrev lc:=(Int×Int×Unit)×(Int×Int×Unit)×(Int×Int×Unit)×List af×List ai×List ah×List ah×List Int×List Int×List (List ar)×List af×List ai×List ah×List ah×List Int×List Int×List (List ar)×List af×Unit
abbrev li:=bA×(Int×Int×Unit)×(Int×Int×List ai×List ah×List ah×List Int×List Int×Unit)×List (List ar)×List af×List ai×List ah×List ah×List Int×List Int×List (List ar)×List af×Unit
abbrev lm:=bA×(Int×Int×Unit)×(Int×Int×List ah×List Int×List Int×Unit)×List (List ar)×List af×List ai×List ah×List ah×List Int×List Int×List (List ar)×List af×List ai×List ah×Unit
abbrev ls:=bA×(Int×Int×Unit)×(Int×Int×List Int×List Int×Unit)×List (List ar)×List af×List ai×List ah×List ah×List Int×List Int×List (List ar)×List af×List ai×List ah×List ah×Unit
abbrev lw:=(Int×Int×Unit)×(Int×Int×Unit)×List (List ar)×List af×List ai×List ah×List ah×List Int×List Int×List (List ar)×List af×List ai×List ah×List ah×List Int×List Int×XE×Unit
abbrev ol:=(List UInt8×Unit)×(bA×Unit)
end Go.Proofs.YtkmhgofibfmjfaaGreat.Dm
