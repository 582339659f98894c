/- The data machine (a part). -/
import Derived.Test.YtkmhgofibfmjfaaGreatM2
import Derived.Control
namespace Go.Proofs.YtkmhgofibfmjfaaGreat.Dm
section
open Go
structure ja (c:Ctx) (n:Nat) (s:ed) (a:Act) (w:World):Prop where
 ex:∃ c' μ fp,Ext c c'∧js c' μ fp s.f n a w
 kn:EH s
 len:s.t.length=n
theorem js.drew {c:Ctx} {μ:Nat→Loc} {fp:Nat→List Nat} {s:mU} {n:Nat} {a:Act} {w:World} (h:js c μ fp s n a w):js c μ fp s n a { w with drawn:=w.drawn+1 }:=
 ⟨h.tm,h.n,h.defers,h.vs.frame (adK _) (λ_ _ _ _=>rfl) (by grind),h.known,⟨h.ev.size,h.ev.os,h.ev.output,h.ev.S,h.ev.Fy,h.ev.frozen⟩,h.fix⟩
theorem Jv {c:Ctx} {n:Nat} {C:Cx} (hC:kM C c.P) (hF:ki C c.P) {id:Nat} {ops:Array Oper} {draw:Bool} (hm:c.P.follows .mixedOrders=true) {s s':ed} {a:Act} {w:World} {Q:Exit→Act→World→Prop}
  (h:ja c n s a w) (hr:(region C id ops.toList draw s).eval=some s') (hQ:∀ a' w',ja c n s' a' w'→Q .normal a' w'):(Code.region id ops draw).wp c.P Q a w:=by
 unfold region at hr;obtain ⟨⟨s1,lg⟩,h1,hr⟩:=dj hr;obtain ⟨⟨c1,μ,fp,he,hx⟩,hk,hl⟩:=h;obtain ⟨L,q1,q2,q3,q4,q5,q6⟩:=AM _ _ _ _ _ h1 hk hx.known;rw [hl] at q1;split at hr
 . cases hr
 rename_i hc;obtain rfl:s1=s':=ac2 hr;have aag:∀ (j:Nat) (d:rC),L[j]? =some d→d.i=j∧ops[j]? =some d.o:=by
  intro j d hd;have:(L.map λd=>(d.i,d.o))[j]? =some (d.i,d.o):=by grind
  grind
 have hlen:L.length=ops.size:=by have:=congrArg List.length q5;simpa using this
 have HF:∀ d∈L,ops[d.i]? =some d.o∧vF ops.toList d.o d.gd∧d.g=id*256+1+d.i:=by grind [List.mem_iff_getElem?]
 have Fw:∀ c' μ fp a w,Ext c c'→js c' μ fp s1.f n a w→Q .normal a w:=λc' μ fp a w e h=>hQ a w ⟨⟨c',μ,fp,e,h⟩,q2,q3.trans hl⟩;cases draw with
 |false=>
  refine wp_region ?_;have atF:L.map (·.i)=List.range ops.size:=by
   apply ae8;grind
  rw [← atF];exact Ha hC hF rfl Fw L _ μ fp a w c1 he q1 (by grind) hx
 |true=>
  simp only [true_and,not_or] at hc;obtain ⟨hc1,hc2⟩:=hc;have hc1:=Es hc1;have hc2:=Es hc2;refine wp_region_any hm ?_;refine Hd (base:=id*256+1) hC hF rfl hc2 Fw ops.size _ L _ μ fp a _ c1 he (by omega) ⟨by simp, ?_, ?_, ?_, ?_,HF,q1⟩ hx.drew
  . intro i hi
    constructor
    . intro _
      obtain ⟨d,hd⟩:∃ d,L[i]? =some d:=by simp_all
      grind
    simp_all
  . rw [List.pairwise_iff_getElem]
    intro i j hi hj IE;rw [(aag i _ (aa7 hi)).1,(aag j _ (aa7 hj)).1];exact IE
  . simp_all
  . have:=sG _ _ hc1
    rw [q4,aeX,List.pairwise_reverse,List.pairwise_map] at this;exact this
end
section
open Go
variable {z:Fz}
theorem Mi {l:List Nat} (h:nC l=true):l.Nodup:=by
 induction l with
 |nil=>grind
 |cons a l ih=>
  simp_all [nC,List.contains_eq_mem]
section
variable {c:Ctx} {μ:Nat→Loc} {m:List (Nat×Nat)}
def He (m:List (Nat×Nat)) (μ:Nat→Loc) (id:Nat):Loc:=
 match fI m id with
 |some k=>μ k
 |none=>μ id
theorem qU {id k:Nat} (h:fI m id=some k):He m μ id=μ k:=by simp [He,h]
structure yj (c:Ctx) (μ:Nat→Loc) (m:List (Nat×Nat)) (l:List Slot) (q:List aj) (ds:List aj):Prop where
 rel:∀ vs,ak c μ vs q→ak c (He m μ) vs ds
 ids:∀ id∈aj.bO ds,∃ k,fI m id=some k
 cell:l.all Slot.isC=true→ds.all aj.bB=true
 len:ds.length=l.length
 qK:l.length=q.length
theorem yj.cons {x:Slot} {d d':aj} {l:List Slot} {q ds:List aj} (h:yj c μ m l q ds) (hr:∀ v,az c μ v d→az c (He m μ) v d') (hi:∀ id∈d'.ids,∃ k,fI m id=some k) (hc:x.isC=true→d'.bB=true):
  yj c μ m (x::l) (d::q) (d'::ds) where
 rel vs hv:=by
  simp only [ak] at hv ⊢;obtain ⟨v,bg,e,h1,h2⟩:=hv;exact ⟨v,bg,e,hr v h1,h.rel bg h2⟩
 ids id fg:=by
  simp only [aj.bO,adE] at fg;rcases fg with fg|fg
  . grind
  . exact h.ids id fg
 cell hc':=by
  simp only [aeB,aa6] at hc' ⊢;exact ⟨hc hc'.1,h.cell hc'.2⟩
 len:=by simp [h.len]
 qK:=by simp [h.qK]
structure alT (c:Ctx) (μ:Nat→Loc) (m:List (Nat×Nat)) (x:Slot) (d d':aj):Prop where
 rel:∀ v,az c μ v d→az c (He m μ) v d'
 ids:∀ id∈d'.ids,∃ k,fI m id=some k
 cell:x.isC=true→d'.bB=true
theorem Mj:∀ (ids:List Nat) (qF:List aj),Ei m ids qF=true→
  (∀ vs,ak c μ vs qF→ak c (He m μ) vs (ids.map λid=> .vptr id 0))∧∀ i∈aj.bO (ids.map λid=> .vptr id 0),∃ k,fI m i=some k
 |[],[],_=>⟨λvs h=>h,by simp [aj.bO]⟩
 |[],_::_,h=>by simp [Ei] at h
 |a::r,[],h=>by simp [Ei] at h
 |a::r,d::q,h=>by
  cases d<;>try (cases h;done)
  rename_i b o;cases o with
  |succ o=>cases h
  |zero=>
   simp only [Ei,aa6,adS] at h;obtain ⟨h1,h2⟩:=Mj r q h.2;refine ⟨λvs hv=> ?_,λi hi=> ?_⟩
   . grind [ak,az,qU]
   . simp only [ael,aj.bO,aj.ids,adE,aey] at hi
     grind
theorem YE {T:Type} (x:Slot) (d:aj) (f:T→Qq x T) (h:afB m T x d=some f) (y:T):(GQ T x (f y)).2=y∧alT c μ m x d (GQ T x (f y)).1:=by
 cases x with
 |keep=>
  obtain rfl:=ac2 (show some (λy=>y)=some f from h);exact ⟨rfl,λv _=>trivial,λid hi=>(by cases hi),λh=>(by cases h)⟩
 |dead=>
  obtain rfl:=ac2 (show some (λy=>y)=some f from h);exact ⟨rfl,λv _=>trivial,λid hi=>(by cases hi),λh=>(by cases h)⟩
 |kC=>
  replace h:(if d.bB=true then some λy=>y else none)=some f:=h;split at h
  . rename_i hc
    obtain rfl:=ac2 h;exact ⟨rfl,λv hv=>hv.jG hc,λid hi=>(by cases hi),λ_=>rfl⟩
  . cases h
 |kp k=>
  cases d<;>try (cases h;done)
  rename_i k';replace h:(if k=k' then some λy=>y else none)=some f:=h;split at h
  . rename_i e;subst e
    obtain rfl:=ac2 h;exact ⟨rfl,λv hv=>hv,λid hi=>(by cases hi),λ_=>rfl⟩
  . cases h
 |b=>
  cases d<;>try (cases h;done)
  obtain rfl:=ac2 h;exact ⟨rfl,λv hv=>hv,λid hi=>(by cases hi),λ_=>rfl⟩
 |i k=>
  cases d<;>try (cases h;done)
  rename_i k' x';replace h:(if k=k' then some λy=>(x',y) else none)=some f:=h;split at h
  . rename_i e;subst e
    obtain rfl:=ac2 h;exact ⟨rfl,λv hv=>hv,λid hi=>(by cases hi),λ_=>rfl⟩
  . cases h
 |s=>
  cases d<;>try (cases h;done)
  obtain rfl:=ac2 h;exact ⟨rfl,λv hv=>hv,λid hi=>(by cases hi),λ_=>rfl⟩
 |ro e tk=>
  cases d<;>try (cases h;done)
  rename_i e' xs tk';replace h:(if tk=none∨tk=tk' then (Ty.cast (.sl e') (.sl e) xs).map λx y=>(x,y) else none)=some f:=h;split at h
  . rename_i B5
    obtain ⟨x,hx,rfl⟩:=ST.1 h;obtain ⟨he,hxe⟩:=lf hx;clear hx h;subst he;subst hxe;refine ⟨rfl,λv hv=> ?_,λid hi=>(by cases hi),λ_=>rfl⟩;show az c (He m μ) v (.ro e' _ tk);grind [az]
  . cases h
 |aR id=>
  cases d<;>try (cases h;done)
  rename_i eD vw;cases vw with
  |some _=>cases h
  |none=>
   replace h:(if fI m id=some eD then some λy=>y else none)=some f:=h;split at h
   . rename_i hm
     obtain rfl:=ac2 h;refine ⟨rfl,λv hv=> ?_,λi hi=> ?_,λ_=>rfl⟩
     . show az c (He m μ) v (.dn id none)
       grind [az,qU]
     . have hi:i∈[id]:=hi
       grind
   . cases h
 |srv id=>
  cases d<;>try (cases h;done)
  rename_i eD vw;cases vw with
  |none=>cases h
  |some v=>
   replace h:(if fI m id=some eD then some λy=>(v,y) else none)=some f:=h;split at h
   . rename_i hm
     obtain rfl:=ac2 h;obtain ⟨vo,vl⟩:=v;refine ⟨rfl,λv hv=> ?_,λi hi=> ?_,λ_=>rfl⟩
     . show az c (He m μ) v (.dn id (some (vo,vl)))
       grind [az,qU]
     . have hi:i∈[id]:=hi
       grind
   . cases h
 |vptr id off=>
  cases d<;>try (cases h;done)
  rename_i eD xQ;replace h:(if fI m id=some eD∧off=xQ then some λy=>y else none)=some f:=h;split at h
  . rename_i hm
    obtain ⟨hm,rfl⟩:=hm;obtain rfl:=ac2 h;refine ⟨rfl,λv hv=> ?_,λi hi=> ?_,λ_=>rfl⟩
    . show az c (He m μ) v (.vptr id off)
      grind [az,qU]
    . have hi:i∈[id]:=hi
      grind
  . cases h
 |kK id off=>
  cases d<;>try (cases h;done)
  rename_i eD x' xQ;replace h:(if fI m id=some eD∧off=xQ then some λy=>(x',y) else none)=some f:=h;split at h
  . rename_i hm
    obtain ⟨hm,rfl⟩:=hm;obtain rfl:=ac2 h;refine ⟨rfl,λv hv=> ?_,λi hi=> ?_,λ_=>rfl⟩
    . show az c (He m μ) v (.kK id x' off)
      grind [az,qU]
    . have hi:i∈[id]:=hi
      grind
  . cases h
 |fn f0 ids=>
  cases d<;>try (cases h;done)
  rename_i f' qF;replace h:(if f0=f'∧Ei m ids qF=true then some λy=>y else none)=some f:=h;split at h
  . rename_i hc
    obtain ⟨rfl,hc⟩:=hc;obtain rfl:=ac2 h;obtain ⟨k1,k2⟩:=Mj (c:=c) (μ:=μ) ids qF hc;refine ⟨rfl,λv hv=> ?_,λi hi=>k2 i hi,λ_=>rfl⟩;show az c (He m μ) v (.fn f0 _);grind [az]
  . cases h
 |Fe t off=>
  cases d<;>try (cases h;done)
  rename_i t' x' xQ;replace h:(if off=xQ then (Ty.cast t' t x').map λx y=>(x,y) else none)=some f:=h;split at h
  . rename_i ho;subst ho
    obtain ⟨x,hx,rfl⟩:=ST.1 h;obtain ⟨he,hxe⟩:=Ty.dU hx;clear hx h;subst he;subst hxe;exact ⟨rfl,λv hv=>hv,λid hi=>(by cases hi),λ_=>rfl⟩
  . cases h
theorem Aa:∀ (l:List Slot) (q:List aj) (y:mx l),vA m l q=some y→yj c μ m l q (gI l y)
 |[],[],y,_=>⟨λvs h=>h,by simp [gI,aj.bO],by simp [gI],rfl,rfl⟩
 |[],_::_,y,h=>by simp [vA] at h
 |x::r,[],y,h=>by simp [vA] at h
 |x::r,d::q,y,h=>by
  simp only [vA] at h;obtain ⟨f,hf,h⟩:=WP.1 h;obtain ⟨z,hz,rfl⟩:=ST.1 h;obtain ⟨e,ok⟩:=YE (c:=c) (μ:=μ) x d f hf z;have ih:=Aa r q z hz;show yj c μ m (x::r) (d::q) ((GQ (mx r) x (f z)).1::gI r (GQ (mx r) x (f z)).2);rw [e];exact ih.cons ok.rel ok.ids ok.cell
end
def FL (m:List (Nat×Nat)) (v:List (Nat×bV)) (id:Nat):List Nat:=
 match fI m id with
 |some k=>k::((bp v k).map bW).getD []
 |none=>[]
theorem Ab (m:List (Nat×Nat)) (v:List (Nat×bV)):∀ V:List (Nat×dT),oS m v V=V.flatMap λx=>FL m v x.1
 |[]=>rfl
 |(id,x)::r=>by
  simp only [oS,aez,FL,Ab m v r];split<;>simp_all
theorem Mk {m:List (Nat×Nat)} {v:List (Nat×bV)}:∀ {V:List (Nat×dT)},(V.flatMap λx=>FL m v x.1).Nodup→∀ {id eD:Nat},id∈V.map (·.1)→eD∈V.map (·.1)→id≠eD→∀ x∈FL m v id,x ∉ FL m v eD
 |[],_,id,_,h,_,_=>by simp at h
 |(i,y)::r,hn,id,eD,h,h',fE=>by
  rw [aez,ad1] at hn;obtain ⟨_,h2,h3⟩:=hn;have ln:∀ {j:Nat},j∈r.map (·.1)→∀ x∈FL m v j,x∈r.flatMap λx=>FL m v x.1:=by grind
  simp only [ael,adM] at h h';intro x hx vn;rcases h with rfl|h
  . grind
  . rcases h' with rfl|h'
    . grind
    . exact Mk h2 h h' fE x hx vn
theorem Hf {v:List (Nat×bV)} {id:Nat} {x:bV} (h:bp v id=some x):(id,x)∈v:=by
 induction v with
 |nil=>simp [bp] at h
 |cons a v ih=>
  grind [bp]
section
variable {c:Ctx} {μ:Nat→Loc} {fp:Nat→List Nat} {m:List (Nat×Nat)} {v:List (Nat×bV)} {w:World}
structure VOk (c:Ctx) (μ:Nat→Loc) (fp:Nat→List Nat) (m:List (Nat×Nat)) (v:List (Nat×bV)) (w:World) (id:Nat) (f:List Nat) (x:bV):Prop where
 rel:cR c (He m μ) w id f x
 perm:f.Perm ((FL m v id).flatMap fp)
 nodup:(FL m v id).Nodup
 there:∀ k∈FL m v id,bp v k≠none
 ids:∀ i∈x.ids,∃ k,fI m i=some k
theorem RZ (hv:dq c μ fp (bp v) w) {k:Nat} {x0:bV} (hk:bp v k=some x0) {e:Ty} {z:List e.D} (hz:NY v e x0=some z):
  ∃ a cap f,μ k= .tY a z.length cap e.size∧(Ty.sl e).aC c.fz w [.slice a z.length cap] z f∧f.Perm ((k::bW x0).flatMap fp)∧(k::bW x0).Nodup∧
    (∀ i∈k::bW x0,bp v i≠none∧bp v i≠none)∧(∀ b∈f,b<c.w0.heap.size→∀ j,c.M b j):=by
 unfold NY at hz;obtain ⟨⟨e',xs⟩,hu,hz⟩:=WP.1 hz;have hr:=jH hv (λ_ _ h=>h) hk hu;grind [lf]
theorem qV (hv:dq c μ fp (bp v) w):∀ (V:List (Nat×dT)) (y:qI V),ov m v V=some y→
  ∃ F:Nat→List Nat,∀ id x,bp (eM V y) id=some x→id∈V.map (·.1)∧VOk c μ fp m v w id (F id) x
 |[],_,_=>by simp_all [eM,bp]
 |(id0, .var cs)::r,y,h=>by
  simp only [ov] at h;split at h
  . rename_i ds hds
    obtain ⟨k,hk,hkv⟩:=WP.1 hds;split at h
    . rename_i hc
      obtain ⟨z,hz,h⟩:=WP.1 h;obtain ⟨y',yr,rfl⟩:=ST.1 h;obtain ⟨F,hF⟩:=qV hv r y' yr;have ok:=Aa (c:=c) (μ:=μ) cs ds z hz;obtain ⟨B,o,C,E,e1,e2,e3,e4,e5,e6,e7⟩:=hv.rel k _ hkv;have hle:(gI cs z).length=ds.length:=ok.len.trans ok.qK;refine ⟨λid=>if id=id0 then fp k else F id,λid x hx=> ?_⟩;simp only [eM,bp] at hx;by_cases e:id0=id
      . subst e
        rw [aaZ rfl] at hx;cases hx;refine ⟨by simp, ?_, ?_, ?_, ?_, ?_⟩
        . simp only [agm]
          exact ⟨B,o,C,E,(qU hk).trans e1,e2,e3,by grind,by rw [hle];exact ok.rel _ e5,ok.cell hc,by grind⟩
        . grind [FL,bW]
        . grind [FL,bW]
        . grind [FL,bW]
        . exact ok.ids
      grind
    . cases h
  . cases h
 |(id0, .arr e)::r,y,h=>by
  simp only [ov] at h;split at h
  . rename_i x0 GU
    obtain ⟨k,hk,hkv⟩:=WP.1 GU;obtain ⟨z,hz,h⟩:=WP.1 h;obtain ⟨y',yr,rfl⟩:=ST.1 h;obtain ⟨F,hF⟩:=qV hv r y' yr;obtain ⟨ad,cap,f,g1,g2,g3,g4,g5,g6⟩:=RZ hv hkv hz;have awQ:FL m v id0=k::bW x0:=by grind [FL]
    refine ⟨λid=>if id=id0 then f else F id,λid x hx=> ?_⟩;simp only [eM,bp] at hx;by_cases e:id0=id
    . subst e
      rw [aaZ rfl] at hx;cases hx;refine ⟨by simp, ?_, ?_, ?_, ?_, ?_⟩
      . simp only [agm]
        exact ⟨ad,cap,(qU hk).trans g1,g2,g6⟩
      . grind
      . grind
      . grind
      . simp [bV.ids]
    grind
  . cases h
 |(id0, .it)::r,y,h=>by
  simp only [ov] at h;split at h
  . rename_i t p ht
    obtain ⟨k,hk,hkv⟩:=WP.1 ht;obtain ⟨y',yr,rfl⟩:=ST.1 h;obtain ⟨F,hF⟩:=qV hv r y' yr;obtain ⟨B,e1,e2,e3,e4,e5⟩:=hv.rel k _ hkv;refine ⟨λid=>if id=id0 then fp k else F id,λid x hx=> ?_⟩;simp only [eM,bp] at hx;by_cases e:id0=id
    . subst e
      rw [aaZ rfl] at hx;cases hx;refine ⟨by simp, ?_, ?_, ?_, ?_, ?_⟩
      . simp only [agm]
        exact ⟨B,(qU hk).trans e1,e2,e3,e4,e5⟩
      . grind [FL,bW]
      . grind [FL,bW]
      . grind [FL,bW]
      . simp [bV.ids]
    grind
  . cases h
theorem R1 {m:List (Nat×Nat)} {a b:Nat} (h:fI m a=some b):∃ x∈m,x.1=a:=by
 induction m with
 |nil=>simp [fI] at h
 |cons x m ih=>
  grind [fI]
theorem Oj {m:List (Nat×Nat)} {a b:Nat} (h:fI m a=some b):∃ x∈m,x.1=a∧x.2=b:=by
 induction m with
 |nil=>simp [fI] at h
 |cons x m ih=>
  grind [fI,Option.some.inj]
theorem nL:∀ (l:List Slot) (ts es:List aj),es.length=l.length→ts.length=l.length→∀ j,(kq l ts es).getD j .dead=bif fD l j then ts.getD j .dead else es.getD j .dead
 |[],ts,es,h,_,j=>by simp [kq,fD]
 |x::l,[],es,_,h',j=>by simp at h'
 |x::l,t::ts,[],h,_,j=>by simp at h
 |x::l,t::ts,e::es,h,h',j=>by
  have ih:=nL l ts es (by simpa using h) (by simpa using h');cases j with
  |zero=>simp [kq,fD]
  |succ j=>simpa [kq,fD] using ih j
theorem vG:∀ (l:List Slot) (ts es:List aj),es.length=l.length→ts.length=l.length→(kq l ts es).length=l.length
 |[],ts,es,h,_=>by grind [kq]
 |x::l,[],es,_,h'=>by simp at h'
 |x::l,t::ts,[],h,_=>by simp at h
 |x::l,t::ts,e::es,h,h'=>by
  have ih:=vG l ts es (by simpa using h) (by simpa using h');simpa [kq] using ih
theorem AO:∀ (l:List Slot) (ts:List aj) (j:Nat),fD l j=true→∀ id∈(ts.getD j .dead).ids,id∈xU l ts
 |[],_,_,h,_,_=>by simp [fD] at h
 |x::l,[],j,h,id,hi=>by grind [aj.ids]
 |x::l,t::ts,0,h,id,hi=>by simp_all [fD,xU]
 |x::l,t::ts,j+1,h,id,hi=>by
  have ih:=AO l ts j (by simpa [fD] using h) id (by simpa using hi);simp only [xU,adE];exact .inr ih
theorem QB {S:Shape} {W:List (Nat×bV)} {s:ed} {x:S.D} (hd:S.dec W s=some x) {id:Nat} {z:bV} (h:bp s.w id=some z):bp s.v id=none:=by grind [Shape.dec,List.all_eq_true,Hf,z6]
theorem Hg {n:Nat} {S:Shape} {s:ed} {W:List (Nat×bV)} {K:List Nat} {ts:List aj} {x:S.D} {a:Act} (h:ja c n s a w) (hd:S.dec W s=some x)
  (hW:∀ id z,bp W id=some z→s.env id=some z∧(id ∉ oS (S.map s) s.v S.v∨bp s.v id=none)) (hK:∀ id z,bp W id=some z→id / 64∈K∧∀ eD∈z.ids,eD / 64∈0::K) (Y6:ts.length=n)
  (aeH:∀ j,fD S.t j=true→s.t.getD j .dead=ts.getD j .dead∧∀ id∈(ts.getD j .dead).ids,id / 64∈0::K):ja c n (S.enc ts W K x) a w:=by
 obtain ⟨⟨cx,μ,fp,he,hx⟩,hk,hl⟩:=h;unfold Shape.dec at hd;simp only at hd;generalize S.map s=m at hd hW;split at hd
 case isFalse=>cases hd
 rename_i G1;obtain ⟨c1,c2,c3,c4,c5,c6,c7⟩:=G1;obtain ⟨y,hy,hd⟩:=WP.1 hd;obtain ⟨z,hz,rfl⟩:=ST.1 hd;have okT:=Aa (c:=cx) (μ:=μ) S.t s.t y hy;have hva:dq cx μ fp s.env w:=hx.vs;have hvv:∀ id x,bp s.v id=some x→s.env id=some x:=λid x h=>mq h;have A0:dq cx μ fp (bp s.v) w:=hva.part hvv;obtain ⟨F,hF⟩:=qV A0 S.v z hz;have uf:=Mi c1;have B5:∀ {id k},id∈S.v.map (·.1)→k∈FL m s.v id→k∈oS m s.v S.v:=by
  intro id k fg hk;rw [Ab];obtain ⟨q,hq,rfl⟩:=List.mem_map.1 fg;exact List.mem_flatMap.2 ⟨q,hq,hk⟩
 rw [Ab] at uf;have aqa:∀ {id:Nat},id∈S.v.map (·.1)→id / 64∈0::(S.v.map (·.1 / 64)++K):=by
  intro id hi;obtain ⟨q,hq,e⟩:=List.mem_map.1 hi;exact adM.2 (.inr (adE.2 (.inl (List.mem_map.2 ⟨q,hq,by rw [e]⟩))))
 have hgK:∀ {g:Nat},g∈0::K→g∈0::(S.v.map (·.1 / 64)++K):=by
  intro g hg;rcases adM.1 hg with e|e
  . exact adM.2 (.inl e)
  . exact adM.2 (.inr (adE.2 (.inr e)))
 have LN:∀ {id k:Nat},fI m id=some k→id∈S.v.map (·.1):=by
  intro id k hm;obtain ⟨p,hp,rfl⟩:=R1 hm;have:=adG.1 c3 p hp;simp only [aa6] at this;simpa using this.1
 have aqb:∀ {id k:Nat},fI m id=some k→id / 64∈0::(S.v.map (·.1 / 64)++K):=λhm=>aqa (LN hm);have Ol:∀ {id:Nat},id ∉ S.v.map (·.1)→He m μ id=μ id:=by
  intro id hi;cases hm:fI m id with
  |none=>simp [He,hm]
  |some k=>exact absurd (LN hm) hi
 have hWS:∀ x∈W,x.1 ∉ S.v.map (·.1)∧∀ id∈x.2.ids,id ∉ S.v.map (·.1):=by
  intro x hxW;refine ⟨λhi=> ?_,λid fg hi=> ?_⟩
  . obtain ⟨q,hq,e⟩:=List.mem_map.1 hi
    have:=adG.1 c4 q hq;simp only [afq,List.contains_eq_mem,af6] at this;exact this (e ▸ List.mem_map.2 ⟨x,hxW,rfl⟩)
  . have h1:=adG.1 c5 x hxW
    have h2:=adG.1 h1 id fg;simp only [afq,List.contains_eq_mem,af6] at h2;exact h2 hi
 have hkS:∀ j,fD S.t j=true→∀ id∈(s.t.getD j .dead).ids,id ∉ S.v.map (·.1):=by
  intro j hj id fg hi;have h2:=adG.1 c6 id (AO S.t s.t j hj id fg);simp only [afq,List.contains_eq_mem,af6] at h2;exact h2 hi
 have atG:∀ id,id<64→He m μ id=μ id:=by
  intro id hi;cases hm:fI m id with
  |none=>simp [He,hm]
  |some k=>
   rw [qU hm];obtain ⟨p,hp,e1,e2⟩:=Oj hm;have:=adG.1 c3 p hp;simp only [aa6,af7,adS,afH] at this;rcases this.2 with h|h
   . omega
   . rw [← e2, ← h,e1]
 have gu:∀ id x,bp (eM S.v z) id=some x→∀ b∈F id,∃ k∈FL m s.v id,bp s.v k≠none∧b∈fp k:=by
  intro id x hx b hb;obtain ⟨_,ok⟩:=hF id x hx;obtain ⟨k,hk,tX⟩:=List.mem_flatMap.1 (ok.perm.mem_iff.1 hb);exact ⟨k,hk,ok.there k hk,tX⟩
 have hlen:(gI S.t y).length=S.t.length:=okT.len;have FV:ts.length=S.t.length:=by rw [Y6, ← hl, ← okT.qK]
 have mr:∀ {id x},bp (eM S.v z++W) id=some x→bp (eM S.v z) id=some x∨(bp (eM S.v z) id=none∧bp W id=some x):=by
  intro id x hx;rw [gw] at hx;cases e:bp (eM S.v z) id with
  |none=>rw [e] at hx;exact .inr ⟨rfl,hx⟩
  |some q=>rw [e] at hx;exact .inl hx
 let G:Nat→List Nat:=λid=>if bp (eM S.v z) id=none then fp id else F id
 have hG1:∀ {id x},bp (eM S.v z) id=some x→G id=F id:=λ{id x} h=>aae (by rw [h];simp);have hG2:∀ {id},bp (eM S.v z) id=none→G id=fp id:=λh=>aaZ h;have L0:∀ id,bp (eM S.v z++W) id≠none→∀ b∈G id,∃ k,s.env k≠none∧b∈fp k∧((∃ x,bp (eM S.v z) id=some x∧k∈FL m s.v id)∨(bp (eM S.v z) id=none∧k=id∧∃ x,bp W id=some x)):=by
  intro id hn b hb;obtain ⟨x,hx⟩:=Option.ne_none_iff_exists'.1 hn;rcases mr hx with h1|⟨h1,h2⟩
  . rw [hG1 h1] at hb
    obtain ⟨k,q1,q2,q3⟩:=gu id x h1 b hb;obtain ⟨u,hu⟩:=Option.ne_none_iff_exists'.1 q2;exact ⟨k,by rw [hvv k u hu];simp,q3, .inl ⟨x,h1,q1⟩⟩
  . rw [hG2 h1] at hb
    exact ⟨id,by rw [(hW id x h2).1];simp,hb, .inr ⟨h1,rfl,x,h2⟩⟩
 refine ⟨⟨cx,He m μ,G,he, ?_, ?_,hx.defers, ?_, ?_,hx.ev,λid hi=>⟨?_,(atG id hi).trans (hx.fix id hi).2⟩⟩,λd b hf=> ?_, ?_⟩
 . intro j
   have um:ak cx μ ((List.range s.t.length).map λj=>a.tmps.getD j Go.undef) s.t:=by
    refine ak.Ek (by simp) λj d u hd hu=> ?_;have hj:=(So.1 hd).1;rw [ahU,List.getElem?_range hj,ags] at hu;cases hu;have:=hx.tm j;simp only [ed.f,aeq,hd,agh] at this;exact this
   have h2:=okT.rel _ um;show az cx (He m μ) _ ((kq S.t ts (gI S.t y)).getD j .dead);rw [nL S.t ts _ hlen FV];by_cases hkp:fD S.t j=true
   . rw [hkp,aed]
     have h3:=hx.tm j;rw [← (aeH j hkp).1];refine az.mono _ (λid hi=>Ol (hkS j hkp id hi)) h3
   . rw [Bool.eq_false_iff.2 hkp,aex]
     rcases afw j (gI S.t y).length with hj|hj
     . obtain ⟨u,hu,hv⟩:=h2.get (aa7 hj)
       have hjs:j<s.t.length:=by rw [← okT.qK, ← okT.len];exact hj
       rw [ahU,List.getElem?_range hjs,ags] at hu;cases hu;rw [aeq,aa7 hj];exact hv
     . rw [aeq,afA hj]
       simp [az]
 . exact hx.n
 . show dq cx (He m μ) G (bp (eM S.v z++W)) w
   refine ⟨λid x hxx=> ?_,λid x hxx=> ?_, ?_, ?_, ?_⟩
   . rcases mr hxx with h1|⟨h1,h2⟩
     . rw [hG1 h1];exact (hF id x h1).2.rel
     . rw [hG2 h1]
       have hm:=Hf h2;exact (hva.rel id x (hW id x h2).1).frame (λ_ _=>rfl) (Ol (hWS _ hm).1) λeD hi=>Ol ((hWS _ hm).2 eD hi)
   . rcases mr hxx with h1|⟨h1,h2⟩
     . rw [hG1 h1]
       have ok:=(hF id x h1).2;exact ok.perm.nodup_iff.2 (A0.lK _ ok.nodup ok.there)
     . rw [hG2 h1];exact hva.nodup id x (hW id x h2).1
   . intro id eD fE hn qZ b hb cE
     obtain ⟨k1,q2,q3,q4⟩:=L0 id hn b hb;obtain ⟨k2,r2,r3,r4⟩:=L0 eD qZ b cE;have:k1≠k2:=by
      intro e;subst e;rcases q4 with ⟨x1,h1,q1⟩|⟨h1,rfl,x1,h1'⟩
      . rcases r4 with ⟨x2,h2,r1⟩|⟨h2,rfl,x2,h2'⟩
        . exact Mk uf (hF id x1 h1).1 (hF eD x2 h2).1 fE k1 q1 r1
        . rcases (hW _ x2 h2').2 with e|e
          . exact e (B5 (hF id x1 h1).1 q1)
          . exact (hF id x1 h1).2.there _ q1 e
      . rcases r4 with ⟨x2,h2,r1⟩|⟨h2,e,x2,h2'⟩
        . rcases (hW _ x1 h1').2 with e|e
          . grind
          . exact (hF eD x2 h2).2.there _ r1 e
        . exact fE e
     exact hva.sep k1 k2 this q2 r2 b q3 r3
   . intro id hn b hb
     obtain ⟨k1,q2,q3,_⟩:=L0 id hn b hb;exact hva.kL k1 q2 b q3
   . intro id hn b hb
     obtain ⟨k1,q2,q3,_⟩:=L0 id hn b hb;exact hva.lt k1 q2 b q3
 . refine ⟨λj id hi=> ?_,λid x hxx=> ?_⟩
   . have hi:id∈((kq S.t ts (gI S.t y)).getD j .dead).ids:=hi
     rw [nL S.t ts _ hlen FV] at hi;show id / 64∈0::(S.v.map (·.1 / 64)++K);by_cases hkp:fD S.t j=true
     . grind
     . rw [Bool.eq_false_iff.2 hkp,aex,aeq] at hi
       cases hj:(gI S.t y)[j]? with
       |none=>grind [aj.ids]
       |some d=>
        rw [hj] at hi;obtain ⟨k,hk⟩:=okT.ids id (by grind [hY,List.mem_of_getElem?]);exact aqb hk
   . show id / 64∈0::(S.v.map (·.1 / 64)++K)∧∀ eD∈x.ids,eD / 64∈0::(S.v.map (·.1 / 64)++K)
     rcases mr hxx with h1|⟨_,h2⟩
     . obtain ⟨h1,ok⟩:=hF id x h1
       exact ⟨aqa h1,λi hi=>by obtain ⟨k,hk⟩:=ok.ids i hi;exact aqb hk⟩
     grind
 . show id / 64∈0::(S.v.map (·.1 / 64)++K)
   grind
 . grind [Shape.enc,iX]
 . show (kq S.t ts (gI S.t y)).length=n
   grind [vG]
end
end
section
open Go
theorem exists_least {p:Nat→Prop} (h:∃ n,p n):∃ n,p n∧∀ k,p k→n≤k:=by
 obtain ⟨n,hn⟩:=h
 induction n using Nat.strongRecOn with
 |_ n ih=>
  grind
open Classical in
noncomputable def least (p:Nat→Prop):Nat:=if h:∃ n,p n then Classical.choose (exists_least h) else 0
theorem EK {p:Nat→Prop} (h:∃ n,p n):p (least p)∧∀ k,p k→least p≤k:=by
 unfold least;grind
theorem YF {P:Program} {Q:Exit→Act→World→Prop} {a:Act} {w:World} {b:Code} (J:Nat→Act→World→Prop) (h0:∃ k,J k a w)
  (round:∀ k a w,J k a w→b.wp P (Exit.then (λa' w'=>∃ k',k'<k∧J k' a' w') Q) a w):(Code.loop b).wp P Q a w:=by
 refine wp_loop (λa w=>∃ k,J k a w) (λa w=>least λk=>J k a w) h0 λa w hI=> ?_;obtain ⟨h1,_⟩:=EK hI;refine wp_mono (round _ a w h1) λe a' w' he=> ?_;cases e with
 |normal=>
  obtain ⟨k',cf,rr⟩:=he;exact ⟨⟨k',rr⟩,afb ((EK ⟨k',rr⟩).2 k' rr) cf⟩
 |_=>exact he
def YG:Ex→Exit
 | .normal=> .normal
 | .ret=> .ret
 | .exit id=> .exit id
section
variable {c:Ctx} {n:Nat} {C:Cx}
def QC {α β γ:Type} (c:Ctx) (n id:Nat) (eα:α→ed) (eβ:β→ed) (eγ:γ→ed) (R:Round α β γ) (e:Exit) (a:Act) (w:World):Prop:=
 match R with
 | .again x=>e= .normal∧ja c n (eα x) a w
 | .out y=>e= .exit id∧ja c n (eβ y) a w
 | .ret z=>e= .ret∧ja c n (eγ z) a w
theorem EM {α β γ:Type} {eα:α→ed} {eβ:β→ed} {eγ:γ→ed} {f:α→Out (Round α β γ)} {b:Code} {id:Nat} {Q:Exit→Act→World→Prop}
  (Om:∀ x R a w,(f x).eval=some R→ja c n (eα x) a w→b.wp c.P (QC c n id eα eβ eγ R) a w)
  {k:Nat} {x:α} {r:β ⊕ γ} (h:iter f k x=some r) {a:Act} {w:World} (hx:ja c n (eα x) a w)
  (Ol:∀ y a w,r= .inl y→ja c n (eβ y) a w→Q (.exit id) a w) (alU:∀ z a w,r= .inr z→ja c n (eγ z) a w→Q .ret a w):(Code.loop b).wp c.P Q a w:=by
 refine YF (λk a w=>∃ x,iter f k x=some r∧ja c n (eα x) a w) ⟨k,x,h,hx⟩ ?_
 rintro k a w ⟨x,h,hx⟩
 cases k with
 |zero=>cases h
 |succ k=>
  simp only [iter] at h;split at h
  . rename_i x' hf
    refine wp_mono (Om x _ a w hf hx) λe a' w' he=> ?_;obtain ⟨rfl,he⟩:=he;exact ⟨k,Nat.lt_succ_self k,x',h,he⟩
  . rename_i y hf
    obtain rfl:=ac2 h;refine wp_mono (Om x _ a w hf hx) λe a' w' he=> ?_;obtain ⟨rfl,he⟩:=he;exact Ol y a' w' rfl he
  . rename_i z hf
    obtain rfl:=ac2 h;refine wp_mono (Om x _ a w hf hx) λe a' w' he=> ?_;obtain ⟨rfl,he⟩:=he;exact alU z a' w' rfl he
  . cases h
def Ac (c:Ctx) (n:Nat) (b:Code) (f:ed→Out (Ex×ed)):Prop:=
 ∀ s r a w,(f s).eval=some r→ja c n s a w→b.wp c.P (λe a' w'=>e=YG r.1∧ja c n r.2 a' w') a w
structure lp (ds:List Nat) (s s':ed):Prop where
 w:s'.w=s.w
 len:s'.t.length=s.t.length
 t:∀ j,j ∉ ds→s'.t.getD j .dead=s.t.getD j .dead
theorem lp.refl (ds:List Nat) (s:ed):lp ds s s:=⟨rfl,rfl,λ_ _=>rfl⟩
theorem lp.trans {ds:List Nat} {s s1 s2:ed} (h:lp ds s s1) (h':lp ds s1 s2):lp ds s s2:=⟨h'.w.trans h.w,h'.len.trans h.len,λj hj=>(h'.t j hj).trans (h.t j hj)⟩
theorem lp.mono {ds ds':List Nat} {s s':ed} (h:lp ds s s') (hd:∀ j∈ds,j∈ds'):lp ds' s s':=⟨h.w,h.len,λj hj=>h.t j λe=>hj (hd j e)⟩
theorem Hh {t:List aj} {d j:Nat} {v:aj} (h:d≠j):(t.set d v).getD j .dead=t.getD j .dead:=by grind
theorem EN {t:List aj} {dst:Option Nat} {v:aj} {j:Nat} (h:j ∉ dst.toList):(LK t dst v).getD j .dead=t.getD j .dead:=by
 cases dst with
 |none=>rfl
 |some d=>exact Hh λe=>h (by simp [e])
theorem vH {C:Cx} {ops:List Oper} {g i:Nat} {o:Oper} {s:ed} {r:ed×Log} (h:(Ef C ops g i o s).eval=some r):lp o.dst.toList s r.1:=by
 unfold Ef at h;obtain ⟨q,_,h⟩:=dj h;split at h
 . obtain rfl:=ac2 h
   exact ⟨rfl,ox _ _ _,λj hj=>EN hj⟩
 . cases h
theorem vI {ops:List Oper} {g i:Nat} {o:Oper} {s:ed} {r:ed×Log} (h:(Eg ops g i o s).eval=some r):lp o.dst.toList s r.1:=by
 unfold Eg at h;split at h
 . obtain rfl:=ac2 h
   exact ⟨rfl,ox _ _ _,λj hj=>EN hj⟩
 . cases h
theorem YH {C:Cx} {ops:List Oper} {g i:Nat} {o:Oper} {s:ed} {r:ed×Log} (ho:o∈ops) (h:(opL C ops g i o s).eval=some r):lp (ops.flatMap λo=>o.dst.toList) s r.1:=by
 have sub:∀ j∈o.dst.toList,j∈ops.flatMap λo=>o.dst.toList:=by grind
 unfold opL at h;split at h
 . exact (vH h).mono sub
 . split at h
   . cases h
   . rename_i d hd
     obtain ⟨o',E8,hd'⟩:=WP.1 hd;have ln:d∈ops.flatMap λo=>o.dst.toList:=by grind
     have seen:∀ (b:Bool) (kn:List (Nat×Bool)),lp (ops.flatMap λo=>o.dst.toList) s { s with t:=s.t.set d (.b b),kn }:=λb kn=>⟨rfl,by simp,by grind⟩
     split at h
     . split at h
       . exact (vH h).mono sub
       . exact (vI h).mono sub
     . split at h
       . rcases cJ h with ⟨_,h⟩|⟨_,h⟩
         . exact (seen _ _).trans ((vH h).mono sub)
         . exact (seen _ _).trans ((vI h).mono sub)
       . exact (vI h).mono sub
       . cases h
theorem yk {C:Cx} {ops:List Oper} {base:Nat}:∀ (l:List (Nat×Oper)) (s:ed) (lg:List Log) {r:ed×List Log},(∀ x∈l,x.2∈ops)→(qH C ops base l s lg).eval=some r→lp (ops.flatMap λo=>o.dst.toList) s r.1
 |[],s,lg,r,_,h=>by
  obtain rfl:=ac2 h;exact lp.refl _ _
 |(i,o)::l,s,lg,r,hl,h=>by
  simp only [qH] at h;obtain ⟨q,hq,h⟩:=dj h;exact (YH (hl (i,o) (by simp)) hq).trans (yk l _ _ (λx hx=>hl x (by simp [hx])) h)
theorem Ml {C:Cx} {id:Nat} {ops:List Oper} {draw:Bool} {s s':ed} (h:(region C id ops draw s).eval=some s'):lp (ops.flatMap λo=>o.dst.toList) s s':=by
 unfold region at h;obtain ⟨⟨q,lg⟩,hq,h⟩:=dj h;split at h
 . cases h
 . obtain rfl:=ac2 h
   exact yk _ _ _ (by grind) hq
theorem vJ:∀ (l:List Slot) (y:mx l),(gI l y).length=l.length
 |[],_=>rfl
 |x::r,y=>by simp [gI,vJ r]
theorem vK {h:List Slot} {n:Nat} {ds:List Nat} {l:List Slot} (hk:Jj h n ds l=true):l.length=n∧∀ j,fD l j=true→fD h j=true∧j ∉ ds:=by
 unfold Jj at hk;rw [aa6,ae4] at hk;refine ⟨hk.1,λj hj=> ?_⟩;have key:∀ (l:List Slot) (k j:Nat),fD l j=true→∃ x,(x,k+j)∈l.zipIdx k∧x.qJ=true:=by
  intro l
  induction l with
  |nil=>grind [fD]
  |cons x r ih=>
   intro k j h;cases j with
   |zero=>exact ⟨x,by simp,h⟩
   |succ j=>
    obtain ⟨y,hy,MK⟩:=ih (k+1) j h;grind
 obtain ⟨x,hx,Sk⟩:=key l 0 j hj;grind
theorem YI {S:Shape} {j:Nat} (h:j ∉ loose S) (hj:j<S.t.length):fD S.t j=true:=by
 have key:∀ (l:List Slot) (k j:Nat),j<l.length→(k+j) ∉ ((l.zipIdx k).filter λx=> !x.1.qJ).map (·.2)→fD l j=true:=by
  intro l
  induction l with
  |nil=>grind
  |cons x r ih=>
   intro k j hj hn;rw [List.zipIdx_cons] at hn;cases j with
   |zero=>
    grind [fD]
   |succ j=>
    refine ih (k+1) j (by simpa using hj) λhm=>hn ?_;grind
 exact key S.t 0 j hj (by rw [aeS];exact h)
theorem Mm {A:au} {ds:List Nat} {s:ed} {S:Shape} (hk:A.zV s.t.length ds=true) (hS:S∈A.nE) (x:S.D):lp (loose S) s (A.fin s S x):=by
 unfold au.zV at hk;rw [aa6] at hk;obtain ⟨hl,_⟩:=vK (adG.1 hk.1 S hS);have e1:(gI S.t x.1).length=S.t.length:=vJ _ _;refine ⟨rfl, ?_,λj hj=> ?_⟩
 . show (kq S.t s.t (gI S.t x.1)).length=s.t.length
   grind [vG]
 . show (kq S.t s.t (gI S.t x.1)).getD j .dead=s.t.getD j .dead
   grind [nL,Nat.lt_or_ge,YI,List.getElem?_eq_none,gI,fD]
theorem On {id:Nat} {A:au} {ds:List Nat} {f:ed→Out (Ex×ed)} {s:ed} {r:Ex×ed} (h:(LL id A ds f s).eval=some r):lp (loose A.out++(match A.ret with|some S=>loose S|none=>[])) s r.2:=by
 unfold LL at h;split at h
 case isFalse=>cases h
 rename_i hk;obtain ⟨x,_,h⟩:=aZ h;have h1:=λy=>Mm hk (S:=A.out) (by simp [au.nE]) y;have h2:=λS (hS:A.ret=some S) y=>Mm hk (S:=S) (by simp [au.nE,hS]) y;obtain ⟨hd,ot,rt,fr⟩:=A;cases rt with
 |some S=>
  replace h:(Out.get (iter (λx=>(f (hd.enc s.t _ _ x)).bind (Ej id ⟨hd,ot,some S,fr⟩)) aI x) λr=>Out.alt r (λy=> .ret (Ex.normal,au.fin ⟨hd,ot,some S,fr⟩ s ot y)) λz=> .ret (Ex.ret,au.fin ⟨hd,ot,some S,fr⟩ s S z)).eval=some r:=h;obtain ⟨q,_,h⟩:=j9 h;cases q with
  |inl y=>
   obtain rfl:=ac2 h;exact (h1 y).mono (by grind)
  |inr z=>
   obtain rfl:=ac2 h;exact (h2 S rfl z).mono (by grind)
 |none=>
  replace h:(Out.get (aP (λx=>(f (hd.enc s.t _ _ x)).bind (Ej id ⟨hd,ot,none,fr⟩)) aI x) λy=>Out.ret (Ex.normal,au.fin ⟨hd,ot,none,fr⟩ s ot y)).eval=some r:=h;obtain ⟨y,_,h⟩:=j9 h;obtain rfl:=ac2 h;exact (h1 y).mono λj hj=>adE.2 (.inl hj)
theorem iH {o:Out (Ex×ed)} {ds:List Nat} {s:ed} {id:Nat} (h:∀ r,o.eval=some r→lp ds s r.2) {r:Ex×ed} (hr:(o.map (xT id)).eval=some r):lp ds s r.2:=by
 obtain ⟨q,hq,h2⟩:=dj hr;obtain rfl:=ac2 h2;grind [xT]
theorem cN (A:Nat→Option au):∀ (b:Code) (s:ed) (r:Ex×ed),(dZ C A b s).eval=some r→lp (nF A b) s r.2
 | .skip,s,r,h=>by obtain rfl:=ac2 h;exact lp.refl _ _
 | .ret,s,r,h=>by obtain rfl:=ac2 h;exact lp.refl _ _
 | .exit m,s,r,h=>by obtain rfl:=ac2 h;exact lp.refl _ _
 | .seq x y,s,r,h=>by
   simp only [dZ] at h;obtain ⟨q,hq,h⟩:=dj h;have h1:=(cN A x s q hq).mono (ds':=nF A (.seq x y)) λj hj=>adE.2 (.inl hj);obtain ⟨e,s'⟩:=q;cases e with
   |normal=>exact h1.trans ((cN A y s' r h).mono λj hj=>adE.2 (.inr hj))
   |ret=>obtain rfl:=ac2 h;exact h1
   |exit m=>obtain rfl:=ac2 h;exact h1
 | .cond t x y,s,r,h=>by
   have hx:∀ j∈nF A x,j∈nF A (.cond t x y):=λj hj=>adE.2 (by grind);have hy:∀ j∈nF A y,j∈nF A (.cond t x y):=λj hj=>adE.2 (by grind);simp only [dZ] at h;split at h
   . exact (cN A x s r h).mono hx
   . exact (cN A y s r h).mono hy
   . split at h
     . rename_i d p _ _
       have seen:∀ (b:Bool) (kn:List (Nat×Bool)),lp (nF A (.cond (.tmp d) x y)) s { s with t:=s.t.set d (.b b),kn }:=λb kn=>⟨rfl,by simp,λj hj=>Hh λe=>hj (e ▸ adE.2 (.inl (by simp [apt])))⟩
       rcases cJ h with ⟨_,h⟩|⟨_,h⟩
       . exact (seen _ _).trans ((cN A x _ r h).mono hx)
       . exact (seen _ _).trans ((cN A y _ r h).mono hy)
     . cases h
 | .block id (.loop b),s,r,h=>by
   simp only [dZ] at h;split at h
   . rename_i A' e
     refine (On h).mono λj hj=> ?_;grind [nF,id]
   . cases h
 | .region id ops draw,s,r,h=>by
   simp only [dZ] at h;obtain ⟨s',XF,h⟩:=dj h;obtain rfl:=ac2 h;exact Ml XF
 | .block id .skip,s,r,h=>iH (cN A .skip s) h
 | .block id .ret,s,r,h=>iH (cN A .ret s) h
 | .block id (.exit m),s,r,h=>iH (cN A (.exit m) s) h
 | .block id (.seq x y),s,r,h=>iH (cN A (.seq x y) s) h
 | .block id (.cond t x y),s,r,h=>iH (cN A (.cond t x y) s) h
 | .block id (.block j x),s,r,h=>iH (cN A (.block j x) s) h
 | .block id (.region j o d),s,r,h=>iH (cN A (.region j o d) s) h
 | .block id (.rangeFunc f p as b),s,r,h=>iH (cN A (.rangeFunc f p as b) s) h
 | .block id (.scope b),s,r,h=>iH (cN A (.scope b) s) h
 | .block id (.label l),s,r,h=>iH (cN A (.label l) s) h
 | .block id (.goto l),s,r,h=>iH (cN A (.goto l) s) h
 | .block id (.refuse l),s,r,h=>iH (cN A (.refuse l) s) h
 | .loop _,s,r,h=>by simp [dZ,Out.eval] at h
 | .rangeFunc .., s,r,h=>by simp [dZ,Out.eval] at h
 | .scope _,s,r,h=>by simp [dZ,Out.eval] at h
 | .label _,s,r,h=>by simp [dZ,Out.eval] at h
 | .goto _,s,r,h=>by simp [dZ,Out.eval] at h
 | .refuse _,s,r,h=>by simp [dZ,Out.eval] at h
theorem qW {p:Nat×bV→Bool} (hp:∀ x y,x.1=y.1→p x=p y):∀ {l:List (Nat×bV)} {id:Nat} {z:bV},bp (l.filter p) id=some z→bp l id=some z∧p (id,z)=true
 |[],_,_,h=>by cases h
 |(k,x)::r,id,z,h=>by
  rw [akV] at h;split at h
  . rename_i hpx
    simp only [bp] at h ⊢;by_cases e:k=id
    . grind
    . rw [aae e] at h ⊢
      exact qW hp h
  . rename_i hpx
    have ih:=qW hp h;simp only [bp];grind
def atJ (_:au) (s:ed) (W:List (Nat×bV)) (K:List Nat):(o:Option Shape)→Ya o→ed
 |some S,z=>S.enc s.t W K z
 |none,z=>nomatch z
structure LoopIn (c:Ctx) (n:Nat) (A:au) (ds:List Nat) (s:ed) (W:List (Nat×bV)) (K:List Nat):Prop where
 keep:A.zV s.t.length ds=true
 len:s.t.length=n
 W:∀ id z,bp W id=some z→id / 64∈K∧∀ eD∈z.ids,eD / 64∈0::K
 K:∀ j,fD A.head.t j=true→∀ id∈(s.t.getD j .dead).ids,id / 64∈0::K
theorem LoopIn.again {A:au} {ds:List Nat} {s s':ed} {W:List (Nat×bV)} {K:List Nat} (h:LoopIn c n A ds s W K) {x:A.head.D} (hs:lp ds (A.head.enc s.t W K x) s') {a:Act} {w:World} (hr:ja c n s' a w)
  {S:Shape} (hS:S∈A.nE) {y:S.D} (hd:S.dec s'.w s'=some y):ja c n (S.enc s.t W K y) a w:=by
 have hw:s'.w=W:=hs.w;have hk:=h.keep;unfold au.zV at hk;rw [aa6] at hk;obtain ⟨l1,_⟩:=vK (adG.1 hk.1 A.head (by simp [au.nE]));obtain ⟨_,k2⟩:=vK (adG.1 hk.1 S hS);rw [hw] at hd;refine Hg hr hd (λid z hz=> ?_) h.W h.len λj hj=> ?_
 . have hn:=QB hd (show bp s'.w id=some z by rw [hw];exact hz)
   simp_all [ed.env,gw]
 . obtain ⟨q1,q2⟩:=k2 j hj
   refine ⟨(hs.t j q2).trans ?_,h.K j q1⟩;show (kq A.head.t s.t (gI A.head.t x.1)).getD j .dead=s.t.getD j .dead;grind [nL,vJ]
theorem Oo {b:Code} {f:ed→Out (Ex×ed)} {ds:List Nat} (hb:Ac c n b f) (hf:∀ s r,(f s).eval=some r→lp ds s r.2) (id:Nat) (A:au) {s:ed} {W:List (Nat×bV)} {K:List Nat} (hl:LoopIn c n A ds s W K) (x:A.head.D) (R:Round A.head.D A.out.D (Ya A.ret)) (a:Act) (w:World)
  (h:((f (A.head.enc s.t W K x)).bind (Ej id A)).eval=some R) (hx:ja c n (A.head.enc s.t W K x) a w):b.wp c.P (QC c n id (A.head.enc s.t W K) (A.out.enc s.t W K) (atJ A s W K A.ret) R) a w:=by
 replace h:=dj h;obtain ⟨r,hr,h⟩:=h;have hs:=hf _ r hr;refine wp_mono (hb _ r a w hr hx) λe a' w' he=> ?_;obtain ⟨rfl,he⟩:=he;unfold Ej at h;split at h
 . rename_i e1
   obtain ⟨x',vn,h⟩:=aZ h;obtain rfl:=ac2 h;exact ⟨by rw [e1];rfl,hl.again hs he (by simp [au.nE]) vn⟩
 . rename_i m e1
   split at h
   . rename_i e2;subst e2
     obtain ⟨x',vn,h⟩:=aZ h;obtain rfl:=ac2 h;exact ⟨by rw [e1];rfl,hl.again hs he (by simp [au.nE]) vn⟩
   . cases h
 . rename_i e1
   have hag:=λS (hS:A.ret=some S) (y:S.D) (hd:S.dec r.2.w r.2=some y)=>hl.again hs he (S:=S) (by simp [au.nE,hS]) hd;obtain ⟨hd,ot,rt,fr⟩:=A;cases rt with
   |none=>cases h
   |some S=>
    replace h:(Out.of (S.dec r.2.w r.2) λz=> .ret (.ret z):Out (Round hd.D ot.D (Ya (some S)))).eval=some R:=h;obtain ⟨x',vn,h⟩:=aZ h;obtain rfl:=ac2 h;exact ⟨by rw [e1];rfl,hag S rfl x' vn⟩
theorem QD {A:au} {s:ed} {S:Shape} {x:S.D} {a:Act} {w:World} (h:ja c n (S.enc s.t (A.rest s++s.w) (A.known s) x) a w):ja c n (A.fin s S x) a w:=by
 obtain ⟨⟨c1,μ,fp,he,hx⟩,hk,hl⟩:=h;have e:(A.fin s S x).f=(S.enc s.t (A.rest s++s.w) (A.known s) x).f:=by grind [ed.f,ed.env,au.fin,Shape.enc,List.append_assoc]
 exact ⟨by grind,hk,hl⟩
theorem Oq {b:Code} {f:ed→Out (Ex×ed)} {ds:List Nat} (hb:Ac c n b f) (hf:∀ s r,(f s).eval=some r→lp ds s r.2) (id:Nat) (A:au):Ac c n (.block id (.loop b)) (LL id A ds f):=by
 intro s r a w h hs;unfold LL at h;split at h
 case isFalse=>cases h
 rename_i hk;obtain ⟨x,hx,h⟩:=aZ h;have JV:rj s.f:=by obtain ⟨⟨c1,μ,fp,he,hx⟩,_⟩:=hs;exact hx.known
 have Yd:∀ id z,bp (A.rest s) id=some z→bp s.v id=some z∧id ∉ oS (A.head.map s) s.v A.head.v:=by
  intro id z hz;unfold au.rest at hz;split at hz
  . have:=qW (λx y e=>by rw [e]) hz
    refine ⟨this.1,by simpa using this.2⟩
  . cases hz
 have hWs:∀ id z,bp (A.rest s++s.w) id=some z→s.env id=some z∧(id ∉ oS (A.head.map s) s.v A.head.v∨bp s.v id=none):=by
  intro id z hz;rw [gw] at hz;cases e:bp (A.rest s) id with
  |some q=>
   rw [e] at hz;obtain rfl:=ac2 hz;exact ⟨mq (Yd id q e).1, .inl (Yd id q e).2⟩
  |none=>
   rw [e] at hz;have hn:=QB hx hz;refine ⟨?_, .inr hn⟩;unfold ed.env;rw [gw,hn];exact hz
 have hK:(A.fr=true∨s.w.isEmpty=false)→A.known s=s.k:=λe=>aaZ e;have ln:LoopIn c n A ds s (A.rest s++s.w) (A.known s):=by
  refine ⟨hk,hs.len,λid z hz=> ?_,λj hj id hi=> ?_⟩
  . have he:A.fr=true∨s.w.isEmpty=false:=by
     by_cases e:A.fr=true
     . exact .inl e
     . right
       unfold au.rest at hz;rw [aae e] at hz;cases hw:s.w with
       |nil=>rw [hw] at hz;cases hz
       |cons=>rfl
    rw [hK he];have:=JV.v id z (hWs id z hz).1;exact ⟨this.1,λeD hi=>adM.2 (.inr (this.2 eD hi))⟩
  . have he:A.fr=true:=by
     unfold au.zV at hk;rw [aa6,af7] at hk;rcases hk.2 with e|e
     . exact e
     . exfalso
       have h1:=adG.1 e A.head (by simp [au.nE]);unfold Yb at h1;have key:∀ (l:List Slot) (j:Nat),fD l j=true→∃ x∈l,x.qJ=true:=by
        intro l
        induction l with
        |nil=>intro j h;simp [fD] at h
        |cons x r ih=>
         intro j h;cases j with
         |zero=>exact ⟨x,by simp,h⟩
         |succ j=>obtain ⟨y,hy,MK⟩:=ih j h;exact ⟨y,by simp [hy],MK⟩
       obtain ⟨y,hy,MK⟩:=key _ _ hj;have:=adG.1 h1 y hy;rw [MK] at this;cases this
    rw [hK (.inl he)];exact adM.2 (.inr (JV.t j id hi))
 have vn:=Hg hs hx hWs ln.W hs.len λj hj=>⟨rfl,ln.K j hj⟩
 have afN:=Oo hb hf id A ln;have hfo:=λ(y:A.out.D) (a':Act) (w':World)=>QD (A:=A) (s:=s) (S:=A.out) (x:=y) (a:=a') (w:=w') (c:=c) (n:=n);have ku:=λ(S:Shape) (y:S.D) (a':Act) (w':World)=>QD (A:=A) (s:=s) (S:=S) (x:=y) (a:=a') (w:=w') (c:=c) (n:=n);obtain ⟨hd,ot,rt,fr⟩:=A;refine wp_block ?_;cases rt with
 |some S=>
  replace h:(Out.get (iter (λx=>(f (hd.enc s.t _ _ x)).bind (Ej id ⟨hd,ot,some S,fr⟩)) aI x) λr=>Out.alt r (λy=> .ret (Ex.normal,au.fin ⟨hd,ot,some S,fr⟩ s ot y)) λz=> .ret (Ex.ret,au.fin ⟨hd,ot,some S,fr⟩ s S z)).eval=some r:=h;obtain ⟨q,hq,h⟩:=j9 h;refine EM (id:=id) (λx R a w h1 h2=>afN x R a w h1 h2) hq vn (λy a' w' e he=> ?_) (λz a' w' e he=> ?_)
  . subst e
    obtain rfl:=ac2 h;simp only [Exit.inBlock,agm];exact ⟨rfl,hfo y a' w' he⟩
  . subst e
    obtain rfl:=ac2 h;exact ⟨rfl,ku S z a' w' he⟩
 |none=>
  replace h:(Out.get (aP (λx=>(f (hd.enc s.t _ _ x)).bind (Ej id ⟨hd,ot,none,fr⟩)) aI x) λy=>Out.ret (Ex.normal,au.fin ⟨hd,ot,none,fr⟩ s ot y)).eval=some r:=h;obtain ⟨y,hy,h⟩:=j9 h;unfold aP at hy;obtain ⟨q,hq,hy⟩:=ST.1 hy;obtain rfl:=ac2 h;refine EM (id:=id) (λx R a w h1 h2=>afN x R a w h1 h2) hq vn (λy' a' w' e he=> ?_) (λz a' w' e he=> ?_)
  . subst e
    simp only at hy;subst hy;simp only [Exit.inBlock,agm];exact ⟨rfl,hfo _ a' w' he⟩
  . exact nomatch z
theorem eI {b:Code} {f:ed→Out (Ex×ed)} (hb:Ac c n b f) (id:Nat):Ac c n (.block id b) (λs=>(f s).map (xT id)):=by
 intro s r a w h hs;obtain ⟨q,hq,h⟩:=dj h;obtain rfl:=ac2 h;refine wp_block (wp_mono (hb s q a w hq hs) λe a' w' he=> ?_);obtain ⟨rfl,he⟩:=he;obtain ⟨e,s'⟩:=q;cases e with
 |normal=>exact ⟨rfl,he⟩
 |ret=>exact ⟨rfl,he⟩
 |exit m=>
  simp only [YG,Exit.inBlock,xT];by_cases hm:m=id
  . rw [aaZ hm,aaZ hm];exact ⟨rfl,he⟩
  . rw [aae hm,aae hm];exact ⟨rfl,he⟩
theorem Mn {s:ed} {a:Act} {w:World} (h:ja c n s a w) {d:Nat} {b:Bool} (hb:s.t.getD d .dead= .b b):ja c n { s with t:=s.t.set d (.b b),kn:=(d,b)::s.kn } a w:=by
 obtain ⟨⟨c1,μ,fp,he,hx⟩,hk,hl⟩:=h;exact ⟨by grind [Oh],Ju hk hb,by simpa using hl⟩
theorem bX (hC:kM C c.P) (hF:ki C c.P) (hm:c.P.follows .mixedOrders=true) (A:Nat→Option au):∀ b:Code,Ac c n b (dZ C A b)
 | .skip=>λs r a w h hs=>by
   obtain rfl:=ac2 (show some (Ex.normal,s)=some r from h);exact wp_skip ⟨rfl,hs⟩
 | .ret=>λs r a w h hs=>by
   obtain rfl:=ac2 (show some (Ex.ret,s)=some r from h);exact wp_ret ⟨rfl,hs⟩
 | .exit m=>λs r a w h hs=>by
   obtain rfl:=ac2 (show some (Ex.exit m,s)=some r from h);exact wp_exit ⟨rfl,hs⟩
 | .seq x y=>λs r a w h hs=>by
   simp only [dZ] at h;obtain ⟨q,hq,h⟩:=dj h;refine wp_seq (wp_mono (bX hC hF hm A x s q a w hq hs) λe a' w' he=> ?_);obtain ⟨rfl,he⟩:=he;obtain ⟨e,s'⟩:=q;cases e with
   |normal=>exact bX hC hF hm A y s' r a' w' h he
   |ret=>obtain rfl:=ac2 h;exact ⟨rfl,he⟩
   |exit m=>obtain rfl:=ac2 h;exact ⟨rfl,he⟩
 | .cond t x y=>λs r a w h hs=>by
   simp only [dZ] at h;obtain ⟨⟨c1,μ,fp,he,hx⟩,hk,hl⟩:=hs;have hs:ja c n s a w:=⟨⟨c1,μ,fp,he,hx⟩,hk,hl⟩
   have hv:=hx.de t;split at h
   . rename_i e
     rw [yg hk e] at hv;simp only [az] at hv;exact wp_cond_true hv (bX hC hF hm A x s r a w h hs)
   . rename_i e
     rw [yg hk e] at hv;simp only [az] at hv;exact wp_cond_false hv (bX hC hF hm A y s r a w h hs)
   . split at h
     . rename_i d p _ e
       have e':s.t.getD d .dead= .b p:=e;have hv:az c1 μ (a.eval (.tmp d)) (.b p):=by rw [← e'];exact hv
       simp only [az] at hv;rcases cJ h with ⟨rfl,h⟩|⟨rfl,h⟩
       . exact wp_cond_true hv (bX hC hF hm A x _ r a w h (Mn hs e'))
       . exact wp_cond_false hv (bX hC hF hm A y _ r a w h (Mn hs e'))
     . cases h
 | .block id (.loop b)=>λs r a w h hs=>by
   simp only [dZ] at h;split at h
   . rename_i A' e
     exact Oq (bX hC hF hm A b) (cN A b) id A' s r a w h hs
   . cases h
 | .region id ops draw=>λs r a w h hs=>by
   simp only [dZ] at h;obtain ⟨s',XF,h⟩:=dj h;obtain rfl:=ac2 h;exact Jv hC hF hm hs XF λa' w' h'=>⟨rfl,h'⟩
 | .block id .skip=>eI (bX hC hF hm A .skip) id
 | .block id .ret=>eI (bX hC hF hm A .ret) id
 | .block id (.exit m)=>eI (bX hC hF hm A (.exit m)) id
 | .block id (.seq x y)=>eI (bX hC hF hm A (.seq x y)) id
 | .block id (.cond t x y)=>eI (by simp_all [bX]) id
 | .block id (.block j x)=>eI (bX hC hF hm A (.block j x)) id
 | .block id (.region j o d)=>eI (bX hC hF hm A (.region j o d)) id
 | .block id (.rangeFunc f p as b)=>eI (bX hC hF hm A (.rangeFunc f p as b)) id
 | .block id (.scope b)=>eI (bX hC hF hm A (.scope b)) id
 | .block id (.label l)=>eI (bX hC hF hm A (.label l)) id
 | .block id (.goto l)=>eI (bX hC hF hm A (.goto l)) id
 | .block id (.refuse l)=>eI (bX hC hF hm A (.refuse l)) id
 | .loop _=>λs r a w h hs=>by simp [dZ,Out.eval] at h
 | .rangeFunc .. =>λs r a w h hs=>by simp [dZ,Out.eval] at h
 | .scope _=>λs r a w h hs=>by simp [dZ,Out.eval] at h
 | .label _=>λs r a w h hs=>by simp [dZ,Out.eval] at h
 | .goto _=>λs r a w h hs=>by simp [dZ,Out.eval] at h
 | .refuse _=>λs r a w h hs=>by simp [dZ,Out.eval] at h
end
end
section
open Go
inductive Cm where
 |b
 |i (k:IntKind)
 |s
 |e
 |k
 |ro (e:Ty)
 |own (e:Ty)
 |mut (e:Ty)
def cmC:Cm→Type→Type
 | .b,T=>Bool×T
 | .i _,T=>Int×T
 | .s,T=>List UInt8×T
 | .e,T=>Bool×T
 | .k,T=>T
 | .ro e,T=>List e.D×T
 | .own e,T=>List e.D×T
 | .mut e,T=>List e.D×T
def uK:List Cm→Type
 |[]=>Unit
 |c::r=>cmC c (uK r)
def alW:Cm→Type→Type
 | .b,T=>Bool×T
 | .i _,T=>Int×T
 | .s,T=>List UInt8×T
 | .e,T=>Bool×T
 | .k,T=>T
 | .ro _,T=>T
 | .own e,T=>List e.D×T
 | .mut e,T=>List e.D×T
def alX:Cm→Type→Type
 | .mut e,T=>List e.D×T
 |_,T=>T
def mA:List Cm→Type
 |[]=>Unit
 |c::r=>alW c (mA r)
def qX:List Cm→Type
 |[]=>Unit
 |c::r=>alX c (qX r)
structure Item where
 ptr:Bool
 agg:Bool
 cs:List Cm
def aw:List Item→Type
 |[]=>Unit
 |it::r=>uK it.cs×aw r
def vL (it:Item):Type:=
 match it with
 |⟨true,_,cs⟩=>mA cs
 |⟨false,_,cs⟩=>qX cs
def iC:List Item→Type
 |[]=>Unit
 |it::r=>vL it×iC r
abbrev QL:=List (Option (Nat×Nat))
def na:QL→List Value→List Value
 |[],_=>[]
 |none::r,v::vs=>v::na r vs
 |none::r,[]=>na r []
 |some (g,k)::r,vs=> .func (.func g) #[] (vs.take k).toArray::na r (vs.drop k)
def Ad:QL→List aj→List aj
 |[],_=>[]
 |none::r,v::vs=>v::Ad r vs
 |none::r,[]=>Ad r []
 |some (g,k)::r,vs=> .fn g (vs.take k)::Ad r (vs.drop k)
def Hi:QL→List aj→Option (List aj)
 |[],[]=>some []
 |none::r,d::ds=>(Hi r ds).map λq=>d::q
 |some (g,k)::r, .fn g' qF::ds=>if g=g'∧qF.length=k then (Hi r ds).map λq=>qF++q else none
 |_,_=>none
def Ot (E:Env) (e:Ty):aj→Option (List e.D×List Nat)
 | .oR=>j7 E e .oR
 | .dn id none=>j7 E e (.dn id none)
 |_=>none
def fU (E EL:Env):(l:List Cm)→List aj→Option (uK l×List Nat)
 |[],[]=>some ((),[])
 | .b::r, .b x::q=>(fU E EL r q).map λy=>((x,y.1),y.2)
 | .i k::r, .i k' x::q=>if k=k' then (fU E EL r q).map λy=>((x,y.1),y.2) else none
 | .s::r, .s x::q=>(fU E EL r q).map λy=>((x,y.1),y.2)
 | .e::r, .er x::q=>(fU E EL r q).map λy=>((x,y.1),y.2)
 | .k::r,d::q=>if d.bB=true then fU E EL r q else none
 | .ro e::r,d::q=>(zS EL e d).bind λx=>(fU E EL r q).map λy=>((x,y.1),y.2)
 | .own e::r,d::q=>(j7 E e d).bind λz=>(fU E EL r q).map λy=>((z.1,y.1),z.2++y.2)
 | .mut e::r,d::q=>(Ot E e d).bind λz=>(fU E EL r q).map λy=>((z.1,y.1),z.2++y.2)
 |_,_=>none
def isAgg:aj→Bool
 | .agg _=>true
 |_=>false
def Mo (E EL:Env):(it:Item)→aj→Option (uK it.cs×List Nat)
 |⟨false,a,cs⟩,d=>if isAgg d=a∧d.cells.all aj.bB=true then fU E EL cs d.cells else none
 |⟨true,_,cs⟩, .vptr id off=>
  match E id with
  |some (.var l)=>if off+cs.length≤l.length then (fU E EL cs ((l.drop off).take cs.length)).map λy=>(y.1,id::y.2) else none
  |_=>none
 |_,_=>none
def nM (E EL:Env):(l:List Item)→List aj→Option (aw l×List Nat)
 |[],[]=>some ((),[])
 |it::r,d::q=>(Mo E EL it d).bind λx=>(nM E EL r q).map λy=>((x.1,y.1),x.2++y.2)
 |_,_=>none
def atK (tk:Bool) (n:Nat):Option Nat:=if tk then some n else none
def bf (tk:Bool):(l:List Cm)→uK l→Nat→List aj×List (Nat×bV)×Nat
 |[],_,n=>([],[],n)
 | .b::r,x,n=>(.b x.1::(bf tk r x.2 n).1,(bf tk r x.2 n).2)
 | .i k::r,x,n=>(.i k x.1::(bf tk r x.2 n).1,(bf tk r x.2 n).2)
 | .s::r,x,n=>(.s x.1::(bf tk r x.2 n).1,(bf tk r x.2 n).2)
 | .e::r,x,n=>(.er x.1::(bf tk r x.2 n).1,(bf tk r x.2 n).2)
 | .k::r,x,n=>((bif tk then .kp n else .kC)::(bf tk r x (n+1)).1,(bf tk r x (n+1)).2)
 | .ro e::r,x,n=>(.ro e x.1 (atK tk n)::(bf tk r x.2 (n+1)).1,(bf tk r x.2 (n+1)).2)
 | .own e::r,x,n=>(.dn n none::(bf tk r x.2 (n+1)).1,(n, .arr e x.1)::(bf tk r x.2 (n+1)).2.1,(bf tk r x.2 (n+1)).2.2)
 | .mut e::r,x,n=>(.dn n none::(bf tk r x.2 (n+1)).1,(n, .arr e x.1)::(bf tk r x.2 (n+1)).2.1,(bf tk r x.2 (n+1)).2.2)
def EO (a:Bool) (l:List aj):aj:=if a then .agg l else l.headD .dead
def lP (tk:Bool):(it:Item)→uK it.cs→Nat→aj×List (Nat×bV)×Nat
 |⟨false,a,cs⟩,x,n=>(EO a (bf tk cs x n).1,(bf tk cs x n).2)
 |⟨true,_,cs⟩,x,n=>(.vptr n 0,(bf tk cs x (n+1)).2.1++[(n, .var (bf tk cs x (n+1)).1)],(bf tk cs x (n+1)).2.2)
def eu (tk:Bool):(l:List Item)→aw l→Nat→List aj×List (Nat×bV)×Nat
 |[],_,n=>([],[],n)
 |it::r,x,n=>((lP tk it x.1 n).1::(eu tk r x.2 (lP tk it x.1 n).2.2).1,(lP tk it x.1 n).2.1++(eu tk r x.2 (lP tk it x.1 n).2.2).2.1,(eu tk r x.2 (lP tk it x.1 n).2.2).2.2)
def eL (E:Env):(l:List Cm)→Nat→List aj→Option (mA l×List Nat)
 |[],_,[]=>some ((),[])
 | .b::r,n, .b x::q=>(eL E r n q).map λy=>((x,y.1),y.2)
 | .i k::r,n, .i k' x::q=>if k=k' then (eL E r n q).map λy=>((x,y.1),y.2) else none
 | .s::r,n, .s x::q=>(eL E r n q).map λy=>((x,y.1),y.2)
 | .e::r,n, .er x::q=>(eL E r n q).map λy=>((x,y.1),y.2)
 | .k::r,n, .kp k::q=>if k=n then eL E r (n+1) q else none
 | .ro _::r,n, .ro _ _ (some k)::q=>if k=n then eL E r (n+1) q else none
 | .own e::r,n,d::q=>(j7 E e d).bind λz=>(eL E r (n+1) q).map λy=>((z.1,y.1),z.2++y.2)
 | .mut e::r,n,d::q=>(j7 E e d).bind λz=>(eL E r (n+1) q).map λy=>((z.1,y.1),z.2++y.2)
 |_,_,_=>none
def ix (E:Env):(l:List Cm)→Nat→Option (qX l×List Nat)
 |[],_=>some ((),[])
 | .b::r,n=>ix E r n
 | .i _::r,n=>ix E r n
 | .s::r,n=>ix E r n
 | .e::r,n=>ix E r n
 | .k::r,n=>ix E r (n+1)
 | .ro _::r,n=>ix E r (n+1)
 | .own _::r,n=>ix E r (n+1)
 | .mut e::r,n=>(j7 E e (.dn n none)).bind λz=>(ix E r (n+1)).map λy=>((z.1,y.1),z.2++y.2)
def vM:List Cm→Nat→Nat
 |[],n=>n
 | .b::r,n=>vM r n
 | .i _::r,n=>vM r n
 | .s::r,n=>vM r n
 | .e::r,n=>vM r n
 | .k::r,n=>vM r (n+1)
 | .ro _::r,n=>vM r (n+1)
 | .own _::r,n=>vM r (n+1)
 | .mut _::r,n=>vM r (n+1)
def FM:Item→Nat→Nat
 |⟨false,_,cs⟩,n=>vM cs n
 |⟨true,_,cs⟩,n=>vM cs (n+1)
def Ou (E:Env):(it:Item)→Nat→Option (vL it×List Nat)
 |⟨false,_,cs⟩,n=>ix E cs n
 |⟨true,_,cs⟩,n=>
  match E n with
  |some (.var l)=>(eL E cs (n+1) l).map λy=>(y.1,n::y.2)
  |_=>none
def Jw (E:Env):(l:List Item)→Nat→Option (iC l×List Nat)
 |[],_=>some ((),[])
 |it::r,n=>(Ou E it n).bind λx=>(Jw E r (FM it n)).map λy=>((x.1,y.1),x.2++y.2)
def cb:(l:List Cm)→List aj→mA l→Nat→List aj×List (Nat×bV)×Nat
 | .b::r,_::q,x,n=>(.b x.1::(cb r q x.2 n).1,(cb r q x.2 n).2)
 | .i k::r,_::q,x,n=>(.i k x.1::(cb r q x.2 n).1,(cb r q x.2 n).2)
 | .s::r,_::q,x,n=>(.s x.1::(cb r q x.2 n).1,(cb r q x.2 n).2)
 | .e::r,_::q,x,n=>(.er x.1::(cb r q x.2 n).1,(cb r q x.2 n).2)
 | .k::r,d::q,x,n=>(d::(cb r q x n).1,(cb r q x n).2)
 | .ro _::r,d::q,x,n=>(d::(cb r q x n).1,(cb r q x n).2)
 | .own e::r,_::q,x,n=>(.dn n none::(cb r q x.2 (n+1)).1,(n, .arr e x.1)::(cb r q x.2 (n+1)).2.1,(cb r q x.2 (n+1)).2.2)
 | .mut e::r,_::q,x,n=>(.dn n none::(cb r q x.2 (n+1)).1,(n, .arr e x.1)::(cb r q x.2 (n+1)).2.1,(cb r q x.2 (n+1)).2.2)
 |_,_,_,n=>([],[],n)
def sH:(l:List Cm)→List aj→qX l→List (Nat×bV)
 | .b::r,_::q,x=>sH r q x
 | .i _::r,_::q,x=>sH r q x
 | .s::r,_::q,x=>sH r q x
 | .e::r,_::q,x=>sH r q x
 | .k::r,_::q,x=>sH r q x
 | .ro _::r,_::q,x=>sH r q x
 | .own _::r,_::q,x=>sH r q x
 | .mut e::r, .dn id none::q,x=>(id, .arr e x.1)::sH r q x.2
 | .mut _::r,_::q,x=>sH r q x.2
 |_,_,_=>[]
def oz (E:Env):(it:Item)→aj→vL it→Nat→List (Nat×bV)×Nat
 |⟨false,_,cs⟩,d,x,n=>(sH cs d.cells x,n)
 |⟨true,_,cs⟩, .vptr id off,x,n=>
  match E id with
  |some (.var l)=>((cb cs ((l.drop off).take cs.length) x n).2.1++[(id, .var (fP l off (cb cs ((l.drop off).take cs.length) x n).1))],(cb cs ((l.drop off).take cs.length) x n).2.2)
  |_=>([],n)
 |⟨true,_,_⟩,_,_,n=>([],n)
def kv (E:Env):(l:List Item)→List aj→iC l→Nat→List (Nat×bV)×Nat
 |it::r,d::q,x,n=>((oz E it d x.1 n).1++(kv E r q x.2 (oz E it d x.1 n).2).1,(kv E r q x.2 (oz E it d x.1 n).2).2)
 |_,_,_,n=>([],n)
structure bK where
 f:Nat
 lend:Bool
 aF:List Item
 lay:QL
 rs:List Item
 F:aw aF→Out (aw rs×iC aF)
def adp:List aj→aj
 |[d]=>d
 |ds=> .MH ds
def EP (E:Env) (ids:List Nat):Env:=λid=>if ids.contains id=true then none else E id
def QE:Env:=λ_=>none
def ER (l:List Item):Bool:=l.all λit=>it.cs.all λc=>match c with| .ro _=>false| .own e=>e.so| .mut e=>e.so|_=>true
def Jx (p:Ty→Bool):Cm→Bool
 | .own e=>p e
 | .mut e=>p e
 |_=>true
def R2 (p:Ty→Bool) (l:List Item):Bool:=l.all λit=>it.cs.all (Jx p)
def after (K:bK) (E:Env) (ds:List aj) (ids:List Nat) (fr:Nat) (y:aw K.rs×iC K.aF):Out jR:=
 let bk:=kv E K.aF ds y.2 fr
 let en:=eu false K.rs y.1 bk.2
 if en.2.2≤fr+64 then .ret (adp en.1,(ids.map λk=>(k,none))++news (bk.1++en.2.1)) else .fail
def Mp (K:bK) (E:Env) (ds:List aj):Env:=
 if K.lend=true then
  match nM E E K.aF ds with
  |some x=>EP E x.2
  |none=>QE
 else QE
def bK.call (K:bK) (ds:List aj) (E:Env) (fr:Nat):Option (Out jR):=
 (Hi K.lay ds).bind λis=>(nM E (Mp K E is) K.aF is).bind λx=>
  if nC x.2=true∧(K.lend=false∨((ER K.rs=true∧R2 Ty.so K.aF=true)∧x.2.all (λid=>(Mp K E is id).isNone)=true)) then some ((K.F x.1).bind (after K E is x.2 fr)) else none
def Mq:List bK→Nat→List aj→Env→Nat→Out jR
 |[],_,_,_,_=> .fail
 |K::r,f,ds,E,fr=>if K.f=f then
   match K.call ds E fr with
   |some o=>o
   |none=>Mq r f ds E fr
  else Mq r f ds E fr
def entry (aF:List Item) (lay:QL) (ntmps:Nat) (x:aw aF):ed:=
 let en:=eu true aF x 0
 { t:=Ad lay en.1++List.replicate (ntmps - (Ad lay en.1).length) .undef,v:=Fx [] (news en.2.1),k:=[0],kn:=[] }
def aqd (C:Cx) (s:ed):ResultVar→Option aj
 | .tmp j=>some (s.t.getD j .dead)
 | .cell a t=>
   match s.t.getD a .dead with
   | .vptr id off=>
     match bp s.v id with
     |some (.var cs)=>(C.ty t).bind λty=>if off+ty.size≤cs.length then some (oq ty ((cs.drop off).take ty.size)) else none
     |_=>none
   |_=>none
def QF (C:Cx) (s:ed):List ResultVar→Option (List aj)
 |[]=>some []
 |r::l=>(aqd C s r).bind λd=>(QF C s l).map λds=>d::ds
def atL (E:Env):Env:=λid=>
 match E id with
 |some (.arr e xs)=>some (.arr e xs)
 |some (.Ea e xs x i off u k)=>some (.Ea e xs x i off u k)
 |some (.xN e xs i cs)=>some (.xN e xs i cs)
 |_=>none
def ES (rs:List Item) (E:Env) (ds:List aj) (zs:List Nat):Env:=
 if ER rs=false then
  match nM E E rs ds with
  |some y=>atL (EP E (y.2++zs))
  |_=>QE
 else QE
def leave (C:Cx) (aF rs:List Item) (rtm:List ResultVar) (s:ed):Option (aw rs×iC aF):=
 (QF C s rtm).bind λds=>(Jw (bp s.v) aF 0).bind λz=>(nM (bp s.v) (ES rs (bp s.v) ds z.2) rs ds).bind λy=>
  if nC (y.2++z.2)=true∧(ER rs=true∨((y.2++z.2).all λid=>(ES rs (bp s.v) ds z.2 id).isNone)=true) then some (y.1,z.1) else none
def Hv (C:Cx) (A:Nat→Option au) (code:Code) (aF:List Item) (lay:QL) (ntmps:Nat) (rs:List Item) (rtm:List ResultVar) (x:aw aF):Out (aw rs×iC aF):=
 (dZ C A code (entry aF lay ntmps x)).bind λr=>
  match r.1 with
  | .exit _=> .fail
  |_=> .of (leave C aF rs rtm r.2) .ret
end
section
open Go
variable {z:Fz}
def aV (S:Nat→Prop) (w:World):(l:List Cm)→List Value→uK l→List Nat→Prop
 |[],vs,_,f=>vs=[]∧f=[]
 | .b::r,vs,x,f=>∃ bg,vs= .bool x.1::bg∧aV S w r bg x.2 f
 | .i k::r,vs,x,f=>∃ bg,vs= .int k x.1::bg∧aV S w r bg x.2 f
 | .s::r,vs,x,f=>∃ bg,vs= .string ⟨List.toArray x.1⟩::bg∧List.length x.1≤cj∧aV S w r bg x.2 f
 | .e::r,vs,x,f=>∃ v bg,vs=v::bg∧erV v x.1∧aV S w r bg x.2 f
 | .k::r,vs,x,f=>∃ v bg,vs=v::bg∧v.oneCell'=true∧aV S w r bg x f
 | .ro e::r,vs,x,f=>∃ v bg,vs=v::bg∧(Ty.sl e).aT S w [v] x.1∧aV S w r bg x.2 f
 | .own e::r,vs,x,f=>∃ v bg f1 f2,vs=v::bg∧f=f1++f2∧(Ty.sl e).aC ⟨S,w⟩ w [v] x.1 f1∧aV S w r bg x.2 f2
 | .mut e::r,vs,x,f=>∃ v bg f1 f2,vs=v::bg∧f=f1++f2∧(Ty.sl e).aC ⟨S,w⟩ w [v] x.1 f1∧aV S w r bg x.2 f2
theorem eU {S:Nat→Prop} {w:World}:(l:List Cm)→{vs:List Value}→{x:uK l}→{f:List Nat}→aV S w l vs x f→vs.length=l.length
 |[],_,_,_,h=>by grind [aV]
 | .b::r,_,_,_,h=>by simp only [aV] at h;obtain ⟨bg,rfl,h⟩:=h;simp [eU r h]
 | .i _::r,_,_,_,h=>by simp only [aV] at h;obtain ⟨bg,rfl,h⟩:=h;simp [eU r h]
 | .s::r,_,_,_,h=>by simp only [aV] at h;obtain ⟨bg,rfl,_,h⟩:=h;simp [eU r h]
 | .e::r,_,_,_,h=>by simp only [aV] at h;obtain ⟨_,bg,rfl,_,h⟩:=h;simp [eU r h]
 | .k::r,_,_,_,h=>by simp only [aV] at h;obtain ⟨_,bg,rfl,_,h⟩:=h;simp [eU r h]
 | .ro e::r,_,_,_,h=>by simp only [aV] at h;obtain ⟨v,bg,rfl,_,h⟩:=h;simp [eU r h]
 | .own e::r,_,_,_,h=>by simp only [aV] at h;obtain ⟨v,bg,f1,f2,rfl,_,_,h⟩:=h;simp [eU r h]
 | .mut e::r,_,_,_,h=>by simp only [aV] at h;obtain ⟨v,bg,f1,f2,rfl,_,_,h⟩:=h;simp [eU r h]
def jb (c:Ctx) (tk:Bool):List Cm→List Value→Nat→Prop
 | .b::r,_::vs,n=>jb c tk r vs n
 | .i _::r,_::vs,n=>jb c tk r vs n
 | .s::r,_::vs,n=>jb c tk r vs n
 | .e::r,_::vs,n=>jb c tk r vs n
 | .k::r,v::vs,n=>(tk=true→c.tok n=v)∧jb c tk r vs (n+1)
 | .ro _::r,v::vs,n=>(tk=true→c.tok n=v)∧jb c tk r vs (n+1)
 | .own _::r,_::vs,n=>jb c tk r vs (n+1)
 | .mut _::r,_::vs,n=>jb c tk r vs (n+1)
 |_,_,_=>True
theorem ka (tk:Bool):(l:List Cm)→(x:uK l)→(n:Nat)→(bf tk l x n).2.2=vM l n
 |[],_,_=>rfl
 | .b::r,x,n=>ka tk r x.2 n
 | .i _::r,x,n=>ka tk r x.2 n
 | .s::r,x,n=>ka tk r x.2 n
 | .e::r,x,n=>ka tk r x.2 n
 | .k::r,x,n=>ka tk r x (n+1)
 | .ro _::r,x,n=>ka tk r x.2 (n+1)
 | .own _::r,x,n=>ka tk r x.2 (n+1)
 | .mut _::r,x,n=>ka tk r x.2 (n+1)
theorem ic:(l:List Cm)→(n:Nat)→n≤vM l n
 |[],n=>adK n
 | .b::r,n=>ic r n
 | .i _::r,n=>ic r n
 | .s::r,n=>ic r n
 | .e::r,n=>ic r n
 | .k::r,n=>adQ (alo n) (ic r (n+1))
 | .ro _::r,n=>adQ (alo n) (ic r (n+1))
 | .own _::r,n=>adQ (alo n) (ic r (n+1))
 | .mut _::r,n=>adQ (alo n) (ic r (n+1))
theorem Jy (it:Item) (n:Nat):n≤FM it n:=by
 obtain ⟨p,a,cs⟩:=it;cases p with
 |false=>exact ic cs n
 |true=>exact adQ (alo n) (ic cs (n+1))
theorem sI (tk:Bool) (it:Item) (x:uK it.cs) (n:Nat):(lP tk it x n).2.2=FM it n:=by
 obtain ⟨p,a,cs⟩:=it;cases p with
 |false=>exact ka tk cs x n
 |true=>exact ka tk cs x (n+1)
def oX:List Item→Nat→Nat
 |[],n=>n
 |it::r,n=>oX r (FM it n)
theorem yl:(l:List Item)→(n:Nat)→n≤oX l n
 |[],n=>adK n
 |it::r,n=>adQ (Jy it n) (yl r _)
theorem Hj (tk:Bool):(l:List Item)→(x:aw l)→(n:Nat)→(eu tk l x n).2.2=oX l n
 |[],_,_=>rfl
 |it::r,x,n=>by
  show (eu tk r x.2 (lP tk it x.1 n).2.2).2.2=oX r (FM it n);rw [Hj tk r,sI]
structure iS (c:Ctx) (K:Nat→Prop) (μ:Nat→Loc) (fp:Nat→List Nat) (v:Env) (w:World) (rest:List Nat):Prop where
 rel:dq c μ fp v w
 known:∀ id x,v id=some x→K id∧∀ eD∈x.ids,K eD
 nodup:rest.Nodup
 far:∀ id,v id≠none→∀ b∈fp id,b ∉ rest
 ok:∀ b∈rest,¬ c.S b∧b<w.heap.size
section
variable {c:Ctx} {K K':Nat→Prop} {μ μ':Nat→Loc} {fp:Nat→List Nat} {v:Env} {w:World}
theorem iS.perm {rest afO:List Nat} (h:iS c K μ fp v w rest) (hp:rest.Perm afO):iS c K μ fp v w afO:=
 ⟨h.rel,h.known,hp.nodup_iff.1 h.nodup,λid hv b hb cE=>h.far id hv b hb (hp.mem_iff.2 cE),λb hb=>h.ok b (hp.mem_iff.2 hb)⟩
theorem iS.add {f0 rest:List Nat} (h:iS c K μ fp v w (f0++rest)) {id0:Nat} {x0:bV} (GR:∀ id,K id→μ' id=μ id) (hK:∀ id,K id→K' id) (h0:K' id0) (hx:∀ eD∈x0.ids,K' eD)
  (um:cR c μ' w id0 f0 x0):iS c K' μ' (λk=>if k=id0 then f0 else fp k) (cI v (news [(id0,x0)])) w rest:=by
 have JL:=ad1.1 h.nodup;have ade:∀ k,cI v (news [(id0,x0)]) k=if k=id0 then some x0 else v k:=λk=>rfl
 refine ⟨?_, ?_,JL.2.1, ?_,λb hb=>h.ok b (by simp [hb])⟩
 . exact h.rel.nH [] id0 x0 f0 (λid y hy _ _=>⟨GR id (h.known id y hy).1,λi hi=>GR i ((h.known id y hy).2 i hi)⟩) (λ_ _ _ _ _ _=>rfl) (adK _) um JL.1
    λb hb=>⟨(h.ok b (by simp [hb])).1,(h.ok b (by simp [hb])).2,λid hv _ _ cE=>h.far id hv b cE (by simp [hb])⟩
 . intro id y hy
   rw [ade] at hy;by_cases hi:id=id0
   . grind
   . rw [aae hi] at hy
     exact ⟨hK id (h.known id y hy).1,λi dh=>hK i ((h.known id y hy).2 i dh)⟩
 . intro id hv b hb cE
   rw [ade] at hv;by_cases hi:id=id0
   . grind
   . rw [aae hi] at hv
     simp only [aae hi] at hb;exact h.far id hv b hb (by simp [cE])
theorem iS.adq {f0 rest:List Nat} {n:Nat} {e:Ty} {xs:List e.D} {hd:Value} (h:iS c K μ fp v w (f0++rest)) (hn:¬ K n) (hr:(Ty.sl e).aC c.fz w [hd] xs f0)
  (hM:∀ b∈f0,b<c.w0.heap.size→∀ j,c.M b j):
  ∃ μ' fp',az c μ' hd (.dn n none)∧iS c (λid=>K id∨id=n) μ' fp' (cI v (news [(n, .arr e xs)])) w rest∧∀ id,K id→μ' id=μ id:=by
 have LG:=hr;simp only [Ty.aC] at LG;obtain ⟨a,cap,e1,hc,_⟩:=LG;cases e1;have ha:∀ id,K id→(if id=n then Loc.tY a (List.length xs) cap e.size else μ id)=μ id:=by grind
 refine ⟨λid=>if id=n then .tY a (List.length xs) cap e.size else μ id,_, ?_,h.add (K':=λid=>K id∨id=n) ha (λ_=> .inl) (.inr rfl) (λ_ hi=>by cases hi) ⟨a,cap,aaZ rfl,hr,hM⟩,ha⟩;simp only [az];exact ⟨a,List.length xs,cap,e.size,by simp,rfl⟩
theorem iS.weaken {rest:List Nat} (h:iS c K μ fp v w rest) (hK:∀ id,K id→K' id):iS c K' μ fp v w rest:=
 ⟨h.rel,λid x hx=>⟨hK id (h.known id x hx).1,λi hi=>hK i ((h.known id x hx).2 i hi)⟩,h.nodup,h.far,h.ok⟩
theorem gJ (tk:Bool):(l:List Cm)→(x:uK l)→(n:Nat)→∀ id∈aj.bO (bf tk l x n).1,n≤id∧id<vM l n
 |[],_,_=>by intro id h;cases h
 | .b::r,x,n=>gJ tk r x.2 n
 | .i _::r,x,n=>gJ tk r x.2 n
 | .s::r,x,n=>gJ tk r x.2 n
 | .e::r,x,n=>gJ tk r x.2 n
 | .k::r,x,n=>λid h=>by
   have h:id∈(bif tk then aj.kp n else aj.kC).ids++aj.bO (bf tk r x (n+1)).1:=h;have h0:(bif tk then aj.kp n else aj.kC).ids=[]:=by cases tk<;>rfl
   rw [h0,ad0] at h;have:=gJ tk r x (n+1) id h;grind [vM]
 | .ro _::r,x,n=>λid h=>by have:=gJ tk r x.2 (n+1) id h;grind [vM]
 | .own _::r,x,n=>λid h=>by
   have h:id∈n::aj.bO (bf tk r x.2 (n+1)).1:=h;have l1:=ic r (n+1);simp only [vM];rcases adM.1 h with h|h
   . omega
   . have:=gJ tk r x.2 (n+1) id h;omega
 | .mut _::r,x,n=>λid h=>by
   have h:id∈n::aj.bO (bf tk r x.2 (n+1)).1:=h;have l1:=ic r (n+1);simp only [vM];rcases adM.1 h with h|h
   . omega
   . have:=gJ tk r x.2 (n+1) id h;omega
theorem eV (tk:Bool):(l:List Cm)→(x:uK l)→(n:Nat)→(bf tk l x n).1.all aj.bB=true
 |[],_,_=>rfl
 | .b::r,x,n=>by simpa [bf,aj.bB] using eV tk r x.2 n
 | .i _::r,x,n=>by simpa [bf,aj.bB] using eV tk r x.2 n
 | .s::r,x,n=>by simpa [bf,aj.bB] using eV tk r x.2 n
 | .e::r,x,n=>by simpa [bf,aj.bB] using eV tk r x.2 n
 | .k::r,x,n=>by cases tk<;>simpa [bf,aj.bB] using eV _ r x (n+1)
 | .ro _::r,x,n=>by simpa [bf,aj.bB] using eV tk r x.2 (n+1)
 | .own _::r,x,n=>by simpa [bf,aj.bB] using eV tk r x.2 (n+1)
 | .mut _::r,x,n=>by simpa [bf,aj.bB] using eV tk r x.2 (n+1)
theorem gK (tk:Bool):(l:List Cm)→(x:uK l)→(n:Nat)→(bf tk l x n).1.length=l.length
 |[],_,_=>rfl
 | .b::r,x,n=>by simpa [bf] using gK tk r x.2 n
 | .i _::r,x,n=>by simpa [bf] using gK tk r x.2 n
 | .s::r,x,n=>by simpa [bf] using gK tk r x.2 n
 | .e::r,x,n=>by simpa [bf] using gK tk r x.2 n
 | .k::r,x,n=>by simpa [bf] using gK tk r x (n+1)
 | .ro _::r,x,n=>by simpa [bf] using gK tk r x.2 (n+1)
 | .own _::r,x,n=>by simpa [bf] using gK tk r x.2 (n+1)
 | .mut _::r,x,n=>by simpa [bf] using gK tk r x.2 (n+1)
def ub (c:Ctx) (K:Nat→Prop) (μ:Nat→Loc) (v:Env) (w:World) (rest:List Nat) (n n':Nat) (ns:List (Nat×bV)) (R:(Nat→Loc)→Prop):Prop:=
 ∃ μ' fp',R μ'∧iS c (λid=>K id∨(n≤id∧id<n')) μ' fp' (cI v (news ns)) w rest∧∀ id,K id→μ' id=μ id
theorem gL {S:Nat→Prop} (tk:Bool) (hS:∀ b,S b→c.S b∧c.w0.heap[b]? =w.heap[b]?):(l:List Cm)→∀ {vs:List Value} {x:uK l} {f rest:List Nat} {n:Nat} {K:Nat→Prop} {μ:Nat→Loc} {fp:Nat→List Nat} {v:Env},
  iS c K μ fp v w (f++rest)→aV S w l vs x f→jb c tk l vs n→(∀ b∈f,b<c.w0.heap.size→∀ j,c.M b j)→(∀ id,n≤id→id<vM l n→¬ K id)→
  ub c K μ v w rest n (vM l n) (bf tk l x n).2.1 λμ'=>ak c μ' vs (bf tk l x n).1
 |[],vs,x,f,rest,n,K,μ,fp,v,h,hr,_,_,_=>by
  simp only [aV] at hr;obtain ⟨rfl,rfl⟩:=hr;exact ⟨μ,fp,by simp [bf,ak],h.weaken λ_=> .inl,λ_ _=>rfl⟩
 | .b::r,vs,x,f,rest,n,K,μ,fp,v,h,hr,ht,hM,hk=>by
   simp only [aV] at hr;obtain ⟨bg,rfl,hr⟩:=hr;obtain ⟨μ',fp',h1,h2,h3⟩:=gL tk hS r h hr ht hM hk;exact ⟨μ',fp',by simp only [bf,ak,az];grind,h2,h3⟩
 | .i k::r,vs,x,f,rest,n,K,μ,fp,v,h,hr,ht,hM,hk=>by
   simp only [aV] at hr;obtain ⟨bg,rfl,hr⟩:=hr;obtain ⟨μ',fp',h1,h2,h3⟩:=gL tk hS r h hr ht hM hk;exact ⟨μ',fp',by simp only [bf,ak,az];grind,h2,h3⟩
 | .s::r,vs,x,f,rest,n,K,μ,fp,v,h,hr,ht,hM,hk=>by
   simp only [aV] at hr;obtain ⟨bg,rfl,hl,hr⟩:=hr;obtain ⟨μ',fp',h1,h2,h3⟩:=gL tk hS r h hr ht hM hk;exact ⟨μ',fp',by simp only [bf,ak,az];grind,h2,h3⟩
 | .e::r,vs,x,f,rest,n,K,μ,fp,v,h,hr,ht,hM,hk=>by
   simp only [aV] at hr;obtain ⟨_,bg,rfl,hl,hr⟩:=hr;obtain ⟨μ',fp',h1,h2,h3⟩:=gL tk hS r h hr ht hM hk;exact ⟨μ',fp',by simp only [bf,ak,az];grind,h2,h3⟩
 | .k::r,vs,x,f,rest,n,K,μ,fp,v,h,hr,ht,hM,hk=>by
   simp only [aV] at hr;obtain ⟨v0,bg,rfl,hx,hr⟩:=hr;simp only [jb] at ht;have l1:=ic r (n+1);obtain ⟨μ',fp',h1,h2,h3⟩:=gL tk hS r h hr ht.2 hM (λid g1 g2=>hk id (by omega) g2);refine ⟨μ',fp', ?_,h2.weaken λid hi=>hi.imp (λh=>h) λg=>⟨by omega,g.2⟩,h3⟩;simp only [bf,ak];refine ⟨_,_,rfl, ?_,h1⟩;cases tk with
   |false=>exact hx
   |true=>exact ⟨(ht.1 rfl).symm,hx⟩
 | .ro e::r,vs,x,f,rest,n,K,μ,fp,v,h,hr,ht,hM,hk=>by
   simp only [aV] at hr;obtain ⟨v0,bg,rfl,hx,hr⟩:=hr;simp only [jb] at ht;have l1:=ic r (n+1);obtain ⟨μ',fp',h1,h2,h3⟩:=gL tk hS r h hr ht.2 hM (λid g1 g2=>hk id (by omega) g2);refine ⟨μ',fp', ?_,h2.weaken λid hi=>hi.imp (λh=>h) λg=>⟨by omega,g.2⟩,h3⟩;simp only [bf,ak,az];refine ⟨_,_,rfl,⟨by grind [Ty.eR],λk hk=> ?_⟩,h1⟩;cases tk with
   |false=>cases hk
   |true=>cases hk;grind
 | .own e::r,vs,x,f,rest,n,K,μ,fp,v,h,hr,ht,hM,hk=>by
   simp only [aV] at hr;obtain ⟨v0,bg,f1,f2,rfl,rfl,hx,hr⟩:=hr;have l1:=ic r (n+1);simp only [vM] at hk;obtain ⟨Ba,MJ,g1,g2,g3⟩:=iS.adq (rest:=f2++rest) (by rw [← adO];exact h) (hk n (adK n) (by omega)) (Ty.dI (show Fz.le ⟨S,w⟩ c.fz from hS) _ hx) (by grind);obtain ⟨μ',fp',h1,h2,h3⟩:=gL tk hS r g2 hr ht (by grind) (by grind);refine ⟨μ',fp', ?_,h2.weaken λid hi=> ?_,by grind⟩
   . simp only [bf,ak]
     exact ⟨_,_,rfl,by grind [az.mono,id,aj.ids,List.mem_singleton],h1⟩
   grind [vM]
 | .mut e::r,vs,x,f,rest,n,K,μ,fp,v,h,hr,ht,hM,hk=>by
   simp only [aV] at hr;obtain ⟨v0,bg,f1,f2,rfl,rfl,hx,hr⟩:=hr;have l1:=ic r (n+1);simp only [vM] at hk;obtain ⟨Ba,MJ,g1,g2,g3⟩:=iS.adq (rest:=f2++rest) (by rw [← adO];exact h) (hk n (adK n) (by omega)) (Ty.dI (show Fz.le ⟨S,w⟩ c.fz from hS) _ hx) (by grind);obtain ⟨μ',fp',h1,h2,h3⟩:=gL tk hS r g2 hr ht (by grind) (by grind);refine ⟨μ',fp', ?_,h2.weaken λid hi=> ?_,by grind⟩
   . simp only [bf,ak]
     exact ⟨_,_,rfl,by grind [az.mono,id,aj.ids,List.mem_singleton],h1⟩
   grind [vM]
end
theorem vN (f1 f2 g1 g2:List Nat):(f1++f2++(g1++g2)).Perm ((f1++g1)++(f2++g2)):=by grind
def cZ (S:Nat→Prop) (w:World):(it:Item)→Value→uK it.cs→List Nat→List (Nat×Nat×Nat)→Prop
 |⟨false,a,cs⟩,v,x,f,g=>g=[]∧aV S w cs v.cells.toList x f∧(a=true→∃ us,v= .agg us)∧(a=false→v.oneCell'=true)
 |⟨true,_,cs⟩,v,x,f,g=>∃ B o C E,g=[(B,o,cs.length)]∧v= .pointer (some ⟨B,o,none⟩)∧w.heap[B]? =some (.cells C E (0,0))∧o+cs.length≤C.size∧aV S w cs (aK w B o cs.length) x f
def ba (S:Nat→Prop) (w:World):(l:List Item)→List Value→aw l→List Nat→List (Nat×Nat×Nat)→Prop
 |[],vs,_,f,g=>vs=[]∧f=[]∧g=[]
 |it::r,vs,x,f,g=>∃ v bg f1 f2 g1 g2,vs=v::bg∧f=f1++f2∧g=g1++g2∧cZ S w it v x.1 f1 g1∧ba S w r bg x.2 f2 g2
theorem ba.length {S:Nat→Prop} {w:World}:(l:List Item)→{vs:List Value}→{x:aw l}→{f:List Nat}→{g:List (Nat×Nat×Nat)}→ba S w l vs x f g→vs.length=l.length
 |[],_,_,_,_,h=>by grind [ba]
 |it::r,_,_,_,_,h=>by simp only [ba] at h;obtain ⟨v,bg,f1,f2,g1,g2,rfl,_,_,_,h⟩:=h;simp [ba.length r h]
def YJ (c:Ctx) (tk:Bool) (w:World):Item→Value→Nat→Prop
 |⟨false,_,cs⟩,v,n=>jb c tk cs v.cells.toList n
 |⟨true,_,cs⟩,v,n=>∀ B o,v= .pointer (some ⟨B,o,none⟩)→jb c tk cs (aK w B o cs.length) (n+1)
def nN (c:Ctx) (tk:Bool) (w:World):List Item→List Value→Nat→Prop
 |it::r,v::vs,n=>YJ c tk w it v n∧nN c tk w r vs (FM it n)
 |_,_,_=>True
section
variable {c:Ctx} {K K':Nat→Prop} {μ μ':Nat→Loc} {fp:Nat→List Nat} {v:Env} {w:World}
theorem R3 {a:Bool} {d:Value} {ds:List aj} (h:ak c μ d.cells.toList ds) (h1:a=true→∃ us,d= .agg us) (h2:a=false→d.oneCell'=true):az c μ d (EO a ds):=by
 cases a with
 |true=>
  obtain ⟨us,rfl⟩:=h1 rfl;simp only [EO,agm,az];exact ⟨us,rfl,h⟩
 |false=>
  rw [ib (h2 rfl)] at h;simp only [EO];cases ds with
  |nil=>simp [ak] at h
  |cons y ds=>
   grind [ak]
theorem Ov {S:Nat→Prop} (tk:Bool) (hS:∀ b,S b→c.S b∧c.w0.heap[b]? =w.heap[b]?):(it:Item)→∀ {d:Value} {x:uK it.cs} {f rest:List Nat} {g:List (Nat×Nat×Nat)} {n:Nat} {K:Nat→Prop} {μ:Nat→Loc} {fp:Nat→List Nat} {v:Env},
  iS c K μ fp v w (f++g.map (·.1)++rest)→cZ S w it d x f g→YJ c tk w it d n→(∀ b∈f,b<c.w0.heap.size→∀ j,c.M b j)→
  (∀ B o m,(B,o,m)∈g→B<c.w0.heap.size→∀ j,j<m→c.M B (o+j))→(∀ id,n≤id→id<FM it n→¬ K id)→
  ub c K μ v w rest n (FM it n) (lP tk it x n).2.1 λμ'=>az c μ' d (lP tk it x n).1
 |⟨false,a,cs⟩,d,x,f,rest,g,n,K,μ,fp,v,h,hr,ht,hM,_,hk=>by
  simp only [cZ] at hr;obtain ⟨rfl,hr,h1,h2⟩:=hr;obtain ⟨μ',fp',g1,g2,g3⟩:=gL tk hS cs (by simpa using h) hr ht hM hk;exact ⟨μ',fp',R3 g1 h1 h2,g2,g3⟩
 |⟨true,a,cs⟩,d,x,f,rest,g,n,K,μ,fp,v,h,hr,ht,hM,hG,hk=>by
  simp only [cZ] at hr;obtain ⟨B,o,C,E,rfl,rfl,hb,hC,hr⟩:=hr;have hk:∀ id,n≤id→id<vM cs (n+1)→¬ K id:=hk;have l1:=ic cs (n+1);obtain ⟨Ba,MJ,g1,g2,g3⟩:=gL tk hS cs (rest:=[B]++rest) (by simpa using h) hr (ht B o rfl) hM (by grind);have hn:¬ (K n∨n+1≤n∧n<vM cs (n+1)):=by grind
  have ha:∀ id,(K id∨n+1≤id∧id<vM cs (n+1))→(if id=n then Loc.at B o else Ba id)=Ba id:=by grind
  have hl:(bf tk cs x (n+1)).1.length=cs.length:=gK tk cs x (n+1);have Ep:=gJ tk cs x (n+1);have oU:cR c (λid=>if id=n then Loc.at B o else Ba id) w n [B] (.var (bf tk cs x (n+1)).1):=by
   refine ⟨B,o,C,E,aaZ rfl,rfl,hb,by grind, ?_,eV tk cs x (n+1),by grind⟩;grind [ak.mono,id]
  refine ⟨λid=>if id=n then Loc.at B o else Ba id,λk=>if k=n then [B] else MJ k, ?_, ?_, ?_⟩
  . show az c _ _ (.vptr n 0)
    simp only [az];exact ⟨B,o,by simp,rfl⟩
  . show iS c _ _ _ (cI v (news ((bf tk cs x (n+1)).2.1++[(n, .var (bf tk cs x (n+1)).1)]))) w rest
    rw [kF,dV];refine g2.add (μ':=λid=>if id=n then Loc.at B o else Ba id) ha (λid hi=> ?_) (.inr ⟨adK n,show n<vM cs (n+1) by omega⟩) (λid hi=> ?_) oU
    . exact hi.imp (λh=>h) λq=>⟨by omega,q.2⟩
    . have:=Ep id hi
      exact .inr ⟨by omega,this.2⟩
  grind
theorem EU (tk:Bool):(it:Item)→(x:uK it.cs)→(n:Nat)→∀ id∈(lP tk it x n).1.ids,n≤id∧id<FM it n
 |⟨false,a,cs⟩,x,n=>by
  intro id h;refine gJ tk cs x n id ?_;cases a with
  |true=>exact h
  |false=>
   have h:id∈((bf tk cs x n).1.headD .dead).ids:=h;cases hy:(bf tk cs x n).1 with
   |nil=>rw [hy] at h;cases h
   |cons y l=>grind [List.headD_cons,aj.bO]
 |⟨true,a,cs⟩,x,n=>by
  intro id h;have h:id∈[n]:=h;simp only [aey] at h;have l1:=ic cs (n+1);show n≤id∧id<vM cs (n+1);omega
theorem sJ {S:Nat→Prop} (tk:Bool) (hS:∀ b,S b→c.S b∧c.w0.heap[b]? =w.heap[b]?):(l:List Item)→∀ {vs:List Value} {x:aw l} {f rest:List Nat} {g:List (Nat×Nat×Nat)} {n:Nat} {K:Nat→Prop} {μ:Nat→Loc} {fp:Nat→List Nat} {v:Env},
  iS c K μ fp v w (f++g.map (·.1)++rest)→ba S w l vs x f g→nN c tk w l vs n→(∀ b∈f,b<c.w0.heap.size→∀ j,c.M b j)→
  (∀ B o m,(B,o,m)∈g→B<c.w0.heap.size→∀ j,j<m→c.M B (o+j))→(∀ id,n≤id→id<oX l n→¬ K id)→
  ub c K μ v w rest n (oX l n) (eu tk l x n).2.1 λμ'=>ak c μ' vs (eu tk l x n).1
 |[],vs,x,f,rest,g,n,K,μ,fp,v,h,hr,_,_,_,_=>by
  simp only [ba] at hr;obtain ⟨rfl,rfl,rfl⟩:=hr;exact ⟨μ,fp,by simp [eu,ak],iS.weaken (show iS c K μ fp v w rest by simpa using h) λ_=> .inl,λ_ _=>rfl⟩
 |it::r,vs,x,f,rest,g,n,K,μ,fp,v,h,hr,ht,hM,hG,hk=>by
  simp only [ba] at hr;obtain ⟨d,bg,f1,f2,g1,g2,rfl,rfl,rfl,h1,hr⟩:=hr;simp only [nN] at ht;have hk:∀ id,n≤id→id<oX r (FM it n)→¬ K id:=hk;have l1:=Jy it n;have l2:=yl r (FM it n);have hp:(f1++f2++(g1++g2).map (·.1)++rest).Perm (f1++g1.map (·.1)++(f2++g2.map (·.1)++rest)):=by grind
  obtain ⟨Ba,MJ,q1,q2,q3⟩:=Ov tk hS it (h.perm hp) h1 ht.1 (by grind) (by grind) (by grind);obtain ⟨μ',fp',p1,p2,p3⟩:=sJ tk hS r q2 hr ht.2 (by grind) (by grind) (by grind);refine ⟨μ',fp', ?_, ?_,by grind⟩
  . simp only [eu,ak]
    refine ⟨_,_,rfl,by grind [az.mono,id,EU], ?_⟩;grind [sI]
  grind [eu,kF,dV,sI,id,oX]
end
end
section
open Go
variable {z:Fz}
section
variable {c:Ctx} {μ:Nat→Loc} {fp:Nat→List Nat} {v:Env} {w:World} {E EL:Env}
theorem my.nil:my c fp v E [] []:=⟨by simp,by simp,by simp,by simp⟩
theorem adr {e:Ty} {d:aj} {z:List e.D×List Nat} (h:Ot E e d=some z):j7 E e d=some z:=by
 unfold Ot at h;grind
theorem iO (h:dq c μ fp v w) (ev:Ev c w) (hE:∀ id x,E id=some x→v id=some x) (Hk:∀ id x,EL id=some x→v id=some x) {S':Nat→Prop} (hS:∀ b,c.S b→S' b) (hP:∀ id,EL id≠none→∀ b∈fp id,S' b):
  (l:List Cm)→{vs:List Value}→{ds:List aj}→{r:uK l×List Nat}→ak c μ vs ds→fU E EL l ds=some r→r.2.Nodup→∃ f,aV S' w l vs r.1 f∧my c fp v E r.2 f
 |[],vs,ds,r,hr,hf,_=>by
  cases ds with
  |nil=>
   cases hf;simp_all [ak,aV,my.nil]
  |cons d q=>cases hf
 | .b::l,vs,ds,r,hr,hf,hn=>by
   cases ds with
   |nil=>cases hf
   |cons d q=>
    cases d<;>try (cases hf;done)
    rename_i x;obtain ⟨y,hy,rfl⟩:=ST.1 (show ((fU E EL l q).map λy=>((x,y.1),y.2))=some r from hf);simp only [ak] at hr;obtain ⟨v0,bg,rfl,hx,hr⟩:=hr;simp only [az] at hx;subst hx;obtain ⟨f,h1,h2⟩:=iO h ev hE Hk hS hP l hr hy hn;exact ⟨f,by simp only [aV];exact ⟨bg,rfl,h1⟩,h2⟩
 | .i k::l,vs,ds,r,hr,hf,hn=>by
   cases ds with
   |nil=>cases hf
   |cons d q=>
    cases d<;>try (cases hf;done)
    rename_i k' x;replace hf:(if k=k' then (fU E EL l q).map λy=>((x,y.1),y.2) else none)=some r:=hf;split at hf
    case isFalse=>cases hf
    rename_i e;subst e;obtain ⟨y,hy,rfl⟩:=ST.1 hf;simp only [ak] at hr;obtain ⟨v0,bg,rfl,hx,hr⟩:=hr;simp only [az] at hx;subst hx;obtain ⟨f,h1,h2⟩:=iO h ev hE Hk hS hP l hr hy hn;exact ⟨f,by simp only [aV];exact ⟨bg,rfl,h1⟩,h2⟩
 | .s::l,vs,ds,r,hr,hf,hn=>by
   cases ds with
   |nil=>cases hf
   |cons d q=>
    cases d<;>try (cases hf;done)
    rename_i x;obtain ⟨y,hy,rfl⟩:=ST.1 (show ((fU E EL l q).map λy=>((x,y.1),y.2))=some r from hf);simp only [ak] at hr;obtain ⟨v0,bg,rfl,hx,hr⟩:=hr;simp only [az] at hx;obtain ⟨f,h1,h2⟩:=iO h ev hE Hk hS hP l hr hy hn;grind [aV]
 | .e::l,vs,ds,r,hr,hf,hn=>by
   cases ds with
   |nil=>cases hf
   |cons d q=>
    cases d<;>try (cases hf;done)
    rename_i x;obtain ⟨y,hy,rfl⟩:=ST.1 (show ((fU E EL l q).map λy=>((x,y.1),y.2))=some r from hf);simp only [ak] at hr;obtain ⟨v0,bg,rfl,hx,hr⟩:=hr;simp only [az] at hx;obtain ⟨f,h1,h2⟩:=iO h ev hE Hk hS hP l hr hy hn;exact ⟨f,by simp only [aV];grind,h2⟩
 | .k::l,vs,ds,r,hr,hf,hn=>by
   cases ds with
   |nil=>cases hf
   |cons d q=>
    replace hf:(if d.bB=true then fU E EL l q else none)=some r:=hf;split at hf
    case isFalse=>cases hf
    rename_i hd;simp only [ak] at hr;obtain ⟨v0,bg,rfl,hv,hr⟩:=hr;obtain ⟨f,h1,h2⟩:=iO h ev hE Hk hS hP l hr hf hn;exact ⟨f,by simp only [aV];exact ⟨v0,bg,rfl,hv.jG hd,h1⟩,h2⟩
 | .ro e::l,vs,ds,r,hr,hf,hn=>by
   cases ds with
   |nil=>cases hf
   |cons d q=>
    replace hf:((zS EL e d).bind λx=>(fU E EL l q).map λy=>((x,y.1),y.2))=some r:=hf;obtain ⟨x,hx,hf⟩:=WP.1 hf;obtain ⟨y,hy,rfl⟩:=ST.1 hf;simp only [ak] at hr;obtain ⟨v0,bg,rfl,hv,hr⟩:=hr;obtain ⟨f,h1,h2⟩:=iO h ev hE Hk hS hP l hr hy hn;exact ⟨f,by simp only [aV];exact ⟨v0,bg,rfl,by grind [vC],h1⟩,h2⟩
 | .own e::l,vs,ds,r,hr,hf,hn=>by
   cases ds with
   |nil=>cases hf
   |cons d q=>
    replace hf:((j7 E e d).bind λz=>(fU E EL l q).map λy=>((z.1,y.1),z.2++y.2))=some r:=hf;obtain ⟨z,hz,hf⟩:=WP.1 hf;obtain ⟨y,hy,rfl⟩:=ST.1 hf;simp only [ak] at hr;obtain ⟨v0,bg,rfl,hv,hr⟩:=hr;obtain ⟨f,h1,h2⟩:=iO h ev hE Hk hS hP l hr hy (by grind);obtain ⟨f0,g1,g2⟩:=jI h hE hv hz;exact ⟨f0++f,by simp only [aV];exact ⟨v0,bg,f0,f,rfl,rfl,Ty.dI (show Fz.le c.fz ⟨S',w⟩ from λb hb=>⟨hS b hb,ev.S b hb⟩) _ g1,h1⟩,g2.append h h2 hn⟩
 | .mut e::l,vs,ds,r,hr,hf,hn=>by
   cases ds with
   |nil=>cases hf
   |cons d q=>
    replace hf:((Ot E e d).bind λz=>(fU E EL l q).map λy=>((z.1,y.1),z.2++y.2))=some r:=hf;obtain ⟨z,hz,hf⟩:=WP.1 hf;obtain ⟨y,hy,rfl⟩:=ST.1 hf;simp only [ak] at hr;obtain ⟨v0,bg,rfl,hv,hr⟩:=hr;obtain ⟨f,h1,h2⟩:=iO h ev hE Hk hS hP l hr hy (by grind);obtain ⟨f0,g1,g2⟩:=jI h hE hv (adr hz);exact ⟨f0++f,by simp only [aV];exact ⟨v0,bg,f0,f,rfl,rfl,Ty.dI (show Fz.le c.fz ⟨S',w⟩ from λb hb=>⟨hS b hb,ev.S b hb⟩) _ g1,h1⟩,g2.append h h2 hn⟩
structure GoneB (c:Ctx) (fp:Nat→List Nat) (v E:Env) (ids:List Nat) (f:List Nat) (g:List (Nat×Nat×Nat)):Prop where
 mem:∀ b∈f++g.map (·.1),∃ id∈ids,b∈fp id
 nodup:(f++g.map (·.1)).Nodup
 there:∀ id∈ids,v id≠none∧E id≠none
 may:∀ b∈f,b<c.w0.heap.size→∀ j,c.M b j
structure Hl (c:Ctx) (fp:Nat→List Nat) (v E:Env) (ids:List Nat) (f:List Nat) (g:List (Nat×Nat×Nat)):Prop extends GoneB c fp v E ids f g where
 ads:∀ B o m,(B,o,m)∈g→B<c.w0.heap.size→∀ j,j<m→c.M B (o+j)
theorem GoneB.nil:GoneB c fp v E [] [] []:=⟨by simp,by simp,by simp,by simp⟩
theorem GoneB.append (h:dq c μ fp v w) {ids En f f':List Nat} {g g':List (Nat×Nat×Nat)} (a:GoneB c fp v E ids f g) (b:GoneB c fp v E En f' g') (hn:(ids++En).Nodup):
  GoneB c fp v E (ids++En) (f++f') (g++g'):=by
 have hp:(f++f'++(g++g').map (·.1)).Perm ((f++g.map (·.1))++(f'++g'.map (·.1))):=by grind
 constructor
 . intro x hx
   rcases adE.1 (hp.mem_iff.1 hx) with hx|hx
   . obtain ⟨i,hi,hm⟩:=a.mem x hx;grind
   . obtain ⟨i,hi,hm⟩:=b.mem x hx;grind
 . rw [hp.nodup_iff,ad1]
   refine ⟨a.nodup,b.nodup,λx hx y hy e=> ?_⟩;subst e;obtain ⟨i,hi,hm⟩:=a.mem x hx;obtain ⟨j,hj,pP⟩:=b.mem x hy;have:i≠j:=by grind
   exact h.sep i j this (a.there i hi).1 (b.there j hj).1 x hm pP
 . intro i hi
   rcases adE.1 hi with hi|hi
   . exact a.there i hi
   . exact b.there i hi
 . intro x hx
   rcases adE.1 hx with hx|hx
   . exact a.may x hx
   . exact b.may x hx
theorem Hl.append (h:dq c μ fp v w) {ids En f f':List Nat} {g g':List (Nat×Nat×Nat)} (a:Hl c fp v E ids f g) (b:Hl c fp v E En f' g') (hn:(ids++En).Nodup):
  Hl c fp v E (ids++En) (f++f') (g++g'):=by
 refine ⟨a.toGoneB.append h b.toGoneB hn,λB o m hx=> ?_⟩;rcases adE.1 hx with hx|hx
 . exact a.ads B o m hx
 . exact b.ads B o m hx
theorem R4 {d:aj} {x:Value} (h:az c μ x d) (ha:isAgg d=true):∃ us,x= .agg us:=by
 cases d<;>simp [isAgg] at ha;simp only [az] at h;grind
theorem R5 {d:aj} {x:Value} (h:az c μ x d) (ha:isAgg d=false) (hc:d.cells.all aj.bB=true):x.oneCell'=true:=by
 have hd:d.cells=[d]:=by cases d<;>first|rfl|cases ha
 rw [hd] at hc;simp only [aeB,List.all_nil,Bool.and_true] at hc;exact h.jG hc
theorem R6 (h:dq c μ fp v w) (ev:Ev c w) (hE:∀ id x,E id=some x→v id=some x) (Hk:∀ id x,EL id=some x→v id=some x) {S':Nat→Prop} (hS:∀ b,c.S b→S' b) (hP:∀ id,EL id≠none→∀ b∈fp id,S' b):
  (it:Item)→{x:Value}→{d:aj}→{r:uK it.cs×List Nat}→az c μ x d→Mo E EL it d=some r→r.2.Nodup→∃ f g,cZ S' w it x r.1 f g∧Hl c fp v E r.2 f g
 |⟨false,a,cs⟩,x,d,r,hr,hf,hn=>by
  replace hf:(if isAgg d=a∧d.cells.all aj.bB=true then fU E EL cs d.cells else none)=some r:=hf;split at hf
  case isFalse=>cases hf
  rename_i hc;obtain ⟨f,h1,h2⟩:=iO h ev hE Hk hS hP cs (hr.cells hc.2) hf hn;refine ⟨f,[],⟨rfl,h1,λe=>R4 hr (hc.1.trans e),λe=>R5 hr (hc.1.trans e) hc.2⟩,⟨⟨by simpa using h2.mem,by simpa using h2.nodup,h2.there,h2.may⟩,λ_ _ _ hb=>by cases hb⟩⟩
 |⟨true,a,cs⟩,x,d,r,hr,hf,hn=>by
  cases d<;>try (cases hf;done)
  rename_i id off;replace hf:(match E id with|some (.var l)=>if off+cs.length≤l.length then (fU E EL cs ((l.drop off).take cs.length)).map λy=>(y.1,id::y.2) else none|_=>none)=some r:=hf;split at hf
  case h_2=>cases hf
  rename_i l fg;split at hf
  case isFalse=>cases hf
  rename_i hl;obtain ⟨y,hy,rfl⟩:=ST.1 hf;have hv:=hE id _ fg;obtain ⟨B,o,C,T,h1,h2,h3,h4,h5,h6,h7⟩:=h.rel id _ hv;simp only [az] at hr;obtain ⟨B',o',e1,rfl⟩:=hr;rw [h1] at e1;cases e1;have gu:aK w B (o+off) cs.length=((aK w B o l.length).drop off).take cs.length:=jt (by omega);rw [aeP] at hn;obtain ⟨f,g1,g2⟩:=iO h ev hE Hk hS hP cs ((h5.drop off).take cs.length) hy hn.2;refine ⟨f,[(B,o+off,cs.length)],⟨B,o+off,C,T,rfl,rfl,h3,by omega,by grind⟩, ?_⟩;have hB:B ∉ f:=by
   intro hb;obtain ⟨i,hi,hm⟩:=g2.mem B hb;have fE:i≠id:=λe=>hn.1 (e ▸ hi);exact h.sep i id fE (g2.there i hi).1 (by rw [hv];simp) B hm (by rw [h2];simp)
  refine ⟨⟨?_, ?_, ?_, ?_⟩, ?_⟩
  . intro b hb
    simp only [ael,alr,adE,aey] at hb;rcases hb with hb|rfl
    . obtain ⟨i,hi,hm⟩:=g2.mem b hb;grind
    grind
  . simp only [ael,alr,ad1]
    refine ⟨g2.nodup,by simp,λa ha b hb e=> ?_⟩;grind
  . intro i hi
    rcases adM.1 hi with rfl|hi
    . grind
    . exact g2.there i hi
  . exact g2.may
  . intro B' o' m hm cf j hj
    simp only [aey,ad3] at hm;obtain ⟨rfl,rfl,rfl⟩:=hm;have:=h7 cf (off+j) (by omega);grind
theorem vO (h:dq c μ fp v w) (ev:Ev c w) (hE:∀ id x,E id=some x→v id=some x) (Hk:∀ id x,EL id=some x→v id=some x) {S':Nat→Prop} (hS:∀ b,c.S b→S' b) (hP:∀ id,EL id≠none→∀ b∈fp id,S' b):
  (l:List Item)→{vs:List Value}→{ds:List aj}→{r:aw l×List Nat}→ak c μ vs ds→nM E EL l ds=some r→r.2.Nodup→∃ f g,ba S' w l vs r.1 f g∧Hl c fp v E r.2 f g
 |[],vs,ds,r,hr,hf,_=>by
  cases ds with
  |nil=>
   cases hf;simp only [ak] at hr;exact ⟨[],[],by simp_all [ba],⟨GoneB.nil,by grind⟩⟩
  |cons d q=>cases hf
 |it::l,vs,ds,r,hr,hf,hn=>by
  cases ds with
  |nil=>cases hf
  |cons d q=>
   replace hf:((Mo E EL it d).bind λx=>(nM E EL l q).map λy=>((x.1,y.1),x.2++y.2))=some r:=hf;obtain ⟨z,hz,hf⟩:=WP.1 hf;obtain ⟨y,hy,rfl⟩:=ST.1 hf;simp only [ak] at hr;obtain ⟨v0,bg,rfl,hv,hr⟩:=hr;obtain ⟨f,g,h1,h2⟩:=vO h ev hE Hk hS hP l hr hy (by grind);obtain ⟨f0,g0,h3,h4⟩:=R6 h ev hE Hk hS hP it hv hz (by grind);exact ⟨f0++f,g0++g,by simp only [ba];grind,h4.append h h2 hn⟩
def bc (z:Fz) (w:World):(l:List Cm)→List Value→List Value→mA l→List Nat→Prop
 |[],os,vs,_,f=>os=[]∧vs=[]∧f=[]
 | .b::r,os,vs,x,f=>∃ o rh bg,os=o::rh∧vs= .bool x.1::bg∧bc z w r rh bg x.2 f
 | .i k::r,os,vs,x,f=>∃ o rh bg,os=o::rh∧vs= .int k x.1::bg∧bc z w r rh bg x.2 f
 | .s::r,os,vs,x,f=>∃ o rh bg,os=o::rh∧vs= .string ⟨List.toArray x.1⟩::bg∧List.length x.1≤cj∧bc z w r rh bg x.2 f
 | .e::r,os,vs,x,f=>∃ o rh v bg,os=o::rh∧vs=v::bg∧erV v x.1∧bc z w r rh bg x.2 f
 | .k::r,os,vs,x,f=>∃ o rh bg,os=o::rh∧vs=o::bg∧bc z w r rh bg x f
 | .ro _::r,os,vs,x,f=>∃ o rh bg,os=o::rh∧vs=o::bg∧bc z w r rh bg x f
 | .own e::r,os,vs,x,f=>∃ o rh v bg f1 f2,os=o::rh∧vs=v::bg∧f=f1++f2∧(Ty.sl e).aC z w [v] x.1 f1∧bc z w r rh bg x.2 f2
 | .mut e::r,os,vs,x,f=>∃ o rh v bg f1 f2,os=o::rh∧vs=v::bg∧f=f1++f2∧(Ty.sl e).aC z w [v] x.1 f1∧bc z w r rh bg x.2 f2
def aY (z:Fz) (w:World):(l:List Cm)→List Value→qX l→List Nat→Prop
 |[],vs,_,f=>vs=[]∧f=[]
 | .b::r,vs,x,f=>∃ v bg,vs=v::bg∧aY z w r bg x f
 | .i _::r,vs,x,f=>∃ v bg,vs=v::bg∧aY z w r bg x f
 | .s::r,vs,x,f=>∃ v bg,vs=v::bg∧aY z w r bg x f
 | .e::r,vs,x,f=>∃ v bg,vs=v::bg∧aY z w r bg x f
 | .k::r,vs,x,f=>∃ v bg,vs=v::bg∧aY z w r bg x f
 | .ro _::r,vs,x,f=>∃ v bg,vs=v::bg∧aY z w r bg x f
 | .own _::r,vs,x,f=>∃ v bg,vs=v::bg∧aY z w r bg x f
 | .mut e::r,vs,x,f=>∃ v bg f1 f2,vs=v::bg∧f=f1++f2∧(Ty.sl e).aC z w [v] x.1 f1∧aY z w r bg x.2 f2
def s7 (z:Fz) (w w':World):(it:Item)→Value→vL it→List Nat→Prop
 |⟨false,_,cs⟩,v,y,f=>aY z w' cs v.cells.toList y f
 |⟨true,_,cs⟩,v,y,f=>∃ B o,v= .pointer (some ⟨B,o,none⟩)∧bc z w' cs (aK w B o cs.length) (aK w' B o cs.length) y f
def eh (z:Fz) (w w':World):(l:List Item)→List Value→iC l→List Nat→Prop
 |[],vs,_,f=>vs=[]∧f=[]
 |it::r,vs,y,f=>∃ v bg f1 f2,vs=v::bg∧f=f1++f2∧s7 z w w' it v y.1 f1∧eh z w w' r bg y.2 f2
theorem iy {E:Env}:(l:List Cm)→{n:Nat}→{ds:List aj}→{r:mA l×List Nat}→eL E l n ds=some r→ds.length=l.length
 |[],n,ds,r,hf=>by
  cases ds with
  |nil=>rfl
  |cons d q=>cases hf
 | .b::l,n,ds,r,hf=>by
   cases ds with
   |nil=>cases hf
   |cons d q=>
    cases d<;>try (cases hf;done)
    rename_i x;obtain ⟨y,hy,rfl⟩:=ST.1 (show ((eL E l n q).map λy=>((x,y.1),y.2))=some r from hf);simp [iy l hy]
 | .i k::l,n,ds,r,hf=>by
   cases ds with
   |nil=>cases hf
   |cons d q=>
    cases d<;>try (cases hf;done)
    rename_i k' x;replace hf:(if k=k' then (eL E l n q).map λy=>((x,y.1),y.2) else none)=some r:=hf;split at hf
    case isFalse=>cases hf
    obtain ⟨y,hy,rfl⟩:=ST.1 hf;simp [iy l hy]
 | .s::l,n,ds,r,hf=>by
   cases ds with
   |nil=>cases hf
   |cons d q=>
    cases d<;>try (cases hf;done)
    rename_i x;obtain ⟨y,hy,rfl⟩:=ST.1 (show ((eL E l n q).map λy=>((x,y.1),y.2))=some r from hf);simp [iy l hy]
 | .e::l,n,ds,r,hf=>by
   cases ds with
   |nil=>cases hf
   |cons d q=>
    cases d<;>try (cases hf;done)
    rename_i x;obtain ⟨y,hy,rfl⟩:=ST.1 (show ((eL E l n q).map λy=>((x,y.1),y.2))=some r from hf);simp [iy l hy]
 | .k::l,n,ds,r,hf=>by
   cases ds with
   |nil=>cases hf
   |cons d q=>
    cases d<;>try (cases hf;done)
    rename_i k;replace hf:(if k=n then eL E l (n+1) q else none)=some r:=hf;split at hf
    case isFalse=>cases hf
    simp [iy l hf]
 | .ro e::l,n,ds,r,hf=>by
   cases ds with
   |nil=>cases hf
   |cons d q=>
    cases d<;>try (cases hf;done)
    rename_i e' xs tk;cases tk with
    |none=>cases hf
    |some k=>
     replace hf:(if k=n then eL E l (n+1) q else none)=some r:=hf;split at hf
     case isFalse=>cases hf
     simp [iy l hf]
 | .own e::l,n,ds,r,hf=>by
   cases ds with
   |nil=>cases hf
   |cons d q=>
    replace hf:((j7 E e d).bind λz=>(eL E l (n+1) q).map λy=>((z.1,y.1),z.2++y.2))=some r:=hf;obtain ⟨z,hz,hf⟩:=WP.1 hf;obtain ⟨y,hy,rfl⟩:=ST.1 hf;simp [iy l hy]
 | .mut e::l,n,ds,r,hf=>by
   cases ds with
   |nil=>cases hf
   |cons d q=>
    replace hf:((j7 E e d).bind λz=>(eL E l (n+1) q).map λy=>((z.1,y.1),z.2++y.2))=some r:=hf;obtain ⟨z,hz,hf⟩:=WP.1 hf;obtain ⟨y,hy,rfl⟩:=ST.1 hf;simp [iy l hy]
theorem iz (h:dq c μ fp v w) (hE:∀ id x,E id=some x→v id=some x):(l:List Cm)→{n:Nat}→{os vs:List Value}→{ds:List aj}→{r:mA l×List Nat}→
  ak c μ vs ds→os.length=l.length→jb c true l os n→eL E l n ds=some r→r.2.Nodup→∃ f,bc c.fz w l os vs r.1 f∧my c fp v E r.2 f
 |[],n,os,vs,ds,r,hr,ho,ht,hf,hn=>by
  cases ds with
  |nil=>
   cases hf;simp_all [ak,bc,aeE,my.nil]
  |cons d q=>cases hf
 |_::_,n,[],vs,ds,r,hr,ho,ht,hf,hn=>by cases ho
 | .b::l,n,o::os,vs,ds,r,hr,ho,ht,hf,hn=>by
   cases ds with
   |nil=>cases hf
   |cons d q=>
    cases d<;>try (cases hf;done)
    rename_i x;obtain ⟨y,hy,rfl⟩:=ST.1 (show ((eL E l n q).map λy=>((x,y.1),y.2))=some r from hf);simp only [ak] at hr;obtain ⟨v0,bg,rfl,hx,hr⟩:=hr;simp only [az] at hx;subst hx;obtain ⟨f,h1,h2⟩:=iz h hE l hr (by simpa using ho) ht hy hn;exact ⟨f,by simp only [bc];grind,h2⟩
 | .i k::l,n,o::os,vs,ds,r,hr,ho,ht,hf,hn=>by
   cases ds with
   |nil=>cases hf
   |cons d q=>
    cases d<;>try (cases hf;done)
    rename_i k' x;replace hf:(if k=k' then (eL E l n q).map λy=>((x,y.1),y.2) else none)=some r:=hf;split at hf
    case isFalse=>cases hf
    rename_i e;subst e;obtain ⟨y,hy,rfl⟩:=ST.1 hf;simp only [ak] at hr;obtain ⟨v0,bg,rfl,hx,hr⟩:=hr;simp only [az] at hx;subst hx;obtain ⟨f,h1,h2⟩:=iz h hE l hr (by simpa using ho) ht hy hn;exact ⟨f,by simp only [bc];grind,h2⟩
 | .s::l,n,o::os,vs,ds,r,hr,ho,ht,hf,hn=>by
   cases ds with
   |nil=>cases hf
   |cons d q=>
    cases d<;>try (cases hf;done)
    rename_i x;obtain ⟨y,hy,rfl⟩:=ST.1 (show ((eL E l n q).map λy=>((x,y.1),y.2))=some r from hf);simp only [ak] at hr;obtain ⟨v0,bg,rfl,hx,hr⟩:=hr;simp only [az] at hx;obtain ⟨f,h1,h2⟩:=iz h hE l hr (by simpa using ho) ht hy hn;exact ⟨f,by simp only [bc];grind,h2⟩
 | .e::l,n,o::os,vs,ds,r,hr,ho,ht,hf,hn=>by
   cases ds with
   |nil=>cases hf
   |cons d q=>
    cases d<;>try (cases hf;done)
    rename_i x;obtain ⟨y,hy,rfl⟩:=ST.1 (show ((eL E l n q).map λy=>((x,y.1),y.2))=some r from hf);simp only [ak] at hr;obtain ⟨v0,bg,rfl,hx,hr⟩:=hr;simp only [az] at hx;obtain ⟨f,h1,h2⟩:=iz h hE l hr (by simpa using ho) ht hy hn;exact ⟨f,by simp only [bc];grind,h2⟩
 | .k::l,n,o::os,vs,ds,r,hr,ho,ht,hf,hn=>by
   cases ds with
   |nil=>cases hf
   |cons d q=>
    cases d<;>try (cases hf;done)
    rename_i k;replace hf:(if k=n then eL E l (n+1) q else none)=some r:=hf;split at hf
    case isFalse=>cases hf
    rename_i ek;subst ek;simp only [ak] at hr;obtain ⟨v0,bg,rfl,hx,hr⟩:=hr;simp only [az] at hx;simp only [jb] at ht;obtain ⟨f,h1,h2⟩:=iz h hE l hr (by simpa using ho) ht.2 hf hn;have B8:v0=o:=by grind
    exact ⟨f,by simp only [bc];grind,h2⟩
 | .ro e::l,n,o::os,vs,ds,r,hr,ho,ht,hf,hn=>by
   cases ds with
   |nil=>cases hf
   |cons d q=>
    cases d<;>try (cases hf;done)
    rename_i e' xs tk;cases tk with
    |none=>cases hf
    |some k=>
     replace hf:(if k=n then eL E l (n+1) q else none)=some r:=hf;split at hf
     case isFalse=>cases hf
     rename_i ek;subst ek;simp only [ak] at hr;obtain ⟨v0,bg,rfl,hx,hr⟩:=hr;simp only [az] at hx;simp only [jb] at ht;obtain ⟨f,h1,h2⟩:=iz h hE l hr (by simpa using ho) ht.2 hf hn;have B8:v0=o:=(by grind)
     exact ⟨f,by simp only [bc];grind,h2⟩
 | .own e::l,n,o::os,vs,ds,r,hr,ho,ht,hf,hn=>by
   cases ds with
   |nil=>cases hf
   |cons d q=>
    replace hf:((j7 E e d).bind λz=>(eL E l (n+1) q).map λy=>((z.1,y.1),z.2++y.2))=some r:=hf;obtain ⟨z,hz,hf⟩:=WP.1 hf;obtain ⟨y,hy,rfl⟩:=ST.1 hf;simp only [ak] at hr;obtain ⟨v0,bg,rfl,hv,hr⟩:=hr;obtain ⟨f,h1,h2⟩:=iz h hE l hr (by simpa using ho) ht hy (by grind);obtain ⟨f0,g1,g2⟩:=jI h hE hv hz;exact ⟨f0++f,by simp only [bc];grind,g2.append h h2 hn⟩
 | .mut e::l,n,o::os,vs,ds,r,hr,ho,ht,hf,hn=>by
   cases ds with
   |nil=>cases hf
   |cons d q=>
    replace hf:((j7 E e d).bind λz=>(eL E l (n+1) q).map λy=>((z.1,y.1),z.2++y.2))=some r:=hf;obtain ⟨z,hz,hf⟩:=WP.1 hf;obtain ⟨y,hy,rfl⟩:=ST.1 hf;simp only [ak] at hr;obtain ⟨v0,bg,rfl,hv,hr⟩:=hr;obtain ⟨f,h1,h2⟩:=iz h hE l hr (by simpa using ho) ht hy (by grind);obtain ⟨f0,g1,g2⟩:=jI h hE hv hz;exact ⟨f0++f,by simp only [bc];grind,g2.append h h2 hn⟩
theorem iA (h:dq c μ fp v w) (hE:∀ id x,E id=some x→v id=some x):(l:List Cm)→{n:Nat}→{x:uK l}→{vs:List Value}→{r:qX l×List Nat}→
  ak c μ vs (bf true l x n).1→ix E l n=some r→r.2.Nodup→∃ f,aY c.fz w l vs r.1 f∧my c fp v E r.2 f
 |[],n,x,vs,r,hr,hf,hn=>by
  cases hf;simp only [bf,ak] at hr;exact ⟨[],by simp only [aY];exact ⟨hr,trivial⟩,my.nil⟩
 | .b::l,n,x,vs,r,hr,hf,hn=>by
   simp only [bf,ak] at hr;obtain ⟨v0,bg,rfl,_,hr⟩:=hr;obtain ⟨f,h1,h2⟩:=iA h hE l hr (show ix E l n=some r from hf) hn;exact ⟨f,by simp only [aY];exact ⟨v0,bg,rfl,h1⟩,h2⟩
 | .i _::l,n,x,vs,r,hr,hf,hn=>by
   simp only [bf,ak] at hr;obtain ⟨v0,bg,rfl,_,hr⟩:=hr;obtain ⟨f,h1,h2⟩:=iA h hE l hr (show ix E l n=some r from hf) hn;exact ⟨f,by simp only [aY];exact ⟨v0,bg,rfl,h1⟩,h2⟩
 | .s::l,n,x,vs,r,hr,hf,hn=>by
   simp only [bf,ak] at hr;obtain ⟨v0,bg,rfl,_,hr⟩:=hr;obtain ⟨f,h1,h2⟩:=iA h hE l hr (show ix E l n=some r from hf) hn;exact ⟨f,by simp only [aY];exact ⟨v0,bg,rfl,h1⟩,h2⟩
 | .e::l,n,x,vs,r,hr,hf,hn=>by
   simp only [bf,ak] at hr;obtain ⟨v0,bg,rfl,_,hr⟩:=hr;obtain ⟨f,h1,h2⟩:=iA h hE l hr (show ix E l n=some r from hf) hn;exact ⟨f,by simp only [aY];exact ⟨v0,bg,rfl,h1⟩,h2⟩
 | .k::l,n,x,vs,r,hr,hf,hn=>by
   simp only [bf,ak] at hr;obtain ⟨v0,bg,rfl,_,hr⟩:=hr;obtain ⟨f,h1,h2⟩:=iA h hE l hr (show ix E l (n+1)=some r from hf) hn;exact ⟨f,by simp only [aY];exact ⟨v0,bg,rfl,h1⟩,h2⟩
 | .ro _::l,n,x,vs,r,hr,hf,hn=>by
   simp only [bf,ak] at hr;obtain ⟨v0,bg,rfl,_,hr⟩:=hr;obtain ⟨f,h1,h2⟩:=iA h hE l hr (show ix E l (n+1)=some r from hf) hn;exact ⟨f,by simp only [aY];exact ⟨v0,bg,rfl,h1⟩,h2⟩
 | .own _::l,n,x,vs,r,hr,hf,hn=>by
   simp only [bf,ak] at hr;obtain ⟨v0,bg,rfl,_,hr⟩:=hr;obtain ⟨f,h1,h2⟩:=iA h hE l hr (show ix E l (n+1)=some r from hf) hn;exact ⟨f,by simp only [aY];exact ⟨v0,bg,rfl,h1⟩,h2⟩
 | .mut e::l,n,x,vs,r,hr,hf,hn=>by
   simp only [bf,ak] at hr;obtain ⟨v0,bg,rfl,hv,hr⟩:=hr;replace hf:((j7 E e (.dn n none)).bind λz=>(ix E l (n+1)).map λy=>((z.1,y.1),z.2++y.2))=some r:=hf;obtain ⟨z,hz,hf⟩:=WP.1 hf;obtain ⟨y,hy,rfl⟩:=ST.1 hf;obtain ⟨f,h1,h2⟩:=iA h hE l hr hy (ad1.1 hn).2.1;obtain ⟨f0,g1,g2⟩:=jI h hE hv hz;exact ⟨f0++f,by simp only [aY];grind,g2.append h h2 hn⟩
theorem Mr {a:Bool} {d:Value} {cs:List Cm} {x:uK cs} {n:Nat} (h:az c μ d (EO a (bf true cs x n).1)) (ha:a=false→cs.length=1∧d.oneCell'=true) (hag:a=true→∃ us,d= .agg us):ak c μ d.cells.toList (bf true cs x n).1:=by
 cases a with
 |true=>
  simp only [EO,agm,az] at h;obtain ⟨vs,rfl,h⟩:=h;exact h
 |false=>
  obtain ⟨hl,ho⟩:=ha rfl;rw [ib ho];have:=gK true cs x n;rw [hl] at this;obtain ⟨y,hy⟩:=Pi.1 this;rw [hy] at h ⊢;simp only [EO,aeF,if_false,List.headD_cons] at h;simp only [ak];exact ⟨d,[],rfl,h,rfl⟩
theorem Ow (h:dq c μ fp v w) (hE:∀ id x,E id=some x→v id=some x) {S:Nat→Prop} {w0:World}:(it:Item)→{n:Nat}→{x:uK it.cs}→{d:Value}→{r:vL it×List Nat}→{f0:List Nat}→{g:List (Nat×Nat×Nat)}→
  cZ S w0 it d x f0 g→YJ c true w0 it d n→az c μ d (lP true it x n).1→Ou E it n=some r→r.2.Nodup→
  ∃ f,s7 c.fz w0 w it d r.1 f∧GoneB c fp v E r.2 f g
 |⟨false,a,cs⟩,n,x,d,r,f0,g,hi,ht,hr,hf,hn=>by
  simp only [cZ] at hi;obtain ⟨rfl,hi,h1,h2⟩:=hi;have hl:=eU cs hi;obtain ⟨f,g1,g2⟩:=iA h hE cs (Mr hr (λe=>⟨by rw [← hl,ib (h2 e)];rfl,h2 e⟩) h1) (show ix E cs n=some r from hf) hn;exact ⟨f,g1,⟨by simpa using g2.mem,by simpa using g2.nodup,g2.there,g2.may⟩⟩
 |⟨true,a,cs⟩,n,x,d,r,f0,g,hi,ht,hr,hf,hn=>by
  simp only [cZ] at hi;obtain ⟨B,o,C,T,rfl,rfl,hb,hC,hi⟩:=hi;replace hf:(match E n with|some (.var l)=>(eL E cs (n+1) l).map λy=>(y.1,n::y.2)|_=>none)=some r:=hf;split at hf
  case h_2=>cases hf
  rename_i l fg;obtain ⟨y,hy,rfl⟩:=ST.1 hf;have hv:=hE n _ fg;obtain ⟨B',o',C',T',h1,h2,h3,h4,h5,h6,h7⟩:=h.rel n _ hv;have hr:az c μ (.pointer (some ⟨B,o,none⟩)) (.vptr n 0):=hr;simp only [az] at hr;obtain ⟨B2,o2,e1,e2⟩:=hr;rw [h1] at e1;cases e1;simp only [Value.pointer.injEq,adI,Addr.mk.injEq,Nat.add_zero,ahb] at e2;obtain ⟨rfl,rfl⟩:=e2;rw [aeP] at hn;have hlen:(aK w0 B o cs.length).length=cs.length:=eU cs hi;obtain ⟨f,g1,g2⟩:=iz h hE cs h5 hlen (ht B o rfl) hy hn.2;have hll:l.length=cs.length:=by grind [iy]
  rw [hll] at g1;have hB:B ∉ f:=by
   intro hb;obtain ⟨i,hi,hm⟩:=g2.mem B hb;have fE:i≠n:=λe=>hn.1 (e ▸ hi);exact h.sep i n fE (g2.there i hi).1 (by rw [hv];simp) B hm (by rw [h2];simp)
  refine ⟨f,⟨B,o,rfl,g1⟩,⟨?_, ?_, ?_,g2.may⟩⟩
  . intro b hb
    simp only [ael,alr,adE,aey] at hb;rcases hb with hb|rfl
    . obtain ⟨i,hi,hm⟩:=g2.mem b hb;grind
    grind
  . simp only [ael,alr,ad1]
    refine ⟨g2.nodup,by simp,λa ha b hb e=> ?_⟩;grind
  . intro i hi
    rcases adM.1 hi with rfl|hi
    . grind
    . exact g2.there i hi
theorem EV (h:dq c μ fp v w) (hE:∀ id x,E id=some x→v id=some x) {S:Nat→Prop} {w0:World}:(l:List Item)→{n:Nat}→{x:aw l}→{vs:List Value}→{r:iC l×List Nat}→{f0:List Nat}→{g:List (Nat×Nat×Nat)}→
  ba S w0 l vs x f0 g→nN c true w0 l vs n→ak c μ vs (eu true l x n).1→Jw E l n=some r→r.2.Nodup→∃ f,eh c.fz w0 w l vs r.1 f∧GoneB c fp v E r.2 f g
 |[],n,x,vs,r,f0,g,hi,ht,hr,hf,hn=>by
  cases hf;simp only [ba] at hi;obtain ⟨rfl,rfl,rfl⟩:=hi;exact ⟨[],by simp only [eh];exact ⟨trivial,trivial⟩,GoneB.nil⟩
 |it::l,n,x,vs,r,f0,g,hi,ht,hr,hf,hn=>by
  simp only [ba] at hi;obtain ⟨d,bg,f1,f2,g1,g2,rfl,rfl,rfl,h1,hi⟩:=hi;simp only [nN] at ht;simp only [eu,ak] at hr;obtain ⟨d',Y7,e,hd,hr⟩:=hr;cases e;rw [sI] at hr;replace hf:((Ou E it n).bind λx=>(Jw E l (FM it n)).map λy=>((x.1,y.1),x.2++y.2))=some r:=hf;obtain ⟨z,hz,hf⟩:=WP.1 hf;obtain ⟨y,hy,rfl⟩:=ST.1 hf;obtain ⟨f,q1,q2⟩:=EV h hE l hi ht.2 hr hy (ad1.1 hn).2.1;obtain ⟨f',q3,q4⟩:=Ow h hE it h1 ht.1 hd hz (ad1.1 hn).1;exact ⟨f'++f,by simp only [eh];grind,q4.append h q2 hn⟩
end
end
section
open Go
def rO (P:Program) (S:Nat→Prop) (w:World) (f:List Nat) (g:List (Nat×Nat×Nat)) (tok:Nat→Value) (loc:Nat→Loc) (hS:Ie S w):Ctx where
 P:=P
 S:=S
 w0:=w
 M:=λb j=>b∈f∨∃ o m,(b,o,m)∈g∧o≤j∧j<o+m
 tok:=tok
 loc:=loc
 hS:=hS
def Ms:List Value→Value
 |[v]=>v
 |vs=> .tuple vs.toArray
structure agS (P:Program) (S:Nat→Prop) (w:World) (hS:Ie S w) (K:bK) (ve:List Value) (f:List Nat) (g:List (Nat×Nat×Nat)) (y:aw K.rs×iC K.aF) (v':Value) (w':World):Prop where
 ex:∃ rvs f1 g1 f2,v'=Ms rvs∧(∃ S':Nat→Prop,(∀ b,S b→S' b)∧(∀ b,S' b→(S b∨w.heap.size≤b∨b∈f)∧b<w'.heap.size)∧(∀ b∈f1++g1.map (·.1)++(f2++g.map (·.1)),¬ S' b)∧ba S' w' K.rs rvs y.1 f1 g1∧eh ⟨S',w'⟩ w w' K.aF ve y.2 f2)∧(f1++g1.map (·.1)++(f2++g.map (·.1))).Nodup∧(∀ b∈f1++g1.map (·.1)++f2,b∈f∨w.heap.size≤b)
 ev:Ev (rO P S w f g (λ_=>undef) default hS) w'
def bK.Ok (P:Program) (K:bK):Prop:=
 ∀ (x:aw K.aF) (y:aw K.rs×iC K.aF),(K.F x).eval=some y→
   ∀ (S:Nat→Prop) (w:World) (hS:Ie S w) (ve:List Value) (f:List Nat) (g:List (Nat×Nat×Nat)),ba S w K.aF ve x f g→(f++g.map (·.1)).Nodup→(∀ b∈f++g.map (·.1),¬ S b)→
     qR P K.f (na K.lay ve).toArray w λv' w'=>agS P S w hS K ve f g y v' w'
theorem qR.mono {P:Program} {f:FuncId} {args:Array Value} {w:World} {R R':Value→World→Prop} (h:qR P f args w R) (hR:∀ v w',R v w'→R' v w'):qR P f args w R':=by
 refine ⟨h.1,Calls.mono h.2 λe w' he=> ?_⟩;grind
theorem kb {S:Nat→Prop} {w:World}:(l:List Cm)→{vs:List Value}→{x:uK l}→{f:List Nat}→aV S w l vs x f→∀ b∈f,b<w.heap.size
 |[],_,_,_,h=>by grind [aV]
 | .b::r,_,_,_,h=>by simp only [aV] at h;obtain ⟨bg,rfl,h⟩:=h;exact kb r h
 | .i _::r,_,_,_,h=>by simp only [aV] at h;obtain ⟨bg,rfl,h⟩:=h;exact kb r h
 | .s::r,_,_,_,h=>by simp only [aV] at h;obtain ⟨bg,rfl,_,h⟩:=h;exact kb r h
 | .e::r,_,_,_,h=>by simp only [aV] at h;obtain ⟨_,bg,rfl,_,h⟩:=h;exact kb r h
 | .k::r,_,_,_,h=>by simp only [aV] at h;obtain ⟨_,bg,rfl,_,h⟩:=h;exact kb r h
 | .ro e::r,_,_,_,h=>by simp only [aV] at h;obtain ⟨v,bg,rfl,_,h⟩:=h;exact kb r h
 | .own e::r,_,_,_,h=>by
   simp only [aV] at h;obtain ⟨v,bg,f1,f2,rfl,rfl,h1,h⟩:=h;intro b hb;rcases adE.1 hb with hb|hb
   . exact Ty.iW _ h1 b hb
   . exact kb r h b hb
 | .mut e::r,_,_,_,h=>by
   simp only [aV] at h;obtain ⟨v,bg,f1,f2,rfl,rfl,h1,h⟩:=h;intro b hb;rcases adE.1 hb with hb|hb
   . exact Ty.iW _ h1 b hb
   . exact kb r h b hb
theorem Ox {S:Nat→Prop} {w:World}:(it:Item)→{v:Value}→{x:uK it.cs}→{f:List Nat}→{g:List (Nat×Nat×Nat)}→cZ S w it v x f g→∀ b∈f++g.map (·.1),b<w.heap.size
 |⟨false,_,cs⟩,_,_,_,_,h=>by
  simp only [cZ] at h;obtain ⟨rfl,h,_⟩:=h;simpa using kb cs h
 |⟨true,_,cs⟩,_,_,_,_,h=>by
  simp only [cZ] at h;obtain ⟨B,o,C,E,rfl,rfl,hb,_,h⟩:=h;intro b hm;simp only [ael,alr,adE,aey] at hm;rcases hm with hm|rfl
  . exact kb cs h b hm
  grind
theorem oA {S:Nat→Prop} {w:World}:(l:List Item)→{vs:List Value}→{x:aw l}→{f:List Nat}→{g:List (Nat×Nat×Nat)}→ba S w l vs x f g→∀ b∈f++g.map (·.1),b<w.heap.size
 |[],_,_,_,_,h=>by simp only [ba] at h;obtain ⟨_,rfl,rfl⟩:=h;simp
 |it::r,_,_,_,_,h=>by
  simp only [ba] at h;obtain ⟨v,bg,f1,f2,g1,g2,rfl,rfl,rfl,h1,h⟩:=h;intro b hb;rw [akY] at hb;rcases adE.1 ((vN f1 f2 (g1.map (·.1)) (g2.map (·.1))).mem_iff.1 hb) with hb|hb
  . exact Ox it h1 b hb
  . exact oA r h b hb
mutual
theorem Ty.kH {z z':Fz} {w:World}:(t:Ty)→t.so=true→{cs:List Value}→{x:t.D}→{fp:List Nat}→t.aC z w cs x fp→t.aC z' w cs x fp
 | .bool,_,_,_,_,h=>by grind [Ty.aC]
 | .int _,_,_,_,_,h=>by grind [Ty.aC]
 | .str,_,_,_,_,h=>by grind [Ty.aC]
 | .hole,_,_,_,_,h=>by grind [Ty.aC]
 | .sl e,hn,_,_,_,h=>by
   simp only [Ty.aC] at h ⊢;obtain ⟨a,cap,rfl,hc,h⟩:=h;refine ⟨a,cap,rfl,hc,h.imp id ?_⟩
   rintro ⟨b,o,c,E,fps,ha,hb,ho,hl,rfl,hi⟩
   exact ⟨b,o,c,E,fps,ha,hb,ho,hl,rfl,λi y f hy hf=>Ty.kH e hn (hi i y f hy hf)⟩
 | .fz e,hn,_,_,_,h=>by grind [Ty.so]
 | .st fs,hn,_,_,_,h=>by simp only [Ty.aC] at h ⊢; exact aO.kH fs hn h
theorem aO.kH {z z':Fz} {w:World}:(t:aO)→t.so=true→{cs:List Value}→{x:t.D}→{fp:List Nat}→t.aC z w cs x fp→t.aC z' w cs x fp
 | .nil,_,_,_,_,h=>by grind [aO.aC]
 | .cons t ts,hn,_,_,_,h=>by
   simp only [aO.so,aa6] at hn;simp only [aO.aC] at h ⊢; obtain ⟨c1,c2,f1,f2,rfl,rfl,h1,h2⟩:=h;exact ⟨c1,c2,f1,f2,rfl,rfl,Ty.kH t hn.1 h1,aO.kH ts hn.2 h2⟩
end
def EW (cs:List Cm):Bool:=cs.all λc=>match c with| .ro _=>false| .own e=>e.so| .mut e=>e.so|_=>true
theorem fR {S S':Nat→Prop} {w:World}:(l:List Cm)→{vs:List Value}→{x:uK l}→{f:List Nat}→EW l=true→aV S w l vs x f→aV S' w l vs x f
 |[],_,_,_,_,h=>by grind [aV]
 | .b::r,_,_,_,hn,h=>by simp only [aV] at h ⊢; obtain ⟨bg,e,h⟩:=h;exact ⟨bg,e,fR r (by simpa [EW] using hn) h⟩
 | .i _::r,_,_,_,hn,h=>by simp only [aV] at h ⊢; obtain ⟨bg,e,h⟩:=h;exact ⟨bg,e,fR r (by simpa [EW] using hn) h⟩
 | .s::r,_,_,_,hn,h=>by simp only [aV] at h ⊢; obtain ⟨bg,e,hl,h⟩:=h;exact ⟨bg,e,hl,fR r (by simpa [EW] using hn) h⟩
 | .e::r,_,_,_,hn,h=>by simp only [aV] at h ⊢; obtain ⟨v0,bg,e,hl,h⟩:=h;exact ⟨v0,bg,e,hl,fR r (by simpa [EW] using hn) h⟩
 | .k::r,_,_,_,hn,h=>by simp only [aV] at h ⊢; obtain ⟨v0,bg,e,hl,h⟩:=h;exact ⟨v0,bg,e,hl,fR r (by simpa [EW] using hn) h⟩
 | .ro e::r,_,_,_,hn,h=>by grind [EW]
 | .own e::r,_,_,_,hn,h=>by
   simp only [aV] at h ⊢;obtain ⟨v,bg,f1,f2,e1,e2,h1,h⟩:=h;have qZ:e.so=true∧EW r=true:=by simpa [EW] using hn
   exact ⟨v,bg,f1,f2,e1,e2,Ty.kH (.sl e) qZ.1 h1,fR r qZ.2 h⟩
 | .mut e::r,_,_,_,hn,h=>by
   simp only [aV] at h ⊢;obtain ⟨v,bg,f1,f2,e1,e2,h1,h⟩:=h;have qZ:e.so=true∧EW r=true:=by simpa [EW] using hn
   exact ⟨v,bg,f1,f2,e1,e2,Ty.kH (.sl e) qZ.1 h1,fR r qZ.2 h⟩
theorem rn {S S':Nat→Prop} {w:World}:(l:List Item)→{vs:List Value}→{x:aw l}→{f:List Nat}→{g:List (Nat×Nat×Nat)}→ER l=true→ba S w l vs x f g→ba S' w l vs x f g
 |[],_,_,_,_,_,h=>by grind [ba]
 |it::r,_,_,_,_,hn,h=>by
  simp only [ba] at h ⊢;obtain ⟨v,bg,f1,f2,g1,g2,e1,e2,e3,h1,h⟩:=h;simp only [ER,aeB,aa6] at hn;refine ⟨v,bg,f1,f2,g1,g2,e1,e2,e3, ?_,rn r hn.2 h⟩;obtain ⟨p,a,cs⟩:=it;cases p with
  |false=>simp only [cZ] at h1 ⊢; exact ⟨h1.1,fR cs hn.1 h1.2.1,h1.2.2⟩
  |true=>
   simp only [cZ] at h1 ⊢;obtain ⟨B,o,C,E,q1,q2,q3,q4,q5⟩:=h1;exact ⟨B,o,C,E,q1,q2,q3,q4,fR cs hn.1 q5⟩
theorem l8 {S S':Nat→Prop} {w:World} (hS:∀ b,S b→S' b):(l:List Cm)→{vs:List Value}→{x:uK l}→{f:List Nat}→aV S w l vs x f→aV S' w l vs x f
 |[],_,_,_,h=>by grind [aV]
 | .b::r,_,_,_,h=>by simp only [aV] at h ⊢; obtain ⟨bg,e,h⟩:=h;exact ⟨bg,e,l8 hS r h⟩
 | .i _::r,_,_,_,h=>by simp only [aV] at h ⊢; obtain ⟨bg,e,h⟩:=h;exact ⟨bg,e,l8 hS r h⟩
 | .s::r,_,_,_,h=>by simp only [aV] at h ⊢; obtain ⟨bg,e,hl,h⟩:=h;exact ⟨bg,e,hl,l8 hS r h⟩
 | .e::r,_,_,_,h=>by simp only [aV] at h ⊢; obtain ⟨v0,bg,e,hl,h⟩:=h;exact ⟨v0,bg,e,hl,l8 hS r h⟩
 | .k::r,_,_,_,h=>by simp only [aV] at h ⊢; obtain ⟨v0,bg,e,hl,h⟩:=h;exact ⟨v0,bg,e,hl,l8 hS r h⟩
 | .ro e::r,_,_,_,h=>by simp only [aV] at h ⊢; obtain ⟨v,bg,e1,h1,h⟩:=h;exact ⟨v,bg,e1,Ty.eR (by grind) _ h1,l8 hS r h⟩
 | .own e::r,_,_,_,h=>by simp only [aV] at h ⊢; obtain ⟨v,bg,f1,f2,e1,e2,h1,h⟩:=h;exact ⟨v,bg,f1,f2,e1,e2,Ty.dI (show Fz.le ⟨S,w⟩ ⟨S',w⟩ from λb hb=>⟨hS b hb,rfl⟩) _ h1,l8 hS r h⟩
 | .mut e::r,_,_,_,h=>by simp only [aV] at h ⊢; obtain ⟨v,bg,f1,f2,e1,e2,h1,h⟩:=h;exact ⟨v,bg,f1,f2,e1,e2,Ty.dI (show Fz.le ⟨S,w⟩ ⟨S',w⟩ from λb hb=>⟨hS b hb,rfl⟩) _ h1,l8 hS r h⟩
theorem EX {S S':Nat→Prop} {w:World} (hS:∀ b,S b→S' b):(l:List Item)→{vs:List Value}→{x:aw l}→{f:List Nat}→{g:List (Nat×Nat×Nat)}→ba S w l vs x f g→ba S' w l vs x f g
 |[],_,_,_,_,h=>by grind [ba]
 |it::r,_,_,_,_,h=>by
  simp only [ba] at h ⊢;obtain ⟨v,bg,f1,f2,g1,g2,e1,e2,e3,h1,h⟩:=h;refine ⟨v,bg,f1,f2,g1,g2,e1,e2,e3, ?_,EX hS r h⟩;obtain ⟨p,a,cs⟩:=it;cases p with
  |false=>simp only [cZ] at h1 ⊢; exact ⟨h1.1,l8 hS cs h1.2.1,h1.2.2⟩
  |true=>
   simp only [cZ] at h1 ⊢;obtain ⟨B,o,C,E,q1,q2,q3,q4,q5⟩:=h1;exact ⟨B,o,C,E,q1,q2,q3,q4,l8 hS cs q5⟩
theorem gM {c:Ctx}:(l:List Cm)→(vs:List Value)→(n:Nat)→jb c false l vs n
 |[],_,_=>by simp [jb]
 | .b::r,[],_=>by simp [jb]
 | .i _::r,[],_=>by simp [jb]
 | .s::r,[],_=>by simp [jb]
 | .e::r,[],_=>by simp [jb]
 | .k::r,[],_=>by simp [jb]
 | .ro _::r,[],_=>by simp [jb]
 | .own _::r,[],_=>by simp [jb]
 | .mut _::r,[],_=>by simp [jb]
 | .b::r,_::vs,n=>gM r vs n
 | .i _::r,_::vs,n=>gM r vs n
 | .s::r,_::vs,n=>gM r vs n
 | .e::r,_::vs,n=>gM r vs n
 | .k::r,_::vs,n=>⟨λh=>(by cases h),gM r vs (n+1)⟩
 | .ro _::r,_::vs,n=>⟨λh=>(by cases h),gM r vs (n+1)⟩
 | .own _::r,_::vs,n=>gM r vs (n+1)
 | .mut _::r,_::vs,n=>gM r vs (n+1)
theorem ym {c:Ctx} {w:World}:(l:List Item)→(vs:List Value)→(n:Nat)→nN c false w l vs n
 |[],_,_=>by simp [nN]
 |it::r,[],_=>by simp [nN]
 |it::r,v::vs,n=>by
  refine ⟨?_,ym r vs _⟩;obtain ⟨p,a,cs⟩:=it;cases p with
  |false=>exact gM cs _ n
  |true=>exact λB o _=>gM cs _ _
theorem dq.less {c:Ctx} {μ:Nat→Loc} {fp:Nat→List Nat} {v v':Env} {w w':World} (h:dq c μ fp v w) (hv:∀ id,v' id=none∨v' id=v id) (hz:w.heap.size≤w'.heap.size)
  (hs:∀ id,v' id≠none→∀ b∈fp id,w'.heap[b]? =w.heap[b]?):dq c μ fp v' w':=by
 have hm:∀ id,v' id≠none→v id≠none:=by grind
 constructor
 . intro id x hx
   have vn:v id=some x:=by grind
   exact (h.rel id x vn).frame (hs id (by simp [hx])) rfl λ_ _=>rfl
 . intro id x hx
   rcases hv id with e|e
   . grind
   . exact h.nodup id x (by grind)
 . exact λid eD fE h1 h2=>h.sep id eD fE (hm id h1) (hm eD h2)
 . exact λid h1=>h.kL id (hm id h1)
 . exact λid h1 b hb=>aeh (h.lt id (hm id h1) b hb) hz
theorem iS.drop {c:Ctx} {K:Nat→Prop} {μ:Nat→Loc} {fp:Nat→List Nat} {v:Env} {w:World} {f rest:List Nat} (h:iS c K μ fp v w (f++rest)):iS c K μ fp v w rest:=
 ⟨h.rel,h.known,(ad1.1 h.nodup).2.1,λid hv b hb cE=>h.far id hv b hb (by simp [cE]),λb hb=>h.ok b (by simp [hb])⟩
theorem Ae {c:Ctx} {μ:Nat→Loc}:(l:QL)→{ds is:List aj}→{vs:List Value}→Hi l ds=some is→ak c μ vs ds→∃ ve,ak c μ ve is∧vs=na l ve∧∀ id∈aj.bO is,id∈aj.bO ds
 |[],ds,is,vs,hu,hr=>by
  cases ds with
  |nil=>
   cases hu;simp only [ak] at hr;exact ⟨[],by simp [ak],by rw [hr];rfl,λ_ h=>h⟩
  |cons d q=>cases hu
 |none::l,ds,is,vs,hu,hr=>by
  cases ds with
  |nil=>cases hu
  |cons d q=>
   obtain ⟨z,hz,rfl⟩:=ST.1 (show (Hi l q).map (λq=>d::q)=some is from hu);simp only [ak] at hr;obtain ⟨v0,bg,rfl,hv,hr⟩:=hr;obtain ⟨ve,h1,h2,h3⟩:=Ae l hz hr;refine ⟨v0::ve,by simp only [ak];exact ⟨v0,ve,rfl,hv,h1⟩,by rw [h2];rfl,λid hi=> ?_⟩;simp only [aj.bO,adE] at hi ⊢;exact hi.imp (λh=>h) (h3 id)
 |some (g,k)::l,ds,is,vs,hu,hr=>by
  cases ds with
  |nil=>cases hu
  |cons d q=>
   cases d<;>try (cases hu;done)
   rename_i g' qF;replace hu:(if g=g'∧qF.length=k then (Hi l q).map λq=>qF++q else none)=some is:=hu;split at hu
   case isFalse=>cases hu
   rename_i hc;obtain ⟨rfl,rfl⟩:=hc;obtain ⟨z,hz,rfl⟩:=ST.1 hu;simp only [ak] at hr;obtain ⟨v0,bg,rfl,hv,hr⟩:=hr;simp only [az] at hv;obtain ⟨cv,rfl,hcv⟩:=hv;obtain ⟨ve,h1,h2,h3⟩:=Ae l hz hr;have hl:=hcv.length;refine ⟨cv.toList++ve,hcv.append h1, ?_,λid hi=> ?_⟩
   . simp_all [na]
   grind [su,aj.bO,aj.ids,id]
section
variable {c:Ctx} {K0:Nat→Prop} {μ0:Nat→Loc} {w:World}
theorem gz:(l:List Cm)→(ds:List aj)→(y:mA l)→(n:Nat)→n≤(cb l ds y n).2.2
 |[],_,_,n=>adK n
 | .b::_,[],_,n=>adK n
 | .i _::_,[],_,n=>adK n
 | .s::_,[],_,n=>adK n
 | .e::_,[],_,n=>adK n
 | .k::_,[],_,n=>adK n
 | .ro _::_,[],_,n=>adK n
 | .own _::_,[],_,n=>adK n
 | .mut _::_,[],_,n=>adK n
 | .b::r,_::q,y,n=>gz r q y.2 n
 | .i _::r,_::q,y,n=>gz r q y.2 n
 | .s::r,_::q,y,n=>gz r q y.2 n
 | .e::r,_::q,y,n=>gz r q y.2 n
 | .k::r,_::q,y,n=>gz r q y n
 | .ro _::r,_::q,y,n=>gz r q y n
 | .own _::r,_::q,y,n=>adQ (alo n) (gz r q y.2 (n+1))
 | .mut _::r,_::q,y,n=>adQ (alo n) (gz r q y.2 (n+1))
def adt (K:Nat→Prop) (n n':Nat) (ds:List aj):Prop:=ds.all aj.bB=true∧∀ id∈aj.bO ds,K id∨(n≤id∧id<n')
theorem ll {K:Nat→Prop}:(l:List Cm)→(ds:List aj)→(y:mA l)→(n:Nat)→ds.all aj.bB=true→(∀ id∈aj.bO ds,K id)→adt K n (cb l ds y n).2.2 (cb l ds y n).1
 |[],_,_,n,_,_=>⟨rfl,λ_ h=>by cases h⟩
 | .b::r,[],_,n,_,_=>⟨rfl,λ_ h=>by cases h⟩
 | .i _::r,[],_,n,_,_=>⟨rfl,λ_ h=>by cases h⟩
 | .s::r,[],_,n,_,_=>⟨rfl,λ_ h=>by cases h⟩
 | .e::r,[],_,n,_,_=>⟨rfl,λ_ h=>by cases h⟩
 | .k::r,[],_,n,_,_=>⟨rfl,λ_ h=>by cases h⟩
 | .ro _::r,[],_,n,_,_=>⟨rfl,λ_ h=>by cases h⟩
 | .own _::r,[],_,n,_,_=>⟨rfl,λ_ h=>by cases h⟩
 | .mut _::r,[],_,n,_,_=>⟨rfl,λ_ h=>by cases h⟩
 | .b::r,d::q,y,n,h1,h2=>by
   simp only [aeB,aa6] at h1;have:=ll r q y.2 n h1.2 λid hi=>h2 id (by simp [aj.bO,hi]);exact ⟨by simpa [cb,aj.bB] using this.1,this.2⟩
 | .i _::r,d::q,y,n,h1,h2=>by
   simp only [aeB,aa6] at h1;have:=ll r q y.2 n h1.2 λid hi=>h2 id (by simp [aj.bO,hi]);exact ⟨by simpa [cb,aj.bB] using this.1,this.2⟩
 | .s::r,d::q,y,n,h1,h2=>by
   simp only [aeB,aa6] at h1;have:=ll r q y.2 n h1.2 λid hi=>h2 id (by simp [aj.bO,hi]);exact ⟨by simpa [cb,aj.bB] using this.1,this.2⟩
 | .e::r,d::q,y,n,h1,h2=>by
   simp only [aeB,aa6] at h1;have:=ll r q y.2 n h1.2 λid hi=>h2 id (by simp [aj.bO,hi]);exact ⟨by simpa [cb,aj.bB] using this.1,this.2⟩
 | .k::r,d::q,y,n,h1,h2=>by
   simp only [aeB,aa6] at h1;have:=ll (K:=K) r q y n h1.2 λid hi=>h2 id (by simp [aj.bO,hi]);refine ⟨by simpa [cb,h1.1] using this.1,λid hi=> ?_⟩;have hi:id∈d.ids++aj.bO (cb r q y n).1:=hi;rcases adE.1 hi with hi|hi
   . exact .inl (h2 id (by simp [aj.bO,hi]))
   . exact this.2 id hi
 | .ro _::r,d::q,y,n,h1,h2=>by
   simp only [aeB,aa6] at h1;have:=ll (K:=K) r q y n h1.2 λid hi=>h2 id (by simp [aj.bO,hi]);refine ⟨by simpa [cb,h1.1] using this.1,λid hi=> ?_⟩;have hi:id∈d.ids++aj.bO (cb r q y n).1:=hi;rcases adE.1 hi with hi|hi
   . exact .inl (h2 id (by simp [aj.bO,hi]))
   . exact this.2 id hi
 | .own _::r,d::q,y,n,h1,h2=>by
   simp only [aeB,aa6] at h1;have:=ll (K:=K) r q y.2 (n+1) h1.2 λid hi=>h2 id (by simp [aj.bO,hi]);have l1:=gz r q y.2 (n+1);refine ⟨by simpa [cb,aj.bB] using this.1,λid hi=> ?_⟩;have hi:id∈n::aj.bO (cb r q y.2 (n+1)).1:=hi;show K id∨n≤id∧id<(cb r q y.2 (n+1)).2.2;rcases adM.1 hi with hi|hi
   . right;omega
   . rcases this.2 id hi with h|h
     . exact .inl h
     . right;omega
 | .mut _::r,d::q,y,n,h1,h2=>by
   simp only [aeB,aa6] at h1;have:=ll (K:=K) r q y.2 (n+1) h1.2 λid hi=>h2 id (by simp [aj.bO,hi]);have l1:=gz r q y.2 (n+1);refine ⟨by simpa [cb,aj.bB] using this.1,λid hi=> ?_⟩;have hi:id∈n::aj.bO (cb r q y.2 (n+1)).1:=hi;show K id∨n≤id∧id<(cb r q y.2 (n+1)).2.2;rcases adM.1 hi with hi|hi
   . right;omega
   . rcases this.2 id hi with h|h
     . exact .inl h
     . right;omega
theorem jK:(l:List Cm)→∀ {os vs:List Value} {ds:List aj} {y:mA l} {f rest:List Nat} {n:Nat} {K:Nat→Prop} {μ:Nat→Loc} {fp:Nat→List Nat} {v:Env},
  iS c K μ fp v w (f++rest)→ak c μ0 os ds→(∀ id∈aj.bO ds,K0 id)→(∀ id,K0 id→K id∧μ id=μ0 id)→bc c.fz w l os vs y f→(∀ b∈f,b<c.w0.heap.size→∀ j,c.M b j)→
  (∀ id,n≤id→id<(cb l ds y n).2.2→¬ K id)→
  ub c K μ v w rest n (cb l ds y n).2.2 (cb l ds y n).2.1 λμ'=>ak c μ' vs (cb l ds y n).1
 |[],os,vs,ds,y,f,rest,n,K,μ,fp,v,h,hr,_,_,hb,_,_=>by
  simp only [bc] at hb;obtain ⟨rfl,rfl,rfl⟩:=hb;exact ⟨μ,fp,by simp [cb,ak],h.weaken λ_=> .inl,λ_ _=>rfl⟩
 | .b::r,os,vs,ds,y,f,rest,n,K,μ,fp,v,h,hr,hi,hk,hb,hM,hf=>by
   simp only [bc] at hb;obtain ⟨o,rh,bg,rfl,rfl,hb⟩:=hb;cases ds with
   |nil=>grind [ak]
   |cons d q=>
    simp only [ak] at hr;obtain ⟨v0,Y7,e,hd,hr⟩:=hr;cases e;obtain ⟨μ',fp',h1,h2,h3⟩:=jK r h hr (by grind [id,aj.bO]) hk hb hM hf;exact ⟨μ',fp',by simp only [cb,ak,az];grind,h2,h3⟩
 | .i _::r,os,vs,ds,y,f,rest,n,K,μ,fp,v,h,hr,hi,hk,hb,hM,hf=>by
   simp only [bc] at hb;obtain ⟨o,rh,bg,rfl,rfl,hb⟩:=hb;cases ds with
   |nil=>grind [ak]
   |cons d q=>
    simp only [ak] at hr;obtain ⟨v0,Y7,e,hd,hr⟩:=hr;cases e;obtain ⟨μ',fp',h1,h2,h3⟩:=jK r h hr (by grind [id,aj.bO]) hk hb hM hf;exact ⟨μ',fp',by simp only [cb,ak,az];grind,h2,h3⟩
 | .s::r,os,vs,ds,y,f,rest,n,K,μ,fp,v,h,hr,hi,hk,hb,hM,hf=>by
   simp only [bc] at hb;obtain ⟨o,rh,bg,rfl,rfl,hl,hb⟩:=hb;cases ds with
   |nil=>grind [ak]
   |cons d q=>
    simp only [ak] at hr;obtain ⟨v0,Y7,e,hd,hr⟩:=hr;cases e;obtain ⟨μ',fp',h1,h2,h3⟩:=jK r h hr (by grind [id,aj.bO]) hk hb hM hf;exact ⟨μ',fp',by simp only [cb,ak,az];grind,h2,h3⟩
 | .e::r,os,vs,ds,y,f,rest,n,K,μ,fp,v,h,hr,hi,hk,hb,hM,hf=>by
   simp only [bc] at hb;obtain ⟨o,rh,_,bg,rfl,rfl,hl,hb⟩:=hb;cases ds with
   |nil=>grind [ak]
   |cons d q=>
    simp only [ak] at hr;obtain ⟨v0,Y7,e,hd,hr⟩:=hr;cases e;obtain ⟨μ',fp',h1,h2,h3⟩:=jK r h hr (by grind [id,aj.bO]) hk hb hM hf;exact ⟨μ',fp',by simp only [cb,ak,az];grind,h2,h3⟩
 | .k::r,os,vs,ds,y,f,rest,n,K,μ,fp,v,h,hr,hi,hk,hb,hM,hf=>by
   simp only [bc] at hb;obtain ⟨o,rh,bg,rfl,rfl,hb⟩:=hb;cases ds with
   |nil=>grind [ak]
   |cons d q=>
    simp only [ak] at hr;obtain ⟨v0,Y7,e,hd,hr⟩:=hr;cases e;obtain ⟨μ',fp',h1,h2,h3⟩:=jK r h hr (by grind [id,aj.bO]) hk hb hM hf;refine ⟨μ',fp', ?_,h2,h3⟩;simp only [cb,ak];exact ⟨_,_,rfl,by grind [az.mono,id,aj.bO],h1⟩
 | .ro _::r,os,vs,ds,y,f,rest,n,K,μ,fp,v,h,hr,hi,hk,hb,hM,hf=>by
   simp only [bc] at hb;obtain ⟨o,rh,bg,rfl,rfl,hb⟩:=hb;cases ds with
   |nil=>grind [ak]
   |cons d q=>
    simp only [ak] at hr;obtain ⟨v0,Y7,e,hd,hr⟩:=hr;cases e;obtain ⟨μ',fp',h1,h2,h3⟩:=jK r h hr (by grind [id,aj.bO]) hk hb hM hf;refine ⟨μ',fp', ?_,h2,h3⟩;simp only [cb,ak];exact ⟨_,_,rfl,by grind [az.mono,id,aj.bO],h1⟩
 | .own e::r,os,vs,ds,y,f,rest,n,K,μ,fp,v,h,hr,hi,hk,hb,hM,hf=>by
   simp only [bc] at hb;obtain ⟨o,rh,v1,bg,f1,f2,rfl,rfl,rfl,hx,hb⟩:=hb;cases ds with
   |nil=>grind [ak]
   |cons d q=>
    simp only [ak] at hr;obtain ⟨v0,Y7,e,hd,hr⟩:=hr;cases e;have l1:=gz r q y.2 (n+1);replace hf:∀ id,n≤id→id<(cb r q y.2 (n+1)).2.2→¬ K id:=hf;obtain ⟨Ba,MJ,g1,g2,g3⟩:=iS.adq (rest:=f2++rest) (by rw [← adO];exact h) (hf n (adK n) (by omega)) hx (by grind);obtain ⟨μ',fp',h1,h2,h3⟩:=jK r g2 hr (by grind [id,aj.bO]) (by grind) hb (by grind)
     (λid q1 q2 q3=>q3.elim (hf id (by omega) q2) (by omega))
    refine ⟨μ',fp', ?_,h2.weaken λid hi=> ?_,by grind⟩
    . simp only [cb,ak]
      exact ⟨_,_,rfl,by grind [az.mono,id,aj.ids,List.mem_singleton],h1⟩
    grind [id,cb]
 | .mut e::r,os,vs,ds,y,f,rest,n,K,μ,fp,v,h,hr,hi,hk,hb,hM,hf=>by
   simp only [bc] at hb;obtain ⟨o,rh,v1,bg,f1,f2,rfl,rfl,rfl,hx,hb⟩:=hb;cases ds with
   |nil=>grind [ak]
   |cons d q=>
    simp only [ak] at hr;obtain ⟨v0,Y7,e,hd,hr⟩:=hr;cases e;have l1:=gz r q y.2 (n+1);replace hf:∀ id,n≤id→id<(cb r q y.2 (n+1)).2.2→¬ K id:=hf;obtain ⟨Ba,MJ,g1,g2,g3⟩:=iS.adq (rest:=f2++rest) (by rw [← adO];exact h) (hf n (adK n) (by omega)) hx (by grind);obtain ⟨μ',fp',h1,h2,h3⟩:=jK r g2 hr (by grind [id,aj.bO]) (by grind) hb (by grind)
     (λid q1 q2 q3=>q3.elim (hf id (by omega) q2) (by omega))
    refine ⟨μ',fp', ?_,h2.weaken λid hi=> ?_,by grind⟩
    . simp only [cb,ak]
      exact ⟨_,_,rfl,by grind [az.mono,id,aj.ids,List.mem_singleton],h1⟩
    grind [id,cb]
end
end
end Go.Proofs.YtkmhgofibfmjfaaGreat.Dm
