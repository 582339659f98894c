/- The data machine (a part). -/
import Derived.Test.YtnlleofnjkeimaaGreatDoorM2
import Derived.Control
namespace Go.Proofs.YtnlleofnjkeimaaGreatDoor.Dm
section
open Go
structure gW (c:Ctx) (n:Nat) (s:du) (a:Act) (w:World):Prop where
 ex:∃ c' μ fp,Ext c c'∧il c' μ fp s.f n a w
 kn:z7 s
 len:s.t.length=n
theorem il.drew {c:Ctx} {μ:Nat→Loc} {fp:Nat→List Nat} {s:kM} {n:Nat} {a:Act} {w:World} (h:il c μ fp s n a w):il c μ fp s n a { w with drawn:=w.drawn+1 }:=
 ⟨h.tm,h.n,h.defers,h.vs.frame (abE _) (λ_ _ _ _=>rfl) (by grind),h.known,⟨h.ev.size,h.ev.os,h.ev.output,h.ev.S,h.ev.wH,h.ev.frozen⟩,h.fix⟩
theorem Ef {c:Ctx} {n:Nat} {C:Cx} (hC:iF C c.P) (hF:iZ C c.P) {id:Nat} {ops:Array Oper} {draw:Bool} (hm:c.P.follows .mixedOrders=true) {s s':du} {a:Act} {w:World} {Q:Exit→Act→World→Prop}
  (h:gW c n s a w) (hr:(region C id ops.toList draw s).eval=some s') (hQ:∀ a' w',gW c n s' a' w'→Q .normal a' w'):(Code.region id ops draw).wp c.P Q a w:=by
 unfold region at hr;obtain ⟨⟨s1,lg⟩,h1,hr⟩:=cI hr;obtain ⟨⟨c1,μ,fp,he,hx⟩,hk,hl⟩:=h;obtain ⟨L,q1,q2,q3,q4,q5,q6⟩:=wM _ _ _ _ _ h1 hk hx.known;rw [hl] at q1;split at hr
 . cases hr
 rename_i hc;obtain rfl:s1=s':=aa6 hr;have Ht:∀ (j:Nat) (d:oJ),L[j]? =some d→d.i=j∧ops[j]? =some d.o:=by
  intro j d hd;have:(L.map λd=>(d.i,d.o))[j]? =some (d.i,d.o):=by grind
  grind
 have hlen:L.length=ops.size:=by have:=congrArg List.length q5;simpa using this
 have CJ:∀ d∈L,ops[d.i]? =some d.o∧sb ops.toList d.o d.gd∧d.g=id*256+1+d.i:=by grind [List.mem_iff_getElem?]
 have uQ:∀ c' μ fp a w,Ext c c'→il c' μ fp s1.f n a w→Q .normal a w:=λc' μ fp a w e h=>hQ a w ⟨⟨c',μ,fp,e,h⟩,q2,q3.trans hl⟩;cases draw with
 |false=>
  refine wp_region ?_;have ajn:L.map (·.i)=List.range ops.size:=by
   apply acB;grind
  rw [← ajn];exact BU hC hF rfl uQ L _ μ fp a w c1 he q1 (by grind) hx
 |true=>
  simp only [true_and,not_or] at hc;obtain ⟨hc1,hc2⟩:=hc;have hc1:=zP hc1;have hc2:=zP hc2;refine wp_region_any hm ?_;refine BX (base:=id*256+1) hC hF rfl hc2 uQ ops.size _ L _ μ fp a _ c1 he (by omega) ⟨by simp, ?_, ?_, ?_, ?_,CJ,q1⟩ hx.drew
  . intro i hi
    constructor
    . intro _
      obtain ⟨d,hd⟩:∃ d,L[i]? =some d:=by simp_all
      grind
    simp_all
  . rw [List.pairwise_iff_getElem]
    intro i j hi hj Dr;rw [(Ht i _ (aa2 hi)).1,(Ht j _ (aa2 hj)).1];exact Dr
  . simp_all
  . have:=pH _ _ hc1
    rw [q4,acG,List.pairwise_reverse,List.pairwise_map] at this;exact this
end
section
open Go
variable {z:Fz}
theorem Gq {l:List Nat} (h:nodupB l=true):l.Nodup:=by
 induction l with
 |nil=>grind
 |cons a l ih=>
  simp_all [nodupB,List.contains_eq_mem]
section
variable {c:Ctx} {μ:Nat→Loc} {m:List (Nat×Nat)}
def BY (m:List (Nat×Nat)) (μ:Nat→Loc) (id:Nat):Loc:=
 match eC m id with
 |some k=>μ k
 |none=>μ id
theorem n5 {id k:Nat} (h:eC m id=some k):BY m μ id=μ k:=by simp [BY,h]
structure uz (c:Ctx) (μ:Nat→Loc) (m:List (Nat×Nat)) (l:List Slot) (q:List ah) (ds:List ah):Prop where
 rel:∀ vs,ai c μ vs q→ai c (BY m μ) vs ds
 ids:∀ id∈ah.bC ds,∃ k,eC m id=some k
 cell:l.all Slot.isC=true→ds.all ah.bs=true
 len:ds.length=l.length
 mY:l.length=q.length
theorem uz.cons {x:Slot} {d d':ah} {l:List Slot} {q ds:List ah} (h:uz c μ m l q ds) (hr:∀ v,an c μ v d→an c (BY m μ) v d') (hi:∀ id∈d'.ids,∃ k,eC m id=some k) (hc:x.isC=true→d'.bs=true):
  uz c μ m (x::l) (d::q) (d'::ds) where
 rel vs hv:=by
  simp only [ai] at hv ⊢;obtain ⟨v,aZ,e,h1,h2⟩:=hv;exact ⟨v,aZ,e,hr v h1,h.rel aZ h2⟩
 ids id hid:=by
  simp only [ah.bC,abp] at hid;rcases hid with hid|hid
  . grind
  . exact h.ids id hid
 cell UZ:=by
  simp only [ack,aa4] at UZ ⊢;exact ⟨hc UZ.1,h.cell UZ.2⟩
 len:=by simp [h.len]
 mY:=by simp [h.mY]
structure abV (c:Ctx) (μ:Nat→Loc) (m:List (Nat×Nat)) (x:Slot) (d d':ah):Prop where
 rel:∀ v,an c μ v d→an c (BY m μ) v d'
 ids:∀ id∈d'.ids,∃ k,eC m id=some k
 cell:x.isC=true→d'.bs=true
theorem Gr:∀ (ids:List Nat) (nS:List ah),zC m ids nS=true→
  (∀ vs,ai c μ vs nS→ai c (BY m μ) vs (ids.map λid=> .vptr id 0))∧∀ i∈ah.bC (ids.map λid=> .vptr id 0),∃ k,eC m i=some k
 |[],[],_=>⟨λvs h=>h,by simp [ah.bC]⟩
 |[],_::_,h=>by simp [zC] at h
 |a::r,[],h=>by simp [zC] at h
 |a::r,d::q,h=>by
  cases d<;>try (cases h;done)
  rename_i b o;cases o with
  |succ o=>cases h
  |zero=>
   simp only [zC,aa4,abS] at h;obtain ⟨h1,h2⟩:=Gr r q h.2;refine ⟨λvs hv=> ?_,λi hi=> ?_⟩
   . grind [ai,an,n5]
   . simp only [acd,ah.bC,ah.ids,abp,acq] at hi
     grind
theorem Qd {T:Type} (x:Slot) (d:ah) (f:T→JX x T) (h:Vz m T x d=some f) (y:T):(BE T x (f y)).2=y∧abV c μ m x d (BE T x (f y)).1:=by
 cases x with
 |keep=>
  obtain rfl:=aa6 (show some (λy=>y)=some f from h);exact ⟨rfl,λv _=>trivial,λid hi=>(by cases hi),λh=>(by cases h)⟩
 |dead=>
  obtain rfl:=aa6 (show some (λy=>y)=some f from h);exact ⟨rfl,λv _=>trivial,λid hi=>(by cases hi),λh=>(by cases h)⟩
 |jj=>
  replace h:(if d.bs=true then some λy=>y else none)=some f:=h;split at h
  . rename_i hc
    obtain rfl:=aa6 h;exact ⟨rfl,λv hv=>hv.iA hc,λid hi=>(by cases hi),λ_=>rfl⟩
  . cases h
 |kp k=>
  cases d<;>try (cases h;done)
  rename_i k';replace h:(if k=k' then some λy=>y else none)=some f:=h;split at h
  . rename_i e;subst e
    obtain rfl:=aa6 h;exact ⟨rfl,λv hv=>hv,λid hi=>(by cases hi),λ_=>rfl⟩
  . cases h
 |b=>
  cases d<;>try (cases h;done)
  obtain rfl:=aa6 h;exact ⟨rfl,λv hv=>hv,λid hi=>(by cases hi),λ_=>rfl⟩
 |i k=>
  cases d<;>try (cases h;done)
  rename_i k' x';replace h:(if k=k' then some λy=>(x',y) else none)=some f:=h;split at h
  . rename_i e;subst e
    obtain rfl:=aa6 h;exact ⟨rfl,λv hv=>hv,λid hi=>(by cases hi),λ_=>rfl⟩
  . cases h
 |s=>
  cases d<;>try (cases h;done)
  obtain rfl:=aa6 h;exact ⟨rfl,λv hv=>hv,λid hi=>(by cases hi),λ_=>rfl⟩
 |ro e tk=>
  cases d<;>try (cases h;done)
  rename_i e' xs tk';replace h:(if tk=none∨tk=tk' then (Ty.cast (.sl e') (.sl e) xs).map λx y=>(x,y) else none)=some f:=h;split at h
  . rename_i AG
    obtain ⟨x,hx,rfl⟩:=Option.map_eq_some_iff.1 h;obtain ⟨he,QK⟩:=iX hx;clear hx h;subst he;subst QK;refine ⟨rfl,λv hv=> ?_,λid hi=>(by cases hi),λ_=>rfl⟩;show an c (BY m μ) v (.ro e' _ tk);grind [an]
  . cases h
 |bg id=>
  cases d<;>try (cases h;done)
  rename_i dC vw;cases vw with
  |some _=>cases h
  |none=>
   replace h:(if eC m id=some dC then some λy=>y else none)=some f:=h;split at h
   . rename_i hm
     obtain rfl:=aa6 h;refine ⟨rfl,λv hv=> ?_,λi hi=> ?_,λ_=>rfl⟩
     . show an c (BY m μ) v (.cB id none)
       grind [an,n5]
     . have hi:i∈[id]:=hi
       grind
   . cases h
 |srv id=>
  cases d<;>try (cases h;done)
  rename_i dC vw;cases vw with
  |none=>cases h
  |some v=>
   replace h:(if eC m id=some dC then some λy=>(v,y) else none)=some f:=h;split at h
   . rename_i hm
     obtain rfl:=aa6 h;obtain ⟨vo,vl⟩:=v;refine ⟨rfl,λv hv=> ?_,λi hi=> ?_,λ_=>rfl⟩
     . show an c (BY m μ) v (.cB id (some (vo,vl)))
       grind [an,n5]
     . have hi:i∈[id]:=hi
       grind
   . cases h
 |vptr id off=>
  cases d<;>try (cases h;done)
  rename_i dC tS;replace h:(if eC m id=some dC∧off=tS then some λy=>y else none)=some f:=h;split at h
  . rename_i hm
    obtain ⟨hm,rfl⟩:=hm;obtain rfl:=aa6 h;refine ⟨rfl,λv hv=> ?_,λi hi=> ?_,λ_=>rfl⟩
    . show an c (BY m μ) v (.vptr id off)
      grind [an,n5]
    . have hi:i∈[id]:=hi
      grind
  . cases h
 |jv id off=>
  cases d<;>try (cases h;done)
  rename_i dC x' tS;replace h:(if eC m id=some dC∧off=tS then some λy=>(x',y) else none)=some f:=h;split at h
  . rename_i hm
    obtain ⟨hm,rfl⟩:=hm;obtain rfl:=aa6 h;refine ⟨rfl,λv hv=> ?_,λi hi=> ?_,λ_=>rfl⟩
    . show an c (BY m μ) v (.jv id x' off)
      grind [an,n5]
    . have hi:i∈[id]:=hi
      grind
  . cases h
 |fn f0 ids=>
  cases d<;>try (cases h;done)
  rename_i f' nS;replace h:(if f0=f'∧zC m ids nS=true then some λy=>y else none)=some f:=h;split at h
  . rename_i hc
    obtain ⟨rfl,hc⟩:=hc;obtain rfl:=aa6 h;obtain ⟨k1,k2⟩:=Gr (c:=c) (μ:=μ) ids nS hc;refine ⟨rfl,λv hv=> ?_,λi hi=>k2 i hi,λ_=>rfl⟩;show an c (BY m μ) v (.fn f0 _);grind [an]
  . cases h
 |AA t off=>
  cases d<;>try (cases h;done)
  rename_i t' x' tS;replace h:(if off=tS then (Ty.cast t' t x').map λx y=>(x,y) else none)=some f:=h;split at h
  . rename_i ho;subst ho
    obtain ⟨x,hx,rfl⟩:=Option.map_eq_some_iff.1 h;obtain ⟨he,QK⟩:=Ty.dm hx;clear hx h;subst he;subst QK;exact ⟨rfl,λv hv=>hv,λid hi=>(by cases hi),λ_=>rfl⟩
  . cases h
theorem vY:∀ (l:List Slot) (q:List ah) (y:kB l),r7 m l q=some y→uz c μ m l q (fH l y)
 |[],[],y,_=>⟨λvs h=>h,by simp [fH,ah.bC],by simp [fH],rfl,rfl⟩
 |[],_::_,y,h=>by simp [r7] at h
 |x::r,[],y,h=>by simp [r7] at h
 |x::r,d::q,y,h=>by
  simp only [r7] at h;obtain ⟨f,hf,h⟩:=Option.bind_eq_some_iff.1 h;obtain ⟨z,hz,rfl⟩:=Option.map_eq_some_iff.1 h;obtain ⟨e,ok⟩:=Qd (c:=c) (μ:=μ) x d f hf z;have ih:=vY r q z hz;show uz c μ m (x::r) (d::q) ((BE (kB r) x (f z)).1::fH r (BE (kB r) x (f z)).2);rw [e];exact ih.cons ok.rel ok.ids ok.cell
end
def A1 (m:List (Nat×Nat)) (v:List (Nat×bK)) (id:Nat):List Nat:=
 match eC m id with
 |some k=>k::((bf v k).map bz).getD []
 |none=>[]
theorem vZ (m:List (Nat×Nat)) (v:List (Nat×bK)):∀ V:List (Nat×eA),mE m v V=V.flatMap λx=>A1 m v x.1
 |[]=>rfl
 |(id,x)::r=>by
  simp only [mE,aeC,A1,vZ m v r];split<;>simp_all
theorem Gs {m:List (Nat×Nat)} {v:List (Nat×bK)}:∀ {V:List (Nat×eA)},(V.flatMap λx=>A1 m v x.1).Nodup→∀ {id dC:Nat},id∈V.map (·.1)→dC∈V.map (·.1)→id≠dC→∀ x∈A1 m v id,x ∉ A1 m v dC
 |[],_,id,_,h,_,_=>by simp at h
 |(i,y)::r,hn,id,dC,h,h',dV=>by
  rw [aeC,aca] at hn;obtain ⟨_,h2,h3⟩:=hn;have jN:∀ {j:Nat},j∈r.map (·.1)→∀ x∈A1 m v j,x∈r.flatMap λx=>A1 m v x.1:=by grind
  simp only [acd,abF] at h h';intro x hx qZ;rcases h with rfl|h
  . grind
  . rcases h' with rfl|h'
    . grind
    . exact Gs h2 h h' dV x hx qZ
theorem BZ {v:List (Nat×bK)} {id:Nat} {x:bK} (h:bf v id=some x):(id,x)∈v:=by
 induction v with
 |nil=>simp [bf] at h
 |cons a v ih=>
  grind [bf]
section
variable {c:Ctx} {μ:Nat→Loc} {fp:Nat→List Nat} {m:List (Nat×Nat)} {v:List (Nat×bK)} {w:World}
structure VOk (c:Ctx) (μ:Nat→Loc) (fp:Nat→List Nat) (m:List (Nat×Nat)) (v:List (Nat×bK)) (w:World) (id:Nat) (f:List Nat) (x:bK):Prop where
 rel:cz c (BY m μ) w id f x
 perm:f.Perm ((A1 m v id).flatMap fp)
 nodup:(A1 m v id).Nodup
 there:∀ k∈A1 m v id,bf v k≠none
 ids:∀ i∈x.ids,∃ k,eC m i=some k
theorem Lu (hv:cJ c μ fp (bf v) w) {k:Nat} {x0:bK} (hk:bf v k=some x0) {e:Ty} {z:List e.D} (hz:HQ v e x0=some z):
  ∃ a cap f,μ k= .qQ a z.length cap e.size∧(Ty.sl e).ar c.fz w [.slice a z.length cap] z f∧f.Perm ((k::bz x0).flatMap fp)∧(k::bz x0).Nodup∧
    (∀ i∈k::bz x0,bf v i≠none∧bf v i≠none)∧(∀ b∈f,b<c.w0.heap.size→∀ j,c.M b j):=by
 unfold HQ at hz;obtain ⟨⟨e',xs⟩,hu,hz⟩:=Option.bind_eq_some_iff.1 hz;have hr:=gL hv (λ_ _ h=>h) hk hu;grind [iX]
theorem n6 (hv:cJ c μ fp (bf v) w):∀ (V:List (Nat×eA)) (y:nV V),mh m v V=some y→
  ∃ F:Nat→List Nat,∀ id x,bf (dH V y) id=some x→id∈V.map (·.1)∧VOk c μ fp m v w id (F id) x
 |[],_,_=>by simp_all [dH,bf]
 |(id0, .var cs)::r,y,h=>by
  simp only [mh] at h;split at h
  . rename_i ds hds
    obtain ⟨k,hk,hkv⟩:=Option.bind_eq_some_iff.1 hds;split at h
    . rename_i hc
      obtain ⟨z,hz,h⟩:=Option.bind_eq_some_iff.1 h;obtain ⟨y',nO,rfl⟩:=Option.map_eq_some_iff.1 h;obtain ⟨F,hF⟩:=n6 hv r y' nO;have ok:=vY (c:=c) (μ:=μ) cs ds z hz;obtain ⟨B,o,C,E,e1,e2,e3,e4,e5,e6,e7⟩:=hv.rel k _ hkv;have hle:(fH cs z).length=ds.length:=ok.len.trans ok.mY;refine ⟨λid=>if id=id0 then fp k else F id,λid x hx=> ?_⟩;simp only [dH,bf] at hx;by_cases e:id0=id
      . subst e
        rw [aa5 rfl] at hx;cases hx;refine ⟨by simp, ?_, ?_, ?_, ?_, ?_⟩
        . simp only [ae4]
          exact ⟨B,o,C,E,(n5 hk).trans e1,e2,e3,by grind,by rw [hle];exact ok.rel _ e5,ok.cell hc,by grind⟩
        . grind [A1,bz]
        . grind [A1,bz]
        . grind [A1,bz]
        . exact ok.ids
      grind
    . cases h
  . cases h
 |(id0, .arr e)::r,y,h=>by
  simp only [mh] at h;split at h
  . rename_i x0 xM
    obtain ⟨k,hk,hkv⟩:=Option.bind_eq_some_iff.1 xM;obtain ⟨z,hz,h⟩:=Option.bind_eq_some_iff.1 h;obtain ⟨y',nO,rfl⟩:=Option.map_eq_some_iff.1 h;obtain ⟨F,hF⟩:=n6 hv r y' nO;obtain ⟨ad,cap,f,g1,g2,g3,g4,g5,g6⟩:=Lu hv hkv hz;have ams:A1 m v id0=k::bz x0:=by grind [A1]
    refine ⟨λid=>if id=id0 then f else F id,λid x hx=> ?_⟩;simp only [dH,bf] at hx;by_cases e:id0=id
    . subst e
      rw [aa5 rfl] at hx;cases hx;refine ⟨by simp, ?_, ?_, ?_, ?_, ?_⟩
      . simp only [ae4]
        exact ⟨ad,cap,(n5 hk).trans g1,g2,g6⟩
      . grind
      . grind
      . grind
      . simp [bK.ids]
    grind
  . cases h
 |(id0, .it)::r,y,h=>by
  simp only [mh] at h;split at h
  . rename_i t p ht
    obtain ⟨k,hk,hkv⟩:=Option.bind_eq_some_iff.1 ht;obtain ⟨y',nO,rfl⟩:=Option.map_eq_some_iff.1 h;obtain ⟨F,hF⟩:=n6 hv r y' nO;obtain ⟨B,e1,e2,e3,e4,e5⟩:=hv.rel k _ hkv;refine ⟨λid=>if id=id0 then fp k else F id,λid x hx=> ?_⟩;simp only [dH,bf] at hx;by_cases e:id0=id
    . subst e
      rw [aa5 rfl] at hx;cases hx;refine ⟨by simp, ?_, ?_, ?_, ?_, ?_⟩
      . simp only [ae4]
        exact ⟨B,(n5 hk).trans e1,e2,e3,e4,e5⟩
      . grind [A1,bz]
      . grind [A1,bz]
      . grind [A1,bz]
      . simp [bK.ids]
    grind
  . cases h
theorem Lv {m:List (Nat×Nat)} {a b:Nat} (h:eC m a=some b):∃ x∈m,x.1=a:=by
 induction m with
 |nil=>simp [eC] at h
 |cons x m ih=>
  grind [eC]
theorem Ig {m:List (Nat×Nat)} {a b:Nat} (h:eC m a=some b):∃ x∈m,x.1=a∧x.2=b:=by
 induction m with
 |nil=>simp [eC] at h
 |cons x m ih=>
  grind [eC,Option.some.inj]
theorem lN:∀ (l:List Slot) (ts es:List ah),es.length=l.length→ts.length=l.length→∀ j,(jc l ts es).getD j .dead=bif eo l j then ts.getD j .dead else es.getD j .dead
 |[],ts,es,h,_,j=>by simp [jc,eo]
 |x::l,[],es,_,h',j=>by simp at h'
 |x::l,t::ts,[],h,_,j=>by simp at h
 |x::l,t::ts,e::es,h,h',j=>by
  have ih:=lN l ts es (by simpa using h) (by simpa using h');cases j with
  |zero=>simp [jc,eo]
  |succ j=>simpa [jc,eo] using ih j
theorem sc:∀ (l:List Slot) (ts es:List ah),es.length=l.length→ts.length=l.length→(jc l ts es).length=l.length
 |[],ts,es,h,_=>by grind [jc]
 |x::l,[],es,_,h'=>by simp at h'
 |x::l,t::ts,[],h,_=>by simp at h
 |x::l,t::ts,e::es,h,h'=>by
  have ih:=sc l ts es (by simpa using h) (by simpa using h');simpa [jc] using ih
theorem wO:∀ (l:List Slot) (ts:List ah) (j:Nat),eo l j=true→∀ id∈(ts.getD j .dead).ids,id∈tW l ts
 |[],_,_,h,_,_=>by simp [eo] at h
 |x::l,[],j,h,id,hi=>by grind [ah.ids]
 |x::l,t::ts,0,h,id,hi=>by simp_all [eo,tW]
 |x::l,t::ts,j+1,h,id,hi=>by
  have ih:=wO l ts j (by simpa [eo] using h) id (by simpa using hi);simp only [tW,abp];exact .inr ih
theorem Kb {S:Shape} {W:List (Nat×bK)} {s:du} {x:S.D} (hd:S.dec W s=some x) {id:Nat} {z:bK} (h:bf s.w id=some z):bf s.v id=none:=by grind [Shape.dec,List.all_eq_true,BZ,vV]
theorem B1 {n:Nat} {S:Shape} {s:du} {W:List (Nat×bK)} {K:List Nat} {ts:List ah} {x:S.D} {a:Act} (h:gW c n s a w) (hd:S.dec W s=some x)
  (hW:∀ id z,bf W id=some z→s.env id=some z∧(id ∉ mE (S.map s) s.v S.v∨bf s.v id=none)) (hK:∀ id z,bf W id=some z→id / 64∈K∧∀ dC∈z.ids,dC / 64∈0::K) (QJ:ts.length=n)
  (NL:∀ j,eo S.t j=true→s.t.getD j .dead=ts.getD j .dead∧∀ id∈(ts.getD j .dead).ids,id / 64∈0::K):gW c n (S.enc ts W K x) a w:=by
 obtain ⟨⟨cx,μ,fp,he,hx⟩,hk,hl⟩:=h;unfold Shape.dec at hd;simp only at hd;generalize S.map s=m at hd hW;split at hd
 case isFalse=>cases hd
 rename_i BL;obtain ⟨c1,c2,c3,c4,c5,c6,c7⟩:=BL;obtain ⟨y,hy,hd⟩:=Option.bind_eq_some_iff.1 hd;obtain ⟨z,hz,rfl⟩:=Option.map_eq_some_iff.1 hd;have okT:=vY (c:=cx) (μ:=μ) S.t s.t y hy;have VJ:cJ cx μ fp s.env w:=hx.vs;have hvv:∀ id x,bf s.v id=some x→s.env id=some x:=λid x h=>kr h;have uj:cJ cx μ fp (bf s.v) w:=VJ.part hvv;obtain ⟨F,hF⟩:=n6 uj S.v z hz;have oS:=Gq c1;have AG:∀ {id k},id∈S.v.map (·.1)→k∈A1 m s.v id→k∈mE m s.v S.v:=by
  intro id k hid hk;rw [vZ];obtain ⟨q,hq,rfl⟩:=List.mem_map.1 hid;exact List.mem_flatMap.2 ⟨q,hq,hk⟩
 rw [vZ] at oS;have afU:∀ {id:Nat},id∈S.v.map (·.1)→id / 64∈0::(S.v.map (·.1 / 64)++K):=by
  intro id hi;obtain ⟨q,hq,e⟩:=List.mem_map.1 hi;exact abF.2 (.inr (abp.2 (.inl (List.mem_map.2 ⟨q,hq,by rw [e]⟩))))
 have hgK:∀ {g:Nat},g∈0::K→g∈0::(S.v.map (·.1 / 64)++K):=by
  intro g hg;rcases abF.1 hg with e|e
  . exact abF.2 (.inl e)
  . exact abF.2 (.inr (abp.2 (.inr e)))
 have FX:∀ {id k:Nat},eC m id=some k→id∈S.v.map (·.1):=by
  intro id k hm;obtain ⟨p,hp,rfl⟩:=Lv hm;have:=abD.1 c3 p hp;simp only [aa4] at this;simpa using this.1
 have afV:∀ {id k:Nat},eC m id=some k→id / 64∈0::(S.v.map (·.1 / 64)++K):=λhm=>afU (FX hm);have Ih:∀ {id:Nat},id ∉ S.v.map (·.1)→BY m μ id=μ id:=by
  intro id hi;cases hm:eC m id with
  |none=>simp [BY,hm]
  |some k=>exact absurd (FX hm) hi
 have hWS:∀ x∈W,x.1 ∉ S.v.map (·.1)∧∀ id∈x.2.ids,id ∉ S.v.map (·.1):=by
  intro x hxW;refine ⟨λhi=> ?_,λid hid hi=> ?_⟩
  . obtain ⟨q,hq,e⟩:=List.mem_map.1 hi
    have:=abD.1 c4 q hq;simp only [acJ,List.contains_eq_mem,afv] at this;exact this (e ▸ List.mem_map.2 ⟨x,hxW,rfl⟩)
  . have h1:=abD.1 c5 x hxW
    have h2:=abD.1 h1 id hid;simp only [acJ,List.contains_eq_mem,afv] at h2;exact h2 hi
 have hkS:∀ j,eo S.t j=true→∀ id∈(s.t.getD j .dead).ids,id ∉ S.v.map (·.1):=by
  intro j hj id hid hi;have h2:=abD.1 c6 id (wO S.t s.t j hj id hid);simp only [acJ,List.contains_eq_mem,afv] at h2;exact h2 hi
 have ajo:∀ id,id<64→BY m μ id=μ id:=by
  intro id hi;cases hm:eC m id with
  |none=>simp [BY,hm]
  |some k=>
   rw [n5 hm];obtain ⟨p,hp,e1,e2⟩:=Ig hm;have:=abD.1 c3 p hp;simp only [aa4,acQ,abS,acy] at this;rcases this.2 with h|h
   . omega
   . rw [← e2, ← h,e1]
 have fq:∀ id x,bf (dH S.v z) id=some x→∀ b∈F id,∃ k∈A1 m s.v id,bf s.v k≠none∧b∈fp k:=by
  intro id x hx b hb;obtain ⟨_,ok⟩:=hF id x hx;obtain ⟨k,hk,oz⟩:=List.mem_flatMap.1 (ok.perm.mem_iff.1 hb);exact ⟨k,hk,ok.there k hk,oz⟩
 have hlen:(fH S.t y).length=S.t.length:=okT.len;have Bl:ts.length=S.t.length:=by rw [QJ, ← hl, ← okT.mY]
 have kx:∀ {id x},bf (dH S.v z++W) id=some x→bf (dH S.v z) id=some x∨(bf (dH S.v z) id=none∧bf W id=some x):=by
  intro id x hx;rw [fv] at hx;cases e:bf (dH S.v z) id with
  |none=>rw [e] at hx;exact .inr ⟨rfl,hx⟩
  |some q=>rw [e] at hx;exact .inl hx
 let G:Nat→List Nat:=λid=>if bf (dH S.v z) id=none then fp id else F id
 have hG1:∀ {id x},bf (dH S.v z) id=some x→G id=F id:=λ{id x} h=>aa3 (by rw [h];simp);have hG2:∀ {id},bf (dH S.v z) id=none→G id=fp id:=λh=>aa5 h;have F8:∀ id,bf (dH S.v z++W) id≠none→∀ b∈G id,∃ k,s.env k≠none∧b∈fp k∧((∃ x,bf (dH S.v z) id=some x∧k∈A1 m s.v id)∨(bf (dH S.v z) id=none∧k=id∧∃ x,bf W id=some x)):=by
  intro id hn b hb;obtain ⟨x,hx⟩:=Option.ne_none_iff_exists'.1 hn;rcases kx hx with h1|⟨h1,h2⟩
  . rw [hG1 h1] at hb
    obtain ⟨k,q1,q2,q3⟩:=fq id x h1 b hb;obtain ⟨u,hu⟩:=Option.ne_none_iff_exists'.1 q2;exact ⟨k,by rw [hvv k u hu];simp,q3, .inl ⟨x,h1,q1⟩⟩
  . rw [hG2 h1] at hb
    exact ⟨id,by rw [(hW id x h2).1];simp,hb, .inr ⟨h1,rfl,x,h2⟩⟩
 refine ⟨⟨cx,BY m μ,G,he, ?_, ?_,hx.defers, ?_, ?_,hx.ev,λid hi=>⟨?_,(ajo id hi).trans (hx.fix id hi).2⟩⟩,λd b hf=> ?_, ?_⟩
 . intro j
   have rb:ai cx μ ((List.range s.t.length).map λj=>a.tmps.getD j Go.undef) s.t:=by
    refine ai.zE (by simp) λj d u hd hu=> ?_;have hj:=(List.getElem?_eq_some_iff.1 hd).1;rw [afj,List.getElem?_range hj,adu] at hu;cases hu;have:=hx.tm j;simp only [du.f,ach,hd,Option.getD_some] at this;exact this
   have h2:=okT.rel _ rb;show an cx (BY m μ) _ ((jc S.t ts (fH S.t y)).getD j .dead);rw [lN S.t ts _ hlen Bl];by_cases hkp:eo S.t j=true
   . rw [hkp,acE]
     have h3:=hx.tm j;rw [← (NL j hkp).1];refine an.mono _ (λid hi=>Ih (hkS j hkp id hi)) h3
   . rw [Bool.eq_false_iff.2 hkp,acC]
     rcases acH j (fH S.t y).length with hj|hj
     . obtain ⟨u,hu,hv⟩:=h2.get (aa2 hj)
       have hjs:j<s.t.length:=by rw [← okT.mY, ← okT.len];exact hj
       rw [afj,List.getElem?_range hjs,adu] at hu;cases hu;rw [ach,aa2 hj];exact hv
     . rw [ach,acI hj]
       simp [an]
 . exact hx.n
 . show cJ cx (BY m μ) G (bf (dH S.v z++W)) w
   refine ⟨λid x hxx=> ?_,λid x hxx=> ?_, ?_, ?_, ?_⟩
   . rcases kx hxx with h1|⟨h1,h2⟩
     . rw [hG1 h1];exact (hF id x h1).2.rel
     . rw [hG2 h1]
       have hm:=BZ h2;exact (VJ.rel id x (hW id x h2).1).frame (λ_ _=>rfl) (Ih (hWS _ hm).1) λdC hi=>Ih ((hWS _ hm).2 dC hi)
   . rcases kx hxx with h1|⟨h1,h2⟩
     . rw [hG1 h1]
       have ok:=(hF id x h1).2;exact ok.perm.nodup_iff.2 (uj.jm _ ok.nodup ok.there)
     . rw [hG2 h1];exact VJ.nodup id x (hW id x h2).1
   . intro id dC dV hn nv b hb b8
     obtain ⟨k1,q2,q3,q4⟩:=F8 id hn b hb;obtain ⟨k2,r2,r3,r4⟩:=F8 dC nv b b8;have:k1≠k2:=by
      intro e;subst e;rcases q4 with ⟨x1,h1,q1⟩|⟨h1,rfl,x1,h1'⟩
      . rcases r4 with ⟨x2,h2,r1⟩|⟨h2,rfl,x2,h2'⟩
        . exact Gs oS (hF id x1 h1).1 (hF dC x2 h2).1 dV k1 q1 r1
        . rcases (hW _ x2 h2').2 with e|e
          . exact e (AG (hF id x1 h1).1 q1)
          . exact (hF id x1 h1).2.there _ q1 e
      . rcases r4 with ⟨x2,h2,r1⟩|⟨h2,e,x2,h2'⟩
        . rcases (hW _ x1 h1').2 with e|e
          . grind
          . exact (hF dC x2 h2).2.there _ r1 e
        . exact dV e
     exact VJ.sep k1 k2 this q2 r2 b q3 r3
   . intro id hn b hb
     obtain ⟨k1,q2,q3,_⟩:=F8 id hn b hb;exact VJ.iQ k1 q2 b q3
   . intro id hn b hb
     obtain ⟨k1,q2,q3,_⟩:=F8 id hn b hb;exact VJ.lt k1 q2 b q3
 . refine ⟨λj id hi=> ?_,λid x hxx=> ?_⟩
   . have hi:id∈((jc S.t ts (fH S.t y)).getD j .dead).ids:=hi
     rw [lN S.t ts _ hlen Bl] at hi;show id / 64∈0::(S.v.map (·.1 / 64)++K);by_cases hkp:eo S.t j=true
     . grind
     . rw [Bool.eq_false_iff.2 hkp,acC,ach] at hi
       cases hj:(fH S.t y)[j]? with
       |none=>grind [ah.ids]
       |some d=>
        rw [hj] at hi;obtain ⟨k,hk⟩:=okT.ids id (by grind [gb,List.mem_of_getElem?]);exact afV hk
   . show id / 64∈0::(S.v.map (·.1 / 64)++K)∧∀ dC∈x.ids,dC / 64∈0::(S.v.map (·.1 / 64)++K)
     rcases kx hxx with h1|⟨_,h2⟩
     . obtain ⟨h1,ok⟩:=hF id x h1
       exact ⟨afU h1,λi hi=>by obtain ⟨k,hk⟩:=ok.ids i hi;exact afV hk⟩
     grind
 . show id / 64∈0::(S.v.map (·.1 / 64)++K)
   grind
 . grind [Shape.enc,gU]
 . show (jc S.t ts (fH S.t y)).length=n
   grind [sc]
end
end
section
open Go
theorem exists_least {p:Nat→Prop} (h:∃ n,p n):∃ n,p n∧∀ k,p k→n≤k:=by
 obtain ⟨n,hn⟩:=h
 induction n using Nat.strongRecOn with
 |_ n ih=>
  grind
open Classical in
noncomputable def least (p:Nat→Prop):Nat:=if h:∃ n,p n then Classical.choose (exists_least h) else 0
theorem Ab {p:Nat→Prop} (h:∃ n,p n):p (least p)∧∀ k,p k→least p≤k:=by
 unfold least;grind
theorem Qe {P:Program} {Q:Exit→Act→World→Prop} {a:Act} {w:World} {b:Code} (J:Nat→Act→World→Prop) (h0:∃ k,J k a w)
  (round:∀ k a w,J k a w→b.wp P (Exit.then (λa' w'=>∃ k',k'<k∧J k' a' w') Q) a w):(Code.loop b).wp P Q a w:=by
 refine wp_loop (λa w=>∃ k,J k a w) (λa w=>least λk=>J k a w) h0 λa w hI=> ?_;obtain ⟨h1,_⟩:=Ab hI;refine wp_mono (round _ a w h1) λe a' w' he=> ?_;cases e with
 |normal=>
  obtain ⟨k',bS,kH⟩:=he;exact ⟨⟨k',kH⟩,adP ((Ab ⟨k',kH⟩).2 k' kH) bS⟩
 |_=>exact he
def Qf:Ex→Exit
 | .normal=> .normal
 | .ret=> .ret
 | .exit id=> .exit id
section
variable {c:Ctx} {n:Nat} {C:Cx}
def Kc {α β γ:Type} (c:Ctx) (n id:Nat) (eα:α→du) (eβ:β→du) (eγ:γ→du) (R:Round α β γ) (e:Exit) (a:Act) (w:World):Prop:=
 match R with
 | .again x=>e= .normal∧gW c n (eα x) a w
 | .out y=>e= .exit id∧gW c n (eβ y) a w
 | .ret z=>e= .ret∧gW c n (eγ z) a w
theorem Ac {α β γ:Type} {eα:α→du} {eβ:β→du} {eγ:γ→du} {f:α→Out (Round α β γ)} {b:Code} {id:Nat} {Q:Exit→Act→World→Prop}
  (Ii:∀ x R a w,(f x).eval=some R→gW c n (eα x) a w→b.wp c.P (Kc c n id eα eβ eγ R) a w)
  {k:Nat} {x:α} {r:β ⊕ γ} (h:iter f k x=some r) {a:Act} {w:World} (hx:gW c n (eα x) a w)
  (Ih:∀ y a w,r= .inl y→gW c n (eβ y) a w→Q (.exit id) a w) (abW:∀ z a w,r= .inr z→gW c n (eγ z) a w→Q .ret a w):(Code.loop b).wp c.P Q a w:=by
 refine Qe (λk a w=>∃ x,iter f k x=some r∧gW c n (eα x) a w) ⟨k,x,h,hx⟩ ?_
 rintro k a w ⟨x,h,hx⟩
 cases k with
 |zero=>cases h
 |succ k=>
  simp only [iter] at h;split at h
  . rename_i x' hf
    refine wp_mono (Ii x _ a w hf hx) λe a' w' he=> ?_;obtain ⟨rfl,he⟩:=he;exact ⟨k,Nat.lt_succ_self k,x',h,he⟩
  . rename_i y hf
    obtain rfl:=aa6 h;refine wp_mono (Ii x _ a w hf hx) λe a' w' he=> ?_;obtain ⟨rfl,he⟩:=he;exact Ih y a' w' rfl he
  . rename_i z hf
    obtain rfl:=aa6 h;refine wp_mono (Ii x _ a w hf hx) λe a' w' he=> ?_;obtain ⟨rfl,he⟩:=he;exact abW z a' w' rfl he
  . cases h
def wa (c:Ctx) (n:Nat) (b:Code) (f:du→Out (Ex×du)):Prop:=
 ∀ s r a w,(f s).eval=some r→gW c n s a w→b.wp c.P (λe a' w'=>e=Qf r.1∧gW c n r.2 a' w') a w
structure jQ (ds:List Nat) (s s':du):Prop where
 w:s'.w=s.w
 len:s'.t.length=s.t.length
 t:∀ j,j ∉ ds→s'.t.getD j .dead=s.t.getD j .dead
theorem jQ.refl (ds:List Nat) (s:du):jQ ds s s:=⟨rfl,rfl,λ_ _=>rfl⟩
theorem jQ.trans {ds:List Nat} {s s1 s2:du} (h:jQ ds s s1) (h':jQ ds s1 s2):jQ ds s s2:=⟨h'.w.trans h.w,h'.len.trans h.len,λj hj=>(h'.t j hj).trans (h.t j hj)⟩
theorem jQ.mono {ds ds':List Nat} {s s':du} (h:jQ ds s s') (hd:∀ j∈ds,j∈ds'):jQ ds' s s':=⟨h.w,h.len,λj hj=>h.t j λe=>hj (hd j e)⟩
theorem B4 {t:List ah} {d j:Nat} {v:ah} (h:d≠j):(t.set d v).getD j .dead=t.getD j .dead:=by grind
theorem Ad {t:List ah} {dst:Option Nat} {v:ah} {j:Nat} (h:j ∉ dst.toList):(FU t dst v).getD j .dead=t.getD j .dead:=by
 cases dst with
 |none=>rfl
 |some d=>exact B4 λe=>h (by simp [e])
theorem sd {C:Cx} {ops:List Oper} {g i:Nat} {o:Oper} {s:du} {r:du×Log} (h:(zz C ops g i o s).eval=some r):jQ o.dst.toList s r.1:=by
 unfold zz at h;obtain ⟨q,_,h⟩:=cI h;split at h
 . obtain rfl:=aa6 h
   exact ⟨rfl,mj _ _ _,λj hj=>Ad hj⟩
 . cases h
theorem se {ops:List Oper} {g i:Nat} {o:Oper} {s:du} {r:du×Log} (h:(zA ops g i o s).eval=some r):jQ o.dst.toList s r.1:=by
 unfold zA at h;split at h
 . obtain rfl:=aa6 h
   exact ⟨rfl,mj _ _ _,λj hj=>Ad hj⟩
 . cases h
theorem Qg {C:Cx} {ops:List Oper} {g i:Nat} {o:Oper} {s:du} {r:du×Log} (ho:o∈ops) (h:(opL C ops g i o s).eval=some r):jQ (ops.flatMap λo=>o.dst.toList) s r.1:=by
 have sub:∀ j∈o.dst.toList,j∈ops.flatMap λo=>o.dst.toList:=by grind
 unfold opL at h;split at h
 . exact (sd h).mono sub
 . split at h
   . cases h
   . rename_i d hd
     obtain ⟨o',ye,VH⟩:=Option.bind_eq_some_iff.1 hd;have jN:d∈ops.flatMap λo=>o.dst.toList:=by grind
     have seen:∀ (b:Bool) (kn:List (Nat×Bool)),jQ (ops.flatMap λo=>o.dst.toList) s { s with t:=s.t.set d (.b b),kn }:=λb kn=>⟨rfl,by simp,by grind⟩
     split at h
     . split at h
       . exact (sd h).mono sub
       . exact (se h).mono sub
     . split at h
       . rcases bX h with ⟨_,h⟩|⟨_,h⟩
         . exact (seen _ _).trans ((sd h).mono sub)
         . exact (seen _ _).trans ((se h).mono sub)
       . exact (se h).mono sub
       . cases h
theorem uA {C:Cx} {ops:List Oper} {base:Nat}:∀ (l:List (Nat×Oper)) (s:du) (lg:List Log) {r:du×List Log},(∀ x∈l,x.2∈ops)→(nU C ops base l s lg).eval=some r→jQ (ops.flatMap λo=>o.dst.toList) s r.1
 |[],s,lg,r,_,h=>by
  obtain rfl:=aa6 h;exact jQ.refl _ _
 |(i,o)::l,s,lg,r,hl,h=>by
  simp only [nU] at h;obtain ⟨q,hq,h⟩:=cI h;exact (Qg (hl (i,o) (by simp)) hq).trans (uA l _ _ (λx hx=>hl x (by simp [hx])) h)
theorem Gt {C:Cx} {id:Nat} {ops:List Oper} {draw:Bool} {s s':du} (h:(region C id ops draw s).eval=some s'):jQ (ops.flatMap λo=>o.dst.toList) s s':=by
 unfold region at h;obtain ⟨⟨q,lg⟩,hq,h⟩:=cI h;split at h
 . cases h
 . obtain rfl:=aa6 h
   exact uA _ _ _ (by grind) hq
theorem sg:∀ (l:List Slot) (y:kB l),(fH l y).length=l.length
 |[],_=>rfl
 |x::r,y=>by simp [fH,sg r]
theorem sh {h:List Slot} {n:Nat} {ds:List Nat} {l:List Slot} (hk:DY h n ds l=true):l.length=n∧∀ j,eo l j=true→eo h j=true∧j ∉ ds:=by
 unfold DY at hk;rw [aa4,aco] at hk;refine ⟨hk.1,λj hj=> ?_⟩;have key:∀ (l:List Slot) (k j:Nat),eo l j=true→∃ x,(x,k+j)∈l.zipIdx k∧x.nW=true:=by
  intro l
  induction l with
  |nil=>grind [eo]
  |cons x r ih=>
   intro k j h;cases j with
   |zero=>exact ⟨x,by simp,h⟩
   |succ j=>
    obtain ⟨y,hy,GR⟩:=ih (k+1) j h;grind
 obtain ⟨x,hx,LM⟩:=key l 0 j hj;grind
theorem Qh {S:Shape} {j:Nat} (h:j ∉ loose S) (hj:j<S.t.length):eo S.t j=true:=by
 have key:∀ (l:List Slot) (k j:Nat),j<l.length→(k+j) ∉ ((l.zipIdx k).filter λx=> !x.1.nW).map (·.2)→eo l j=true:=by
  intro l
  induction l with
  |nil=>grind
  |cons x r ih=>
   intro k j hj hn;rw [List.zipIdx_cons] at hn;cases j with
   |zero=>
    grind [eo]
   |succ j=>
    refine ih (k+1) j (by simpa using hj) λhm=>hn ?_;grind
 exact key S.t 0 j hj (by rw [acw];exact h)
theorem Gu {A:aq} {ds:List Nat} {s:du} {S:Shape} (hk:A.vQ s.t.length ds=true) (hS:S∈A.lH) (x:S.D):jQ (loose S) s (A.fin s S x):=by
 unfold aq.vQ at hk;rw [aa4] at hk;obtain ⟨hl,_⟩:=sh (abD.1 hk.1 S hS);have e1:(fH S.t x.1).length=S.t.length:=sg _ _;refine ⟨rfl, ?_,λj hj=> ?_⟩
 . show (jc S.t s.t (fH S.t x.1)).length=s.t.length
   grind [sc]
 . show (jc S.t s.t (fH S.t x.1)).getD j .dead=s.t.getD j .dead
   grind [lN,Nat.lt_or_ge,Qh,List.getElem?_eq_none,fH,eo]
theorem Ij {id:Nat} {A:aq} {ds:List Nat} {f:du→Out (Ex×du)} {s:du} {r:Ex×du} (h:(FV id A ds f s).eval=some r):jQ (loose A.out++(match A.ret with|some S=>loose S|none=>[])) s r.2:=by
 unfold FV at h;split at h
 case isFalse=>cases h
 rename_i hk;obtain ⟨x,_,h⟩:=aK h;have h1:=λy=>Gu hk (S:=A.out) (by simp [aq.lH]) y;have h2:=λS (hS:A.ret=some S) y=>Gu hk (S:=S) (by simp [aq.lH,hS]) y;obtain ⟨hd,ot,rt,fr⟩:=A;cases rt with
 |some S=>
  replace h:(Out.get (iter (λx=>(f (hd.enc s.t _ _ x)).bind (zD id ⟨hd,ot,some S,fr⟩)) bc x) λr=>Out.alt r (λy=> .ret (Ex.normal,aq.fin ⟨hd,ot,some S,fr⟩ s ot y)) λz=> .ret (Ex.ret,aq.fin ⟨hd,ot,some S,fr⟩ s S z)).eval=some r:=h;obtain ⟨q,_,h⟩:=iS h;cases q with
  |inl y=>
   obtain rfl:=aa6 h;exact (h1 y).mono (by grind)
  |inr z=>
   obtain rfl:=aa6 h;exact (h2 S rfl z).mono (by grind)
 |none=>
  replace h:(Out.get (bx (λx=>(f (hd.enc s.t _ _ x)).bind (zD id ⟨hd,ot,none,fr⟩)) bc x) λy=>Out.ret (Ex.normal,aq.fin ⟨hd,ot,none,fr⟩ s ot y)).eval=some r:=h;obtain ⟨y,_,h⟩:=iS h;obtain rfl:=aa6 h;exact (h1 y).mono λj hj=>abp.2 (.inl hj)
theorem gF {o:Out (Ex×du)} {ds:List Nat} {s:du} {id:Nat} (h:∀ r,o.eval=some r→jQ ds s r.2) {r:Ex×du} (hr:(o.map (tV id)).eval=some r):jQ ds s r.2:=by
 obtain ⟨q,hq,h2⟩:=cI hr;obtain rfl:=aa6 h2;grind [tV]
theorem cr (A:Nat→Option aq):∀ (b:Code) (s:du) (r:Ex×du),(dt C A b s).eval=some r→jQ (lI A b) s r.2
 | .skip,s,r,h=>by obtain rfl:=aa6 h;exact jQ.refl _ _
 | .ret,s,r,h=>by obtain rfl:=aa6 h;exact jQ.refl _ _
 | .exit m,s,r,h=>by obtain rfl:=aa6 h;exact jQ.refl _ _
 | .seq x y,s,r,h=>by
   simp only [dt] at h;obtain ⟨q,hq,h⟩:=cI h;have h1:=(cr A x s q hq).mono (ds':=lI A (.seq x y)) λj hj=>abp.2 (.inl hj);obtain ⟨e,s'⟩:=q;cases e with
   |normal=>exact h1.trans ((cr A y s' r h).mono λj hj=>abp.2 (.inr hj))
   |ret=>obtain rfl:=aa6 h;exact h1
   |exit m=>obtain rfl:=aa6 h;exact h1
 | .cond t x y,s,r,h=>by
   have hx:∀ j∈lI A x,j∈lI A (.cond t x y):=λj hj=>abp.2 (by grind);have hy:∀ j∈lI A y,j∈lI A (.cond t x y):=λj hj=>abp.2 (by grind);simp only [dt] at h;split at h
   . exact (cr A x s r h).mono hx
   . exact (cr A y s r h).mono hy
   . split at h
     . rename_i d p _ _
       have seen:∀ (b:Bool) (kn:List (Nat×Bool)),jQ (lI A (.cond (.tmp d) x y)) s { s with t:=s.t.set d (.b b),kn }:=λb kn=>⟨rfl,by simp,λj hj=>B4 λe=>hj (e ▸ abp.2 (.inl (by simp [afd])))⟩
       rcases bX h with ⟨_,h⟩|⟨_,h⟩
       . exact (seen _ _).trans ((cr A x _ r h).mono hx)
       . exact (seen _ _).trans ((cr A y _ r h).mono hy)
     . cases h
 | .block id (.loop b),s,r,h=>by
   simp only [dt] at h;split at h
   . rename_i A' e
     refine (Ij h).mono λj hj=> ?_;grind [lI,id]
   . cases h
 | .region id ops draw,s,r,h=>by
   simp only [dt] at h;obtain ⟨s',L6,h⟩:=cI h;obtain rfl:=aa6 h;exact Gt L6
 | .block id .skip,s,r,h=>gF (cr A .skip s) h
 | .block id .ret,s,r,h=>gF (cr A .ret s) h
 | .block id (.exit m),s,r,h=>gF (cr A (.exit m) s) h
 | .block id (.seq x y),s,r,h=>gF (cr A (.seq x y) s) h
 | .block id (.cond t x y),s,r,h=>gF (cr A (.cond t x y) s) h
 | .block id (.block j x),s,r,h=>gF (cr A (.block j x) s) h
 | .block id (.region j o d),s,r,h=>gF (cr A (.region j o d) s) h
 | .block id (.rangeFunc f p as b),s,r,h=>gF (cr A (.rangeFunc f p as b) s) h
 | .block id (.scope b),s,r,h=>gF (cr A (.scope b) s) h
 | .block id (.label l),s,r,h=>gF (cr A (.label l) s) h
 | .block id (.goto l),s,r,h=>gF (cr A (.goto l) s) h
 | .block id (.refuse l),s,r,h=>gF (cr A (.refuse l) s) h
 | .loop _,s,r,h=>by simp [dt,Out.eval] at h
 | .rangeFunc .., s,r,h=>by simp [dt,Out.eval] at h
 | .scope _,s,r,h=>by simp [dt,Out.eval] at h
 | .label _,s,r,h=>by simp [dt,Out.eval] at h
 | .goto _,s,r,h=>by simp [dt,Out.eval] at h
 | .refuse _,s,r,h=>by simp [dt,Out.eval] at h
theorem n7 {p:Nat×bK→Bool} (hp:∀ x y,x.1=y.1→p x=p y):∀ {l:List (Nat×bK)} {id:Nat} {z:bK},bf (l.filter p) id=some z→bf l id=some z∧p (id,z)=true
 |[],_,_,h=>by cases h
 |(k,x)::r,id,z,h=>by
  rw [acS] at h;split at h
  . rename_i hpx
    simp only [bf] at h ⊢;by_cases e:k=id
    . grind
    . rw [aa3 e] at h ⊢
      exact n7 hp h
  . rename_i hpx
    have ih:=n7 hp h;simp only [bf];grind
def ajr (_:aq) (s:du) (W:List (Nat×bK)) (K:List Nat):(o:Option Shape)→PG o→du
 |some S,z=>S.enc s.t W K z
 |none,z=>nomatch z
structure LoopIn (c:Ctx) (n:Nat) (A:aq) (ds:List Nat) (s:du) (W:List (Nat×bK)) (K:List Nat):Prop where
 keep:A.vQ s.t.length ds=true
 len:s.t.length=n
 W:∀ id z,bf W id=some z→id / 64∈K∧∀ dC∈z.ids,dC / 64∈0::K
 K:∀ j,eo A.head.t j=true→∀ id∈(s.t.getD j .dead).ids,id / 64∈0::K
theorem LoopIn.again {A:aq} {ds:List Nat} {s s':du} {W:List (Nat×bK)} {K:List Nat} (h:LoopIn c n A ds s W K) {x:A.head.D} (hs:jQ ds (A.head.enc s.t W K x) s') {a:Act} {w:World} (hr:gW c n s' a w)
  {S:Shape} (hS:S∈A.lH) {y:S.D} (hd:S.dec s'.w s'=some y):gW c n (S.enc s.t W K y) a w:=by
 have hw:s'.w=W:=hs.w;have hk:=h.keep;unfold aq.vQ at hk;rw [aa4] at hk;obtain ⟨l1,_⟩:=sh (abD.1 hk.1 A.head (by simp [aq.lH]));obtain ⟨_,k2⟩:=sh (abD.1 hk.1 S hS);rw [hw] at hd;refine B1 hr hd (λid z hz=> ?_) h.W h.len λj hj=> ?_
 . have hn:=Kb hd (show bf s'.w id=some z by rw [hw];exact hz)
   simp_all [du.env,fv]
 . obtain ⟨q1,q2⟩:=k2 j hj
   refine ⟨(hs.t j q2).trans ?_,h.K j q1⟩;show (jc A.head.t s.t (fH A.head.t x.1)).getD j .dead=s.t.getD j .dead;grind [lN,sg]
theorem Ik {b:Code} {f:du→Out (Ex×du)} {ds:List Nat} (hb:wa c n b f) (hf:∀ s r,(f s).eval=some r→jQ ds s r.2) (id:Nat) (A:aq) {s:du} {W:List (Nat×bK)} {K:List Nat} (hl:LoopIn c n A ds s W K) (x:A.head.D) (R:Round A.head.D A.out.D (PG A.ret)) (a:Act) (w:World)
  (h:((f (A.head.enc s.t W K x)).bind (zD id A)).eval=some R) (hx:gW c n (A.head.enc s.t W K x) a w):b.wp c.P (Kc c n id (A.head.enc s.t W K) (A.out.enc s.t W K) (ajr A s W K A.ret) R) a w:=by
 replace h:=cI h;obtain ⟨r,hr,h⟩:=h;have hs:=hf _ r hr;refine wp_mono (hb _ r a w hr hx) λe a' w' he=> ?_;obtain ⟨rfl,he⟩:=he;unfold zD at h;split at h
 . rename_i e1
   obtain ⟨x',qZ,h⟩:=aK h;obtain rfl:=aa6 h;exact ⟨by rw [e1];rfl,hl.again hs he (by simp [aq.lH]) qZ⟩
 . rename_i m e1
   split at h
   . rename_i e2;subst e2
     obtain ⟨x',qZ,h⟩:=aK h;obtain rfl:=aa6 h;exact ⟨by rw [e1];rfl,hl.again hs he (by simp [aq.lH]) qZ⟩
   . cases h
 . rename_i e1
   have hag:=λS (hS:A.ret=some S) (y:S.D) (hd:S.dec r.2.w r.2=some y)=>hl.again hs he (S:=S) (by simp [aq.lH,hS]) hd;obtain ⟨hd,ot,rt,fr⟩:=A;cases rt with
   |none=>cases h
   |some S=>
    replace h:(Out.of (S.dec r.2.w r.2) λz=> .ret (.ret z):Out (Round hd.D ot.D (PG (some S)))).eval=some R:=h;obtain ⟨x',qZ,h⟩:=aK h;obtain rfl:=aa6 h;exact ⟨by rw [e1];rfl,hag S rfl x' qZ⟩
theorem Kd {A:aq} {s:du} {S:Shape} {x:S.D} {a:Act} {w:World} (h:gW c n (S.enc s.t (A.rest s++s.w) (A.known s) x) a w):gW c n (A.fin s S x) a w:=by
 obtain ⟨⟨c1,μ,fp,he,hx⟩,hk,hl⟩:=h;have e:(A.fin s S x).f=(S.enc s.t (A.rest s++s.w) (A.known s) x).f:=by grind [du.f,du.env,aq.fin,Shape.enc,List.append_assoc]
 exact ⟨by grind,hk,hl⟩
theorem Il {b:Code} {f:du→Out (Ex×du)} {ds:List Nat} (hb:wa c n b f) (hf:∀ s r,(f s).eval=some r→jQ ds s r.2) (id:Nat) (A:aq):wa c n (.block id (.loop b)) (FV id A ds f):=by
 intro s r a w h hs;unfold FV at h;split at h
 case isFalse=>cases h
 rename_i hk;obtain ⟨x,hx,h⟩:=aK h;have Ct:om s.f:=by obtain ⟨⟨c1,μ,fp,he,hx⟩,_⟩:=hs;exact hx.known
 have PI:∀ id z,bf (A.rest s) id=some z→bf s.v id=some z∧id ∉ mE (A.head.map s) s.v A.head.v:=by
  intro id z hz;unfold aq.rest at hz;split at hz
  . have:=n7 (λx y e=>by rw [e]) hz
    refine ⟨this.1,by simpa using this.2⟩
  . cases hz
 have hWs:∀ id z,bf (A.rest s++s.w) id=some z→s.env id=some z∧(id ∉ mE (A.head.map s) s.v A.head.v∨bf s.v id=none):=by
  intro id z hz;rw [fv] at hz;cases e:bf (A.rest s) id with
  |some q=>
   rw [e] at hz;obtain rfl:=aa6 hz;exact ⟨kr (PI id q e).1, .inl (PI id q e).2⟩
  |none=>
   rw [e] at hz;have hn:=Kb hx hz;refine ⟨?_, .inr hn⟩;unfold du.env;rw [fv,hn];exact hz
 have hK:(A.fr=true∨s.w.isEmpty=false)→A.known s=s.k:=λe=>aa5 e;have jN:LoopIn c n A ds s (A.rest s++s.w) (A.known s):=by
  refine ⟨hk,hs.len,λid z hz=> ?_,λj hj id hi=> ?_⟩
  . have he:A.fr=true∨s.w.isEmpty=false:=by
     by_cases e:A.fr=true
     . exact .inl e
     . right
       unfold aq.rest at hz;rw [aa3 e] at hz;cases hw:s.w with
       |nil=>rw [hw] at hz;cases hz
       |cons=>rfl
    rw [hK he];have:=Ct.v id z (hWs id z hz).1;exact ⟨this.1,λdC hi=>abF.2 (.inr (this.2 dC hi))⟩
  . have he:A.fr=true:=by
     unfold aq.vQ at hk;rw [aa4,acQ] at hk;rcases hk.2 with e|e
     . exact e
     . exfalso
       have h1:=abD.1 e A.head (by simp [aq.lH]);unfold PH at h1;have key:∀ (l:List Slot) (j:Nat),eo l j=true→∃ x∈l,x.nW=true:=by
        intro l
        induction l with
        |nil=>intro j h;simp [eo] at h
        |cons x r ih=>
         intro j h;cases j with
         |zero=>exact ⟨x,by simp,h⟩
         |succ j=>obtain ⟨y,hy,GR⟩:=ih j h;exact ⟨y,by simp [hy],GR⟩
       obtain ⟨y,hy,GR⟩:=key _ _ hj;have:=abD.1 h1 y hy;rw [GR] at this;cases this
    rw [hK (.inl he)];exact abF.2 (.inr (Ct.t j id hi))
 have qZ:=B1 hs hx hWs jN.W hs.len λj hj=>⟨rfl,jN.K j hj⟩
 have VK:=Ik hb hf id A jN;have hfo:=λ(y:A.out.D) (a':Act) (w':World)=>Kd (A:=A) (s:=s) (S:=A.out) (x:=y) (a:=a') (w:=w') (c:=c) (n:=n);have iI:=λ(S:Shape) (y:S.D) (a':Act) (w':World)=>Kd (A:=A) (s:=s) (S:=S) (x:=y) (a:=a') (w:=w') (c:=c) (n:=n);obtain ⟨hd,ot,rt,fr⟩:=A;refine wp_block ?_;cases rt with
 |some S=>
  replace h:(Out.get (iter (λx=>(f (hd.enc s.t _ _ x)).bind (zD id ⟨hd,ot,some S,fr⟩)) bc x) λr=>Out.alt r (λy=> .ret (Ex.normal,aq.fin ⟨hd,ot,some S,fr⟩ s ot y)) λz=> .ret (Ex.ret,aq.fin ⟨hd,ot,some S,fr⟩ s S z)).eval=some r:=h;obtain ⟨q,hq,h⟩:=iS h;refine Ac (id:=id) (λx R a w h1 h2=>VK x R a w h1 h2) hq qZ (λy a' w' e he=> ?_) (λz a' w' e he=> ?_)
  . subst e
    obtain rfl:=aa6 h;simp only [Exit.inBlock,ae4];exact ⟨rfl,hfo y a' w' he⟩
  . subst e
    obtain rfl:=aa6 h;exact ⟨rfl,iI S z a' w' he⟩
 |none=>
  replace h:(Out.get (bx (λx=>(f (hd.enc s.t _ _ x)).bind (zD id ⟨hd,ot,none,fr⟩)) bc x) λy=>Out.ret (Ex.normal,aq.fin ⟨hd,ot,none,fr⟩ s ot y)).eval=some r:=h;obtain ⟨y,hy,h⟩:=iS h;unfold bx at hy;obtain ⟨q,hq,hy⟩:=Option.map_eq_some_iff.1 hy;obtain rfl:=aa6 h;refine Ac (id:=id) (λx R a w h1 h2=>VK x R a w h1 h2) hq qZ (λy' a' w' e he=> ?_) (λz a' w' e he=> ?_)
  . subst e
    simp only at hy;subst hy;simp only [Exit.inBlock,ae4];exact ⟨rfl,hfo _ a' w' he⟩
  . exact nomatch z
theorem dE {b:Code} {f:du→Out (Ex×du)} (hb:wa c n b f) (id:Nat):wa c n (.block id b) (λs=>(f s).map (tV id)):=by
 intro s r a w h hs;obtain ⟨q,hq,h⟩:=cI h;obtain rfl:=aa6 h;refine wp_block (wp_mono (hb s q a w hq hs) λe a' w' he=> ?_);obtain ⟨rfl,he⟩:=he;obtain ⟨e,s'⟩:=q;cases e with
 |normal=>exact ⟨rfl,he⟩
 |ret=>exact ⟨rfl,he⟩
 |exit m=>
  simp only [Qf,Exit.inBlock,tV];by_cases hm:m=id
  . rw [aa5 hm,aa5 hm];exact ⟨rfl,he⟩
  . rw [aa3 hm,aa3 hm];exact ⟨rfl,he⟩
theorem Gw {s:du} {a:Act} {w:World} (h:gW c n s a w) {d:Nat} {b:Bool} (hb:s.t.getD d .dead= .b b):gW c n { s with t:=s.t.set d (.b b),kn:=(d,b)::s.kn } a w:=by
 obtain ⟨⟨c1,μ,fp,he,hx⟩,hk,hl⟩:=h;exact ⟨by grind [Ic],Ee hk hb,by simpa using hl⟩
theorem bL (hC:iF C c.P) (hF:iZ C c.P) (hm:c.P.follows .mixedOrders=true) (A:Nat→Option aq):∀ b:Code,wa c n b (dt C A b)
 | .skip=>λs r a w h hs=>by
   obtain rfl:=aa6 (show some (Ex.normal,s)=some r from h);exact wp_skip ⟨rfl,hs⟩
 | .ret=>λs r a w h hs=>by
   obtain rfl:=aa6 (show some (Ex.ret,s)=some r from h);exact wp_ret ⟨rfl,hs⟩
 | .exit m=>λs r a w h hs=>by
   obtain rfl:=aa6 (show some (Ex.exit m,s)=some r from h);exact wp_exit ⟨rfl,hs⟩
 | .seq x y=>λs r a w h hs=>by
   simp only [dt] at h;obtain ⟨q,hq,h⟩:=cI h;refine wp_seq (wp_mono (bL hC hF hm A x s q a w hq hs) λe a' w' he=> ?_);obtain ⟨rfl,he⟩:=he;obtain ⟨e,s'⟩:=q;cases e with
   |normal=>exact bL hC hF hm A y s' r a' w' h he
   |ret=>obtain rfl:=aa6 h;exact ⟨rfl,he⟩
   |exit m=>obtain rfl:=aa6 h;exact ⟨rfl,he⟩
 | .cond t x y=>λs r a w h hs=>by
   simp only [dt] at h;obtain ⟨⟨c1,μ,fp,he,hx⟩,hk,hl⟩:=hs;have hs:gW c n s a w:=⟨⟨c1,μ,fp,he,hx⟩,hk,hl⟩
   have hv:=hx.ca t;split at h
   . rename_i e
     rw [uw hk e] at hv;simp only [an] at hv;exact wp_cond_true hv (bL hC hF hm A x s r a w h hs)
   . rename_i e
     rw [uw hk e] at hv;simp only [an] at hv;exact wp_cond_false hv (bL hC hF hm A y s r a w h hs)
   . split at h
     . rename_i d p _ e
       have e':s.t.getD d .dead= .b p:=e;have hv:an c1 μ (a.eval (.tmp d)) (.b p):=by rw [← e'];exact hv
       simp only [an] at hv;rcases bX h with ⟨rfl,h⟩|⟨rfl,h⟩
       . exact wp_cond_true hv (bL hC hF hm A x _ r a w h (Gw hs e'))
       . exact wp_cond_false hv (bL hC hF hm A y _ r a w h (Gw hs e'))
     . cases h
 | .block id (.loop b)=>λs r a w h hs=>by
   simp only [dt] at h;split at h
   . rename_i A' e
     exact Il (bL hC hF hm A b) (cr A b) id A' s r a w h hs
   . cases h
 | .region id ops draw=>λs r a w h hs=>by
   simp only [dt] at h;obtain ⟨s',L6,h⟩:=cI h;obtain rfl:=aa6 h;exact Ef hC hF hm hs L6 λa' w' h'=>⟨rfl,h'⟩
 | .block id .skip=>dE (bL hC hF hm A .skip) id
 | .block id .ret=>dE (bL hC hF hm A .ret) id
 | .block id (.exit m)=>dE (bL hC hF hm A (.exit m)) id
 | .block id (.seq x y)=>dE (bL hC hF hm A (.seq x y)) id
 | .block id (.cond t x y)=>dE (by simp_all [bL]) id
 | .block id (.block j x)=>dE (bL hC hF hm A (.block j x)) id
 | .block id (.region j o d)=>dE (bL hC hF hm A (.region j o d)) id
 | .block id (.rangeFunc f p as b)=>dE (bL hC hF hm A (.rangeFunc f p as b)) id
 | .block id (.scope b)=>dE (bL hC hF hm A (.scope b)) id
 | .block id (.label l)=>dE (bL hC hF hm A (.label l)) id
 | .block id (.goto l)=>dE (bL hC hF hm A (.goto l)) id
 | .block id (.refuse l)=>dE (bL hC hF hm A (.refuse l)) id
 | .loop _=>λs r a w h hs=>by simp [dt,Out.eval] at h
 | .rangeFunc .. =>λs r a w h hs=>by simp [dt,Out.eval] at h
 | .scope _=>λs r a w h hs=>by simp [dt,Out.eval] at h
 | .label _=>λs r a w h hs=>by simp [dt,Out.eval] at h
 | .goto _=>λs r a w h hs=>by simp [dt,Out.eval] at h
 | .refuse _=>λs r a w h hs=>by simp [dt,Out.eval] at h
end
end
section
open Go
inductive Cm where
 |b
 |i (k:IntKind)
 |s
 |e
 |k
 |ro (e:Ty)
 |own (e:Ty)
 |mut (e:Ty)
def cmC:Cm→Type→Type
 | .b,T=>Bool×T
 | .i _,T=>Int×T
 | .s,T=>List UInt8×T
 | .e,T=>Bool×T
 | .k,T=>T
 | .ro e,T=>List e.D×T
 | .own e,T=>List e.D×T
 | .mut e,T=>List e.D×T
def rA:List Cm→Type
 |[]=>Unit
 |c::r=>cmC c (rA r)
def abY:Cm→Type→Type
 | .b,T=>Bool×T
 | .i _,T=>Int×T
 | .s,T=>List UInt8×T
 | .e,T=>Bool×T
 | .k,T=>T
 | .ro _,T=>T
 | .own e,T=>List e.D×T
 | .mut e,T=>List e.D×T
def abZ:Cm→Type→Type
 | .mut e,T=>List e.D×T
 |_,T=>T
def kF:List Cm→Type
 |[]=>Unit
 |c::r=>abY c (kF r)
def n8:List Cm→Type
 |[]=>Unit
 |c::r=>abZ c (n8 r)
structure Item where
 ptr:Bool
 agg:Bool
 cs:List Cm
def au:List Item→Type
 |[]=>Unit
 |it::r=>rA it.cs×au r
def si (it:Item):Type:=
 match it with
 |⟨true,_,cs⟩=>kF cs
 |⟨false,_,cs⟩=>n8 cs
def gA:List Item→Type
 |[]=>Unit
 |it::r=>si it×gA r
abbrev Km:=List (Option (Nat×Nat))
def lp:Km→List Value→List Value
 |[],_=>[]
 |none::r,v::vs=>v::lp r vs
 |none::r,[]=>lp r []
 |some (g,k)::r,vs=> .func (.func g) #[] (vs.take k).toArray::lp r (vs.drop k)
def wb:Km→List ah→List ah
 |[],_=>[]
 |none::r,v::vs=>v::wb r vs
 |none::r,[]=>wb r []
 |some (g,k)::r,vs=> .fn g (vs.take k)::wb r (vs.drop k)
def B5:Km→List ah→Option (List ah)
 |[],[]=>some []
 |none::r,d::ds=>(B5 r ds).map λq=>d::q
 |some (g,k)::r, .fn g' nS::ds=>if g=g'∧nS.length=k then (B5 r ds).map λq=>nS++q else none
 |_,_=>none
def Im (E:Env) (e:Ty):ah→Option (List e.D×List Nat)
 | .mD=>iE E e .mD
 | .cB id none=>iE E e (.cB id none)
 |_=>none
def eO (E EL:Env):(l:List Cm)→List ah→Option (rA l×List Nat)
 |[],[]=>some ((),[])
 | .b::r, .b x::q=>(eO E EL r q).map λy=>((x,y.1),y.2)
 | .i k::r, .i k' x::q=>if k=k' then (eO E EL r q).map λy=>((x,y.1),y.2) else none
 | .s::r, .s x::q=>(eO E EL r q).map λy=>((x,y.1),y.2)
 | .e::r, .er x::q=>(eO E EL r q).map λy=>((x,y.1),y.2)
 | .k::r,d::q=>if d.bs=true then eO E EL r q else none
 | .ro e::r,d::q=>(rY EL e d).bind λx=>(eO E EL r q).map λy=>((x,y.1),y.2)
 | .own e::r,d::q=>(iE E e d).bind λz=>(eO E EL r q).map λy=>((z.1,y.1),z.2++y.2)
 | .mut e::r,d::q=>(Im E e d).bind λz=>(eO E EL r q).map λy=>((z.1,y.1),z.2++y.2)
 |_,_=>none
def isAgg:ah→Bool
 | .agg _=>true
 |_=>false
def Gx (E EL:Env):(it:Item)→ah→Option (rA it.cs×List Nat)
 |⟨false,a,cs⟩,d=>if isAgg d=a∧d.cells.all ah.bs=true then eO E EL cs d.cells else none
 |⟨true,_,cs⟩, .vptr id off=>
  match E id with
  |some (.var l)=>if off+cs.length≤l.length then (eO E EL cs ((l.drop off).take cs.length)).map λy=>(y.1,id::y.2) else none
  |_=>none
 |_,_=>none
def lO (E EL:Env):(l:List Item)→List ah→Option (au l×List Nat)
 |[],[]=>some ((),[])
 |it::r,d::q=>(Gx E EL it d).bind λx=>(lO E EL r q).map λy=>((x.1,y.1),x.2++y.2)
 |_,_=>none
def ajs (tk:Bool) (n:Nat):Option Nat:=if tk then some n else none
def aX (tk:Bool):(l:List Cm)→rA l→Nat→List ah×List (Nat×bK)×Nat
 |[],_,n=>([],[],n)
 | .b::r,x,n=>(.b x.1::(aX tk r x.2 n).1,(aX tk r x.2 n).2)
 | .i k::r,x,n=>(.i k x.1::(aX tk r x.2 n).1,(aX tk r x.2 n).2)
 | .s::r,x,n=>(.s x.1::(aX tk r x.2 n).1,(aX tk r x.2 n).2)
 | .e::r,x,n=>(.er x.1::(aX tk r x.2 n).1,(aX tk r x.2 n).2)
 | .k::r,x,n=>((bif tk then .kp n else .jj)::(aX tk r x (n+1)).1,(aX tk r x (n+1)).2)
 | .ro e::r,x,n=>(.ro e x.1 (ajs tk n)::(aX tk r x.2 (n+1)).1,(aX tk r x.2 (n+1)).2)
 | .own e::r,x,n=>(.cB n none::(aX tk r x.2 (n+1)).1,(n, .arr e x.1)::(aX tk r x.2 (n+1)).2.1,(aX tk r x.2 (n+1)).2.2)
 | .mut e::r,x,n=>(.cB n none::(aX tk r x.2 (n+1)).1,(n, .arr e x.1)::(aX tk r x.2 (n+1)).2.1,(aX tk r x.2 (n+1)).2.2)
def Ae (a:Bool) (l:List ah):ah:=if a then .agg l else l.headD .dead
def j1 (tk:Bool):(it:Item)→rA it.cs→Nat→ah×List (Nat×bK)×Nat
 |⟨false,a,cs⟩,x,n=>(Ae a (aX tk cs x n).1,(aX tk cs x n).2)
 |⟨true,_,cs⟩,x,n=>(.vptr n 0,(aX tk cs x (n+1)).2.1++[(n, .var (aX tk cs x (n+1)).1)],(aX tk cs x (n+1)).2.2)
def dA (tk:Bool):(l:List Item)→au l→Nat→List ah×List (Nat×bK)×Nat
 |[],_,n=>([],[],n)
 |it::r,x,n=>((j1 tk it x.1 n).1::(dA tk r x.2 (j1 tk it x.1 n).2.2).1,(j1 tk it x.1 n).2.1++(dA tk r x.2 (j1 tk it x.1 n).2.2).2.1,(dA tk r x.2 (j1 tk it x.1 n).2.2).2.2)
def dG (E:Env):(l:List Cm)→Nat→List ah→Option (kF l×List Nat)
 |[],_,[]=>some ((),[])
 | .b::r,n, .b x::q=>(dG E r n q).map λy=>((x,y.1),y.2)
 | .i k::r,n, .i k' x::q=>if k=k' then (dG E r n q).map λy=>((x,y.1),y.2) else none
 | .s::r,n, .s x::q=>(dG E r n q).map λy=>((x,y.1),y.2)
 | .e::r,n, .er x::q=>(dG E r n q).map λy=>((x,y.1),y.2)
 | .k::r,n, .kp k::q=>if k=n then dG E r (n+1) q else none
 | .ro _::r,n, .ro _ _ (some k)::q=>if k=n then dG E r (n+1) q else none
 | .own e::r,n,d::q=>(iE E e d).bind λz=>(dG E r (n+1) q).map λy=>((z.1,y.1),z.2++y.2)
 | .mut e::r,n,d::q=>(iE E e d).bind λz=>(dG E r (n+1) q).map λy=>((z.1,y.1),z.2++y.2)
 |_,_,_=>none
def gr (E:Env):(l:List Cm)→Nat→Option (n8 l×List Nat)
 |[],_=>some ((),[])
 | .b::r,n=>gr E r n
 | .i _::r,n=>gr E r n
 | .s::r,n=>gr E r n
 | .e::r,n=>gr E r n
 | .k::r,n=>gr E r (n+1)
 | .ro _::r,n=>gr E r (n+1)
 | .own _::r,n=>gr E r (n+1)
 | .mut e::r,n=>(iE E e (.cB n none)).bind λz=>(gr E r (n+1)).map λy=>((z.1,y.1),z.2++y.2)
def sj:List Cm→Nat→Nat
 |[],n=>n
 | .b::r,n=>sj r n
 | .i _::r,n=>sj r n
 | .s::r,n=>sj r n
 | .e::r,n=>sj r n
 | .k::r,n=>sj r (n+1)
 | .ro _::r,n=>sj r (n+1)
 | .own _::r,n=>sj r (n+1)
 | .mut _::r,n=>sj r (n+1)
def A2:Item→Nat→Nat
 |⟨false,_,cs⟩,n=>sj cs n
 |⟨true,_,cs⟩,n=>sj cs (n+1)
def Io (E:Env):(it:Item)→Nat→Option (si it×List Nat)
 |⟨false,_,cs⟩,n=>gr E cs n
 |⟨true,_,cs⟩,n=>
  match E n with
  |some (.var l)=>(dG E cs (n+1) l).map λy=>(y.1,n::y.2)
  |_=>none
def Eg (E:Env):(l:List Item)→Nat→Option (gA l×List Nat)
 |[],_=>some ((),[])
 |it::r,n=>(Io E it n).bind λx=>(Eg E r (A2 it n)).map λy=>((x.1,y.1),x.2++y.2)
def bY:(l:List Cm)→List ah→kF l→Nat→List ah×List (Nat×bK)×Nat
 | .b::r,_::q,x,n=>(.b x.1::(bY r q x.2 n).1,(bY r q x.2 n).2)
 | .i k::r,_::q,x,n=>(.i k x.1::(bY r q x.2 n).1,(bY r q x.2 n).2)
 | .s::r,_::q,x,n=>(.s x.1::(bY r q x.2 n).1,(bY r q x.2 n).2)
 | .e::r,_::q,x,n=>(.er x.1::(bY r q x.2 n).1,(bY r q x.2 n).2)
 | .k::r,d::q,x,n=>(d::(bY r q x n).1,(bY r q x n).2)
 | .ro _::r,d::q,x,n=>(d::(bY r q x n).1,(bY r q x n).2)
 | .own e::r,_::q,x,n=>(.cB n none::(bY r q x.2 (n+1)).1,(n, .arr e x.1)::(bY r q x.2 (n+1)).2.1,(bY r q x.2 (n+1)).2.2)
 | .mut e::r,_::q,x,n=>(.cB n none::(bY r q x.2 (n+1)).1,(n, .arr e x.1)::(bY r q x.2 (n+1)).2.1,(bY r q x.2 (n+1)).2.2)
 |_,_,_,n=>([],[],n)
def pI:(l:List Cm)→List ah→n8 l→List (Nat×bK)
 | .b::r,_::q,x=>pI r q x
 | .i _::r,_::q,x=>pI r q x
 | .s::r,_::q,x=>pI r q x
 | .e::r,_::q,x=>pI r q x
 | .k::r,_::q,x=>pI r q x
 | .ro _::r,_::q,x=>pI r q x
 | .own _::r,_::q,x=>pI r q x
 | .mut e::r, .cB id none::q,x=>(id, .arr e x.1)::pI r q x.2
 | .mut _::r,_::q,x=>pI r q x.2
 |_,_,_=>[]
def ml (E:Env):(it:Item)→ah→si it→Nat→List (Nat×bK)×Nat
 |⟨false,_,cs⟩,d,x,n=>(pI cs d.cells x,n)
 |⟨true,_,cs⟩, .vptr id off,x,n=>
  match E id with
  |some (.var l)=>((bY cs ((l.drop off).take cs.length) x n).2.1++[(id, .var (eK l off (bY cs ((l.drop off).take cs.length) x n).1))],(bY cs ((l.drop off).take cs.length) x n).2.2)
  |_=>([],n)
 |⟨true,_,_⟩,_,_,n=>([],n)
def je (E:Env):(l:List Item)→List ah→gA l→Nat→List (Nat×bK)×Nat
 |it::r,d::q,x,n=>((ml E it d x.1 n).1++(je E r q x.2 (ml E it d x.1 n).2).1,(je E r q x.2 (ml E it d x.1 n).2).2)
 |_,_,_,n=>([],n)
structure bZ where
 f:Nat
 lend:Bool
 aJ:List Item
 lay:Km
 rs:List Item
 F:au aJ→Out (au rs×gA aJ)
 vw:Option (Nat×(Int→Int×Int)):=none
def TO:List ah→ah
 |[d]=>d
 |ds=> .FQ ds
def Af (E:Env) (ids:List Nat):Env:=λid=>if ids.contains id=true then none else E id
def Ke:Env:=λ_=>none
def Ag (l:List Item):Bool:=l.all λit=>it.cs.all λc=>match c with| .ro _=>false| .own e=>e.ph| .mut e=>e.ph|_=>true
def Eh (p:Ty→Bool):Cm→Bool
 | .own e=>p e
 | .mut e=>p e
 |_=>true
def Lw (p:Ty→Bool) (l:List Item):Bool:=l.all λit=>it.cs.all (Eh p)
def after (K:bZ) (E:Env) (ds:List ah) (ids:List Nat) (fr:Nat) (y:au K.rs×gA K.aJ):Out gY:=
 let bk:=je E K.aJ ds y.2 fr
 let en:=dA false K.rs y.1 bk.2
 if en.2.2≤fr+64 then .ret (TO en.1,(ids.map λk=>(k,none))++news (bk.1++en.2.1)) else .fail
def Gy (K:bZ) (E:Env) (ds:List ah):Env:=
 if K.lend=true then
  match lO E E K.aJ ds with
  |some x=>Af E x.2
  |none=>Ke
 else Ke
def bZ.call (K:bZ) (ds:List ah) (E:Env) (fr:Nat):Option (Out gY):=
 (B5 K.lay ds).bind λis=>(lO E (Gy K E is) K.aJ is).bind λx=>
  if nodupB x.2=true∧(K.lend=false∨((Ag K.rs=true∧Lw Ty.ph K.aJ=true)∧x.2.all (λid=>(Gy K E is id).isNone)=true)) then some ((K.F x.1).bind (after K E is x.2 fr)) else none
def Qi (E:Env) (es:Nat) (g:Int→Int×Int):List ah→Out gY
 |[.cB id none, .i .i64 n]=> .of (AM E (.cB id none)) λl=>if mX E id=some es then
  .ite (decide (0≤(g n).1∧(g n).1≤(g n).2∧(g n).2≤(l:Int))) (cu (.cB id (some (0+(g n).1.toNat,(g n).2.toNat - (g n).1.toNat)))) .fail else .fail
 |[.ro e xs _, .i .i64 n]=>if e.size=es then
  .ite (decide (0≤(g n).1∧(g n).1≤(g n).2∧(g n).2≤(xs.length:Int))) (cu (.ro e ((xs.drop (g n).1.toNat).take ((g n).2.toNat - (g n).1.toNat)) none)) .fail else .fail
 |_=> .fail
def Gz:List bZ→Nat→List ah→Env→Nat→Out gY
 |[],_,_,_,_=> .fail
 |K::r,f,ds,E,fr=>if K.f=f then
   match K.vw with
   |some v=>Qi E v.1 v.2 ds
   |none=>
    match K.call ds E fr with
    |some o=>o
    |none=>Gz r f ds E fr
  else Gz r f ds E fr
def entry (aJ:List Item) (lay:Km) (ntmps:Nat) (x:au aJ):du:=
 let en:=dA true aJ x 0
 { t:=wb lay en.1++List.replicate (ntmps - (wb lay en.1).length) .undef,v:=AN [] (news en.2.1),k:=[0],kn:=[] }
def afX (C:Cx) (s:du):ResultVar→Option ah
 | .tmp j=>some (s.t.getD j .dead)
 | .cell a t=>
   match s.t.getD a .dead with
   | .vptr id off=>
     match bf s.v id with
     |some (.var cs)=>(C.ty t).bind λty=>if off+ty.size≤cs.length then some (mg ty ((cs.drop off).take ty.size)) else none
     |_=>none
   |_=>none
def Kf (C:Cx) (s:du):List ResultVar→Option (List ah)
 |[]=>some []
 |r::l=>(afX C s r).bind λd=>(Kf C s l).map λds=>d::ds
def ajt (E:Env):Env:=λid=>
 match E id with
 |some (.arr e xs)=>some (.arr e xs)
 |some (.zv e xs x i off u k)=>some (.zv e xs x i off u k)
 |some (.tP e xs i cs)=>some (.tP e xs i cs)
 |_=>none
def Ah (rs:List Item) (E:Env) (ds:List ah) (zs:List Nat):Env:=
 if Ag rs=false then
  match lO E E rs ds with
  |some y=>ajt (Af E (y.2++zs))
  |_=>Ke
 else Ke
def leave (C:Cx) (aJ rs:List Item) (rtm:List ResultVar) (s:du):Option (au rs×gA aJ):=
 (Kf C s rtm).bind λds=>(Eg (bf s.v) aJ 0).bind λz=>(lO (bf s.v) (Ah rs (bf s.v) ds z.2) rs ds).bind λy=>
  if nodupB (y.2++z.2)=true∧(Ag rs=true∨((y.2++z.2).all λid=>(Ah rs (bf s.v) ds z.2 id).isNone)=true) then some (y.1,z.1) else none
def Cl (C:Cx) (A:Nat→Option aq) (code:Code) (aJ:List Item) (lay:Km) (ntmps:Nat) (rs:List Item) (rtm:List ResultVar) (x:au aJ):Out (au rs×gA aJ):=
 (dt C A code (entry aJ lay ntmps x)).bind λr=>
  match r.1 with
  | .exit _=> .fail
  |_=> .of (leave C aJ rs rtm r.2) .ret
end
section
open Go
variable {z:Fz}
def aQ (S:Nat→Prop) (w:World):(l:List Cm)→List Value→rA l→List Nat→Prop
 |[],vs,_,f=>vs=[]∧f=[]
 | .b::r,vs,x,f=>∃ aZ,vs= .bool x.1::aZ∧aQ S w r aZ x.2 f
 | .i k::r,vs,x,f=>∃ aZ,vs= .int k x.1::aZ∧aQ S w r aZ x.2 f
 | .s::r,vs,x,f=>∃ aZ,vs= .string ⟨List.toArray x.1⟩::aZ∧List.length x.1≤aM∧aQ S w r aZ x.2 f
 | .e::r,vs,x,f=>∃ v aZ,vs=v::aZ∧erV v x.1∧aQ S w r aZ x.2 f
 | .k::r,vs,x,f=>∃ v aZ,vs=v::aZ∧v.oneCell'=true∧aQ S w r aZ x f
 | .ro e::r,vs,x,f=>∃ v aZ,vs=v::aZ∧(Ty.sl e).aN S w [v] x.1∧aQ S w r aZ x.2 f
 | .own e::r,vs,x,f=>∃ v aZ f1 f2,vs=v::aZ∧f=f1++f2∧(Ty.sl e).ar ⟨S,w⟩ w [v] x.1 f1∧aQ S w r aZ x.2 f2
 | .mut e::r,vs,x,f=>∃ v aZ f1 f2,vs=v::aZ∧f=f1++f2∧(Ty.sl e).ar ⟨S,w⟩ w [v] x.1 f1∧aQ S w r aZ x.2 f2
theorem dP {S:Nat→Prop} {w:World}:(l:List Cm)→{vs:List Value}→{x:rA l}→{f:List Nat}→aQ S w l vs x f→vs.length=l.length
 |[],_,_,_,h=>by grind [aQ]
 | .b::r,_,_,_,h=>by simp only [aQ] at h;obtain ⟨aZ,rfl,h⟩:=h;simp [dP r h]
 | .i _::r,_,_,_,h=>by simp only [aQ] at h;obtain ⟨aZ,rfl,h⟩:=h;simp [dP r h]
 | .s::r,_,_,_,h=>by simp only [aQ] at h;obtain ⟨aZ,rfl,_,h⟩:=h;simp [dP r h]
 | .e::r,_,_,_,h=>by simp only [aQ] at h;obtain ⟨_,aZ,rfl,_,h⟩:=h;simp [dP r h]
 | .k::r,_,_,_,h=>by simp only [aQ] at h;obtain ⟨_,aZ,rfl,_,h⟩:=h;simp [dP r h]
 | .ro e::r,_,_,_,h=>by simp only [aQ] at h;obtain ⟨v,aZ,rfl,_,h⟩:=h;simp [dP r h]
 | .own e::r,_,_,_,h=>by simp only [aQ] at h;obtain ⟨v,aZ,f1,f2,rfl,_,_,h⟩:=h;simp [dP r h]
 | .mut e::r,_,_,_,h=>by simp only [aQ] at h;obtain ⟨v,aZ,f1,f2,rfl,_,_,h⟩:=h;simp [dP r h]
def gX (c:Ctx) (tk:Bool):List Cm→List Value→Nat→Prop
 | .b::r,_::vs,n=>gX c tk r vs n
 | .i _::r,_::vs,n=>gX c tk r vs n
 | .s::r,_::vs,n=>gX c tk r vs n
 | .e::r,_::vs,n=>gX c tk r vs n
 | .k::r,v::vs,n=>(tk=true→c.tok n=v)∧gX c tk r vs (n+1)
 | .ro _::r,v::vs,n=>(tk=true→c.tok n=v)∧gX c tk r vs (n+1)
 | .own _::r,_::vs,n=>gX c tk r vs (n+1)
 | .mut _::r,_::vs,n=>gX c tk r vs (n+1)
 |_,_,_=>True
theorem iT (tk:Bool):(l:List Cm)→(x:rA l)→(n:Nat)→(aX tk l x n).2.2=sj l n
 |[],_,_=>rfl
 | .b::r,x,n=>iT tk r x.2 n
 | .i _::r,x,n=>iT tk r x.2 n
 | .s::r,x,n=>iT tk r x.2 n
 | .e::r,x,n=>iT tk r x.2 n
 | .k::r,x,n=>iT tk r x (n+1)
 | .ro _::r,x,n=>iT tk r x.2 (n+1)
 | .own _::r,x,n=>iT tk r x.2 (n+1)
 | .mut _::r,x,n=>iT tk r x.2 (n+1)
theorem gg:(l:List Cm)→(n:Nat)→n≤sj l n
 |[],n=>abE n
 | .b::r,n=>gg r n
 | .i _::r,n=>gg r n
 | .s::r,n=>gg r n
 | .e::r,n=>gg r n
 | .k::r,n=>abG (afL n) (gg r (n+1))
 | .ro _::r,n=>abG (afL n) (gg r (n+1))
 | .own _::r,n=>abG (afL n) (gg r (n+1))
 | .mut _::r,n=>abG (afL n) (gg r (n+1))
theorem Ei (it:Item) (n:Nat):n≤A2 it n:=by
 obtain ⟨p,a,cs⟩:=it;cases p with
 |false=>exact gg cs n
 |true=>exact abG (afL n) (gg cs (n+1))
theorem pJ (tk:Bool) (it:Item) (x:rA it.cs) (n:Nat):(j1 tk it x n).2.2=A2 it n:=by
 obtain ⟨p,a,cs⟩:=it;cases p with
 |false=>exact iT tk cs x n
 |true=>exact iT tk cs x (n+1)
def mH:List Item→Nat→Nat
 |[],n=>n
 |it::r,n=>mH r (A2 it n)
theorem uB:(l:List Item)→(n:Nat)→n≤mH l n
 |[],n=>abE n
 |it::r,n=>abG (Ei it n) (uB r _)
theorem B6 (tk:Bool):(l:List Item)→(x:au l)→(n:Nat)→(dA tk l x n).2.2=mH l n
 |[],_,_=>rfl
 |it::r,x,n=>by
  show (dA tk r x.2 (j1 tk it x.1 n).2.2).2.2=mH r (A2 it n);rw [B6 tk r,pJ]
structure gQ (c:Ctx) (K:Nat→Prop) (μ:Nat→Loc) (fp:Nat→List Nat) (v:Env) (w:World) (rest:List Nat):Prop where
 rel:cJ c μ fp v w
 known:∀ id x,v id=some x→K id∧∀ dC∈x.ids,K dC
 nodup:rest.Nodup
 far:∀ id,v id≠none→∀ b∈fp id,b ∉ rest
 ok:∀ b∈rest,¬ c.S b∧b<w.heap.size
section
variable {c:Ctx} {K K':Nat→Prop} {μ μ':Nat→Loc} {fp:Nat→List Nat} {v:Env} {w:World}
theorem gQ.perm {rest VL:List Nat} (h:gQ c K μ fp v w rest) (hp:rest.Perm VL):gQ c K μ fp v w VL:=
 ⟨h.rel,h.known,hp.nodup_iff.1 h.nodup,λid hv b hb b8=>h.far id hv b hb (hp.mem_iff.2 b8),λb hb=>h.ok b (hp.mem_iff.2 hb)⟩
theorem gQ.add {f0 rest:List Nat} (h:gQ c K μ fp v w (f0++rest)) {id0:Nat} {x0:bK} (zI:∀ id,K id→μ' id=μ id) (hK:∀ id,K id→K' id) (h0:K' id0) (hx:∀ dC∈x0.ids,K' dC)
  (rb:cz c μ' w id0 f0 x0):gQ c K' μ' (λk=>if k=id0 then f0 else fp k) (cp v (news [(id0,x0)])) w rest:=by
 have Ew:=aca.1 h.nodup;have TC:∀ k,cp v (news [(id0,x0)]) k=if k=id0 then some x0 else v k:=λk=>rfl
 refine ⟨?_, ?_,Ew.2.1, ?_,λb hb=>h.ok b (by simp [hb])⟩
 . exact h.rel.lK [] id0 x0 f0 (λid y hy _ _=>⟨zI id (h.known id y hy).1,λi hi=>zI i ((h.known id y hy).2 i hi)⟩) (λ_ _ _ _ _ _=>rfl) (abE _) rb Ew.1
    λb hb=>⟨(h.ok b (by simp [hb])).1,(h.ok b (by simp [hb])).2,λid hv _ _ b8=>h.far id hv b b8 (by simp [hb])⟩
 . intro id y hy
   rw [TC] at hy;by_cases hi:id=id0
   . grind
   . rw [aa3 hi] at hy
     exact ⟨hK id (h.known id y hy).1,λi cQ=>hK i ((h.known id y hy).2 i cQ)⟩
 . intro id hv b hb b8
   rw [TC] at hv;by_cases hi:id=id0
   . grind
   . rw [aa3 hi] at hv
     simp only [aa3 hi] at hb;exact h.far id hv b hb (by simp [b8])
theorem gQ.TP {f0 rest:List Nat} {n:Nat} {e:Ty} {xs:List e.D} {hd:Value} (h:gQ c K μ fp v w (f0++rest)) (hn:¬ K n) (hr:(Ty.sl e).ar c.fz w [hd] xs f0)
  (hM:∀ b∈f0,b<c.w0.heap.size→∀ j,c.M b j):
  ∃ μ' fp',an c μ' hd (.cB n none)∧gQ c (λid=>K id∨id=n) μ' fp' (cp v (news [(n, .arr e xs)])) w rest∧∀ id,K id→μ' id=μ id:=by
 have FO:=hr;simp only [Ty.ar] at FO;obtain ⟨a,cap,e1,hc,_⟩:=FO;cases e1;have ha:∀ id,K id→(if id=n then Loc.qQ a (List.length xs) cap e.size else μ id)=μ id:=by grind
 refine ⟨λid=>if id=n then .qQ a (List.length xs) cap e.size else μ id,_, ?_,h.add (K':=λid=>K id∨id=n) ha (λ_=> .inl) (.inr rfl) (λ_ hi=>by cases hi) ⟨a,cap,aa5 rfl,hr,hM⟩,ha⟩;simp only [an];exact ⟨a,List.length xs,cap,e.size,by simp,rfl⟩
theorem gQ.weaken {rest:List Nat} (h:gQ c K μ fp v w rest) (hK:∀ id,K id→K' id):gQ c K' μ fp v w rest:=
 ⟨h.rel,λid x hx=>⟨hK id (h.known id x hx).1,λi hi=>hK i ((h.known id x hx).2 i hi)⟩,h.nodup,h.far,h.ok⟩
theorem fI (tk:Bool):(l:List Cm)→(x:rA l)→(n:Nat)→∀ id∈ah.bC (aX tk l x n).1,n≤id∧id<sj l n
 |[],_,_=>by intro id h;cases h
 | .b::r,x,n=>fI tk r x.2 n
 | .i _::r,x,n=>fI tk r x.2 n
 | .s::r,x,n=>fI tk r x.2 n
 | .e::r,x,n=>fI tk r x.2 n
 | .k::r,x,n=>λid h=>by
   have h:id∈(bif tk then ah.kp n else ah.jj).ids++ah.bC (aX tk r x (n+1)).1:=h;have h0:(bif tk then ah.kp n else ah.jj).ids=[]:=by cases tk<;>rfl
   rw [h0,ab0] at h;have:=fI tk r x (n+1) id h;grind [sj]
 | .ro _::r,x,n=>λid h=>by have:=fI tk r x.2 (n+1) id h;grind [sj]
 | .own _::r,x,n=>λid h=>by
   have h:id∈n::ah.bC (aX tk r x.2 (n+1)).1:=h;have l1:=gg r (n+1);simp only [sj];rcases abF.1 h with h|h
   . omega
   . have:=fI tk r x.2 (n+1) id h;omega
 | .mut _::r,x,n=>λid h=>by
   have h:id∈n::ah.bC (aX tk r x.2 (n+1)).1:=h;have l1:=gg r (n+1);simp only [sj];rcases abF.1 h with h|h
   . omega
   . have:=fI tk r x.2 (n+1) id h;omega
theorem dQ (tk:Bool):(l:List Cm)→(x:rA l)→(n:Nat)→(aX tk l x n).1.all ah.bs=true
 |[],_,_=>rfl
 | .b::r,x,n=>by simpa [aX,ah.bs] using dQ tk r x.2 n
 | .i _::r,x,n=>by simpa [aX,ah.bs] using dQ tk r x.2 n
 | .s::r,x,n=>by simpa [aX,ah.bs] using dQ tk r x.2 n
 | .e::r,x,n=>by simpa [aX,ah.bs] using dQ tk r x.2 n
 | .k::r,x,n=>by cases tk<;>simpa [aX,ah.bs] using dQ _ r x (n+1)
 | .ro _::r,x,n=>by simpa [aX,ah.bs] using dQ tk r x.2 (n+1)
 | .own _::r,x,n=>by simpa [aX,ah.bs] using dQ tk r x.2 (n+1)
 | .mut _::r,x,n=>by simpa [aX,ah.bs] using dQ tk r x.2 (n+1)
theorem fJ (tk:Bool):(l:List Cm)→(x:rA l)→(n:Nat)→(aX tk l x n).1.length=l.length
 |[],_,_=>rfl
 | .b::r,x,n=>by simpa [aX] using fJ tk r x.2 n
 | .i _::r,x,n=>by simpa [aX] using fJ tk r x.2 n
 | .s::r,x,n=>by simpa [aX] using fJ tk r x.2 n
 | .e::r,x,n=>by simpa [aX] using fJ tk r x.2 n
 | .k::r,x,n=>by simpa [aX] using fJ tk r x (n+1)
 | .ro _::r,x,n=>by simpa [aX] using fJ tk r x.2 (n+1)
 | .own _::r,x,n=>by simpa [aX] using fJ tk r x.2 (n+1)
 | .mut _::r,x,n=>by simpa [aX] using fJ tk r x.2 (n+1)
def qT (c:Ctx) (K:Nat→Prop) (μ:Nat→Loc) (v:Env) (w:World) (rest:List Nat) (n n':Nat) (ns:List (Nat×bK)) (R:(Nat→Loc)→Prop):Prop:=
 ∃ μ' fp',R μ'∧gQ c (λid=>K id∨(n≤id∧id<n')) μ' fp' (cp v (news ns)) w rest∧∀ id,K id→μ' id=μ id
theorem fK {S:Nat→Prop} (tk:Bool) (hS:∀ b,S b→c.S b∧c.w0.heap[b]? =w.heap[b]?):(l:List Cm)→∀ {vs:List Value} {x:rA l} {f rest:List Nat} {n:Nat} {K:Nat→Prop} {μ:Nat→Loc} {fp:Nat→List Nat} {v:Env},
  gQ c K μ fp v w (f++rest)→aQ S w l vs x f→gX c tk l vs n→(∀ b∈f,b<c.w0.heap.size→∀ j,c.M b j)→(∀ id,n≤id→id<sj l n→¬ K id)→
  qT c K μ v w rest n (sj l n) (aX tk l x n).2.1 λμ'=>ai c μ' vs (aX tk l x n).1
 |[],vs,x,f,rest,n,K,μ,fp,v,h,hr,_,_,_=>by
  simp only [aQ] at hr;obtain ⟨rfl,rfl⟩:=hr;exact ⟨μ,fp,by simp [aX,ai],h.weaken λ_=> .inl,λ_ _=>rfl⟩
 | .b::r,vs,x,f,rest,n,K,μ,fp,v,h,hr,ht,hM,hk=>by
   simp only [aQ] at hr;obtain ⟨aZ,rfl,hr⟩:=hr;obtain ⟨μ',fp',h1,h2,h3⟩:=fK tk hS r h hr ht hM hk;exact ⟨μ',fp',by simp only [aX,ai,an];grind,h2,h3⟩
 | .i k::r,vs,x,f,rest,n,K,μ,fp,v,h,hr,ht,hM,hk=>by
   simp only [aQ] at hr;obtain ⟨aZ,rfl,hr⟩:=hr;obtain ⟨μ',fp',h1,h2,h3⟩:=fK tk hS r h hr ht hM hk;exact ⟨μ',fp',by simp only [aX,ai,an];grind,h2,h3⟩
 | .s::r,vs,x,f,rest,n,K,μ,fp,v,h,hr,ht,hM,hk=>by
   simp only [aQ] at hr;obtain ⟨aZ,rfl,hl,hr⟩:=hr;obtain ⟨μ',fp',h1,h2,h3⟩:=fK tk hS r h hr ht hM hk;exact ⟨μ',fp',by simp only [aX,ai,an];grind,h2,h3⟩
 | .e::r,vs,x,f,rest,n,K,μ,fp,v,h,hr,ht,hM,hk=>by
   simp only [aQ] at hr;obtain ⟨_,aZ,rfl,hl,hr⟩:=hr;obtain ⟨μ',fp',h1,h2,h3⟩:=fK tk hS r h hr ht hM hk;exact ⟨μ',fp',by simp only [aX,ai,an];grind,h2,h3⟩
 | .k::r,vs,x,f,rest,n,K,μ,fp,v,h,hr,ht,hM,hk=>by
   simp only [aQ] at hr;obtain ⟨v0,aZ,rfl,hx,hr⟩:=hr;simp only [gX] at ht;have l1:=gg r (n+1);obtain ⟨μ',fp',h1,h2,h3⟩:=fK tk hS r h hr ht.2 hM (λid g1 g2=>hk id (by omega) g2);refine ⟨μ',fp', ?_,h2.weaken λid hi=>hi.imp (λh=>h) λg=>⟨by omega,g.2⟩,h3⟩;simp only [aX,ai];refine ⟨_,_,rfl, ?_,h1⟩;cases tk with
   |false=>exact hx
   |true=>exact ⟨(ht.1 rfl).symm,hx⟩
 | .ro e::r,vs,x,f,rest,n,K,μ,fp,v,h,hr,ht,hM,hk=>by
   simp only [aQ] at hr;obtain ⟨v0,aZ,rfl,hx,hr⟩:=hr;simp only [gX] at ht;have l1:=gg r (n+1);obtain ⟨μ',fp',h1,h2,h3⟩:=fK tk hS r h hr ht.2 hM (λid g1 g2=>hk id (by omega) g2);refine ⟨μ',fp', ?_,h2.weaken λid hi=>hi.imp (λh=>h) λg=>⟨by omega,g.2⟩,h3⟩;simp only [aX,ai,an];refine ⟨_,_,rfl,⟨by grind [Ty.dM],λk hk=> ?_⟩,h1⟩;cases tk with
   |false=>cases hk
   |true=>cases hk;grind
 | .own e::r,vs,x,f,rest,n,K,μ,fp,v,h,hr,ht,hM,hk=>by
   simp only [aQ] at hr;obtain ⟨v0,aZ,f1,f2,rfl,rfl,hx,hr⟩:=hr;have l1:=gg r (n+1);simp only [sj] at hk;obtain ⟨xb,GQ,g1,g2,g3⟩:=gQ.TP (rest:=f2++rest) (by rw [← acj];exact h) (hk n (abE n) (by omega)) (Ty.cZ (show Fz.le ⟨S,w⟩ c.fz from hS) _ hx) (by grind);obtain ⟨μ',fp',h1,h2,h3⟩:=fK tk hS r g2 hr ht (by grind) (by grind);refine ⟨μ',fp', ?_,h2.weaken λid hi=> ?_,by grind⟩
   . simp only [aX,ai]
     exact ⟨_,_,rfl,by grind [an.mono,id,ah.ids,List.mem_singleton],h1⟩
   grind [sj]
 | .mut e::r,vs,x,f,rest,n,K,μ,fp,v,h,hr,ht,hM,hk=>by
   simp only [aQ] at hr;obtain ⟨v0,aZ,f1,f2,rfl,rfl,hx,hr⟩:=hr;have l1:=gg r (n+1);simp only [sj] at hk;obtain ⟨xb,GQ,g1,g2,g3⟩:=gQ.TP (rest:=f2++rest) (by rw [← acj];exact h) (hk n (abE n) (by omega)) (Ty.cZ (show Fz.le ⟨S,w⟩ c.fz from hS) _ hx) (by grind);obtain ⟨μ',fp',h1,h2,h3⟩:=fK tk hS r g2 hr ht (by grind) (by grind);refine ⟨μ',fp', ?_,h2.weaken λid hi=> ?_,by grind⟩
   . simp only [aX,ai]
     exact ⟨_,_,rfl,by grind [an.mono,id,ah.ids,List.mem_singleton],h1⟩
   grind [sj]
end
theorem sk (f1 f2 g1 g2:List Nat):(f1++f2++(g1++g2)).Perm ((f1++g1)++(f2++g2)):=by grind
def cC (S:Nat→Prop) (w:World):(it:Item)→Value→rA it.cs→List Nat→List (Nat×Nat×Nat)→Prop
 |⟨false,a,cs⟩,v,x,f,g=>g=[]∧aQ S w cs v.cells.toList x f∧(a=true→∃ us,v= .agg us)∧(a=false→v.oneCell'=true)
 |⟨true,_,cs⟩,v,x,f,g=>∃ B o C E,g=[(B,o,cs.length)]∧v= .pointer (some ⟨B,o,none⟩)∧w.heap[B]? =some (.cells C E (0,0))∧o+cs.length≤C.size∧aQ S w cs (aE w B o cs.length) x f
def aU (S:Nat→Prop) (w:World):(l:List Item)→List Value→au l→List Nat→List (Nat×Nat×Nat)→Prop
 |[],vs,_,f,g=>vs=[]∧f=[]∧g=[]
 |it::r,vs,x,f,g=>∃ v aZ f1 f2 g1 g2,vs=v::aZ∧f=f1++f2∧g=g1++g2∧cC S w it v x.1 f1 g1∧aU S w r aZ x.2 f2 g2
theorem aU.length {S:Nat→Prop} {w:World}:(l:List Item)→{vs:List Value}→{x:au l}→{f:List Nat}→{g:List (Nat×Nat×Nat)}→aU S w l vs x f g→vs.length=l.length
 |[],_,_,_,_,h=>by grind [aU]
 |it::r,_,_,_,_,h=>by simp only [aU] at h;obtain ⟨v,aZ,f1,f2,g1,g2,rfl,_,_,_,h⟩:=h;simp [aU.length r h]
def Qj (c:Ctx) (tk:Bool) (w:World):Item→Value→Nat→Prop
 |⟨false,_,cs⟩,v,n=>gX c tk cs v.cells.toList n
 |⟨true,_,cs⟩,v,n=>∀ B o,v= .pointer (some ⟨B,o,none⟩)→gX c tk cs (aE w B o cs.length) (n+1)
def lP (c:Ctx) (tk:Bool) (w:World):List Item→List Value→Nat→Prop
 |it::r,v::vs,n=>Qj c tk w it v n∧lP c tk w r vs (A2 it n)
 |_,_,_=>True
section
variable {c:Ctx} {K K':Nat→Prop} {μ μ':Nat→Loc} {fp:Nat→List Nat} {v:Env} {w:World}
theorem Lx {a:Bool} {d:Value} {ds:List ah} (h:ai c μ d.cells.toList ds) (h1:a=true→∃ us,d= .agg us) (h2:a=false→d.oneCell'=true):an c μ d (Ae a ds):=by
 cases a with
 |true=>
  obtain ⟨us,rfl⟩:=h1 rfl;simp only [Ae,ae4,an];exact ⟨us,rfl,h⟩
 |false=>
  rw [gf (h2 rfl)] at h;simp only [Ae];cases ds with
  |nil=>simp [ai] at h
  |cons y ds=>
   grind [ai]
theorem Ip {S:Nat→Prop} (tk:Bool) (hS:∀ b,S b→c.S b∧c.w0.heap[b]? =w.heap[b]?):(it:Item)→∀ {d:Value} {x:rA it.cs} {f rest:List Nat} {g:List (Nat×Nat×Nat)} {n:Nat} {K:Nat→Prop} {μ:Nat→Loc} {fp:Nat→List Nat} {v:Env},
  gQ c K μ fp v w (f++g.map (·.1)++rest)→cC S w it d x f g→Qj c tk w it d n→(∀ b∈f,b<c.w0.heap.size→∀ j,c.M b j)→
  (∀ B o m,(B,o,m)∈g→B<c.w0.heap.size→∀ j,j<m→c.M B (o+j))→(∀ id,n≤id→id<A2 it n→¬ K id)→
  qT c K μ v w rest n (A2 it n) (j1 tk it x n).2.1 λμ'=>an c μ' d (j1 tk it x n).1
 |⟨false,a,cs⟩,d,x,f,rest,g,n,K,μ,fp,v,h,hr,ht,hM,_,hk=>by
  simp only [cC] at hr;obtain ⟨rfl,hr,h1,h2⟩:=hr;obtain ⟨μ',fp',g1,g2,g3⟩:=fK tk hS cs (by simpa using h) hr ht hM hk;exact ⟨μ',fp',Lx g1 h1 h2,g2,g3⟩
 |⟨true,a,cs⟩,d,x,f,rest,g,n,K,μ,fp,v,h,hr,ht,hM,hG,hk=>by
  simp only [cC] at hr;obtain ⟨B,o,C,E,rfl,rfl,hb,hC,hr⟩:=hr;have hk:∀ id,n≤id→id<sj cs (n+1)→¬ K id:=hk;have l1:=gg cs (n+1);obtain ⟨xb,GQ,g1,g2,g3⟩:=fK tk hS cs (rest:=[B]++rest) (by simpa using h) hr (ht B o rfl) hM (by grind);have hn:¬ (K n∨n+1≤n∧n<sj cs (n+1)):=by grind
  have ha:∀ id,(K id∨n+1≤id∧id<sj cs (n+1))→(if id=n then Loc.at B o else xb id)=xb id:=by grind
  have hl:(aX tk cs x (n+1)).1.length=cs.length:=fJ tk cs x (n+1);have zN:=fI tk cs x (n+1);have mF:cz c (λid=>if id=n then Loc.at B o else xb id) w n [B] (.var (aX tk cs x (n+1)).1):=by
   refine ⟨B,o,C,E,aa5 rfl,rfl,hb,by grind, ?_,dQ tk cs x (n+1),by grind⟩;grind [ai.mono,id]
  refine ⟨λid=>if id=n then Loc.at B o else xb id,λk=>if k=n then [B] else GQ k, ?_, ?_, ?_⟩
  . show an c _ _ (.vptr n 0)
    simp only [an];exact ⟨B,o,by simp,rfl⟩
  . show gQ c _ _ _ (cp v (news ((aX tk cs x (n+1)).2.1++[(n, .var (aX tk cs x (n+1)).1)]))) w rest
    rw [jo,dn];refine g2.add (μ':=λid=>if id=n then Loc.at B o else xb id) ha (λid hi=> ?_) (.inr ⟨abE n,show n<sj cs (n+1) by omega⟩) (λid hi=> ?_) mF
    . exact hi.imp (λh=>h) λq=>⟨by omega,q.2⟩
    . have:=zN id hi
      exact .inr ⟨by omega,this.2⟩
  grind
theorem Ai (tk:Bool):(it:Item)→(x:rA it.cs)→(n:Nat)→∀ id∈(j1 tk it x n).1.ids,n≤id∧id<A2 it n
 |⟨false,a,cs⟩,x,n=>by
  intro id h;refine fI tk cs x n id ?_;cases a with
  |true=>exact h
  |false=>
   have h:id∈((aX tk cs x n).1.headD .dead).ids:=h;cases hy:(aX tk cs x n).1 with
   |nil=>rw [hy] at h;cases h
   |cons y l=>grind [List.headD_cons,ah.bC]
 |⟨true,a,cs⟩,x,n=>by
  intro id h;have h:id∈[n]:=h;simp only [acq] at h;have l1:=gg cs (n+1);show n≤id∧id<sj cs (n+1);omega
theorem pK {S:Nat→Prop} (tk:Bool) (hS:∀ b,S b→c.S b∧c.w0.heap[b]? =w.heap[b]?):(l:List Item)→∀ {vs:List Value} {x:au l} {f rest:List Nat} {g:List (Nat×Nat×Nat)} {n:Nat} {K:Nat→Prop} {μ:Nat→Loc} {fp:Nat→List Nat} {v:Env},
  gQ c K μ fp v w (f++g.map (·.1)++rest)→aU S w l vs x f g→lP c tk w l vs n→(∀ b∈f,b<c.w0.heap.size→∀ j,c.M b j)→
  (∀ B o m,(B,o,m)∈g→B<c.w0.heap.size→∀ j,j<m→c.M B (o+j))→(∀ id,n≤id→id<mH l n→¬ K id)→
  qT c K μ v w rest n (mH l n) (dA tk l x n).2.1 λμ'=>ai c μ' vs (dA tk l x n).1
 |[],vs,x,f,rest,g,n,K,μ,fp,v,h,hr,_,_,_,_=>by
  simp only [aU] at hr;obtain ⟨rfl,rfl,rfl⟩:=hr;exact ⟨μ,fp,by simp [dA,ai],gQ.weaken (show gQ c K μ fp v w rest by simpa using h) λ_=> .inl,λ_ _=>rfl⟩
 |it::r,vs,x,f,rest,g,n,K,μ,fp,v,h,hr,ht,hM,hG,hk=>by
  simp only [aU] at hr;obtain ⟨d,aZ,f1,f2,g1,g2,rfl,rfl,rfl,h1,hr⟩:=hr;simp only [lP] at ht;have hk:∀ id,n≤id→id<mH r (A2 it n)→¬ K id:=hk;have l1:=Ei it n;have l2:=uB r (A2 it n);have hp:(f1++f2++(g1++g2).map (·.1)++rest).Perm (f1++g1.map (·.1)++(f2++g2.map (·.1)++rest)):=by grind
  obtain ⟨xb,GQ,q1,q2,q3⟩:=Ip tk hS it (h.perm hp) h1 ht.1 (by grind) (by grind) (by grind);obtain ⟨μ',fp',p1,p2,p3⟩:=pK tk hS r q2 hr ht.2 (by grind) (by grind) (by grind);refine ⟨μ',fp', ?_, ?_,by grind⟩
  . simp only [dA,ai]
    refine ⟨_,_,rfl,by grind [an.mono,id,Ai], ?_⟩;grind [pJ]
  grind [dA,jo,dn,pJ,id,mH]
end
end
section
open Go
variable {z:Fz}
section
variable {c:Ctx} {μ:Nat→Loc} {fp:Nat→List Nat} {v:Env} {w:World} {E EL:Env}
theorem kC.nil:kC c fp v E [] []:=⟨by simp,by simp,by simp,by simp⟩
theorem TQ {e:Ty} {d:ah} {z:List e.D×List Nat} (h:Im E e d=some z):iE E e d=some z:=by
 unfold Im at h;grind
theorem gN (h:cJ c μ fp v w) (ev:Ev c w) (hE:∀ id x,E id=some x→v id=some x) (B7:∀ id x,EL id=some x→v id=some x) {S':Nat→Prop} (hS:∀ b,c.S b→S' b) (hP:∀ id,EL id≠none→∀ b∈fp id,S' b):
  (l:List Cm)→{vs:List Value}→{ds:List ah}→{r:rA l×List Nat}→ai c μ vs ds→eO E EL l ds=some r→r.2.Nodup→∃ f,aQ S' w l vs r.1 f∧kC c fp v E r.2 f
 |[],vs,ds,r,hr,hf,_=>by
  cases ds with
  |nil=>
   cases hf;simp_all [ai,aQ,kC.nil]
  |cons d q=>cases hf
 | .b::l,vs,ds,r,hr,hf,hn=>by
   cases ds with
   |nil=>cases hf
   |cons d q=>
    cases d<;>try (cases hf;done)
    rename_i x;obtain ⟨y,hy,rfl⟩:=Option.map_eq_some_iff.1 (show ((eO E EL l q).map λy=>((x,y.1),y.2))=some r from hf);simp only [ai] at hr;obtain ⟨v0,aZ,rfl,hx,hr⟩:=hr;simp only [an] at hx;subst hx;obtain ⟨f,h1,h2⟩:=gN h ev hE B7 hS hP l hr hy hn;exact ⟨f,by simp only [aQ];exact ⟨aZ,rfl,h1⟩,h2⟩
 | .i k::l,vs,ds,r,hr,hf,hn=>by
   cases ds with
   |nil=>cases hf
   |cons d q=>
    cases d<;>try (cases hf;done)
    rename_i k' x;replace hf:(if k=k' then (eO E EL l q).map λy=>((x,y.1),y.2) else none)=some r:=hf;split at hf
    case isFalse=>cases hf
    rename_i e;subst e;obtain ⟨y,hy,rfl⟩:=Option.map_eq_some_iff.1 hf;simp only [ai] at hr;obtain ⟨v0,aZ,rfl,hx,hr⟩:=hr;simp only [an] at hx;subst hx;obtain ⟨f,h1,h2⟩:=gN h ev hE B7 hS hP l hr hy hn;exact ⟨f,by simp only [aQ];exact ⟨aZ,rfl,h1⟩,h2⟩
 | .s::l,vs,ds,r,hr,hf,hn=>by
   cases ds with
   |nil=>cases hf
   |cons d q=>
    cases d<;>try (cases hf;done)
    rename_i x;obtain ⟨y,hy,rfl⟩:=Option.map_eq_some_iff.1 (show ((eO E EL l q).map λy=>((x,y.1),y.2))=some r from hf);simp only [ai] at hr;obtain ⟨v0,aZ,rfl,hx,hr⟩:=hr;simp only [an] at hx;obtain ⟨f,h1,h2⟩:=gN h ev hE B7 hS hP l hr hy hn;grind [aQ]
 | .e::l,vs,ds,r,hr,hf,hn=>by
   cases ds with
   |nil=>cases hf
   |cons d q=>
    cases d<;>try (cases hf;done)
    rename_i x;obtain ⟨y,hy,rfl⟩:=Option.map_eq_some_iff.1 (show ((eO E EL l q).map λy=>((x,y.1),y.2))=some r from hf);simp only [ai] at hr;obtain ⟨v0,aZ,rfl,hx,hr⟩:=hr;simp only [an] at hx;obtain ⟨f,h1,h2⟩:=gN h ev hE B7 hS hP l hr hy hn;exact ⟨f,by simp only [aQ];grind,h2⟩
 | .k::l,vs,ds,r,hr,hf,hn=>by
   cases ds with
   |nil=>cases hf
   |cons d q=>
    replace hf:(if d.bs=true then eO E EL l q else none)=some r:=hf;split at hf
    case isFalse=>cases hf
    rename_i hd;simp only [ai] at hr;obtain ⟨v0,aZ,rfl,hv,hr⟩:=hr;obtain ⟨f,h1,h2⟩:=gN h ev hE B7 hS hP l hr hf hn;exact ⟨f,by simp only [aQ];exact ⟨v0,aZ,rfl,hv.iA hd,h1⟩,h2⟩
 | .ro e::l,vs,ds,r,hr,hf,hn=>by
   cases ds with
   |nil=>cases hf
   |cons d q=>
    replace hf:((rY EL e d).bind λx=>(eO E EL l q).map λy=>((x,y.1),y.2))=some r:=hf;obtain ⟨x,hx,hf⟩:=Option.bind_eq_some_iff.1 hf;obtain ⟨y,hy,rfl⟩:=Option.map_eq_some_iff.1 hf;simp only [ai] at hr;obtain ⟨v0,aZ,rfl,hv,hr⟩:=hr;obtain ⟨f,h1,h2⟩:=gN h ev hE B7 hS hP l hr hy hn;exact ⟨f,by simp only [aQ];exact ⟨v0,aZ,rfl,by grind [nX],h1⟩,h2⟩
 | .own e::l,vs,ds,r,hr,hf,hn=>by
   cases ds with
   |nil=>cases hf
   |cons d q=>
    replace hf:((iE E e d).bind λz=>(eO E EL l q).map λy=>((z.1,y.1),z.2++y.2))=some r:=hf;obtain ⟨z,hz,hf⟩:=Option.bind_eq_some_iff.1 hf;obtain ⟨y,hy,rfl⟩:=Option.map_eq_some_iff.1 hf;simp only [ai] at hr;obtain ⟨v0,aZ,rfl,hv,hr⟩:=hr;obtain ⟨f,h1,h2⟩:=gN h ev hE B7 hS hP l hr hy (by grind);obtain ⟨f0,g1,g2⟩:=gM h hE hv hz;exact ⟨f0++f,by simp only [aQ];exact ⟨v0,aZ,f0,f,rfl,rfl,Ty.cZ (show Fz.le c.fz ⟨S',w⟩ from λb hb=>⟨hS b hb,ev.S b hb⟩) _ g1,h1⟩,g2.append h h2 hn⟩
 | .mut e::l,vs,ds,r,hr,hf,hn=>by
   cases ds with
   |nil=>cases hf
   |cons d q=>
    replace hf:((Im E e d).bind λz=>(eO E EL l q).map λy=>((z.1,y.1),z.2++y.2))=some r:=hf;obtain ⟨z,hz,hf⟩:=Option.bind_eq_some_iff.1 hf;obtain ⟨y,hy,rfl⟩:=Option.map_eq_some_iff.1 hf;simp only [ai] at hr;obtain ⟨v0,aZ,rfl,hv,hr⟩:=hr;obtain ⟨f,h1,h2⟩:=gN h ev hE B7 hS hP l hr hy (by grind);obtain ⟨f0,g1,g2⟩:=gM h hE hv (TQ hz);exact ⟨f0++f,by simp only [aQ];exact ⟨v0,aZ,f0,f,rfl,rfl,Ty.cZ (show Fz.le c.fz ⟨S',w⟩ from λb hb=>⟨hS b hb,ev.S b hb⟩) _ g1,h1⟩,g2.append h h2 hn⟩
structure GoneB (c:Ctx) (fp:Nat→List Nat) (v E:Env) (ids:List Nat) (f:List Nat) (g:List (Nat×Nat×Nat)):Prop where
 mem:∀ b∈f++g.map (·.1),∃ id∈ids,b∈fp id
 nodup:(f++g.map (·.1)).Nodup
 there:∀ id∈ids,v id≠none∧E id≠none
 may:∀ b∈f,b<c.w0.heap.size→∀ j,c.M b j
structure B8 (c:Ctx) (fp:Nat→List Nat) (v E:Env) (ids:List Nat) (f:List Nat) (g:List (Nat×Nat×Nat)):Prop extends GoneB c fp v E ids f g where
 TR:∀ B o m,(B,o,m)∈g→B<c.w0.heap.size→∀ j,j<m→c.M B (o+j)
theorem GoneB.nil:GoneB c fp v E [] [] []:=⟨by simp,by simp,by simp,by simp⟩
theorem GoneB.append (h:cJ c μ fp v w) {ids zL f f':List Nat} {g g':List (Nat×Nat×Nat)} (a:GoneB c fp v E ids f g) (b:GoneB c fp v E zL f' g') (hn:(ids++zL).Nodup):
  GoneB c fp v E (ids++zL) (f++f') (g++g'):=by
 have hp:(f++f'++(g++g').map (·.1)).Perm ((f++g.map (·.1))++(f'++g'.map (·.1))):=by grind
 constructor
 . intro x hx
   rcases abp.1 (hp.mem_iff.1 hx) with hx|hx
   . obtain ⟨i,hi,hm⟩:=a.mem x hx;grind
   . obtain ⟨i,hi,hm⟩:=b.mem x hx;grind
 . rw [hp.nodup_iff,aca]
   refine ⟨a.nodup,b.nodup,λx hx y hy e=> ?_⟩;subst e;obtain ⟨i,hi,hm⟩:=a.mem x hx;obtain ⟨j,hj,oH⟩:=b.mem x hy;have:i≠j:=by grind
   exact h.sep i j this (a.there i hi).1 (b.there j hj).1 x hm oH
 . intro i hi
   rcases abp.1 hi with hi|hi
   . exact a.there i hi
   . exact b.there i hi
 . intro x hx
   rcases abp.1 hx with hx|hx
   . exact a.may x hx
   . exact b.may x hx
theorem B8.append (h:cJ c μ fp v w) {ids zL f f':List Nat} {g g':List (Nat×Nat×Nat)} (a:B8 c fp v E ids f g) (b:B8 c fp v E zL f' g') (hn:(ids++zL).Nodup):
  B8 c fp v E (ids++zL) (f++f') (g++g'):=by
 refine ⟨a.toGoneB.append h b.toGoneB hn,λB o m hx=> ?_⟩;rcases abp.1 hx with hx|hx
 . exact a.TR B o m hx
 . exact b.TR B o m hx
theorem Ly {d:ah} {x:Value} (h:an c μ x d) (ha:isAgg d=true):∃ us,x= .agg us:=by
 cases d<;>simp [isAgg] at ha;simp only [an] at h;grind
theorem Lz {d:ah} {x:Value} (h:an c μ x d) (ha:isAgg d=false) (hc:d.cells.all ah.bs=true):x.oneCell'=true:=by
 have hd:d.cells=[d]:=by cases d<;>first|rfl|cases ha
 rw [hd] at hc;simp only [ack,List.all_nil,afy] at hc;exact h.iA hc
theorem LA (h:cJ c μ fp v w) (ev:Ev c w) (hE:∀ id x,E id=some x→v id=some x) (B7:∀ id x,EL id=some x→v id=some x) {S':Nat→Prop} (hS:∀ b,c.S b→S' b) (hP:∀ id,EL id≠none→∀ b∈fp id,S' b):
  (it:Item)→{x:Value}→{d:ah}→{r:rA it.cs×List Nat}→an c μ x d→Gx E EL it d=some r→r.2.Nodup→∃ f g,cC S' w it x r.1 f g∧B8 c fp v E r.2 f g
 |⟨false,a,cs⟩,x,d,r,hr,hf,hn=>by
  replace hf:(if isAgg d=a∧d.cells.all ah.bs=true then eO E EL cs d.cells else none)=some r:=hf;split at hf
  case isFalse=>cases hf
  rename_i hc;obtain ⟨f,h1,h2⟩:=gN h ev hE B7 hS hP cs (hr.cells hc.2) hf hn;refine ⟨f,[],⟨rfl,h1,λe=>Ly hr (hc.1.trans e),λe=>Lz hr (hc.1.trans e) hc.2⟩,⟨⟨by simpa using h2.mem,by simpa using h2.nodup,h2.there,h2.may⟩,λ_ _ _ hb=>by cases hb⟩⟩
 |⟨true,a,cs⟩,x,d,r,hr,hf,hn=>by
  cases d<;>try (cases hf;done)
  rename_i id off;replace hf:(match E id with|some (.var l)=>if off+cs.length≤l.length then (eO E EL cs ((l.drop off).take cs.length)).map λy=>(y.1,id::y.2) else none|_=>none)=some r:=hf;split at hf
  case h_2=>cases hf
  rename_i l hid;split at hf
  case isFalse=>cases hf
  rename_i hl;obtain ⟨y,hy,rfl⟩:=Option.map_eq_some_iff.1 hf;have hv:=hE id _ hid;obtain ⟨B,o,C,T,h1,h2,h3,h4,h5,h6,h7⟩:=h.rel id _ hv;simp only [an] at hr;obtain ⟨B',o',e1,rfl⟩:=hr;rw [h1] at e1;cases e1;have fq:aE w B (o+off) cs.length=((aE w B o l.length).drop off).take cs.length:=im (by omega);rw [acu] at hn;obtain ⟨f,g1,g2⟩:=gN h ev hE B7 hS hP cs ((h5.drop off).take cs.length) hy hn.2;refine ⟨f,[(B,o+off,cs.length)],⟨B,o+off,C,T,rfl,rfl,h3,by omega,by grind⟩, ?_⟩;have hB:B ∉ f:=by
   intro hb;obtain ⟨i,hi,hm⟩:=g2.mem B hb;have dV:i≠id:=λe=>hn.1 (e ▸ hi);exact h.sep i id dV (g2.there i hi).1 (by rw [hv];simp) B hm (by rw [h2];simp)
  refine ⟨⟨?_, ?_, ?_, ?_⟩, ?_⟩
  . intro b hb
    simp only [acd,afa,abp,acq] at hb;rcases hb with hb|rfl
    . obtain ⟨i,hi,hm⟩:=g2.mem b hb;grind
    grind
  . simp only [acd,afa,aca]
    refine ⟨g2.nodup,by simp,λa ha b hb e=> ?_⟩;grind
  . intro i hi
    rcases abF.1 hi with rfl|hi
    . grind
    . exact g2.there i hi
  . exact g2.may
  . intro B' o' m hm bS j hj
    simp only [acq,Prod.mk.injEq] at hm;obtain ⟨rfl,rfl,rfl⟩:=hm;have:=h7 bS (off+j) (by omega);grind
theorem sn (h:cJ c μ fp v w) (ev:Ev c w) (hE:∀ id x,E id=some x→v id=some x) (B7:∀ id x,EL id=some x→v id=some x) {S':Nat→Prop} (hS:∀ b,c.S b→S' b) (hP:∀ id,EL id≠none→∀ b∈fp id,S' b):
  (l:List Item)→{vs:List Value}→{ds:List ah}→{r:au l×List Nat}→ai c μ vs ds→lO E EL l ds=some r→r.2.Nodup→∃ f g,aU S' w l vs r.1 f g∧B8 c fp v E r.2 f g
 |[],vs,ds,r,hr,hf,_=>by
  cases ds with
  |nil=>
   cases hf;simp only [ai] at hr;exact ⟨[],[],by simp_all [aU],⟨GoneB.nil,by grind⟩⟩
  |cons d q=>cases hf
 |it::l,vs,ds,r,hr,hf,hn=>by
  cases ds with
  |nil=>cases hf
  |cons d q=>
   replace hf:((Gx E EL it d).bind λx=>(lO E EL l q).map λy=>((x.1,y.1),x.2++y.2))=some r:=hf;obtain ⟨z,hz,hf⟩:=Option.bind_eq_some_iff.1 hf;obtain ⟨y,hy,rfl⟩:=Option.map_eq_some_iff.1 hf;simp only [ai] at hr;obtain ⟨v0,aZ,rfl,hv,hr⟩:=hr;obtain ⟨f,g,h1,h2⟩:=sn h ev hE B7 hS hP l hr hy (by grind);obtain ⟨f0,g0,h3,h4⟩:=LA h ev hE B7 hS hP it hv hz (by grind);exact ⟨f0++f,g0++g,by simp only [aU];grind,h4.append h h2 hn⟩
def aV (z:Fz) (w:World):(l:List Cm)→List Value→List Value→kF l→List Nat→Prop
 |[],os,vs,_,f=>os=[]∧vs=[]∧f=[]
 | .b::r,os,vs,x,f=>∃ o oj aZ,os=o::oj∧vs= .bool x.1::aZ∧aV z w r oj aZ x.2 f
 | .i k::r,os,vs,x,f=>∃ o oj aZ,os=o::oj∧vs= .int k x.1::aZ∧aV z w r oj aZ x.2 f
 | .s::r,os,vs,x,f=>∃ o oj aZ,os=o::oj∧vs= .string ⟨List.toArray x.1⟩::aZ∧List.length x.1≤aM∧aV z w r oj aZ x.2 f
 | .e::r,os,vs,x,f=>∃ o oj v aZ,os=o::oj∧vs=v::aZ∧erV v x.1∧aV z w r oj aZ x.2 f
 | .k::r,os,vs,x,f=>∃ o oj aZ,os=o::oj∧vs=o::aZ∧aV z w r oj aZ x f
 | .ro _::r,os,vs,x,f=>∃ o oj aZ,os=o::oj∧vs=o::aZ∧aV z w r oj aZ x f
 | .own e::r,os,vs,x,f=>∃ o oj v aZ f1 f2,os=o::oj∧vs=v::aZ∧f=f1++f2∧(Ty.sl e).ar z w [v] x.1 f1∧aV z w r oj aZ x.2 f2
 | .mut e::r,os,vs,x,f=>∃ o oj v aZ f1 f2,os=o::oj∧vs=v::aZ∧f=f1++f2∧(Ty.sl e).ar z w [v] x.1 f1∧aV z w r oj aZ x.2 f2
def aS (z:Fz) (w:World):(l:List Cm)→List Value→n8 l→List Nat→Prop
 |[],vs,_,f=>vs=[]∧f=[]
 | .b::r,vs,x,f=>∃ v aZ,vs=v::aZ∧aS z w r aZ x f
 | .i _::r,vs,x,f=>∃ v aZ,vs=v::aZ∧aS z w r aZ x f
 | .s::r,vs,x,f=>∃ v aZ,vs=v::aZ∧aS z w r aZ x f
 | .e::r,vs,x,f=>∃ v aZ,vs=v::aZ∧aS z w r aZ x f
 | .k::r,vs,x,f=>∃ v aZ,vs=v::aZ∧aS z w r aZ x f
 | .ro _::r,vs,x,f=>∃ v aZ,vs=v::aZ∧aS z w r aZ x f
 | .own _::r,vs,x,f=>∃ v aZ,vs=v::aZ∧aS z w r aZ x f
 | .mut e::r,vs,x,f=>∃ v aZ f1 f2,vs=v::aZ∧f=f1++f2∧(Ty.sl e).ar z w [v] x.1 f1∧aS z w r aZ x.2 f2
def qf (z:Fz) (w w':World):(it:Item)→Value→si it→List Nat→Prop
 |⟨false,_,cs⟩,v,y,f=>aS z w' cs v.cells.toList y f
 |⟨true,_,cs⟩,v,y,f=>∃ B o,v= .pointer (some ⟨B,o,none⟩)∧aV z w' cs (aE w B o cs.length) (aE w' B o cs.length) y f
def dz (z:Fz) (w w':World):(l:List Item)→List Value→gA l→List Nat→Prop
 |[],vs,_,f=>vs=[]∧f=[]
 |it::r,vs,y,f=>∃ v aZ f1 f2,vs=v::aZ∧f=f1++f2∧qf z w w' it v y.1 f1∧dz z w w' r aZ y.2 f2
theorem gu {E:Env}:(l:List Cm)→{n:Nat}→{ds:List ah}→{r:kF l×List Nat}→dG E l n ds=some r→ds.length=l.length
 |[],n,ds,r,hf=>by
  cases ds with
  |nil=>rfl
  |cons d q=>cases hf
 | .b::l,n,ds,r,hf=>by
   cases ds with
   |nil=>cases hf
   |cons d q=>
    cases d<;>try (cases hf;done)
    rename_i x;obtain ⟨y,hy,rfl⟩:=Option.map_eq_some_iff.1 (show ((dG E l n q).map λy=>((x,y.1),y.2))=some r from hf);simp [gu l hy]
 | .i k::l,n,ds,r,hf=>by
   cases ds with
   |nil=>cases hf
   |cons d q=>
    cases d<;>try (cases hf;done)
    rename_i k' x;replace hf:(if k=k' then (dG E l n q).map λy=>((x,y.1),y.2) else none)=some r:=hf;split at hf
    case isFalse=>cases hf
    obtain ⟨y,hy,rfl⟩:=Option.map_eq_some_iff.1 hf;simp [gu l hy]
 | .s::l,n,ds,r,hf=>by
   cases ds with
   |nil=>cases hf
   |cons d q=>
    cases d<;>try (cases hf;done)
    rename_i x;obtain ⟨y,hy,rfl⟩:=Option.map_eq_some_iff.1 (show ((dG E l n q).map λy=>((x,y.1),y.2))=some r from hf);simp [gu l hy]
 | .e::l,n,ds,r,hf=>by
   cases ds with
   |nil=>cases hf
   |cons d q=>
    cases d<;>try (cases hf;done)
    rename_i x;obtain ⟨y,hy,rfl⟩:=Option.map_eq_some_iff.1 (show ((dG E l n q).map λy=>((x,y.1),y.2))=some r from hf);simp [gu l hy]
 | .k::l,n,ds,r,hf=>by
   cases ds with
   |nil=>cases hf
   |cons d q=>
    cases d<;>try (cases hf;done)
    rename_i k;replace hf:(if k=n then dG E l (n+1) q else none)=some r:=hf;split at hf
    case isFalse=>cases hf
    simp [gu l hf]
 | .ro e::l,n,ds,r,hf=>by
   cases ds with
   |nil=>cases hf
   |cons d q=>
    cases d<;>try (cases hf;done)
    rename_i e' xs tk;cases tk with
    |none=>cases hf
    |some k=>
     replace hf:(if k=n then dG E l (n+1) q else none)=some r:=hf;split at hf
     case isFalse=>cases hf
     simp [gu l hf]
 | .own e::l,n,ds,r,hf=>by
   cases ds with
   |nil=>cases hf
   |cons d q=>
    replace hf:((iE E e d).bind λz=>(dG E l (n+1) q).map λy=>((z.1,y.1),z.2++y.2))=some r:=hf;obtain ⟨z,hz,hf⟩:=Option.bind_eq_some_iff.1 hf;obtain ⟨y,hy,rfl⟩:=Option.map_eq_some_iff.1 hf;simp [gu l hy]
 | .mut e::l,n,ds,r,hf=>by
   cases ds with
   |nil=>cases hf
   |cons d q=>
    replace hf:((iE E e d).bind λz=>(dG E l (n+1) q).map λy=>((z.1,y.1),z.2++y.2))=some r:=hf;obtain ⟨z,hz,hf⟩:=Option.bind_eq_some_iff.1 hf;obtain ⟨y,hy,rfl⟩:=Option.map_eq_some_iff.1 hf;simp [gu l hy]
theorem gv (h:cJ c μ fp v w) (hE:∀ id x,E id=some x→v id=some x):(l:List Cm)→{n:Nat}→{os vs:List Value}→{ds:List ah}→{r:kF l×List Nat}→
  ai c μ vs ds→os.length=l.length→gX c true l os n→dG E l n ds=some r→r.2.Nodup→∃ f,aV c.fz w l os vs r.1 f∧kC c fp v E r.2 f
 |[],n,os,vs,ds,r,hr,ho,ht,hf,hn=>by
  cases ds with
  |nil=>
   cases hf;simp_all [ai,aV,acp,kC.nil]
  |cons d q=>cases hf
 |_::_,n,[],vs,ds,r,hr,ho,ht,hf,hn=>by cases ho
 | .b::l,n,o::os,vs,ds,r,hr,ho,ht,hf,hn=>by
   cases ds with
   |nil=>cases hf
   |cons d q=>
    cases d<;>try (cases hf;done)
    rename_i x;obtain ⟨y,hy,rfl⟩:=Option.map_eq_some_iff.1 (show ((dG E l n q).map λy=>((x,y.1),y.2))=some r from hf);simp only [ai] at hr;obtain ⟨v0,aZ,rfl,hx,hr⟩:=hr;simp only [an] at hx;subst hx;obtain ⟨f,h1,h2⟩:=gv h hE l hr (by simpa using ho) ht hy hn;exact ⟨f,by simp only [aV];grind,h2⟩
 | .i k::l,n,o::os,vs,ds,r,hr,ho,ht,hf,hn=>by
   cases ds with
   |nil=>cases hf
   |cons d q=>
    cases d<;>try (cases hf;done)
    rename_i k' x;replace hf:(if k=k' then (dG E l n q).map λy=>((x,y.1),y.2) else none)=some r:=hf;split at hf
    case isFalse=>cases hf
    rename_i e;subst e;obtain ⟨y,hy,rfl⟩:=Option.map_eq_some_iff.1 hf;simp only [ai] at hr;obtain ⟨v0,aZ,rfl,hx,hr⟩:=hr;simp only [an] at hx;subst hx;obtain ⟨f,h1,h2⟩:=gv h hE l hr (by simpa using ho) ht hy hn;exact ⟨f,by simp only [aV];grind,h2⟩
 | .s::l,n,o::os,vs,ds,r,hr,ho,ht,hf,hn=>by
   cases ds with
   |nil=>cases hf
   |cons d q=>
    cases d<;>try (cases hf;done)
    rename_i x;obtain ⟨y,hy,rfl⟩:=Option.map_eq_some_iff.1 (show ((dG E l n q).map λy=>((x,y.1),y.2))=some r from hf);simp only [ai] at hr;obtain ⟨v0,aZ,rfl,hx,hr⟩:=hr;simp only [an] at hx;obtain ⟨f,h1,h2⟩:=gv h hE l hr (by simpa using ho) ht hy hn;exact ⟨f,by simp only [aV];grind,h2⟩
 | .e::l,n,o::os,vs,ds,r,hr,ho,ht,hf,hn=>by
   cases ds with
   |nil=>cases hf
   |cons d q=>
    cases d<;>try (cases hf;done)
    rename_i x;obtain ⟨y,hy,rfl⟩:=Option.map_eq_some_iff.1 (show ((dG E l n q).map λy=>((x,y.1),y.2))=some r from hf);simp only [ai] at hr;obtain ⟨v0,aZ,rfl,hx,hr⟩:=hr;simp only [an] at hx;obtain ⟨f,h1,h2⟩:=gv h hE l hr (by simpa using ho) ht hy hn;exact ⟨f,by simp only [aV];grind,h2⟩
 | .k::l,n,o::os,vs,ds,r,hr,ho,ht,hf,hn=>by
   cases ds with
   |nil=>cases hf
   |cons d q=>
    cases d<;>try (cases hf;done)
    rename_i k;replace hf:(if k=n then dG E l (n+1) q else none)=some r:=hf;split at hf
    case isFalse=>cases hf
    rename_i ek;subst ek;simp only [ai] at hr;obtain ⟨v0,aZ,rfl,hx,hr⟩:=hr;simp only [an] at hx;simp only [gX] at ht;obtain ⟨f,h1,h2⟩:=gv h hE l hr (by simpa using ho) ht.2 hf hn;have wX:v0=o:=by grind
    exact ⟨f,by simp only [aV];grind,h2⟩
 | .ro e::l,n,o::os,vs,ds,r,hr,ho,ht,hf,hn=>by
   cases ds with
   |nil=>cases hf
   |cons d q=>
    cases d<;>try (cases hf;done)
    rename_i e' xs tk;cases tk with
    |none=>cases hf
    |some k=>
     replace hf:(if k=n then dG E l (n+1) q else none)=some r:=hf;split at hf
     case isFalse=>cases hf
     rename_i ek;subst ek;simp only [ai] at hr;obtain ⟨v0,aZ,rfl,hx,hr⟩:=hr;simp only [an] at hx;simp only [gX] at ht;obtain ⟨f,h1,h2⟩:=gv h hE l hr (by simpa using ho) ht.2 hf hn;have wX:v0=o:=(by grind)
     exact ⟨f,by simp only [aV];grind,h2⟩
 | .own e::l,n,o::os,vs,ds,r,hr,ho,ht,hf,hn=>by
   cases ds with
   |nil=>cases hf
   |cons d q=>
    replace hf:((iE E e d).bind λz=>(dG E l (n+1) q).map λy=>((z.1,y.1),z.2++y.2))=some r:=hf;obtain ⟨z,hz,hf⟩:=Option.bind_eq_some_iff.1 hf;obtain ⟨y,hy,rfl⟩:=Option.map_eq_some_iff.1 hf;simp only [ai] at hr;obtain ⟨v0,aZ,rfl,hv,hr⟩:=hr;obtain ⟨f,h1,h2⟩:=gv h hE l hr (by simpa using ho) ht hy (by grind);obtain ⟨f0,g1,g2⟩:=gM h hE hv hz;exact ⟨f0++f,by simp only [aV];grind,g2.append h h2 hn⟩
 | .mut e::l,n,o::os,vs,ds,r,hr,ho,ht,hf,hn=>by
   cases ds with
   |nil=>cases hf
   |cons d q=>
    replace hf:((iE E e d).bind λz=>(dG E l (n+1) q).map λy=>((z.1,y.1),z.2++y.2))=some r:=hf;obtain ⟨z,hz,hf⟩:=Option.bind_eq_some_iff.1 hf;obtain ⟨y,hy,rfl⟩:=Option.map_eq_some_iff.1 hf;simp only [ai] at hr;obtain ⟨v0,aZ,rfl,hv,hr⟩:=hr;obtain ⟨f,h1,h2⟩:=gv h hE l hr (by simpa using ho) ht hy (by grind);obtain ⟨f0,g1,g2⟩:=gM h hE hv hz;exact ⟨f0++f,by simp only [aV];grind,g2.append h h2 hn⟩
theorem gw (h:cJ c μ fp v w) (hE:∀ id x,E id=some x→v id=some x):(l:List Cm)→{n:Nat}→{x:rA l}→{vs:List Value}→{r:n8 l×List Nat}→
  ai c μ vs (aX true l x n).1→gr E l n=some r→r.2.Nodup→∃ f,aS c.fz w l vs r.1 f∧kC c fp v E r.2 f
 |[],n,x,vs,r,hr,hf,hn=>by
  cases hf;simp only [aX,ai] at hr;exact ⟨[],by simp only [aS];exact ⟨hr,trivial⟩,kC.nil⟩
 | .b::l,n,x,vs,r,hr,hf,hn=>by
   simp only [aX,ai] at hr;obtain ⟨v0,aZ,rfl,_,hr⟩:=hr;obtain ⟨f,h1,h2⟩:=gw h hE l hr (show gr E l n=some r from hf) hn;exact ⟨f,by simp only [aS];exact ⟨v0,aZ,rfl,h1⟩,h2⟩
 | .i _::l,n,x,vs,r,hr,hf,hn=>by
   simp only [aX,ai] at hr;obtain ⟨v0,aZ,rfl,_,hr⟩:=hr;obtain ⟨f,h1,h2⟩:=gw h hE l hr (show gr E l n=some r from hf) hn;exact ⟨f,by simp only [aS];exact ⟨v0,aZ,rfl,h1⟩,h2⟩
 | .s::l,n,x,vs,r,hr,hf,hn=>by
   simp only [aX,ai] at hr;obtain ⟨v0,aZ,rfl,_,hr⟩:=hr;obtain ⟨f,h1,h2⟩:=gw h hE l hr (show gr E l n=some r from hf) hn;exact ⟨f,by simp only [aS];exact ⟨v0,aZ,rfl,h1⟩,h2⟩
 | .e::l,n,x,vs,r,hr,hf,hn=>by
   simp only [aX,ai] at hr;obtain ⟨v0,aZ,rfl,_,hr⟩:=hr;obtain ⟨f,h1,h2⟩:=gw h hE l hr (show gr E l n=some r from hf) hn;exact ⟨f,by simp only [aS];exact ⟨v0,aZ,rfl,h1⟩,h2⟩
 | .k::l,n,x,vs,r,hr,hf,hn=>by
   simp only [aX,ai] at hr;obtain ⟨v0,aZ,rfl,_,hr⟩:=hr;obtain ⟨f,h1,h2⟩:=gw h hE l hr (show gr E l (n+1)=some r from hf) hn;exact ⟨f,by simp only [aS];exact ⟨v0,aZ,rfl,h1⟩,h2⟩
 | .ro _::l,n,x,vs,r,hr,hf,hn=>by
   simp only [aX,ai] at hr;obtain ⟨v0,aZ,rfl,_,hr⟩:=hr;obtain ⟨f,h1,h2⟩:=gw h hE l hr (show gr E l (n+1)=some r from hf) hn;exact ⟨f,by simp only [aS];exact ⟨v0,aZ,rfl,h1⟩,h2⟩
 | .own _::l,n,x,vs,r,hr,hf,hn=>by
   simp only [aX,ai] at hr;obtain ⟨v0,aZ,rfl,_,hr⟩:=hr;obtain ⟨f,h1,h2⟩:=gw h hE l hr (show gr E l (n+1)=some r from hf) hn;exact ⟨f,by simp only [aS];exact ⟨v0,aZ,rfl,h1⟩,h2⟩
 | .mut e::l,n,x,vs,r,hr,hf,hn=>by
   simp only [aX,ai] at hr;obtain ⟨v0,aZ,rfl,hv,hr⟩:=hr;replace hf:((iE E e (.cB n none)).bind λz=>(gr E l (n+1)).map λy=>((z.1,y.1),z.2++y.2))=some r:=hf;obtain ⟨z,hz,hf⟩:=Option.bind_eq_some_iff.1 hf;obtain ⟨y,hy,rfl⟩:=Option.map_eq_some_iff.1 hf;obtain ⟨f,h1,h2⟩:=gw h hE l hr hy (aca.1 hn).2.1;obtain ⟨f0,g1,g2⟩:=gM h hE hv hz;exact ⟨f0++f,by simp only [aS];grind,g2.append h h2 hn⟩
theorem GA {a:Bool} {d:Value} {cs:List Cm} {x:rA cs} {n:Nat} (h:an c μ d (Ae a (aX true cs x n).1)) (ha:a=false→cs.length=1∧d.oneCell'=true) (hag:a=true→∃ us,d= .agg us):ai c μ d.cells.toList (aX true cs x n).1:=by
 cases a with
 |true=>
  simp only [Ae,ae4,an] at h;obtain ⟨vs,rfl,h⟩:=h;exact h
 |false=>
  obtain ⟨hl,ho⟩:=ha rfl;rw [gf ho];have:=fJ true cs x n;rw [hl] at this;obtain ⟨y,hy⟩:=List.length_eq_one_iff.1 this;rw [hy] at h ⊢;simp only [Ae,acs,if_false,List.headD_cons] at h;simp only [ai];exact ⟨d,[],rfl,h,rfl⟩
theorem Iq (h:cJ c μ fp v w) (hE:∀ id x,E id=some x→v id=some x) {S:Nat→Prop} {w0:World}:(it:Item)→{n:Nat}→{x:rA it.cs}→{d:Value}→{r:si it×List Nat}→{f0:List Nat}→{g:List (Nat×Nat×Nat)}→
  cC S w0 it d x f0 g→Qj c true w0 it d n→an c μ d (j1 true it x n).1→Io E it n=some r→r.2.Nodup→
  ∃ f,qf c.fz w0 w it d r.1 f∧GoneB c fp v E r.2 f g
 |⟨false,a,cs⟩,n,x,d,r,f0,g,hi,ht,hr,hf,hn=>by
  simp only [cC] at hi;obtain ⟨rfl,hi,h1,h2⟩:=hi;have hl:=dP cs hi;obtain ⟨f,g1,g2⟩:=gw h hE cs (GA hr (λe=>⟨by rw [← hl,gf (h2 e)];rfl,h2 e⟩) h1) (show gr E cs n=some r from hf) hn;exact ⟨f,g1,⟨by simpa using g2.mem,by simpa using g2.nodup,g2.there,g2.may⟩⟩
 |⟨true,a,cs⟩,n,x,d,r,f0,g,hi,ht,hr,hf,hn=>by
  simp only [cC] at hi;obtain ⟨B,o,C,T,rfl,rfl,hb,hC,hi⟩:=hi;replace hf:(match E n with|some (.var l)=>(dG E cs (n+1) l).map λy=>(y.1,n::y.2)|_=>none)=some r:=hf;split at hf
  case h_2=>cases hf
  rename_i l hid;obtain ⟨y,hy,rfl⟩:=Option.map_eq_some_iff.1 hf;have hv:=hE n _ hid;obtain ⟨B',o',C',T',h1,h2,h3,h4,h5,h6,h7⟩:=h.rel n _ hv;have hr:an c μ (.pointer (some ⟨B,o,none⟩)) (.vptr n 0):=hr;simp only [an] at hr;obtain ⟨B2,o2,e1,e2⟩:=hr;rw [h1] at e1;cases e1;simp only [Value.pointer.injEq,acv,Addr.mk.injEq,ae9,afr] at e2;obtain ⟨rfl,rfl⟩:=e2;rw [acu] at hn;have hlen:(aE w0 B o cs.length).length=cs.length:=dP cs hi;obtain ⟨f,g1,g2⟩:=gv h hE cs h5 hlen (ht B o rfl) hy hn.2;have Uk:l.length=cs.length:=by grind [gu]
  rw [Uk] at g1;have hB:B ∉ f:=by
   intro hb;obtain ⟨i,hi,hm⟩:=g2.mem B hb;have dV:i≠n:=λe=>hn.1 (e ▸ hi);exact h.sep i n dV (g2.there i hi).1 (by rw [hv];simp) B hm (by rw [h2];simp)
  refine ⟨f,⟨B,o,rfl,g1⟩,⟨?_, ?_, ?_,g2.may⟩⟩
  . intro b hb
    simp only [acd,afa,abp,acq] at hb;rcases hb with hb|rfl
    . obtain ⟨i,hi,hm⟩:=g2.mem b hb;grind
    grind
  . simp only [acd,afa,aca]
    refine ⟨g2.nodup,by simp,λa ha b hb e=> ?_⟩;grind
  . intro i hi
    rcases abF.1 hi with rfl|hi
    . grind
    . exact g2.there i hi
theorem Aj (h:cJ c μ fp v w) (hE:∀ id x,E id=some x→v id=some x) {S:Nat→Prop} {w0:World}:(l:List Item)→{n:Nat}→{x:au l}→{vs:List Value}→{r:gA l×List Nat}→{f0:List Nat}→{g:List (Nat×Nat×Nat)}→
  aU S w0 l vs x f0 g→lP c true w0 l vs n→ai c μ vs (dA true l x n).1→Eg E l n=some r→r.2.Nodup→∃ f,dz c.fz w0 w l vs r.1 f∧GoneB c fp v E r.2 f g
 |[],n,x,vs,r,f0,g,hi,ht,hr,hf,hn=>by
  cases hf;simp only [aU] at hi;obtain ⟨rfl,rfl,rfl⟩:=hi;exact ⟨[],by simp only [dz];exact ⟨trivial,trivial⟩,GoneB.nil⟩
 |it::l,n,x,vs,r,f0,g,hi,ht,hr,hf,hn=>by
  simp only [aU] at hi;obtain ⟨d,aZ,f1,f2,g1,g2,rfl,rfl,rfl,h1,hi⟩:=hi;simp only [lP] at ht;simp only [dA,ai] at hr;obtain ⟨d',QL,e,hd,hr⟩:=hr;cases e;rw [pJ] at hr;replace hf:((Io E it n).bind λx=>(Eg E l (A2 it n)).map λy=>((x.1,y.1),x.2++y.2))=some r:=hf;obtain ⟨z,hz,hf⟩:=Option.bind_eq_some_iff.1 hf;obtain ⟨y,hy,rfl⟩:=Option.map_eq_some_iff.1 hf;obtain ⟨f,q1,q2⟩:=Aj h hE l hi ht.2 hr hy (aca.1 hn).2.1;obtain ⟨f',q3,q4⟩:=Iq h hE it h1 ht.1 hd hz (aca.1 hn).1;exact ⟨f'++f,by simp only [dz];grind,q4.append h q2 hn⟩
end
end
section
open Go
def oW (P:Program) (S:Nat→Prop) (w:World) (f:List Nat) (g:List (Nat×Nat×Nat)) (tok:Nat→Value) (loc:Nat→Loc) (hS:Dd S w):Ctx where
 P:=P
 S:=S
 w0:=w
 M:=λb j=>b∈f∨∃ o m,(b,o,m)∈g∧o≤j∧j<o+m
 tok:=tok
 loc:=loc
 hS:=hS
def GB:List Value→Value
 |[v]=>v
 |vs=> .tuple vs.toArray
structure afY (P:Program) (S:Nat→Prop) (w:World) (hS:Dd S w) (K:bZ) (rP:List Value) (f:List Nat) (g:List (Nat×Nat×Nat)) (y:au K.rs×gA K.aJ) (v':Value) (w':World):Prop where
 ex:∃ rvs f1 g1 f2,v'=GB rvs∧(∃ S':Nat→Prop,(∀ b,S b→S' b)∧(∀ b,S' b→(S b∨w.heap.size≤b∨b∈f)∧b<w'.heap.size)∧(∀ b∈f1++g1.map (·.1)++(f2++g.map (·.1)),¬ S' b)∧aU S' w' K.rs rvs y.1 f1 g1∧dz ⟨S',w'⟩ w w' K.aJ rP y.2 f2)∧(f1++g1.map (·.1)++(f2++g.map (·.1))).Nodup∧(∀ b∈f1++g1.map (·.1)++f2,b∈f∨w.heap.size≤b)
 ev:Ev (oW P S w f g (λ_=>undef) default hS) w'
def bZ.Ok (P:Program) (K:bZ):Prop:=
 match K.vw with
 |some v=>∀ (ad:Option Addr) (len cap:Nat) (n:Int) (w:World),len≤cap→0≤(v.2 n).1→(v.2 n).1≤(v.2 n).2→(v.2 n).2≤(len:Int)→
  kE P K.f #[.slice ad len cap, .int .i64 n] w λv' w'=>v'= .slice (if cap=(v.2 n).1.toNat then ad else ad.map (·.add ((v.2 n).1.toNat*v.1))) ((v.2 n).2.toNat - (v.2 n).1.toNat) (cap - (v.2 n).1.toNat)∧w'=w
 |none=>∀ (x:au K.aJ) (y:au K.rs×gA K.aJ),(K.F x).eval=some y→
  ∀ (S:Nat→Prop) (w:World) (hS:Dd S w) (rP:List Value) (f:List Nat) (g:List (Nat×Nat×Nat)),aU S w K.aJ rP x f g→(f++g.map (·.1)).Nodup→(∀ b∈f++g.map (·.1),¬ S b)→
    kE P K.f (lp K.lay rP).toArray w λv' w'=>afY P S w hS K rP f g y v' w'
theorem kE.mono {P:Program} {f:FuncId} {args:Array Value} {w:World} {R R':Value→World→Prop} (h:kE P f args w R) (hR:∀ v w',R v w'→R' v w'):kE P f args w R':=by
 refine ⟨h.1,Calls.mono h.2 λe w' he=> ?_⟩;grind
theorem iU {S:Nat→Prop} {w:World}:(l:List Cm)→{vs:List Value}→{x:rA l}→{f:List Nat}→aQ S w l vs x f→∀ b∈f,b<w.heap.size
 |[],_,_,_,h=>by grind [aQ]
 | .b::r,_,_,_,h=>by simp only [aQ] at h;obtain ⟨aZ,rfl,h⟩:=h;exact iU r h
 | .i _::r,_,_,_,h=>by simp only [aQ] at h;obtain ⟨aZ,rfl,h⟩:=h;exact iU r h
 | .s::r,_,_,_,h=>by simp only [aQ] at h;obtain ⟨aZ,rfl,_,h⟩:=h;exact iU r h
 | .e::r,_,_,_,h=>by simp only [aQ] at h;obtain ⟨_,aZ,rfl,_,h⟩:=h;exact iU r h
 | .k::r,_,_,_,h=>by simp only [aQ] at h;obtain ⟨_,aZ,rfl,_,h⟩:=h;exact iU r h
 | .ro e::r,_,_,_,h=>by simp only [aQ] at h;obtain ⟨v,aZ,rfl,_,h⟩:=h;exact iU r h
 | .own e::r,_,_,_,h=>by
   simp only [aQ] at h;obtain ⟨v,aZ,f1,f2,rfl,rfl,h1,h⟩:=h;intro b hb;rcases abp.1 hb with hb|hb
   . exact Ty.gS _ h1 b hb
   . exact iU r h b hb
 | .mut e::r,_,_,_,h=>by
   simp only [aQ] at h;obtain ⟨v,aZ,f1,f2,rfl,rfl,h1,h⟩:=h;intro b hb;rcases abp.1 hb with hb|hb
   . exact Ty.gS _ h1 b hb
   . exact iU r h b hb
theorem Ir {S:Nat→Prop} {w:World}:(it:Item)→{v:Value}→{x:rA it.cs}→{f:List Nat}→{g:List (Nat×Nat×Nat)}→cC S w it v x f g→∀ b∈f++g.map (·.1),b<w.heap.size
 |⟨false,_,cs⟩,_,_,_,_,h=>by
  simp only [cC] at h;obtain ⟨rfl,h,_⟩:=h;simpa using iU cs h
 |⟨true,_,cs⟩,_,_,_,_,h=>by
  simp only [cC] at h;obtain ⟨B,o,C,E,rfl,rfl,hb,_,h⟩:=h;intro b hm;simp only [acd,afa,abp,acq] at hm;rcases hm with hm|rfl
  . exact iU cs h b hm
  grind
theorem mm {S:Nat→Prop} {w:World}:(l:List Item)→{vs:List Value}→{x:au l}→{f:List Nat}→{g:List (Nat×Nat×Nat)}→aU S w l vs x f g→∀ b∈f++g.map (·.1),b<w.heap.size
 |[],_,_,_,_,h=>by simp only [aU] at h;obtain ⟨_,rfl,rfl⟩:=h;simp
 |it::r,_,_,_,_,h=>by
  simp only [aU] at h;obtain ⟨v,aZ,f1,f2,g1,g2,rfl,rfl,rfl,h1,h⟩:=h;intro b hb;rw [afz] at hb;rcases abp.1 ((sk f1 f2 (g1.map (·.1)) (g2.map (·.1))).mem_iff.1 hb) with hb|hb
  . exact Ir it h1 b hb
  . exact mm r h b hb
mutual
theorem Ty.jr {z z':Fz} {w:World}:(t:Ty)→t.ph=true→{cs:List Value}→{x:t.D}→{fp:List Nat}→t.ar z w cs x fp→t.ar z' w cs x fp
 | .bool,_,_,_,_,h=>by grind [Ty.ar]
 | .int _,_,_,_,_,h=>by grind [Ty.ar]
 | .str,_,_,_,_,h=>by grind [Ty.ar]
 | .hole,_,_,_,_,h=>by grind [Ty.ar]
 | .sl e,hn,_,_,_,h=>by
   simp only [Ty.ar] at h ⊢;obtain ⟨a,cap,rfl,hc,h⟩:=h;refine ⟨a,cap,rfl,hc,h.imp id ?_⟩
   rintro ⟨b,o,c,E,fps,ha,hb,ho,hl,rfl,hi⟩
   exact ⟨b,o,c,E,fps,ha,hb,ho,hl,rfl,λi y f hy hf=>Ty.jr e hn (hi i y f hy hf)⟩
 | .fz e,hn,_,_,_,h=>by grind [Ty.ph]
 | .st fs,hn,_,_,_,h=>by simp only [Ty.ar] at h ⊢; exact aI.jr fs hn h
theorem aI.jr {z z':Fz} {w:World}:(t:aI)→t.ph=true→{cs:List Value}→{x:t.D}→{fp:List Nat}→t.ar z w cs x fp→t.ar z' w cs x fp
 | .nil,_,_,_,_,h=>by grind [aI.ar]
 | .cons t ts,hn,_,_,_,h=>by
   simp only [aI.ph,aa4] at hn;simp only [aI.ar] at h ⊢; obtain ⟨c1,c2,f1,f2,rfl,rfl,h1,h2⟩:=h;exact ⟨c1,c2,f1,f2,rfl,rfl,Ty.jr t hn.1 h1,aI.jr ts hn.2 h2⟩
end
def Ak (cs:List Cm):Bool:=cs.all λc=>match c with| .ro _=>false| .own e=>e.ph| .mut e=>e.ph|_=>true
theorem eL {S S':Nat→Prop} {w:World}:(l:List Cm)→{vs:List Value}→{x:rA l}→{f:List Nat}→Ak l=true→aQ S w l vs x f→aQ S' w l vs x f
 |[],_,_,_,_,h=>by grind [aQ]
 | .b::r,_,_,_,hn,h=>by simp only [aQ] at h ⊢; obtain ⟨aZ,e,h⟩:=h;exact ⟨aZ,e,eL r (by simpa [Ak] using hn) h⟩
 | .i _::r,_,_,_,hn,h=>by simp only [aQ] at h ⊢; obtain ⟨aZ,e,h⟩:=h;exact ⟨aZ,e,eL r (by simpa [Ak] using hn) h⟩
 | .s::r,_,_,_,hn,h=>by simp only [aQ] at h ⊢; obtain ⟨aZ,e,hl,h⟩:=h;exact ⟨aZ,e,hl,eL r (by simpa [Ak] using hn) h⟩
 | .e::r,_,_,_,hn,h=>by simp only [aQ] at h ⊢; obtain ⟨v0,aZ,e,hl,h⟩:=h;exact ⟨v0,aZ,e,hl,eL r (by simpa [Ak] using hn) h⟩
 | .k::r,_,_,_,hn,h=>by simp only [aQ] at h ⊢; obtain ⟨v0,aZ,e,hl,h⟩:=h;exact ⟨v0,aZ,e,hl,eL r (by simpa [Ak] using hn) h⟩
 | .ro e::r,_,_,_,hn,h=>by grind [Ak]
 | .own e::r,_,_,_,hn,h=>by
   simp only [aQ] at h ⊢;obtain ⟨v,aZ,f1,f2,e1,e2,h1,h⟩:=h;have nv:e.ph=true∧Ak r=true:=by simpa [Ak] using hn
   exact ⟨v,aZ,f1,f2,e1,e2,Ty.jr (.sl e) nv.1 h1,eL r nv.2 h⟩
 | .mut e::r,_,_,_,hn,h=>by
   simp only [aQ] at h ⊢;obtain ⟨v,aZ,f1,f2,e1,e2,h1,h⟩:=h;have nv:e.ph=true∧Ak r=true:=by simpa [Ak] using hn
   exact ⟨v,aZ,f1,f2,e1,e2,Ty.jr (.sl e) nv.1 h1,eL r nv.2 h⟩
theorem ov {S S':Nat→Prop} {w:World}:(l:List Item)→{vs:List Value}→{x:au l}→{f:List Nat}→{g:List (Nat×Nat×Nat)}→Ag l=true→aU S w l vs x f g→aU S' w l vs x f g
 |[],_,_,_,_,_,h=>by grind [aU]
 |it::r,_,_,_,_,hn,h=>by
  simp only [aU] at h ⊢;obtain ⟨v,aZ,f1,f2,g1,g2,e1,e2,e3,h1,h⟩:=h;simp only [Ag,ack,aa4] at hn;refine ⟨v,aZ,f1,f2,g1,g2,e1,e2,e3, ?_,ov r hn.2 h⟩;obtain ⟨p,a,cs⟩:=it;cases p with
  |false=>simp only [cC] at h1 ⊢; exact ⟨h1.1,eL cs hn.1 h1.2.1,h1.2.2⟩
  |true=>
   simp only [cC] at h1 ⊢;obtain ⟨B,o,C,E,q1,q2,q3,q4,q5⟩:=h1;exact ⟨B,o,C,E,q1,q2,q3,q4,eL cs hn.1 q5⟩
theorem kb {S S':Nat→Prop} {w:World} (hS:∀ b,S b→S' b):(l:List Cm)→{vs:List Value}→{x:rA l}→{f:List Nat}→aQ S w l vs x f→aQ S' w l vs x f
 |[],_,_,_,h=>by grind [aQ]
 | .b::r,_,_,_,h=>by simp only [aQ] at h ⊢; obtain ⟨aZ,e,h⟩:=h;exact ⟨aZ,e,kb hS r h⟩
 | .i _::r,_,_,_,h=>by simp only [aQ] at h ⊢; obtain ⟨aZ,e,h⟩:=h;exact ⟨aZ,e,kb hS r h⟩
 | .s::r,_,_,_,h=>by simp only [aQ] at h ⊢; obtain ⟨aZ,e,hl,h⟩:=h;exact ⟨aZ,e,hl,kb hS r h⟩
 | .e::r,_,_,_,h=>by simp only [aQ] at h ⊢; obtain ⟨v0,aZ,e,hl,h⟩:=h;exact ⟨v0,aZ,e,hl,kb hS r h⟩
 | .k::r,_,_,_,h=>by simp only [aQ] at h ⊢; obtain ⟨v0,aZ,e,hl,h⟩:=h;exact ⟨v0,aZ,e,hl,kb hS r h⟩
 | .ro e::r,_,_,_,h=>by simp only [aQ] at h ⊢; obtain ⟨v,aZ,e1,h1,h⟩:=h;exact ⟨v,aZ,e1,Ty.dM (by grind) _ h1,kb hS r h⟩
 | .own e::r,_,_,_,h=>by simp only [aQ] at h ⊢; obtain ⟨v,aZ,f1,f2,e1,e2,h1,h⟩:=h;exact ⟨v,aZ,f1,f2,e1,e2,Ty.cZ (show Fz.le ⟨S,w⟩ ⟨S',w⟩ from λb hb=>⟨hS b hb,rfl⟩) _ h1,kb hS r h⟩
 | .mut e::r,_,_,_,h=>by simp only [aQ] at h ⊢; obtain ⟨v,aZ,f1,f2,e1,e2,h1,h⟩:=h;exact ⟨v,aZ,f1,f2,e1,e2,Ty.cZ (show Fz.le ⟨S,w⟩ ⟨S',w⟩ from λb hb=>⟨hS b hb,rfl⟩) _ h1,kb hS r h⟩
theorem Al {S S':Nat→Prop} {w:World} (hS:∀ b,S b→S' b):(l:List Item)→{vs:List Value}→{x:au l}→{f:List Nat}→{g:List (Nat×Nat×Nat)}→aU S w l vs x f g→aU S' w l vs x f g
 |[],_,_,_,_,h=>by grind [aU]
 |it::r,_,_,_,_,h=>by
  simp only [aU] at h ⊢;obtain ⟨v,aZ,f1,f2,g1,g2,e1,e2,e3,h1,h⟩:=h;refine ⟨v,aZ,f1,f2,g1,g2,e1,e2,e3, ?_,Al hS r h⟩;obtain ⟨p,a,cs⟩:=it;cases p with
  |false=>simp only [cC] at h1 ⊢; exact ⟨h1.1,kb hS cs h1.2.1,h1.2.2⟩
  |true=>
   simp only [cC] at h1 ⊢;obtain ⟨B,o,C,E,q1,q2,q3,q4,q5⟩:=h1;exact ⟨B,o,C,E,q1,q2,q3,q4,kb hS cs q5⟩
theorem fL {c:Ctx}:(l:List Cm)→(vs:List Value)→(n:Nat)→gX c false l vs n
 |[],_,_=>by simp [gX]
 | .b::r,[],_=>by simp [gX]
 | .i _::r,[],_=>by simp [gX]
 | .s::r,[],_=>by simp [gX]
 | .e::r,[],_=>by simp [gX]
 | .k::r,[],_=>by simp [gX]
 | .ro _::r,[],_=>by simp [gX]
 | .own _::r,[],_=>by simp [gX]
 | .mut _::r,[],_=>by simp [gX]
 | .b::r,_::vs,n=>fL r vs n
 | .i _::r,_::vs,n=>fL r vs n
 | .s::r,_::vs,n=>fL r vs n
 | .e::r,_::vs,n=>fL r vs n
 | .k::r,_::vs,n=>⟨λh=>(by cases h),fL r vs (n+1)⟩
 | .ro _::r,_::vs,n=>⟨λh=>(by cases h),fL r vs (n+1)⟩
 | .own _::r,_::vs,n=>fL r vs (n+1)
 | .mut _::r,_::vs,n=>fL r vs (n+1)
theorem uC {c:Ctx} {w:World}:(l:List Item)→(vs:List Value)→(n:Nat)→lP c false w l vs n
 |[],_,_=>by simp [lP]
 |it::r,[],_=>by simp [lP]
 |it::r,v::vs,n=>by
  refine ⟨?_,uC r vs _⟩;obtain ⟨p,a,cs⟩:=it;cases p with
  |false=>exact fL cs _ n
  |true=>exact λB o _=>fL cs _ _
theorem cJ.less {c:Ctx} {μ:Nat→Loc} {fp:Nat→List Nat} {v v':Env} {w w':World} (h:cJ c μ fp v w) (hv:∀ id,v' id=none∨v' id=v id) (hz:w.heap.size≤w'.heap.size)
  (hs:∀ id,v' id≠none→∀ b∈fp id,w'.heap[b]? =w.heap[b]?):cJ c μ fp v' w':=by
 have hm:∀ id,v' id≠none→v id≠none:=by grind
 constructor
 . intro id x hx
   have qZ:v id=some x:=by grind
   exact (h.rel id x qZ).frame (hs id (by simp [hx])) rfl λ_ _=>rfl
 . intro id x hx
   rcases hv id with e|e
   . grind
   . exact h.nodup id x (by grind)
 . exact λid dC dV h1 h2=>h.sep id dC dV (hm id h1) (hm dC h2)
 . exact λid h1=>h.iQ id (hm id h1)
 . exact λid h1 b hb=>aci (h.lt id (hm id h1) b hb) hz
theorem gQ.drop {c:Ctx} {K:Nat→Prop} {μ:Nat→Loc} {fp:Nat→List Nat} {v:Env} {w:World} {f rest:List Nat} (h:gQ c K μ fp v w (f++rest)):gQ c K μ fp v w rest:=
 ⟨h.rel,h.known,(aca.1 h.nodup).2.1,λid hv b hb b8=>h.far id hv b hb (by simp [b8]),λb hb=>h.ok b (by simp [hb])⟩
theorem wc {c:Ctx} {μ:Nat→Loc}:(l:Km)→{ds is:List ah}→{vs:List Value}→B5 l ds=some is→ai c μ vs ds→∃ rP,ai c μ rP is∧vs=lp l rP∧∀ id∈ah.bC is,id∈ah.bC ds
 |[],ds,is,vs,hu,hr=>by
  cases ds with
  |nil=>
   cases hu;simp only [ai] at hr;exact ⟨[],by simp [ai],by rw [hr];rfl,λ_ h=>h⟩
  |cons d q=>cases hu
 |none::l,ds,is,vs,hu,hr=>by
  cases ds with
  |nil=>cases hu
  |cons d q=>
   obtain ⟨z,hz,rfl⟩:=Option.map_eq_some_iff.1 (show (B5 l q).map (λq=>d::q)=some is from hu);simp only [ai] at hr;obtain ⟨v0,aZ,rfl,hv,hr⟩:=hr;obtain ⟨rP,h1,h2,h3⟩:=wc l hz hr;refine ⟨v0::rP,by simp only [ai];exact ⟨v0,rP,rfl,hv,h1⟩,by rw [h2];rfl,λid hi=> ?_⟩;simp only [ah.bC,abp] at hi ⊢;exact hi.imp (λh=>h) (h3 id)
 |some (g,k)::l,ds,is,vs,hu,hr=>by
  cases ds with
  |nil=>cases hu
  |cons d q=>
   cases d<;>try (cases hu;done)
   rename_i g' nS;replace hu:(if g=g'∧nS.length=k then (B5 l q).map λq=>nS++q else none)=some is:=hu;split at hu
   case isFalse=>cases hu
   rename_i hc;obtain ⟨rfl,rfl⟩:=hc;obtain ⟨z,hz,rfl⟩:=Option.map_eq_some_iff.1 hu;simp only [ai] at hr;obtain ⟨v0,aZ,rfl,hv,hr⟩:=hr;simp only [an] at hv;obtain ⟨cv,rfl,hcv⟩:=hv;obtain ⟨rP,h1,h2,h3⟩:=wc l hz hr;have hl:=hcv.length;refine ⟨cv.toList++rP,hcv.append h1, ?_,λid hi=> ?_⟩
   . simp_all [lp]
   grind [po,ah.bC,ah.ids,id]
section
variable {c:Ctx} {K0:Nat→Prop} {μ0:Nat→Loc} {w:World}
theorem fw:(l:List Cm)→(ds:List ah)→(y:kF l)→(n:Nat)→n≤(bY l ds y n).2.2
 |[],_,_,n=>abE n
 | .b::_,[],_,n=>abE n
 | .i _::_,[],_,n=>abE n
 | .s::_,[],_,n=>abE n
 | .e::_,[],_,n=>abE n
 | .k::_,[],_,n=>abE n
 | .ro _::_,[],_,n=>abE n
 | .own _::_,[],_,n=>abE n
 | .mut _::_,[],_,n=>abE n
 | .b::r,_::q,y,n=>fw r q y.2 n
 | .i _::r,_::q,y,n=>fw r q y.2 n
 | .s::r,_::q,y,n=>fw r q y.2 n
 | .e::r,_::q,y,n=>fw r q y.2 n
 | .k::r,_::q,y,n=>fw r q y n
 | .ro _::r,_::q,y,n=>fw r q y n
 | .own _::r,_::q,y,n=>abG (afL n) (fw r q y.2 (n+1))
 | .mut _::r,_::q,y,n=>abG (afL n) (fw r q y.2 (n+1))
def TS (K:Nat→Prop) (n n':Nat) (ds:List ah):Prop:=ds.all ah.bs=true∧∀ id∈ah.bC ds,K id∨(n≤id∧id<n')
theorem jL {K:Nat→Prop}:(l:List Cm)→(ds:List ah)→(y:kF l)→(n:Nat)→ds.all ah.bs=true→(∀ id∈ah.bC ds,K id)→TS K n (bY l ds y n).2.2 (bY l ds y n).1
 |[],_,_,n,_,_=>⟨rfl,λ_ h=>by cases h⟩
 | .b::r,[],_,n,_,_=>⟨rfl,λ_ h=>by cases h⟩
 | .i _::r,[],_,n,_,_=>⟨rfl,λ_ h=>by cases h⟩
 | .s::r,[],_,n,_,_=>⟨rfl,λ_ h=>by cases h⟩
 | .e::r,[],_,n,_,_=>⟨rfl,λ_ h=>by cases h⟩
 | .k::r,[],_,n,_,_=>⟨rfl,λ_ h=>by cases h⟩
 | .ro _::r,[],_,n,_,_=>⟨rfl,λ_ h=>by cases h⟩
 | .own _::r,[],_,n,_,_=>⟨rfl,λ_ h=>by cases h⟩
 | .mut _::r,[],_,n,_,_=>⟨rfl,λ_ h=>by cases h⟩
 | .b::r,d::q,y,n,h1,h2=>by
   simp only [ack,aa4] at h1;have:=jL r q y.2 n h1.2 λid hi=>h2 id (by simp [ah.bC,hi]);exact ⟨by simpa [bY,ah.bs] using this.1,this.2⟩
 | .i _::r,d::q,y,n,h1,h2=>by
   simp only [ack,aa4] at h1;have:=jL r q y.2 n h1.2 λid hi=>h2 id (by simp [ah.bC,hi]);exact ⟨by simpa [bY,ah.bs] using this.1,this.2⟩
 | .s::r,d::q,y,n,h1,h2=>by
   simp only [ack,aa4] at h1;have:=jL r q y.2 n h1.2 λid hi=>h2 id (by simp [ah.bC,hi]);exact ⟨by simpa [bY,ah.bs] using this.1,this.2⟩
 | .e::r,d::q,y,n,h1,h2=>by
   simp only [ack,aa4] at h1;have:=jL r q y.2 n h1.2 λid hi=>h2 id (by simp [ah.bC,hi]);exact ⟨by simpa [bY,ah.bs] using this.1,this.2⟩
 | .k::r,d::q,y,n,h1,h2=>by
   simp only [ack,aa4] at h1;have:=jL (K:=K) r q y n h1.2 λid hi=>h2 id (by simp [ah.bC,hi]);refine ⟨by simpa [bY,h1.1] using this.1,λid hi=> ?_⟩;have hi:id∈d.ids++ah.bC (bY r q y n).1:=hi;rcases abp.1 hi with hi|hi
   . exact .inl (h2 id (by simp [ah.bC,hi]))
   . exact this.2 id hi
 | .ro _::r,d::q,y,n,h1,h2=>by
   simp only [ack,aa4] at h1;have:=jL (K:=K) r q y n h1.2 λid hi=>h2 id (by simp [ah.bC,hi]);refine ⟨by simpa [bY,h1.1] using this.1,λid hi=> ?_⟩;have hi:id∈d.ids++ah.bC (bY r q y n).1:=hi;rcases abp.1 hi with hi|hi
   . exact .inl (h2 id (by simp [ah.bC,hi]))
   . exact this.2 id hi
 | .own _::r,d::q,y,n,h1,h2=>by
   simp only [ack,aa4] at h1;have:=jL (K:=K) r q y.2 (n+1) h1.2 λid hi=>h2 id (by simp [ah.bC,hi]);have l1:=fw r q y.2 (n+1);refine ⟨by simpa [bY,ah.bs] using this.1,λid hi=> ?_⟩;have hi:id∈n::ah.bC (bY r q y.2 (n+1)).1:=hi;show K id∨n≤id∧id<(bY r q y.2 (n+1)).2.2;rcases abF.1 hi with hi|hi
   . right;omega
   . rcases this.2 id hi with h|h
     . exact .inl h
     . right;omega
 | .mut _::r,d::q,y,n,h1,h2=>by
   simp only [ack,aa4] at h1;have:=jL (K:=K) r q y.2 (n+1) h1.2 λid hi=>h2 id (by simp [ah.bC,hi]);have l1:=fw r q y.2 (n+1);refine ⟨by simpa [bY,ah.bs] using this.1,λid hi=> ?_⟩;have hi:id∈n::ah.bC (bY r q y.2 (n+1)).1:=hi;show K id∨n≤id∧id<(bY r q y.2 (n+1)).2.2;rcases abF.1 hi with hi|hi
   . right;omega
   . rcases this.2 id hi with h|h
     . exact .inl h
     . right;omega
theorem iC:(l:List Cm)→∀ {os vs:List Value} {ds:List ah} {y:kF l} {f rest:List Nat} {n:Nat} {K:Nat→Prop} {μ:Nat→Loc} {fp:Nat→List Nat} {v:Env},
  gQ c K μ fp v w (f++rest)→ai c μ0 os ds→(∀ id∈ah.bC ds,K0 id)→(∀ id,K0 id→K id∧μ id=μ0 id)→aV c.fz w l os vs y f→(∀ b∈f,b<c.w0.heap.size→∀ j,c.M b j)→
  (∀ id,n≤id→id<(bY l ds y n).2.2→¬ K id)→
  qT c K μ v w rest n (bY l ds y n).2.2 (bY l ds y n).2.1 λμ'=>ai c μ' vs (bY l ds y n).1
 |[],os,vs,ds,y,f,rest,n,K,μ,fp,v,h,hr,_,_,hb,_,_=>by
  simp only [aV] at hb;obtain ⟨rfl,rfl,rfl⟩:=hb;exact ⟨μ,fp,by simp [bY,ai],h.weaken λ_=> .inl,λ_ _=>rfl⟩
 | .b::r,os,vs,ds,y,f,rest,n,K,μ,fp,v,h,hr,hi,hk,hb,hM,hf=>by
   simp only [aV] at hb;obtain ⟨o,oj,aZ,rfl,rfl,hb⟩:=hb;cases ds with
   |nil=>grind [ai]
   |cons d q=>
    simp only [ai] at hr;obtain ⟨v0,QL,e,hd,hr⟩:=hr;cases e;obtain ⟨μ',fp',h1,h2,h3⟩:=iC r h hr (by grind [id,ah.bC]) hk hb hM hf;exact ⟨μ',fp',by simp only [bY,ai,an];grind,h2,h3⟩
 | .i _::r,os,vs,ds,y,f,rest,n,K,μ,fp,v,h,hr,hi,hk,hb,hM,hf=>by
   simp only [aV] at hb;obtain ⟨o,oj,aZ,rfl,rfl,hb⟩:=hb;cases ds with
   |nil=>grind [ai]
   |cons d q=>
    simp only [ai] at hr;obtain ⟨v0,QL,e,hd,hr⟩:=hr;cases e;obtain ⟨μ',fp',h1,h2,h3⟩:=iC r h hr (by grind [id,ah.bC]) hk hb hM hf;exact ⟨μ',fp',by simp only [bY,ai,an];grind,h2,h3⟩
 | .s::r,os,vs,ds,y,f,rest,n,K,μ,fp,v,h,hr,hi,hk,hb,hM,hf=>by
   simp only [aV] at hb;obtain ⟨o,oj,aZ,rfl,rfl,hl,hb⟩:=hb;cases ds with
   |nil=>grind [ai]
   |cons d q=>
    simp only [ai] at hr;obtain ⟨v0,QL,e,hd,hr⟩:=hr;cases e;obtain ⟨μ',fp',h1,h2,h3⟩:=iC r h hr (by grind [id,ah.bC]) hk hb hM hf;exact ⟨μ',fp',by simp only [bY,ai,an];grind,h2,h3⟩
 | .e::r,os,vs,ds,y,f,rest,n,K,μ,fp,v,h,hr,hi,hk,hb,hM,hf=>by
   simp only [aV] at hb;obtain ⟨o,oj,_,aZ,rfl,rfl,hl,hb⟩:=hb;cases ds with
   |nil=>grind [ai]
   |cons d q=>
    simp only [ai] at hr;obtain ⟨v0,QL,e,hd,hr⟩:=hr;cases e;obtain ⟨μ',fp',h1,h2,h3⟩:=iC r h hr (by grind [id,ah.bC]) hk hb hM hf;exact ⟨μ',fp',by simp only [bY,ai,an];grind,h2,h3⟩
 | .k::r,os,vs,ds,y,f,rest,n,K,μ,fp,v,h,hr,hi,hk,hb,hM,hf=>by
   simp only [aV] at hb;obtain ⟨o,oj,aZ,rfl,rfl,hb⟩:=hb;cases ds with
   |nil=>grind [ai]
   |cons d q=>
    simp only [ai] at hr;obtain ⟨v0,QL,e,hd,hr⟩:=hr;cases e;obtain ⟨μ',fp',h1,h2,h3⟩:=iC r h hr (by grind [id,ah.bC]) hk hb hM hf;refine ⟨μ',fp', ?_,h2,h3⟩;simp only [bY,ai];exact ⟨_,_,rfl,by grind [an.mono,id,ah.bC],h1⟩
 | .ro _::r,os,vs,ds,y,f,rest,n,K,μ,fp,v,h,hr,hi,hk,hb,hM,hf=>by
   simp only [aV] at hb;obtain ⟨o,oj,aZ,rfl,rfl,hb⟩:=hb;cases ds with
   |nil=>grind [ai]
   |cons d q=>
    simp only [ai] at hr;obtain ⟨v0,QL,e,hd,hr⟩:=hr;cases e;obtain ⟨μ',fp',h1,h2,h3⟩:=iC r h hr (by grind [id,ah.bC]) hk hb hM hf;refine ⟨μ',fp', ?_,h2,h3⟩;simp only [bY,ai];exact ⟨_,_,rfl,by grind [an.mono,id,ah.bC],h1⟩
 | .own e::r,os,vs,ds,y,f,rest,n,K,μ,fp,v,h,hr,hi,hk,hb,hM,hf=>by
   simp only [aV] at hb;obtain ⟨o,oj,v1,aZ,f1,f2,rfl,rfl,rfl,hx,hb⟩:=hb;cases ds with
   |nil=>grind [ai]
   |cons d q=>
    simp only [ai] at hr;obtain ⟨v0,QL,e,hd,hr⟩:=hr;cases e;have l1:=fw r q y.2 (n+1);replace hf:∀ id,n≤id→id<(bY r q y.2 (n+1)).2.2→¬ K id:=hf;obtain ⟨xb,GQ,g1,g2,g3⟩:=gQ.TP (rest:=f2++rest) (by rw [← acj];exact h) (hf n (abE n) (by omega)) hx (by grind);obtain ⟨μ',fp',h1,h2,h3⟩:=iC r g2 hr (by grind [id,ah.bC]) (by grind) hb (by grind)
     (λid q1 q2 q3=>q3.elim (hf id (by omega) q2) (by omega))
    refine ⟨μ',fp', ?_,h2.weaken λid hi=> ?_,by grind⟩
    . simp only [bY,ai]
      exact ⟨_,_,rfl,by grind [an.mono,id,ah.ids,List.mem_singleton],h1⟩
    grind [id,bY]
 | .mut e::r,os,vs,ds,y,f,rest,n,K,μ,fp,v,h,hr,hi,hk,hb,hM,hf=>by
   simp only [aV] at hb;obtain ⟨o,oj,v1,aZ,f1,f2,rfl,rfl,rfl,hx,hb⟩:=hb;cases ds with
   |nil=>grind [ai]
   |cons d q=>
    simp only [ai] at hr;obtain ⟨v0,QL,e,hd,hr⟩:=hr;cases e;have l1:=fw r q y.2 (n+1);replace hf:∀ id,n≤id→id<(bY r q y.2 (n+1)).2.2→¬ K id:=hf;obtain ⟨xb,GQ,g1,g2,g3⟩:=gQ.TP (rest:=f2++rest) (by rw [← acj];exact h) (hf n (abE n) (by omega)) hx (by grind);obtain ⟨μ',fp',h1,h2,h3⟩:=iC r g2 hr (by grind [id,ah.bC]) (by grind) hb (by grind)
     (λid q1 q2 q3=>q3.elim (hf id (by omega) q2) (by omega))
    refine ⟨μ',fp', ?_,h2.weaken λid hi=> ?_,by grind⟩
    . simp only [bY,ai]
      exact ⟨_,_,rfl,by grind [an.mono,id,ah.ids,List.mem_singleton],h1⟩
    grind [id,bY]
end
end
end Go.Proofs.YtnlleofnjkeimaaGreatDoor.Dm
