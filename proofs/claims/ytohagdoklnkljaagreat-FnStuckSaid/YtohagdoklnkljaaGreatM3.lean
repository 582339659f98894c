/- The data machine (a part). -/
import Derived.Test.YtohagdoklnkljaaGreatM2
import Derived.Control
namespace Go.Proofs.YtohagdoklnkljaaGreat.Dm
section
open Go
structure ir (c:Ctx) (n:Nat) (s:dL) (a:Act) (w:World):Prop where
 ex:∃ c' μ fp,Ext c c'∧iE c' μ fp s.f n a w
 kn:Bo s
 len:s.t.length=n
theorem iE.drew {c:Ctx} {μ:Nat→Loc} {fp:Nat→List Nat} {s:lx} {n:Nat} {a:Act} {w:World} (h:iE c μ fp s n a w):iE c μ fp s n a { w with drawn:=w.drawn+1 }:=
 ⟨h.tm,h.n,h.defers,h.vs.frame (abD _) (fun _ _ _ _=>rfl) (by grind),h.known,⟨h.ev.size,h.ev.os,h.ev.output,h.ev.S,h.ev.yd,h.ev.frozen⟩,h.fix⟩
theorem Gc {c:Ctx} {n:Nat} {C:Cx} (hC:iT C c.P) (hF:jq C c.P) {id:Nat} {ops:Array Oper} {draw:Bool} (hm:c.P.follows .mixedOrders=true) {s s':dL} {a:Act} {w:World} {Q:Exit→Act→World→Prop}
  (h:ir c n s a w) (hr:(region C id ops.toList draw s).eval=some s') (hQ:∀ a' w',ir c n s' a' w'→Q .normal a' w'):(Code.region id ops draw).wp c.P Q a w:=by
 unfold region at hr;obtain ⟨⟨s1,lg⟩,h1,hr⟩:=cW hr;obtain ⟨⟨c1,μ,fp,he,hx⟩,hk,hl⟩:=h;obtain ⟨L,q1,q2,q3,q4,q5,q6⟩:=yi _ _ _ _ _ h1 hk hx.known;rw [hl] at q1;split at hr
 . cases hr
 rename_i hc;obtain rfl:s1=s':=aaG hr;have J3:∀ (j:Nat) (d:pJ),L[j]? =some d→d.i=j∧ops[j]? =some d.o:=by
  intro j d hd;have:(L.map fun d=>(d.i,d.o))[j]? =some (d.i,d.o):=by grind
  grind
 have hlen:L.length=ops.size:=by have:=congrArg List.length q5;simpa using this
 have Fj:∀ d∈L,ops[d.i]? =some d.o∧ub ops.toList d.o d.gd∧d.g=id*256+1+d.i:=by grind [List.mem_iff_getElem?]
 have wV:∀ c' μ fp a w,Ext c c'→iE c' μ fp s1.f n a w→Q .normal a w:=fun c' μ fp a w e h=>hQ a w ⟨⟨c',μ,fp,e,h⟩,q2,q3.trans hl⟩;cases draw with
 |false=>
  refine wp_region ?_;have amG:L.map (·.i)=List.range ops.size:=by
   apply adQ;grind
  rw [← amG];exact DA hC hF rfl wV L _ μ fp a w c1 he q1 (by grind) hx
 |true=>
  simp only [true_and,not_or] at hc;obtain ⟨hc1,hc2⟩:=hc;have hc1:=Bd hc1;have hc2:=Bd hc2;refine wp_region_any hm ?_;refine DD (base:=id*256+1) hC hF rfl hc2 wV ops.size _ L _ μ fp a _ c1 he (by omega) ⟨by simp, ?_, ?_, ?_, ?_,Fj,q1⟩ hx.drew
  . intro i hi
    constructor
    . intro _
      obtain ⟨d,hd⟩:∃ d,L[i]? =some d:=by simp_all
      grind
    simp_all
  . rw [List.pairwise_iff_getElem]
    intro i j hi hj yJ;rw [(J3 i _ (aaf hi)).1,(J3 j _ (aaf hj)).1];exact yJ
  . simp_all
  . have:=qG _ _ hc1
    rw [q4,aeI,List.pairwise_reverse,List.pairwise_map] at this;exact this
end
section
open Go
variable {z:Fz}
theorem IE {l:List Nat} (h:mh l=true):l.Nodup:=by
 induction l with
 |nil=>grind
 |cons a l ih=>
  simp_all [mh,aaE,aeO,List.contains_eq_mem,agY,ac9]
section
variable {c:Ctx} {μ:Nat→Loc} {m:List (Nat×Nat)}
def DE (m:List (Nat×Nat)) (μ:Nat→Loc) (id:Nat):Loc:=
 match eQ m id with
 |some k=>μ k
 |none=>μ id
theorem pb {id k:Nat} (h:eQ m id=some k):DE m μ id=μ k:=by simp [DE,h]
structure wh (c:Ctx) (μ:Nat→Loc) (m:List (Nat×Nat)) (l:List Slot) (q:List ai) (ds:List ai):Prop where
 rel:∀ vs,aj c μ vs q→aj c (DE m μ) vs ds
 ids:∀ id∈ai.bI ds,∃ k,eQ m id=some k
 cell:l.all Slot.isC=true→ds.all ai.bC=true
 len:ds.length=l.length
 nV:l.length=q.length
theorem wh.cons {x:Slot} {d d':ai} {l:List Slot} {q ds:List ai} (h:wh c μ m l q ds) (hr:∀ v,an c μ v d→an c (DE m μ) v d') (hi:∀ id∈d'.ids,∃ k,eQ m id=some k) (hc:x.isC=true→d'.bC=true):
  wh c μ m (x::l) (d::q) (d'::ds) where
 rel vs hv:=by
  simp only [aj] at hv ⊢;obtain ⟨v,bm,e,h1,h2⟩:=hv;exact ⟨v,bm,e,hr v h1,h.rel bm h2⟩
 ids id eI:=by
  simp only [ai.bI,aaN] at eI;rcases eI with eI|eI
  . grind
  . exact h.ids id eI
 cell Z2:=by
  simp only [acY,aaE] at Z2 ⊢;exact ⟨hc Z2.1,h.cell Z2.2⟩
 len:=by simp [h.len]
 nV:=by simp [h.nV]
structure ae3 (c:Ctx) (μ:Nat→Loc) (m:List (Nat×Nat)) (x:Slot) (d d':ai):Prop where
 rel:∀ v,an c μ v d→an c (DE m μ) v d'
 ids:∀ id∈d'.ids,∃ k,eQ m id=some k
 cell:x.isC=true→d'.bC=true
theorem IF:∀ (ids:List Nat) (oU:List ai),A3 m ids oU=true→
  (∀ vs,aj c μ vs oU→aj c (DE m μ) vs (ids.map fun id=> .vptr id 0))∧∀ i∈ai.bI (ids.map fun id=> .vptr id 0),∃ k,eQ m i=some k
 |[],[],_=>⟨fun vs h=>h,by simp [ai.bI]⟩
 |[],_::_,h=>by simp [A3] at h
 |a::r,[],h=>by simp [A3] at h
 |a::r,d::q,h=>by
  cases d<;>try (cases h;done)
  rename_i b o;cases o with
  |succ o=>cases h
  |zero=>
   simp only [A3,aaE,ack] at h;obtain ⟨h1,h2⟩:=IF r q h.2;refine ⟨fun vs hv=> ?_,fun i hi=> ?_⟩
   . grind [aj,an,pb]
   . simp only [acX,ai.bI,ai.ids,aaN,adi] at hi
     grind
theorem TM {T:Type} (x:Slot) (d:ai) (f:T→M1 x T) (h:aaF m T x d=some f) (y:T):(Di T x (f y)).2=y∧ae3 c μ m x d (Di T x (f y)).1:=by
 cases x with
 |keep=>
  obtain rfl:=aaG (show some (fun y=>y)=some f from h);exact ⟨rfl,fun v _=>trivial,fun id hi=>(by cases hi),fun h=>(by cases h)⟩
 |dead=>
  obtain rfl:=aaG (show some (fun y=>y)=some f from h);exact ⟨rfl,fun v _=>trivial,fun id hi=>(by cases hi),fun h=>(by cases h)⟩
 |jD=>
  replace h:(if d.bC=true then some fun y=>y else none)=some f:=h;split at h
  . rename_i hc
    obtain rfl:=aaG h;exact ⟨rfl,fun v hv=>hv.iP hc,fun id hi=>(by cases hi),fun _=>rfl⟩
  . cases h
 |kp k=>
  cases d<;>try (cases h;done)
  rename_i k';replace h:(if k=k' then some fun y=>y else none)=some f:=h;split at h
  . rename_i e;subst e
    obtain rfl:=aaG h;exact ⟨rfl,fun v hv=>hv,fun id hi=>(by cases hi),fun _=>rfl⟩
  . cases h
 |b=>
  cases d<;>try (cases h;done)
  obtain rfl:=aaG h;exact ⟨rfl,fun v hv=>hv,fun id hi=>(by cases hi),fun _=>rfl⟩
 |i k=>
  cases d<;>try (cases h;done)
  rename_i k' x';replace h:(if k=k' then some fun y=>(x',y) else none)=some f:=h;split at h
  . rename_i e;subst e
    obtain rfl:=aaG h;exact ⟨rfl,fun v hv=>hv,fun id hi=>(by cases hi),fun _=>rfl⟩
  . cases h
 |s=>
  cases d<;>try (cases h;done)
  obtain rfl:=aaG h;exact ⟨rfl,fun v hv=>hv,fun id hi=>(by cases hi),fun _=>rfl⟩
 |ro e tk=>
  cases d<;>try (cases h;done)
  rename_i e' xs tk';replace h:(if tk=none∨tk=tk' then (Ty.cast (.sl e') (.sl e) xs).map fun x y=>(x,y) else none)=some f:=h;split at h
  . rename_i xO
    obtain ⟨x,hx,rfl⟩:=Option.map_eq_some_iff.1 h;obtain ⟨he,Ux⟩:=jn hx;clear hx h;subst he;subst Ux;refine ⟨rfl,fun v hv=> ?_,fun id hi=>(by cases hi),fun _=>rfl⟩;show an c (DE m μ) v (.ro e' _ tk);grind [an]
  . cases h
 |aP id=>
  cases d<;>try (cases h;done)
  rename_i dS vw;cases vw with
  |some _=>cases h
  |none=>
   replace h:(if eQ m id=some dS then some fun y=>y else none)=some f:=h;split at h
   . rename_i hm
     obtain rfl:=aaG h;refine ⟨rfl,fun v hv=> ?_,fun i hi=> ?_,fun _=>rfl⟩
     . show an c (DE m μ) v (.cN id none)
       grind [an,pb]
     . have hi:i∈[id]:=hi
       grind
   . cases h
 |srv id=>
  cases d<;>try (cases h;done)
  rename_i dS vw;cases vw with
  |none=>cases h
  |some v=>
   replace h:(if eQ m id=some dS then some fun y=>(v,y) else none)=some f:=h;split at h
   . rename_i hm
     obtain rfl:=aaG h;obtain ⟨vo,vl⟩:=v;refine ⟨rfl,fun v hv=> ?_,fun i hi=> ?_,fun _=>rfl⟩
     . show an c (DE m μ) v (.cN id (some (vo,vl)))
       grind [an,pb]
     . have hi:i∈[id]:=hi
       grind
   . cases h
 |vptr id off=>
  cases d<;>try (cases h;done)
  rename_i dS vJ;replace h:(if eQ m id=some dS∧off=vJ then some fun y=>y else none)=some f:=h;split at h
  . rename_i hm
    obtain ⟨hm,rfl⟩:=hm;obtain rfl:=aaG h;refine ⟨rfl,fun v hv=> ?_,fun i hi=> ?_,fun _=>rfl⟩
    . show an c (DE m μ) v (.vptr id off)
      grind [an,pb]
    . have hi:i∈[id]:=hi
      grind
  . cases h
 |jL id off=>
  cases d<;>try (cases h;done)
  rename_i dS x' vJ;replace h:(if eQ m id=some dS∧off=vJ then some fun y=>(x',y) else none)=some f:=h;split at h
  . rename_i hm
    obtain ⟨hm,rfl⟩:=hm;obtain rfl:=aaG h;refine ⟨rfl,fun v hv=> ?_,fun i hi=> ?_,fun _=>rfl⟩
    . show an c (DE m μ) v (.jL id x' off)
      grind [an,pb]
    . have hi:i∈[id]:=hi
      grind
  . cases h
 |fn f0 ids=>
  cases d<;>try (cases h;done)
  rename_i f' oU;replace h:(if f0=f'∧A3 m ids oU=true then some fun y=>y else none)=some f:=h;split at h
  . rename_i hc
    obtain ⟨rfl,hc⟩:=hc;obtain rfl:=aaG h;obtain ⟨k1,k2⟩:=IF (c:=c) (μ:=μ) ids oU hc;refine ⟨rfl,fun v hv=> ?_,fun i hi=>k2 i hi,fun _=>rfl⟩;show an c (DE m μ) v (.fn f0 _);grind [an]
  . cases h
 |BR t off=>
  cases d<;>try (cases h;done)
  rename_i t' x' vJ;replace h:(if off=vJ then (Ty.cast t' t x').map fun x y=>(x,y) else none)=some f:=h;split at h
  . rename_i ho;subst ho
    obtain ⟨x,hx,rfl⟩:=Option.map_eq_some_iff.1 h;obtain ⟨he,Ux⟩:=Ty.dD hx;clear hx h;subst he;subst Ux;exact ⟨rfl,fun v hv=>hv,fun id hi=>(by cases hi),fun _=>rfl⟩
  . cases h
theorem xD:∀ (l:List Slot) (q:List ai) (y:kZ l),tW m l q=some y→wh c μ m l q (fU l y)
 |[],[],y,_=>⟨fun vs h=>h,by simp [fU,ai.bI],by simp [fU],rfl,rfl⟩
 |[],_::_,y,h=>by simp [tW] at h
 |x::r,[],y,h=>by simp [tW] at h
 |x::r,d::q,y,h=>by
  simp only [tW] at h;obtain ⟨f,hf,h⟩:=Option.bind_eq_some_iff.1 h;obtain ⟨z,hz,rfl⟩:=Option.map_eq_some_iff.1 h;obtain ⟨e,ok⟩:=TM (c:=c) (μ:=μ) x d f hf z;have ih:=xD r q z hz;show wh c μ m (x::r) (d::q) ((Di (kZ r) x (f z)).1::fU r (Di (kZ r) x (f z)).2);rw [e];exact ih.cons ok.rel ok.ids ok.cell
end
def Cr (m:List (Nat×Nat)) (v:List (Nat×bQ)) (id:Nat):List Nat:=
 match eQ m id with
 |some k=>k::((bs v k).map bG).getD []
 |none=>[]
theorem xE (m:List (Nat×Nat)) (v:List (Nat×bQ)):∀ V:List (Nat×dT),nj m v V=V.flatMap fun x=>Cr m v x.1
 |[]=>rfl
 |(id,x)::r=>by
  simp only [nj,List.flatMap_cons,Cr,xE m v r];split<;>simp_all
theorem IG {m:List (Nat×Nat)} {v:List (Nat×bQ)}:∀ {V:List (Nat×dT)},(V.flatMap fun x=>Cr m v x.1).Nodup→∀ {id dS:Nat},id∈V.map (·.1)→dS∈V.map (·.1)→id≠dS→∀ x∈Cr m v id,x ∉ Cr m v dS
 |[],_,id,_,h,_,_=>by simp at h
 |(i,y)::r,hn,id,dS,h,h',dW=>by
  rw [List.flatMap_cons,acd] at hn;obtain ⟨_,h2,h3⟩:=hn;have iU:∀ {j:Nat},j∈r.map (·.1)→∀ x∈Cr m v j,x∈r.flatMap fun x=>Cr m v x.1:=by grind
  simp only [acX,abE] at h h';intro x hx sY;rcases h with rfl|h
  . grind
  . rcases h' with rfl|h'
    . grind
    . exact IG h2 h h' dW x hx sY
theorem DF {v:List (Nat×bQ)} {id:Nat} {x:bQ} (h:bs v id=some x):(id,x)∈v:=by
 induction v with
 |nil=>simp [bs] at h
 |cons a v ih=>
  grind [bs]
section
variable {c:Ctx} {μ:Nat→Loc} {fp:Nat→List Nat} {m:List (Nat×Nat)} {v:List (Nat×bQ)} {w:World}
structure VOk (c:Ctx) (μ:Nat→Loc) (fp:Nat→List Nat) (m:List (Nat×Nat)) (v:List (Nat×bQ)) (w:World) (id:Nat) (f:List Nat) (x:bQ):Prop where
 rel:cL c (DE m μ) w id f x
 perm:f.Perm ((Cr m v id).flatMap fp)
 nodup:(Cr m v id).Nodup
 there:∀ k∈Cr m v id,bs v k≠none
 ids:∀ i∈x.ids,∃ k,eQ m i=some k
theorem OQ (hv:cX c μ fp (bs v) w) {k:Nat} {x0:bQ} (hk:bs v k=some x0) {e:Ty} {z:List e.D} (hz:Kh v e x0=some z):
  ∃ a cap f,μ k= .sS a z.length cap e.size∧(Ty.sl e).au c.fz w [.slice a z.length cap] z f∧f.Perm ((k::bG x0).flatMap fp)∧(k::bG x0).Nodup∧
    (∀ i∈k::bG x0,bs v i≠none∧bs v i≠none)∧(∀ b∈f,b<c.w0.heap.size→∀ j,c.M b j):=by
 unfold Kh at hz;obtain ⟨⟨e',xs⟩,hu,hz⟩:=Option.bind_eq_some_iff.1 hz;have hr:=gZ hv (fun _ _ h=>h) hk hu;grind [jn]
theorem pd (hv:cX c μ fp (bs v) w):∀ (V:List (Nat×dT)) (y:oX V),mP m v V=some y→
  ∃ F:Nat→List Nat,∀ id x,bs (dY V y) id=some x→id∈V.map (·.1)∧VOk c μ fp m v w id (F id) x
 |[],_,_=>by simp_all [id,dY,bs]
 |(id0, .var cs)::r,y,h=>by
  simp only [mP] at h;split at h
  . rename_i ds hds
    obtain ⟨k,hk,hkv⟩:=Option.bind_eq_some_iff.1 hds;split at h
    . rename_i hc
      obtain ⟨z,hz,h⟩:=Option.bind_eq_some_iff.1 h;obtain ⟨y',ov,rfl⟩:=Option.map_eq_some_iff.1 h;obtain ⟨F,hF⟩:=pd hv r y' ov;have ok:=xD (c:=c) (μ:=μ) cs ds z hz;obtain ⟨B,o,C,E,e1,e2,e3,e4,e5,e6,e7⟩:=hv.rel k _ hkv;have hle:(fU cs z).length=ds.length:=ok.len.trans ok.nV;refine ⟨fun id=>if id=id0 then fp k else F id,fun id x hx=> ?_⟩;simp only [dY,bs] at hx;by_cases e:id0=id
      . subst e
        rw [aaK rfl] at hx;cases hx;refine ⟨by simp, ?_, ?_, ?_, ?_, ?_⟩
        . simp only [af7]
          exact ⟨B,o,C,E,(pb hk).trans e1,e2,e3,by grind,by rw [hle];exact ok.rel _ e5,ok.cell hc,by grind⟩
        . grind [Cr,bG]
        . grind [Cr,bG]
        . grind [Cr,bG]
        . exact ok.ids
      grind
    . cases h
  . cases h
 |(id0, .arr e)::r,y,h=>by
  simp only [mP] at h;split at h
  . rename_i x0 zA
    obtain ⟨k,hk,hkv⟩:=Option.bind_eq_some_iff.1 zA;obtain ⟨z,hz,h⟩:=Option.bind_eq_some_iff.1 h;obtain ⟨y',ov,rfl⟩:=Option.map_eq_some_iff.1 h;obtain ⟨F,hF⟩:=pd hv r y' ov;obtain ⟨ad,cap,f,g1,g2,g3,g4,g5,g6⟩:=OQ hv hkv hz;have ap6:Cr m v id0=k::bG x0:=by grind [Cr]
    refine ⟨fun id=>if id=id0 then f else F id,fun id x hx=> ?_⟩;simp only [dY,bs] at hx;by_cases e:id0=id
    . subst e
      rw [aaK rfl] at hx;cases hx;refine ⟨by simp, ?_, ?_, ?_, ?_, ?_⟩
      . simp only [af7]
        exact ⟨ad,cap,(pb hk).trans g1,g2,g6⟩
      . grind
      . grind
      . grind
      . simp [bQ.ids]
    grind
  . cases h
 |(id0, .it)::r,y,h=>by
  simp only [mP] at h;split at h
  . rename_i t p ht
    obtain ⟨k,hk,hkv⟩:=Option.bind_eq_some_iff.1 ht;obtain ⟨y',ov,rfl⟩:=Option.map_eq_some_iff.1 h;obtain ⟨F,hF⟩:=pd hv r y' ov;obtain ⟨B,e1,e2,e3,e4,e5⟩:=hv.rel k _ hkv;refine ⟨fun id=>if id=id0 then fp k else F id,fun id x hx=> ?_⟩;simp only [dY,bs] at hx;by_cases e:id0=id
    . subst e
      rw [aaK rfl] at hx;cases hx;refine ⟨by simp, ?_, ?_, ?_, ?_, ?_⟩
      . simp only [af7]
        exact ⟨B,(pb hk).trans e1,e2,e3,e4,e5⟩
      . grind [Cr,bG]
      . grind [Cr,bG]
      . grind [Cr,bG]
      . simp [bQ.ids]
    grind
  . cases h
theorem OR {m:List (Nat×Nat)} {a b:Nat} (h:eQ m a=some b):∃ x∈m,x.1=a:=by
 induction m with
 |nil=>simp [eQ] at h
 |cons x m ih=>
  grind [eQ]
theorem KE {m:List (Nat×Nat)} {a b:Nat} (h:eQ m a=some b):∃ x∈m,x.1=a∧x.2=b:=by
 induction m with
 |nil=>simp [eQ] at h
 |cons x m ih=>
  grind [eQ,Option.some.inj]
theorem mr:∀ (l:List Slot) (ts es:List ai),es.length=l.length→ts.length=l.length→∀ j,(jv l ts es).getD j .dead=bif eN l j then ts.getD j .dead else es.getD j .dead
 |[],ts,es,h,_,j=>by simp [jv,eN]
 |x::l,[],es,_,h',j=>by simp at h'
 |x::l,t::ts,[],h,_,j=>by simp at h
 |x::l,t::ts,e::es,h,h',j=>by
  have ih:=mr l ts es (by simpa using h) (by simpa using h');cases j with
  |zero=>simp [jv,eN]
  |succ j=>simpa [jv,eN] using ih j
theorem uc:∀ (l:List Slot) (ts es:List ai),es.length=l.length→ts.length=l.length→(jv l ts es).length=l.length
 |[],ts,es,h,_=>by grind [jv]
 |x::l,[],es,_,h'=>by simp at h'
 |x::l,t::ts,[],h,_=>by simp at h
 |x::l,t::ts,e::es,h,h'=>by
  have ih:=uc l ts es (by simpa using h) (by simpa using h');simpa [jv] using ih
theorem yk:∀ (l:List Slot) (ts:List ai) (j:Nat),eN l j=true→∀ id∈(ts.getD j .dead).ids,id∈vN l ts
 |[],_,_,h,_,_=>by simp [eN] at h
 |x::l,[],j,h,id,hi=>by grind [ai.ids]
 |x::l,t::ts,0,h,id,hi=>by simp_all [eN,vN,aaN,afL]
 |x::l,t::ts,j+1,h,id,hi=>by
  have ih:=yk l ts j (by simpa [eN] using h) id (by simpa using hi);simp only [vN,aaN];exact .inr ih
theorem Ng {S:Shape} {W:List (Nat×bQ)} {s:dL} {x:S.D} (hd:S.dec W s=some x) {id:Nat} {z:bQ} (h:bs s.w id=some z):bs s.v id=none:=by grind [Shape.dec,List.all_eq_true,DF,xA]
theorem DG {n:Nat} {S:Shape} {s:dL} {W:List (Nat×bQ)} {K:List Nat} {ts:List ai} {x:S.D} {a:Act} (h:ir c n s a w) (hd:S.dec W s=some x)
  (hW:∀ id z,bs W id=some z→s.env id=some z∧(id ∉ nj (S.map s) s.v S.v∨bs s.v id=none)) (hK:∀ id z,bs W id=some z→id / 64∈K∧∀ dS∈z.ids,dS / 64∈0::K) (Uw:ts.length=n)
  (PL:∀ j,eN S.t j=true→s.t.getD j .dead=ts.getD j .dead∧∀ id∈(ts.getD j .dead).ids,id / 64∈0::K):ir c n (S.enc ts W K x) a w:=by
 obtain ⟨⟨cx,μ,fp,he,hx⟩,hk,hl⟩:=h;unfold Shape.dec at hd;simp only at hd;generalize S.map s=m at hd hW;split at hd
 case isFalse=>cases hd
 rename_i Dr;obtain ⟨c1,c2,c3,c4,c5,c6,c7⟩:=Dr;obtain ⟨y,hy,hd⟩:=Option.bind_eq_some_iff.1 hd;obtain ⟨z,hz,rfl⟩:=Option.map_eq_some_iff.1 hd;have okT:=xD (c:=cx) (μ:=μ) S.t s.t y hy;have hva:cX cx μ fp s.env w:=hx.vs;have hvv:∀ id x,bs s.v id=some x→s.env id=some x:=fun id x h=>kO h;have vW:cX cx μ fp (bs s.v) w:=hva.part hvv;obtain ⟨F,hF⟩:=pd vW S.v z hz;have pG:=IE c1;have xO:∀ {id k},id∈S.v.map (·.1)→k∈Cr m s.v id→k∈nj m s.v S.v:=by
  intro id k eI hk;rw [xE];obtain ⟨q,hq,rfl⟩:=List.mem_map.1 eI;exact List.mem_flatMap.2 ⟨q,hq,hk⟩
 rw [xE] at pG;have ai4:∀ {id:Nat},id∈S.v.map (·.1)→id / 64∈0::(S.v.map (·.1 / 64)++K):=by
  intro id hi;obtain ⟨q,hq,e⟩:=List.mem_map.1 hi;exact abE.2 (.inr (aaN.2 (.inl (List.mem_map.2 ⟨q,hq,by rw [e]⟩))))
 have hgK:∀ {g:Nat},g∈0::K→g∈0::(S.v.map (·.1 / 64)++K):=by
  intro g hg;rcases abE.1 hg with e|e
  . exact abE.2 (.inl e)
  . exact abE.2 (.inr (aaN.2 (.inr e)))
 have Ib:∀ {id k:Nat},eQ m id=some k→id∈S.v.map (·.1):=by
  intro id k hm;obtain ⟨p,hp,rfl⟩:=OR hm;have:=aa1.1 c3 p hp;simp only [aaE] at this;simpa using this.1
 have ai5:∀ {id k:Nat},eQ m id=some k→id / 64∈0::(S.v.map (·.1 / 64)++K):=fun hm=>ai4 (Ib hm);have KF:∀ {id:Nat},id ∉ S.v.map (·.1)→DE m μ id=μ id:=by
  intro id hi;cases hm:eQ m id with
  |none=>simp [DE,hm]
  |some k=>exact absurd (Ib hm) hi
 have hWS:∀ x∈W,x.1 ∉ S.v.map (·.1)∧∀ id∈x.2.ids,id ∉ S.v.map (·.1):=by
  intro x hxW;refine ⟨fun hi=> ?_,fun id eI hi=> ?_⟩
  . obtain ⟨q,hq,e⟩:=List.mem_map.1 hi
    have:=aa1.1 c4 q hq;simp only [aeO,List.contains_eq_mem,agY] at this;exact this (e ▸ List.mem_map.2 ⟨x,hxW,rfl⟩)
  . have h1:=aa1.1 c5 x hxW
    have h2:=aa1.1 h1 id eI;simp only [aeO,List.contains_eq_mem,agY] at h2;exact h2 hi
 have hkS:∀ j,eN S.t j=true→∀ id∈(s.t.getD j .dead).ids,id ∉ S.v.map (·.1):=by
  intro j hj id eI hi;have h2:=aa1.1 c6 id (yk S.t s.t j hj id eI);simp only [aeO,List.contains_eq_mem,agY] at h2;exact h2 hi
 have amH:∀ id,id<64→DE m μ id=μ id:=by
  intro id hi;cases hm:eQ m id with
  |none=>simp [DE,hm]
  |some k=>
   rw [pb hm];obtain ⟨p,hp,e1,e2⟩:=KE hm;have:=aa1.1 c3 p hp;simp only [aaE,afR,ack,aeM] at this;rcases this.2 with h|h
   . omega
   . rw [← e2, ← h,e1]
 have fH:∀ id x,bs (dY S.v z) id=some x→∀ b∈F id,∃ k∈Cr m s.v id,bs s.v k≠none∧b∈fp k:=by
  intro id x hx b hb;obtain ⟨_,ok⟩:=hF id x hx;obtain ⟨k,hk,pD⟩:=List.mem_flatMap.1 (ok.perm.mem_iff.1 hb);exact ⟨k,hk,ok.there k hk,pD⟩
 have hlen:(fU S.t y).length=S.t.length:=okT.len;have CI:ts.length=S.t.length:=by rw [Uw, ← hl, ← okT.nV]
 have jt:∀ {id x},bs (dY S.v z++W) id=some x→bs (dY S.v z) id=some x∨(bs (dY S.v z) id=none∧bs W id=some x):=by
  intro id x hx;rw [fM] at hx;cases e:bs (dY S.v z) id with
  |none=>rw [e] at hx;exact .inr ⟨rfl,hx⟩
  |some q=>rw [e] at hx;exact .inl hx
 let G:Nat→List Nat:=fun id=>if bs (dY S.v z) id=none then fp id else F id
 have hG1:∀ {id x},bs (dY S.v z) id=some x→G id=F id:=fun {id x} h=>aap (by rw [h];simp);have hG2:∀ {id},bs (dY S.v z) id=none→G id=fp id:=fun h=>aaK h;have Io:∀ id,bs (dY S.v z++W) id≠none→∀ b∈G id,∃ k,s.env k≠none∧b∈fp k∧((∃ x,bs (dY S.v z) id=some x∧k∈Cr m s.v id)∨(bs (dY S.v z) id=none∧k=id∧∃ x,bs W id=some x)):=by
  intro id hn b hb;obtain ⟨x,hx⟩:=Option.ne_none_iff_exists'.1 hn;rcases jt hx with h1|⟨h1,h2⟩
  . rw [hG1 h1] at hb
    obtain ⟨k,q1,q2,q3⟩:=fH id x h1 b hb;obtain ⟨u,hu⟩:=Option.ne_none_iff_exists'.1 q2;exact ⟨k,by rw [hvv k u hu];simp,q3, .inl ⟨x,h1,q1⟩⟩
  . rw [hG2 h1] at hb
    exact ⟨id,by rw [(hW id x h2).1];simp,hb, .inr ⟨h1,rfl,x,h2⟩⟩
 refine ⟨⟨cx,DE m μ,G,he, ?_, ?_,hx.defers, ?_, ?_,hx.ev,fun id hi=>⟨?_,(amH id hi).trans (hx.fix id hi).2⟩⟩,fun d b hf=> ?_, ?_⟩
 . intro j
   have ta:aj cx μ ((List.range s.t.length).map fun j=>a.tmps.getD j Go.undef) s.t:=by
    refine aj.A5 (by simp) fun j d u hd hu=> ?_;have hj:=(List.getElem?_eq_some_iff.1 hd).1;rw [af6,List.getElem?_range hj,afJ] at hu;cases hu;have:=hx.tm j;simp only [dL.f,adg,hd,Option.getD_some] at this;exact this
   have h2:=okT.rel _ ta;show an cx (DE m μ) _ ((jv S.t ts (fU S.t y)).getD j .dead);rw [mr S.t ts _ hlen CI];by_cases hkp:eN S.t j=true
   . rw [hkp,afL]
     have h3:=hx.tm j;rw [← (PL j hkp).1];refine an.mono _ (fun id hi=>KF (hkS j hkp id hi)) h3
   . rw [Bool.eq_false_iff.2 hkp,afM]
     rcases ae0 j (fU S.t y).length with hj|hj
     . obtain ⟨u,hu,hv⟩:=h2.get (aaf hj)
       have hjs:j<s.t.length:=by rw [← okT.nV, ← okT.len];exact hj
       rw [af6,List.getElem?_range hjs,afJ] at hu;cases hu;rw [adg,aaf hj];exact hv
     . rw [adg,aeH hj]
       simp [an]
 . exact hx.n
 . show cX cx (DE m μ) G (bs (dY S.v z++W)) w
   refine ⟨fun id x hxx=> ?_,fun id x hxx=> ?_, ?_, ?_, ?_⟩
   . rcases jt hxx with h1|⟨h1,h2⟩
     . rw [hG1 h1];exact (hF id x h1).2.rel
     . rw [hG2 h1]
       have hm:=DF h2;exact (hva.rel id x (hW id x h2).1).frame (fun _ _=>rfl) (KF (hWS _ hm).1) fun dS hi=>KF ((hWS _ hm).2 dS hi)
   . rcases jt hxx with h1|⟨h1,h2⟩
     . rw [hG1 h1]
       have ok:=(hF id x h1).2;exact ok.perm.nodup_iff.2 (vW.jG _ ok.nodup ok.there)
     . rw [hG2 h1];exact hva.nodup id x (hW id x h2).1
   . intro id dS dW hn nz b hb cf
     obtain ⟨k1,q2,q3,q4⟩:=Io id hn b hb;obtain ⟨k2,r2,r3,r4⟩:=Io dS nz b cf;have:k1≠k2:=by
      intro e;subst e;rcases q4 with ⟨x1,h1,q1⟩|⟨h1,rfl,x1,h1'⟩
      . rcases r4 with ⟨x2,h2,r1⟩|⟨h2,rfl,x2,h2'⟩
        . exact IG pG (hF id x1 h1).1 (hF dS x2 h2).1 dW k1 q1 r1
        . rcases (hW _ x2 h2').2 with e|e
          . exact e (xO (hF id x1 h1).1 q1)
          . exact (hF id x1 h1).2.there _ q1 e
      . rcases r4 with ⟨x2,h2,r1⟩|⟨h2,e,x2,h2'⟩
        . rcases (hW _ x1 h1').2 with e|e
          . grind
          . exact (hF dS x2 h2).2.there _ r1 e
        . exact dW e
     exact hva.sep k1 k2 this q2 r2 b q3 r3
   . intro id hn b hb
     obtain ⟨k1,q2,q3,_⟩:=Io id hn b hb;exact hva.jg k1 q2 b q3
   . intro id hn b hb
     obtain ⟨k1,q2,q3,_⟩:=Io id hn b hb;exact hva.lt k1 q2 b q3
 . refine ⟨fun j id hi=> ?_,fun id x hxx=> ?_⟩
   . have hi:id∈((jv S.t ts (fU S.t y)).getD j .dead).ids:=hi
     rw [mr S.t ts _ hlen CI] at hi;show id / 64∈0::(S.v.map (·.1 / 64)++K);by_cases hkp:eN S.t j=true
     . grind
     . rw [Bool.eq_false_iff.2 hkp,afM,adg] at hi
       cases hj:(fU S.t y)[j]? with
       |none=>grind [ai.ids]
       |some d=>
        rw [hj] at hi;obtain ⟨k,hk⟩:=okT.ids id (by grind [gv,List.mem_of_getElem?]);exact ai5 hk
   . show id / 64∈0::(S.v.map (·.1 / 64)++K)∧∀ dS∈x.ids,dS / 64∈0::(S.v.map (·.1 / 64)++K)
     rcases jt hxx with h1|⟨_,h2⟩
     . obtain ⟨h1,ok⟩:=hF id x h1
       exact ⟨ai4 h1,fun i hi=>by obtain ⟨k,hk⟩:=ok.ids i hi;exact ai5 hk⟩
     grind
 . show id / 64∈0::(S.v.map (·.1 / 64)++K)
   grind
 . grind [Shape.enc,il]
 . show (jv S.t ts (fU S.t y)).length=n
   grind [uc]
end
end
section
open Go
theorem exists_least {p:Nat→Prop} (h:∃ n,p n):∃ n,p n∧∀ k,p k→n≤k:=by
 obtain ⟨n,hn⟩:=h
 induction n using Nat.strongRecOn with
 |_ n ih=>
  grind
open Classical in
noncomputable def least (p:Nat→Prop):Nat:=if h:∃ n,p n then Classical.choose (exists_least h) else 0
theorem Br {p:Nat→Prop} (h:∃ n,p n):p (least p)∧∀ k,p k→least p≤k:=by
 unfold least;grind
theorem TN {P:Program} {Q:Exit→Act→World→Prop} {a:Act} {w:World} {b:Code} (J:Nat→Act→World→Prop) (h0:∃ k,J k a w)
  (round:∀ k a w,J k a w→b.wp P (Exit.then (fun a' w'=>∃ k',k'<k∧J k' a' w') Q) a w):(Code.loop b).wp P Q a w:=by
 refine wp_loop (fun a w=>∃ k,J k a w) (fun a w=>least fun k=>J k a w) h0 fun a w hI=> ?_;obtain ⟨h1,_⟩:=Br hI;refine wp_mono (round _ a w h1) fun e a' w' he=> ?_;cases e with
 |normal=>
  obtain ⟨k',bZ,mA⟩:=he;exact ⟨⟨k',mA⟩,af3 ((Br ⟨k',mA⟩).2 k' mA) bZ⟩
 |_=>exact he
def TO:Ex→Exit
 | .normal=> .normal
 | .ret=> .ret
 | .exit id=> .exit id
section
variable {c:Ctx} {n:Nat} {C:Cx}
def Nh {α β γ:Type} (c:Ctx) (n id:Nat) (eα:α→dL) (eβ:β→dL) (eγ:γ→dL) (R:Round α β γ) (e:Exit) (a:Act) (w:World):Prop:=
 match R with
 | .again x=>e= .normal∧ir c n (eα x) a w
 | .out y=>e= .exit id∧ir c n (eβ y) a w
 | .ret z=>e= .ret∧ir c n (eγ z) a w
theorem Bs {α β γ:Type} {eα:α→dL} {eβ:β→dL} {eγ:γ→dL} {f:α→Out (Round α β γ)} {b:Code} {id:Nat} {Q:Exit→Act→World→Prop}
  (KG:∀ x R a w,(f x).eval=some R→ir c n (eα x) a w→b.wp c.P (Nh c n id eα eβ eγ R) a w)
  {k:Nat} {x:α} {r:β ⊕ γ} (h:iter f k x=some r) {a:Act} {w:World} (hx:ir c n (eα x) a w)
  (KF:∀ y a w,r= .inl y→ir c n (eβ y) a w→Q (.exit id) a w) (ae4:∀ z a w,r= .inr z→ir c n (eγ z) a w→Q .ret a w):(Code.loop b).wp c.P Q a w:=by
 refine TN (fun k a w=>∃ x,iter f k x=some r∧ir c n (eα x) a w) ⟨k,x,h,hx⟩ ?_
 rintro k a w ⟨x,h,hx⟩
 cases k with
 |zero=>cases h
 |succ k=>
  simp only [iter] at h;split at h
  . rename_i x' hf
    refine wp_mono (KG x _ a w hf hx) fun e a' w' he=> ?_;obtain ⟨rfl,he⟩:=he;exact ⟨k,Nat.lt_succ_self k,x',h,he⟩
  . rename_i y hf
    obtain rfl:=aaG h;refine wp_mono (KG x _ a w hf hx) fun e a' w' he=> ?_;obtain ⟨rfl,he⟩:=he;exact KF y a' w' rfl he
  . rename_i z hf
    obtain rfl:=aaG h;refine wp_mono (KG x _ a w hf hx) fun e a' w' he=> ?_;obtain ⟨rfl,he⟩:=he;exact ae4 z a' w' rfl he
  . cases h
def xF (c:Ctx) (n:Nat) (b:Code) (f:dL→Out (Ex×dL)):Prop:=
 ∀ s r a w,(f s).eval=some r→ir c n s a w→b.wp c.P (fun e a' w'=>e=TO r.1∧ir c n r.2 a' w') a w
structure j8 (ds:List Nat) (s s':dL):Prop where
 w:s'.w=s.w
 len:s'.t.length=s.t.length
 t:∀ j,j ∉ ds→s'.t.getD j .dead=s.t.getD j .dead
theorem j8.refl (ds:List Nat) (s:dL):j8 ds s s:=⟨rfl,rfl,fun _ _=>rfl⟩
theorem j8.trans {ds:List Nat} {s s1 s2:dL} (h:j8 ds s s1) (h':j8 ds s1 s2):j8 ds s s2:=⟨h'.w.trans h.w,h'.len.trans h.len,fun j hj=>(h'.t j hj).trans (h.t j hj)⟩
theorem j8.mono {ds ds':List Nat} {s s':dL} (h:j8 ds s s') (hd:∀ j∈ds,j∈ds'):j8 ds' s s':=⟨h.w,h.len,fun j hj=>h.t j fun e=>hj (hd j e)⟩
theorem DH {t:List ai} {d j:Nat} {v:ai} (h:d≠j):(t.set d v).getD j .dead=t.getD j .dead:=by grind
theorem Bt {t:List ai} {dst:Option Nat} {v:ai} {j:Nat} (h:j ∉ dst.toList):(H8 t dst v).getD j .dead=t.getD j .dead:=by
 cases dst with
 |none=>rfl
 |some d=>exact DH fun e=>h (by simp [e])
theorem ud {C:Cx} {ops:List Oper} {g i:Nat} {o:Oper} {s:dL} {r:dL×Log} (h:(A0 C ops g i o s).eval=some r):j8 o.dst.toList s r.1:=by
 unfold A0 at h;obtain ⟨q,_,h⟩:=cW h;split at h
 . obtain rfl:=aaG h
   exact ⟨rfl,mR _ _ _,fun j hj=>Bt hj⟩
 . cases h
theorem ue {ops:List Oper} {g i:Nat} {o:Oper} {s:dL} {r:dL×Log} (h:(A1 ops g i o s).eval=some r):j8 o.dst.toList s r.1:=by
 unfold A1 at h;split at h
 . obtain rfl:=aaG h
   exact ⟨rfl,mR _ _ _,fun j hj=>Bt hj⟩
 . cases h
theorem TP {C:Cx} {ops:List Oper} {g i:Nat} {o:Oper} {s:dL} {r:dL×Log} (ho:o∈ops) (h:(opL C ops g i o s).eval=some r):j8 (ops.flatMap fun o=>o.dst.toList) s r.1:=by
 have sub:∀ j∈o.dst.toList,j∈ops.flatMap fun o=>o.dst.toList:=by grind
 unfold opL at h;split at h
 . exact (ud h).mono sub
 . split at h
   . cases h
   . rename_i d hd
     obtain ⟨o',zQ,hd'⟩:=Option.bind_eq_some_iff.1 hd;have iU:d∈ops.flatMap fun o=>o.dst.toList:=by grind
     have seen:∀ (b:Bool) (kn:List (Nat×Bool)),j8 (ops.flatMap fun o=>o.dst.toList) s { s with t:=s.t.set d (.b b),kn }:=fun b kn=>⟨rfl,by simp,by grind⟩
     split at h
     . split at h
       . exact (ud h).mono sub
       . exact (ue h).mono sub
     . split at h
       . rcases cb h with ⟨_,h⟩|⟨_,h⟩
         . exact (seen _ _).trans ((ud h).mono sub)
         . exact (seen _ _).trans ((ue h).mono sub)
       . exact (ue h).mono sub
       . cases h
theorem wi {C:Cx} {ops:List Oper} {base:Nat}:∀ (l:List (Nat×Oper)) (s:dL) (lg:List Log) {r:dL×List Log},(∀ x∈l,x.2∈ops)→(oW C ops base l s lg).eval=some r→j8 (ops.flatMap fun o=>o.dst.toList) s r.1
 |[],s,lg,r,_,h=>by
  obtain rfl:=aaG h;exact j8.refl _ _
 |(i,o)::l,s,lg,r,hl,h=>by
  simp only [oW] at h;obtain ⟨q,hq,h⟩:=cW h;exact (TP (hl (i,o) (by simp)) hq).trans (wi l _ _ (fun x hx=>hl x (by simp [hx])) h)
theorem IH {C:Cx} {id:Nat} {ops:List Oper} {draw:Bool} {s s':dL} (h:(region C id ops draw s).eval=some s'):j8 (ops.flatMap fun o=>o.dst.toList) s s':=by
 unfold region at h;obtain ⟨⟨q,lg⟩,hq,h⟩:=cW h;split at h
 . cases h
 . obtain rfl:=aaG h
   exact wi _ _ _ (by grind) hq
theorem uf:∀ (l:List Slot) (y:kZ l),(fU l y).length=l.length
 |[],_=>rfl
 |x::r,y=>by simp [fU,uf r]
theorem ug {h:List Slot} {n:Nat} {ds:List Nat} {l:List Slot} (hk:FU h n ds l=true):l.length=n∧∀ j,eN l j=true→eN h j=true∧j ∉ ds:=by
 unfold FU at hk;rw [aaE,ac3] at hk;refine ⟨hk.1,fun j hj=> ?_⟩;have key:∀ (l:List Slot) (k j:Nat),eN l j=true→∃ x,(x,k+j)∈l.zipIdx k∧x.oY=true:=by
  intro l
  induction l with
  |nil=>grind [eN]
  |cons x r ih=>
   intro k j h;cases j with
   |zero=>exact ⟨x,by simp,h⟩
   |succ j=>
    obtain ⟨y,hy,I7⟩:=ih (k+1) j h;grind
 obtain ⟨x,hx,Zg⟩:=key l 0 j hj;grind
theorem TQ {S:Shape} {j:Nat} (h:j ∉ loose S) (hj:j<S.t.length):eN S.t j=true:=by
 have key:∀ (l:List Slot) (k j:Nat),j<l.length→(k+j) ∉ ((l.zipIdx k).filter fun x=> !x.1.oY).map (·.2)→eN l j=true:=by
  intro l
  induction l with
  |nil=>grind
  |cons x r ih=>
   intro k j hj hn;rw [List.zipIdx_cons] at hn;cases j with
   |zero=>
    grind [eN]
   |succ j=>
    refine ih (k+1) j (by simpa using hj) fun hm=>hn ?_;grind
 exact key S.t 0 j hj (by rw [ada];exact h)
theorem II {A:aq} {ds:List Nat} {s:dL} {S:Shape} (hk:A.xv s.t.length ds=true) (hS:S∈A.mj) (x:S.D):j8 (loose S) s (A.fin s S x):=by
 unfold aq.xv at hk;rw [aaE] at hk;obtain ⟨hl,_⟩:=ug (aa1.1 hk.1 S hS);have e1:(fU S.t x.1).length=S.t.length:=uf _ _;refine ⟨rfl, ?_,fun j hj=> ?_⟩
 . show (jv S.t s.t (fU S.t x.1)).length=s.t.length
   grind [uc]
 . show (jv S.t s.t (fU S.t x.1)).getD j .dead=s.t.getD j .dead
   grind [mr,Nat.lt_or_ge,TQ,List.getElem?_eq_none,fU,eN]
theorem KH {id:Nat} {A:aq} {ds:List Nat} {f:dL→Out (Ex×dL)} {s:dL} {r:Ex×dL} (h:(H9 id A ds f s).eval=some r):j8 (loose A.out++(match A.ret with|some S=>loose S|none=>[])) s r.2:=by
 unfold H9 at h;split at h
 case isFalse=>cases h
 rename_i hk;obtain ⟨x,_,h⟩:=aM h;have h1:=fun y=>II hk (S:=A.out) (by simp [aq.mj]) y;have h2:=fun S (hS:A.ret=some S) y=>II hk (S:=S) (by simp [aq.mj,hS]) y;obtain ⟨hd,ot,rt,fr⟩:=A;cases rt with
 |some S=>
  replace h:(Out.get (iter (fun x=>(f (hd.enc s.t _ _ x)).bind (A4 id ⟨hd,ot,some S,fr⟩)) bn x) fun r=>Out.alt r (fun y=> .ret (Ex.normal,aq.fin ⟨hd,ot,some S,fr⟩ s ot y)) fun z=> .ret (Ex.ret,aq.fin ⟨hd,ot,some S,fr⟩ s S z)).eval=some r:=h;obtain ⟨q,_,h⟩:=ji h;cases q with
  |inl y=>
   obtain rfl:=aaG h;exact (h1 y).mono (by grind)
  |inr z=>
   obtain rfl:=aaG h;exact (h2 S rfl z).mono (by grind)
 |none=>
  replace h:(Out.get (b5 (fun x=>(f (hd.enc s.t _ _ x)).bind (A4 id ⟨hd,ot,none,fr⟩)) bn x) fun y=>Out.ret (Ex.normal,aq.fin ⟨hd,ot,none,fr⟩ s ot y)).eval=some r:=h;obtain ⟨y,_,h⟩:=ji h;obtain rfl:=aaG h;exact (h1 y).mono fun j hj=>aaN.2 (.inl hj)
theorem gR {o:Out (Ex×dL)} {ds:List Nat} {s:dL} {id:Nat} (h:∀ r,o.eval=some r→j8 ds s r.2) {r:Ex×dL} (hr:(o.map (vM id)).eval=some r):j8 ds s r.2:=by
 obtain ⟨q,hq,h2⟩:=cW hr;obtain rfl:=aaG h2;grind [vM]
theorem cG (A:Nat→Option aq):∀ (b:Code) (s:dL) (r:Ex×dL),(dK C A b s).eval=some r→j8 (ml A b) s r.2
 | .skip,s,r,h=>by obtain rfl:=aaG h;exact j8.refl _ _
 | .ret,s,r,h=>by obtain rfl:=aaG h;exact j8.refl _ _
 | .exit m,s,r,h=>by obtain rfl:=aaG h;exact j8.refl _ _
 | .seq x y,s,r,h=>by
   simp only [dK] at h;obtain ⟨q,hq,h⟩:=cW h;have h1:=(cG A x s q hq).mono (ds':=ml A (.seq x y)) fun j hj=>aaN.2 (.inl hj);obtain ⟨e,s'⟩:=q;cases e with
   |normal=>exact h1.trans ((cG A y s' r h).mono fun j hj=>aaN.2 (.inr hj))
   |ret=>obtain rfl:=aaG h;exact h1
   |exit m=>obtain rfl:=aaG h;exact h1
 | .cond t x y,s,r,h=>by
   have hx:∀ j∈ml A x,j∈ml A (.cond t x y):=fun j hj=>aaN.2 (by grind);have hy:∀ j∈ml A y,j∈ml A (.cond t x y):=fun j hj=>aaN.2 (by grind);simp only [dK] at h;split at h
   . exact (cG A x s r h).mono hx
   . exact (cG A y s r h).mono hy
   . split at h
     . rename_i d p _ _
       have seen:∀ (b:Bool) (kn:List (Nat×Bool)),j8 (ml A (.cond (.tmp d) x y)) s { s with t:=s.t.set d (.b b),kn }:=fun b kn=>⟨rfl,by simp,fun j hj=>DH fun e=>hj (e ▸ aaN.2 (.inl (by simp [aip])))⟩
       rcases cb h with ⟨_,h⟩|⟨_,h⟩
       . exact (seen _ _).trans ((cG A x _ r h).mono hx)
       . exact (seen _ _).trans ((cG A y _ r h).mono hy)
     . cases h
 | .block id (.loop b),s,r,h=>by
   simp only [dK] at h;split at h
   . rename_i A' e
     refine (KH h).mono fun j hj=> ?_;grind [ml,id]
   . cases h
 | .region id ops draw,s,r,h=>by
   simp only [dK] at h;obtain ⟨s',QN,h⟩:=cW h;obtain rfl:=aaG h;exact IH QN
 | .block id .skip,s,r,h=>gR (cG A .skip s) h
 | .block id .ret,s,r,h=>gR (cG A .ret s) h
 | .block id (.exit m),s,r,h=>gR (cG A (.exit m) s) h
 | .block id (.seq x y),s,r,h=>gR (cG A (.seq x y) s) h
 | .block id (.cond t x y),s,r,h=>gR (cG A (.cond t x y) s) h
 | .block id (.block j x),s,r,h=>gR (cG A (.block j x) s) h
 | .block id (.region j o d),s,r,h=>gR (cG A (.region j o d) s) h
 | .block id (.rangeFunc f p as b),s,r,h=>gR (cG A (.rangeFunc f p as b) s) h
 | .block id (.scope b),s,r,h=>gR (cG A (.scope b) s) h
 | .block id (.label l),s,r,h=>gR (cG A (.label l) s) h
 | .block id (.goto l),s,r,h=>gR (cG A (.goto l) s) h
 | .block id (.refuse l),s,r,h=>gR (cG A (.refuse l) s) h
 | .loop _,s,r,h=>by simp [dK,Out.eval] at h
 | .rangeFunc .., s,r,h=>by simp [dK,Out.eval] at h
 | .scope _,s,r,h=>by simp [dK,Out.eval] at h
 | .label _,s,r,h=>by simp [dK,Out.eval] at h
 | .goto _,s,r,h=>by simp [dK,Out.eval] at h
 | .refuse _,s,r,h=>by simp [dK,Out.eval] at h
theorem pe {p:Nat×bQ→Bool} (hp:∀ x y,x.1=y.1→p x=p y):∀ {l:List (Nat×bQ)} {id:Nat} {z:bQ},bs (l.filter p) id=some z→bs l id=some z∧p (id,z)=true
 |[],_,_,h=>by cases h
 |(k,x)::r,id,z,h=>by
  rw [afT] at h;split at h
  . rename_i hpx
    simp only [bs] at h ⊢;by_cases e:k=id
    . grind
    . rw [aap e] at h ⊢
      exact pe hp h
  . rename_i hpx
    have ih:=pe hp h;simp only [bs];grind
def amK (A:aq) (s:dL) (W:List (Nat×bQ)) (K:List Nat):(o:Option Shape)→Te o→dL
 |some S,z=>S.enc s.t W K z
 |none,z=>nomatch z
structure LoopIn (c:Ctx) (n:Nat) (A:aq) (ds:List Nat) (s:dL) (W:List (Nat×bQ)) (K:List Nat):Prop where
 keep:A.xv s.t.length ds=true
 len:s.t.length=n
 W:∀ id z,bs W id=some z→id / 64∈K∧∀ dS∈z.ids,dS / 64∈0::K
 K:∀ j,eN A.head.t j=true→∀ id∈(s.t.getD j .dead).ids,id / 64∈0::K
theorem LoopIn.again {A:aq} {ds:List Nat} {s s':dL} {W:List (Nat×bQ)} {K:List Nat} (h:LoopIn c n A ds s W K) {x:A.head.D} (hs:j8 ds (A.head.enc s.t W K x) s') {a:Act} {w:World} (hr:ir c n s' a w)
  {S:Shape} (hS:S∈A.mj) {y:S.D} (hd:S.dec s'.w s'=some y):ir c n (S.enc s.t W K y) a w:=by
 have hw:s'.w=W:=hs.w;have hk:=h.keep;unfold aq.xv at hk;rw [aaE] at hk;obtain ⟨l1,_⟩:=ug (aa1.1 hk.1 A.head (by simp [aq.mj]));obtain ⟨_,k2⟩:=ug (aa1.1 hk.1 S hS);rw [hw] at hd;refine DG hr hd (fun id z hz=> ?_) h.W h.len fun j hj=> ?_
 . have hn:=Ng hd (show bs s'.w id=some z by rw [hw];exact hz)
   simp_all [dL.env,fM]
 . obtain ⟨q1,q2⟩:=k2 j hj
   refine ⟨(hs.t j q2).trans ?_,h.K j q1⟩;show (jv A.head.t s.t (fU A.head.t x.1)).getD j .dead=s.t.getD j .dead;grind [mr,uf]
theorem KI {b:Code} {f:dL→Out (Ex×dL)} {ds:List Nat} (hb:xF c n b f) (hf:∀ s r,(f s).eval=some r→j8 ds s r.2) (id:Nat) (A:aq) {s:dL} {W:List (Nat×bQ)} {K:List Nat} (hl:LoopIn c n A ds s W K) (x:A.head.D) (R:Round A.head.D A.out.D (Te A.ret)) (a:Act) (w:World)
  (h:((f (A.head.enc s.t W K x)).bind (A4 id A)).eval=some R) (hx:ir c n (A.head.enc s.t W K x) a w):b.wp c.P (Nh c n id (A.head.enc s.t W K) (A.out.enc s.t W K) (amK A s W K A.ret) R) a w:=by
 replace h:=cW h;obtain ⟨r,hr,h⟩:=h;have hs:=hf _ r hr;refine wp_mono (hb _ r a w hr hx) fun e a' w' he=> ?_;obtain ⟨rfl,he⟩:=he;unfold A4 at h;split at h
 . rename_i e1
   obtain ⟨x',sY,h⟩:=aM h;obtain rfl:=aaG h;exact ⟨by rw [e1];rfl,hl.again hs he (by simp [aq.mj]) sY⟩
 . rename_i m e1
   split at h
   . rename_i e2;subst e2
     obtain ⟨x',sY,h⟩:=aM h;obtain rfl:=aaG h;exact ⟨by rw [e1];rfl,hl.again hs he (by simp [aq.mj]) sY⟩
   . cases h
 . rename_i e1
   have hag:=fun S (hS:A.ret=some S) (y:S.D) (hd:S.dec r.2.w r.2=some y)=>hl.again hs he (S:=S) (by simp [aq.mj,hS]) hd;obtain ⟨hd,ot,rt,fr⟩:=A;cases rt with
   |none=>cases h
   |some S=>
    replace h:(Out.of (S.dec r.2.w r.2) fun z=> .ret (.ret z):Out (Round hd.D ot.D (Te (some S)))).eval=some R:=h;obtain ⟨x',sY,h⟩:=aM h;obtain rfl:=aaG h;exact ⟨by rw [e1];rfl,hag S rfl x' sY⟩
theorem Ni {A:aq} {s:dL} {S:Shape} {x:S.D} {a:Act} {w:World} (h:ir c n (S.enc s.t (A.rest s++s.w) (A.known s) x) a w):ir c n (A.fin s S x) a w:=by
 obtain ⟨⟨c1,μ,fp,he,hx⟩,hk,hl⟩:=h;have e:(A.fin s S x).f=(S.enc s.t (A.rest s++s.w) (A.known s) x).f:=by grind [dL.f,dL.env,aq.fin,Shape.enc,List.append_assoc]
 exact ⟨by grind,hk,hl⟩
theorem KJ {b:Code} {f:dL→Out (Ex×dL)} {ds:List Nat} (hb:xF c n b f) (hf:∀ s r,(f s).eval=some r→j8 ds s r.2) (id:Nat) (A:aq):xF c n (.block id (.loop b)) (H9 id A ds f):=by
 intro s r a w h hs;unfold H9 at h;split at h
 case isFalse=>cases h
 rename_i hk;obtain ⟨x,hx,h⟩:=aM h;have Fc:pt s.f:=by obtain ⟨⟨c1,μ,fp,he,hx⟩,_⟩:=hs;exact hx.known
 have Th:∀ id z,bs (A.rest s) id=some z→bs s.v id=some z∧id ∉ nj (A.head.map s) s.v A.head.v:=by
  intro id z hz;unfold aq.rest at hz;split at hz
  . have:=pe (fun x y e=>by rw [e]) hz
    refine ⟨this.1,by simpa using this.2⟩
  . cases hz
 have hWs:∀ id z,bs (A.rest s++s.w) id=some z→s.env id=some z∧(id ∉ nj (A.head.map s) s.v A.head.v∨bs s.v id=none):=by
  intro id z hz;rw [fM] at hz;cases e:bs (A.rest s) id with
  |some q=>
   rw [e] at hz;obtain rfl:=aaG hz;exact ⟨kO (Th id q e).1, .inl (Th id q e).2⟩
  |none=>
   rw [e] at hz;have hn:=Ng hx hz;refine ⟨?_, .inr hn⟩;unfold dL.env;rw [fM,hn];exact hz
 have hK:(A.fr=true∨s.w.isEmpty=false)→A.known s=s.k:=fun e=>aaK e;have iU:LoopIn c n A ds s (A.rest s++s.w) (A.known s):=by
  refine ⟨hk,hs.len,fun id z hz=> ?_,fun j hj id hi=> ?_⟩
  . have he:A.fr=true∨s.w.isEmpty=false:=by
     by_cases e:A.fr=true
     . exact .inl e
     . right
       unfold aq.rest at hz;rw [aap e] at hz;cases hw:s.w with
       |nil=>rw [hw] at hz;cases hz
       |cons=>rfl
    rw [hK he];have:=Fc.v id z (hWs id z hz).1;exact ⟨this.1,fun dS hi=>abE.2 (.inr (this.2 dS hi))⟩
  . have he:A.fr=true:=by
     unfold aq.xv at hk;rw [aaE,afR] at hk;rcases hk.2 with e|e
     . exact e
     . exfalso
       have h1:=aa1.1 e A.head (by simp [aq.mj]);unfold Tf at h1;have key:∀ (l:List Slot) (j:Nat),eN l j=true→∃ x∈l,x.oY=true:=by
        intro l
        induction l with
        |nil=>intro j h;simp [eN] at h
        |cons x r ih=>
         intro j h;cases j with
         |zero=>exact ⟨x,by simp,h⟩
         |succ j=>obtain ⟨y,hy,I7⟩:=ih j h;exact ⟨y,by simp [hy],I7⟩
       obtain ⟨y,hy,I7⟩:=key _ _ hj;have:=aa1.1 h1 y hy;rw [I7] at this;cases this
    rw [hK (.inl he)];exact abE.2 (.inr (Fc.t j id hi))
 have sY:=DG hs hx hWs iU.W hs.len fun j hj=>⟨rfl,iU.K j hj⟩
 have aaQ:=KI hb hf id A iU;have hfo:=fun (y:A.out.D) (a':Act) (w':World)=>Ni (A:=A) (s:=s) (S:=A.out) (x:=y) (a:=a') (w:=w') (c:=c) (n:=n);have iX:=fun (S:Shape) (y:S.D) (a':Act) (w':World)=>Ni (A:=A) (s:=s) (S:=S) (x:=y) (a:=a') (w:=w') (c:=c) (n:=n);obtain ⟨hd,ot,rt,fr⟩:=A;refine wp_block ?_;cases rt with
 |some S=>
  replace h:(Out.get (iter (fun x=>(f (hd.enc s.t _ _ x)).bind (A4 id ⟨hd,ot,some S,fr⟩)) bn x) fun r=>Out.alt r (fun y=> .ret (Ex.normal,aq.fin ⟨hd,ot,some S,fr⟩ s ot y)) fun z=> .ret (Ex.ret,aq.fin ⟨hd,ot,some S,fr⟩ s S z)).eval=some r:=h;obtain ⟨q,hq,h⟩:=ji h;refine Bs (id:=id) (fun x R a w h1 h2=>aaQ x R a w h1 h2) hq sY (fun y a' w' e he=> ?_) (fun z a' w' e he=> ?_)
  . subst e
    obtain rfl:=aaG h;simp only [Exit.inBlock,af7];exact ⟨rfl,hfo y a' w' he⟩
  . subst e
    obtain rfl:=aaG h;exact ⟨rfl,iX S z a' w' he⟩
 |none=>
  replace h:(Out.get (b5 (fun x=>(f (hd.enc s.t _ _ x)).bind (A4 id ⟨hd,ot,none,fr⟩)) bn x) fun y=>Out.ret (Ex.normal,aq.fin ⟨hd,ot,none,fr⟩ s ot y)).eval=some r:=h;obtain ⟨y,hy,h⟩:=ji h;unfold b5 at hy;obtain ⟨q,hq,hy⟩:=Option.map_eq_some_iff.1 hy;obtain rfl:=aaG h;refine Bs (id:=id) (fun x R a w h1 h2=>aaQ x R a w h1 h2) hq sY (fun y' a' w' e he=> ?_) (fun z a' w' e he=> ?_)
  . subst e
    simp only at hy;subst hy;simp only [Exit.inBlock,af7];exact ⟨rfl,hfo _ a' w' he⟩
  . exact nomatch z
theorem dU {b:Code} {f:dL→Out (Ex×dL)} (hb:xF c n b f) (id:Nat):xF c n (.block id b) (fun s=>(f s).map (vM id)):=by
 intro s r a w h hs;obtain ⟨q,hq,h⟩:=cW h;obtain rfl:=aaG h;refine wp_block (wp_mono (hb s q a w hq hs) fun e a' w' he=> ?_);obtain ⟨rfl,he⟩:=he;obtain ⟨e,s'⟩:=q;cases e with
 |normal=>exact ⟨rfl,he⟩
 |ret=>exact ⟨rfl,he⟩
 |exit m=>
  simp only [TO,Exit.inBlock,vM];by_cases hm:m=id
  . rw [aaK hm,aaK hm];exact ⟨rfl,he⟩
  . rw [aap hm,aap hm];exact ⟨rfl,he⟩
theorem IJ {s:dL} {a:Act} {w:World} (h:ir c n s a w) {d:Nat} {b:Bool} (hb:s.t.getD d .dead= .b b):ir c n { s with t:=s.t.set d (.b b),kn:=(d,b)::s.kn } a w:=by
 obtain ⟨⟨c1,μ,fp,he,hx⟩,hk,hl⟩:=h;exact ⟨by grind [KC],Gb hk hb,by simpa using hl⟩
theorem bR (hC:iT C c.P) (hF:jq C c.P) (hm:c.P.follows .mixedOrders=true) (A:Nat→Option aq):∀ b:Code,xF c n b (dK C A b)
 | .skip=>fun s r a w h hs=>by
   obtain rfl:=aaG (show some (Ex.normal,s)=some r from h);exact wp_skip ⟨rfl,hs⟩
 | .ret=>fun s r a w h hs=>by
   obtain rfl:=aaG (show some (Ex.ret,s)=some r from h);exact wp_ret ⟨rfl,hs⟩
 | .exit m=>fun s r a w h hs=>by
   obtain rfl:=aaG (show some (Ex.exit m,s)=some r from h);exact wp_exit ⟨rfl,hs⟩
 | .seq x y=>fun s r a w h hs=>by
   simp only [dK] at h;obtain ⟨q,hq,h⟩:=cW h;refine wp_seq (wp_mono (bR hC hF hm A x s q a w hq hs) fun e a' w' he=> ?_);obtain ⟨rfl,he⟩:=he;obtain ⟨e,s'⟩:=q;cases e with
   |normal=>exact bR hC hF hm A y s' r a' w' h he
   |ret=>obtain rfl:=aaG h;exact ⟨rfl,he⟩
   |exit m=>obtain rfl:=aaG h;exact ⟨rfl,he⟩
 | .cond t x y=>fun s r a w h hs=>by
   simp only [dK] at h;obtain ⟨⟨c1,μ,fp,he,hx⟩,hk,hl⟩:=hs;have hs:ir c n s a w:=⟨⟨c1,μ,fp,he,hx⟩,hk,hl⟩
   have hv:=hx.cn t;split at h
   . rename_i e
     rw [wc hk e] at hv;simp only [an] at hv;exact wp_cond_true hv (bR hC hF hm A x s r a w h hs)
   . rename_i e
     rw [wc hk e] at hv;simp only [an] at hv;exact wp_cond_false hv (bR hC hF hm A y s r a w h hs)
   . split at h
     . rename_i d p _ e
       have e':s.t.getD d .dead= .b p:=e;have hv:an c1 μ (a.eval (.tmp d)) (.b p):=by rw [← e'];exact hv
       simp only [an] at hv;rcases cb h with ⟨rfl,h⟩|⟨rfl,h⟩
       . exact wp_cond_true hv (bR hC hF hm A x _ r a w h (IJ hs e'))
       . exact wp_cond_false hv (bR hC hF hm A y _ r a w h (IJ hs e'))
     . cases h
 | .block id (.loop b)=>fun s r a w h hs=>by
   simp only [dK] at h;split at h
   . rename_i A' e
     exact KJ (bR hC hF hm A b) (cG A b) id A' s r a w h hs
   . cases h
 | .region id ops draw=>fun s r a w h hs=>by
   simp only [dK] at h;obtain ⟨s',QN,h⟩:=cW h;obtain rfl:=aaG h;exact Gc hC hF hm hs QN fun a' w' h'=>⟨rfl,h'⟩
 | .block id .skip=>dU (bR hC hF hm A .skip) id
 | .block id .ret=>dU (bR hC hF hm A .ret) id
 | .block id (.exit m)=>dU (bR hC hF hm A (.exit m)) id
 | .block id (.seq x y)=>dU (bR hC hF hm A (.seq x y)) id
 | .block id (.cond t x y)=>dU (by simp_all [bR,cond]) id
 | .block id (.block j x)=>dU (bR hC hF hm A (.block j x)) id
 | .block id (.region j o d)=>dU (bR hC hF hm A (.region j o d)) id
 | .block id (.rangeFunc f p as b)=>dU (bR hC hF hm A (.rangeFunc f p as b)) id
 | .block id (.scope b)=>dU (bR hC hF hm A (.scope b)) id
 | .block id (.label l)=>dU (bR hC hF hm A (.label l)) id
 | .block id (.goto l)=>dU (bR hC hF hm A (.goto l)) id
 | .block id (.refuse l)=>dU (bR hC hF hm A (.refuse l)) id
 | .loop _=>fun s r a w h hs=>by simp [dK,Out.eval] at h
 | .rangeFunc .. =>fun s r a w h hs=>by simp [dK,Out.eval] at h
 | .scope _=>fun s r a w h hs=>by simp [dK,Out.eval] at h
 | .label _=>fun s r a w h hs=>by simp [dK,Out.eval] at h
 | .goto _=>fun s r a w h hs=>by simp [dK,Out.eval] at h
 | .refuse _=>fun s r a w h hs=>by simp [dK,Out.eval] at h
end
end
section
open Go
inductive Cm where
 |b
 |i (k:IntKind)
 |s
 |e
 |k
 |ro (e:Ty)
 |own (e:Ty)
 |mut (e:Ty)
def cmC:Cm→Type→Type
 | .b,T=>Bool×T
 | .i _,T=>Int×T
 | .s,T=>List UInt8×T
 | .e,T=>Bool×T
 | .k,T=>T
 | .ro e,T=>List e.D×T
 | .own e,T=>List e.D×T
 | .mut e,T=>List e.D×T
def tt:List Cm→Type
 |[]=>Unit
 |c::r=>cmC c (tt r)
def ae6:Cm→Type→Type
 | .b,T=>Bool×T
 | .i _,T=>Int×T
 | .s,T=>List UInt8×T
 | .e,T=>Bool×T
 | .k,T=>T
 | .ro _,T=>T
 | .own e,T=>List e.D×T
 | .mut e,T=>List e.D×T
def ae7:Cm→Type→Type
 | .mut e,T=>List e.D×T
 |_,T=>T
def lb:List Cm→Type
 |[]=>Unit
 |c::r=>ae6 c (lb r)
def pf:List Cm→Type
 |[]=>Unit
 |c::r=>ae7 c (pf r)
structure Item where
 ptr:Bool
 agg:Bool
 cs:List Cm
def az:List Item→Type
 |[]=>Unit
 |it::r=>tt it.cs×az r
def uk (it:Item):Type:=
 match it with
 |⟨true,_,cs⟩=>lb cs
 |⟨false,_,cs⟩=>pf cs
def gN:List Item→Type
 |[]=>Unit
 |it::r=>uk it×gN r
abbrev NG:=List (Option (Nat×Nat))
def lK:NG→List Value→List Value
 |[],_=>[]
 |none::r,v::vs=>v::lK r vs
 |none::r,[]=>lK r []
 |some (g,k)::r,vs=> .func (.func g) #[] (vs.take k).toArray::lK r (vs.drop k)
def xG:NG→List ai→List ai
 |[],_=>[]
 |none::r,v::vs=>v::xG r vs
 |none::r,[]=>xG r []
 |some (g,k)::r,vs=> .fn g (vs.take k)::xG r (vs.drop k)
def DI:NG→List ai→Option (List ai)
 |[],[]=>some []
 |none::r,d::ds=>(DI r ds).map fun q=>d::q
 |some (g,k)::r, .fn g' oU::ds=>if g=g'∧oU.length=k then (DI r ds).map fun q=>oU++q else none
 |_,_=>none
def KK (E:Env) (e:Ty):ai→Option (List e.D×List Nat)
 | .ni=>iS E e .ni
 | .cN id none=>iS E e (.cN id none)
 |_=>none
def fe (E EL:Env):(l:List Cm)→List ai→Option (tt l×List Nat)
 |[],[]=>some ((),[])
 | .b::r, .b x::q=>(fe E EL r q).map fun y=>((x,y.1),y.2)
 | .i k::r, .i k' x::q=>if k=k' then (fe E EL r q).map fun y=>((x,y.1),y.2) else none
 | .s::r, .s x::q=>(fe E EL r q).map fun y=>((x,y.1),y.2)
 | .e::r, .er x::q=>(fe E EL r q).map fun y=>((x,y.1),y.2)
 | .k::r,d::q=>if d.bC=true then fe E EL r q else none
 | .ro e::r,d::q=>(tU EL e d).bind fun x=>(fe E EL r q).map fun y=>((x,y.1),y.2)
 | .own e::r,d::q=>(iS E e d).bind fun z=>(fe E EL r q).map fun y=>((z.1,y.1),z.2++y.2)
 | .mut e::r,d::q=>(KK E e d).bind fun z=>(fe E EL r q).map fun y=>((z.1,y.1),z.2++y.2)
 |_,_=>none
def isAgg:ai→Bool
 | .agg _=>true
 |_=>false
def IK (E EL:Env):(it:Item)→ai→Option (tt it.cs×List Nat)
 |⟨false,a,cs⟩,d=>if isAgg d=a∧d.cells.all ai.bC=true then fe E EL cs d.cells else none
 |⟨true,_,cs⟩, .vptr id off=>
  match E id with
  |some (.var l)=>if off+cs.length≤l.length then (fe E EL cs ((l.drop off).take cs.length)).map fun y=>(y.1,id::y.2) else none
  |_=>none
 |_,_=>none
def mu (E EL:Env):(l:List Item)→List ai→Option (az l×List Nat)
 |[],[]=>some ((),[])
 |it::r,d::q=>(IK E EL it d).bind fun x=>(mu E EL r q).map fun y=>((x.1,y.1),x.2++y.2)
 |_,_=>none
def amL (tk:Bool) (n:Nat):Option Nat:=if tk then some n else none
def bg (tk:Bool):(l:List Cm)→tt l→Nat→List ai×List (Nat×bQ)×Nat
 |[],_,n=>([],[],n)
 | .b::r,x,n=>(.b x.1::(bg tk r x.2 n).1,(bg tk r x.2 n).2)
 | .i k::r,x,n=>(.i k x.1::(bg tk r x.2 n).1,(bg tk r x.2 n).2)
 | .s::r,x,n=>(.s x.1::(bg tk r x.2 n).1,(bg tk r x.2 n).2)
 | .e::r,x,n=>(.er x.1::(bg tk r x.2 n).1,(bg tk r x.2 n).2)
 | .k::r,x,n=>((bif tk then .kp n else .jD)::(bg tk r x (n+1)).1,(bg tk r x (n+1)).2)
 | .ro e::r,x,n=>(.ro e x.1 (amL tk n)::(bg tk r x.2 (n+1)).1,(bg tk r x.2 (n+1)).2)
 | .own e::r,x,n=>(.cN n none::(bg tk r x.2 (n+1)).1,(n, .arr e x.1)::(bg tk r x.2 (n+1)).2.1,(bg tk r x.2 (n+1)).2.2)
 | .mut e::r,x,n=>(.cN n none::(bg tk r x.2 (n+1)).1,(n, .arr e x.1)::(bg tk r x.2 (n+1)).2.1,(bg tk r x.2 (n+1)).2.2)
def Bu (a:Bool) (l:List ai):ai:=if a then .agg l else l.headD .dead
def kk (tk:Bool):(it:Item)→tt it.cs→Nat→ai×List (Nat×bQ)×Nat
 |⟨false,a,cs⟩,x,n=>(Bu a (bg tk cs x n).1,(bg tk cs x n).2)
 |⟨true,_,cs⟩,x,n=>(.vptr n 0,(bg tk cs x (n+1)).2.1++[(n, .var (bg tk cs x (n+1)).1)],(bg tk cs x (n+1)).2.2)
def dQ (tk:Bool):(l:List Item)→az l→Nat→List ai×List (Nat×bQ)×Nat
 |[],_,n=>([],[],n)
 |it::r,x,n=>((kk tk it x.1 n).1::(dQ tk r x.2 (kk tk it x.1 n).2.2).1,(kk tk it x.1 n).2.1++(dQ tk r x.2 (kk tk it x.1 n).2.2).2.1,(dQ tk r x.2 (kk tk it x.1 n).2.2).2.2)
def dV (E:Env):(l:List Cm)→Nat→List ai→Option (lb l×List Nat)
 |[],_,[]=>some ((),[])
 | .b::r,n, .b x::q=>(dV E r n q).map fun y=>((x,y.1),y.2)
 | .i k::r,n, .i k' x::q=>if k=k' then (dV E r n q).map fun y=>((x,y.1),y.2) else none
 | .s::r,n, .s x::q=>(dV E r n q).map fun y=>((x,y.1),y.2)
 | .e::r,n, .er x::q=>(dV E r n q).map fun y=>((x,y.1),y.2)
 | .k::r,n, .kp k::q=>if k=n then dV E r (n+1) q else none
 | .ro _::r,n, .ro _ _ (some k)::q=>if k=n then dV E r (n+1) q else none
 | .own e::r,n,d::q=>(iS E e d).bind fun z=>(dV E r (n+1) q).map fun y=>((z.1,y.1),z.2++y.2)
 | .mut e::r,n,d::q=>(iS E e d).bind fun z=>(dV E r (n+1) q).map fun y=>((z.1,y.1),z.2++y.2)
 |_,_,_=>none
def gJ (E:Env):(l:List Cm)→Nat→Option (pf l×List Nat)
 |[],_=>some ((),[])
 | .b::r,n=>gJ E r n
 | .i _::r,n=>gJ E r n
 | .s::r,n=>gJ E r n
 | .e::r,n=>gJ E r n
 | .k::r,n=>gJ E r (n+1)
 | .ro _::r,n=>gJ E r (n+1)
 | .own _::r,n=>gJ E r (n+1)
 | .mut e::r,n=>(iS E e (.cN n none)).bind fun z=>(gJ E r (n+1)).map fun y=>((z.1,y.1),z.2++y.2)
def um:List Cm→Nat→Nat
 |[],n=>n
 | .b::r,n=>um r n
 | .i _::r,n=>um r n
 | .s::r,n=>um r n
 | .e::r,n=>um r n
 | .k::r,n=>um r (n+1)
 | .ro _::r,n=>um r (n+1)
 | .own _::r,n=>um r (n+1)
 | .mut _::r,n=>um r (n+1)
def Cs:Item→Nat→Nat
 |⟨false,_,cs⟩,n=>um cs n
 |⟨true,_,cs⟩,n=>um cs (n+1)
def KL (E:Env):(it:Item)→Nat→Option (uk it×List Nat)
 |⟨false,_,cs⟩,n=>gJ E cs n
 |⟨true,_,cs⟩,n=>
  match E n with
  |some (.var l)=>(dV E cs (n+1) l).map fun y=>(y.1,n::y.2)
  |_=>none
def Gd (E:Env):(l:List Item)→Nat→Option (gN l×List Nat)
 |[],_=>some ((),[])
 |it::r,n=>(KL E it n).bind fun x=>(Gd E r (Cs it n)).map fun y=>((x.1,y.1),x.2++y.2)
def cc:(l:List Cm)→List ai→lb l→Nat→List ai×List (Nat×bQ)×Nat
 | .b::r,_::q,x,n=>(.b x.1::(cc r q x.2 n).1,(cc r q x.2 n).2)
 | .i k::r,_::q,x,n=>(.i k x.1::(cc r q x.2 n).1,(cc r q x.2 n).2)
 | .s::r,_::q,x,n=>(.s x.1::(cc r q x.2 n).1,(cc r q x.2 n).2)
 | .e::r,_::q,x,n=>(.er x.1::(cc r q x.2 n).1,(cc r q x.2 n).2)
 | .k::r,d::q,x,n=>(d::(cc r q x n).1,(cc r q x n).2)
 | .ro _::r,d::q,x,n=>(d::(cc r q x n).1,(cc r q x n).2)
 | .own e::r,_::q,x,n=>(.cN n none::(cc r q x.2 (n+1)).1,(n, .arr e x.1)::(cc r q x.2 (n+1)).2.1,(cc r q x.2 (n+1)).2.2)
 | .mut e::r,_::q,x,n=>(.cN n none::(cc r q x.2 (n+1)).1,(n, .arr e x.1)::(cc r q x.2 (n+1)).2.1,(cc r q x.2 (n+1)).2.2)
 |_,_,_,n=>([],[],n)
def qH:(l:List Cm)→List ai→pf l→List (Nat×bQ)
 | .b::r,_::q,x=>qH r q x
 | .i _::r,_::q,x=>qH r q x
 | .s::r,_::q,x=>qH r q x
 | .e::r,_::q,x=>qH r q x
 | .k::r,_::q,x=>qH r q x
 | .ro _::r,_::q,x=>qH r q x
 | .own _::r,_::q,x=>qH r q x
 | .mut e::r, .cN id none::q,x=>(id, .arr e x.1)::qH r q x.2
 | .mut _::r,_::q,x=>qH r q x.2
 |_,_,_=>[]
def mS (E:Env):(it:Item)→ai→uk it→Nat→List (Nat×bQ)×Nat
 |⟨false,_,cs⟩,d,x,n=>(qH cs d.cells x,n)
 |⟨true,_,cs⟩, .vptr id off,x,n=>
  match E id with
  |some (.var l)=>((cc cs ((l.drop off).take cs.length) x n).2.1++[(id, .var (eV l off (cc cs ((l.drop off).take cs.length) x n).1))],(cc cs ((l.drop off).take cs.length) x n).2.2)
  |_=>([],n)
 |⟨true,_,_⟩,_,_,n=>([],n)
def jx (E:Env):(l:List Item)→List ai→gN l→Nat→List (Nat×bQ)×Nat
 |it::r,d::q,x,n=>((mS E it d x.1 n).1++(jx E r q x.2 (mS E it d x.1 n).2).1,(jx E r q x.2 (mS E it d x.1 n).2).2)
 |_,_,_,n=>([],n)
structure bM where
 f:Nat
 lend:Bool
 aK:List Item
 lay:NG
 rs:List Item
 F:az aK→Out (az rs×gN aK)
 vw:Option (Nat×(Int→Int×Int)):=none
def Zt:List ai→ai
 |[d]=>d
 |ds=> .H5 ds
def Bv (E:Env) (ids:List Nat):Env:=fun id=>if ids.contains id=true then none else E id
def Nj:Env:=fun _=>none
def Bw (l:List Item):Bool:=l.all fun it=>it.cs.all fun c=>match c with| .ro _=>false| .own e=>e.qp| .mut e=>e.qp|_=>true
def Ge (p:Ty→Bool):Cm→Bool
 | .own e=>p e
 | .mut e=>p e
 |_=>true
def OS (p:Ty→Bool) (l:List Item):Bool:=l.all fun it=>it.cs.all (Ge p)
def after (K:bM) (E:Env) (ds:List ai) (ids:List Nat) (fr:Nat) (y:az K.rs×gN K.aK):Out iv:=
 let bk:=jx E K.aK ds y.2 fr
 let en:=dQ false K.rs y.1 bk.2
 if en.2.2≤fr+64 then .ret (Zt en.1,(ids.map fun k=>(k,none))++news (bk.1++en.2.1)) else .fail
def IL (K:bM) (E:Env) (ds:List ai):Env:=
 if K.lend=true then
  match mu E E K.aK ds with
  |some x=>Bv E x.2
  |none=>Nj
 else Nj
def bM.call (K:bM) (ds:List ai) (E:Env) (fr:Nat):Option (Out iv):=
 (DI K.lay ds).bind fun is=>(mu E (IL K E is) K.aK is).bind fun x=>
  if mh x.2=true∧(K.lend=false∨((Bw K.rs=true∧OS Ty.qp K.aK=true)∧x.2.all (fun id=>(IL K E is id).isNone)=true)) then some ((K.F x.1).bind (after K E is x.2 fr)) else none
def TR (E:Env) (es:Nat) (g:Int→Int×Int):List ai→Out iv
 |[.cN id none, .i .i64 n]=> .of (Cb E (.cN id none)) fun l=>if nU E id=some es then
  .ite (decide (0≤(g n).1∧(g n).1≤(g n).2∧(g n).2≤(l:Int))) (cJ (.cN id (some (0+(g n).1.toNat,(g n).2.toNat - (g n).1.toNat)))) .fail else .fail
 |[.ro e xs _, .i .i64 n]=>if e.size=es then
  .ite (decide (0≤(g n).1∧(g n).1≤(g n).2∧(g n).2≤(xs.length:Int))) (cJ (.ro e ((xs.drop (g n).1.toNat).take ((g n).2.toNat - (g n).1.toNat)) none)) .fail else .fail
 |_=> .fail
def IM:List bM→Nat→List ai→Env→Nat→Out iv
 |[],_,_,_,_=> .fail
 |K::r,f,ds,E,fr=>if K.f=f then
   match K.vw with
   |some v=>TR E v.1 v.2 ds
   |none=>
    match K.call ds E fr with
    |some o=>o
    |none=>IM r f ds E fr
  else IM r f ds E fr
def entry (aK:List Item) (lay:NG) (ntmps:Nat) (x:az aK):dL:=
 let en:=dQ true aK x 0
 { t:=xG lay en.1++List.replicate (ntmps - (xG lay en.1).length) .undef,v:=Cc [] (news en.2.1),k:=[0],kn:=[] }
def ai7 (C:Cx) (s:dL):ResultVar→Option ai
 | .tmp j=>some (s.t.getD j .dead)
 | .cell a t=>
   match s.t.getD a .dead with
   | .vptr id off=>
     match bs s.v id with
     |some (.var cs)=>(C.ty t).bind fun ty=>if off+ty.size≤cs.length then some (mO ty ((cs.drop off).take ty.size)) else none
     |_=>none
   |_=>none
def Nk (C:Cx) (s:dL):List ResultVar→Option (List ai)
 |[]=>some []
 |r::l=>(ai7 C s r).bind fun d=>(Nk C s l).map fun ds=>d::ds
def amM (E:Env):Env:=fun id=>
 match E id with
 |some (.arr e xs)=>some (.arr e xs)
 |some (.AW e xs x i off u k)=>some (.AW e xs x i off u k)
 |some (.vG e xs i cs)=>some (.vG e xs i cs)
 |_=>none
def Bx (rs:List Item) (E:Env) (ds:List ai) (zs:List Nat):Env:=
 if Bw rs=false then
  match mu E E rs ds with
  |some y=>amM (Bv E (y.2++zs))
  |_=>Nj
 else Nj
def leave (C:Cx) (aK rs:List Item) (rtm:List ResultVar) (s:dL):Option (az rs×gN aK):=
 (Nk C s rtm).bind fun ds=>(Gd (bs s.v) aK 0).bind fun z=>(mu (bs s.v) (Bx rs (bs s.v) ds z.2) rs ds).bind fun y=>
  if mh (y.2++z.2)=true∧(Bw rs=true∨((y.2++z.2).all fun id=>(Bx rs (bs s.v) ds z.2 id).isNone)=true) then some (y.1,z.1) else none
def DU (C:Cx) (A:Nat→Option aq) (code:Code) (aK:List Item) (lay:NG) (ntmps:Nat) (rs:List Item) (rtm:List ResultVar) (x:az aK):Out (az rs×gN aK):=
 (dK C A code (entry aK lay ntmps x)).bind fun r=>
  match r.1 with
  | .exit _=> .fail
  |_=> .of (leave C aK rs rtm r.2) .ret
end
section
open Go
variable {z:Fz}
def aT (S:Nat→Prop) (w:World):(l:List Cm)→List Value→tt l→List Nat→Prop
 |[],vs,_,f=>vs=[]∧f=[]
 | .b::r,vs,x,f=>∃ bm,vs= .bool x.1::bm∧aT S w r bm x.2 f
 | .i k::r,vs,x,f=>∃ bm,vs= .int k x.1::bm∧aT S w r bm x.2 f
 | .s::r,vs,x,f=>∃ bm,vs= .string ⟨List.toArray x.1⟩::bm∧List.length x.1≤aS∧aT S w r bm x.2 f
 | .e::r,vs,x,f=>∃ v bm,vs=v::bm∧erV v x.1∧aT S w r bm x.2 f
 | .k::r,vs,x,f=>∃ v bm,vs=v::bm∧v.oneCell'=true∧aT S w r bm x f
 | .ro e::r,vs,x,f=>∃ v bm,vs=v::bm∧(Ty.sl e).aQ S w [v] x.1∧aT S w r bm x.2 f
 | .own e::r,vs,x,f=>∃ v bm f1 f2,vs=v::bm∧f=f1++f2∧(Ty.sl e).au ⟨S,w⟩ w [v] x.1 f1∧aT S w r bm x.2 f2
 | .mut e::r,vs,x,f=>∃ v bm f1 f2,vs=v::bm∧f=f1++f2∧(Ty.sl e).au ⟨S,w⟩ w [v] x.1 f1∧aT S w r bm x.2 f2
theorem eC {S:Nat→Prop} {w:World}:(l:List Cm)→{vs:List Value}→{x:tt l}→{f:List Nat}→aT S w l vs x f→vs.length=l.length
 |[],_,_,_,h=>by grind [aT]
 | .b::r,_,_,_,h=>by simp only [aT] at h;obtain ⟨bm,rfl,h⟩:=h;simp [eC r h]
 | .i _::r,_,_,_,h=>by simp only [aT] at h;obtain ⟨bm,rfl,h⟩:=h;simp [eC r h]
 | .s::r,_,_,_,h=>by simp only [aT] at h;obtain ⟨bm,rfl,_,h⟩:=h;simp [eC r h]
 | .e::r,_,_,_,h=>by simp only [aT] at h;obtain ⟨_,bm,rfl,_,h⟩:=h;simp [eC r h]
 | .k::r,_,_,_,h=>by simp only [aT] at h;obtain ⟨_,bm,rfl,_,h⟩:=h;simp [eC r h]
 | .ro e::r,_,_,_,h=>by simp only [aT] at h;obtain ⟨v,bm,rfl,_,h⟩:=h;simp [eC r h]
 | .own e::r,_,_,_,h=>by simp only [aT] at h;obtain ⟨v,bm,f1,f2,rfl,_,_,h⟩:=h;simp [eC r h]
 | .mut e::r,_,_,_,h=>by simp only [aT] at h;obtain ⟨v,bm,f1,f2,rfl,_,_,h⟩:=h;simp [eC r h]
def iu (c:Ctx) (tk:Bool):List Cm→List Value→Nat→Prop
 | .b::r,_::vs,n=>iu c tk r vs n
 | .i _::r,_::vs,n=>iu c tk r vs n
 | .s::r,_::vs,n=>iu c tk r vs n
 | .e::r,_::vs,n=>iu c tk r vs n
 | .k::r,v::vs,n=>(tk=true→c.tok n=v)∧iu c tk r vs (n+1)
 | .ro _::r,v::vs,n=>(tk=true→c.tok n=v)∧iu c tk r vs (n+1)
 | .own _::r,_::vs,n=>iu c tk r vs (n+1)
 | .mut _::r,_::vs,n=>iu c tk r vs (n+1)
 |_,_,_=>True
theorem jj (tk:Bool):(l:List Cm)→(x:tt l)→(n:Nat)→(bg tk l x n).2.2=um l n
 |[],_,_=>rfl
 | .b::r,x,n=>jj tk r x.2 n
 | .i _::r,x,n=>jj tk r x.2 n
 | .s::r,x,n=>jj tk r x.2 n
 | .e::r,x,n=>jj tk r x.2 n
 | .k::r,x,n=>jj tk r x (n+1)
 | .ro _::r,x,n=>jj tk r x.2 (n+1)
 | .own _::r,x,n=>jj tk r x.2 (n+1)
 | .mut _::r,x,n=>jj tk r x.2 (n+1)
theorem gz:(l:List Cm)→(n:Nat)→n≤um l n
 |[],n=>abD n
 | .b::r,n=>gz r n
 | .i _::r,n=>gz r n
 | .s::r,n=>gz r n
 | .e::r,n=>gz r n
 | .k::r,n=>aa3 (ahj n) (gz r (n+1))
 | .ro _::r,n=>aa3 (ahj n) (gz r (n+1))
 | .own _::r,n=>aa3 (ahj n) (gz r (n+1))
 | .mut _::r,n=>aa3 (ahj n) (gz r (n+1))
theorem Gf (it:Item) (n:Nat):n≤Cs it n:=by
 obtain ⟨p,a,cs⟩:=it;cases p with
 |false=>exact gz cs n
 |true=>exact aa3 (ahj n) (gz cs (n+1))
theorem qI (tk:Bool) (it:Item) (x:tt it.cs) (n:Nat):(kk tk it x n).2.2=Cs it n:=by
 obtain ⟨p,a,cs⟩:=it;cases p with
 |false=>exact jj tk cs x n
 |true=>exact jj tk cs x (n+1)
def nr:List Item→Nat→Nat
 |[],n=>n
 |it::r,n=>nr r (Cs it n)
theorem wj:(l:List Item)→(n:Nat)→n≤nr l n
 |[],n=>abD n
 |it::r,n=>aa3 (Gf it n) (wj r _)
theorem DJ (tk:Bool):(l:List Item)→(x:az l)→(n:Nat)→(dQ tk l x n).2.2=nr l n
 |[],_,_=>rfl
 |it::r,x,n=>by
  show (dQ tk r x.2 (kk tk it x.1 n).2.2).2.2=nr r (Cs it n);rw [DJ tk r,qI]
structure ic (c:Ctx) (K:Nat→Prop) (μ:Nat→Loc) (fp:Nat→List Nat) (v:Env) (w:World) (rest:List Nat):Prop where
 rel:cX c μ fp v w
 known:∀ id x,v id=some x→K id∧∀ dS∈x.ids,K dS
 nodup:rest.Nodup
 far:∀ id,v id≠none→∀ b∈fp id,b ∉ rest
 ok:∀ b∈rest,¬ c.S b∧b<w.heap.size
section
variable {c:Ctx} {K K':Nat→Prop} {μ μ':Nat→Loc} {fp:Nat→List Nat} {v:Env} {w:World}
theorem ic.perm {rest aaR:List Nat} (h:ic c K μ fp v w rest) (hp:rest.Perm aaR):ic c K μ fp v w aaR:=
 ⟨h.rel,h.known,hp.nodup_iff.1 h.nodup,fun id hv b hb cf=>h.far id hv b hb (hp.mem_iff.2 cf),fun b hb=>h.ok b (hp.mem_iff.2 hb)⟩
theorem ic.add {f0 rest:List Nat} (h:ic c K μ fp v w (f0++rest)) {id0:Nat} {x0:bQ} (A7:∀ id,K id→μ' id=μ id) (hK:∀ id,K id→K' id) (h0:K' id0) (hx:∀ dS∈x0.ids,K' dS)
  (ta:cL c μ' w id0 f0 x0):ic c K' μ' (fun k=>if k=id0 then f0 else fp k) (cC v (news [(id0,x0)])) w rest:=by
 have Gx:=acd.1 h.nodup;have Zh:∀ k,cC v (news [(id0,x0)]) k=if k=id0 then some x0 else v k:=fun k=>rfl
 refine ⟨?_, ?_,Gx.2.1, ?_,fun b hb=>h.ok b (by simp [hb])⟩
 . exact h.rel.mn [] id0 x0 f0 (fun id y hy _ _=>⟨A7 id (h.known id y hy).1,fun i hi=>A7 i ((h.known id y hy).2 i hi)⟩) (fun _ _ _ _ _ _=>rfl) (abD _) ta Gx.1
    fun b hb=>⟨(h.ok b (by simp [hb])).1,(h.ok b (by simp [hb])).2,fun id hv _ _ cf=>h.far id hv b cf (by simp [hb])⟩
 . intro id y hy
   rw [Zh] at hy;by_cases hi:id=id0
   . grind
   . rw [aap hi] at hy
     exact ⟨hK id (h.known id y hy).1,fun i cU=>hK i ((h.known id y hy).2 i cU)⟩
 . intro id hv b hb cf
   rw [Zh] at hv;by_cases hi:id=id0
   . grind
   . rw [aap hi] at hv
     simp only [aap hi] at hb;exact h.far id hv b hb (by simp [cf])
theorem ic.Zu {f0 rest:List Nat} {n:Nat} {e:Ty} {xs:List e.D} {hd:Value} (h:ic c K μ fp v w (f0++rest)) (hn:¬ K n) (hr:(Ty.sl e).au c.fz w [hd] xs f0)
  (hM:∀ b∈f0,b<c.w0.heap.size→∀ j,c.M b j):
  ∃ μ' fp',an c μ' hd (.cN n none)∧ic c (fun id=>K id∨id=n) μ' fp' (cC v (news [(n, .arr e xs)])) w rest∧∀ id,K id→μ' id=μ id:=by
 have GQ:=hr;simp only [Ty.au] at GQ;obtain ⟨a,cap,e1,hc,_⟩:=GQ;cases e1;have ha:∀ id,K id→(if id=n then Loc.sS a (List.length xs) cap e.size else μ id)=μ id:=by grind
 refine ⟨fun id=>if id=n then .sS a (List.length xs) cap e.size else μ id,_, ?_,h.add (K':=fun id=>K id∨id=n) ha (fun _=> .inl) (.inr rfl) (fun _ hi=>by cases hi) ⟨a,cap,aaK rfl,hr,hM⟩,ha⟩;simp only [an];exact ⟨a,List.length xs,cap,e.size,by simp,rfl⟩
theorem ic.weaken {rest:List Nat} (h:ic c K μ fp v w rest) (hK:∀ id,K id→K' id):ic c K' μ fp v w rest:=
 ⟨h.rel,fun id x hx=>⟨hK id (h.known id x hx).1,fun i hi=>hK i ((h.known id x hx).2 i hi)⟩,h.nodup,h.far,h.ok⟩
theorem fV (tk:Bool):(l:List Cm)→(x:tt l)→(n:Nat)→∀ id∈ai.bI (bg tk l x n).1,n≤id∧id<um l n
 |[],_,_=>by intro id h;cases h
 | .b::r,x,n=>fV tk r x.2 n
 | .i _::r,x,n=>fV tk r x.2 n
 | .s::r,x,n=>fV tk r x.2 n
 | .e::r,x,n=>fV tk r x.2 n
 | .k::r,x,n=>fun id h=>by
   have h:id∈(bif tk then ai.kp n else ai.jD).ids++ai.bI (bg tk r x (n+1)).1:=h;have h0:(bif tk then ai.kp n else ai.jD).ids=[]:=by cases tk<;>rfl
   rw [h0,aaL] at h;have:=fV tk r x (n+1) id h;grind [um]
 | .ro _::r,x,n=>fun id h=>by have:=fV tk r x.2 (n+1) id h;grind [um]
 | .own _::r,x,n=>fun id h=>by
   have h:id∈n::ai.bI (bg tk r x.2 (n+1)).1:=h;have l1:=gz r (n+1);simp only [um];rcases abE.1 h with h|h
   . omega
   . have:=fV tk r x.2 (n+1) id h;omega
 | .mut _::r,x,n=>fun id h=>by
   have h:id∈n::ai.bI (bg tk r x.2 (n+1)).1:=h;have l1:=gz r (n+1);simp only [um];rcases abE.1 h with h|h
   . omega
   . have:=fV tk r x.2 (n+1) id h;omega
theorem eD (tk:Bool):(l:List Cm)→(x:tt l)→(n:Nat)→(bg tk l x n).1.all ai.bC=true
 |[],_,_=>rfl
 | .b::r,x,n=>by simpa [bg,ai.bC] using eD tk r x.2 n
 | .i _::r,x,n=>by simpa [bg,ai.bC] using eD tk r x.2 n
 | .s::r,x,n=>by simpa [bg,ai.bC] using eD tk r x.2 n
 | .e::r,x,n=>by simpa [bg,ai.bC] using eD tk r x.2 n
 | .k::r,x,n=>by cases tk<;>simpa [bg,ai.bC] using eD _ r x (n+1)
 | .ro _::r,x,n=>by simpa [bg,ai.bC] using eD tk r x.2 (n+1)
 | .own _::r,x,n=>by simpa [bg,ai.bC] using eD tk r x.2 (n+1)
 | .mut _::r,x,n=>by simpa [bg,ai.bC] using eD tk r x.2 (n+1)
theorem fW (tk:Bool):(l:List Cm)→(x:tt l)→(n:Nat)→(bg tk l x n).1.length=l.length
 |[],_,_=>rfl
 | .b::r,x,n=>by simpa [bg] using fW tk r x.2 n
 | .i _::r,x,n=>by simpa [bg] using fW tk r x.2 n
 | .s::r,x,n=>by simpa [bg] using fW tk r x.2 n
 | .e::r,x,n=>by simpa [bg] using fW tk r x.2 n
 | .k::r,x,n=>by simpa [bg] using fW tk r x (n+1)
 | .ro _::r,x,n=>by simpa [bg] using fW tk r x.2 (n+1)
 | .own _::r,x,n=>by simpa [bg] using fW tk r x.2 (n+1)
 | .mut _::r,x,n=>by simpa [bg] using fW tk r x.2 (n+1)
def sV (c:Ctx) (K:Nat→Prop) (μ:Nat→Loc) (v:Env) (w:World) (rest:List Nat) (n n':Nat) (ns:List (Nat×bQ)) (R:(Nat→Loc)→Prop):Prop:=
 ∃ μ' fp',R μ'∧ic c (fun id=>K id∨(n≤id∧id<n')) μ' fp' (cC v (news ns)) w rest∧∀ id,K id→μ' id=μ id
theorem fX {S:Nat→Prop} (tk:Bool) (hS:∀ b,S b→c.S b∧c.w0.heap[b]? =w.heap[b]?):(l:List Cm)→∀ {vs:List Value} {x:tt l} {f rest:List Nat} {n:Nat} {K:Nat→Prop} {μ:Nat→Loc} {fp:Nat→List Nat} {v:Env},
  ic c K μ fp v w (f++rest)→aT S w l vs x f→iu c tk l vs n→(∀ b∈f,b<c.w0.heap.size→∀ j,c.M b j)→(∀ id,n≤id→id<um l n→¬ K id)→
  sV c K μ v w rest n (um l n) (bg tk l x n).2.1 fun μ'=>aj c μ' vs (bg tk l x n).1
 |[],vs,x,f,rest,n,K,μ,fp,v,h,hr,_,_,_=>by
  simp only [aT] at hr;obtain ⟨rfl,rfl⟩:=hr;exact ⟨μ,fp,by simp [bg,aj],h.weaken fun _=> .inl,fun _ _=>rfl⟩
 | .b::r,vs,x,f,rest,n,K,μ,fp,v,h,hr,ht,hM,hk=>by
   simp only [aT] at hr;obtain ⟨bm,rfl,hr⟩:=hr;obtain ⟨μ',fp',h1,h2,h3⟩:=fX tk hS r h hr ht hM hk;exact ⟨μ',fp',by simp only [bg,aj,an];grind,h2,h3⟩
 | .i k::r,vs,x,f,rest,n,K,μ,fp,v,h,hr,ht,hM,hk=>by
   simp only [aT] at hr;obtain ⟨bm,rfl,hr⟩:=hr;obtain ⟨μ',fp',h1,h2,h3⟩:=fX tk hS r h hr ht hM hk;exact ⟨μ',fp',by simp only [bg,aj,an];grind,h2,h3⟩
 | .s::r,vs,x,f,rest,n,K,μ,fp,v,h,hr,ht,hM,hk=>by
   simp only [aT] at hr;obtain ⟨bm,rfl,hl,hr⟩:=hr;obtain ⟨μ',fp',h1,h2,h3⟩:=fX tk hS r h hr ht hM hk;exact ⟨μ',fp',by simp only [bg,aj,an];grind,h2,h3⟩
 | .e::r,vs,x,f,rest,n,K,μ,fp,v,h,hr,ht,hM,hk=>by
   simp only [aT] at hr;obtain ⟨_,bm,rfl,hl,hr⟩:=hr;obtain ⟨μ',fp',h1,h2,h3⟩:=fX tk hS r h hr ht hM hk;exact ⟨μ',fp',by simp only [bg,aj,an];grind,h2,h3⟩
 | .k::r,vs,x,f,rest,n,K,μ,fp,v,h,hr,ht,hM,hk=>by
   simp only [aT] at hr;obtain ⟨v0,bm,rfl,hx,hr⟩:=hr;simp only [iu] at ht;have l1:=gz r (n+1);obtain ⟨μ',fp',h1,h2,h3⟩:=fX tk hS r h hr ht.2 hM (fun id g1 g2=>hk id (by omega) g2);refine ⟨μ',fp', ?_,h2.weaken fun id hi=>hi.imp (fun h=>h) fun g=>⟨by omega,g.2⟩,h3⟩;simp only [bg,aj];refine ⟨_,_,rfl, ?_,h1⟩;cases tk with
   |false=>exact hx
   |true=>exact ⟨(ht.1 rfl).symm,hx⟩
 | .ro e::r,vs,x,f,rest,n,K,μ,fp,v,h,hr,ht,hM,hk=>by
   simp only [aT] at hr;obtain ⟨v0,bm,rfl,hx,hr⟩:=hr;simp only [iu] at ht;have l1:=gz r (n+1);obtain ⟨μ',fp',h1,h2,h3⟩:=fX tk hS r h hr ht.2 hM (fun id g1 g2=>hk id (by omega) g2);refine ⟨μ',fp', ?_,h2.weaken fun id hi=>hi.imp (fun h=>h) fun g=>⟨by omega,g.2⟩,h3⟩;simp only [bg,aj,an];refine ⟨_,_,rfl,⟨by grind [Ty.eA],fun k hk=> ?_⟩,h1⟩;cases tk with
   |false=>cases hk
   |true=>cases hk;grind
 | .own e::r,vs,x,f,rest,n,K,μ,fp,v,h,hr,ht,hM,hk=>by
   simp only [aT] at hr;obtain ⟨v0,bm,f1,f2,rfl,rfl,hx,hr⟩:=hr;have l1:=gz r (n+1);simp only [um] at hk;obtain ⟨yG,I6,g1,g2,g3⟩:=ic.Zu (rest:=f2++rest) (by rw [← aez];exact h) (hk n (abD n) (by omega)) (Ty.dc (show Fz.le ⟨S,w⟩ c.fz from hS) _ hx) (by grind);obtain ⟨μ',fp',h1,h2,h3⟩:=fX tk hS r g2 hr ht (by grind) (by grind);refine ⟨μ',fp', ?_,h2.weaken fun id hi=> ?_,by grind⟩
   . simp only [bg,aj]
     exact ⟨_,_,rfl,by grind [an.mono,id,ai.ids,List.mem_singleton],h1⟩
   grind [um]
 | .mut e::r,vs,x,f,rest,n,K,μ,fp,v,h,hr,ht,hM,hk=>by
   simp only [aT] at hr;obtain ⟨v0,bm,f1,f2,rfl,rfl,hx,hr⟩:=hr;have l1:=gz r (n+1);simp only [um] at hk;obtain ⟨yG,I6,g1,g2,g3⟩:=ic.Zu (rest:=f2++rest) (by rw [← aez];exact h) (hk n (abD n) (by omega)) (Ty.dc (show Fz.le ⟨S,w⟩ c.fz from hS) _ hx) (by grind);obtain ⟨μ',fp',h1,h2,h3⟩:=fX tk hS r g2 hr ht (by grind) (by grind);refine ⟨μ',fp', ?_,h2.weaken fun id hi=> ?_,by grind⟩
   . simp only [bg,aj]
     exact ⟨_,_,rfl,by grind [an.mono,id,ai.ids,List.mem_singleton],h1⟩
   grind [um]
end
theorem uq (f1 f2 g1 g2:List Nat):(f1++f2++(g1++g2)).Perm ((f1++g1)++(f2++g2)):=by grind
def cR (S:Nat→Prop) (w:World):(it:Item)→Value→tt it.cs→List Nat→List (Nat×Nat×Nat)→Prop
 |⟨false,a,cs⟩,v,x,f,g=>g=[]∧aT S w cs v.cells.toList x f∧(a=true→∃ us,v= .agg us)∧(a=false→v.oneCell'=true)
 |⟨true,_,cs⟩,v,x,f,g=>∃ B o C E,g=[(B,o,cs.length)]∧v= .pointer (some ⟨B,o,none⟩)∧w.heap[B]? =some (.cells C E (0,0))∧o+cs.length≤C.size∧aT S w cs (aE w B o cs.length) x f
def ba (S:Nat→Prop) (w:World):(l:List Item)→List Value→az l→List Nat→List (Nat×Nat×Nat)→Prop
 |[],vs,_,f,g=>vs=[]∧f=[]∧g=[]
 |it::r,vs,x,f,g=>∃ v bm f1 f2 g1 g2,vs=v::bm∧f=f1++f2∧g=g1++g2∧cR S w it v x.1 f1 g1∧ba S w r bm x.2 f2 g2
theorem ba.length {S:Nat→Prop} {w:World}:(l:List Item)→{vs:List Value}→{x:az l}→{f:List Nat}→{g:List (Nat×Nat×Nat)}→ba S w l vs x f g→vs.length=l.length
 |[],_,_,_,_,h=>by grind [ba]
 |it::r,_,_,_,_,h=>by simp only [ba] at h;obtain ⟨v,bm,f1,f2,g1,g2,rfl,_,_,_,h⟩:=h;simp [ba.length r h]
def TS (c:Ctx) (tk:Bool) (w:World):Item→Value→Nat→Prop
 |⟨false,_,cs⟩,v,n=>iu c tk cs v.cells.toList n
 |⟨true,_,cs⟩,v,n=>∀ B o,v= .pointer (some ⟨B,o,none⟩)→iu c tk cs (aE w B o cs.length) (n+1)
def mv (c:Ctx) (tk:Bool) (w:World):List Item→List Value→Nat→Prop
 |it::r,v::vs,n=>TS c tk w it v n∧mv c tk w r vs (Cs it n)
 |_,_,_=>True
section
variable {c:Ctx} {K K':Nat→Prop} {μ μ':Nat→Loc} {fp:Nat→List Nat} {v:Env} {w:World}
theorem OT {a:Bool} {d:Value} {ds:List ai} (h:aj c μ d.cells.toList ds) (h1:a=true→∃ us,d= .agg us) (h2:a=false→d.oneCell'=true):an c μ d (Bu a ds):=by
 cases a with
 |true=>
  obtain ⟨us,rfl⟩:=h1 rfl;simp only [Bu,af7,an];exact ⟨us,rfl,h⟩
 |false=>
  rw [gw (h2 rfl)] at h;simp only [Bu];cases ds with
  |nil=>simp [aj] at h
  |cons y ds=>
   grind [aj]
theorem KM {S:Nat→Prop} (tk:Bool) (hS:∀ b,S b→c.S b∧c.w0.heap[b]? =w.heap[b]?):(it:Item)→∀ {d:Value} {x:tt it.cs} {f rest:List Nat} {g:List (Nat×Nat×Nat)} {n:Nat} {K:Nat→Prop} {μ:Nat→Loc} {fp:Nat→List Nat} {v:Env},
  ic c K μ fp v w (f++g.map (·.1)++rest)→cR S w it d x f g→TS c tk w it d n→(∀ b∈f,b<c.w0.heap.size→∀ j,c.M b j)→
  (∀ B o m,(B,o,m)∈g→B<c.w0.heap.size→∀ j,j<m→c.M B (o+j))→(∀ id,n≤id→id<Cs it n→¬ K id)→
  sV c K μ v w rest n (Cs it n) (kk tk it x n).2.1 fun μ'=>an c μ' d (kk tk it x n).1
 |⟨false,a,cs⟩,d,x,f,rest,g,n,K,μ,fp,v,h,hr,ht,hM,_,hk=>by
  simp only [cR] at hr;obtain ⟨rfl,hr,h1,h2⟩:=hr;obtain ⟨μ',fp',g1,g2,g3⟩:=fX tk hS cs (by simpa using h) hr ht hM hk;exact ⟨μ',fp',OT g1 h1 h2,g2,g3⟩
 |⟨true,a,cs⟩,d,x,f,rest,g,n,K,μ,fp,v,h,hr,ht,hM,hG,hk=>by
  simp only [cR] at hr;obtain ⟨B,o,C,E,rfl,rfl,hb,hC,hr⟩:=hr;have hk:∀ id,n≤id→id<um cs (n+1)→¬ K id:=hk;have l1:=gz cs (n+1);obtain ⟨yG,I6,g1,g2,g3⟩:=fX tk hS cs (rest:=[B]++rest) (by simpa using h) hr (ht B o rfl) hM (by grind);have hn:¬ (K n∨n+1≤n∧n<um cs (n+1)):=by grind
  have ha:∀ id,(K id∨n+1≤id∧id<um cs (n+1))→(if id=n then Loc.at B o else yG id)=yG id:=by grind
  have hl:(bg tk cs x (n+1)).1.length=cs.length:=fW tk cs x (n+1);have Bc:=fV tk cs x (n+1);have nk:cL c (fun id=>if id=n then Loc.at B o else yG id) w n [B] (.var (bg tk cs x (n+1)).1):=by
   refine ⟨B,o,C,E,aaK rfl,rfl,hb,by grind, ?_,eD tk cs x (n+1),by grind⟩;grind [aj.mono,id]
  refine ⟨fun id=>if id=n then Loc.at B o else yG id,fun k=>if k=n then [B] else I6 k, ?_, ?_, ?_⟩
  . show an c _ _ (.vptr n 0)
    simp only [an];exact ⟨B,o,by simp,rfl⟩
  . show ic c _ _ _ (cC v (news ((bg tk cs x (n+1)).2.1++[(n, .var (bg tk cs x (n+1)).1)]))) w rest
    rw [jH,dE];refine g2.add (μ':=fun id=>if id=n then Loc.at B o else yG id) ha (fun id hi=> ?_) (.inr ⟨abD n,show n<um cs (n+1) by omega⟩) (fun id hi=> ?_) nk
    . exact hi.imp (fun h=>h) fun q=>⟨by omega,q.2⟩
    . have:=Bc id hi
      exact .inr ⟨by omega,this.2⟩
  grind
theorem By (tk:Bool):(it:Item)→(x:tt it.cs)→(n:Nat)→∀ id∈(kk tk it x n).1.ids,n≤id∧id<Cs it n
 |⟨false,a,cs⟩,x,n=>by
  intro id h;refine fV tk cs x n id ?_;cases a with
  |true=>exact h
  |false=>
   have h:id∈((bg tk cs x n).1.headD .dead).ids:=h;cases hy:(bg tk cs x n).1 with
   |nil=>rw [hy] at h;cases h
   |cons y l=>grind [List.headD_cons,ai.bI]
 |⟨true,a,cs⟩,x,n=>by
  intro id h;have h:id∈[n]:=h;simp only [adi] at h;have l1:=gz cs (n+1);show n≤id∧id<um cs (n+1);omega
theorem qJ {S:Nat→Prop} (tk:Bool) (hS:∀ b,S b→c.S b∧c.w0.heap[b]? =w.heap[b]?):(l:List Item)→∀ {vs:List Value} {x:az l} {f rest:List Nat} {g:List (Nat×Nat×Nat)} {n:Nat} {K:Nat→Prop} {μ:Nat→Loc} {fp:Nat→List Nat} {v:Env},
  ic c K μ fp v w (f++g.map (·.1)++rest)→ba S w l vs x f g→mv c tk w l vs n→(∀ b∈f,b<c.w0.heap.size→∀ j,c.M b j)→
  (∀ B o m,(B,o,m)∈g→B<c.w0.heap.size→∀ j,j<m→c.M B (o+j))→(∀ id,n≤id→id<nr l n→¬ K id)→
  sV c K μ v w rest n (nr l n) (dQ tk l x n).2.1 fun μ'=>aj c μ' vs (dQ tk l x n).1
 |[],vs,x,f,rest,g,n,K,μ,fp,v,h,hr,_,_,_,_=>by
  simp only [ba] at hr;obtain ⟨rfl,rfl,rfl⟩:=hr;exact ⟨μ,fp,by simp [dQ,aj],ic.weaken (show ic c K μ fp v w rest by simpa using h) fun _=> .inl,fun _ _=>rfl⟩
 |it::r,vs,x,f,rest,g,n,K,μ,fp,v,h,hr,ht,hM,hG,hk=>by
  simp only [ba] at hr;obtain ⟨d,bm,f1,f2,g1,g2,rfl,rfl,rfl,h1,hr⟩:=hr;simp only [mv] at ht;have hk:∀ id,n≤id→id<nr r (Cs it n)→¬ K id:=hk;have l1:=Gf it n;have l2:=wj r (Cs it n);have hp:(f1++f2++(g1++g2).map (·.1)++rest).Perm (f1++g1.map (·.1)++(f2++g2.map (·.1)++rest)):=by grind
  obtain ⟨yG,I6,q1,q2,q3⟩:=KM tk hS it (h.perm hp) h1 ht.1 (by grind) (by grind) (by grind);obtain ⟨μ',fp',p1,p2,p3⟩:=qJ tk hS r q2 hr ht.2 (by grind) (by grind) (by grind);refine ⟨μ',fp', ?_, ?_,by grind⟩
  . simp only [dQ,aj]
    refine ⟨_,_,rfl,by grind [an.mono,id,By], ?_⟩;grind [qI]
  grind [dQ,jH,dE,qI,id,nr]
end
end
section
open Go
variable {z:Fz}
section
variable {c:Ctx} {μ:Nat→Loc} {fp:Nat→List Nat} {v:Env} {w:World} {E EL:Env}
theorem k8.nil:k8 c fp v E [] []:=⟨by simp,by simp,by simp,by simp⟩
theorem Zv {e:Ty} {d:ai} {z:List e.D×List Nat} (h:KK E e d=some z):iS E e d=some z:=by
 unfold KK at h;grind
theorem hO (h:cX c μ fp v w) (ev:Ev c w) (hE:∀ id x,E id=some x→v id=some x) (DK:∀ id x,EL id=some x→v id=some x) {S':Nat→Prop} (hS:∀ b,c.S b→S' b) (hP:∀ id,EL id≠none→∀ b∈fp id,S' b):
  (l:List Cm)→{vs:List Value}→{ds:List ai}→{r:tt l×List Nat}→aj c μ vs ds→fe E EL l ds=some r→r.2.Nodup→∃ f,aT S' w l vs r.1 f∧k8 c fp v E r.2 f
 |[],vs,ds,r,hr,hf,_=>by
  cases ds with
  |nil=>
   cases hf;simp_all [aj,aT,trivial,k8.nil]
  |cons d q=>cases hf
 | .b::l,vs,ds,r,hr,hf,hn=>by
   cases ds with
   |nil=>cases hf
   |cons d q=>
    cases d<;>try (cases hf;done)
    rename_i x;obtain ⟨y,hy,rfl⟩:=Option.map_eq_some_iff.1 (show ((fe E EL l q).map fun y=>((x,y.1),y.2))=some r from hf);simp only [aj] at hr;obtain ⟨v0,bm,rfl,hx,hr⟩:=hr;simp only [an] at hx;subst hx;obtain ⟨f,h1,h2⟩:=hO h ev hE DK hS hP l hr hy hn;exact ⟨f,by simp only [aT];exact ⟨bm,rfl,h1⟩,h2⟩
 | .i k::l,vs,ds,r,hr,hf,hn=>by
   cases ds with
   |nil=>cases hf
   |cons d q=>
    cases d<;>try (cases hf;done)
    rename_i k' x;replace hf:(if k=k' then (fe E EL l q).map fun y=>((x,y.1),y.2) else none)=some r:=hf;split at hf
    case isFalse=>cases hf
    rename_i e;subst e;obtain ⟨y,hy,rfl⟩:=Option.map_eq_some_iff.1 hf;simp only [aj] at hr;obtain ⟨v0,bm,rfl,hx,hr⟩:=hr;simp only [an] at hx;subst hx;obtain ⟨f,h1,h2⟩:=hO h ev hE DK hS hP l hr hy hn;exact ⟨f,by simp only [aT];exact ⟨bm,rfl,h1⟩,h2⟩
 | .s::l,vs,ds,r,hr,hf,hn=>by
   cases ds with
   |nil=>cases hf
   |cons d q=>
    cases d<;>try (cases hf;done)
    rename_i x;obtain ⟨y,hy,rfl⟩:=Option.map_eq_some_iff.1 (show ((fe E EL l q).map fun y=>((x,y.1),y.2))=some r from hf);simp only [aj] at hr;obtain ⟨v0,bm,rfl,hx,hr⟩:=hr;simp only [an] at hx;obtain ⟨f,h1,h2⟩:=hO h ev hE DK hS hP l hr hy hn;grind [aT]
 | .e::l,vs,ds,r,hr,hf,hn=>by
   cases ds with
   |nil=>cases hf
   |cons d q=>
    cases d<;>try (cases hf;done)
    rename_i x;obtain ⟨y,hy,rfl⟩:=Option.map_eq_some_iff.1 (show ((fe E EL l q).map fun y=>((x,y.1),y.2))=some r from hf);simp only [aj] at hr;obtain ⟨v0,bm,rfl,hx,hr⟩:=hr;simp only [an] at hx;obtain ⟨f,h1,h2⟩:=hO h ev hE DK hS hP l hr hy hn;exact ⟨f,by simp only [aT];grind,h2⟩
 | .k::l,vs,ds,r,hr,hf,hn=>by
   cases ds with
   |nil=>cases hf
   |cons d q=>
    replace hf:(if d.bC=true then fe E EL l q else none)=some r:=hf;split at hf
    case isFalse=>cases hf
    rename_i hd;simp only [aj] at hr;obtain ⟨v0,bm,rfl,hv,hr⟩:=hr;obtain ⟨f,h1,h2⟩:=hO h ev hE DK hS hP l hr hf hn;exact ⟨f,by simp only [aT];exact ⟨v0,bm,rfl,hv.iP hd,h1⟩,h2⟩
 | .ro e::l,vs,ds,r,hr,hf,hn=>by
   cases ds with
   |nil=>cases hf
   |cons d q=>
    replace hf:((tU EL e d).bind fun x=>(fe E EL l q).map fun y=>((x,y.1),y.2))=some r:=hf;obtain ⟨x,hx,hf⟩:=Option.bind_eq_some_iff.1 hf;obtain ⟨y,hy,rfl⟩:=Option.map_eq_some_iff.1 hf;simp only [aj] at hr;obtain ⟨v0,bm,rfl,hv,hr⟩:=hr;obtain ⟨f,h1,h2⟩:=hO h ev hE DK hS hP l hr hy hn;exact ⟨f,by simp only [aT];exact ⟨v0,bm,rfl,by grind [oZ],h1⟩,h2⟩
 | .own e::l,vs,ds,r,hr,hf,hn=>by
   cases ds with
   |nil=>cases hf
   |cons d q=>
    replace hf:((iS E e d).bind fun z=>(fe E EL l q).map fun y=>((z.1,y.1),z.2++y.2))=some r:=hf;obtain ⟨z,hz,hf⟩:=Option.bind_eq_some_iff.1 hf;obtain ⟨y,hy,rfl⟩:=Option.map_eq_some_iff.1 hf;simp only [aj] at hr;obtain ⟨v0,bm,rfl,hv,hr⟩:=hr;obtain ⟨f,h1,h2⟩:=hO h ev hE DK hS hP l hr hy (by grind);obtain ⟨f0,g1,g2⟩:=hJ h hE hv hz;exact ⟨f0++f,by simp only [aT];exact ⟨v0,bm,f0,f,rfl,rfl,Ty.dc (show Fz.le c.fz ⟨S',w⟩ from fun b hb=>⟨hS b hb,ev.S b hb⟩) _ g1,h1⟩,g2.append h h2 hn⟩
 | .mut e::l,vs,ds,r,hr,hf,hn=>by
   cases ds with
   |nil=>cases hf
   |cons d q=>
    replace hf:((KK E e d).bind fun z=>(fe E EL l q).map fun y=>((z.1,y.1),z.2++y.2))=some r:=hf;obtain ⟨z,hz,hf⟩:=Option.bind_eq_some_iff.1 hf;obtain ⟨y,hy,rfl⟩:=Option.map_eq_some_iff.1 hf;simp only [aj] at hr;obtain ⟨v0,bm,rfl,hv,hr⟩:=hr;obtain ⟨f,h1,h2⟩:=hO h ev hE DK hS hP l hr hy (by grind);obtain ⟨f0,g1,g2⟩:=hJ h hE hv (Zv hz);exact ⟨f0++f,by simp only [aT];exact ⟨v0,bm,f0,f,rfl,rfl,Ty.dc (show Fz.le c.fz ⟨S',w⟩ from fun b hb=>⟨hS b hb,ev.S b hb⟩) _ g1,h1⟩,g2.append h h2 hn⟩
structure GoneB (c:Ctx) (fp:Nat→List Nat) (v E:Env) (ids:List Nat) (f:List Nat) (g:List (Nat×Nat×Nat)):Prop where
 mem:∀ b∈f++g.map (·.1),∃ id∈ids,b∈fp id
 nodup:(f++g.map (·.1)).Nodup
 there:∀ id∈ids,v id≠none∧E id≠none
 may:∀ b∈f,b<c.w0.heap.size→∀ j,c.M b j
structure DL (c:Ctx) (fp:Nat→List Nat) (v E:Env) (ids:List Nat) (f:List Nat) (g:List (Nat×Nat×Nat)):Prop extends GoneB c fp v E ids f g where
 Zw:∀ B o m,(B,o,m)∈g→B<c.w0.heap.size→∀ j,j<m→c.M B (o+j)
theorem GoneB.nil:GoneB c fp v E [] [] []:=⟨by simp,by simp,by simp,by simp⟩
theorem GoneB.append (h:cX c μ fp v w) {ids Ba f f':List Nat} {g g':List (Nat×Nat×Nat)} (a:GoneB c fp v E ids f g) (b:GoneB c fp v E Ba f' g') (hn:(ids++Ba).Nodup):
  GoneB c fp v E (ids++Ba) (f++f') (g++g'):=by
 have hp:(f++f'++(g++g').map (·.1)).Perm ((f++g.map (·.1))++(f'++g'.map (·.1))):=by grind
 constructor
 . intro x hx
   rcases aaN.1 (hp.mem_iff.1 hx) with hx|hx
   . obtain ⟨i,hi,hm⟩:=a.mem x hx;grind
   . obtain ⟨i,hi,hm⟩:=b.mem x hx;grind
 . rw [hp.nodup_iff,acd]
   refine ⟨a.nodup,b.nodup,fun x hx y hy e=> ?_⟩;subst e;obtain ⟨i,hi,hm⟩:=a.mem x hx;obtain ⟨j,hj,pI⟩:=b.mem x hy;have:i≠j:=by grind
   exact h.sep i j this (a.there i hi).1 (b.there j hj).1 x hm pI
 . intro i hi
   rcases aaN.1 hi with hi|hi
   . exact a.there i hi
   . exact b.there i hi
 . intro x hx
   rcases aaN.1 hx with hx|hx
   . exact a.may x hx
   . exact b.may x hx
theorem DL.append (h:cX c μ fp v w) {ids Ba f f':List Nat} {g g':List (Nat×Nat×Nat)} (a:DL c fp v E ids f g) (b:DL c fp v E Ba f' g') (hn:(ids++Ba).Nodup):
  DL c fp v E (ids++Ba) (f++f') (g++g'):=by
 refine ⟨a.toGoneB.append h b.toGoneB hn,fun B o m hx=> ?_⟩;rcases aaN.1 hx with hx|hx
 . exact a.Zw B o m hx
 . exact b.Zw B o m hx
theorem OU {d:ai} {x:Value} (h:an c μ x d) (ha:isAgg d=true):∃ us,x= .agg us:=by
 cases d<;>simp [isAgg] at ha;simp only [an] at h;grind
theorem OV {d:ai} {x:Value} (h:an c μ x d) (ha:isAgg d=false) (hc:d.cells.all ai.bC=true):x.oneCell'=true:=by
 have hd:d.cells=[d]:=by cases d<;>first|rfl|cases ha
 rw [hd] at hc;simp only [acY,List.all_nil,ag3] at hc;exact h.iP hc
theorem OW (h:cX c μ fp v w) (ev:Ev c w) (hE:∀ id x,E id=some x→v id=some x) (DK:∀ id x,EL id=some x→v id=some x) {S':Nat→Prop} (hS:∀ b,c.S b→S' b) (hP:∀ id,EL id≠none→∀ b∈fp id,S' b):
  (it:Item)→{x:Value}→{d:ai}→{r:tt it.cs×List Nat}→an c μ x d→IK E EL it d=some r→r.2.Nodup→∃ f g,cR S' w it x r.1 f g∧DL c fp v E r.2 f g
 |⟨false,a,cs⟩,x,d,r,hr,hf,hn=>by
  replace hf:(if isAgg d=a∧d.cells.all ai.bC=true then fe E EL cs d.cells else none)=some r:=hf;split at hf
  case isFalse=>cases hf
  rename_i hc;obtain ⟨f,h1,h2⟩:=hO h ev hE DK hS hP cs (hr.cells hc.2) hf hn;refine ⟨f,[],⟨rfl,h1,fun e=>OU hr (hc.1.trans e),fun e=>OV hr (hc.1.trans e) hc.2⟩,⟨⟨by simpa using h2.mem,by simpa using h2.nodup,h2.there,h2.may⟩,fun _ _ _ hb=>by cases hb⟩⟩
 |⟨true,a,cs⟩,x,d,r,hr,hf,hn=>by
  cases d<;>try (cases hf;done)
  rename_i id off;replace hf:(match E id with|some (.var l)=>if off+cs.length≤l.length then (fe E EL cs ((l.drop off).take cs.length)).map fun y=>(y.1,id::y.2) else none|_=>none)=some r:=hf;split at hf
  case h_2=>cases hf
  rename_i l eI;split at hf
  case isFalse=>cases hf
  rename_i hl;obtain ⟨y,hy,rfl⟩:=Option.map_eq_some_iff.1 hf;have hv:=hE id _ eI;obtain ⟨B,o,C,T,h1,h2,h3,h4,h5,h6,h7⟩:=h.rel id _ hv;simp only [an] at hr;obtain ⟨B',o',e1,rfl⟩:=hr;rw [h1] at e1;cases e1;have fH:aE w B (o+off) cs.length=((aE w B o l.length).drop off).take cs.length:=iF (by omega);rw [ac9] at hn;obtain ⟨f,g1,g2⟩:=hO h ev hE DK hS hP cs ((h5.drop off).take cs.length) hy hn.2;refine ⟨f,[(B,o+off,cs.length)],⟨B,o+off,C,T,rfl,rfl,h3,by omega,by grind⟩, ?_⟩;have hB:B ∉ f:=by
   intro hb;obtain ⟨i,hi,hm⟩:=g2.mem B hb;have dW:i≠id:=fun e=>hn.1 (e ▸ hi);exact h.sep i id dW (g2.there i hi).1 (by rw [hv];simp) B hm (by rw [h2];simp)
  refine ⟨⟨?_, ?_, ?_, ?_⟩, ?_⟩
  . intro b hb
    simp only [acX,af8,aaN,adi] at hb;rcases hb with hb|rfl
    . obtain ⟨i,hi,hm⟩:=g2.mem b hb;grind
    grind
  . simp only [acX,af8,acd]
    refine ⟨g2.nodup,by simp,fun a ha b hb e=> ?_⟩;grind
  . intro i hi
    rcases abE.1 hi with rfl|hi
    . grind
    . exact g2.there i hi
  . exact g2.may
  . intro B' o' m hm bZ j hj
    simp only [adi,Prod.mk.injEq] at hm;obtain ⟨rfl,rfl,rfl⟩:=hm;have:=h7 bZ (off+j) (by omega);grind
theorem ur (h:cX c μ fp v w) (ev:Ev c w) (hE:∀ id x,E id=some x→v id=some x) (DK:∀ id x,EL id=some x→v id=some x) {S':Nat→Prop} (hS:∀ b,c.S b→S' b) (hP:∀ id,EL id≠none→∀ b∈fp id,S' b):
  (l:List Item)→{vs:List Value}→{ds:List ai}→{r:az l×List Nat}→aj c μ vs ds→mu E EL l ds=some r→r.2.Nodup→∃ f g,ba S' w l vs r.1 f g∧DL c fp v E r.2 f g
 |[],vs,ds,r,hr,hf,_=>by
  cases ds with
  |nil=>
   cases hf;simp only [aj] at hr;exact ⟨[],[],by simp_all [ba,trivial],⟨GoneB.nil,by grind⟩⟩
  |cons d q=>cases hf
 |it::l,vs,ds,r,hr,hf,hn=>by
  cases ds with
  |nil=>cases hf
  |cons d q=>
   replace hf:((IK E EL it d).bind fun x=>(mu E EL l q).map fun y=>((x.1,y.1),x.2++y.2))=some r:=hf;obtain ⟨z,hz,hf⟩:=Option.bind_eq_some_iff.1 hf;obtain ⟨y,hy,rfl⟩:=Option.map_eq_some_iff.1 hf;simp only [aj] at hr;obtain ⟨v0,bm,rfl,hv,hr⟩:=hr;obtain ⟨f,g,h1,h2⟩:=ur h ev hE DK hS hP l hr hy (by grind);obtain ⟨f0,g0,h3,h4⟩:=OW h ev hE DK hS hP it hv hz (by grind);exact ⟨f0++f,g0++g,by simp only [ba];grind,h4.append h h2 hn⟩
def bd (z:Fz) (w:World):(l:List Cm)→List Value→List Value→lb l→List Nat→Prop
 |[],os,vs,_,f=>os=[]∧vs=[]∧f=[]
 | .b::r,os,vs,x,f=>∃ o po bm,os=o::po∧vs= .bool x.1::bm∧bd z w r po bm x.2 f
 | .i k::r,os,vs,x,f=>∃ o po bm,os=o::po∧vs= .int k x.1::bm∧bd z w r po bm x.2 f
 | .s::r,os,vs,x,f=>∃ o po bm,os=o::po∧vs= .string ⟨List.toArray x.1⟩::bm∧List.length x.1≤aS∧bd z w r po bm x.2 f
 | .e::r,os,vs,x,f=>∃ o po v bm,os=o::po∧vs=v::bm∧erV v x.1∧bd z w r po bm x.2 f
 | .k::r,os,vs,x,f=>∃ o po bm,os=o::po∧vs=o::bm∧bd z w r po bm x f
 | .ro _::r,os,vs,x,f=>∃ o po bm,os=o::po∧vs=o::bm∧bd z w r po bm x f
 | .own e::r,os,vs,x,f=>∃ o po v bm f1 f2,os=o::po∧vs=v::bm∧f=f1++f2∧(Ty.sl e).au z w [v] x.1 f1∧bd z w r po bm x.2 f2
 | .mut e::r,os,vs,x,f=>∃ o po v bm f1 f2,os=o::po∧vs=v::bm∧f=f1++f2∧(Ty.sl e).au z w [v] x.1 f1∧bd z w r po bm x.2 f2
def aW (z:Fz) (w:World):(l:List Cm)→List Value→pf l→List Nat→Prop
 |[],vs,_,f=>vs=[]∧f=[]
 | .b::r,vs,x,f=>∃ v bm,vs=v::bm∧aW z w r bm x f
 | .i _::r,vs,x,f=>∃ v bm,vs=v::bm∧aW z w r bm x f
 | .s::r,vs,x,f=>∃ v bm,vs=v::bm∧aW z w r bm x f
 | .e::r,vs,x,f=>∃ v bm,vs=v::bm∧aW z w r bm x f
 | .k::r,vs,x,f=>∃ v bm,vs=v::bm∧aW z w r bm x f
 | .ro _::r,vs,x,f=>∃ v bm,vs=v::bm∧aW z w r bm x f
 | .own _::r,vs,x,f=>∃ v bm,vs=v::bm∧aW z w r bm x f
 | .mut e::r,vs,x,f=>∃ v bm f1 f2,vs=v::bm∧f=f1++f2∧(Ty.sl e).au z w [v] x.1 f1∧aW z w r bm x.2 f2
def qR (z:Fz) (w w':World):(it:Item)→Value→uk it→List Nat→Prop
 |⟨false,_,cs⟩,v,y,f=>aW z w' cs v.cells.toList y f
 |⟨true,_,cs⟩,v,y,f=>∃ B o,v= .pointer (some ⟨B,o,none⟩)∧bd z w' cs (aE w B o cs.length) (aE w' B o cs.length) y f
def dM (z:Fz) (w w':World):(l:List Item)→List Value→gN l→List Nat→Prop
 |[],vs,_,f=>vs=[]∧f=[]
 |it::r,vs,y,f=>∃ v bm f1 f2,vs=v::bm∧f=f1++f2∧qR z w w' it v y.1 f1∧dM z w w' r bm y.2 f2
theorem gK {E:Env}:(l:List Cm)→{n:Nat}→{ds:List ai}→{r:lb l×List Nat}→dV E l n ds=some r→ds.length=l.length
 |[],n,ds,r,hf=>by
  cases ds with
  |nil=>rfl
  |cons d q=>cases hf
 | .b::l,n,ds,r,hf=>by
   cases ds with
   |nil=>cases hf
   |cons d q=>
    cases d<;>try (cases hf;done)
    rename_i x;obtain ⟨y,hy,rfl⟩:=Option.map_eq_some_iff.1 (show ((dV E l n q).map fun y=>((x,y.1),y.2))=some r from hf);simp [gK l hy]
 | .i k::l,n,ds,r,hf=>by
   cases ds with
   |nil=>cases hf
   |cons d q=>
    cases d<;>try (cases hf;done)
    rename_i k' x;replace hf:(if k=k' then (dV E l n q).map fun y=>((x,y.1),y.2) else none)=some r:=hf;split at hf
    case isFalse=>cases hf
    obtain ⟨y,hy,rfl⟩:=Option.map_eq_some_iff.1 hf;simp [gK l hy]
 | .s::l,n,ds,r,hf=>by
   cases ds with
   |nil=>cases hf
   |cons d q=>
    cases d<;>try (cases hf;done)
    rename_i x;obtain ⟨y,hy,rfl⟩:=Option.map_eq_some_iff.1 (show ((dV E l n q).map fun y=>((x,y.1),y.2))=some r from hf);simp [gK l hy]
 | .e::l,n,ds,r,hf=>by
   cases ds with
   |nil=>cases hf
   |cons d q=>
    cases d<;>try (cases hf;done)
    rename_i x;obtain ⟨y,hy,rfl⟩:=Option.map_eq_some_iff.1 (show ((dV E l n q).map fun y=>((x,y.1),y.2))=some r from hf);simp [gK l hy]
 | .k::l,n,ds,r,hf=>by
   cases ds with
   |nil=>cases hf
   |cons d q=>
    cases d<;>try (cases hf;done)
    rename_i k;replace hf:(if k=n then dV E l (n+1) q else none)=some r:=hf;split at hf
    case isFalse=>cases hf
    simp [gK l hf]
 | .ro e::l,n,ds,r,hf=>by
   cases ds with
   |nil=>cases hf
   |cons d q=>
    cases d<;>try (cases hf;done)
    rename_i e' xs tk;cases tk with
    |none=>cases hf
    |some k=>
     replace hf:(if k=n then dV E l (n+1) q else none)=some r:=hf;split at hf
     case isFalse=>cases hf
     simp [gK l hf]
 | .own e::l,n,ds,r,hf=>by
   cases ds with
   |nil=>cases hf
   |cons d q=>
    replace hf:((iS E e d).bind fun z=>(dV E l (n+1) q).map fun y=>((z.1,y.1),z.2++y.2))=some r:=hf;obtain ⟨z,hz,hf⟩:=Option.bind_eq_some_iff.1 hf;obtain ⟨y,hy,rfl⟩:=Option.map_eq_some_iff.1 hf;simp [gK l hy]
 | .mut e::l,n,ds,r,hf=>by
   cases ds with
   |nil=>cases hf
   |cons d q=>
    replace hf:((iS E e d).bind fun z=>(dV E l (n+1) q).map fun y=>((z.1,y.1),z.2++y.2))=some r:=hf;obtain ⟨z,hz,hf⟩:=Option.bind_eq_some_iff.1 hf;obtain ⟨y,hy,rfl⟩:=Option.map_eq_some_iff.1 hf;simp [gK l hy]
theorem gL (h:cX c μ fp v w) (hE:∀ id x,E id=some x→v id=some x):(l:List Cm)→{n:Nat}→{os vs:List Value}→{ds:List ai}→{r:lb l×List Nat}→
  aj c μ vs ds→os.length=l.length→iu c true l os n→dV E l n ds=some r→r.2.Nodup→∃ f,bd c.fz w l os vs r.1 f∧k8 c fp v E r.2 f
 |[],n,os,vs,ds,r,hr,ho,ht,hf,hn=>by
  cases ds with
  |nil=>
   cases hf;simp_all [aj,bd,ac4,trivial,k8.nil]
  |cons d q=>cases hf
 |_::_,n,[],vs,ds,r,hr,ho,ht,hf,hn=>by cases ho
 | .b::l,n,o::os,vs,ds,r,hr,ho,ht,hf,hn=>by
   cases ds with
   |nil=>cases hf
   |cons d q=>
    cases d<;>try (cases hf;done)
    rename_i x;obtain ⟨y,hy,rfl⟩:=Option.map_eq_some_iff.1 (show ((dV E l n q).map fun y=>((x,y.1),y.2))=some r from hf);simp only [aj] at hr;obtain ⟨v0,bm,rfl,hx,hr⟩:=hr;simp only [an] at hx;subst hx;obtain ⟨f,h1,h2⟩:=gL h hE l hr (by simpa using ho) ht hy hn;exact ⟨f,by simp only [bd];grind,h2⟩
 | .i k::l,n,o::os,vs,ds,r,hr,ho,ht,hf,hn=>by
   cases ds with
   |nil=>cases hf
   |cons d q=>
    cases d<;>try (cases hf;done)
    rename_i k' x;replace hf:(if k=k' then (dV E l n q).map fun y=>((x,y.1),y.2) else none)=some r:=hf;split at hf
    case isFalse=>cases hf
    rename_i e;subst e;obtain ⟨y,hy,rfl⟩:=Option.map_eq_some_iff.1 hf;simp only [aj] at hr;obtain ⟨v0,bm,rfl,hx,hr⟩:=hr;simp only [an] at hx;subst hx;obtain ⟨f,h1,h2⟩:=gL h hE l hr (by simpa using ho) ht hy hn;exact ⟨f,by simp only [bd];grind,h2⟩
 | .s::l,n,o::os,vs,ds,r,hr,ho,ht,hf,hn=>by
   cases ds with
   |nil=>cases hf
   |cons d q=>
    cases d<;>try (cases hf;done)
    rename_i x;obtain ⟨y,hy,rfl⟩:=Option.map_eq_some_iff.1 (show ((dV E l n q).map fun y=>((x,y.1),y.2))=some r from hf);simp only [aj] at hr;obtain ⟨v0,bm,rfl,hx,hr⟩:=hr;simp only [an] at hx;obtain ⟨f,h1,h2⟩:=gL h hE l hr (by simpa using ho) ht hy hn;exact ⟨f,by simp only [bd];grind,h2⟩
 | .e::l,n,o::os,vs,ds,r,hr,ho,ht,hf,hn=>by
   cases ds with
   |nil=>cases hf
   |cons d q=>
    cases d<;>try (cases hf;done)
    rename_i x;obtain ⟨y,hy,rfl⟩:=Option.map_eq_some_iff.1 (show ((dV E l n q).map fun y=>((x,y.1),y.2))=some r from hf);simp only [aj] at hr;obtain ⟨v0,bm,rfl,hx,hr⟩:=hr;simp only [an] at hx;obtain ⟨f,h1,h2⟩:=gL h hE l hr (by simpa using ho) ht hy hn;exact ⟨f,by simp only [bd];grind,h2⟩
 | .k::l,n,o::os,vs,ds,r,hr,ho,ht,hf,hn=>by
   cases ds with
   |nil=>cases hf
   |cons d q=>
    cases d<;>try (cases hf;done)
    rename_i k;replace hf:(if k=n then dV E l (n+1) q else none)=some r:=hf;split at hf
    case isFalse=>cases hf
    rename_i ek;subst ek;simp only [aj] at hr;obtain ⟨v0,bm,rfl,hx,hr⟩:=hr;simp only [an] at hx;simp only [iu] at ht;obtain ⟨f,h1,h2⟩:=gL h hE l hr (by simpa using ho) ht.2 hf hn;have yD:v0=o:=by grind
    exact ⟨f,by simp only [bd];grind,h2⟩
 | .ro e::l,n,o::os,vs,ds,r,hr,ho,ht,hf,hn=>by
   cases ds with
   |nil=>cases hf
   |cons d q=>
    cases d<;>try (cases hf;done)
    rename_i e' xs tk;cases tk with
    |none=>cases hf
    |some k=>
     replace hf:(if k=n then dV E l (n+1) q else none)=some r:=hf;split at hf
     case isFalse=>cases hf
     rename_i ek;subst ek;simp only [aj] at hr;obtain ⟨v0,bm,rfl,hx,hr⟩:=hr;simp only [an] at hx;simp only [iu] at ht;obtain ⟨f,h1,h2⟩:=gL h hE l hr (by simpa using ho) ht.2 hf hn;have yD:v0=o:=(by grind)
     exact ⟨f,by simp only [bd];grind,h2⟩
 | .own e::l,n,o::os,vs,ds,r,hr,ho,ht,hf,hn=>by
   cases ds with
   |nil=>cases hf
   |cons d q=>
    replace hf:((iS E e d).bind fun z=>(dV E l (n+1) q).map fun y=>((z.1,y.1),z.2++y.2))=some r:=hf;obtain ⟨z,hz,hf⟩:=Option.bind_eq_some_iff.1 hf;obtain ⟨y,hy,rfl⟩:=Option.map_eq_some_iff.1 hf;simp only [aj] at hr;obtain ⟨v0,bm,rfl,hv,hr⟩:=hr;obtain ⟨f,h1,h2⟩:=gL h hE l hr (by simpa using ho) ht hy (by grind);obtain ⟨f0,g1,g2⟩:=hJ h hE hv hz;exact ⟨f0++f,by simp only [bd];grind,g2.append h h2 hn⟩
 | .mut e::l,n,o::os,vs,ds,r,hr,ho,ht,hf,hn=>by
   cases ds with
   |nil=>cases hf
   |cons d q=>
    replace hf:((iS E e d).bind fun z=>(dV E l (n+1) q).map fun y=>((z.1,y.1),z.2++y.2))=some r:=hf;obtain ⟨z,hz,hf⟩:=Option.bind_eq_some_iff.1 hf;obtain ⟨y,hy,rfl⟩:=Option.map_eq_some_iff.1 hf;simp only [aj] at hr;obtain ⟨v0,bm,rfl,hv,hr⟩:=hr;obtain ⟨f,h1,h2⟩:=gL h hE l hr (by simpa using ho) ht hy (by grind);obtain ⟨f0,g1,g2⟩:=hJ h hE hv hz;exact ⟨f0++f,by simp only [bd];grind,g2.append h h2 hn⟩
theorem gM (h:cX c μ fp v w) (hE:∀ id x,E id=some x→v id=some x):(l:List Cm)→{n:Nat}→{x:tt l}→{vs:List Value}→{r:pf l×List Nat}→
  aj c μ vs (bg true l x n).1→gJ E l n=some r→r.2.Nodup→∃ f,aW c.fz w l vs r.1 f∧k8 c fp v E r.2 f
 |[],n,x,vs,r,hr,hf,hn=>by
  cases hf;simp only [bg,aj] at hr;exact ⟨[],by simp only [aW];exact ⟨hr,trivial⟩,k8.nil⟩
 | .b::l,n,x,vs,r,hr,hf,hn=>by
   simp only [bg,aj] at hr;obtain ⟨v0,bm,rfl,_,hr⟩:=hr;obtain ⟨f,h1,h2⟩:=gM h hE l hr (show gJ E l n=some r from hf) hn;exact ⟨f,by simp only [aW];exact ⟨v0,bm,rfl,h1⟩,h2⟩
 | .i _::l,n,x,vs,r,hr,hf,hn=>by
   simp only [bg,aj] at hr;obtain ⟨v0,bm,rfl,_,hr⟩:=hr;obtain ⟨f,h1,h2⟩:=gM h hE l hr (show gJ E l n=some r from hf) hn;exact ⟨f,by simp only [aW];exact ⟨v0,bm,rfl,h1⟩,h2⟩
 | .s::l,n,x,vs,r,hr,hf,hn=>by
   simp only [bg,aj] at hr;obtain ⟨v0,bm,rfl,_,hr⟩:=hr;obtain ⟨f,h1,h2⟩:=gM h hE l hr (show gJ E l n=some r from hf) hn;exact ⟨f,by simp only [aW];exact ⟨v0,bm,rfl,h1⟩,h2⟩
 | .e::l,n,x,vs,r,hr,hf,hn=>by
   simp only [bg,aj] at hr;obtain ⟨v0,bm,rfl,_,hr⟩:=hr;obtain ⟨f,h1,h2⟩:=gM h hE l hr (show gJ E l n=some r from hf) hn;exact ⟨f,by simp only [aW];exact ⟨v0,bm,rfl,h1⟩,h2⟩
 | .k::l,n,x,vs,r,hr,hf,hn=>by
   simp only [bg,aj] at hr;obtain ⟨v0,bm,rfl,_,hr⟩:=hr;obtain ⟨f,h1,h2⟩:=gM h hE l hr (show gJ E l (n+1)=some r from hf) hn;exact ⟨f,by simp only [aW];exact ⟨v0,bm,rfl,h1⟩,h2⟩
 | .ro _::l,n,x,vs,r,hr,hf,hn=>by
   simp only [bg,aj] at hr;obtain ⟨v0,bm,rfl,_,hr⟩:=hr;obtain ⟨f,h1,h2⟩:=gM h hE l hr (show gJ E l (n+1)=some r from hf) hn;exact ⟨f,by simp only [aW];exact ⟨v0,bm,rfl,h1⟩,h2⟩
 | .own _::l,n,x,vs,r,hr,hf,hn=>by
   simp only [bg,aj] at hr;obtain ⟨v0,bm,rfl,_,hr⟩:=hr;obtain ⟨f,h1,h2⟩:=gM h hE l hr (show gJ E l (n+1)=some r from hf) hn;exact ⟨f,by simp only [aW];exact ⟨v0,bm,rfl,h1⟩,h2⟩
 | .mut e::l,n,x,vs,r,hr,hf,hn=>by
   simp only [bg,aj] at hr;obtain ⟨v0,bm,rfl,hv,hr⟩:=hr;replace hf:((iS E e (.cN n none)).bind fun z=>(gJ E l (n+1)).map fun y=>((z.1,y.1),z.2++y.2))=some r:=hf;obtain ⟨z,hz,hf⟩:=Option.bind_eq_some_iff.1 hf;obtain ⟨y,hy,rfl⟩:=Option.map_eq_some_iff.1 hf;obtain ⟨f,h1,h2⟩:=gM h hE l hr hy (acd.1 hn).2.1;obtain ⟨f0,g1,g2⟩:=hJ h hE hv hz;exact ⟨f0++f,by simp only [aW];grind,g2.append h h2 hn⟩
theorem IP {a:Bool} {d:Value} {cs:List Cm} {x:tt cs} {n:Nat} (h:an c μ d (Bu a (bg true cs x n).1)) (ha:a=false→cs.length=1∧d.oneCell'=true) (hag:a=true→∃ us,d= .agg us):aj c μ d.cells.toList (bg true cs x n).1:=by
 cases a with
 |true=>
  simp only [Bu,af7,an] at h;obtain ⟨vs,rfl,h⟩:=h;exact h
 |false=>
  obtain ⟨hl,ho⟩:=ha rfl;rw [gw ho];have:=fW true cs x n;rw [hl] at this;obtain ⟨y,hy⟩:=List.length_eq_one_iff.1 this;rw [hy] at h ⊢;simp only [Bu,adf,agF,List.headD_cons] at h;simp only [aj];exact ⟨d,[],rfl,h,rfl⟩
theorem KN (h:cX c μ fp v w) (hE:∀ id x,E id=some x→v id=some x) {S:Nat→Prop} {w0:World}:(it:Item)→{n:Nat}→{x:tt it.cs}→{d:Value}→{r:uk it×List Nat}→{f0:List Nat}→{g:List (Nat×Nat×Nat)}→
  cR S w0 it d x f0 g→TS c true w0 it d n→an c μ d (kk true it x n).1→KL E it n=some r→r.2.Nodup→
  ∃ f,qR c.fz w0 w it d r.1 f∧GoneB c fp v E r.2 f g
 |⟨false,a,cs⟩,n,x,d,r,f0,g,hi,ht,hr,hf,hn=>by
  simp only [cR] at hi;obtain ⟨rfl,hi,h1,h2⟩:=hi;have hl:=eC cs hi;obtain ⟨f,g1,g2⟩:=gM h hE cs (IP hr (fun e=>⟨by rw [← hl,gw (h2 e)];rfl,h2 e⟩) h1) (show gJ E cs n=some r from hf) hn;exact ⟨f,g1,⟨by simpa using g2.mem,by simpa using g2.nodup,g2.there,g2.may⟩⟩
 |⟨true,a,cs⟩,n,x,d,r,f0,g,hi,ht,hr,hf,hn=>by
  simp only [cR] at hi;obtain ⟨B,o,C,T,rfl,rfl,hb,hC,hi⟩:=hi;replace hf:(match E n with|some (.var l)=>(dV E cs (n+1) l).map fun y=>(y.1,n::y.2)|_=>none)=some r:=hf;split at hf
  case h_2=>cases hf
  rename_i l eI;obtain ⟨y,hy,rfl⟩:=Option.map_eq_some_iff.1 hf;have hv:=hE n _ eI;obtain ⟨B',o',C',T',h1,h2,h3,h4,h5,h6,h7⟩:=h.rel n _ hv;have hr:an c μ (.pointer (some ⟨B,o,none⟩)) (.vptr n 0):=hr;simp only [an] at hr;obtain ⟨B2,o2,e1,e2⟩:=hr;rw [h1] at e1;cases e1;simp only [Value.pointer.injEq,adh,Addr.mk.injEq,af0,agG] at e2;obtain ⟨rfl,rfl⟩:=e2;rw [ac9] at hn;have hlen:(aE w0 B o cs.length).length=cs.length:=eC cs hi;obtain ⟨f,g1,g2⟩:=gL h hE cs h5 hlen (ht B o rfl) hy hn.2;have Z9:l.length=cs.length:=by grind [gK]
  rw [Z9] at g1;have hB:B ∉ f:=by
   intro hb;obtain ⟨i,hi,hm⟩:=g2.mem B hb;have dW:i≠n:=fun e=>hn.1 (e ▸ hi);exact h.sep i n dW (g2.there i hi).1 (by rw [hv];simp) B hm (by rw [h2];simp)
  refine ⟨f,⟨B,o,rfl,g1⟩,⟨?_, ?_, ?_,g2.may⟩⟩
  . intro b hb
    simp only [acX,af8,aaN,adi] at hb;rcases hb with hb|rfl
    . obtain ⟨i,hi,hm⟩:=g2.mem b hb;grind
    grind
  . simp only [acX,af8,acd]
    refine ⟨g2.nodup,by simp,fun a ha b hb e=> ?_⟩;grind
  . intro i hi
    rcases abE.1 hi with rfl|hi
    . grind
    . exact g2.there i hi
theorem Bz (h:cX c μ fp v w) (hE:∀ id x,E id=some x→v id=some x) {S:Nat→Prop} {w0:World}:(l:List Item)→{n:Nat}→{x:az l}→{vs:List Value}→{r:gN l×List Nat}→{f0:List Nat}→{g:List (Nat×Nat×Nat)}→
  ba S w0 l vs x f0 g→mv c true w0 l vs n→aj c μ vs (dQ true l x n).1→Gd E l n=some r→r.2.Nodup→∃ f,dM c.fz w0 w l vs r.1 f∧GoneB c fp v E r.2 f g
 |[],n,x,vs,r,f0,g,hi,ht,hr,hf,hn=>by
  cases hf;simp only [ba] at hi;obtain ⟨rfl,rfl,rfl⟩:=hi;exact ⟨[],by simp only [dM];exact ⟨trivial,trivial⟩,GoneB.nil⟩
 |it::l,n,x,vs,r,f0,g,hi,ht,hr,hf,hn=>by
  simp only [ba] at hi;obtain ⟨d,bm,f1,f2,g1,g2,rfl,rfl,rfl,h1,hi⟩:=hi;simp only [mv] at ht;simp only [dQ,aj] at hr;obtain ⟨d',Uy,e,hd,hr⟩:=hr;cases e;rw [qI] at hr;replace hf:((KL E it n).bind fun x=>(Gd E l (Cs it n)).map fun y=>((x.1,y.1),x.2++y.2))=some r:=hf;obtain ⟨z,hz,hf⟩:=Option.bind_eq_some_iff.1 hf;obtain ⟨y,hy,rfl⟩:=Option.map_eq_some_iff.1 hf;obtain ⟨f,q1,q2⟩:=Bz h hE l hi ht.2 hr hy (acd.1 hn).2.1;obtain ⟨f',q3,q4⟩:=KN h hE it h1 ht.1 hd hz (acd.1 hn).1;exact ⟨f'++f,by simp only [dM];grind,q4.append h q2 hn⟩
end
end
section
open Go
def tu (P:Program) (S:Nat→Prop) (w:World) (f:List Nat) (g:List (Nat×Nat×Nat)) (tok:Nat→Value) (loc:Nat→Loc) (hS:Gw S w):Ctx where
 P:=P
 S:=S
 w0:=w
 M:=fun b j=>b∈f∨∃ o m,(b,o,m)∈g∧o≤j∧j<o+m
 tok:=tok
 loc:=loc
 hS:=hS
def IQ:List Value→Value
 |[v]=>v
 |vs=> .tuple vs.toArray
structure ai8 (P:Program) (S:Nat→Prop) (w:World) (hS:Gw S w) (K:bM) (tw:List Value) (f:List Nat) (g:List (Nat×Nat×Nat)) (y:az K.rs×gN K.aK) (v':Value) (w':World):Prop where
 ex:∃ rvs f1 g1 f2,v'=IQ rvs∧(∃ S':Nat→Prop,(∀ b,S b→S' b)∧(∀ b,S' b→(S b∨w.heap.size≤b∨b∈f)∧b<w'.heap.size)∧(∀ b∈f1++g1.map (·.1)++(f2++g.map (·.1)),¬ S' b)∧ba S' w' K.rs rvs y.1 f1 g1∧dM ⟨S',w'⟩ w w' K.aK tw y.2 f2)∧(f1++g1.map (·.1)++(f2++g.map (·.1))).Nodup∧(∀ b∈f1++g1.map (·.1)++f2,b∈f∨w.heap.size≤b)
 ev:Ev (tu P S w f g (fun _=>undef) default hS) w'
def bM.Ok (P:Program) (K:bM):Prop:=
 match K.vw with
 |some v=>∀ (ad:Option Addr) (len cap:Nat) (n:Int) (w:World),len≤cap→0≤(v.2 n).1→(v.2 n).1≤(v.2 n).2→(v.2 n).2≤(len:Int)→
  la P K.f #[.slice ad len cap, .int .i64 n] w fun v' w'=>v'= .slice (if cap=(v.2 n).1.toNat then ad else ad.map (·.add ((v.2 n).1.toNat*v.1))) ((v.2 n).2.toNat - (v.2 n).1.toNat) (cap - (v.2 n).1.toNat)∧w'=w
 |none=>∀ (x:az K.aK) (y:az K.rs×gN K.aK),(K.F x).eval=some y→
  ∀ (S:Nat→Prop) (w:World) (hS:Gw S w) (tw:List Value) (f:List Nat) (g:List (Nat×Nat×Nat)),ba S w K.aK tw x f g→(f++g.map (·.1)).Nodup→(∀ b∈f++g.map (·.1),¬ S b)→
    la P K.f (lK K.lay tw).toArray w fun v' w'=>ai8 P S w hS K tw f g y v' w'
theorem la.mono {P:Program} {f:FuncId} {args:Array Value} {w:World} {R R':Value→World→Prop} (h:la P f args w R) (hR:∀ v w',R v w'→R' v w'):la P f args w R':=by
 refine ⟨h.1,Calls.mono h.2 fun e w' he=> ?_⟩;grind
theorem jk {S:Nat→Prop} {w:World}:(l:List Cm)→{vs:List Value}→{x:tt l}→{f:List Nat}→aT S w l vs x f→∀ b∈f,b<w.heap.size
 |[],_,_,_,h=>by grind [aT]
 | .b::r,_,_,_,h=>by simp only [aT] at h;obtain ⟨bm,rfl,h⟩:=h;exact jk r h
 | .i _::r,_,_,_,h=>by simp only [aT] at h;obtain ⟨bm,rfl,h⟩:=h;exact jk r h
 | .s::r,_,_,_,h=>by simp only [aT] at h;obtain ⟨bm,rfl,_,h⟩:=h;exact jk r h
 | .e::r,_,_,_,h=>by simp only [aT] at h;obtain ⟨_,bm,rfl,_,h⟩:=h;exact jk r h
 | .k::r,_,_,_,h=>by simp only [aT] at h;obtain ⟨_,bm,rfl,_,h⟩:=h;exact jk r h
 | .ro e::r,_,_,_,h=>by simp only [aT] at h;obtain ⟨v,bm,rfl,_,h⟩:=h;exact jk r h
 | .own e::r,_,_,_,h=>by
   simp only [aT] at h;obtain ⟨v,bm,f1,f2,rfl,rfl,h1,h⟩:=h;intro b hb;rcases aaN.1 hb with hb|hb
   . exact Ty.ij _ h1 b hb
   . exact jk r h b hb
 | .mut e::r,_,_,_,h=>by
   simp only [aT] at h;obtain ⟨v,bm,f1,f2,rfl,rfl,h1,h⟩:=h;intro b hb;rcases aaN.1 hb with hb|hb
   . exact Ty.ij _ h1 b hb
   . exact jk r h b hb
theorem KO {S:Nat→Prop} {w:World}:(it:Item)→{v:Value}→{x:tt it.cs}→{f:List Nat}→{g:List (Nat×Nat×Nat)}→cR S w it v x f g→∀ b∈f++g.map (·.1),b<w.heap.size
 |⟨false,_,cs⟩,_,_,_,_,h=>by
  simp only [cR] at h;obtain ⟨rfl,h,_⟩:=h;simpa using jk cs h
 |⟨true,_,cs⟩,_,_,_,_,h=>by
  simp only [cR] at h;obtain ⟨B,o,C,E,rfl,rfl,hb,_,h⟩:=h;intro b hm;simp only [acX,af8,aaN,adi] at hm;rcases hm with hm|rfl
  . exact jk cs h b hm
  grind
theorem mT {S:Nat→Prop} {w:World}:(l:List Item)→{vs:List Value}→{x:az l}→{f:List Nat}→{g:List (Nat×Nat×Nat)}→ba S w l vs x f g→∀ b∈f++g.map (·.1),b<w.heap.size
 |[],_,_,_,_,h=>by simp only [ba] at h;obtain ⟨_,rfl,rfl⟩:=h;simp
 |it::r,_,_,_,_,h=>by
  simp only [ba] at h;obtain ⟨v,bm,f1,f2,g1,g2,rfl,rfl,rfl,h1,h⟩:=h;intro b hb;rw [ag5] at hb;rcases aaN.1 ((uq f1 f2 (g1.map (·.1)) (g2.map (·.1))).mem_iff.1 hb) with hb|hb
  . exact KO it h1 b hb
  . exact mT r h b hb
mutual
theorem Ty.jJ {z z':Fz} {w:World}:(t:Ty)→t.qp=true→{cs:List Value}→{x:t.D}→{fp:List Nat}→t.au z w cs x fp→t.au z' w cs x fp
 | .bool,_,_,_,_,h=>by grind [Ty.au]
 | .int _,_,_,_,_,h=>by grind [Ty.au]
 | .str,_,_,_,_,h=>by grind [Ty.au]
 | .hole,_,_,_,_,h=>by grind [Ty.au]
 | .sl e,hn,_,_,_,h=>by
   simp only [Ty.au] at h ⊢;obtain ⟨a,cap,rfl,hc,h⟩:=h;refine ⟨a,cap,rfl,hc,h.imp id ?_⟩
   rintro ⟨b,o,c,E,fps,ha,hb,ho,hl,rfl,hi⟩
   exact ⟨b,o,c,E,fps,ha,hb,ho,hl,rfl,fun i y f hy hf=>Ty.jJ e hn (hi i y f hy hf)⟩
 | .fz e,hn,_,_,_,h=>by grind [Ty.qp]
 | .st fs,hn,_,_,_,h=>by simp only [Ty.au] at h ⊢; exact aI.jJ fs hn h
theorem aI.jJ {z z':Fz} {w:World}:(t:aI)→t.qp=true→{cs:List Value}→{x:t.D}→{fp:List Nat}→t.au z w cs x fp→t.au z' w cs x fp
 | .nil,_,_,_,_,h=>by grind [aI.au]
 | .cons t ts,hn,_,_,_,h=>by
   simp only [aI.qp,aaE] at hn;simp only [aI.au] at h ⊢; obtain ⟨c1,c2,f1,f2,rfl,rfl,h1,h2⟩:=h;exact ⟨c1,c2,f1,f2,rfl,rfl,Ty.jJ t hn.1 h1,aI.jJ ts hn.2 h2⟩
end
def BA (cs:List Cm):Bool:=cs.all fun c=>match c with| .ro _=>false| .own e=>e.qp| .mut e=>e.qp|_=>true
theorem eW {S S':Nat→Prop} {w:World}:(l:List Cm)→{vs:List Value}→{x:tt l}→{f:List Nat}→BA l=true→aT S w l vs x f→aT S' w l vs x f
 |[],_,_,_,_,h=>by grind [aT]
 | .b::r,_,_,_,hn,h=>by simp only [aT] at h ⊢; obtain ⟨bm,e,h⟩:=h;exact ⟨bm,e,eW r (by simpa [BA] using hn) h⟩
 | .i _::r,_,_,_,hn,h=>by simp only [aT] at h ⊢; obtain ⟨bm,e,h⟩:=h;exact ⟨bm,e,eW r (by simpa [BA] using hn) h⟩
 | .s::r,_,_,_,hn,h=>by simp only [aT] at h ⊢; obtain ⟨bm,e,hl,h⟩:=h;exact ⟨bm,e,hl,eW r (by simpa [BA] using hn) h⟩
 | .e::r,_,_,_,hn,h=>by simp only [aT] at h ⊢; obtain ⟨v0,bm,e,hl,h⟩:=h;exact ⟨v0,bm,e,hl,eW r (by simpa [BA] using hn) h⟩
 | .k::r,_,_,_,hn,h=>by simp only [aT] at h ⊢; obtain ⟨v0,bm,e,hl,h⟩:=h;exact ⟨v0,bm,e,hl,eW r (by simpa [BA] using hn) h⟩
 | .ro e::r,_,_,_,hn,h=>by grind [BA]
 | .own e::r,_,_,_,hn,h=>by
   simp only [aT] at h ⊢;obtain ⟨v,bm,f1,f2,e1,e2,h1,h⟩:=h;have nz:e.qp=true∧BA r=true:=by simpa [BA] using hn
   exact ⟨v,bm,f1,f2,e1,e2,Ty.jJ (.sl e) nz.1 h1,eW r nz.2 h⟩
 | .mut e::r,_,_,_,hn,h=>by
   simp only [aT] at h ⊢;obtain ⟨v,bm,f1,f2,e1,e2,h1,h⟩:=h;have nz:e.qp=true∧BA r=true:=by simpa [BA] using hn
   exact ⟨v,bm,f1,f2,e1,e2,Ty.jJ (.sl e) nz.1 h1,eW r nz.2 h⟩
theorem px {S S':Nat→Prop} {w:World}:(l:List Item)→{vs:List Value}→{x:az l}→{f:List Nat}→{g:List (Nat×Nat×Nat)}→Bw l=true→ba S w l vs x f g→ba S' w l vs x f g
 |[],_,_,_,_,_,h=>by grind [ba]
 |it::r,_,_,_,_,hn,h=>by
  simp only [ba] at h ⊢;obtain ⟨v,bm,f1,f2,g1,g2,e1,e2,e3,h1,h⟩:=h;simp only [Bw,acY,aaE] at hn;refine ⟨v,bm,f1,f2,g1,g2,e1,e2,e3, ?_,px r hn.2 h⟩;obtain ⟨p,a,cs⟩:=it;cases p with
  |false=>simp only [cR] at h1 ⊢; exact ⟨h1.1,eW cs hn.1 h1.2.1,h1.2.2⟩
  |true=>
   simp only [cR] at h1 ⊢;obtain ⟨B,o,C,E,q1,q2,q3,q4,q5⟩:=h1;exact ⟨B,o,C,E,q1,q2,q3,q4,eW cs hn.1 q5⟩
theorem kD {S S':Nat→Prop} {w:World} (hS:∀ b,S b→S' b):(l:List Cm)→{vs:List Value}→{x:tt l}→{f:List Nat}→aT S w l vs x f→aT S' w l vs x f
 |[],_,_,_,h=>by grind [aT]
 | .b::r,_,_,_,h=>by simp only [aT] at h ⊢; obtain ⟨bm,e,h⟩:=h;exact ⟨bm,e,kD hS r h⟩
 | .i _::r,_,_,_,h=>by simp only [aT] at h ⊢; obtain ⟨bm,e,h⟩:=h;exact ⟨bm,e,kD hS r h⟩
 | .s::r,_,_,_,h=>by simp only [aT] at h ⊢; obtain ⟨bm,e,hl,h⟩:=h;exact ⟨bm,e,hl,kD hS r h⟩
 | .e::r,_,_,_,h=>by simp only [aT] at h ⊢; obtain ⟨v0,bm,e,hl,h⟩:=h;exact ⟨v0,bm,e,hl,kD hS r h⟩
 | .k::r,_,_,_,h=>by simp only [aT] at h ⊢; obtain ⟨v0,bm,e,hl,h⟩:=h;exact ⟨v0,bm,e,hl,kD hS r h⟩
 | .ro e::r,_,_,_,h=>by simp only [aT] at h ⊢; obtain ⟨v,bm,e1,h1,h⟩:=h;exact ⟨v,bm,e1,Ty.eA (by grind) _ h1,kD hS r h⟩
 | .own e::r,_,_,_,h=>by simp only [aT] at h ⊢; obtain ⟨v,bm,f1,f2,e1,e2,h1,h⟩:=h;exact ⟨v,bm,f1,f2,e1,e2,Ty.dc (show Fz.le ⟨S,w⟩ ⟨S',w⟩ from fun b hb=>⟨hS b hb,rfl⟩) _ h1,kD hS r h⟩
 | .mut e::r,_,_,_,h=>by simp only [aT] at h ⊢; obtain ⟨v,bm,f1,f2,e1,e2,h1,h⟩:=h;exact ⟨v,bm,f1,f2,e1,e2,Ty.dc (show Fz.le ⟨S,w⟩ ⟨S',w⟩ from fun b hb=>⟨hS b hb,rfl⟩) _ h1,kD hS r h⟩
theorem BB {S S':Nat→Prop} {w:World} (hS:∀ b,S b→S' b):(l:List Item)→{vs:List Value}→{x:az l}→{f:List Nat}→{g:List (Nat×Nat×Nat)}→ba S w l vs x f g→ba S' w l vs x f g
 |[],_,_,_,_,h=>by grind [ba]
 |it::r,_,_,_,_,h=>by
  simp only [ba] at h ⊢;obtain ⟨v,bm,f1,f2,g1,g2,e1,e2,e3,h1,h⟩:=h;refine ⟨v,bm,f1,f2,g1,g2,e1,e2,e3, ?_,BB hS r h⟩;obtain ⟨p,a,cs⟩:=it;cases p with
  |false=>simp only [cR] at h1 ⊢; exact ⟨h1.1,kD hS cs h1.2.1,h1.2.2⟩
  |true=>
   simp only [cR] at h1 ⊢;obtain ⟨B,o,C,E,q1,q2,q3,q4,q5⟩:=h1;exact ⟨B,o,C,E,q1,q2,q3,q4,kD hS cs q5⟩
theorem fY {c:Ctx}:(l:List Cm)→(vs:List Value)→(n:Nat)→iu c false l vs n
 |[],_,_=>by simp [iu]
 | .b::r,[],_=>by simp [iu]
 | .i _::r,[],_=>by simp [iu]
 | .s::r,[],_=>by simp [iu]
 | .e::r,[],_=>by simp [iu]
 | .k::r,[],_=>by simp [iu]
 | .ro _::r,[],_=>by simp [iu]
 | .own _::r,[],_=>by simp [iu]
 | .mut _::r,[],_=>by simp [iu]
 | .b::r,_::vs,n=>fY r vs n
 | .i _::r,_::vs,n=>fY r vs n
 | .s::r,_::vs,n=>fY r vs n
 | .e::r,_::vs,n=>fY r vs n
 | .k::r,_::vs,n=>⟨fun h=>(by cases h),fY r vs (n+1)⟩
 | .ro _::r,_::vs,n=>⟨fun h=>(by cases h),fY r vs (n+1)⟩
 | .own _::r,_::vs,n=>fY r vs (n+1)
 | .mut _::r,_::vs,n=>fY r vs (n+1)
theorem wq {c:Ctx} {w:World}:(l:List Item)→(vs:List Value)→(n:Nat)→mv c false w l vs n
 |[],_,_=>by simp [mv]
 |it::r,[],_=>by simp [mv]
 |it::r,v::vs,n=>by
  refine ⟨?_,wq r vs _⟩;obtain ⟨p,a,cs⟩:=it;cases p with
  |false=>exact fY cs _ n
  |true=>exact fun B o _=>fY cs _ _
theorem cX.less {c:Ctx} {μ:Nat→Loc} {fp:Nat→List Nat} {v v':Env} {w w':World} (h:cX c μ fp v w) (hv:∀ id,v' id=none∨v' id=v id) (hz:w.heap.size≤w'.heap.size)
  (hs:∀ id,v' id≠none→∀ b∈fp id,w'.heap[b]? =w.heap[b]?):cX c μ fp v' w':=by
 have hm:∀ id,v' id≠none→v id≠none:=by grind
 constructor
 . intro id x hx
   have sY:v id=some x:=by grind
   exact (h.rel id x sY).frame (hs id (by simp [hx])) rfl fun _ _=>rfl
 . intro id x hx
   rcases hv id with e|e
   . grind
   . exact h.nodup id x (by grind)
 . exact fun id dS dW h1 h2=>h.sep id dS dW (hm id h1) (hm dS h2)
 . exact fun id h1=>h.jg id (hm id h1)
 . exact fun id h1 b hb=>acO (h.lt id (hm id h1) b hb) hz
theorem ic.drop {c:Ctx} {K:Nat→Prop} {μ:Nat→Loc} {fp:Nat→List Nat} {v:Env} {w:World} {f rest:List Nat} (h:ic c K μ fp v w (f++rest)):ic c K μ fp v w rest:=
 ⟨h.rel,h.known,(acd.1 h.nodup).2.1,fun id hv b hb cf=>h.far id hv b hb (by simp [cf]),fun b hb=>h.ok b (by simp [hb])⟩
theorem xH {c:Ctx} {μ:Nat→Loc}:(l:NG)→{ds is:List ai}→{vs:List Value}→DI l ds=some is→aj c μ vs ds→∃ tw,aj c μ tw is∧vs=lK l tw∧∀ id∈ai.bI is,id∈ai.bI ds
 |[],ds,is,vs,hu,hr=>by
  cases ds with
  |nil=>
   cases hu;simp only [aj] at hr;exact ⟨[],by simp [aj],by rw [hr];rfl,fun _ h=>h⟩
  |cons d q=>cases hu
 |none::l,ds,is,vs,hu,hr=>by
  cases ds with
  |nil=>cases hu
  |cons d q=>
   obtain ⟨z,hz,rfl⟩:=Option.map_eq_some_iff.1 (show (DI l q).map (fun q=>d::q)=some is from hu);simp only [aj] at hr;obtain ⟨v0,bm,rfl,hv,hr⟩:=hr;obtain ⟨tw,h1,h2,h3⟩:=xH l hz hr;refine ⟨v0::tw,by simp only [aj];exact ⟨v0,tw,rfl,hv,h1⟩,by rw [h2];rfl,fun id hi=> ?_⟩;simp only [ai.bI,aaN] at hi ⊢;exact hi.imp (fun h=>h) (h3 id)
 |some (g,k)::l,ds,is,vs,hu,hr=>by
  cases ds with
  |nil=>cases hu
  |cons d q=>
   cases d<;>try (cases hu;done)
   rename_i g' oU;replace hu:(if g=g'∧oU.length=k then (DI l q).map fun q=>oU++q else none)=some is:=hu;split at hu
   case isFalse=>cases hu
   rename_i hc;obtain ⟨rfl,rfl⟩:=hc;obtain ⟨z,hz,rfl⟩:=Option.map_eq_some_iff.1 hu;simp only [aj] at hr;obtain ⟨v0,bm,rfl,hv,hr⟩:=hr;simp only [an] at hv;obtain ⟨cv,rfl,hcv⟩:=hv;obtain ⟨tw,h1,h2,h3⟩:=xH l hz hr;have hl:=hcv.length;refine ⟨cv.toList++tw,hcv.append h1, ?_,fun id hi=> ?_⟩
   . simp_all [lK,List.take_left,List.drop_left]
   grind [qt,ai.bI,ai.ids,id]
section
variable {c:Ctx} {K0:Nat→Prop} {μ0:Nat→Loc} {w:World}
theorem fN:(l:List Cm)→(ds:List ai)→(y:lb l)→(n:Nat)→n≤(cc l ds y n).2.2
 |[],_,_,n=>abD n
 | .b::r,[],_,n=>abD n
 | .i _::r,[],_,n=>abD n
 | .s::r,[],_,n=>abD n
 | .e::r,[],_,n=>abD n
 | .k::r,[],_,n=>abD n
 | .ro _::r,[],_,n=>abD n
 | .own _::r,[],_,n=>abD n
 | .mut _::r,[],_,n=>abD n
 | .b::r,_::q,y,n=>fN r q y.2 n
 | .i _::r,_::q,y,n=>fN r q y.2 n
 | .s::r,_::q,y,n=>fN r q y.2 n
 | .e::r,_::q,y,n=>fN r q y.2 n
 | .k::r,_::q,y,n=>fN r q y n
 | .ro _::r,_::q,y,n=>fN r q y n
 | .own _::r,_::q,y,n=>aa3 (ahj n) (fN r q y.2 (n+1))
 | .mut _::r,_::q,y,n=>aa3 (ahj n) (fN r q y.2 (n+1))
def Zx (K:Nat→Prop) (n n':Nat) (ds:List ai):Prop:=ds.all ai.bC=true∧∀ id∈ai.bI ds,K id∨(n≤id∧id<n')
theorem j5 {K:Nat→Prop}:(l:List Cm)→(ds:List ai)→(y:lb l)→(n:Nat)→ds.all ai.bC=true→(∀ id∈ai.bI ds,K id)→Zx K n (cc l ds y n).2.2 (cc l ds y n).1
 |[],_,_,n,_,_=>⟨rfl,fun _ h=>by cases h⟩
 | .b::r,[],_,n,_,_=>⟨rfl,fun _ h=>by cases h⟩
 | .i _::r,[],_,n,_,_=>⟨rfl,fun _ h=>by cases h⟩
 | .s::r,[],_,n,_,_=>⟨rfl,fun _ h=>by cases h⟩
 | .e::r,[],_,n,_,_=>⟨rfl,fun _ h=>by cases h⟩
 | .k::r,[],_,n,_,_=>⟨rfl,fun _ h=>by cases h⟩
 | .ro _::r,[],_,n,_,_=>⟨rfl,fun _ h=>by cases h⟩
 | .own _::r,[],_,n,_,_=>⟨rfl,fun _ h=>by cases h⟩
 | .mut _::r,[],_,n,_,_=>⟨rfl,fun _ h=>by cases h⟩
 | .b::r,d::q,y,n,h1,h2=>by
   simp only [acY,aaE] at h1;have:=j5 r q y.2 n h1.2 fun id hi=>h2 id (by simp [ai.bI,hi]);exact ⟨by simpa [cc,ai.bC] using this.1,this.2⟩
 | .i _::r,d::q,y,n,h1,h2=>by
   simp only [acY,aaE] at h1;have:=j5 r q y.2 n h1.2 fun id hi=>h2 id (by simp [ai.bI,hi]);exact ⟨by simpa [cc,ai.bC] using this.1,this.2⟩
 | .s::r,d::q,y,n,h1,h2=>by
   simp only [acY,aaE] at h1;have:=j5 r q y.2 n h1.2 fun id hi=>h2 id (by simp [ai.bI,hi]);exact ⟨by simpa [cc,ai.bC] using this.1,this.2⟩
 | .e::r,d::q,y,n,h1,h2=>by
   simp only [acY,aaE] at h1;have:=j5 r q y.2 n h1.2 fun id hi=>h2 id (by simp [ai.bI,hi]);exact ⟨by simpa [cc,ai.bC] using this.1,this.2⟩
 | .k::r,d::q,y,n,h1,h2=>by
   simp only [acY,aaE] at h1;have:=j5 (K:=K) r q y n h1.2 fun id hi=>h2 id (by simp [ai.bI,hi]);refine ⟨by simpa [cc,h1.1] using this.1,fun id hi=> ?_⟩;have hi:id∈d.ids++ai.bI (cc r q y n).1:=hi;rcases aaN.1 hi with hi|hi
   . exact .inl (h2 id (by simp [ai.bI,hi]))
   . exact this.2 id hi
 | .ro _::r,d::q,y,n,h1,h2=>by
   simp only [acY,aaE] at h1;have:=j5 (K:=K) r q y n h1.2 fun id hi=>h2 id (by simp [ai.bI,hi]);refine ⟨by simpa [cc,h1.1] using this.1,fun id hi=> ?_⟩;have hi:id∈d.ids++ai.bI (cc r q y n).1:=hi;rcases aaN.1 hi with hi|hi
   . exact .inl (h2 id (by simp [ai.bI,hi]))
   . exact this.2 id hi
 | .own _::r,d::q,y,n,h1,h2=>by
   simp only [acY,aaE] at h1;have:=j5 (K:=K) r q y.2 (n+1) h1.2 fun id hi=>h2 id (by simp [ai.bI,hi]);have l1:=fN r q y.2 (n+1);refine ⟨by simpa [cc,ai.bC] using this.1,fun id hi=> ?_⟩;have hi:id∈n::ai.bI (cc r q y.2 (n+1)).1:=hi;show K id∨n≤id∧id<(cc r q y.2 (n+1)).2.2;rcases abE.1 hi with hi|hi
   . right;omega
   . rcases this.2 id hi with h|h
     . exact .inl h
     . right;omega
 | .mut _::r,d::q,y,n,h1,h2=>by
   simp only [acY,aaE] at h1;have:=j5 (K:=K) r q y.2 (n+1) h1.2 fun id hi=>h2 id (by simp [ai.bI,hi]);have l1:=fN r q y.2 (n+1);refine ⟨by simpa [cc,ai.bC] using this.1,fun id hi=> ?_⟩;have hi:id∈n::ai.bI (cc r q y.2 (n+1)).1:=hi;show K id∨n≤id∧id<(cc r q y.2 (n+1)).2.2;rcases abE.1 hi with hi|hi
   . right;omega
   . rcases this.2 id hi with h|h
     . exact .inl h
     . right;omega
theorem iR:(l:List Cm)→∀ {os vs:List Value} {ds:List ai} {y:lb l} {f rest:List Nat} {n:Nat} {K:Nat→Prop} {μ:Nat→Loc} {fp:Nat→List Nat} {v:Env},
  ic c K μ fp v w (f++rest)→aj c μ0 os ds→(∀ id∈ai.bI ds,K0 id)→(∀ id,K0 id→K id∧μ id=μ0 id)→bd c.fz w l os vs y f→(∀ b∈f,b<c.w0.heap.size→∀ j,c.M b j)→
  (∀ id,n≤id→id<(cc l ds y n).2.2→¬ K id)→
  sV c K μ v w rest n (cc l ds y n).2.2 (cc l ds y n).2.1 fun μ'=>aj c μ' vs (cc l ds y n).1
 |[],os,vs,ds,y,f,rest,n,K,μ,fp,v,h,hr,_,_,hb,_,_=>by
  simp only [bd] at hb;obtain ⟨rfl,rfl,rfl⟩:=hb;exact ⟨μ,fp,by simp [cc,aj],h.weaken fun _=> .inl,fun _ _=>rfl⟩
 | .b::r,os,vs,ds,y,f,rest,n,K,μ,fp,v,h,hr,hi,hk,hb,hM,hf=>by
   simp only [bd] at hb;obtain ⟨o,po,bm,rfl,rfl,hb⟩:=hb;cases ds with
   |nil=>grind [aj]
   |cons d q=>
    simp only [aj] at hr;obtain ⟨v0,Uy,e,hd,hr⟩:=hr;cases e;obtain ⟨μ',fp',h1,h2,h3⟩:=iR r h hr (by grind [id,ai.bI]) hk hb hM hf;exact ⟨μ',fp',by simp only [cc,aj,an];grind,h2,h3⟩
 | .i _::r,os,vs,ds,y,f,rest,n,K,μ,fp,v,h,hr,hi,hk,hb,hM,hf=>by
   simp only [bd] at hb;obtain ⟨o,po,bm,rfl,rfl,hb⟩:=hb;cases ds with
   |nil=>grind [aj]
   |cons d q=>
    simp only [aj] at hr;obtain ⟨v0,Uy,e,hd,hr⟩:=hr;cases e;obtain ⟨μ',fp',h1,h2,h3⟩:=iR r h hr (by grind [id,ai.bI]) hk hb hM hf;exact ⟨μ',fp',by simp only [cc,aj,an];grind,h2,h3⟩
 | .s::r,os,vs,ds,y,f,rest,n,K,μ,fp,v,h,hr,hi,hk,hb,hM,hf=>by
   simp only [bd] at hb;obtain ⟨o,po,bm,rfl,rfl,hl,hb⟩:=hb;cases ds with
   |nil=>grind [aj]
   |cons d q=>
    simp only [aj] at hr;obtain ⟨v0,Uy,e,hd,hr⟩:=hr;cases e;obtain ⟨μ',fp',h1,h2,h3⟩:=iR r h hr (by grind [id,ai.bI]) hk hb hM hf;exact ⟨μ',fp',by simp only [cc,aj,an];grind,h2,h3⟩
 | .e::r,os,vs,ds,y,f,rest,n,K,μ,fp,v,h,hr,hi,hk,hb,hM,hf=>by
   simp only [bd] at hb;obtain ⟨o,po,_,bm,rfl,rfl,hl,hb⟩:=hb;cases ds with
   |nil=>grind [aj]
   |cons d q=>
    simp only [aj] at hr;obtain ⟨v0,Uy,e,hd,hr⟩:=hr;cases e;obtain ⟨μ',fp',h1,h2,h3⟩:=iR r h hr (by grind [id,ai.bI]) hk hb hM hf;exact ⟨μ',fp',by simp only [cc,aj,an];grind,h2,h3⟩
 | .k::r,os,vs,ds,y,f,rest,n,K,μ,fp,v,h,hr,hi,hk,hb,hM,hf=>by
   simp only [bd] at hb;obtain ⟨o,po,bm,rfl,rfl,hb⟩:=hb;cases ds with
   |nil=>grind [aj]
   |cons d q=>
    simp only [aj] at hr;obtain ⟨v0,Uy,e,hd,hr⟩:=hr;cases e;obtain ⟨μ',fp',h1,h2,h3⟩:=iR r h hr (by grind [id,ai.bI]) hk hb hM hf;refine ⟨μ',fp', ?_,h2,h3⟩;simp only [cc,aj];exact ⟨_,_,rfl,by grind [an.mono,id,ai.bI],h1⟩
 | .ro _::r,os,vs,ds,y,f,rest,n,K,μ,fp,v,h,hr,hi,hk,hb,hM,hf=>by
   simp only [bd] at hb;obtain ⟨o,po,bm,rfl,rfl,hb⟩:=hb;cases ds with
   |nil=>grind [aj]
   |cons d q=>
    simp only [aj] at hr;obtain ⟨v0,Uy,e,hd,hr⟩:=hr;cases e;obtain ⟨μ',fp',h1,h2,h3⟩:=iR r h hr (by grind [id,ai.bI]) hk hb hM hf;refine ⟨μ',fp', ?_,h2,h3⟩;simp only [cc,aj];exact ⟨_,_,rfl,by grind [an.mono,id,ai.bI],h1⟩
 | .own e::r,os,vs,ds,y,f,rest,n,K,μ,fp,v,h,hr,hi,hk,hb,hM,hf=>by
   simp only [bd] at hb;obtain ⟨o,po,v1,bm,f1,f2,rfl,rfl,rfl,hx,hb⟩:=hb;cases ds with
   |nil=>grind [aj]
   |cons d q=>
    simp only [aj] at hr;obtain ⟨v0,Uy,e,hd,hr⟩:=hr;cases e;have l1:=fN r q y.2 (n+1);replace hf:∀ id,n≤id→id<(cc r q y.2 (n+1)).2.2→¬ K id:=hf;obtain ⟨yG,I6,g1,g2,g3⟩:=ic.Zu (rest:=f2++rest) (by rw [← aez];exact h) (hf n (abD n) (by omega)) hx (by grind);obtain ⟨μ',fp',h1,h2,h3⟩:=iR r g2 hr (by grind [id,ai.bI]) (by grind) hb (by grind)
     (fun id q1 q2 q3=>q3.elim (hf id (by omega) q2) (by omega))
    refine ⟨μ',fp', ?_,h2.weaken fun id hi=> ?_,by grind⟩
    . simp only [cc,aj]
      exact ⟨_,_,rfl,by grind [an.mono,id,ai.ids,List.mem_singleton],h1⟩
    grind [id,cc]
 | .mut e::r,os,vs,ds,y,f,rest,n,K,μ,fp,v,h,hr,hi,hk,hb,hM,hf=>by
   simp only [bd] at hb;obtain ⟨o,po,v1,bm,f1,f2,rfl,rfl,rfl,hx,hb⟩:=hb;cases ds with
   |nil=>grind [aj]
   |cons d q=>
    simp only [aj] at hr;obtain ⟨v0,Uy,e,hd,hr⟩:=hr;cases e;have l1:=fN r q y.2 (n+1);replace hf:∀ id,n≤id→id<(cc r q y.2 (n+1)).2.2→¬ K id:=hf;obtain ⟨yG,I6,g1,g2,g3⟩:=ic.Zu (rest:=f2++rest) (by rw [← aez];exact h) (hf n (abD n) (by omega)) hx (by grind);obtain ⟨μ',fp',h1,h2,h3⟩:=iR r g2 hr (by grind [id,ai.bI]) (by grind) hb (by grind)
     (fun id q1 q2 q3=>q3.elim (hf id (by omega) q2) (by omega))
    refine ⟨μ',fp', ?_,h2.weaken fun id hi=> ?_,by grind⟩
    . simp only [cc,aj]
      exact ⟨_,_,rfl,by grind [an.mono,id,ai.ids,List.mem_singleton],h1⟩
    grind [id,cc]
end
end
end Go.Proofs.YtohagdoklnkljaaGreat.Dm
