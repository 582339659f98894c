/- f -/
import Derived.Test.YtohagdoklnkljaaGreatR1
import Derived.WalkKit
import Derived.BigCall
import Derived.Shelf.RegionOpenPlain
import Derived.Deep.RegionLaw
import Derived.Lib.SliceRun
import Derived.OwnWalk
import Derived.Sort.WalkB12
import Derived.Test.YtohagdoklnkljaaGreatJ8
namespace Go.Proofs.YtohagdoklnkljaaGreat.Dm
section
open Go Go.ChangeShapes Go.WideShapes Go.ChangeAt Go.RowKit
section
open Go.RowKit Go.Lib Go.Sort Go.Proofs
theorem og {P:Program} {w:World} {b o:Nat} {C:Array Value} {T:TypeId} (hb:w.heap[b]? =some (.cells C T (0,0))) {vs:List Value} (hl:o+vs.length≤C.size) (h1:∀ v∈vs,v.oneCell'=true):w.setCells b o vs=w.setRow b (spliced C o vs):=by
 have hc:∀ j,j<vs.length→(w.cell? ⟨b,o+0+j,none⟩).isSome=true:=fun j hj=>by
  have:o+j<C.size:=by omega
  simp [World.cell?, hb,this]
 have hf:∀ j,j<vs.length→w.frozen? ⟨b,o+0+j,none⟩=false:=fun j hj=>by simp [World.frozen?, hb]
 have e1:=run_storeCells_cells (P:=P) b o vs 0 w hc hf h1;have e2:=run_storeCells_at P b o T vs 0 C w hb (by simpa using hl) h1;rw [e1] at e2;simp only [af0,Result.ok.injEq,true_and] at e2;exact e2
theorem zH {P:Program} {n:Nat} (w:World) (t e ty:TypeId) (z:Value) (ht:P.underlying t=some (.slice e)) (hv:∀ w,(zeroValue e).run P w= .ok z w) (h1:∀ v∈(Builtin.zeroCells z.cells n).toList,v.oneCell'=true) (b o c:Nat) (hn:0<n)
  (hc:∀ j,j<n*z.cells.size→(w.cell? ⟨b,o+j,none⟩).isSome=true) (hf:∀ j,j<n*z.cells.size→w.frozen? ⟨b,o+j,none⟩=false):
  (Builtin.clear_ #[t] ty #[.slice (some ⟨b,o,none⟩) n c]).run P w= .ok (.tuple #[]) (w.setCells b o (Builtin.zeroCells z.cells n).toList):=by
 have py:=run_storeCells_cells (P:=P) b o (Builtin.zeroCells z.cells n).toList 0 w (by simpa [iw] using hc) (by simpa [iw] using hf) h1;simp only [af0] at py;obtain ⟨m,rfl⟩:∃ m,n=m+1:=⟨n - 1,by omega⟩
 simp [Builtin.clear_,run_underlying ht,hv,py]
def oh {α:Type} (xs:List α) (i j:Int):Option (List α):=if 0≤i∧i<j∧j≤(xs.length:Int) then some (xs.take i.toNat++xs.drop j.toNat) else none
theorem zI {P:Program} {f:Nat} {e:Ty} {K:Nat} (hK:e.size=K) (ln:0<K) (hfn:ZR P f)
  (aa2:∀ (b o cap n i j:Nat) (w:World) (C:Array Value) (T:TypeId),w.heap[b]? =some (.cells C T (0,0))→n≤cap→o+cap*K≤C.size→n≤aS→i<j→j≤n→
   (∀ v∈(C.toList.drop (o+j*K)).take ((n - j)*K),v.oneCell'=true)→
   Calls P f #[.slice (some ⟨b,o,none⟩) n cap, .int .i64 i, .int .i64 j] w fun ed w'=>ed= .returned (.slice (some ⟨b,o,none⟩) (n - (j - i)) cap)∧
    ∃ zs:List Value,zs.length=(n - (i+(n - j)))*K∧(∀ v∈zs,v.oneCell'=true)∧w'=(w.drew.setCells b (o+i*K) ((C.toList.drop (o+j*K)).take ((n - j)*K))).setCells b (o+(i+(n - j))*K) zs):
  bM.Ok P { f:=f,lend:=false,aK:=[⟨false,false,[.own e]⟩,⟨false,false,[.i .i64]⟩,⟨false,false,[.i .i64]⟩],lay:=[none,none,none],rs:=[⟨false,false,[.own e]⟩],F:=fun x=> .get (oh (α:=e.D) x.1.1 x.2.1.1 x.2.2.1.1) fun y=> .ret (((y,()),()),((),((),((),())))) }:=by
 intro x y hy S w hS tw fp g dI pG DX;obtain ⟨⟨xs,u⟩,⟨i,ui⟩,⟨j,uj⟩,u'⟩:=x;revert xs i j;intro (xs:List e.D) (i:Int) (j:Int) hy dI;have hy:(Out.get (oh xs i j) fun y:List e.D=>Out.ret ((((y,()),()),((),((),((),())))):((List e.D×Unit)×Unit)×(Unit×(Unit×(Unit×Unit))))).eval=some y:=hy;unfold oh at hy;by_cases hl:0≤i∧i<j∧j≤(xs.length:Int)
 case neg=>rw [aap hl] at hy;exact nomatch hy
 rw [aaK hl] at hy;have hy:=aaG hy;subst hy;obtain ⟨i,rfl⟩:∃ n:Nat,i=n:=⟨i.toNat,by omega⟩
 obtain ⟨j,rfl⟩:∃ n:Nat,j=n:=⟨j.toNat,by omega⟩
 have yJ:i<j:=by omega
 have Uj:j≤xs.length:=by omega
 simp only [aaH];simp only [ba,cR,aT] at dI;obtain ⟨v,_,f1,_,g1,_,rfl,rfl,rfl,⟨rfl,⟨v',_,f11,_,hv,rfl,hr,rfl,rfl⟩,_,BV⟩,v2,_,f2,_,g2,_,rfl,rfl,rfl,⟨rfl,⟨_,hv2,rfl,rfl⟩,_,agb⟩,v3,_,f3,_,g3,_,rfl,rfl,rfl,⟨rfl,⟨_,hv3,rfl,rfl⟩,_,agd⟩,rfl,rfl,rfl⟩:=dI;have hr0:=hr;simp only [Ty.au] at hr;obtain ⟨a,cap,e0,⟨hc,UE⟩,hr⟩:=hr;obtain rfl:v'= .slice a xs.length cap:=by simpa using e0
 have hvv:v= .slice a xs.length cap:=by
  have ho:=BV trivial;cases v<;>first|(cases ho;done)|skip
  all_goals first|(simp [Value.cells] at hv;done)|skip
  all_goals simpa [Value.cells] using hv
 subst hvv;have aj4:v2= .int .i64 i:=by
  have ho:=agb trivial;cases v2<;>first|(cases ho;done)|skip
  all_goals first|(simp [Value.cells] at hv2;done)|skip
  all_goals simpa [Value.cells] using hv2
 subst aj4;have aj5:v3= .int .i64 j:=by
  have ho:=agd trivial;cases v3<;>first|(cases ho;done)|skip
  all_goals first|(simp [Value.cells] at hv3;done)|skip
  all_goals simpa [Value.cells] using hv3
 subst aj5;refine ⟨hfn.ex, ?_⟩;have Cv:(lK [none,none,none] [Value.slice a xs.length cap, .int .i64 i, .int .i64 j]).toArray= #[.slice a xs.length cap, .int .i64 i, .int .i64 j]:=rfl;show Calls P f (lK [none,none,none] [Value.slice a xs.length cap, .int .i64 i, .int .i64 j]).toArray w _;rw [Cv];have hc:xs.length≤cap:=hc;rcases hr with ⟨h0c,rfl⟩|⟨b,o,C,T,fps,rfl,hb,hC,qQ,rfl,hi⟩
 . omega
 subst hK;have DY:fps.length=xs.length:=qQ;have nt:∀ (t:Nat) (y:e.D) (f:List Nat),(xs.drop j)[t]? =some y→(fps.drop j)[t]? =some f→e.au ⟨S,w⟩ w (aE w b (o+j*e.size+t*e.size) e.size) y f:=fun t y f hy hf=>by
  rw [acb] at hy hf;have:=hi (j+t) y f hy hf;rwa [acF, ← Nat.add_assoc] at this
 obtain ⟨Uk,Ul,h1⟩:((C.toList.drop (o+j*e.size)).take ((xs.length - j)*e.size)).length=(xs.length - j)*e.size∧Items ⟨S,w⟩ w e ((C.toList.drop (o+j*e.size)).take ((xs.length - j)*e.size)) (xs.drop j) (fps.drop j)∧∀ v∈(C.toList.drop (o+j*e.size)).take ((xs.length - j)*e.size),v.oneCell'=true:=by
  by_cases dW:xs.drop j=[]
  . have h0:xs.length - j=0:=by have:=congrArg List.length dW;simpa using this
    have h0f:fps.drop j=[]:=ahi (by omega);rw [h0,dW,h0f];simp [Items]
  . have hdl:(xs.drop j).length=xs.length - j:=adn
    obtain ⟨_,_,_,_,_,q3,q4,q5⟩:=Src.cells (by simp [DY]) ln dW nt;rw [hdl,cj hb] at q3 q4 q5;exact ⟨q3,q4,q5⟩
 refine (aa2 b o cap xs.length i j w C T hb hc hC UE yJ Uj h1).mono fun ed w' he=> ?_;generalize (C.toList.drop (o+j*e.size)).take ((xs.length - j)*e.size)=news at Uk Ul h1 he;obtain ⟨rfl,zs,Ph,hz1,rfl⟩:=he;have NI:¬ S b:=DX b (by simp);have hcK:xs.length*e.size≤cap*e.size:=ab9 _ hc;have hm1:(i+(xs.length - j))*e.size+zs.length=xs.length*e.size:=by rw [Ph, ← acF];congr 1;omega
 have UF:i*e.size+news.length=(i+(xs.length - j))*e.size:=by rw [Uk, ← acF]
 rw [og (P:=P) (w:=w.drew) (T:=T) hb (by omega) h1];have Cw:(w.drew.setRow b (spliced C (o+i*e.size) news)).heap[b]? =some (.cells (spliced C (o+i*e.size) news) T (0,0)):=setRow_heap w.drew b C _ T _ hb;have UG:(spliced C (o+i*e.size) news).size=C.size:=cd (by omega);rw [og (P:=P) (T:=T) Cw (by omega) hz1];have I9:=setRow_heap (w.drew.setRow b (spliced C (o+i*e.size) news)) b _ (spliced (spliced C (o+i*e.size) news) (o+(i+(xs.length - j))*e.size) zs) T _ Cw;have I1:(spliced (spliced C (o+i*e.size) news) (o+(i+(xs.length - j))*e.size) zs).size=C.size:=by rw [cd (by omega),UG]
 have Ja:∀ b',b'≠b→((w.drew.setRow b (spliced C (o+i*e.size) news)).setRow b (spliced (spliced C (o+i*e.size) news) (o+(i+(xs.length - j))*e.size) zs)).heap[b']? =w.heap[b']? :=fun b' dW=>by
  rw [setRow_other _ b b' _ dW,setRow_other _ b b' _ dW];rfl
 have agf:((spliced (spliced C (o+i*e.size) news) (o+(i+(xs.length - j))*e.size) zs).toList.drop o).take ((xs.take i++xs.drop j).length*e.size)=(C.toList.drop o).take (i*e.size)++news++[]:=by
  have hln:(xs.take i++xs.drop j).length=i+(xs.length - j):=by simp;omega
  rw [hln,aeI];apply adQ;intro t;by_cases ht:t<(i+(xs.length - j))*e.size
  . rw [aca ht,acb,acL,eH (by omega),aap (by omega),eH (by omega)]
    by_cases ht2:t<i*e.size
    . rw [aap (by omega),afH (by simp;omega),aca ht2,acb,acL]
    . rw [aaK (by omega),afG (by simp;omega)]
      congr 1;simp;omega
  . rw [aeH (by simp;omega),aeH (by simp;omega)]
 have agi:(b::fps.flatten).Nodup:=by simpa using pG
 have jt:fps.flatten=(fps.take i).flatten++(((fps.drop i).take (j - i)).flatten++(fps.drop j).flatten):=by
  conv=>lhs;rw [← af1 i fps, ← af1 (j - i) (fps.drop i),ahB,show i+(j - i)=j by omega]
  simp
 have UH:=(ac9.1 agi).2;have xM:=(ac9.1 agi).1;have iU:∀ x∈(fps.take i++fps.drop j).flatten,x∈fps.flatten:=fun x hx=>by
  rw [afX,aaN] at hx;rw [jt];rcases hx with hx|hx
  . exact afU _ hx
  . exact ae5 _ (ae5 _ hx)
 have aj6:(b::(fps.take i++fps.drop j).flatten).Nodup:=by
  rw [jt] at UH;have q1:=acd.1 UH;have q2:=acd.1 q1.2.1;refine ac9.2 ⟨fun h=>xM (iU _ h), ?_⟩;rw [afX,acd];exact ⟨q1.1,q2.2.1,fun x hx y hy=>q1.2.2 x hx y (ae5 _ hy)⟩
 have aj7:Items ⟨S,w⟩ w e ((C.toList.drop o).take (i*e.size)) (xs.take i) (fps.take i):=by
  refine ⟨by simp [DY],fun t y f hy hf=> ?_⟩;have ZS:t<i:=by have:=(List.getElem?_eq_some_iff.1 hy).1;simp at this;omega
  rw [aca ZS] at hy hf;have:=hi t y f hy hf;rwa [← cj hb,iY ZS]
 have hiK:i*e.size≤xs.length*e.size:=ab9 _ (by omega);have agj:∀ z:Fz,Fz.le ⟨S,w⟩ z→(Ty.sl e).au z ((w.drew.setRow b (spliced C (o+i*e.size) news)).setRow b (spliced (spliced C (o+i*e.size) news) (o+(i+(xs.length - j))*e.size) zs)) [.slice (some ⟨b,o,none⟩) (xs.length - (j - i)) cap] (xs.take i++xs.drop j) (b::(fps.take i++fps.drop j).flatten):=fun z hz=>by
  have hln:(xs.take i++xs.drop j).length=xs.length - (j - i):=by simp;omega
  have hli:(xs.take i).length=i:=by simp;omega
  have aj8:=oi aj7 Ul (by rw [hli];simp;omega) (by rw [Uk,adn]) [];have:=zJ (z:=⟨S,w⟩) (e:=e) (xs:=xs.take i++xs.drop j) (fps:=fps.take i++fps.drop j) (cap:=cap) (o:=o) I9 ⟨by rw [hln];omega,by rw [hln];omega⟩ (by rw [I1];exact hC) (by
   rw [agf];exact Items.congr (w:=w) aj8 fun b' cf=>Ja b' fun q=>xM (q ▸ iU b' cf))
  rw [hln] at this;exact Ty.dc hz _ this
 refine ⟨⟨[.slice (some ⟨b,o,none⟩) (xs.length - (j - i)) cap],b::(fps.take i++fps.drop j).flatten,[],[],rfl,⟨S,fun _ h=>h,fun b' h=>⟨.inl h, ?_⟩,fun b' cf=> ?_, ?_, ?_⟩,by simpa using aj6,fun b' cf=> ?_⟩, ?_⟩
 . have:=hS.1 b' h
   simp;exact this
 . refine DX b' ?_
   simp only [af8,aeI] at cf ⊢;rcases abE.1 cf with rfl|h
   . exact afS
   . exact afV _ (iU _ h)
 . simp only [ba,cR,aT]
   exact ⟨_,_,b::(fps.take i++fps.drop j).flatten,[],[],[],rfl,by simp,rfl,⟨rfl,⟨_,_,b::(fps.take i++fps.drop j).flatten,[],rfl,by simp,agj _ (fun b' cf=>⟨cf,Ja b' fun q=>NI (q ▸ cf)⟩),rfl,rfl⟩,by simp,fun _=>rfl⟩,rfl,rfl,rfl⟩
 . simp only [dM,qR,aW]
   exact ⟨_,_,[],[],rfl,rfl,⟨.slice (some ⟨b,o,none⟩) xs.length cap,[],by simp [Value.cells],rfl,rfl⟩,_,_,[],[],rfl,rfl,⟨.int .i64 i,[],by simp [Value.cells],rfl,rfl⟩,_,_,[],[],rfl,rfl,⟨.int .i64 j,[],by simp [Value.cells],rfl,rfl⟩,rfl,rfl⟩
 . left
   simp only [af8,aeI] at cf ⊢;rcases abE.1 cf with rfl|h
   . exact afS
   . exact afV _ (iU _ h)
 . refine ((Ev.start _).drew.setRow hb NI (cd (by omega)) fun _ j' DZ=>absurd ?_ DZ).setRow Cw NI (by rw [I1,UG]) fun _ j' DZ=>absurd ?_ DZ
   all_goals exact .inl (by simp)
theorem NJ {z:Array Value} (h:∀ v∈z.toList,v.oneCell'=true) (hp:0<z.size) (n:Nat):∀ v∈(Builtin.zeroCells z n).toList,v.oneCell'=true:=fun u hu=>by
 simp only [Builtin.zeroCells,Array.toList_map,List.mem_map] at hu;obtain ⟨j,_,rfl⟩:=hu;have bZ:j % z.size<z.size:=Nat.mod_lt _ hp;rw [getElem!_pos z _ bZ];exact h _ (by simp)
theorem NK {P:Program} {e:Ty} {t:TypeId} (h:e.Ok P t):∃ i z,P.info? t=some i∧i.size=e.size∧i.zero=some z∧z.cells.size=e.size∧∀ n,∀ v∈(Builtin.zeroCells z.cells n).toList,v.oneCell'=true:=by
 obtain ⟨i,z,hi,hs,_,hz,Jb,ln⟩:=h.base;have hl:z.cells.size=e.size:=by have:=congrArg List.length Jb;rw [Ty.dN] at this;simpa using this
 refine ⟨i,z,hi,hs,hz,hl,NJ ?_ (by omega)⟩;rw [Jb];exact Ty.lL (z:=⟨fun _=>False,default⟩) (w:=default) e (Ty.iJ _ e)
set_option maxRecDepth 100000 in
set_option maxHeartbeats 1600000 in
theorem D0 {i0:TypeInfo} {z:Value} (Pj:Tryz.prog.info? 3=some i0) (hz1:i0.size=1) (hzz:i0.zero=some z) (Jb:z.cells.size=1) (aj9:∀ n,∀ v∈(Builtin.zeroCells z.cells n).toList,v.oneCell'=true)
  (b o cap n i j:Nat) (w:World) (C:Array Value) (T:TypeId) (hb:w.heap[b]? =some (.cells C T (0,0))) (mW:n≤cap) (hC:o+cap*1≤C.size) (hn:n≤aS) (yJ:i<j) (hj:j≤n)
  (h1:∀ v∈(C.toList.drop (o+j*1)).take ((n - j)*1),v.oneCell'=true):
  Calls Tryz.prog 195 #[.slice (some ⟨b,o,none⟩) n cap, .int .i64 i, .int .i64 j] w fun e w'=>e= .returned (.slice (some ⟨b,o,none⟩) (n - (j - i)) cap)∧
   w'=(w.drew.setCells b (o+i*1) ((C.toList.drop (o+j*1)).take ((n - j)*1))).setCells b (o+(i+(n - j))*1) (Builtin.zeroCells z.cells (n - (i+(n - j)))).toList:=by
 have t24:Tryz.prog.underlying 29=some (.slice 3):=by kernel_rfl
 have mixed:Tryz.prog.follows .mixedOrders=true:=by kernel_rfl
 obtain ⟨news,uz⟩:∃ news,news=(C.toList.drop (o+j*1)).take ((n - j)*1):=⟨_,rfl⟩
 rw [← uz] at h1 ⊢;have hlen:news.length=(n - j)*1:=by rw [uz];simp;omega
 have iZ:∀ (w':World) (k:Nat),w'.heap[b]? =some (.cells C T (0,0))→k<C.size→(w'.cell? ⟨b,k,none⟩).isSome=true∧w'.frozen? ⟨b,k,none⟩=false:=fun w' k h hk=>by simp [World.cell?, World.frozen?, h,hk]
 obtain ⟨A,hA,nt⟩:∃ A:Addr,(if cap=j then some (⟨b,o,none⟩:Addr) else some ⟨b,o+j,none⟩)=some A∧Hid (∀ t u,news[t]? =some u→w.drew.cell? (A.add t)=some u):=by
  by_cases h:cap=j
  . refine ⟨_,aaK h,fun t u hu=> ?_⟩
    have h0:news.length=0:=by rw [hlen];omega
    rw [List.length_eq_zero_iff.1 h0] at hu;simp at hu
  . refine ⟨_,aap h,fun t u hu=> ?_⟩
    have ht:t<(n - j)*1:=by
     have:=(List.getElem?_eq_some_iff.1 hu).1;rwa [hlen] at this
    rw [uz,aca ht,acb,acL] at hu;rw [Nat.mul_one] at hu;rw [Addr.add_lit];show w.cell? _=some u;simp only [World.cell?, hb];exact hu
 have s1:Hid (news.length=(n - j)*1):=hlen;have s2:Hid (∀ u∈news,u.oneCell'=true):=h1;have s3:Hid (∀ t,t<news.length→(w.drew.cell? ⟨b,o+i*1+t,none⟩).isSome=true∧w.drew.frozen? ⟨b,o+i*1+t,none⟩=false):=fun t ht=>iZ w.drew _ hb (by rw [hlen] at ht;omega);obtain ⟨W1,hW1⟩:∃ W1,W1=w.drew.setCells b (o+i*1) news:=⟨_,rfl⟩
 have UI:W1.heap[b]? =some (.cells (spliced C (o+i*1) news) T (0,0)):=by
  rw [hW1,og (P:=Tryz.prog) (w:=w.drew) (T:=T) hb (by rw [hlen];omega) h1];exact setRow_heap w.drew b C _ T _ hb
 have sW:(spliced C (o+i*1) news).size=C.size:=cd (by rw [hlen];omega);simp only [Nat.mul_one] at UI sW;have hcl:∀ ty,(Builtin.clear_ #[29] ty #[.slice (some ⟨b,o+(i+(n - j)),none⟩) (n - (i+(n - j))) (cap - (i+(n - j)))]).run Tryz.prog W1= .ok (.tuple #[]) (W1.setCells b (o+(i+(n - j))) (Builtin.zeroCells z.cells (n - (i+(n - j)))).toList):=fun ty=>
  zH W1 _ _ ty z t24 (fun w=>by simp [zeroValue,typeInfo,Pj,hzz]) (aj9 _) b _ _ (by omega) (fun t ht=>by
   have:o+(i+(n - j))+t<C.size:=by rw [Jb] at ht;omega
   simp [World.cell?, UI,sW,this]) (fun t ht=>by simp [World.frozen?, UI])
 have X:Aside (W1=w.drew.setCells b (o+i*1) news):=hW1;have hW:Hid (W1=w.drew.setCells b (o+i*1) news):=hW1;have hic:i≤cap:=by omega
 have hjc:j≤cap:=by omega
 have aoH:n≤9223372036854775807:=aa3 hn (by decide);clear hW1 UI sW iZ hn uz hlen h1 hb hC
 go_enter Tryz.func195,Tryz.ntmps195
 go_wp2_with fail
 go_region_law_o (refine step_append_room rfl (.tmp 22) (.tmp 25) 29 rfl 3 i0 1 t24 Pj hz1 b o i cap (by simp [Act.eval,Act.put]) A (n - j) (cap - j) news (by simp [Act.eval,Act.put]) s1.out nt.out s2.out (by omega) s3.out ?_;rw [← hW.out])
 go_wp2
 all_goals
  go_ret
  refine ⟨by rw [show n - (j - i)=i+(n - j) by omega];rfl, ?_⟩;rw [X.out]
  try simp only [Nat.mul_one]
  first|rfl|done|(simp only [Value.cells];done)
def agl:bM:={ f:=195,lend:=false,aK:=[⟨false,false,[.own (.int .i64)]⟩,⟨false,false,[.i .i64]⟩,⟨false,false,[.i .i64]⟩],lay:=[none,none,none],rs:=[⟨false,false,[.own (.int .i64)]⟩],F:=fun x=> .get (oh x.1.1 x.2.1.1 x.2.2.1.1) fun y=> .ret (((y,()),()),((),(),(),())) }
theorem UJ:agl.Ok Tryz.prog:=by
 obtain ⟨i0,z,Pj,hs,hz,hl,h1c⟩:=NK (e:=(.int .i64)) (((kG eo pK []).ty 3 _ (by kernel_rfl)));exact zI (e:=(.int .i64)) (K:=1) rfl (by decide) ⟨⟨_,Tryz.func195,by kernel_rfl,by kernel_rfl⟩⟩ fun b o cap n i j w C T hb mW hC hn yJ hj h1=>(D0 Pj hs hz hl h1c b o cap n i j w C T hb mW hC hn yJ hj h1).mono fun ed w' ⟨he,hw⟩=>⟨he,_,by rw [Array.length_toList,iw,hl];rfl,h1c _,hw⟩
end
end
section
open Go Go.ChangeShapes Go.WideShapes Go.ChangeAt Go.RowKit
def akc:List (Nat×Ty):=[(25,(.sl eM)),(30,(.st (.cons br (.cons br (.cons (.sl (.sl b8)) (.cons (.sl eM) (.cons (.sl cH) (.cons (.sl ck) (.cons (.sl ck) (.cons (.sl br) (.cons (.sl br) .nil))))))))))),(31,(.st (.cons br (.cons br (.cons (.sl (.sl b8)) (.cons (.sl eM) (.cons (.sl cH) (.cons (.sl ck) (.cons (.sl ck) (.cons (.sl br) (.cons (.sl br) .nil))))))))))),(32,ld),(33,ld),(39,(.sl ld)),(48,bW),(49,eM),(50,eM),(57,(.sl eM)),(61,(.st (.cons br (.cons br (.cons (.sl (.sl b8)) (.cons (.sl eM) (.cons (.sl cH) (.cons (.sl ck) (.cons (.sl ck) (.cons (.sl br) (.cons (.sl br) .nil))))))))))),(62,(.st (.cons br (.cons br (.cons (.sl (.sl b8)) (.cons (.sl eM) (.cons (.sl cH) (.cons (.sl ck) (.cons (.sl ck) (.cons (.sl br) (.cons (.sl br) .nil))))))))))),(90,(.st (.cons (.st (.cons br (.cons br (.cons (.sl (.sl b8)) (.cons (.sl eM) (.cons (.sl cH) (.cons (.sl ck) (.cons (.sl ck) (.cons (.sl br) (.cons (.sl br) .nil)))))))))) (.cons (.sl ld) .nil)))),(91,(.st (.cons (.st (.cons br (.cons br (.cons (.sl (.sl b8)) (.cons (.sl eM) (.cons (.sl cH) (.cons (.sl ck) (.cons (.sl ck) (.cons (.sl br) (.cons (.sl br) .nil)))))))))) (.cons (.sl ld) .nil)))),(153,(.st (.cons (.st (.cons br (.cons br (.cons (.sl (.sl b8)) (.cons (.sl eM) (.cons (.sl cH) (.cons (.sl ck) (.cons (.sl ck) (.cons (.sl br) (.cons (.sl br) .nil)))))))))) (.cons (.sl ld) .nil)))),(154,(.st (.cons (.st (.cons br (.cons br (.cons (.sl (.sl b8)) (.cons (.sl eM) (.cons (.sl cH) (.cons (.sl ck) (.cons (.sl ck) (.cons (.sl br) (.cons (.sl br) .nil)))))))))) (.cons (.sl ld) .nil)))),(166,eM),(167,eM)]++KV
theorem jM:BU Tryz.prog akc=true:=by kernel_rfl
def akd:List (Nat×Ty):=[(25,(.sl I0)),(30,(.st (.cons br (.cons br (.cons (.sl (.sl b8)) (.cons (.sl eM) (.cons (.sl cH) (.cons (.sl ck) (.cons (.sl ck) (.cons (.sl br) (.cons (.sl br) .nil))))))))))),(31,(.st (.cons br (.cons br (.cons (.sl (.sl b8)) (.cons (.sl eM) (.cons (.sl cH) (.cons (.sl ck) (.cons (.sl ck) (.cons (.sl br) (.cons (.sl br) .nil))))))))))),(32,ld),(33,ld),(39,(.sl ld)),(48,bW),(49,I0),(50,I0),(57,(.sl I0)),(61,(.st (.cons br (.cons br (.cons (.sl (.sl b8)) (.cons (.sl eM) (.cons (.sl cH) (.cons (.sl ck) (.cons (.sl ck) (.cons (.sl br) (.cons (.sl br) .nil))))))))))),(62,(.st (.cons br (.cons br (.cons (.sl (.sl b8)) (.cons (.sl eM) (.cons (.sl cH) (.cons (.sl ck) (.cons (.sl ck) (.cons (.sl br) (.cons (.sl br) .nil))))))))))),(90,(.st (.cons (.st (.cons br (.cons br (.cons (.sl (.sl b8)) (.cons (.sl eM) (.cons (.sl cH) (.cons (.sl ck) (.cons (.sl ck) (.cons (.sl br) (.cons (.sl br) .nil)))))))))) (.cons (.sl ld) .nil)))),(91,(.st (.cons (.st (.cons br (.cons br (.cons (.sl (.sl b8)) (.cons (.sl eM) (.cons (.sl cH) (.cons (.sl ck) (.cons (.sl ck) (.cons (.sl br) (.cons (.sl br) .nil)))))))))) (.cons (.sl ld) .nil)))),(153,(.st (.cons (.st (.cons br (.cons br (.cons (.sl (.sl b8)) (.cons (.sl eM) (.cons (.sl cH) (.cons (.sl ck) (.cons (.sl ck) (.cons (.sl br) (.cons (.sl br) .nil)))))))))) (.cons (.sl ld) .nil)))),(154,(.st (.cons (.st (.cons br (.cons br (.cons (.sl (.sl b8)) (.cons (.sl eM) (.cons (.sl cH) (.cons (.sl ck) (.cons (.sl ck) (.cons (.sl br) (.cons (.sl br) .nil)))))))))) (.cons (.sl ld) .nil)))),(166,I0),(167,I0)]++KV
theorem UK:BU Tryz.prog akd=true:=by kernel_rfl
def GD:bM:={ f:=177,lend:=true,aK:=[⟨false,false,[.ro b8]⟩],lay:=[none],rs:=[⟨false,false,[.own b8]⟩],F:=fun x=> .get (dO x.1.1) fun y=> .ret (((y,()),()),((),())) }
noncomputable def zK:Code:=js Tryz.f177
noncomputable def Pk:Code:=lf (lf zK)
noncomputable def Jc:Code:=eY (lf zK)
noncomputable def Pl:Code:=KW (lf Jc)
theorem NL:js Tryz.f177= .seq (eY zK) (.seq (.seq (.region 1 #[ZU (eY Jc) 0,ZU (eY Jc) 1] false) (.cond (.tmp 4) (.seq (.region 2 (D1 (eY Pl)) false) .ret) .skip)) Pk):=by kernel_rfl
theorem Pm (x:(List aw×Unit)×Unit):jN (Gz []) (fun _=>none) (eY zK) (.seq (.region 2 (D1 (eY Pl)) false) .ret) GD.aK GD.lay Tryz.f177.ntmps GD.rs [.tmp 2] x=Out.ret ((((([]:List aw)),()),()),((),())):=by kernel_rfl
theorem UL (x:(List aw×Unit)×Unit):jN (Gz []) (fun _=>none) (eY zK) Pk GD.aK GD.lay Tryz.f177.ntmps GD.rs [.tmp 2] x=Out.ite (decide (List.length ([]:List aw)+List.length x.1.1≤bV)) (Out.ret (((([]:List aw)++x.1.1,()),()),((),()))) Out.fail:=by kernel_rfl
theorem UM:GD.Ok Tryz.prog:=by
 refine oj (kG eo pK []) (nq [] (fun K hK=>by cases hK) rfl) nn (An:=fun _=>none) (rtm:=[.tmp 2]) (tk:=some 0) (tid:=75) (te:=138) (l:=fun x=>x.1.1) (by kernel_rfl) (ka (by kernel_rfl)) (by kernel_rfl) (by kernel_rfl) (by decide) (by decide) (by decide)
  NL (by kernel_rfl) (by kernel_rfl) (by kernel_rfl) (by kernel_rfl) (by kernel_rfl) (by kernel_rfl) (by kernel_rfl) (fun x=>by kernel_rfl) (fun x=>ahC (by kernel_rfl)) (fun x y _ hy=> ?_) (fun x y _ hl hy=> ?_)
 . obtain ⟨⟨a,_⟩,_⟩:=x
   refine (congrArg Out.eval (UL _)).trans ?_;change (Out.get (dO a) fun y=>Out.ret (((y,()),()),((),()))).eval=some y at hy;unfold dO at hy;by_cases h:a.length≤bV
   . rw [kH h] at hy
     exact (ab (aaa (show 0+a.length≤bV from (ada _).symm ▸ h))).trans hy
   . rw [yK h] at hy;exact nomatch hy
 . obtain ⟨⟨a,_⟩,_⟩:=x
   obtain rfl:a=[]:=hl;exact (congrArg Out.eval (Pm _)).trans hy
def ZV:bM:={ f:=99,lend:=true,aK:=[⟨false,false,[.ro cH]⟩],lay:=[none],rs:=[⟨false,false,[.own cH]⟩],F:=fun x=> .get (dO x.1.1) fun y=> .ret (((y,()),()),((),())) }
noncomputable def GF:Code:=js Tryz.f99
noncomputable def ZW:Code:=lf (lf GF)
noncomputable def Pn:Code:=eY (lf GF)
noncomputable def ZX:Code:=KW (lf Pn)
theorem Po:js Tryz.f99= .seq (eY GF) (.seq (.seq (.region 1 #[ZU (eY Pn) 0,ZU (eY Pn) 1] false) (.cond (.tmp 4) (.seq (.region 2 (D1 (eY ZX)) false) .ret) .skip)) ZW):=by kernel_rfl
theorem UN (x:(List ah×Unit)×Unit):jN (Gz []) (fun _=>none) (eY GF) (.seq (.region 2 (D1 (eY ZX)) false) .ret) ZV.aK ZV.lay Tryz.f99.ntmps ZV.rs [.tmp 2] x=Out.ret ((((([]:List ah)),()),()),((),())):=by kernel_rfl
theorem aa4 (x:(List ah×Unit)×Unit):jN (Gz []) (fun _=>none) (eY GF) ZW ZV.aK ZV.lay Tryz.f99.ntmps ZV.rs [.tmp 2] x=Out.ite (decide (List.length ([]:List ah)+List.length x.1.1≤bV)) (Out.ret (((([]:List ah)++x.1.1,()),()),((),()))) Out.fail:=by kernel_rfl
theorem aa5:ZV.Ok Tryz.prog:=by
 refine oj (kG eo pK []) (nq [] (fun K hK=>by cases hK) rfl) nn (An:=fun _=>none) (rtm:=[.tmp 2]) (tk:=some 0) (tid:=26) (te:=78) (l:=fun x=>x.1.1) (by kernel_rfl) (ka (by kernel_rfl)) (by kernel_rfl) (by kernel_rfl) (by decide) (by decide) (by decide)
  Po (by kernel_rfl) (by kernel_rfl) (by kernel_rfl) (by kernel_rfl) (by kernel_rfl) (by kernel_rfl) (by kernel_rfl) (fun x=>by kernel_rfl) (fun x=>ahC (by kernel_rfl)) (fun x y _ hy=> ?_) (fun x y _ hl hy=> ?_)
 . obtain ⟨⟨a,_⟩,_⟩:=x
   refine (congrArg Out.eval (aa4 _)).trans ?_;change (Out.get (dO a) fun y=>Out.ret (((y,()),()),((),()))).eval=some y at hy;unfold dO at hy;by_cases h:a.length≤bV
   . rw [kH h] at hy
     exact (ab (aaa (show 0+a.length≤bV from (ada _).symm ▸ h))).trans hy
   . rw [yK h] at hy;exact nomatch hy
 . obtain ⟨⟨a,_⟩,_⟩:=x
   obtain rfl:a=[]:=hl;exact (congrArg Out.eval (UN _)).trans hy
abbrev aa6:=(t20×Unit)×(Unit×Unit)
abbrev KX:=(List ag×Int×Int×Unit)×(List ag×Unit)
def qS:KX→Out (Round KX ((Unit)×(List ag×Unit)) Empty)
|((p0,p1,p2,_),p3,_)=>
 .ite (decide (p2<p1))
 (.ite (decide (0≤p2))
 (.get (nth p0 (Int.toNat p2)) fun y1=>
 .get (dO y1.2.1) fun y2=>
 .ite (decide (List.length p3+List.length ([(y1.1,y2,())]:List ag)≤bV))
 (.ret (.again ((p0,p1,(IntKind.i64.wrap (p2+1)),()),((p3++([(y1.1,y2,())]:List ag)),()))))
 .fail)
 .fail)
 (.ret (.out ((),(p3,()))))
def D2:t21×Unit→Out aa6
|(a0,_)=>
 .get (b5 qS bn ((a0.1,((List.length a0.1:Nat):Int),0,()),(([]:List ag),()))) fun y1=>
 .ret ((y1.2,()),((),()))
def Pp (x:t21×Unit):=(D2 x).eval
def aa7:Nat→Option aq:=fun n=>bU [(0,⟨⟨[.dead, .dead, .dead, .aP 64000000, .dead, .dead, .ro ck (some 0), .i .i64, .i .i64]++dd 14,[(64000000, .arr ck)]⟩,⟨[.dead, .dead, .dead, .aP 64000000]++dd 19,[(64000000, .arr ck)]⟩,none,false⟩)] n
def agm:bM:=cw 100 true [i21] [none] [i20] D2
theorem UO:agm.Ok Tryz.prog:=bA eo [] [] [sX] ⟨qT,trivial⟩ aa7 Tryz.f100 [.tmp 2] fun x=>by kernel_rfl
abbrev agn:=(t22×Unit)×(Unit×Unit)
abbrev Pq:=(List (List aw)×Int×Int×Unit)×(List (List aw)×Unit)
def wB:Pq→Out (Round Pq ((Unit)×(List (List aw)×Unit)) Empty)
|((p0,p1,p2,_),p3,_)=>
 .ite (decide (p2<p1))
 (.ite (decide (0≤p2))
 (.get (nth p0 (Int.toNat p2)) fun y1=>
 .get (dO y1) fun y2=>
 .ite (decide (List.length p3+List.length ([y2]:List (List aw))≤bV))
 (.ret (.again ((p0,p1,(IntKind.i64.wrap (p2+1)),()),((p3++([y2]:List (List aw))),()))))
 .fail)
 .fail)
 (.ret (.out ((),(p3,()))))
def KY:t23×Unit→Out agn
|(a0,_)=>
 .get (b5 wB bn ((a0.1,((List.length a0.1:Nat):Int),0,()),(([]:List (List aw)),()))) fun y1=>
 .ret (((y1.2.1,()),()),((),()))
def Pr (x:t23×Unit):=(KY x).eval
abbrev Ps:List (Nat×dT):=[(64000000, .arr (.sl b8))]
def ago:Nat→Option aq:=fun n=>bU [(0,⟨⟨[.dead, .dead, .dead, .aP 64000000, .dead, .dead, .ro (.sl b8) (some 0), .i .i64, .i .i64]++dd 10,Ps⟩,⟨[.dead, .dead, .dead, .aP 64000000]++dd 15,Ps⟩,none,false⟩)] n
def k98:bM:=cw 98 true [i23] [none] [i22] KY
theorem aa8:k98.Ok Tryz.prog:=bA eo [] [] [GD] ⟨UM,trivial⟩ ago Tryz.f98 [.tmp 2] fun x=>by kernel_rfl
def GG:bM:={ f:=140,lend:=true,aK:=[⟨false,false,[.ro I0]⟩],lay:=[none],rs:=[⟨false,false,[.own I0]⟩],F:=fun x=> .get (dO x.1.1) fun y=> .ret (((y,()),()),((),())) }
noncomputable def zL:Code:=js Tryz.f140
noncomputable def Pt:Code:=lf (lf zL)
noncomputable def Jd:Code:=eY (lf zL)
noncomputable def Pu:Code:=KW (lf Jd)
theorem NM:js Tryz.f140= .seq (eY zL) (.seq (.seq (.region 1 #[ZU (eY Jd) 0,ZU (eY Jd) 1] false) (.cond (.tmp 4) (.seq (.region 2 (D1 (eY Pu)) false) .ret) .skip)) Pt):=by kernel_rfl
theorem Pv (x:(List (Int×Int×Int×Int×(Int×Unit×Unit)×Unit×Unit×Int×Int×Unit)×Unit)×Unit):jN (GA aa9 Ui []) (fun _=>none) (eY zL) (.seq (.region 2 (D1 (eY Pu)) false) .ret) GG.aK GG.lay Tryz.f140.ntmps GG.rs [.tmp 2] x=Out.ret ((((([]:List ((Int×Int×Int×Int×(Int×Unit×Unit)×Unit×Unit×Int×Int×Unit)))),()),()),((),())):=by kernel_rfl
theorem UP (x:(List (Int×Int×Int×Int×(Int×Unit×Unit)×Unit×Unit×Int×Int×Unit)×Unit)×Unit):jN (GA aa9 Ui []) (fun _=>none) (eY zL) Pt GG.aK GG.lay Tryz.f140.ntmps GG.rs [.tmp 2] x=Out.ite (decide (List.length ([]:List ((Int×Int×Int×Int×(Int×Unit×Unit)×Unit×Unit×Int×Int×Unit)))+List.length x.1.1≤bV)) (Out.ret (((([]:List ((Int×Int×Int×Int×(Int×Unit×Unit)×Unit×Unit×Int×Int×Unit)))++x.1.1,()),()),((),()))) Out.fail:=by kernel_rfl
theorem UQ:GG.Ok Tryz.prog:=by
 refine oj (kG KZ pK []) (nq [] (fun K hK=>by cases hK) rfl) nn (An:=fun _=>none) (rtm:=[.tmp 2]) (tk:=some 0) (tid:=25) (te:=50) (l:=fun x=>x.1.1) (by kernel_rfl) (ka (by kernel_rfl)) (by kernel_rfl) (by kernel_rfl) (by decide) (by decide) (by decide)
  NM (by kernel_rfl) (by kernel_rfl) (by kernel_rfl) (by kernel_rfl) (by kernel_rfl) (by kernel_rfl) (by kernel_rfl) (fun x=>by kernel_rfl) (fun x=>ahC (by kernel_rfl)) (fun x y _ hy=> ?_) (fun x y _ hl hy=> ?_)
 . obtain ⟨⟨a,_⟩,_⟩:=x
   refine (congrArg Out.eval (UP _)).trans ?_;change (Out.get (dO a) fun y=>Out.ret (((y,()),()),((),()))).eval=some y at hy;unfold dO at hy;by_cases h:a.length≤bV
   . rw [kH h] at hy
     exact (ab (aaa (show 0+a.length≤bV from (ada _).symm ▸ h))).trans hy
   . rw [yK h] at hy;exact nomatch hy
 . obtain ⟨⟨a,_⟩,_⟩:=x
   obtain rfl:a=[]:=hl;exact (congrArg Out.eval (Pv _)).trans hy
abbrev aba:=(t10×Unit)×(b24×XI)
def D3:t24×t1×t12×Unit→Out aba
|(a0,a1,a2,_)=>
 .ite (decide (0≤a1.1∧a1.1<((List.length a0.2.2.2.1:Nat):Int)))
 (.ite ((a2.1==1))
 (.get (dO a2.2.2.2.2.1) fun y1=>
 .ite (!(aR a2.2.2.1 y1))
 (.ret (((false,()),()),(a0,(),(),())))
 (.get (nth a0.2.2.2.1 (Int.toNat a1.1)) fun y2=>
 .ret (((true,()),()),((a0.1,a0.2.1,a0.2.2.1,(List.set a0.2.2.2.1 (Int.toNat a1.1) (y2.1,(y2.2.1,(y2.2.2.1,(y2.2.2.2.1,((a2.2.2.1,y1,()),y2.2.2.2.2.2)))))),a0.2.2.2.2),(),(),()))))
 (.ite ((a2.1==2))
 (.get (nth a0.2.2.2.1 (Int.toNat a1.1)) fun y3=>
 .ite ((!(dC a2.2.2.1 (0:Int) (IntKind.i64.wrap (((List.length y3.2.2.2.2.2.1:Nat):Int) - (1:Int)))))==false)
 (.ite (!(b6 a2.2.2.2.1))
 (.ret (((false,()),()),((a0.1,a0.2.1,a0.2.2.1,(List.set a0.2.2.2.1 (Int.toNat a1.1) (y3.1,(y3.2.1,(y3.2.2.1,(y3.2.2.2.1,(y3.2.2.2.2.1,(y3.2.2.2.2.2.1,y3.2.2.2.2.2.2))))))),a0.2.2.2.2),(),(),())))
 (.get (nth (List.set a0.2.2.2.1 (Int.toNat a1.1) (y3.1,(y3.2.1,(y3.2.2.1,(y3.2.2.2.1,(y3.2.2.2.2.1,(y3.2.2.2.2.2.1,y3.2.2.2.2.2.2))))))) (Int.toNat a1.1)) fun y4=>
 .ite (decide (0≤a2.2.2.1∧a2.2.2.1<((List.length y4.2.2.2.2.2.1:Nat):Int)))
 (.get (nth y4.2.2.2.2.2.1 (Int.toNat a2.2.2.1)) fun _=>
 .ret (((true,()),()),((a0.1,a0.2.1,a0.2.2.1,(List.set (List.set a0.2.2.2.1 (Int.toNat a1.1) (y3.1,(y3.2.1,(y3.2.2.1,(y3.2.2.2.1,(y3.2.2.2.2.1,(y3.2.2.2.2.2.1,y3.2.2.2.2.2.2))))))) (Int.toNat a1.1) (y4.1,(y4.2.1,(y4.2.2.1,(y4.2.2.2.1,(y4.2.2.2.2.1,((List.set y4.2.2.2.2.2.1 (Int.toNat a2.2.2.1) a2.2.2.2.1),y4.2.2.2.2.2.2))))))),a0.2.2.2.2),(),(),())))
 .fail))
 (.ret (((false,()),()),((a0.1,a0.2.1,a0.2.2.1,(List.set a0.2.2.2.1 (Int.toNat a1.1) (y3.1,(y3.2.1,(y3.2.2.1,(y3.2.2.2.1,(y3.2.2.2.2.1,(y3.2.2.2.2.2.1,y3.2.2.2.2.2.2))))))),a0.2.2.2.2),(),(),()))))
 (.ite ((a2.1==3))
 (.get (nth a0.2.2.2.1 (Int.toNat a1.1)) fun y6=>
 .get (nth (List.set a0.2.2.2.1 (Int.toNat a1.1) (y6.1,(y6.2.1,(a2.2.2.1,y6.2.2.2)))) (Int.toNat a1.1)) fun y7=>
 .ret (((true,()),()),((a0.1,a0.2.1,a0.2.2.1,(List.set (List.set a0.2.2.2.1 (Int.toNat a1.1) (y6.1,(y6.2.1,(a2.2.2.1,y6.2.2.2)))) (Int.toNat a1.1) (y7.1,(y7.2.1,(y7.2.2.1,(y7.2.2.2.1,(y7.2.2.2.2.1,(y7.2.2.2.2.2.1,(y7.2.2.2.2.2.2.1,(a2.2.2.2.1,y7.2.2.2.2.2.2.2.2))))))))),a0.2.2.2.2),(),(),())))
 (.ite ((a2.1==25))
 (.get (nth a0.2.2.2.1 (Int.toNat a1.1)) fun y8=>
 .ret (((true,()),()),((a0.1,a0.2.1,a0.2.2.1,(List.set a0.2.2.2.1 (Int.toNat a1.1) (y8.1,(a2.2.2.1,y8.2.2))),a0.2.2.2.2),(),(),())))
 (.ite ((a2.1==26))
 (.get (nth a0.2.2.2.1 (Int.toNat a1.1)) fun y9=>
 .ret (((true,()),()),((a0.1,a0.2.1,a0.2.2.1,(List.set a0.2.2.2.1 (Int.toNat a1.1) (y9.1,(y9.2.1,(y9.2.2.1,(y9.2.2.2.1,(y9.2.2.2.2.1,(y9.2.2.2.2.2.1,(y9.2.2.2.2.2.2.1,(y9.2.2.2.2.2.2.2.1,(a2.2.2.1,y9.2.2.2.2.2.2.2.2.2)))))))))),a0.2.2.2.2),(),(),())))
 (.ite ((a2.1==5))
 (.get (nth a0.2.2.2.1 (Int.toNat a1.1)) fun Gm=>
 .ret (((true,()),()),((a0.1,a0.2.1,a0.2.2.1,(List.set a0.2.2.2.1 (Int.toNat a1.1) (Gm.1,(Gm.2.1,(Gm.2.2.1,(Gm.2.2.2.1,(Gm.2.2.2.2.1,(([]:List Int),Gm.2.2.2.2.2.2))))))),a0.2.2.2.2),(),(),())))
 (.ite ((a2.1==6))
 .fail
 (.ite ((a2.1==7))
 (.get (nth a0.2.2.2.1 (Int.toNat a1.1)) fun wC=>
 .ite ((decide (((List.length wC.2.2.2.2.2.1:Nat):Int)≥(12:Int)))==false)
 .fail
 (.ret (((false,()),()),((a0.1,a0.2.1,a0.2.2.1,(List.set a0.2.2.2.1 (Int.toNat a1.1) (wC.1,(wC.2.1,(wC.2.2.1,(wC.2.2.2.1,(wC.2.2.2.2.1,(wC.2.2.2.2.2.1,wC.2.2.2.2.2.2))))))),a0.2.2.2.2),(),(),()))))
 (.ite ((a2.1==8))
 (.ite ((!(dC a2.2.2.1 (0:Int) (IntKind.i64.wrap (((List.length a0.2.2.1:Nat):Int) - (1:Int)))))==false)
 (.get (nth a0.2.2.2.1 (Int.toNat a1.1)) fun pL=>
 .ite (((((List.length pL.2.2.2.2.2.1:Nat):Int)==0))==true)
 .fail
 (.get (nth (List.set a0.2.2.2.1 (Int.toNat a1.1) (pL.1,(pL.2.1,(pL.2.2.1,(pL.2.2.2.1,(pL.2.2.2.2.1,(pL.2.2.2.2.2.1,pL.2.2.2.2.2.2))))))) (Int.toNat a1.1)) fun Je=>
 .ite (decide (0≤(4:Int)∧(4:Int)≤(4:Int)∧(4:Int)≤(bV:Int)))
 (.get (nth (List.set (List.set a0.2.2.2.1 (Int.toNat a1.1) (pL.1,(pL.2.1,(pL.2.2.1,(pL.2.2.2.1,(pL.2.2.2.2.1,(pL.2.2.2.2.2.1,pL.2.2.2.2.2.2))))))) (Int.toNat a1.1) (Je.1,(Je.2.1,(Je.2.2.1,(a2.2.2.1,Je.2.2.2.2))))) (Int.toNat a1.1)) fun O6=>
 .ret (((true,()),()),((a0.1,a0.2.1,a0.2.2.1,(List.set (List.set (List.set a0.2.2.2.1 (Int.toNat a1.1) (pL.1,(pL.2.1,(pL.2.2.1,(pL.2.2.2.1,(pL.2.2.2.2.1,(pL.2.2.2.2.2.1,pL.2.2.2.2.2.2))))))) (Int.toNat a1.1) (Je.1,(Je.2.1,(Je.2.2.1,(a2.2.2.1,Je.2.2.2.2))))) (Int.toNat a1.1) (O6.1,(O6.2.1,(O6.2.2.1,(O6.2.2.2.1,(O6.2.2.2.2.1,((List.replicate (Int.toNat (4:Int)) (0:Int)),O6.2.2.2.2.2.2))))))),a0.2.2.2.2),(),(),())))
 .fail))
 (.ret (((false,()),()),(a0,(),(),()))))
 (.ite ((a2.1==9))
 (.get (nth a0.2.2.2.1 (Int.toNat a1.1)) fun tx=>
 .ite (!(dC a2.2.2.1 (0:Int) (IntKind.i64.wrap (((List.length tx.2.2.2.2.2.2.1:Nat):Int) - (1:Int)))))
 (.ret (((false,()),()),((a0.1,a0.2.1,a0.2.2.1,(List.set a0.2.2.2.1 (Int.toNat a1.1) (tx.1,(tx.2.1,(tx.2.2.1,(tx.2.2.2.1,(tx.2.2.2.2.1,(tx.2.2.2.2.2.1,(tx.2.2.2.2.2.2.1,tx.2.2.2.2.2.2.2)))))))),a0.2.2.2.2),(),(),())))
 (.get (nth (List.set a0.2.2.2.1 (Int.toNat a1.1) (tx.1,(tx.2.1,(tx.2.2.1,(tx.2.2.2.1,(tx.2.2.2.2.1,(tx.2.2.2.2.2.1,(tx.2.2.2.2.2.2.1,tx.2.2.2.2.2.2.2)))))))) (Int.toNat a1.1)) fun Cy=>
 .ite (decide (0≤a2.2.2.1∧a2.2.2.1<((List.length Cy.2.2.2.2.2.2.1:Nat):Int)))
 (.get (nth Cy.2.2.2.2.2.2.1 (Int.toNat a2.2.2.1)) fun _=>
 .ret (((true,()),()),((a0.1,a0.2.1,a0.2.2.1,(List.set (List.set a0.2.2.2.1 (Int.toNat a1.1) (tx.1,(tx.2.1,(tx.2.2.1,(tx.2.2.2.1,(tx.2.2.2.2.1,(tx.2.2.2.2.2.1,(tx.2.2.2.2.2.2.1,tx.2.2.2.2.2.2.2)))))))) (Int.toNat a1.1) (Cy.1,(Cy.2.1,(Cy.2.2.1,(Cy.2.2.2.1,(Cy.2.2.2.2.1,(Cy.2.2.2.2.2.1,((List.set Cy.2.2.2.2.2.2.1 (Int.toNat a2.2.2.1) a2.2.2.2.1),Cy.2.2.2.2.2.2.2)))))))),a0.2.2.2.2),(),(),())))
 .fail))
 (.ret (((true,()),()),(a0,(),(),())))))))))))))
 .fail
def Jf (x:t24×t1×t12×Unit):=(D3 x).eval
def agp:bM:=cw 109 false [i24,i1,i12] [none,none,none] [i10] D3
theorem UR:agp.Ok Tryz.prog:=bA jM [1029] [(1029,1)] [sX,D4,kQ,wD] ⟨qT,K1,ko,yL,trivial⟩ (fun _=>none) Tryz.f109 [.tmp 6] fun x=>by kernel_rfl
abbrev abb:=(t10×Unit)×(b24×Unit×Unit)
def pM:t24×t12×Unit→Out abb
|(a0,a1,_)=>
 .ite ((a1.1==21))
 (.ite (decide (((List.length a0.2.2.2.2.2.2.2.1:Nat):Int)≥(6:Int)))
 (.ret (((false,()),()),(a0,(),())))
 (.ite (decide (List.length a0.2.2.2.2.2.2.2.1+List.length ([a1.2.1]:List Int)≤bV))
 (.ret (((true,()),()),((a0.1,a0.2.1,a0.2.2.1,a0.2.2.2.1,a0.2.2.2.2.1,a0.2.2.2.2.2.1,a0.2.2.2.2.2.2.1,(a0.2.2.2.2.2.2.2.1++([a1.2.1]:List Int)),a0.2.2.2.2.2.2.2.2),(),())))
 .fail))
 (.ite ((a1.1==22))
 (.ite (decide ((gS a0.2.2.2.2.2.2.2.1 a1.2.1)<0))
 (.ret (((false,()),()),(a0,(),())))
 (.get (oh a0.2.2.2.2.2.2.2.1 (gS a0.2.2.2.2.2.2.2.1 a1.2.1) (IntKind.i64.wrap ((gS a0.2.2.2.2.2.2.2.1 a1.2.1)+1))) fun y1=>
 .ret (((true,()),()),((a0.1,a0.2.1,a0.2.2.1,a0.2.2.2.1,a0.2.2.2.2.1,a0.2.2.2.2.2.1,a0.2.2.2.2.2.2.1,y1,a0.2.2.2.2.2.2.2.2),(),()))))
 (.ite ((a1.1==23))
 (.ite (decide (((List.length a0.2.2.2.2.2.2.2.2.1:Nat):Int)≥(60:Int)))
 (.ret (((false,()),()),(a0,(),())))
 (.ite (decide (List.length a0.2.2.2.2.2.2.2.2.1+List.length ([a1.2.1]:List Int)≤bV))
 (.ret (((true,()),()),((a0.1,a0.2.1,a0.2.2.1,a0.2.2.2.1,a0.2.2.2.2.1,a0.2.2.2.2.2.1,a0.2.2.2.2.2.2.1,a0.2.2.2.2.2.2.2.1,(a0.2.2.2.2.2.2.2.2.1++([a1.2.1]:List Int)),()),(),())))
 .fail))
 (.ite ((a1.1==24))
 (.ite (decide (a0.2.1≥(1000000:Int)))
 (.ret (((false,()),()),(a0,(),())))
 (.ret (((true,()),()),((a0.1,(IntKind.i64.wrap (a0.2.1+1)),a0.2.2),(),()))))
 (.ret (((true,()),()),(a0,(),()))))))
def tz (x:t24×t12×Unit):=(pM x).eval
def agq:bM:=cw 107 false [i24,i12] [none,none] [i10] pM
theorem US:agq.Ok Tryz.prog:=bA jM [] [] [D5,agl] ⟨K2,UJ,trivial⟩ (fun _=>none) Tryz.f107 [.tmp 4] fun x=>by kernel_rfl
abbrev ZY:=(t10×Unit)×(b24×Unit×Unit)
def mX (v0:Int) (v1:Int) (v2:Int) (v3:Int) (v4:Int) (v5:Int) (v6:List Int) (v7:List (List aw)) (v8:List af) (v9:List ah) (v10:List ag) (v11:List ag) (v12:List Int) (I2:List Int):Out (ZY):=
 .ite ((decide ((ak v8 v3)≥(0:Int)))==true)
 (.get (Jf ((v0,v1,v7,v8,v9,v10,v11,v12,I2,()),((ak v8 v3),()),(v2,v3,v4,v5,v6,()),())) fun ((lp,_),(O7,_))=>
 .ret ((lp,()),(O7,(),())))
 (.ret (((false,()),()),((v0,v1,v7,v8,v9,v10,v11,v12,I2,()),(),())))
def tc:t24×t12×Unit→Out ZY
|(a0,a1,_)=>
 .ite ((a1.1==4))
 .fail
 (.ite ((a1.1==10))
 .fail
 (.ite ((a1.1==11))
 .fail
 (.ite ((a1.1==12))
 .fail
 (.ite ((a1.1==13))
 .fail
 (.ite ((a1.1==14))
 .fail
 (.ite ((a1.1==15))
 .fail
 (.ite ((a1.1==16))
 .fail
 (.ite ((a1.1==17))
 .fail
 (.ite ((a1.1==18))
 .fail
 (.ite ((a1.1==19))
 .fail
 (.ite ((a1.1==20))
 .fail
 (.ite ((a1.1==21))
 (.get (tz (a0,a1,())) fun ((b9,_),(pH,_))=>
 .ret ((b9,()),(pH,(),())))
 (.ite ((a1.1==22))
 (.get (tz (a0,a1,())) fun ((dF,_),(I3,_))=>
 .ret ((dF,()),(I3,(),())))
 (.ite ((a1.1==23))
 (.get (tz (a0,a1,())) fun ((gA,_),(y4A,_))=>
 .ret ((gA,()),(y4A,(),())))
 (.ite ((a1.1==24))
 (.get (tz (a0,a1,())) fun ((ja,_),(y5A,_))=>
 .ret ((ja,()),(y5A,(),())))
 (.ite ((a1.1==1))
 (mX a0.1 a0.2.1 a1.1 a1.2.1 a1.2.2.1 a1.2.2.2.1 a1.2.2.2.2.1 a0.2.2.1 a0.2.2.2.1 a0.2.2.2.2.1 a0.2.2.2.2.2.1 a0.2.2.2.2.2.2.1 a0.2.2.2.2.2.2.2.1 a0.2.2.2.2.2.2.2.2.1)
 (.ite ((a1.1==2))
 (mX a0.1 a0.2.1 a1.1 a1.2.1 a1.2.2.1 a1.2.2.2.1 a1.2.2.2.2.1 a0.2.2.1 a0.2.2.2.1 a0.2.2.2.2.1 a0.2.2.2.2.2.1 a0.2.2.2.2.2.2.1 a0.2.2.2.2.2.2.2.1 a0.2.2.2.2.2.2.2.2.1)
 (.ite ((a1.1==3))
 (mX a0.1 a0.2.1 a1.1 a1.2.1 a1.2.2.1 a1.2.2.2.1 a1.2.2.2.2.1 a0.2.2.1 a0.2.2.2.1 a0.2.2.2.2.1 a0.2.2.2.2.2.1 a0.2.2.2.2.2.2.1 a0.2.2.2.2.2.2.2.1 a0.2.2.2.2.2.2.2.2.1)
 (.ite ((a1.1==5))
 (mX a0.1 a0.2.1 a1.1 a1.2.1 a1.2.2.1 a1.2.2.2.1 a1.2.2.2.2.1 a0.2.2.1 a0.2.2.2.1 a0.2.2.2.2.1 a0.2.2.2.2.2.1 a0.2.2.2.2.2.2.1 a0.2.2.2.2.2.2.2.1 a0.2.2.2.2.2.2.2.2.1)
 (.ite ((a1.1==6))
 (mX a0.1 a0.2.1 a1.1 a1.2.1 a1.2.2.1 a1.2.2.2.1 a1.2.2.2.2.1 a0.2.2.1 a0.2.2.2.1 a0.2.2.2.2.1 a0.2.2.2.2.2.1 a0.2.2.2.2.2.2.1 a0.2.2.2.2.2.2.2.1 a0.2.2.2.2.2.2.2.2.1)
 (.ite ((a1.1==7))
 (mX a0.1 a0.2.1 a1.1 a1.2.1 a1.2.2.1 a1.2.2.2.1 a1.2.2.2.2.1 a0.2.2.1 a0.2.2.2.1 a0.2.2.2.2.1 a0.2.2.2.2.2.1 a0.2.2.2.2.2.2.1 a0.2.2.2.2.2.2.2.1 a0.2.2.2.2.2.2.2.2.1)
 (.ite ((a1.1==8))
 (mX a0.1 a0.2.1 a1.1 a1.2.1 a1.2.2.1 a1.2.2.2.1 a1.2.2.2.2.1 a0.2.2.1 a0.2.2.2.1 a0.2.2.2.2.1 a0.2.2.2.2.2.1 a0.2.2.2.2.2.2.1 a0.2.2.2.2.2.2.2.1 a0.2.2.2.2.2.2.2.2.1)
 (.ite ((a1.1==9))
 (mX a0.1 a0.2.1 a1.1 a1.2.1 a1.2.2.1 a1.2.2.2.1 a1.2.2.2.2.1 a0.2.2.1 a0.2.2.2.1 a0.2.2.2.2.1 a0.2.2.2.2.2.1 a0.2.2.2.2.2.2.1 a0.2.2.2.2.2.2.2.1 a0.2.2.2.2.2.2.2.2.1)
 (.ite ((a1.1==25))
 (mX a0.1 a0.2.1 a1.1 a1.2.1 a1.2.2.1 a1.2.2.2.1 a1.2.2.2.2.1 a0.2.2.1 a0.2.2.2.1 a0.2.2.2.2.1 a0.2.2.2.2.2.1 a0.2.2.2.2.2.2.1 a0.2.2.2.2.2.2.2.1 a0.2.2.2.2.2.2.2.2.1)
 (.ite ((a1.1==26))
 (.ite ((decide ((ak a0.2.2.2.1 a1.2.1)≥(0:Int)))==true)
 (.get (Jf (a0,((ak a0.2.2.2.1 a1.2.1),()),a1,())) fun ((kR,_),(y7A,_))=>
 .ret ((kR,()),(y7A,(),())))
 (.ret (((false,()),()),(a0,(),()))))
 (.ret (((false,()),()),(a0,(),()))))))))))))))))))))))))))))
def mB (x:t24×t12×Unit):=(tc x).eval
def k37:bM:=cw 37 false [i24,i12] [none,none] [i10] tc
theorem Pw:k37.Ok Tryz.prog:=bA jM [] [] [agq,D6,agp] ⟨US,K3,UR,trivial⟩ (fun _=>none) Tryz.f37 [.tmp 4] fun x=>by kernel_rfl
abbrev abc:=(t26×Unit)×(Unit×Unit)
abbrev K4:=XS×(bw×(Int×Int×Unit)×(Int×Int×Unit)×List (List aw)×List af×List ah×List ag×List ag×List Int×List Int×Cz)
def qU:K4→Out (Round K4 ((Unit)×(bw×(Int×Int×Unit)×(Int×Int×Unit)×List (List aw)×List af×List ah×List ag×List ag×List Int×List Int×Cz)) Empty)
|((p0,p1,p2,_),(p3,p4,p5,p6,p7,p8,p9,cz,cE,_),(dp,dh,_),(du,cP,_),dG,dX,ep,eZ,fR,fZ,jm,lh,od,pN,D7,BM,Uo,Up,_)=>
 .ite (decide (p2<p1))
 (.ite (decide (0≤p2))
 (.get (nth p0 (Int.toNat p2)) fun y1=>
 .get (et y1.1 y1.2.1 y1.2.2.1 y1.2.2.2.1 y1.2.2.2.2.1.1 y1.2.2.2.2.1.2.1 y1.2.2.2.2.2.1 y1.2.2.2.2.2.2.1 y1.2.2.2.2.2.2.2.1 y1.2.2.2.2.2.2.2.2.1) fun y2=>
 .ite (decide (List.length od+List.length ([(y2.1,y2.2.1,y2.2.2.1,y2.2.2.2.1,(y2.2.2.2.2.1,y2.2.2.2.2.2.1,()),y2.2.2.2.2.2.2.1,y2.2.2.2.2.2.2.2.1,y2.2.2.2.2.2.2.2.2.1,y2.2.2.2.2.2.2.2.2.2,())]:List af)≤bV))
 (.ret (.again ((p0,p1,(IntKind.i64.wrap (p2+1)),()),((p3,p4,p5,p6,p7,p8,p9,cz,cE,()),(dp,dh,()),(du,cP,()),dG,dX,ep,eZ,fR,fZ,jm,lh,(od++([(y2.1,y2.2.1,y2.2.2.1,y2.2.2.2.1,(y2.2.2.2.2.1,y2.2.2.2.2.2.1,()),y2.2.2.2.2.2.2.1,y2.2.2.2.2.2.2.2.1,y2.2.2.2.2.2.2.2.2.1,y2.2.2.2.2.2.2.2.2.2,())]:List af)),pN,D7,BM,Uo,Up,()))))
 .fail)
 .fail)
 (.ret (.out ((),((p3,p4,p5,p6,p7,p8,p9,cz,cE,()),(dp,dh,()),(du,cP,()),dG,dX,ep,eZ,fR,fZ,jm,lh,od,pN,D7,BM,Uo,Up,()))))
abbrev K5:=(List ag×Int×Int×Unit)×((Int×Int×Unit)×(Int×Int×Unit)×List (List aw)×List af×List ah×List ag×List ag×List Int×List Int×Cz)
def qV:K5→Out (Round K5 ((Unit)×((Int×Int×Unit)×(Int×Int×Unit)×List (List aw)×List af×List ah×List ag×List ag×List Int×List Int×Cz)) Empty)
|((p0,p1,p2,_),(p3,p4,_),(p5,p6,_),p7,p8,p9,cz,cE,dp,dh,du,cP,dG,dX,ep,eZ,fR,_)=>
 .ite (decide (p2<p1))
 (.ite (decide (0≤p2))
 (.get (nth p0 (Int.toNat p2)) fun y1=>
 .get (dO y1.2.1) fun y2=>
 .ite (decide (List.length dX+List.length ([(y1.1,y2,())]:List ag)≤bV))
 (.ret (.again ((p0,p1,(IntKind.i64.wrap (p2+1)),()),((p3,p4,()),(p5,p6,()),p7,p8,p9,cz,cE,dp,dh,du,cP,dG,(dX++([(y1.1,y2,())]:List ag)),ep,eZ,fR,()))))
 .fail)
 .fail)
 (.ret (.out ((),((p3,p4,()),(p5,p6,()),p7,p8,p9,cz,cE,dp,dh,du,cP,dG,dX,ep,eZ,fR,()))))
def D8:t27×Unit→Out abc
|(a0,_)=>
 .get (Pr ((a0.2.2.1,()),())) fun ((eu,_),_)=>
 .get (dO a0.2.2.2.2.1) fun y2=>
 .get (Pp ((a0.2.2.2.2.2.2.1,()),())) fun ((dF,_),_)=>
 .get (dO a0.2.2.2.2.2.2.2.1) fun y4=>
 .get (dO a0.2.2.2.2.2.2.2.2.1) fun y5=>
 .get (b5 qU bn ((a0.2.2.2.1,((List.length a0.2.2.2.1:Nat):Int),0,()),((a0.1,a0.2.1,a0.2.2.1,a0.2.2.2.1,a0.2.2.2.2.1,a0.2.2.2.2.2.1,a0.2.2.2.2.2.2.1,a0.2.2.2.2.2.2.2.1,a0.2.2.2.2.2.2.2.2.1,()),(0,0,()),(a0.1,a0.2.1,()),([]:List (List aw)),([]:List af),([]:List ah),([]:List ag),([]:List ag),([]:List Int),([]:List Int),eu.1,([]:List af),y2,([]:List ag),dF.1,y4,y5,()))) fun (_,(_,_,_,_,_,BW,_),(abd,abe,_),(abf,abg,_),abh,abi,abj,abk,abl,abm,abn,akh,aki,akj,akk,akl,akm,akn,_)=>
 .get (b5 qV bn ((BW,((List.length BW:Nat):Int),0,()),((abd,abe,()),(abf,abg,()),abh,abi,abj,abk,abl,abm,abn,akh,aki,akj,akk,akl,akm,akn,()))) fun (_,_,(abo,abp,_),_,_,_,_,_,_,_,abq,abr,abt,abu,abv,abw,ako,_)=>
 .ret (((abo,abp,abq,abr,abt,abu,abv,abw,ako,()),()),((),()))
def D9 (x:t27×Unit):=(D8 x).eval
abbrev K6:List (Nat×dT):=[(64000000, .var [.i .i64, .i .i64, .ro (.sl b8) (some 0), .ro eM (some 1), .ro cH (some 2), .ro ck (some 3), .ro ck (some 4), .ro br (some 5), .ro br (some 6)]),(64000001, .var [.i .i64, .i .i64, .aP 64000003, .aP 64000004, .aP 64000005, .aP 64000006, .aP 64000007, .aP 64000008, .aP 64000009]),(64000002, .var [.i .i64, .i .i64, .aP 64000010, .aP 64000011, .aP 64000012, .aP 64000013, .aP 64000014, .aP 64000015, .aP 64000016]),(64000003, .arr (.sl b8)),(64000004, .arr eM),(64000005, .arr cH),(64000006, .arr ck),(64000007, .arr ck),(64000008, .arr br),(64000009, .arr br),(64000010, .arr (.sl b8)),(64000011, .arr eM),(64000012, .arr cH),(64000013, .arr ck),(64000014, .arr ck),(64000015, .arr br),(64000016, .arr br)]
abbrev yM:List (Nat×dT):=[(64000000, .var [.i .i64, .i .i64, .aP 64000002, .aP 64000003, .aP 64000004, .aP 64000005, .aP 64000006, .aP 64000007, .aP 64000008]),(64000001, .var [.i .i64, .i .i64, .aP 64000009, .aP 64000010, .aP 64000011, .aP 64000012, .aP 64000013, .aP 64000014, .aP 64000015]),(64000002, .arr (.sl b8)),(64000003, .arr eM),(64000004, .arr cH),(64000005, .arr ck),(64000006, .arr ck),(64000007, .arr br),(64000008, .arr br),(64000009, .arr (.sl b8)),(64000010, .arr eM),(64000011, .arr cH),(64000012, .arr ck),(64000013, .arr ck),(64000014, .arr br),(64000015, .arr br)]
def abx:Nat→Option aq:=fun n=>bU [(0,⟨⟨[.dead, .vptr 64000000 0, .vptr 64000001 0, .vptr 64000002 0]++dd 25++[.ro eM (some 1), .i .i64, .i .i64]++dd 31,K6⟩,⟨[.dead, .vptr 64000000 0, .vptr 64000001 0, .vptr 64000002 0]++dd 59,K6⟩,none,false⟩),(2,⟨⟨[.dead, .dead, .vptr 64000000 0, .vptr 64000001 0]++dd 40++[.ro ck (some 3), .i .i64, .i .i64]++dd 16,yM⟩,⟨[.dead, .dead, .vptr 64000000 0, .vptr 64000001 0]++dd 59,yM⟩,none,false⟩)] n
def UU:bM:=cw 36 false [i27] [none] [i26] D8
theorem Ea:UU.Ok Tryz.prog:=bA jM [1284] [(1284,32)] [k98,ZV,agm,sX,Jg] ⟨aa8,aa5,UO,qT,UW,trivial⟩ abx Tryz.f36 [.cell 2 31] fun x=>by kernel_rfl
abbrev agr:=(t26×t10×Unit)×XI
abbrev Px:=(Bool×List ((Int×Int×Int×Int×List Int×Unit))×Int×Int×Unit)×((Int×Int×Unit)×(Int×Int×Unit)×List (List aw)×List af×List ah×List ag×List ag×List Int×List Int×Cz)
def wE:Px→Out (Round Px ((Bool×Unit)×((Int×Int×Unit)×(Int×Int×Unit)×List (List aw)×List af×List ah×List ag×List ag×List Int×List Int×Cz)) Empty)
|((p0,p1,p2,p3,_),(p4,p5,_),(p6,p7,_),p8,p9,cz,cE,dp,dh,du,cP,dG,dX,ep,eZ,fR,fZ,_)=>
 .ite (decide (p3<p2))
 (.ite (decide (0≤p3))
 (.get (nth p1 (Int.toNat p3)) fun y1=>
 .get (mB ((p6,p7,cP,dG,dX,ep,eZ,fR,fZ,()),y1,())) fun ((b9,_),(pH,_))=>
 .ite (!b9.1)
 (.ret (.again ((false,p1,p2,(IntKind.i64.wrap (p3+1)),()),((p4,p5,()),(pH.1,pH.2.1,()),p8,p9,cz,cE,dp,dh,du,pH.2.2.1,pH.2.2.2.1,pH.2.2.2.2.1,pH.2.2.2.2.2.1,pH.2.2.2.2.2.2.1,pH.2.2.2.2.2.2.2.1,pH.2.2.2.2.2.2.2.2.1,()))))
 (.ret (.again ((p0,p1,p2,(IntKind.i64.wrap (p3+1)),()),((p4,p5,()),(pH.1,pH.2.1,()),p8,p9,cz,cE,dp,dh,du,pH.2.2.1,pH.2.2.2.1,pH.2.2.2.2.1,pH.2.2.2.2.2.1,pH.2.2.2.2.2.2.1,pH.2.2.2.2.2.2.2.1,pH.2.2.2.2.2.2.2.2.1,())))))
 .fail)
 (.ret (.out ((p0,()),((p4,p5,()),(p6,p7,()),p8,p9,cz,cE,dp,dh,du,cP,dG,dX,ep,eZ,fR,fZ,()))))
def K7:t27×t28×Unit→Out agr
|(a0,a1,_)=>
 .get (D9 (a0,())) fun ((eu,_),_)=>
 .get (b5 wE bn ((true,a1.1,((List.length a1.1:Nat):Int),0,()),((0,0,()),(eu.1,eu.2.1,()),([]:List (List aw)),([]:List af),([]:List ah),([]:List ag),([]:List ag),([]:List Int),([]:List Int),eu.2.2.1,eu.2.2.2.1,eu.2.2.2.2.1,eu.2.2.2.2.2.1,eu.2.2.2.2.2.2.1,eu.2.2.2.2.2.2.2.1,eu.2.2.2.2.2.2.2.2.1,()))) fun ((Jh,_),_,(Ji,Jj,_),_,_,_,_,_,_,_,Jk,Eb,Jl,Jm,Ec,Jn,Jo,_)=>
 .ret (((Ji,Jj,Jk,Eb,Jl,Jm,Ec,Jn,Jo,()),(Jh,()),()),((),(),()))
def Py (x:t27×t28×Unit):=(K7 x).eval
def ags:Nat→Option aq:=fun n=>bU [(0,⟨⟨dd 4++[.vptr 64000000 0, .dead, .vptr 64000001 0, .b]++dd 4++[.ro ld (some 7), .i .i64, .i .i64]++dd 9,yM⟩,⟨dd 4++[.vptr 64000000 0, .dead, .vptr 64000001 0, .b]++dd 16,yM⟩,none,false⟩)] n
def k13:bM:=cw 13 false [i27,i28] [none,none] [i26,i10] K7
theorem Pz:k13.Ok Tryz.prog:=bA jM [] [] [UU,k37] ⟨Ea,Pw,trivial⟩ ags Tryz.f13 [.cell 4 31, .tmp 5] fun x=>by kernel_rfl
abbrev agt:=(Unit)×(b29×Unit×Unit)
def K8:t29×t12×Unit→Out agt
|(a0,a1,_)=>
 .ite (decide (List.length a0.2.2.2.2.2.2.2.2.2.1+List.length ([a1]:List ((Int×Int×Int×Int×List Int×Unit)))≤bV))
 (.get (mB ((a0.1,a0.2.1,a0.2.2.1,a0.2.2.2.1,a0.2.2.2.2.1,a0.2.2.2.2.2.1,a0.2.2.2.2.2.2.1,a0.2.2.2.2.2.2.2.1,a0.2.2.2.2.2.2.2.2.1,()),a1,())) fun (_,(BN,_))=>
 .ret ((),((BN.1,BN.2.1,BN.2.2.1,BN.2.2.2.1,BN.2.2.2.2.1,BN.2.2.2.2.2.1,BN.2.2.2.2.2.2.1,BN.2.2.2.2.2.2.2.1,BN.2.2.2.2.2.2.2.2.1,(a0.2.2.2.2.2.2.2.2.2.1++([a1]:List ((Int×Int×Int×Int×List Int×Unit)))),()),(),())))
 .fail
def CA (x:t29×t12×Unit):=(K8 x).eval
def k61:bM:=cw 61 false [i29,i12] [none,none] [] K8
theorem Jp:k61.Ok Tryz.prog:=bA jM [] [] [k37] ⟨Pw,trivial⟩ (fun _=>none) Tryz.f61 [] fun x=>by kernel_rfl
abbrev aby:=(Unit)×(b29×Unit×XI)
def Ed:t29×t1×t1×t1×Unit→Out aby
|(a0,a1,a2,a3,_)=>
 .get (CA (a0,(3,a1.1,a2.1,a3.1,([]:List Int),()),())) fun (_,(BN,_))=>
 .ret ((),(BN,(),(),(),()))
def PA (x:t29×t1×t1×t1×Unit):=(Ed x).eval
def agu:bM:=cw 148 false [i29,i1,i1,i1] [none,none,none,none] [] Ed
theorem UX:agu.Ok Tryz.prog:=bA jM [] [] [k61] ⟨Jp,trivial⟩ (fun _=>none) Tryz.f148 [] fun x=>by kernel_rfl
abbrev abz:=(Unit)×(b29×Unit×Unit)
def Ee:t29×t1×Unit→Out abz
|(a0,a1,_)=>
 .get (PA (a0,a1,(1,()),(0,()),())) fun (_,(BN,_))=>
 .get (CA (BN,(21,a1.1,0,0,([]:List Int),()),())) fun (_,(pH,_))=>
 .ret ((),(pH,(),()))
def PB (x:t29×t1×Unit):=(Ee x).eval
def agv:bM:=cw 141 false [i29,i1] [none,none] [] Ee
theorem UY:agv.Ok Tryz.prog:=bA jM [] [] [agu,k61] ⟨UX,Jp,trivial⟩ (fun _=>none) Tryz.f141 [] fun x=>by kernel_rfl
abbrev agw:=(t30×Unit)×(Unit×Unit)
def K9:t27×Unit→Out agw
|(a0,_)=>
 .get (kr a0.1 a0.2.1 a0.2.2.1 a0.2.2.2.1 a0.2.2.2.2.1 a0.2.2.2.2.2.1 a0.2.2.2.2.2.2.1 a0.2.2.2.2.2.2.2.1 a0.2.2.2.2.2.2.2.2.1) fun y1=>
 .ite ((!y1)==false)
 (.ite ((((List.length a0.2.2.2.2.2.2.2.1:Nat):Int)==0))
 (.ret (((([]:List ((Int×Int×Int×Int×List Int×Unit))),()),()),((),())))
 (.get (D9 (a0,())) fun _=>
 .ite (decide (0≤(0:Int)))
 (.get (nth a0.2.2.2.2.2.2.2.1 (Int.toNat (0:Int))) fun _=>
 .fail)
 .fail))
 (.ret (((([]:List ((Int×Int×Int×Int×List Int×Unit))),()),()),((),())))
def La (x:t27×Unit):=(K9 x).eval
def k25:bM:=cw 25 false [i27] [none] [i30] K9
theorem PC:k25.Ok Tryz.prog:=bA jM [] [] [PD,UU] ⟨zM,Ea,trivial⟩ (fun _=>none) Tryz.f25 [.tmp 2] fun x=>by kernel_rfl
abbrev ZZ:=(t30×Unit)×(Unit×Unit)
abbrev PE:=(Int×Int×Unit)×((Int×Int×Unit)×List ((Int×Int×Int×Int×(Int×Unit×Unit)×Unit×Unit×Int×Int×Unit))×List (List aw)×List af×List ah×List ag×List ag×List Int×List Int×List ((Int×Int×Int×Int×List Int×Unit))×Unit)
def wF:PE→Out (Round PE ((Unit)×((Int×Int×Unit)×List (List aw)×List af×List ah×List ag×List ag×List Int×List Int×List ((Int×Int×Int×Int×List Int×Unit))×Unit)) Empty)
|((p0,p1,_),(p2,p3,_),p4,p5,p6,p7,p8,p9,cz,cE,dp,_)=>
 .ite (decide (p1<p0))
 (.ite (decide (0≤p1∧p1<((List.length p4:Nat):Int)))
 (.get (nth p4 (Int.toNat p1)) fun y1=>
 .ite (((y1.2.2.1==2))==true)
 (.ite (decide (y1.2.2.2.2.2.2.2.1≤p3))
 (.get (PB ((p2,p3,p5,p6,p7,p8,p9,cz,cE,dp,()),(y1.1,()),())) fun (_,(pH,_))=>
 .ret (.again ((p0,(IntKind.i64.wrap (p1+1)),()),((pH.1,pH.2.1,()),p4,pH.2.2.1,pH.2.2.2.1,pH.2.2.2.2.1,pH.2.2.2.2.2.1,pH.2.2.2.2.2.2.1,pH.2.2.2.2.2.2.2.1,pH.2.2.2.2.2.2.2.2.1,pH.2.2.2.2.2.2.2.2.2.1,()))))
 (.ret (.again ((p0,(IntKind.i64.wrap (p1+1)),()),((p2,p3,()),p4,p5,p6,p7,p8,p9,cz,cE,dp,())))))
 (.ret (.again ((p0,(IntKind.i64.wrap (p1+1)),()),((p2,p3,()),p4,p5,p6,p7,p8,p9,cz,cE,dp,())))))
 .fail)
 (.ret (.out ((),((p2,p3,()),p5,p6,p7,p8,p9,cz,cE,dp,()))))
def Ef (v0:Int) (v1:Int) (v2:List (List aw)) (v3:List af) (v4:List ah) (v5:List ag) (v6:List ag) (v7:List Int) (v8:List Int) (v9:List (Int×Int×Int×Int×List Int×Unit)):Out (ZZ):=
 .get (dO (List.map (fun z:af=>(z.1,z.2.1,z.2.2.1,z.2.2.2.1,(z.2.2.2.2.1.1,(),()),(),(),z.2.2.2.2.2.2.2.1,z.2.2.2.2.2.2.2.2.1,())) v3)) fun y7=>
 .get (b5 wF bn ((((List.length y7:Nat):Int),0,()),((v0,v1,()),y7,v2,v3,v4,v5,v6,v7,v8,v9,()))) fun y8=>
 .ret (((y8.2.2.2.2.2.2.2.2.2.1,()),()),((),()))
def Lb:t27×Unit→Out ZZ
|(a0,_)=>
 .get (kr a0.1 a0.2.1 a0.2.2.1 a0.2.2.2.1 a0.2.2.2.2.1 a0.2.2.2.2.2.1 a0.2.2.2.2.2.2.1 a0.2.2.2.2.2.2.2.1 a0.2.2.2.2.2.2.2.2.1) fun y1=>
 .ite ((!y1)==false)
 (.ite ((a0.2.1==1000000))
 (.ret (((([]:List ((Int×Int×Int×Int×List Int×Unit))),()),()),((),())))
 (.get (D9 (a0,())) fun ((b9,_),_)=>
 .get (CA ((b9.1,b9.2.1,b9.2.2.1,b9.2.2.2.1,b9.2.2.2.2.1,b9.2.2.2.2.2.1,b9.2.2.2.2.2.2.1,b9.2.2.2.2.2.2.2.1,b9.2.2.2.2.2.2.2.2.1,([]:List ((Int×Int×Int×Int×List Int×Unit))),()),(24,0,0,0,([]:List Int),()),())) fun (_,(I3,_))=>
 .ite (decide (((List.length I3.2.2.2.2.2.2.2.1:Nat):Int)≥(2:Int)))
 (.ite (decide (0≤(0:Int)∧(0:Int)<((List.length I3.2.2.2.2.2.2.2.1:Nat):Int)))
 (.get (nth I3.2.2.2.2.2.2.2.1 (Int.toNat (0:Int))) fun y4=>
 .get (CA (I3,(22,y4,0,0,([]:List Int),()),())) fun (_,(y5A,_))=>
 .get (CA (y5A,(21,y4,0,0,([]:List Int),()),())) fun (_,(O7,_))=>
 Ef O7.1 O7.2.1 O7.2.2.1 O7.2.2.2.1 O7.2.2.2.2.1 O7.2.2.2.2.2.1 O7.2.2.2.2.2.2.1 O7.2.2.2.2.2.2.2.1 O7.2.2.2.2.2.2.2.2.1 O7.2.2.2.2.2.2.2.2.2.1)
 .fail)
 (Ef I3.1 I3.2.1 I3.2.2.1 I3.2.2.2.1 I3.2.2.2.2.1 I3.2.2.2.2.2.1 I3.2.2.2.2.2.2.1 I3.2.2.2.2.2.2.2.1 I3.2.2.2.2.2.2.2.2.1 I3.2.2.2.2.2.2.2.2.2.1)))
 (.ret (((([]:List ((Int×Int×Int×Int×List Int×Unit))),()),()),((),())))
def Z0 (x:t27×Unit):=(Lb x).eval
def agx:Nat→Option aq:=fun n=>bU [(0,⟨⟨[.dead, .dead, .dead, .vptr 64000000 0]++dd 45++[.aP 64000001, .i .i64, .i .i64]++dd 25,[(64000000, .var [.i .i64, .i .i64, .aP 64000002, .aP 64000003, .aP 64000004, .aP 64000005, .aP 64000006, .aP 64000007, .aP 64000008, .aP 64000009]),(64000001, .arr I0),(64000002, .arr (.sl b8)),(64000003, .arr eM),(64000004, .arr cH),(64000005, .arr ck),(64000006, .arr ck),(64000007, .arr br),(64000008, .arr br),(64000009, .arr ld)]⟩,⟨[.dead, .dead, .dead, .vptr 64000000 0]++dd 73,[(64000000, .var [.i .i64, .i .i64, .aP 64000001, .aP 64000002, .aP 64000003, .aP 64000004, .aP 64000005, .aP 64000006, .aP 64000007, .aP 64000008]),(64000001, .arr (.sl b8)),(64000002, .arr eM),(64000003, .arr cH),(64000004, .arr ck),(64000005, .arr ck),(64000006, .arr br),(64000007, .arr br),(64000008, .arr ld)]⟩,none,false⟩)] n
def k55:bM:=cw 55 false [i27] [none] [i30] Lb
theorem abA:k55.Ok Tryz.prog:=bA UK [] [] [PD,UU,k61,GG,agv] ⟨zM,Ea,Jp,UQ,UY,trivial⟩ agx Tryz.f55 [.tmp 2] fun x=>by kernel_rfl
abbrev agy:=(t26×Unit)×(Unit×Unit)
def Lc:t27×Unit→Out agy
|(a0,_)=>
 .get (kr a0.1 a0.2.1 a0.2.2.1 a0.2.2.2.1 a0.2.2.2.2.1 a0.2.2.2.2.2.1 a0.2.2.2.2.2.2.1 a0.2.2.2.2.2.2.2.1 a0.2.2.2.2.2.2.2.2.1) fun y1=>
 .ite (!y1)
 (.ret (((0,0,([]:List (List aw)),([]:List af),([]:List ah),([]:List ag),([]:List ag),([]:List Int),([]:List Int),()),()),((),())))
 (.get (La (a0,())) fun ((b9,_),_)=>
 .get (Py (a0,b9,())) fun ((dF,_),_)=>
 .ret ((dF,()),((),())))
def Z1 (x:t27×Unit):=(Lc x).eval
def k24:bM:=cw 24 false [i27] [none] [i26] Lc
theorem abB:k24.Ok Tryz.prog:=bA jM [] [] [PD,k25,k13] ⟨zM,PC,Pz,trivial⟩ (fun _=>none) Tryz.f24 [.cell 2 31] fun x=>by kernel_rfl
abbrev agz:=(t26×Unit)×(Unit×Unit)
def Ld:t27×Unit→Out agz
|(a0,_)=>
 .get (kr a0.1 a0.2.1 a0.2.2.1 a0.2.2.2.1 a0.2.2.2.2.1 a0.2.2.2.2.2.1 a0.2.2.2.2.2.2.1 a0.2.2.2.2.2.2.2.1 a0.2.2.2.2.2.2.2.2.1) fun y1=>
 .ite (!y1)
 (.ret (((0,0,([]:List (List aw)),([]:List af),([]:List ah),([]:List ag),([]:List ag),([]:List Int),([]:List Int),()),()),((),())))
 (.get (Z0 (a0,())) fun ((b9,_),_)=>
 .get (Py (a0,b9,())) fun ((dF,_),_)=>
 .ret ((dF,()),((),())))
def PF (x:t27×Unit):=(Ld x).eval
def k22:bM:=cw 22 false [i27] [none] [i26] Ld
theorem abC:k22.Ok Tryz.prog:=bA jM [] [] [PD,k55,k13] ⟨zM,abA,Pz,trivial⟩ (fun _=>none) Tryz.f22 [.cell 2 31] fun x=>by kernel_rfl
end
section
open Go Go.ChangeShapes Go.WideShapes Go.ChangeAt Go.RowKit
section
abbrev cQ (p:af):Int:=p.2.2.1
abbrev im (p:af):Int:=p.2.1
abbrev pPg (p:af):Int:=p.2.2.2.1
abbrev zN (p:af):ag:=p.2.2.2.2.1
abbrev cp (p:af):List Int:=p.2.2.2.2.2.1
abbrev aA (p:af):List Int:=p.2.2.2.2.2.2.1
abbrev pO (p:af):Int:=p.2.2.2.2.2.2.2.1
abbrev nu (p:af):Int:=p.2.2.2.2.2.2.2.2.1
abbrev bK (o:ah):Int:=o.2.1
abbrev ct (o:ah):Int:=o.2.2.1
abbrev ff (o:ah):Int:=o.2.2.2.1
abbrev bN (o:ah):Int:=o.2.2.2.2.1
def mY (ps:List af) (id:Int):Nat:=(ps.map fun p=>(aA p).count id).sum
def my (ps:List af):Nat:=(ps.map fun p=>(cp p).length).sum
structure xN (x:Int) (np:Nat) (p:af):Prop where
 st:1≤cQ p∧cQ p≤6
 pg:0≤pPg p∧pPg p<(np:Int)
 kP:aR (zN p).1 (zN p).2.1=true
 mem:(cp p).length≤12∧(cp p).length % 4=0∧aG (cp p)=true
 fds:(aA p).length=4
 code:b6 (nu p)=true
 dead:cQ p=6→cp p=[]∧im p≠0∧∀ f∈aA p,f= -1
 live:cQ p≠6→nu p=0∧(p.1≠x→0<(cp p).length)
 om:cQ p=1∨cQ p=3∨cQ p=6→pO p=0
structure PG (tl nx:Int) (ps:List af) (os:List ah) (p:af):Prop where
 pid:1≤p.1∧p.1<nx
 fds:∀ f∈aA p,f= -1∨∃ o∈os,o.1=f
 par:im p=0∨(im p≠p.1∧∃ q∈ps,q.1=im p∧cQ q≠6)
 Uq:cQ p=2→tl<pO p
 wt:cQ p=4∨cQ p=5→pO p∈aA p∧∃ o∈os,o.1=pO p
structure NN (ps:List af) (pi fi:List ag) (o:ah):Prop where
 id:0≤o.1∧o.1≤7
 refs:bN o=(mY ps o.1:Nat)∧0<mY ps o.1
 kind:bK o=1∧ct o=0∧ff o=0∨bK o=2∧(∃ f∈fi,f.1=ct o∧0≤ff o∧ff o≤(f.2.1.length:Nat))∨
  (bK o=3∨bK o=4)∧(∃ x∈pi,x.1=ct o)∧ff o=0
structure GH (os:List ah) (x:ag):Prop where
 id:0≤x.1∧x.1≤2
 data:x.2.1.length≤4∧aG x.2.1=true
 ends:∃ o∈os,(bK o=3∨bK o=4)∧ct o=x.1
def bS {α:Type} (key:α→Int) (a:List α):Prop:=(a.map key).Pairwise (· < ·)
structure Inv (x tl nx tk:Int) (pg:List (List aw)) (ps:List af) (os:List ah) (pi fi:List ag) (rd ou:List Int):Prop where
 GI:1≤nx∧nx≤100000
 xO:0≤tk∧tk≤1000000
 uv:cD pg=true
 yN:ou.length≤60∧aG ou=true
 np:ps.length≤6
 Jq:my ps≤64
 cT:bS ao ps
 loc:∀ p∈ps,xN x pg.length p
 ctx:∀ p∈ps,PG tl nx ps os p
 pz:bS al os
 op:∀ o∈os,NN ps pi fi o
 xP:bS aC pi
 uw:∀ x∈pi,GH os x
 zO:bS aV fi
 Gn:∀ f∈fi,fw f=true
 Gp:rd.Perm (aL ps)
theorem bS.nodup {α:Type} {key:α→Int} {a:List α} (h:bS key a):(a.map key).Nodup:=h.imp fun h e=>by omega
theorem bS.inj {α:Type} {key:α→Int} {a:List α} (h:bS key a) {x y:α} (hx:x∈a) (hy:y∈a) (e:key x=key y):x=y:=by
 have hn:=h.nodup;obtain ⟨i,hi,rfl⟩:=afQ hx;obtain ⟨j,hj,rfl⟩:=afQ hy;have:i=j:=by
  rcases Nat.lt_trichotomy i j with q|q|q
  . have:=List.pairwise_iff_getElem.1 hn i j (by simpa using hi) (by simpa using hj) q
    simp [e] at this
  . exact q
  . have:=List.pairwise_iff_getElem.1 hn j i (by simpa using hj) (by simpa using hi) q
    simp [e] at this
 subst this;rfl
theorem fF {x a b:Int}:dC x a b=true↔a≤x∧x≤b:=by simp [dC]
theorem oq {α:Type} {key:α→Int} {a:List α} {v:Int} (h:bS key a) {x:α} (hx:x∈a) (hk:key x=v):∃ i,ie key a v=some i∧i<a.length∧a[i]? =some x:=by
 unfold ie;cases hi:a.findIdx? (fun x=>key x==v) with
 |none=>
  rw [afI] at hi;have:=hi x hx;simp [hk] at this
 |some i=>
  obtain ⟨h1,h2,_⟩:=aeR.1 hi;refine ⟨i,rfl,h1, ?_⟩;rw [aaf h1];congr 1;exact h.inj (acD h1) hx (by rw [hk];simpa using h2)
theorem lM {α:Type} {key:α→Int} {a:List α} {v:Int} (h:∀ x∈a,key x≠v):ie key a v=none:=by
 unfold ie;rw [afI];intro x hx;simpa using h x hx
theorem pP {α:Type} {key:α→Int} {a:List α} {v:Int}:0≤dv key a v↔∃ x∈a,key x=v:=by
 have:=ku a fun x=>key x==v;unfold dv ie;constructor
 . intro h
   rw [aaa h] at this;obtain ⟨x,hx,hk⟩:=List.any_eq_true.1 this.symm;exact ⟨x,hx,by simpa using hk⟩
 . intro ⟨x,hx,hk⟩
   rw [List.any_eq_true.2 ⟨x,hx,by simpa using hk⟩] at this;exact abH this
theorem tA (id:Int):∀ (l:List Int) (n:Nat),n+l.length≤aS→l.foldl (fun n f=>pQ f id n) ((n:Nat):Int)=((n+l.count id:Nat):Int)
 |[],n,_=>rfl
 |f::r,n,h=>by
  rw [aai] at h;have hB:aS=9223372036854775807:=rfl;rw [ade,List.count_cons];unfold pQ;by_cases e:f=id
  . have h2:((n:Nat):Int)+1=((n+1:Nat):Int):=by omega
    have hb:n+1≤9223372036854775807:=by omega
    rw [aaK e,jO (by omega) (by omega),h2];have:=tA id r (n+1) (by omega);unfold pQ at this;rw [this];simp [e];omega
  . rw [aap e]
    have:=tA id r n (by omega);unfold pQ at this;rw [this];simp [e]
theorem NO (ps:List af) (id:Int) (h4:∀ p∈ps,(aA p).length≤4) (hl:ps.length≤6):pR ps id=((mY ps id:Nat):Int):=by
 have key:∀ (ps:List af) (n:Nat),(∀ p∈ps,(aA p).length≤4)→n+4*ps.length≤1000→ps.foldl (fun n (p:af)=>p.2.2.2.2.2.2.1.foldl (fun n f=>pQ f id n) n) ((n:Nat):Int)=((n+mY ps id:Nat):Int):=by
  intro ps
  induction ps with
  |nil=>intro n _ _;rfl
  |cons p r ih=>
   intro n h h2;have h1:=h p (by simp);have h1':p.2.2.2.2.2.2.1.length≤4:=h1;rw [aai] at h2;have hB:aS=9223372036854775807:=rfl;rw [ade,tA id _ n (by omega)];have hc:(aA p).count id≤(aA p).length:=List.count_le_length;have Z2:p.2.2.2.2.2.2.1.count id≤p.2.2.2.2.2.2.1.length:=hc;rw [ih (n+p.2.2.2.2.2.2.1.count id) (fun q hq=>h q (by simp [hq])) (by omega)];have e:mY (p::r) id=p.2.2.2.2.2.2.1.count id+mY r id:=by simp [mY]
   rw [e,Nat.add_assoc]
 have:=key ps 0 h4 (by omega);unfold pR;refine this.trans ?_;rw [ada]
theorem wG (ps:List af) (h:∀ p∈ps,(cp p).length≤12∧(cp p).length % 4=0) (hl:ps.length≤6):∃ m:Nat,mZ ps=(m:Int)∧my ps=4*m:=by
 have key:∀ (ps:List af) (n:Nat),(∀ p∈ps,(cp p).length≤12∧(cp p).length % 4=0)→n+12*ps.length≤1000→
   ∃ m:Nat,ps.foldl (fun n (p:af)=>IntKind.i64.wrap (n+((p.2.2.2.2.2.1.length / 4:Nat):Int))) ((n:Nat):Int)=((m:Nat):Int)∧4*n+my ps=4*m:=by
  intro ps
  induction ps with
  |nil=>intro n _ _;exact ⟨n,rfl,by simp [my]⟩
  |cons p r ih=>
   intro n h h2;have h1:p.2.2.2.2.2.1.length≤12∧p.2.2.2.2.2.1.length % 4=0:=h p (by simp);rw [aai] at h2;obtain ⟨m,e1,e2⟩:=ih (n+p.2.2.2.2.2.1.length / 4) (fun q hq=>h q (by simp [hq])) (by omega);refine ⟨m, ?_, ?_⟩
   . rw [ade,jO (by omega) (by omega), ← e1];congr 1
   . have:my (p::r)=p.2.2.2.2.2.1.length+my r:=by simp [my]
     omega
 obtain ⟨m,h1,h2⟩:=key ps 0 h (by omega);exact ⟨m,h1,by omega⟩
theorem GJ {tk:Int} {os:List ah} {st:Int} {fds:List Int} {om:Int}:gg tk os st fds om=true↔(st=2→tk<om)∧(st=4∨st=5→om∈fds∧∃ o∈os,o.1=om)∧(st≠2→¬ (st=4∨st=5)→om=0):=by
 unfold gg;by_cases h2:st=2
 . subst h2;simp
 . rw [aap h2]
   by_cases h4:st=4∨st=5
   . rw [aaK h4,aaE,uA,ac3]
     unfold aF;rw [pP];exact ⟨fun h=>⟨fun e=>absurd e h2,fun _=>h,fun _ e=>absurd h4 e⟩,fun h=>h.2.1 h4⟩
   . rw [aap h4,aeM]
     exact ⟨fun h=>⟨fun e=>absurd e h2,fun e=>absurd e h4,fun _ _=>h⟩,fun h=>h.2.2 h2 h4⟩
theorem NP {ps:List af} {pid par:Int} (h:bS ao ps):cg ps pid par=true↔par=0∨(par≠pid∧∃ q∈ps,q.1=par∧cQ q≠6):=by
 unfold cg;rw [afR,aeM,aaE];refine or_congr Iff.rfl (and_congr (by simp) ?_);by_cases hq:∃ q∈ps,q.1=par
 . obtain ⟨q,hq,hk⟩:=hq
   obtain ⟨i,h1,h2,h3⟩:=oq h hq hk;simp only [h1,h3];constructor
   . intro e;exact ⟨q,hq,hk,by simpa using e⟩
   . intro ⟨q',hq',mA,hs⟩
     obtain rfl:q'=q:=h.inj hq' hq (mA.trans hk.symm);simpa using hs
 . rw [lM (key:=ao) (fun x hx e=>hq ⟨x,hx,e⟩)]
   constructor
   . intro e;cases e
   . intro ⟨q,h1,h2,_⟩;exact absurd ⟨q,h1,h2⟩ hq
theorem Jr {pi fi:List ag} {k t f:Int} (h:bS aV fi):qW pi fi k t f=true↔k=1∧t=0∧f=0∨k=2∧(∃ x∈fi,x.1=t∧0≤f∧f≤(x.2.1.length:Nat))∨(k=3∨k=4)∧(∃ x∈pi,x.1=t)∧f=0:=by
 unfold qW;by_cases h1:k=1
 . subst h1;simp
 . rw [aap h1]
   by_cases h2:k=2
   . subst h2
     rw [aaK rfl];have e:∀ P Q R:Prop,((2:Int)=1∧P∨(2:Int)=2∧Q∨((2:Int)=3∨(2:Int)=4)∧R)↔Q:=fun P Q R=>by simp
     rw [e];by_cases hq:∃ x∈fi,x.1=t
     . obtain ⟨x,hx,hk⟩:=hq
       obtain ⟨i,a1,a2,a3⟩:=oq h hx hk;simp only [a1,a3,fF];constructor
       . intro q;exact ⟨x,hx,hk,q⟩
       . intro ⟨x',sY,mA,q⟩
         obtain rfl:x'=x:=h.inj sY hx (mA.trans hk.symm);exact q
     . rw [lM (key:=aV) (fun x hx e=>hq ⟨x,hx,e⟩)]
       constructor
       . intro q;cases q
       . intro ⟨x,a1,a2,_⟩;exact absurd ⟨x,a1,a2⟩ hq
   . rw [aap h2]
     by_cases h3:k=3∨k=4
     . rw [aaK h3,aaE,ac3,aeM]
       unfold bp;rw [pP];refine ⟨fun q=> .inr (.inr ⟨h3,q⟩),fun q=> ?_⟩;rcases q with ⟨e,_⟩|⟨e,_⟩|⟨_,q⟩
       . exact absurd e h1
       . exact absurd e h2
       . exact q
     . rw [aap h3]
       refine ⟨fun q=>(by cases q),fun q=> ?_⟩;rcases q with ⟨e,_⟩|⟨e,_⟩|⟨e,_⟩
       . exact absurd e h1
       . exact absurd e h2
       . exact absurd e h3
theorem PH {os:List ah} {st f:Int}:pj os st f=true↔f= -1∨((∃ o∈os,o.1=f)∧st≠6):=by
 unfold pj aF;rw [afR,aeM,aaE,ac3,pP,aeO,beq_eq_false_iff_ne];exact Iff.rfl
theorem PI {α:Type} {key:α→Int} {ok:α→Bool} {a:List α}:eO key ok a=true↔bS key a∧∀ x∈a,ok x=true:=by
 constructor
 . intro h;exact ⟨CB h,aa1.1 (GK h)⟩
 . intro ⟨h1,h2⟩
   unfold eO;rw [aa1];intro i hi;have hi:=List.mem_range.1 hi;cases i with
   |zero=>rw [iK hi];exact h2 _ (acD hi)
   |succ i=>
    rw [gT hi,aaE];refine ⟨h2 _ (acD hi),aaa ?_⟩;have:=List.pairwise_iff_getElem.1 h1 i (i+1) (by simp;omega) (by simpa using hi) (by omega);simpa using this
end
end
section
open Go Go.ChangeShapes Go.WideShapes Go.ChangeAt Go.RowKit
section
theorem GL {α:Type} {key:α→Int} (hi:Int):∀ {a:List α} {lo:Int},bS key a→(∀ x∈a,lo≤key x∧key x≤hi)→lo≤hi+1→(a.length:Int)≤hi+1 - lo
 |[],lo,_,_,h=>by simp;omega
 |x::r,lo,h,hb,hl=>by
  have h':(key x::r.map key).Pairwise (· < ·):=h;rw [af2] at h';have h1:=hb x (by simp);have:=GL (key:=key) hi (a:=r) (lo:=key x+1) h'.2 (fun y hy=>⟨by have:=h'.1 (key y) (afY hy);omega,(hb y (by simp [hy])).2⟩) (by omega);rw [aai];omega
theorem lC {α:Type} {key:α→Int} {a:List α} (hi:Nat) (h:bS key a) (hb:∀ x∈a,0≤key x∧key x≤(hi:Int)):a.length≤hi+1:=by
 have:=GL (key:=key) hi (lo:=0) h hb (by omega);omega
theorem GM {nx tk:Int} {np:Nat} {ps:List af} {os:List ah} {p:af} (h:bS ao ps) (hn:1≤nx∧nx≤100000):fG nx tk np ps os p=true↔xN 0 np p∧PG tk nx ps os p:=by
 have hw:IntKind.i64.wrap (nx - 1)=nx - 1:=cS (by omega) (by omega);unfold fG tB dw;simp only [aaE,fF,ack,aa1,PH,NP h,GJ,hw];unfold tC;constructor
 . intro ⟨aku,⟨⟨⟨⟨⟨⟨⟨⟨⟨⟨⟨h1,h2⟩,h3⟩,h4⟩,h5⟩,h6⟩,h7⟩,h8⟩,h9⟩,UZ⟩,U0⟩,O8⟩⟩
   refine ⟨⟨h1,h2,h3,⟨h4,h5,h6⟩,h7,h8,fun e=> ?_,fun e=> ?_,fun e=>U0.2.2 ?_ ?_⟩,⟨⟨aku.1,by omega⟩,fun f hf=> ?_,UZ,U0.1,U0.2.1⟩⟩
   . have e':p.2.2.1=6:=e
     rw [aaK e',aaE,ac3] at O8;refine ⟨ac4 O8.1,by simpa using O8.2,fun f hf=> ?_⟩;rcases h9 f hf with q|⟨_,q⟩
     . exact q
     . exact absurd e' q
   . have e':¬ p.2.2.1=6:=e
     rw [aap e',aaE,ac3] at O8;exact ⟨by simpa using O8.2,fun _=>O8.1⟩
   . rcases e with e|e|e<;>(have e':p.2.2.1=_:=e;omega)
   . rcases e with e|e|e<;>(have e':p.2.2.1=_:=e;omega)
   . rcases h9 f hf with q|⟨q,_⟩
     . exact .inl q
     . exact .inr q
 . intro ⟨hl,hc⟩
   have hlu:=hl.om;refine ⟨⟨hc.pid.1,by have:=hc.pid.2;omega⟩,⟨⟨⟨⟨⟨⟨⟨⟨⟨⟨⟨hl.st,hl.pg⟩,hl.kP⟩,hl.mem.1⟩,hl.mem.2.1⟩,hl.mem.2.2⟩,hl.fds⟩,hl.code⟩,fun f hf=> ?_⟩,hc.par⟩,hc.Uq,hc.wt,fun e1 e2=>hlu ?_⟩, ?_⟩⟩
   . by_cases e:f= -1
     . exact .inl e
     . refine .inr ⟨(hc.fds f hf).resolve_left e,fun e6=>e ((hl.dead e6).2.2 f hf)⟩
   . have:=hl.st
     have e1':cQ p≠2:=e1;have e2':¬ (cQ p=4∨cQ p=5):=e2;omega
   . by_cases e:p.2.2.1=6
     . rw [aaK e,aaE,ac3]
       have:=hl.dead e;exact ⟨by rw [show p.2.2.2.2.2.1=[] from this.1];rfl,by simpa using this.2.1⟩
     . rw [aap e,aaE,ac3]
       have:=hl.live e;exact ⟨this.2 (by have:=hc.pid.1;omega),by simpa using this.1⟩
theorem GN {ps:List af} {pi fi:List ag} {o:ah} (h:bS aV fi) (h4:∀ p∈ps,(aA p).length≤4) (hl:ps.length≤6):jP ps pi fi o=true↔NN ps pi fi o:=by
 unfold jP gC;rw [NO ps _ h4 hl];simp only [aaE,fF,Jr h,aeO,beq_eq_false_iff_ne,aeM];constructor
 . intro ⟨⟨⟨h1,h2⟩,h3⟩,h5⟩
   exact ⟨h3,⟨h2,by omega⟩,h5⟩
 . intro ⟨h3,⟨h2,h1⟩,h5⟩
   exact ⟨⟨⟨by omega,h2⟩,h3⟩,h5⟩
theorem GO {os:List ah} {x:ag}:jQ os x=true↔GH os x:=by
 unfold jQ;simp only [aaE,fF,ack,List.any_eq_true,eR,m0,afR,aeM];constructor
 . intro ⟨⟨⟨h1,h2⟩,h3⟩,o,ho,h4⟩
   exact ⟨h1,⟨h2,h3⟩,o,ho,by rcases h4 with ⟨a,b⟩|⟨a,b⟩<;>exact ⟨by simp [a],b⟩⟩
 . intro ⟨h1,⟨h2,h3⟩,o,ho,h4,h5⟩
   exact ⟨⟨⟨h1,h2⟩,h3⟩,o,ho,by rcases h4 with a|a<;>simp [a,h5]⟩
theorem CD {ps:List af} {rd:List Int} (h:bS ao ps):m2 ps rd=true↔rd.Perm (aL ps):=by
 have hn:(aL ps).Nodup:=((show (ps.map ao).Nodup from h.nodup).sublist (List.filter_sublist.map ao))
 unfold m2;rw [aaE,aa1,ac3];constructor
 . intro ⟨h1,h2⟩
   exact (pS hn (fun x hx=>uA.1 (h1 x hx)) h2).symm
 . intro q
   exact ⟨fun x hx=>uA.2 (q.mem_iff.2 hx),q.length_eq.symm⟩
theorem Js {nx tk:Int} {pg:List (List aw)} {ps:List af} {os:List ah} {pi fi:List ag} {rd ou:List Int}:dz nx tk pg ps os pi fi rd ou=true↔Inv 0 tk nx tk pg ps os pi fi rd ou:=by
 unfold dz ig;simp only [aaE,fF,ack,PI];constructor
 . intro ⟨⟨⟨⟨⟨⟨⟨⟨⟨h1,h2⟩,h3⟩,h4⟩,h5⟩,h6⟩,h7⟩,⟨h8,h9⟩⟩,⟨⟨⟨⟨⟨UZ,U0⟩,O8⟩,⟨h13,h14⟩⟩,⟨h15,h16⟩⟩,⟨h17,h18⟩⟩⟩,h19⟩
   have hp:∀ p∈ps,xN 0 pg.length p∧PG tk nx ps os p:=fun p hp=>(GM h8 h1).1 (h9 p hp);have h44:∀ p∈ps,(aA p).length≤4:=fun p q=>by have:=(hp p q).1.fds;omega
   obtain ⟨m,hm,ht⟩:=wG ps (fun p q=>⟨(hp p q).1.mem.1,(hp p q).1.mem.2.1⟩) h6;exact ⟨h1,h2,h3,⟨h4,h5⟩,h6,by omega,h8,fun p q=>(hp p q).1,fun p q=>(hp p q).2,h13,fun o ho=>(GN h17 h44 h6).1 (h14 o ho),h15,fun x hx=>GO.1 (h16 x hx),h17,h18,(CD h8).1 h19⟩
 . intro h
   have h44:∀ p∈ps,(aA p).length≤4:=fun p q=>by have:=(h.loc p q).fds;omega
   obtain ⟨m,hm,ht⟩:=wG ps (fun p q=>⟨(h.loc p q).mem.1,(h.loc p q).mem.2.1⟩) h.np;have Jq:=h.Jq;refine ⟨⟨⟨⟨⟨⟨⟨⟨⟨h.GI,h.xO⟩,h.uv⟩,h.yN.1⟩,h.yN.2⟩,h.np⟩,by omega⟩,⟨h.cT,fun p q=>(GM h.cT h.GI).2 ⟨h.loc p q,h.ctx p q⟩⟩⟩,⟨⟨⟨⟨⟨?_, ?_⟩, ?_⟩,⟨h.pz,fun o ho=>(GN h.zO h44 h.np).2 (h.op o ho)⟩⟩,⟨h.xP,fun x hx=>GO.2 (h.uw x hx)⟩⟩,⟨h.zO,h.Gn⟩⟩⟩,(CD h.cT).2 h.Gp⟩
   . exact lC 7 h.pz fun o ho=>(h.op o ho).id
   . exact lC 2 h.xP fun x hx=>(h.uw x hx).id
   . exact lC 5 h.zO fun x hx=>by have:=h.Gn x hx;unfold fw at this;rw [aaE,fF] at this;exact this.1
def ca {α:Type} (key:α→Int) (a:List α) (v:Int) (f:α→α):List α:=a.map fun x=>if key x=v then f x else x
theorem qX {α:Type} {key:α→Int} {v:Int} {f:α→α}:∀ {a:List α},(∀ x∈a,key x≠v)→ca key a v f=a
 |[],_=>rfl
 |x::r,h=>by
  have:=qX (f:=f) fun y hy=>h y (afV x hy);unfold ca at this ⊢;rw [acX,this,aap (h x (by simp))]
theorem gU {α:Type} {key:α→Int} {a:List α} {p:α} (h:bS key a) (hp:p∈a):∃ l1 l2,a=l1++p::l2∧(∀ x∈l1,key x<key p)∧(∀ x∈l2,key p<key x)∧(∀ f,ca key a (key p) f=l1++f p::l2)∧a.filter (fun x=>key x != key p)=l1++l2:=by
 obtain ⟨l1,l2,rfl⟩:=List.append_of_mem hp;have h':(l1.map key++key p::l2.map key).Pairwise (· < ·):=by simpa [bS] using h
 rw [List.pairwise_append,af2] at h';have h1:∀ x∈l1,key x<key p:=fun x hx=>h'.2.2 (key x) (afY hx) (key p) (by simp);have h2:∀ x∈l2,key p<key x:=fun x hx=>h'.2.1.1 (key x) (afY hx);refine ⟨l1,l2,rfl,h1,h2,fun f=> ?_, ?_⟩
 . have e1:=qX (key:=key) (v:=key p) (f:=f) (a:=l1) fun x hx=>by have:=h1 x hx;omega
   have e2:=qX (key:=key) (v:=key p) (f:=f) (a:=l2) fun x hx=>by have:=h2 x hx;omega
   unfold ca at e1 e2 ⊢;rw [ag5,acX,e1,e2,aaK rfl]
 . rw [List.filter_append,afT]
   simp only [bne_self_eq_false,adf,agF];rw [List.filter_eq_self.2,List.filter_eq_self.2]
   . intro x hx;have:=h2 x hx;simp;omega
   . intro x hx;have:=h1 x hx;simp;omega
theorem fk {α:Type} {key:α→Int} {a:List α} {p:α} {i:Nat} (h:bS key a) (hi:a[i]? =some p) (y:α) {f:α→α} (hf:f p=y):a.set i y=ca key a (key p) f:=by
 have bZ:i<a.length:=(List.getElem?_eq_some_iff.1 hi).1;apply adQ;intro j;unfold ca;rw [List.getElem?_set,af6];by_cases e:i=j
 . subst e
   rw [aaK rfl,aaK bZ,hi];simp [hf]
 . rw [aap e]
   cases q:a[j]? with
   |none=>rfl
   |some z=>
    have dW:key z≠key p:=fun hk=>by
     have hj:j<a.length:=(List.getElem?_eq_some_iff.1 q).1;have hn:=h.nodup;rcases Nat.lt_or_gt_of_ne e with q'|q'
     . have:=List.pairwise_iff_getElem.1 hn i j (by simpa using bZ) (by simpa using hj) q'
       rw [aaf bZ] at hi;rw [aaf hj] at q;simp [aaG hi,aaG q,hk] at this
     . have:=List.pairwise_iff_getElem.1 hn j i (by simpa using hj) (by simpa using bZ) q'
       rw [aaf bZ] at hi;rw [aaf hj] at q;simp [aaG hi,aaG q,hk] at this
    simp [dW]
theorem gh {α:Type} {key:α→Int} {a:List α} {v:Int} {f:α→α} {y:α}:y∈ca key a v f↔∃ x∈a,(if key x=v then f x else x)=y:=by
 unfold ca;rw [List.mem_map]
theorem dR {α:Type} {key:α→Int} {a:List α} {v:Int} {f:α→α} (h:bS key a) (hf:∀ x∈a,key x=v→key (f x)=key x):bS key (ca key a v f):=by
 have e:(ca key a v f).map key=a.map key:=by
  unfold ca;rw [List.map_map];apply afZ;intro x hx;by_cases q:key x=v
  . simp [q,hf x hx q]
  . simp [q]
 unfold bS;rw [e];exact h
theorem jy {α:Type} {key:α→Int} {a:List α} {v:Int} {f:α→α}:(ca key a v f).length=a.length:=by simp [ca]
theorem lN (a b:List af) (id:Int):mY (a++b) id=mY a id+mY b id:=by simp [mY]
theorem nv (p:af) (a:List af) (id:Int):mY (p::a) id=(aA p).count id+mY a id:=by simp [mY]
theorem kb (a b:List af):my (a++b)=my a+my b:=by simp [my]
theorem nw (p:af) (a:List af):my (p::a)=(cp p).length+my a:=by simp [my]
theorem gi (a b:List af):aL (a++b)=aL a++aL b:=by simp [aL]
theorem mC (p:af) (a:List af):aL (p::a)=if cQ p=1 then p.1::aL a else aL a:=by
 unfold aL jR;rw [afT];by_cases h:cQ p=1
 . have h':p.2.2.1=1:=h
   simp [h',ao]
 . have h':¬ p.2.2.1=1:=h
   simp [h']
theorem PJ {ps:List af} {v:Int}:v∈aL ps↔∃ p∈ps,p.1=v∧cQ p=1:=by
 unfold aL jR ao;rw [List.mem_map];constructor
 . intro ⟨p,hp,e⟩
   rw [List.mem_filter] at hp;exact ⟨p,hp.1,e,by simpa using hp.2⟩
 . intro ⟨p,hp,e,h⟩
   exact ⟨p,List.mem_filter.2 ⟨hp,by simpa using h⟩,e⟩
theorem Le {ps:List af} {id:Int}:0<mY ps id↔∃ p∈ps,id∈aA p:=by
 induction ps with
 |nil=>simp [mY]
 |cons p r ih=>
  rw [nv];constructor
  . intro h
    by_cases q:id∈aA p
    . exact ⟨p,by simp,q⟩
    . rw [List.count_eq_zero.2 q] at h
      obtain ⟨p',h1,h2⟩:=ih.1 (by omega);exact ⟨p',by simp [h1],h2⟩
  . intro ⟨p',h1,h2⟩
    rcases abE.1 h1 with rfl|h1
    . have:=List.count_pos_iff.2 h2;omega
    . have:=ih.2 ⟨p',h1,h2⟩;omega
end
end
section
open Go Go.ChangeShapes Go.WideShapes Go.ChangeAt Go.RowKit
section
def Jt (v:Int) (p:af):af:=(p.1,v,p.2.2)
def kS (s u:Int) (p:af):af:=(p.1,p.2.1,s,p.2.2.2.1,p.2.2.2.2.1,p.2.2.2.2.2.1,p.2.2.2.2.2.2.1,u,p.2.2.2.2.2.2.2.2)
def pA (c:ag) (p:af):af:=(p.1,p.2.1,p.2.2.1,p.2.2.2.1,c,p.2.2.2.2.2)
def kI (m:List Int) (p:af):af:=(p.1,p.2.1,p.2.2.1,p.2.2.2.1,p.2.2.2.2.1,m,p.2.2.2.2.2.2)
def cm (l:List Int) (p:af):af:=(p.1,p.2.1,p.2.2.1,p.2.2.2.1,p.2.2.2.2.1,p.2.2.2.2.2.1,l,p.2.2.2.2.2.2.2)
def ga (c:Int) (p:af):af:=(p.1,p.2.1,p.2.2.1,p.2.2.2.1,p.2.2.2.2.1,p.2.2.2.2.2.1,p.2.2.2.2.2.2.1,p.2.2.2.2.2.2.2.1,c,())
def pn (b:Int) (p:af):af:=(p.1,p.2.1,p.2.2.1,b,p.2.2.2.2.1,[0,0,0,0],p.2.2.2.2.2.2)
abbrev bO (ps:List af) (v:Int) (f:af→af):=ca ao ps v f
variable {x x' tl nx tk:Int} {pg:List (List aw)} {ps:List af} {os:List ah} {pi fi:List ag} {rd rd' ou:List Int} {p p':af} {f:af→af}
theorem bf (h:bS ao ps) (hp:p∈ps) {q:af}:q∈bO ps p.1 f↔q=f p∨(q∈ps∧q.1≠p.1):=by
 rw [gh];constructor
 . intro ⟨y,hy,e⟩
   by_cases k:ao y=p.1
   . obtain rfl:y=p:=h.inj hy hp k
     rw [aaK k] at e;exact .inl e.symm
   . rw [aap k] at e
     subst e;exact .inr ⟨hy,k⟩
 . rintro (rfl|⟨hq,k⟩)
   . exact ⟨p,hp,aaK rfl⟩
   . exact ⟨q,hq,aap k⟩
theorem Lf (h:bS ao ps) (hp:p∈ps) (id:Int):mY (bO ps p.1 f) id+(aA p).count id=mY ps id+(aA (f p)).count id:=by
 obtain ⟨l1,l2,e,_,_,hu,_⟩:=gU h hp;have zP:bO ps p.1 f=l1++f p::l2:=hu f;rw [zP,e,lN,lN,nv,nv];omega
theorem Lg (h:bS ao ps) (hp:p∈ps):my (bO ps p.1 f)+(cp p).length=my ps+(cp (f p)).length:=by
 obtain ⟨l1,l2,e,_,_,hu,_⟩:=gU h hp;have zP:bO ps p.1 f=l1++f p::l2:=hu f;rw [zP,e,kb,kb,nw,nw];omega
theorem Eg (h:bS ao ps) (hp:p∈ps) (hk:(f p).1=p.1) (hs:cQ (f p)=1↔cQ p=1):aL (bO ps p.1 f)=aL ps:=by
 obtain ⟨l1,l2,e,_,_,hu,_⟩:=gU h hp;have zP:bO ps p.1 f=l1++f p::l2:=hu f;rw [zP,e,gi,gi,mC,mC,hk];by_cases q:cQ p=1
 . rw [aaK q,aaK (hs.2 q)]
 . rw [aap q,aap fun q'=>q (hs.1 q')]
theorem abF (h:bS ao ps) (hp:p∈ps) (hs:cQ (f p)≠1) (h1:cQ p=1):(aL ps).Perm (p.1::aL (bO ps p.1 f)):=by
 obtain ⟨l1,l2,e,_,_,hu,_⟩:=gU h hp;have zP:bO ps p.1 f=l1++f p::l2:=hu f;rw [zP,e,gi,gi,mC,mC,aaK h1,aap hs];exact List.perm_middle
theorem agA (h:bS ao ps) (hp:p∈ps) (hk:(f p).1=p.1) (hs:cQ (f p)=1) (h1:cQ p≠1):(aL (bO ps p.1 f)).Perm (p.1::aL ps):=by
 obtain ⟨l1,l2,e,_,_,hu,_⟩:=gU h hp;have zP:bO ps p.1 f=l1++f p::l2:=hu f;rw [zP,e,gi,gi,mC,mC,aaK hs,aap h1,hk];exact List.perm_middle
theorem NN.mono {ps':List af} {pi' I4:List ag} {o:ah} (h:NN ps pi fi o) (hc:mY ps' o.1=mY ps o.1) (uw:∀ x∈pi,bK o=3∨bK o=4→x.1=ct o→∃ x'∈pi',x'.1=x.1) (Gn:∀ y∈fi,bK o=2→y.1=ct o→∃ y'∈I4,y'.1=y.1∧y.2.1.length≤y'.2.1.length):NN ps' pi' I4 o:=by
 refine ⟨h.id,by rw [hc];exact h.refs, ?_⟩;rcases h.kind with q|⟨k,y,hy,e,h1,h2⟩|⟨k,⟨x,hx,e⟩,h1⟩
 . exact .inl q
 . obtain ⟨y',ov,e',hl⟩:=Gn y hy k e
   exact .inr (.inl ⟨k,y',ov,e'.trans e,h1,by omega⟩)
 . obtain ⟨x',sY,e'⟩:=uw x hx k e
   exact .inr (.inr ⟨k,⟨x',sY,e'.trans e⟩,h1⟩)
theorem Inv.Z3 (h:Inv x tl nx tk pg ps os pi fi rd ou) (hp:p∈ps) (hk:(f p).1=p.1) (hx:∀ q∈ps,q.1≠p.1→xN x' pg.length q) (hl:xN x' pg.length (f p)) (BO:aA (f p)=aA p)
  (abG:im (f p)=im p∨im (f p)=0) (hz:cQ (f p)=6→∀ q∈ps,im q≠p.1) (hs:cQ (f p)=2→tl<pO (f p)) (hw:cQ (f p)=4∨cQ (f p)=5→pO (f p)∈aA p∧∃ o∈os,o.1=pO (f p))
  (ht:my ps+(cp (f p)).length≤64+(cp p).length) (hr:rd'.Perm (aL (bO ps p.1 f))):Inv x' tl nx tk pg (bO ps p.1 f) os pi fi rd' ou:=by
 have hpr:∀ v y,y≠p.1∨y=p.1→v=0∨(v≠y∧∃ q∈ps,q.1=v∧cQ q≠6)→(v=p.1→cQ (f p)≠6)→v=0∨(v≠y∧∃ q∈bO ps p.1 f,q.1=v∧cQ q≠6):=fun v y _ hv h6=>by
  rcases hv with e|⟨e,q,hq,h1,h2⟩
  . exact .inl e
  . refine .inr ⟨e, ?_⟩
    by_cases k:q.1=p.1
    . exact ⟨f p,(bf h.cT hp).2 (.inl rfl),by rw [hk];exact k.symm.trans h1,h6 (h1.symm.trans k)⟩
    . exact ⟨q,(bf h.cT hp).2 (.inr ⟨hq,k⟩),h1,h2⟩
 refine ⟨h.GI,h.xO,h.uv,h.yN,by rw [jy];exact h.np, ?_,dR h.cT fun q hq k=> ?_,fun q hq=> ?_,fun q hq=> ?_,h.pz,fun o ho=> ?_,h.xP,h.uw,h.zO,h.Gn,hr⟩
 . have:=Lg (f:=f) h.cT hp;omega
 . obtain rfl:=h.cT.inj hq hp k;exact hk
 . rcases (bf h.cT hp).1 hq with rfl|⟨hq,k⟩
   . exact hl
   . exact hx q hq k
 . rcases (bf h.cT hp).1 hq with rfl|⟨hq,k⟩
   . have hc:=h.ctx p hp
     refine ⟨by rw [hk];exact hc.pid,by rw [BO];exact hc.fds, ?_,hs,by rw [BO];exact hw⟩;rcases abG with e|e
     . rw [e,hk]
       exact hpr _ _ (.inr rfl) hc.par fun e'=>by
        rcases hc.par with e0|⟨e0,_⟩
        . have:=hc.pid.1;omega
        . exact absurd e' e0
     . exact .inl e
   . have hc:=h.ctx q hq
     exact ⟨hc.pid,hc.fds,hpr _ _ (.inl k) hc.par fun e h6=>hz h6 q hq e,hc.Uq,hc.wt⟩
 . refine (h.op o ho).mono ?_ (fun x hx _ _=>⟨x,hx,rfl⟩) fun y hy _ _=>⟨y,hy,rfl,abD _⟩
   have:=Lf (f:=f) h.cT hp o.1;rw [BO] at this;omega
theorem Inv.U1 (h:Inv x tl nx tk pg ps os pi fi rd ou) (hp:p∈ps) (hk:(f p).1=p.1) (hl:xN x pg.length (f p)) (BO:aA (f p)=aA p) (py:cQ (f p)=cQ p) (hun:pO (f p)=pO p)
  (abG:im (f p)=im p∨im (f p)=0) (ht:my ps+(cp (f p)).length≤64+(cp p).length):Inv x tl nx tk pg (bO ps p.1 f) os pi fi rd ou:=by
 have hc:=h.ctx p hp;refine h.Z3 hp hk (fun q hq _=>h.loc q hq) hl BO abG (fun e q hq e'=> ?_) (by rw [py,hun];exact hc.Uq) (by rw [py,hun];exact hc.wt) ht ?_
 . rw [py] at e
   rcases (h.ctx q hq).par with e0|⟨_,r,hr,h1,h2⟩
   . have:=hc.pid.1;omega
   . obtain rfl:r=p:=h.cT.inj hr hp (h1.trans e')
     exact h2 e
 . rw [Eg h.cT hp hk (by rw [py])];exact h.Gp
theorem Inv.tD (h:Inv x tl nx tk pg ps os pi fi rd ou) (hp:p∈ps):(cp p).length≤my ps∧my ps≤64:=by
 obtain ⟨l1,l2,e,_⟩:=gU h.cT hp;refine ⟨?_,h.Jq⟩;rw [e,kb,nw];omega
theorem Inv.kP (h:Inv x tl nx tk pg ps os pi fi rd ou) (hp:p∈ps) {c:ag} (hc:aR c.1 c.2.1=true):Inv x tl nx tk pg (bO ps p.1 (pA c)) os pi fi rd ou:=by
 have l:=h.loc p hp;exact h.U1 hp rfl ⟨l.st,l.pg,hc,l.mem,l.fds,l.code,l.dead,l.live,l.om⟩ rfl rfl rfl (.inl rfl) (by have:=(h.tD hp).2;show my ps+(cp p).length≤_;omega)
theorem Inv.mem (h:Inv x tl nx tk pg ps os pi fi rd ou) (hp:p∈ps) {m:List Int} (hm:m.length≤12∧m.length % 4=0∧aG m=true) (h0:cQ p≠6) (h1:0<m.length) (ht:my ps+m.length≤64+(cp p).length):Inv x tl nx tk pg (bO ps p.1 (kI m)) os pi fi rd ou:=by
 have l:=h.loc p hp;exact h.U1 hp rfl ⟨l.st,l.pg,l.kP,hm,l.fds,l.code,fun e=>absurd e h0,fun e=>⟨(l.live e).1,fun _=>h1⟩,l.om⟩ rfl rfl rfl (.inl rfl) ht
theorem Inv.exec (h:Inv x tl nx tk pg ps os pi fi rd ou) (hp:p∈ps) {b:Int} (hb:0≤b∧b<(pg.length:Int)) (h0:cQ p≠6) (h1:4≤(cp p).length):Inv x tl nx tk pg (bO ps p.1 (pn b)) os pi fi rd ou:=by
 have l:=h.loc p hp;exact h.U1 hp rfl ⟨l.st,hb,l.kP,by show (4:Nat)≤12∧4 % 4=0∧aG [0,0,0,0]=true;decide,l.fds,l.code,fun e=>absurd e h0,fun e=>⟨(l.live e).1,fun _=>by show 0<4;omega⟩,l.om⟩ rfl rfl rfl (.inl rfl) (by have:=(h.tD hp).2;show my ps+4≤_;omega)
theorem Inv.akw (h:Inv x tl nx tk pg ps os pi fi rd ou) (hp:p∈ps) (h0:cQ p≠6):Inv x tl nx tk pg (bO ps p.1 (Jt 0)) os pi fi rd ou:=by
 have l:=h.loc p hp;exact h.U1 hp rfl ⟨l.st,l.pg,l.kP,l.mem,l.fds,l.code,fun e=>absurd e h0,l.live,l.om⟩ rfl rfl rfl (.inr rfl) (by have:=(h.tD hp).2;show my ps+(cp p).length≤_;omega)
theorem Inv.jS (h:Inv x tl nx tk pg ps os pi fi rd ou) (hp:p∈ps) (h0:cQ p≠6) (h1:cQ p≠1):Inv x tl nx tk pg (bO ps p.1 (kS 1 0)) os pi fi (rd++[p.1]) ou:=by
 have l:=h.loc p hp;refine h.Z3 hp rfl (fun q hq _=>h.loc q hq) ⟨by show (1:Int)≤1∧(1:Int)≤6;omega,l.pg,l.kP,l.mem,l.fds,l.code,fun e=> ?_,fun _=>l.live h0,fun _=>rfl⟩ rfl (.inl rfl) (fun e=> ?_) (fun e=> ?_) (fun e=> ?_) (by have:=(h.tD hp).2;show my ps+(cp p).length≤_;omega) ?_
 . exact absurd (show (1:Int)=6 from e) (by omega)
 . exact absurd (show (1:Int)=6 from e) (by omega)
 . exact absurd (show (1:Int)=2 from e) (by omega)
 . exact absurd (show (1:Int)=4∨(1:Int)=5 from e) (by omega)
 . refine List.Perm.trans ?_ (agA h.cT hp rfl rfl h1).symm
   exact (List.perm_append_singleton _ _).trans (List.Perm.cons _ h.Gp)
theorem Inv.ready (h:Inv x tl nx tk pg ps os pi fi rd ou) (hp:p∈ps) (h1:cQ p=1):p.1∈rd:=h.Gp.mem_iff.2 (PJ.2 ⟨p,hp,rfl,h1⟩)
theorem Inv.off (h:Inv x tl nx tk pg ps os pi fi rd ou) (hp:p∈ps) (h1:cQ p=1) (hs:cQ (f p)≠1):(rd.erase p.1).Perm (aL (bO ps p.1 f)):=by
 have e:=(List.perm_cons_erase (h.ready hp h1)).symm.trans (h.Gp.trans (abF h.cT hp hs h1));exact (List.perm_cons p.1).1 e
theorem Inv.block (h:Inv x tl nx tk pg ps os pi fi rd ou) (hp:p∈ps) {s u:Int} (h1:cQ p=1) (hs:2≤s∧s≤5) (h2:s=2→tl<u) (h3:s=3→u=0) (h4:s=4∨s=5→u∈aA p∧∃ o∈os,o.1=u):Inv x tl nx tk pg (bO ps p.1 (kS s u)) os pi fi (rd.erase p.1) ou:=by
 have l:=h.loc p hp;refine h.Z3 hp rfl (fun q hq _=>h.loc q hq) ⟨by show (1:Int)≤s∧s≤6;omega,l.pg,l.kP,l.mem,l.fds,l.code,fun e=> ?_,fun _=>l.live (by omega),fun e=> ?_⟩ rfl (.inl rfl) (fun e=> ?_) h2 h4 (by have:=(h.tD hp).2;show my ps+(cp p).length≤_;omega) (h.off hp h1 ?_)
 . have e':s=6:=e;omega
 . have e':s=1∨s=3∨s=6:=e
   exact h3 (by omega)
 . have e':s=6:=e;omega
 . show s≠1;omega
theorem Inv.drop (h:Inv 0 tl nx tk pg ps os pi fi rd ou) (hp:p∈ps) (h1:cQ p=1):Inv p.1 tl nx tk pg (bO ps p.1 (kI [])) os pi fi rd ou:=by
 have l:=h.loc p hp;have hc:=h.ctx p hp;have ha:∀ q∈ps,xN p.1 pg.length q∨q.1=p.1:=fun q hq=>by
  have l:=h.loc q hq;have:=(h.ctx q hq).pid.1;exact .inl ⟨l.st,l.pg,l.kP,l.mem,l.fds,l.code,l.dead,fun e=>⟨(l.live e).1,fun _=>(l.live e).2 (by omega)⟩,l.om⟩
 refine h.Z3 hp rfl (fun q hq k=>(ha q hq).resolve_right k) ⟨l.st,l.pg,l.kP,⟨afO _,rfl,rfl⟩,l.fds,l.code,fun e=>absurd (h1.symm.trans e) (by omega),fun e=>⟨(l.live e).1,fun k=>absurd rfl k⟩,l.om⟩ rfl (.inl rfl) (fun e=>absurd (h1.symm.trans e) (by omega)) hc.Uq hc.wt (by have:=(h.tD hp).2;show my ps+0≤_;omega) ?_;rw [Eg h.cT hp rfl Iff.rfl];exact h.Gp
theorem Inv.abI (h:Inv p.1 tl nx tk pg ps os pi fi rd ou) (hp:p∈ps) {c:Int} (h1:cQ p=1) (hm:cp p=[]) (hf:∀ v∈aA p,v= -1) (h0:im p≠0) (hn:∀ q∈ps,im q≠p.1) (hw:b6 c=true):
  Inv 0 tl nx tk pg (bO ps p.1 fun p=>ga c (kS 6 0 p)) os pi fi (rd.erase p.1) ou:=by
 have l:=h.loc p hp;have hc:=h.ctx p hp;refine h.Z3 hp rfl (fun q hq k=> ?_) ⟨by show (1:Int)≤6∧(6:Int)≤6;omega,l.pg,l.kP,l.mem,l.fds,hw,fun _=>⟨hm,h0,hf⟩,fun e=>absurd rfl e,fun _=>rfl⟩ rfl (.inl rfl) (fun _=>hn) (fun e=> ?_) (fun e=> ?_) (by have:=(h.tD hp).2;show my ps+(cp p).length≤_;omega) (h.off hp h1 ?_)
 . have l:=h.loc q hq
   exact ⟨l.st,l.pg,l.kP,l.mem,l.fds,l.code,l.dead,fun e=>⟨(l.live e).1,fun _=>(l.live e).2 k⟩,l.om⟩
 . exact absurd (show (6:Int)=2 from e) (by omega)
 . exact absurd (show (6:Int)=4∨(6:Int)=5 from e) (by omega)
 . show (6:Int)≠1;omega
abbrev ux (ps:List af) (v:Int):=ps.filter fun q=>ao q != v
theorem iL {v:Int} {q:af}:q∈ux ps v↔q∈ps∧q.1≠v:=by
 rw [List.mem_filter];unfold ao;simp
theorem Inv.rm (h:Inv x tl nx tk pg ps os pi fi rd ou) (hp:p∈ps) (hf:∀ v∈aA p,v= -1) (hn:∀ q∈ps,im q≠p.1) (hx:∀ q∈ps,q.1≠p.1→xN x' pg.length q) (hr:rd'.Perm (aL (ux ps p.1))):
  Inv x' tl nx tk pg (ux ps p.1) os pi fi rd' ou:=by
 obtain ⟨l1,l2,e,_,_,_,qQ⟩:=gU h.cT hp;have DY:ux ps p.1=l1++l2:=qQ;have fH:(ux ps p.1).Sublist ps:=List.filter_sublist;refine ⟨h.GI,h.xO,h.uv,h.yN,aa3 fH.length_le h.np, ?_, ?_,fun q hq=> ?_,fun q hq=> ?_,h.pz,fun o ho=> ?_,h.xP,h.uw,h.zO,h.Gn,hr⟩
 . have:=h.Jq
   rw [DY,kb];rw [e,kb,nw] at this;omega
 . exact (show (ps.map ao).Pairwise (· < ·) from h.cT).sublist (fH.map ao)
 . exact hx q (iL.1 hq).1 (iL.1 hq).2
 . have hc:=h.ctx q (iL.1 hq).1
   refine ⟨hc.pid,hc.fds, ?_,hc.Uq,hc.wt⟩;rcases hc.par with e|⟨e,r,hr,h1,h2⟩
   . exact .inl e
   . exact .inr ⟨e,r,iL.2 ⟨hr,fun k=>hn q (iL.1 hq).1 (h1.symm.trans k)⟩,h1,h2⟩
 . refine (h.op o ho).mono ?_ (fun x hx _ _=>⟨x,hx,rfl⟩) fun y hy _ _=>⟨y,hy,rfl,abD _⟩
   have hz:(aA p).count o.1=0:=List.count_eq_zero.2 fun hm=>by have:=hf _ hm;have:=(h.op o ho).id;omega
   rw [DY]
   conv=>rhs;rw [e]
   rw [lN,lN,nv,hz];omega
theorem Inv.agB (h:Inv x tl nx tk pg ps os pi fi rd ou) (hp:p∈ps) (h6:cQ p=6):∀ q∈ps,im q≠p.1:=fun q hq e=>by
 have:=(h.ctx p hp).pid.1;rcases (h.ctx q hq).par with e0|⟨_,r,hr,h1,h2⟩
 . omega
 . obtain rfl:r=p:=h.cT.inj hr hp (h1.trans e)
   exact h2 h6
theorem Inv.abJ (h:Inv x tl nx tk pg ps os pi fi rd ou) (hp:p∈ps) (h6:cQ p=6):Inv x tl nx tk pg (ux ps p.1) os pi fi rd ou:=by
 refine h.rm hp ((h.loc p hp).dead h6).2.2 (h.agB hp h6) (fun q hq _=>h.loc q hq) ?_;obtain ⟨l1,l2,e,_,_,_,qQ⟩:=gU h.cT hp;have DY:ux ps p.1=l1++l2:=qQ;have:=h.Gp;rw [e,gi,mC,aap (by omega), ← gi] at this;rw [DY];exact this
theorem Inv.gone (h:Inv p.1 tl nx tk pg ps os pi fi rd ou) (hp:p∈ps) (h1:cQ p=1) (hf:∀ v∈aA p,v= -1) (hn:∀ q∈ps,im q≠p.1):Inv 0 tl nx tk pg (ux ps p.1) os pi fi (rd.erase p.1) ou:=by
 refine h.rm hp hf hn (fun q hq k=> ?_) ?_
 . have l:=h.loc q hq
   exact ⟨l.st,l.pg,l.kP,l.mem,l.fds,l.code,l.dead,fun e=>⟨(l.live e).1,fun _=>(l.live e).2 k⟩,l.om⟩
 . obtain ⟨l1,l2,e,_,_,_,qQ⟩:=gU h.cT hp
   have DY:ux ps p.1=l1++l2:=qQ;have e1:=(List.perm_cons_erase (h.ready hp h1)).symm.trans h.Gp;rw [DY];rw [e,gi,mC,aaK h1] at e1;have e2:=e1.trans List.perm_middle;rw [← gi] at e2;exact (List.perm_cons p.1).1 e2
end
end
section
open Go Go.ChangeShapes Go.WideShapes Go.ChangeAt Go.RowKit
section
variable {x x' tl nx tk:Int} {pg:List (List aw)} {ps:List af} {os po:List ah} {pi fi pi' I4:List ag} {rd rd' ou:List Int} {p p':af} {o:ah}
def cV (r:Int) (o:ah):ah:=(o.1,o.2.1,o.2.2.1,o.2.2.2.1,r,())
def wH (v:Int) (o:ah):ah:=(o.1,o.2.1,o.2.2.1,v,o.2.2.2.2)
def fu (d:List Int) (y:ag):ag:=(y.1,d,())
def bL {α:Type} (key:α→Int) (y:α):List α→List α
 |[]=>[y]
 |x::r=>if key y<key x then y::x::r else x::bL key y r
theorem dq {α:Type} {key:α→Int} {y z:α}:∀ {a:List α},z∈bL key y a↔z=y∨z∈a
 |[]=>by simp [bL]
 |x::r=>by
  unfold bL;split
  . simp
  . rw [abE,dq,abE]
    constructor<;>(rintro (h|h|h)<;>simp [h])
theorem gV {α:Type} {key:α→Int} {y:α}:∀ {a:List α},bS key a→(∀ x∈a,key x≠key y)→bS key (bL key y a)
 |[],_,_=>by simp [bL,bS]
 |x::r,h,hn=>by
  have h':(key x::r.map key).Pairwise (· < ·):=h;rw [af2] at h';unfold bL;have hx:=hn x (by simp);split
  . rename_i bZ
    show (key y::key x::r.map key).Pairwise (· < ·);rw [af2,af2];refine ⟨fun v hv=> ?_,h'⟩;rcases abE.1 hv with rfl|hv
    . exact bZ
    . have:=h'.1 v hv;omega
  . show (key x::(bL key y r).map key).Pairwise (· < ·)
    rw [af2];refine ⟨fun v hv=> ?_,gV h'.2 fun z hz=>hn z (by simp [hz])⟩;obtain ⟨z,hz,rfl⟩:=List.mem_map.1 hv;rcases dq.1 hz with rfl|hz
    . omega
    . exact h'.1 _ (afY hz)
theorem jb {α:Type} {key:α→Int} {y:α}:∀ {a:List α},(bL key y a).length=a.length+1
 |[]=>rfl
 |x::r=>by
  unfold bL;split
  . rfl
  . rw [aai,jb,aai]
theorem Ju {l:List Int} {k:Nat} {w:Int} (h:l[k]? =some w) (v y:Int):(l.set k v).count y+(if w=y then 1 else 0)=l.count y+(if v=y then 1 else 0):=by
 induction l generalizing k with
 |nil=>simp at h
 |cons a r ih=>
  cases k with
  |zero=>
   simp only [List.getElem?_cons_zero,adh] at h;subst h;simp only [List.set_cons_zero,List.count_cons,aeM];omega
  |succ k=>
   simp only [List.getElem?_cons_succ] at h;have:=ih h;simp only [List.set_cons_succ,List.count_cons,aeM];omega
theorem Eh (h:bS ao ps) (hp:p∈ps) {k:Nat} {w:Int} (hk:(aA p)[k]? =some w) (v y:Int):mY (bO ps p.1 (cm ((aA p).set k v))) y+(if w=y then 1 else 0)=mY ps y+(if v=y then 1 else 0):=by
 have h1:=Lf (f:=cm ((aA p).set k v)) h hp y;have h2:=Ju hk v y;have h3:aA (cm ((aA p).set k v) p)=(aA p).set k v:=rfl;rw [h3] at h1;omega
theorem Inv.PK (h:Inv x tl nx tk pg ps os pi fi rd ou) (hp:p∈ps) (h1:cQ p=1) {l:List Int} (hl:l.length=4) (BO:∀ v,v≠ -1→0<mY (bO ps p.1 (cm l)) v→∃ o∈po,o.1=v) (pz:bS al po)
  (U2:∀ o∈po,NN (bO ps p.1 (cm l)) pi' fi o) (xP:bS aC pi') (uw:∀ x∈pi',GH po x):Inv x tl nx tk pg (bO ps p.1 (cm l)) po pi' fi rd ou:=by
 have hc:=h.ctx p hp;have abK:∀ q∈bO ps p.1 (cm l),∀ v∈aA q,v= -1∨∃ o∈po,o.1=v:=fun q hq v hv=>by
  by_cases e:v= -1
  . exact .inl e
  . exact .inr (BO v e (Le.2 ⟨q,hq,hv⟩))
 have hpr:∀ v y,v=0∨(v≠y∧∃ q∈ps,q.1=v∧cQ q≠6)→v=0∨(v≠y∧∃ q∈bO ps p.1 (cm l),q.1=v∧cQ q≠6):=fun v y hv=>by
  rcases hv with e|⟨e,q,hq,e1,e2⟩
  . exact .inl e
  . refine .inr ⟨e, ?_⟩
    by_cases k:q.1=p.1
    . obtain rfl:=h.cT.inj hq hp k
      exact ⟨cm l q,(bf h.cT hp).2 (.inl rfl),e1,e2⟩
    . exact ⟨q,(bf h.cT hp).2 (.inr ⟨hq,k⟩),e1,e2⟩
 refine ⟨h.GI,h.xO,h.uv,h.yN,by rw [jy];exact h.np, ?_,dR h.cT fun q _ _=>rfl,fun q hq=> ?_,fun q hq=> ?_,pz,U2,xP,uw,h.zO,h.Gn, ?_⟩
 . have h1:=Lg (f:=cm l) h.cT hp;have h2:=h.Jq
   have h3:cp (cm l p)=cp p:=rfl;rw [h3] at h1;omega
 . rcases (bf h.cT hp).1 hq with rfl|⟨hq,_⟩
   . have l0:=h.loc p hp
     exact ⟨l0.st,l0.pg,l0.kP,l0.mem,hl,l0.code,fun e=>absurd (h1.symm.trans e) (by omega),l0.live,l0.om⟩
   . exact h.loc q hq
 . rcases (bf h.cT hp).1 hq with rfl|⟨hq',_⟩
   . exact ⟨hc.pid,abK _ hq,hpr _ _ hc.par,hc.Uq,fun e=>absurd (show cQ p=4∨cQ p=5 from e) (by omega)⟩
   . have hc:=h.ctx q hq'
     refine ⟨hc.pid,abK _ hq,hpr _ _ hc.par,hc.Uq,fun e=> ?_⟩;obtain ⟨hm,o,ho,e'⟩:=hc.wt e;refine ⟨hm,(abK q hq _ hm).resolve_left fun e2=> ?_⟩;have:=(h.op o ho).id;omega
 . rw [Eg (f:=cm l) h.cT hp rfl Iff.rfl];exact h.Gp
theorem Inv.yO (h:Inv x tl nx tk pg ps os pi fi rd ou) {v:Int} (hv:v≠ -1) (hc:0<mY ps v):∃ o∈os,o.1=v:=by
 obtain ⟨q,hq,hm⟩:=Le.1 hc;exact ((h.ctx q hq).fds v hm).resolve_left hv
theorem gD (h:bS al os) (ho:o∈os) {f:ah→ah} {o':ah}:o'∈ca al os o.1 f↔o'=f o∨(o'∈os∧o'.1≠o.1):=by
 rw [gh];constructor
 . intro ⟨y,hy,e⟩
   by_cases k:al y=o.1
   . obtain rfl:y=o:=h.inj hy ho k
     rw [aaK k] at e;exact .inl e.symm
   . rw [aap k] at e
     subst e;exact .inr ⟨hy,k⟩
 . rintro (rfl|⟨hq,k⟩)
   . exact ⟨o,ho,aaK rfl⟩
   . exact ⟨o',hq,aap k⟩
theorem GH.Z3 (hr:bS al os) (ho:o∈os) {f:ah→ah} (hk:(f o).1=o.1) (h2:bK (f o)=bK o) (h3:ct (f o)=ct o) {y:ag} (h:GH os y):GH (ca al os o.1 f) y:=by
 obtain ⟨e,he,k,t⟩:=h.ends;refine ⟨h.id,h.data, ?_⟩;by_cases q:e.1=o.1
 . obtain rfl:=hr.inj he ho q
   exact ⟨f e,(gD hr he).2 (.inl rfl),by rw [h2];exact k,by rw [h3];exact t⟩
 . exact ⟨e,(gD hr ho).2 (.inr ⟨he,q⟩),k,t⟩
theorem Inv.Z4 (h:Inv x tl nx tk pg ps os pi fi rd ou) (hp:p∈ps) (h1:cQ p=1) {k:Nat} {w v:Int} (hk:(aA p)[k]? =some w) (ho:o∈os) (hw:w=o.1∧v= -1∧bN o≠1∨w= -1∧v=o.1) {r:Int} (hr:r=bN o+(if v= -1 then -1 else 1)):
  Inv x tl nx tk pg (bO ps p.1 (cm ((aA p).set k v))) (ca al os o.1 (cV r)) pi fi rd ou:=by
 have eI:=(h.op o ho).id;have Ur:=(h.op o ho).refs;have hN:=Eh h.cT hp hk v;refine h.PK hp h1 (by rw [aag];exact (h.loc p hp).fds) (fun y hy hc=> ?_) (dR h.pz fun _ _ _=>rfl) (fun o' zQ=> ?_) h.xP fun y hy=>GH.Z3 h.pz ho rfl rfl rfl (h.uw y hy)
 . have hex:∃ e∈os,e.1=y:=by
    by_cases e:y=o.1
    . exact ⟨o,ho,e.symm⟩
    . refine h.yO hy ?_
      have:=hN y;have e1:¬ v=y:=by rcases hw with ⟨_,e2,_⟩|⟨_,e2⟩<;>omega
      rw [aap e1] at this;omega
   obtain ⟨e,he,rfl⟩:=hex;by_cases q:e.1=o.1
   . exact ⟨cV r o,(gD h.pz ho).2 (.inl rfl),q.symm⟩
   . exact ⟨e,(gD h.pz ho).2 (.inr ⟨he,q⟩),rfl⟩
 . rcases (gD h.pz ho).1 zQ with rfl|⟨zQ,q⟩
   . have ho1:=h.op o ho
     refine ⟨ho1.id, ?_,ho1.kind⟩;have:=hN o.1;show r=((mY _ o.1:Nat):Int)∧0<mY _ o.1;rcases hw with ⟨e1,e2,e3⟩|⟨e1,e2⟩
     . rw [aaK e1,aap (by omega)] at this
       rw [aaK e2] at hr;omega
     . rw [aap (by omega),aaK e2] at this
       rw [aap (by omega)] at hr;omega
   . refine (h.op o' zQ).mono ?_ (fun y hy _ _=>⟨y,hy,rfl⟩) fun y hy _ _=>⟨y,hy,rfl,abD _⟩
     have h2:=hN o'.1;have h3:=(h.op o' zQ).id;have e1:¬ w=o'.1:=by rcases hw with ⟨e1,_⟩|⟨e1,_⟩<;>omega
     have e2:¬ v=o'.1:=by rcases hw with ⟨_,e1,_⟩|⟨_,e1⟩<;>omega
     rw [aap e1,aap e2] at h2;omega
abbrev BP (os:List ah) (v:Int):=os.filter fun o=>al o != v
theorem ow {v:Int} {e:ah}:e∈BP os v↔e∈os∧e.1≠v:=by
 rw [List.mem_filter];unfold al;simp
abbrev Lh (a:List ag) (v:Int):=a.filter fun y=>aC y != v
theorem yP {a:List ag} {v:Int} {y:ag}:y∈Lh a v↔y∈a∧y.1≠v:=by
 rw [List.mem_filter];unfold aC;simp
theorem Inv.shut (h:Inv x tl nx tk pg ps os pi fi rd ou) (hp:p∈ps) (h1:cQ p=1) {k:Nat} (hk:(aA p)[k]? =some o.1) (ho:o∈os) (h0:bN o=1) (fH:pi'.Sublist pi) (PL:∀ e∈os,e.1≠o.1→bK e=3∨bK e=4→∀ y∈pi,y.1=ct e→y∈pi')
  (CE:∀ y∈pi',(bK o=3∨bK o=4)→y.1=ct o→∃ e∈os,e.1≠o.1∧(bK e=3∨bK e=4)∧ct e=y.1):Inv x tl nx tk pg (bO ps p.1 (cm ((aA p).set k (-1)))) (BP os o.1) pi' fi rd ou:=by
 have eI:=(h.op o ho).id;have Ur:=(h.op o ho).refs;have hN:=Eh h.cT hp hk (-1);refine h.PK hp h1 (by rw [aag];exact (h.loc p hp).fds) (fun y hy hc=> ?_) ((show (os.map al).Pairwise (· < ·) from h.pz).sublist (List.filter_sublist.map al)) (fun o' zQ=> ?_) ((show (pi.map aC).Pairwise (· < ·) from h.xP).sublist (fH.map aC)) fun y hy=> ?_
 . have ov:=hN y
   rw [aap (show ¬ (-1:Int)=y by omega)] at ov;have dW:y≠o.1:=fun e=>by
    subst e;rw [aaK rfl] at ov;omega
   obtain ⟨e,he,rfl⟩:=h.yO hy (by omega);exact ⟨e,ow.2 ⟨he,dW⟩,rfl⟩
 . obtain ⟨zQ,q⟩:=ow.1 zQ
   refine (h.op o' zQ).mono ?_ (fun y hy hk e=>⟨y,PL o' zQ q hk y hy e,rfl⟩) fun y hy _ _=>⟨y,hy,rfl,abD _⟩
   have h2:=hN o'.1;have h3:=(h.op o' zQ).id;rw [aap (by omega),aap (by omega)] at h2;omega
 . have Gq:=h.uw y (fH.subset hy)
   obtain ⟨e,he,k1,t1⟩:=Gq.ends;refine ⟨Gq.id,Gq.data, ?_⟩;by_cases q:e.1=o.1
   . obtain rfl:=h.pz.inj he ho q
     obtain ⟨e2,h2,h3,h4,h5⟩:=CE y hy k1 t1.symm;exact ⟨e2,ow.2 ⟨h2,h3⟩,h4,h5⟩
   . exact ⟨e,ow.2 ⟨he,q⟩,k1,t1⟩
theorem Inv.abL (h:Inv x tl nx tk pg ps os pi fi rd ou) (hp:p∈ps) (h1:cQ p=1) {k:Nat} (hk:(aA p)[k]? =some (-1)) (eI:0≤o.1∧o.1≤7) (jT:∀ e∈os,e.1≠o.1) (hr:bN o=1)
  (agC:bK o=2∧(∃ f∈fi,f.1=ct o∧0≤ff o∧ff o≤(f.2.1.length:Nat))∨(bK o=3∨bK o=4)∧(∃ x∈pi',x.1=ct o)∧ff o=0) (uw:∀ y∈pi',y∈pi∨(y.1=ct o∧(bK o=3∨bK o=4)∧(0≤y.1∧y.1≤2)∧y.2.1=[])) (fH:∀ y∈pi,y∈pi') (xP:bS aC pi'):
  Inv x tl nx tk pg (bO ps p.1 (cm ((aA p).set k o.1))) (bL al o os) pi' fi rd ou:=by
 have hN:=Eh h.cT hp hk o.1;have hz:mY ps o.1=0:=by
  rcases Nat.eq_zero_or_pos (mY ps o.1) with e|e
  . exact e
  . obtain ⟨e',he,q⟩:=h.yO (by omega) e
    exact absurd q (jT e' he)
 refine h.PK hp h1 (by rw [aag];exact (h.loc p hp).fds) (fun y hy hc=> ?_) (gV h.pz jT) (fun o' zQ=> ?_) xP fun y hy=> ?_
 . by_cases e:y=o.1
   . exact ⟨o,dq.2 (.inl rfl),e.symm⟩
   . have ov:=hN y
     rw [aap (by omega),aap (by omega)] at ov;obtain ⟨e',he,rfl⟩:=h.yO hy (by omega);exact ⟨e',dq.2 (.inr he),rfl⟩
 . rcases dq.1 zQ with rfl|zQ
   . have:=hN o'.1
     rw [aap (by omega),aaK rfl] at this;exact ⟨eI,by omega, .inr agC⟩
   . refine (h.op o' zQ).mono ?_ (fun y hy hk e=>⟨y,fH y hy,rfl⟩) fun y hy _ _=>⟨y,hy,rfl,abD _⟩
     have h2:=hN o'.1;have h3:=(h.op o' zQ).id;have h4:=jT o' zQ;rw [aap (by omega),aap (by omega)] at h2;omega
 . rcases uw y hy with Gq|⟨e1,e2,e3,e4⟩
   . have Gq:=h.uw y Gq
     obtain ⟨e,he,k1,t1⟩:=Gq.ends;exact ⟨Gq.id,Gq.data,e,dq.2 (.inr he),k1,t1⟩
   . exact ⟨e3,by rw [e4];exact ⟨afO _,rfl⟩,o,dq.2 (.inl rfl),e2,e1.symm⟩
theorem Inv.perm (h:Inv x tl nx tk pg ps os pi fi rd ou) (hr:rd'.Perm rd):Inv x tl nx tk pg ps os pi fi rd' ou:={ h with Gp:=hr.trans h.Gp }
theorem Inv.out (h:Inv x tl nx tk pg ps os pi fi rd ou) {v:Int} (hl:ou.length<60) (hv:b6 v=true):Inv x tl nx tk pg ps os pi fi rd (ou++[v]):=
 { h with yN:=⟨by rw [aao];show ou.length+1≤60;omega,by have:=h.yN.2;unfold aG at this ⊢; rw [afW,this];simp [hv]⟩ }
theorem Inv.tick (h:Inv x tl nx tk pg ps os pi fi rd ou) (hl:tk<1000000):Inv x tl nx (tk+1) pg ps os pi fi rd ou:={ h with xO:=by have:=h.xO;omega }
theorem Inv.agD {tl':Int} (h:Inv x tl nx tk pg ps os pi fi rd ou) (hl:∀ p∈ps,cQ p=2→tl'<pO p):Inv x tl' nx tk pg ps os pi fi rd ou:=
 { h with ctx:=fun p hp=>{ h.ctx p hp with Uq:=hl p hp } }
theorem Inv.file (h:Inv x tl nx tk pg ps os pi fi rd ou) {y:ag} (hy:y∈fi) {d:List Int} (hd:y.2.1.length≤d.length) (h8:d.length≤8) (hw:aG d=true):Inv x tl nx tk pg ps os pi (ca aV fi y.1 (fu d)) rd ou:=by
 refine { h with op:=fun o ho=> ?_,zO:=dR h.zO fun _ _ _=>rfl,Gn:=fun z hz=> ?_ }
 . refine (h.op o ho).mono rfl (fun z hz _ _=>⟨z,hz,rfl⟩) fun z hz _ _=> ?_
   by_cases k:aV z=y.1
   . obtain rfl:=h.zO.inj hz hy k
     exact ⟨fu d z,gh.2 ⟨z,hz,aaK rfl⟩,rfl,hd⟩
   . exact ⟨z,gh.2 ⟨z,hz,aap k⟩,rfl,abD _⟩
 . obtain ⟨z0,hz0,e⟩:=gh.1 hz
   by_cases k:aV z0=y.1
   . rw [aaK k] at e
     subst e;have:=h.Gn z0 hz0;unfold fw at this ⊢;simp only [aaE,ack] at this ⊢;exact ⟨this.1,h8,hw⟩
   . rw [aap k] at e
     subst e;exact h.Gn z0 hz0
theorem Inv.cK (h:Inv x tl nx tk pg ps os pi fi rd ou) (ho:o∈os) {v:Int} (hk:bK o=2) (hv:∀ y∈fi,y.1=ct o→0≤v∧v≤(y.2.1.length:Nat)):Inv x tl nx tk pg ps (ca al os o.1 (wH v)) pi fi rd ou:=by
 have hm:∀ {w:Int},(∃ e∈os,e.1=w)→∃ e∈ca al os o.1 (wH v),e.1=w:=fun ⟨e,he,hw⟩=>by
  by_cases q:e.1=o.1
  . exact ⟨wH v o,(gD h.pz ho).2 (.inl rfl),q.symm.trans hw⟩
  . exact ⟨e,(gD h.pz ho).2 (.inr ⟨he,q⟩),hw⟩
 refine { h with pz:=dR h.pz fun _ _ _=>rfl,ctx:=fun p hp=> ?_,op:=fun o' zQ=> ?_,uw:=fun y hy=>GH.Z3 h.pz ho rfl rfl rfl (h.uw y hy) }
 . have hc:=h.ctx p hp
   exact ⟨hc.pid,fun f hf=>(hc.fds f hf).imp id hm,hc.par,hc.Uq,fun e=>⟨(hc.wt e).1,hm (hc.wt e).2⟩⟩
 . rcases (gD h.pz ho).1 zQ with rfl|⟨zQ,_⟩
   . have h1:=h.op o ho
     refine ⟨h1.id,h1.refs, .inr (.inl ⟨hk, ?_⟩)⟩;rcases h1.kind with ⟨e,_⟩|⟨_,y,hy,e,_⟩|⟨e,_⟩
     . omega
     . exact ⟨y,hy,e,hv y hy e⟩
     . omega
   . exact h.op o' zQ
theorem Inv.Li (h:Inv x tl nx tk pg ps os pi fi rd ou) {v:Int} {d:List Int} (h8:d.length≤4) (hw:aG d=true):Inv x tl nx tk pg ps os (ca aC pi v (fu d)) fi rd ou:=by
 have hm:∀ z∈pi,∃ z'∈ca aC pi v (fu d),z'.1=z.1:=fun z hz=>by
  by_cases k:aC z=v
  . exact ⟨fu d z,gh.2 ⟨z,hz,aaK k⟩,rfl⟩
  . exact ⟨z,gh.2 ⟨z,hz,aap k⟩,rfl⟩
 refine { h with xP:=dR h.xP fun _ _ _=>rfl,uw:=fun z hz=> ?_,op:=fun o ho=>(h.op o ho).mono rfl (fun z hz _ _=>hm z hz) fun z hz _ _=>⟨z,hz,rfl,abD _⟩ };obtain ⟨z0,hz0,e⟩:=gh.1 hz;by_cases k:aC z0=v
 . rw [aaK k] at e
   subst e;have:=h.uw z0 hz0;exact ⟨this.id,⟨h8,hw⟩,this.ends⟩
 . rw [aap k] at e
   subst e;exact h.uw z0 hz0
theorem Inv.make (h:Inv x tl nx tk pg ps os pi fi rd ou) {v:Int} (hv:0≤v∧v≤5) (hn:∀ y∈fi,y.1≠v):Inv x tl nx tk pg ps os pi (bL aV (v,[],()) fi) rd ou:=by
 refine { h with zO:=gV h.zO hn,Gn:=fun z hz=> ?_,op:=fun o ho=>(h.op o ho).mono rfl (fun z hz _ _=>⟨z,hz,rfl⟩) fun z hz _ _=>⟨z,dq.2 (.inr hz),rfl,abD _⟩ };rcases dq.1 hz with rfl|hz
 . unfold fw
   simp only [aaE,fF,ack];exact ⟨hv,afO _,rfl⟩
 . exact h.Gn z hz
theorem Inv.unlink (h:Inv x tl nx tk pg ps os pi fi rd ou) {v:Int} (hn:∀ o∈os,bK o=2→ct o≠v):Inv x tl nx tk pg ps os pi (Lh fi v) rd ou:=by
 refine { h with zO:=(show (fi.map aV).Pairwise (· < ·) from h.zO).sublist (List.filter_sublist.map aV),Gn:=fun z hz=>h.Gn z (yP.1 hz).1,op:=fun o ho=>(h.op o ho).mono rfl (fun z hz _ _=>⟨z,hz,rfl⟩) fun z hz k e=>⟨z,yP.2 ⟨hz,fun e'=>hn o ho k (e.symm.trans e')⟩,rfl,abD _⟩ }
def lO (nx:Int) (p:af):af:=(nx,p.1,1,p.2.2.2.1,p.2.2.2.2.1,p.2.2.2.2.2.1,p.2.2.2.2.2.2.1,0,0,())
def cB (l:List Int) (os:List ah):List ah:=os.map fun o=>cV (bN o+(l.count o.1:Nat)) o
theorem Inv.fork (h:Inv 0 tl nx tk pg ps os pi fi rd ou) (hp:p∈ps) (h1:cQ p=1) (hn:nx<100000) (h6:ps.length<6) (ht:my ps+(cp p).length≤64):
  Inv 0 tl (nx+1) tk pg (ps++[lO nx p]) (cB (aA p) os) pi fi (rd++[nx]) ou:=by
 have hc:=h.ctx p hp;have l:=h.loc p hp;have hm:∀ {w:Int},(∃ e∈os,e.1=w)→∃ e∈cB (aA p) os,e.1=w:=fun ⟨e,he,hw⟩=>⟨_,afY he,hw⟩
 have hN:∀ id,mY (ps++[lO nx p]) id=mY ps id+(aA p).count id:=fun id=>by
  rw [lN,nv];rfl
 refine ⟨by have:=h.GI;omega,h.xO,h.uv,h.yN,by rw [aao];show ps.length+1≤6;omega, ?_, ?_,fun q hq=> ?_,fun q hq=> ?_, ?_,fun o ho=> ?_,h.xP,fun y hy=> ?_,h.zO,h.Gn, ?_⟩
 . rw [kb,nw];exact ht
 . unfold bS
   rw [ag5,List.pairwise_append];refine ⟨h.cT,by simp,fun a ha b hb=> ?_⟩;obtain ⟨q,hq,rfl⟩:=List.mem_map.1 ha;simp only [acX,af8,adi] at hb;subst hb;exact (h.ctx q hq).pid.2
 . rcases aaN.1 hq with hq|hq
   . exact h.loc q hq
   . rw [adi] at hq
     subst hq;exact ⟨by show (1:Int)≤1∧(1:Int)≤6;omega,l.pg,l.kP,l.mem,l.fds,by show b6 0=true;rfl,fun e=>absurd (show (1:Int)=6 from e) (by omega),fun _=>⟨rfl,fun _=>(l.live (by omega)).2 (by have:=hc.pid.1;omega)⟩,fun _=>rfl⟩
 . rcases aaN.1 hq with hq|hq
   . have hc:=h.ctx q hq
     refine ⟨by have:=hc.pid;omega,fun f hf=>(hc.fds f hf).imp id hm, ?_,hc.Uq,fun e=>⟨(hc.wt e).1,hm (hc.wt e).2⟩⟩;rcases hc.par with e|⟨e,r,hr,q1⟩
     . exact .inl e
     . exact .inr ⟨e,r,afU _ hr,q1⟩
   . rw [adi] at hq
     subst hq;refine ⟨by have:=h.GI;show 1≤nx∧nx<nx+1;omega,fun f hf=>(hc.fds f hf).imp id hm, .inr ⟨?_,p,afU _ hp,rfl,by omega⟩,fun e=>absurd (show (1:Int)=2 from e) (by omega),fun e=>absurd (show (1:Int)=4∨(1:Int)=5 from e) (by omega)⟩;show p.1≠nx;have:=hc.pid.2;omega
 . have e:(cB (aA p) os).map al=os.map al:=by
    unfold cB;rw [List.map_map];rfl
   unfold bS;rw [e];exact h.pz
 . obtain ⟨e,he,rfl⟩:=List.mem_map.1 ho
   have h1:=h.op e he;refine ⟨h1.id, ?_,h1.kind⟩;show bN e+_=((mY _ e.1:Nat):Int)∧0<mY _ e.1;rw [hN];have:=h1.refs;omega
 . have Gq:=h.uw y hy
   obtain ⟨e,he,k1,t1⟩:=Gq.ends;exact ⟨Gq.id,Gq.data,_,afY he,k1,t1⟩
 . rw [gi]
   exact List.Perm.append h.Gp (List.Perm.refl _)
end
end
section
open Go Go.ChangeShapes Go.WideShapes Go.ChangeAt Go.RowKit
abbrev abM:=(t13×Unit)×XI
def Ei:t13×t12×Unit→Out abM
|(a0,a1,_)=>
 .get (fI ((a0.1,a0.2.1,a0.2.2.1,a0.2.2.2.1,a0.2.2.2.2.1,a0.2.2.2.2.2.1,a0.2.2.2.2.2.2.1,a0.2.2.2.2.2.2.2.1,a0.2.2.2.2.2.2.2.2.1,()),a1,())) fun ((eu,_),_)=>
 .ite (decide (List.length a0.2.2.2.2.2.2.2.2.2.1+List.length ([a1]:List ((Int×Int×Int×Int×List Int×Unit)))≤bV))
 (.ret (((eu.1,eu.2.1,eu.2.2.1,eu.2.2.2.1,eu.2.2.2.2.1,eu.2.2.2.2.2.1,eu.2.2.2.2.2.2.1,eu.2.2.2.2.2.2.2.1,eu.2.2.2.2.2.2.2.2.1,(a0.2.2.2.2.2.2.2.2.2.1++([a1]:List ((Int×Int×Int×Int×List Int×Unit)))),()),()),((),(),())))
 .fail
def bB (x:t13×t12×Unit):=(Ei x).eval
def ny:bM:=cw 226 false [i13,i12] [none,none] [i13] Ei
theorem eS:ny.Ok Tryz.prog:=bA bF [] [] [k38] ⟨abN,trivial⟩ (fun _=>none) Tryz.f226 [.cell 4 154] fun x=>by kernel_rfl
abbrev abO:=(t12×Unit)×(Unit×Unit×XI)
def PM:t1×t1×t1×t1×Unit→Out abO
|(a0,a1,a2,a3,_)=>
 .ret (((a0.1,a1.1,a2.1,a3.1,([]:List Int),()),()),((),(),(),(),()))
def bX (x:t1×t1×t1×t1×Unit):=(PM x).eval
def pB:bM:=cw 227 false [i1,i1,i1,i1] [none,none,none,none] [i12] PM
theorem fJ:pB.Ok Tryz.prog:=bA bF [] [] [] trivial (fun _=>none) Tryz.f227 [.cell 8 33] fun x=>by kernel_rfl
abbrev U3:=(t13×Unit)×(Unit×XI)
def yQ:t13×t1×t7×Unit→Out U3
|(a0,a1,a2,_)=>
 .ite (decide (List.length ([]:List Int)+List.length a2.2.1≤bV))
 (.get (bB (a0,(1,a1.1,a2.1,0,(([]:List Int)++a2.2.1),()),())) fun ((eu,_),_)=>
 .ret ((eu,()),((),(),(),())))
 .fail
def yR (x:t13×t1×t7×Unit):=(yQ x).eval
def Lj:bM:=cw 243 false [i13,i1,i7] [none,none,none] [i13] yQ
theorem zR:Lj.Ok Tryz.prog:=bA bF [264] [(264,1)] [ny] ⟨eS,trivial⟩ (fun _=>none) Tryz.f243 [.cell 6 154] fun x=>by kernel_rfl
abbrev abP:=(t13×Unit)×(Unit×XI)
def PN:t13×t1×t14×Unit→Out abP
|(a0,a1,a2,_)=>
 .ite (decide (List.length ([]:List Int)+List.length a2.2.1≤bV))
 (.get (bB (a0,(1,a1.1,a2.1,0,(([]:List Int)++a2.2.1),()),())) fun ((eu,_),_)=>
 .ret ((eu,()),((),(),(),())))
 .fail
def PO (x:t13×t1×t14×Unit):=(PN x).eval
def agE:bM:=cw 243 false [i13,i1,i14] [none,none,none] [i13] PN
theorem U4:agE.Ok Tryz.prog:=bA bF [264] [(264,1)] [ny] ⟨eS,trivial⟩ (fun _=>none) Tryz.f243 [.cell 6 154] fun x=>by kernel_rfl
abbrev U5:=(t13×Unit)×(Unit×Unit×XI)
def yS:t13×t1×t7×t1×Unit→Out U5
|(a0,a1,a2,a3,_)=>
 .ite (decide (List.length ([]:List Int)+List.length a2.2.1≤bV))
 (.ite (decide (0≤(0:Int)∧(0:Int)<((List.length (([]:List Int)++a2.2.1):Nat):Int)))
 (.get (nth (([]:List Int)++a2.2.1) (Int.toNat (0:Int))) fun _=>
 .get (yR (a0,a1,(a2.1,(List.set (([]:List Int)++a2.2.1) (Int.toNat (0:Int)) a3.1),()),())) fun ((b9,_),_)=>
 .ret ((b9,()),((),(),(),(),())))
 .fail)
 .fail
def Lk (x:t13×t1×t7×t1×Unit):=(yS x).eval
def Z5:bM:=cw 271 false [i13,i1,i7,i1] [none,none,none,none] [i13] yS
theorem PQ:Z5.Ok Tryz.prog:=bA bF [] [] [Lj] ⟨zR,trivial⟩ (fun _=>none) Tryz.f271 [.cell 8 154] fun x=>by kernel_rfl
abbrev abQ:=(t13×Unit)×(Unit×Unit×XI)
def PR:t13×t1×t14×t1×Unit→Out abQ
|(a0,a1,a2,a3,_)=>
 .ite (decide (List.length ([]:List Int)+List.length a2.2.1≤bV))
 (.ite (decide (0≤(0:Int)∧(0:Int)<((List.length (([]:List Int)++a2.2.1):Nat):Int)))
 (.get (nth (([]:List Int)++a2.2.1) (Int.toNat (0:Int))) fun _=>
 .get (yR (a0,a1,(a2.1,(List.set (([]:List Int)++a2.2.1) (Int.toNat (0:Int)) a3.1),()),())) fun ((b9,_),_)=>
 .ret ((b9,()),((),(),(),(),())))
 .fail)
 .fail
def bE (x:t13×t1×t14×t1×Unit):=(PR x).eval
def uB:bM:=cw 271 false [i13,i1,i14,i1] [none,none,none,none] [i13] PR
theorem iM:uB.Ok Tryz.prog:=bA bF [] [] [Lj] ⟨zR,trivial⟩ (fun _=>none) Tryz.f271 [.cell 8 154] fun x=>by kernel_rfl
abbrev abR:=(t13×Unit)×(Unit×Unit×Unit×XI)
def Ej:t13×t1×t14×t1×t1×Unit→Out abR
|(a0,a1,a2,a3,a4,_)=>
 .ite (decide (List.length ([]:List Int)+List.length a2.2.1≤bV))
 (.ite (decide (0≤(1:Int)∧(1:Int)<((List.length (([]:List Int)++a2.2.1):Nat):Int)))
 (.get (nth (([]:List Int)++a2.2.1) (Int.toNat (1:Int))) fun _=>
 .get (Lk (a0,a1,(a2.1,(List.set (([]:List Int)++a2.2.1) (Int.toNat (1:Int)) a4.1),()),a3,())) fun ((b9,_),_)=>
 .ret ((b9,()),((),(),(),(),(),())))
 .fail)
 .fail
def wI (x:t13×t1×t14×t1×t1×Unit):=(Ej x).eval
def U6:bM:=cw 302 false [i13,i1,i14,i1,i1] [none,none,none,none,none] [i13] Ej
theorem Ek:U6.Ok Tryz.prog:=bA bF [] [] [Z5] ⟨PQ,trivial⟩ (fun _=>none) Tryz.f302 [.cell 10 154] fun x=>by kernel_rfl
abbrev abS:=(t13×Unit)×(Unit×Unit×XI)
def El:t13×t1×t1×t1×Unit→Out abS
|(a0,a1,a2,a3,_)=>
 .get (bX ((3,()),a1,a2,a3,())) fun ((eu,_),_)=>
 .get (bB (a0,eu,())) fun ((b9,_),_)=>
 .get (bX ((22,()),a1,(0,()),(0,()),())) fun ((dF,_),_)=>
 .get (bB (b9,dF,())) fun ((gA,_),_)=>
 .ret ((gA,()),((),(),(),(),()))
def wJ (x:t13×t1×t1×t1×Unit):=(El x).eval
def PS:bM:=cw 303 false [i13,i1,i1,i1] [none,none,none,none] [i13] El
theorem yT:PS.Ok Tryz.prog:=bA bF [] [] [pB,ny] ⟨fJ,eS,trivial⟩ (fun _=>none) Tryz.f303 [.cell 8 154] fun x=>by kernel_rfl
abbrev abT:=(t13×Unit)×XI
def Em:t13×t1×Unit→Out abT
|(a0,a1,_)=>
 .get (bX ((3,()),a1,(1,()),(0,()),())) fun ((eu,_),_)=>
 .get (bB (a0,eu,())) fun ((b9,_),_)=>
 .get (bX ((21,()),a1,(0,()),(0,()),())) fun ((dF,_),_)=>
 .get (bB (b9,dF,())) fun ((gA,_),_)=>
 .ret ((gA,()),((),(),()))
def pU (x:t13×t1×Unit):=(Em x).eval
def U7:bM:=cw 228 false [i13,i1] [none,none] [i13] Em
theorem En:U7.Ok Tryz.prog:=bA bF [] [] [pB,ny] ⟨fJ,eS,trivial⟩ (fun _=>none) Tryz.f228 [.cell 4 154] fun x=>by kernel_rfl
abbrev abU:=(t10×Unit)×(Unit×Unit)
def Eo:t1×Unit→Out abU
|(a0,_)=>
 .ite (((a0.1==3))==false)
 (.ret (((((a0.1==4)),()),()),((),())))
 (.ret (((true,()),()),((),())))
def Ep (x:t1×Unit):=(Eo x).eval
def abV:bM:=cw 300 true [i1] [none] [i10] Eo
theorem Ll:abV.Ok Tryz.prog:=bA eo [] [] [] trivial (fun _=>none) Tryz.f300 [.tmp 2] fun x=>by kernel_rfl
abbrev abW:=(t13×Unit)×XI
abbrev Lm:=(Int×Int×Unit)×((Int×Int×Unit)×(Int×Int×Unit)×List Int×List (List aw)×List af×List ah×List ag×List ag×List Int×List Int×List ((Int×Int×Int×Int×List Int×Unit))×List (List aw)×List af×List ah×List ag×List ag×List Int×List Int×List ((Int×Int×Int×Int×List Int×Unit))×Unit)
def mD:Lm→Out (Round Lm ((Unit)×((Int×Int×Unit)×(Int×Int×Unit)×List Int×List (List aw)×List af×List ah×List ag×List ag×List Int×List Int×List ((Int×Int×Int×Int×List Int×Unit))×List (List aw)×List af×List ah×List ag×List ag×List Int×List Int×List ((Int×Int×Int×Int×List Int×Unit))×Unit)) Empty)
|((p0,p1,_),(p2,p3,_),(p4,p5,_),p6,p7,p8,p9,cz,cE,dp,dh,du,cP,dG,dX,ep,eZ,fR,fZ,jm,_)=>
 .ite (decide (p1<((List.length p8:Nat):Int)))
 (.ite (decide (0≤p1∧p1<((List.length p8:Nat):Int)))
 (.get (nth p8 (Int.toNat p1)) fun y1=>
 .ite (((y1.2.2.1==4))==false)
 (.ite (((y1.2.2.1==5))==true)
 (.ite ((decide ((aF p9 y1.2.2.2.2.2.2.2.1)≥(0:Int)))==true)
 (.ite (decide (0≤(aF p9 y1.2.2.2.2.2.2.2.1)∧(aF p9 y1.2.2.2.2.2.2.2.1)<((List.length p9:Nat):Int)))
 (.get (nth p9 (Int.toNat (aF p9 y1.2.2.2.2.2.2.2.1))) fun y2=>
 .get (Ep ((y2.2.1,()),())) fun ((dF,_),_)=>
 .ite (dF.1==true)
 (.ite (decide (0≤(aF p9 y1.2.2.2.2.2.2.2.1)∧(aF p9 y1.2.2.2.2.2.2.2.1)<((List.length p9:Nat):Int)))
 (.get (nth p9 (Int.toNat (aF p9 y1.2.2.2.2.2.2.2.1))) fun y4=>
 .ite ((y4.2.2.1==p0))
 (.ite (decide (List.length p6+List.length ([y1.1]:List Int)≤bV))
 (.ret (.again ((p0,(IntKind.i64.wrap (p1+1)),()),((p2,p3,()),(p4,p5,()),(p6++([y1.1]:List Int)),p7,p8,p9,cz,cE,dp,dh,du,cP,dG,dX,ep,eZ,fR,fZ,jm,()))))
 .fail)
 (.ret (.again ((p0,(IntKind.i64.wrap (p1+1)),()),((p2,p3,()),(p4,p5,()),p6,p7,p8,p9,cz,cE,dp,dh,du,cP,dG,dX,ep,eZ,fR,fZ,jm,())))))
 .fail)
 (.ret (.again ((p0,(IntKind.i64.wrap (p1+1)),()),((p2,p3,()),(p4,p5,()),p6,p7,p8,p9,cz,cE,dp,dh,du,cP,dG,dX,ep,eZ,fR,fZ,jm,())))))
 .fail)
 (.ret (.again ((p0,(IntKind.i64.wrap (p1+1)),()),((p2,p3,()),(p4,p5,()),p6,p7,p8,p9,cz,cE,dp,dh,du,cP,dG,dX,ep,eZ,fR,fZ,jm,())))))
 (.ret (.again ((p0,(IntKind.i64.wrap (p1+1)),()),((p2,p3,()),(p4,p5,()),p6,p7,p8,p9,cz,cE,dp,dh,du,cP,dG,dX,ep,eZ,fR,fZ,jm,())))))
 (.ite ((decide ((aF p9 y1.2.2.2.2.2.2.2.1)≥(0:Int)))==true)
 (.ite (decide (0≤(aF p9 y1.2.2.2.2.2.2.2.1)∧(aF p9 y1.2.2.2.2.2.2.2.1)<((List.length p9:Nat):Int)))
 (.get (nth p9 (Int.toNat (aF p9 y1.2.2.2.2.2.2.2.1))) fun y5=>
 .get (Ep ((y5.2.1,()),())) fun ((lp,_),_)=>
 .ite (lp.1==true)
 (.ite (decide (0≤(aF p9 y1.2.2.2.2.2.2.2.1)∧(aF p9 y1.2.2.2.2.2.2.2.1)<((List.length p9:Nat):Int)))
 (.get (nth p9 (Int.toNat (aF p9 y1.2.2.2.2.2.2.2.1))) fun y7=>
 .ite ((y7.2.2.1==p0))
 (.ite (decide (List.length p6+List.length ([y1.1]:List Int)≤bV))
 (.ret (.again ((p0,(IntKind.i64.wrap (p1+1)),()),((p2,p3,()),(p4,p5,()),(p6++([y1.1]:List Int)),p7,p8,p9,cz,cE,dp,dh,du,cP,dG,dX,ep,eZ,fR,fZ,jm,()))))
 .fail)
 (.ret (.again ((p0,(IntKind.i64.wrap (p1+1)),()),((p2,p3,()),(p4,p5,()),p6,p7,p8,p9,cz,cE,dp,dh,du,cP,dG,dX,ep,eZ,fR,fZ,jm,())))))
 .fail)
 (.ret (.again ((p0,(IntKind.i64.wrap (p1+1)),()),((p2,p3,()),(p4,p5,()),p6,p7,p8,p9,cz,cE,dp,dh,du,cP,dG,dX,ep,eZ,fR,fZ,jm,())))))
 .fail)
 (.ret (.again ((p0,(IntKind.i64.wrap (p1+1)),()),((p2,p3,()),(p4,p5,()),p6,p7,p8,p9,cz,cE,dp,dh,du,cP,dG,dX,ep,eZ,fR,fZ,jm,()))))))
 .fail)
 (.ret (.out ((),((p2,p3,()),(p4,p5,()),p6,p7,p8,p9,cz,cE,dp,dh,du,cP,dG,dX,ep,eZ,fR,fZ,jm,()))))
abbrev Ln:=(Int×Unit)×((Int×Int×Unit)×(Int×Int×Unit)×List Int×List (List aw)×List af×List ah×List ag×List ag×List Int×List Int×List ((Int×Int×Int×Int×List Int×Unit))×List (List aw)×List af×List ah×List ag×List ag×List Int×List Int×List ((Int×Int×Int×Int×List Int×Unit))×Unit)
def qY:Ln→Out (Round Ln ((Unit)×((Int×Int×Unit)×(Int×Int×Unit)×List (List aw)×List af×List ah×List ag×List ag×List Int×List Int×List ((Int×Int×Int×Int×List Int×Unit))×List (List aw)×List af×List ah×List ag×List ag×List Int×List Int×List ((Int×Int×Int×Int×List Int×Unit))×Unit)) Empty)
|((p0,_),(p1,p2,_),(p3,p4,_),p5,p6,p7,p8,p9,cz,cE,dp,dh,du,cP,dG,dX,ep,eZ,fR,fZ,_)=>
 .ite (decide (p0<((List.length p5:Nat):Int)))
 (.ite (decide (0≤p0∧p0<((List.length p5:Nat):Int)))
 (.get (nth p5 (Int.toNat p0)) fun y1=>
 .get (pU ((p1,p2,p6,p7,p8,p9,cz,cE,dp,dh,()),(y1,()),())) fun ((b9,_),_)=>
 .ret (.again (((IntKind.i64.wrap (p0+1)),()),((b9.1,b9.2.1,()),(p3,p4,()),p5,b9.2.2.1,b9.2.2.2.1,b9.2.2.2.2.1,b9.2.2.2.2.2.1,b9.2.2.2.2.2.2.1,b9.2.2.2.2.2.2.2.1,b9.2.2.2.2.2.2.2.2.1,b9.2.2.2.2.2.2.2.2.2.1,du,cP,dG,dX,ep,eZ,fR,fZ,()))))
 .fail)
 (.ret (.out ((),((p1,p2,()),(p3,p4,()),p6,p7,p8,p9,cz,cE,dp,dh,du,cP,dG,dX,ep,eZ,fR,fZ,()))))
def Er:t13×t1×Unit→Out abW
|(a0,a1,_)=>
 .get (b5 mD bn ((a1.1,0,()),((a0.1,a0.2.1,()),(0,0,()),([]:List Int),a0.2.2.1,a0.2.2.2.1,a0.2.2.2.2.1,a0.2.2.2.2.2.1,a0.2.2.2.2.2.2.1,a0.2.2.2.2.2.2.2.1,a0.2.2.2.2.2.2.2.2.1,a0.2.2.2.2.2.2.2.2.2.1,([]:List (List aw)),([]:List af),([]:List ah),([]:List ag),([]:List ag),([]:List Int),([]:List Int),([]:List ((Int×Int×Int×Int×List Int×Unit))),()))) fun (_,(Es,yr,_),(yu,yv,_),uC,yw,wK,yx,BX,BY,BZ,U8,U9,akx,aky,akz,akA,akB,akC,akD,akE,_)=>
 .get (b5 qY bn ((0,()),((Es,yr,()),(yu,yv,()),uC,yw,wK,yx,BX,BY,BZ,U8,U9,akx,aky,akz,akA,akB,akC,akD,akE,()))) fun (_,(Jh,Ji,_),_,Jj,Jk,Eb,Jl,Jm,Ec,Jn,Jo,_)=>
 .ret (((Jh,Ji,Jj,Jk,Eb,Jl,Jm,Ec,Jn,Jo,()),()),((),(),()))
def zS (x:t13×t1×Unit):=(Er x).eval
abbrev qZ:List (Nat×dT):=[(64000000, .var [.i .i64, .i .i64, .aP 64000003, .aP 64000004, .aP 64000005, .aP 64000006, .aP 64000007, .aP 64000008, .aP 64000009, .aP 64000010]),(64000001, .var [.i .i64, .i .i64, .aP 64000011, .aP 64000012, .aP 64000013, .aP 64000014, .aP 64000015, .aP 64000016, .aP 64000017, .aP 64000018]),(64000002, .arr br),(64000003, .arr (.fz b8)),(64000004, .arr eM),(64000005, .arr cH),(64000006, .arr bW),(64000007, .arr bW),(64000008, .arr br),(64000009, .arr br),(64000010, .arr ld),(64000011, .arr (.fz b8)),(64000012, .arr eM),(64000013, .arr cH),(64000014, .arr bW),(64000015, .arr bW),(64000016, .arr br),(64000017, .arr br),(64000018, .arr ld)]
abbrev uD:List (Nat×dT):=[(64000000, .var [.i .i64, .i .i64, .aP 64000002, .aP 64000003, .aP 64000004, .aP 64000005, .aP 64000006, .aP 64000007, .aP 64000008, .aP 64000009]),(64000001, .var [.i .i64, .i .i64, .aP 64000010, .aP 64000011, .aP 64000012, .aP 64000013, .aP 64000014, .aP 64000015, .aP 64000016, .aP 64000017]),(64000002, .arr (.fz b8)),(64000003, .arr eM),(64000004, .arr cH),(64000005, .arr bW),(64000006, .arr bW),(64000007, .arr br),(64000008, .arr br),(64000009, .arr ld),(64000010, .arr (.fz b8)),(64000011, .arr eM),(64000012, .arr cH),(64000013, .arr bW),(64000014, .arr bW),(64000015, .arr br),(64000016, .arr br),(64000017, .arr ld)]
def abX:Nat→Option aq:=fun n=>bU [(0,⟨⟨[.dead, .i .i64, .vptr 64000000 0, .dead, .vptr 64000001 0, .aP 64000002, .i .i64]++dd 74,qZ⟩,⟨[.dead, .dead, .vptr 64000000 0, .dead, .vptr 64000001 0, .aP 64000002]++dd 75,qZ⟩,none,false⟩),(2,⟨⟨[.dead, .dead, .vptr 64000000 0, .dead, .vptr 64000001 0, .aP 64000002, .dead, .dead, .dead, .i .i64]++dd 71,qZ⟩,⟨[.dead, .dead, .vptr 64000000 0, .dead, .vptr 64000001 0]++dd 76,uD⟩,none,false⟩)] n
def Va:bM:=cw 301 false [i13,i1] [none,none] [i13] Er
theorem Et:Va.Ok Tryz.prog:=bA bF [] [] [wL,abV,U7] ⟨ra,Ll,En,trivial⟩ abX Tryz.f301 [.cell 4 154] fun x=>by kernel_rfl
abbrev abY:=(t13×Unit)×(Unit×XI)
def Eu:t13×t1×t1×Unit→Out abY
|(a0,a1,a2,_)=>
 .ite (decide (0≤(ak a0.2.2.2.1 a1.1)∧(ak a0.2.2.2.1 a1.1)<((List.length a0.2.2.2.1:Nat):Int)))
 (.get (nth a0.2.2.2.1 (Int.toNat (ak a0.2.2.2.1 a1.1))) fun y1=>
 .ite (decide (0≤a2.1∧a2.1<((List.length y1.2.2.2.2.2.2.1:Nat):Int)))
 (.get (nth y1.2.2.2.2.2.2.1 (Int.toNat a2.1)) fun y2=>
 .get (bX ((9,()),a1,a2,(-1,()),())) fun ((dF,_),_)=>
 .get (bB ((a0.1,a0.2.1,a0.2.2.1,(List.set a0.2.2.2.1 (Int.toNat (ak a0.2.2.2.1 a1.1)) (y1.1,(y1.2.1,(y1.2.2.1,(y1.2.2.2.1,(y1.2.2.2.2.1,(y1.2.2.2.2.2.1,(y1.2.2.2.2.2.2.1,y1.2.2.2.2.2.2.2)))))))),a0.2.2.2.2),dF,())) fun ((gA,_),_)=>
 .get (bX ((11,()),(y2,()),(-1,()),(0,()),())) fun ((ja,_),_)=>
 .get (bB (gA,ja,())) fun ((lp,_),_)=>
 .ite (decide (0≤(aF lp.2.2.2.2.1 y2)∧(aF lp.2.2.2.2.1 y2)<((List.length lp.2.2.2.2.1:Nat):Int)))
 (.get (nth lp.2.2.2.2.1 (Int.toNat (aF lp.2.2.2.2.1 y2))) fun y7=>
 .ite ((y7.2.2.2.2.1 != 0))
 (.ret ((lp,()),((),(),(),())))
 (.get (bX ((12,()),(y2,()),(0,()),(0,()),())) fun ((lP,_),_)=>
 .get (bB (lp,lP,())) fun ((uE,_),_)=>
 .get (Ep ((y7.2.1,()),())) fun ((m3,_),_)=>
 .ite (!m3.1)
 (.ret ((uE,()),((),(),(),())))
 (.ite (((IntKind.i64.wrap ((ix uE.2.2.2.2.1 y7.2.2.1 (3:Int))+(ix uE.2.2.2.2.1 y7.2.2.1 (4:Int))))==0))
 (.get (bX ((17,()),(y7.2.2.1,()),(0,()),(0,()),())) fun ((tE,_),_)=>
 .get (bB (uE,tE,())) fun ((m4,_),_)=>
 .ret ((m4,()),((),(),(),())))
 (.get (zS (uE,(y7.2.2.1,()),())) fun ((ox,_),_)=>
 .ret ((ox,()),((),(),(),()))))))
 .fail)
 .fail)
 .fail
def wM (x:t13×t1×t1×Unit):=(Eu x).eval
def abZ:bM:=cw 268 false [i13,i1,i1] [none,none,none] [i13] Eu
theorem Lo:abZ.Ok Tryz.prog:=bA bF [] [] [uF,pB,ny,wL,abV,yz,Va] ⟨oz,fJ,eS,ra,Ll,uG,Et,trivial⟩ (fun _=>none) Tryz.f268 [.cell 6 154] fun x=>by kernel_rfl
abbrev PT:=(t13×Unit)×(Unit×XI)
abbrev Ew:=(Int×Int×Int×Unit)×((Int×Int×Unit)×(Int×Int×Unit)×List (List aw)×List af×List ah×List ag×List ag×List Int×List Int×List ((Int×Int×Int×Int×List Int×Unit))×List (List aw)×List af×List ah×List ag×List ag×List Int×List Int×List ((Int×Int×Int×Int×List Int×Unit))×Unit)
def rb:Ew→Out (Round Ew ((Int×Int×Unit)×((Int×Int×Unit)×(Int×Int×Unit)×List (List aw)×List af×List ah×List ag×List ag×List Int×List Int×List ((Int×Int×Int×Int×List Int×Unit))×List (List aw)×List af×List ah×List ag×List ag×List Int×List Int×List ((Int×Int×Int×Int×List Int×Unit))×Unit)) Empty)
|((p0,p1,p2,_),(p3,p4,_),(p5,p6,_),p7,p8,p9,cz,cE,dp,dh,du,cP,dG,dX,ep,eZ,fR,fZ,jm,_)=>
 .ite (decide (p2<4))
 (.ite (decide (0≤(ak p8 p0)∧(ak p8 p0)<((List.length p8:Nat):Int)))
 (.get (nth p8 (Int.toNat (ak p8 p0))) fun y1=>
 .ite (decide (0≤p2∧p2<((List.length y1.2.2.2.2.2.2.1:Nat):Int)))
 (.get (nth y1.2.2.2.2.2.2.1 (Int.toNat p2)) fun y2=>
 .ite ((y2 != -1))
 (.get (wM ((p3,p4,p7,(List.set p8 (Int.toNat (ak p8 p0)) (y1.1,(y1.2.1,(y1.2.2.1,(y1.2.2.2.1,(y1.2.2.2.2.1,(y1.2.2.2.2.2.1,(y1.2.2.2.2.2.2.1,y1.2.2.2.2.2.2.2)))))))),p9,cz,cE,dp,dh,du,()),(p0,()),(p2,()),())) fun ((dF,_),_)=>
 .ret (.again ((p0,p1,(IntKind.i64.wrap (p2+1)),()),((dF.1,dF.2.1,()),(p5,p6,()),dF.2.2.1,dF.2.2.2.1,dF.2.2.2.2.1,dF.2.2.2.2.2.1,dF.2.2.2.2.2.2.1,dF.2.2.2.2.2.2.2.1,dF.2.2.2.2.2.2.2.2.1,dF.2.2.2.2.2.2.2.2.2.1,cP,dG,dX,ep,eZ,fR,fZ,jm,()))))
 (.ret (.again ((p0,p1,(IntKind.i64.wrap (p2+1)),()),((p3,p4,()),(p5,p6,()),p7,(List.set p8 (Int.toNat (ak p8 p0)) (y1.1,(y1.2.1,(y1.2.2.1,(y1.2.2.2.1,(y1.2.2.2.2.1,(y1.2.2.2.2.2.1,(y1.2.2.2.2.2.2.1,y1.2.2.2.2.2.2.2)))))))),p9,cz,cE,dp,dh,du,cP,dG,dX,ep,eZ,fR,fZ,jm,())))))
 .fail)
 .fail)
 (.ret (.out ((p0,p1,()),((p3,p4,()),(p5,p6,()),p7,p8,p9,cz,cE,dp,dh,du,cP,dG,dX,ep,eZ,fR,fZ,jm,()))))
abbrev Lp:=(Int×Int×Int×Unit)×((Int×Int×Unit)×(Int×Int×Unit)×List ((Int×Int×Int×Int×(Int×Unit×Unit)×Unit×Unit×Int×Int×Unit))×List (List aw)×List af×List ah×List ag×List ag×List Int×List Int×List ((Int×Int×Int×Int×List Int×Unit))×List (List aw)×List af×List ah×List ag×List ag×List Int×List Int×List ((Int×Int×Int×Int×List Int×Unit))×Unit)
def lq:Lp→Out (Round Lp ((Int×Int×Unit)×((Int×Int×Unit)×(Int×Int×Unit)×List (List aw)×List af×List ah×List ag×List ag×List Int×List Int×List ((Int×Int×Int×Int×List Int×Unit))×List (List aw)×List af×List ah×List ag×List ag×List Int×List Int×List ((Int×Int×Int×Int×List Int×Unit))×Unit)) Empty)
|((p0,p1,p2,_),(p3,p4,_),(p5,p6,_),p7,p8,p9,cz,cE,dp,dh,du,cP,dG,dX,ep,eZ,fR,fZ,jm,lh,_)=>
 .ite (decide (p2<((List.length p7:Nat):Int)))
 (.ite (decide (0≤p2∧p2<((List.length p7:Nat):Int)))
 (.get (nth p7 (Int.toNat p2)) fun y1=>
 .ite ((y1.2.1 != p0))
 (.ret (.again ((p0,p1,(IntKind.i64.wrap (p2+1)),()),((p3,p4,()),(p5,p6,()),p7,p8,p9,cz,cE,dp,dh,du,cP,dG,dX,ep,eZ,fR,fZ,jm,lh,()))))
 (.ite (decide (0≤p2∧p2<((List.length p7:Nat):Int)))
 (.get (nth p7 (Int.toNat p2)) fun y2=>
 .ite ((y2.2.2.1==6))
 (.ite (decide (0≤p2∧p2<((List.length p7:Nat):Int)))
 (.get (nth p7 (Int.toNat p2)) fun y3=>
 .get (bX ((6,()),(y3.1,()),(0,()),(0,()),())) fun ((gA,_),_)=>
 .get (bB ((p3,p4,p8,p9,cz,cE,dp,dh,du,cP,()),gA,())) fun ((ja,_),_)=>
 .ret (.again ((p0,p1,(IntKind.i64.wrap (p2+1)),()),((ja.1,ja.2.1,()),(p5,p6,()),p7,ja.2.2.1,ja.2.2.2.1,ja.2.2.2.2.1,ja.2.2.2.2.2.1,ja.2.2.2.2.2.2.1,ja.2.2.2.2.2.2.2.1,ja.2.2.2.2.2.2.2.2.1,ja.2.2.2.2.2.2.2.2.2.1,dG,dX,ep,eZ,fR,fZ,jm,lh,()))))
 .fail)
 (.ite (decide (0≤p2∧p2<((List.length p7:Nat):Int)))
 (.get (nth p7 (Int.toNat p2)) fun y6=>
 .get (bX ((25,()),(y6.1,()),(0,()),(0,()),())) fun ((kR,_),_)=>
 .get (bB ((p3,p4,p8,p9,cz,cE,dp,dh,du,cP,()),kR,())) fun ((lP,_),_)=>
 .ret (.again ((p0,p1,(IntKind.i64.wrap (p2+1)),()),((lP.1,lP.2.1,()),(p5,p6,()),p7,lP.2.2.1,lP.2.2.2.1,lP.2.2.2.2.1,lP.2.2.2.2.2.1,lP.2.2.2.2.2.2.1,lP.2.2.2.2.2.2.2.1,lP.2.2.2.2.2.2.2.2.1,lP.2.2.2.2.2.2.2.2.2.1,dG,dX,ep,eZ,fR,fZ,jm,lh,()))))
 .fail))
 .fail))
 .fail)
 (.ret (.out ((p0,p1,()),((p3,p4,()),(p5,p6,()),p8,p9,cz,cE,dp,dh,du,cP,dG,dX,ep,eZ,fR,fZ,jm,lh,()))))
def uH (v0:Int) (v1:Int) (v2:Int) (v3:Int) (v4:Int) (v5:Int) (v6:List (List aw)) (v7:List af) (v8:List ah) (v9:List ag) (v10:List ag) (v11:List Int) (v12:List Int) (I2:List (Int×Int×Int×Int×List Int×Unit)) (NQ:List (List aw)) (Us:List af) (Z6:List ah) (v17:List ag) (v18:List ag) (v19:List Int) (v20:List Int) (v21:List (Int×Int×Int×Int×List Int×Unit)):Out (PT):=
 .get (b5 rb bn ((v0,v1,0,()),((v2,v3,()),(v4,v5,()),v6,v7,v8,v9,v10,v11,v12,I2,NQ,Us,Z6,v17,v18,v19,v20,v21,()))) fun ((NR,PU,_),(PV,PW,_),(PX,PY,_),PZ,P0,P1,P2,P3,P4,P5,P6,P7,P8,P9,Qa,Qb,Qc,Qd,Qe,_)=>
 .get (bX ((5,()),(NR,()),(0,()),(0,()),())) fun ((gA,_),_)=>
 .get (bB ((PV,PW,PZ,P0,P1,P2,P3,P4,P5,P6,()),gA,())) fun ((ja,_),_)=>
 .ite (decide (List.length ([]:List ((Int×Int×Int×Int×(Int×Unit×Unit)×Unit×Unit×Int×Int×Unit)))+List.length (List.map (fun z:af=>(z.1,z.2.1,z.2.2.1,z.2.2.2.1,(z.2.2.2.2.1.1,(),()),(),(),z.2.2.2.2.2.2.2.1,z.2.2.2.2.2.2.2.2.1,())) ja.2.2.2.1)≤bV))
 (.get (b5 lq bn ((NR,PU,0,()),((ja.1,ja.2.1,()),(PX,PY,()),(([]:List ((Int×Int×Int×Int×(Int×Unit×Unit)×Unit×Unit×Int×Int×Unit)))++(List.map (fun z:af=>(z.1,z.2.1,z.2.2.1,z.2.2.2.1,(z.2.2.2.2.1.1,(),()),(),(),z.2.2.2.2.2.2.2.1,z.2.2.2.2.2.2.2.2.1,())) ja.2.2.2.1)),ja.2.2.1,ja.2.2.2.1,ja.2.2.2.2.1,ja.2.2.2.2.2.1,ja.2.2.2.2.2.2.1,ja.2.2.2.2.2.2.2.1,ja.2.2.2.2.2.2.2.2.1,ja.2.2.2.2.2.2.2.2.2.1,P7,P8,P9,Qa,Qb,Qc,Qd,Qe,()))) fun ((BW,abd,_),(abe,abf,_),_,abg,abh,abi,abj,abk,abl,abm,abn,_)=>
 .get (bX ((22,()),(BW,()),(0,()),(0,()),())) fun ((kR,_),_)=>
 .get (bB ((abe,abf,abg,abh,abi,abj,abk,abl,abm,abn,()),kR,())) fun ((lP,_),_)=>
 .ite (decide (0≤(ak lP.2.2.2.1 BW)∧(ak lP.2.2.2.1 BW)<((List.length lP.2.2.2.1:Nat):Int)))
 (.get (nth lP.2.2.2.1 (Int.toNat (ak lP.2.2.2.1 BW))) fun y9=>
 .ite ((y9.2.1==0))
 (.get (bX ((6,()),(BW,()),(0,()),(0,()),())) fun ((m3,_),_)=>
 .get (bB (lP,m3,())) fun ((tE,_),_)=>
 .ret ((tE,()),((),(),(),())))
 (.get (bX ((3,()),(BW,()),(6,()),(0,()),())) fun ((m4,_),_)=>
 .get (bB (lP,m4,())) fun ((ox,_),_)=>
 .get (bX ((26,()),(BW,()),(abd,()),(0,()),())) fun ((zT,_),_)=>
 .get (bB (ox,zT,())) fun ((lQ,_),_)=>
 .ite (decide (0≤(ak lQ.2.2.2.1 y9.2.1)∧(ak lQ.2.2.2.1 y9.2.1)<((List.length lQ.2.2.2.1:Nat):Int)))
 (.get (nth lQ.2.2.2.1 (Int.toNat (ak lQ.2.2.2.1 y9.2.1))) fun Cy=>
 .ite ((Cy.2.2.1==3))
 (.get (pU (lQ,(y9.2.1,()),())) fun ((tF,_),_)=>
 .ret ((tF,()),((),(),(),())))
 (.ret ((lQ,()),((),(),(),()))))
 .fail))
 .fail)
 .fail
def Ey:t13×t1×t1×Unit→Out PT
|(a0,a1,a2,_)=>
 .ite (decide (0≤(ak a0.2.2.2.1 a1.1)∧(ak a0.2.2.2.1 a1.1)<((List.length a0.2.2.2.1:Nat):Int)))
 (.get (nth a0.2.2.2.1 (Int.toNat (ak a0.2.2.2.1 a1.1))) fun y1=>
 .ite ((y1.2.2.1 != 1))
 (.get (pU (a0,a1,())) fun ((b9,_),_)=>
 uH a1.1 a2.1 b9.1 b9.2.1 (0:Int) (0:Int) b9.2.2.1 b9.2.2.2.1 b9.2.2.2.2.1 b9.2.2.2.2.2.1 b9.2.2.2.2.2.2.1 b9.2.2.2.2.2.2.2.1 b9.2.2.2.2.2.2.2.2.1 b9.2.2.2.2.2.2.2.2.2.1 ([]:List (List aw)) ([]:List af) ([]:List ah) ([]:List ag) ([]:List ag) ([]:List Int) ([]:List Int) ([]:List ((Int×Int×Int×Int×List Int×Unit))))
 (uH a1.1 a2.1 a0.1 a0.2.1 (0:Int) (0:Int) a0.2.2.1 a0.2.2.2.1 a0.2.2.2.2.1 a0.2.2.2.2.2.1 a0.2.2.2.2.2.2.1 a0.2.2.2.2.2.2.2.1 a0.2.2.2.2.2.2.2.2.1 a0.2.2.2.2.2.2.2.2.2.1 ([]:List (List aw)) ([]:List af) ([]:List ah) ([]:List ag) ([]:List ag) ([]:List Int) ([]:List Int) ([]:List ((Int×Int×Int×Int×List Int×Unit)))))
 .fail
def wN (x:t13×t1×t1×Unit):=(Ey x).eval
def ab0:Nat→Option aq:=fun n=>bU [(0,⟨⟨[.dead, .i .i64, .i .i64, .vptr 64000000 0, .dead, .dead, .vptr 64000001 0, .i .i64]++dd 127,uD⟩,⟨[.dead, .i .i64, .i .i64, .vptr 64000000 0, .dead, .dead, .vptr 64000001 0]++dd 128,uD⟩,none,false⟩),(2,⟨⟨[.dead, .i .i64, .i .i64, .vptr 64000000 0, .dead, .dead, .vptr 64000001 0, .dead, .aP 64000002, .i .i64]++dd 125,[(64000000, .var [.i .i64, .i .i64, .aP 64000003, .aP 64000004, .aP 64000005, .aP 64000006, .aP 64000007, .aP 64000008, .aP 64000009, .aP 64000010]),(64000001, .var [.i .i64, .i .i64, .aP 64000011, .aP 64000012, .aP 64000013, .aP 64000014, .aP 64000015, .aP 64000016, .aP 64000017, .aP 64000018]),(64000002, .arr I0),(64000003, .arr (.fz b8)),(64000004, .arr eM),(64000005, .arr cH),(64000006, .arr bW),(64000007, .arr bW),(64000008, .arr br),(64000009, .arr br),(64000010, .arr ld),(64000011, .arr (.fz b8)),(64000012, .arr eM),(64000013, .arr cH),(64000014, .arr bW),(64000015, .arr bW),(64000016, .arr br),(64000017, .arr br),(64000018, .arr ld)]⟩,⟨[.dead, .i .i64, .i .i64, .vptr 64000000 0, .dead, .dead, .vptr 64000001 0]++dd 128,uD⟩,none,false⟩)] n
def Vb:bM:=cw 241 false [i13,i1,i1] [none,none,none] [i13] Ey
theorem Ez:Vb.Ok Tryz.prog:=bA KZ [] [] [uF,U7,abZ,pB,ny] ⟨oz,En,Lo,fJ,eS,trivial⟩ ab0 Tryz.f241 [.cell 6 154] fun x=>by kernel_rfl
abbrev ab1:=(t1×Unit)×XI
abbrev Lq:=(Int×Unit)×(XM×Unit)
def yU:Lq→Out (Round Lq ((Unit)×(Unit)) ((Int×Unit)×(Unit)))
|((p0,_),(p1,p2,p3,p4,p5,p6,p7,p8,p9,cz,_),_)=>
 .ite (decide (p0<((List.length p8:Nat):Int)))
 (.ite (decide (0≤p0))
 (.get (nth p8 (Int.toNat p0)) fun y1=>
 .ite ((y1== -1))
 (.ret (.ret ((p0,()),())))
 (.ret (.again (((IntKind.i64.wrap (p0+1)),()),((p1,p2,p3,p4,p5,p6,p7,p8,p9,cz,()),())))))
 .fail)
 (.ret (.out ((),())))
def EA:t15×t1×Unit→Out ab1
|(a0,a1,_)=>
 .get (iter yU bn ((a1.1,()),((a0.1,a0.2.1,a0.2.2.1,a0.2.2.2.1,a0.2.2.2.2.1,a0.2.2.2.2.2.1,a0.2.2.2.2.2.2.1,a0.2.2.2.2.2.2.2.1,a0.2.2.2.2.2.2.2.2.1,a0.2.2.2.2.2.2.2.2.2.1,()),()))) fun y1=> .alt y1 (fun _=>
 .ret (((-1,()),()),((),(),()))) (fun y3=>
 .ret (((y3.1.1,()),()),((),(),())))
def zU (x:t15×t1×Unit):=(EA x).eval
def ab2:Nat→Option aq:=fun n=>bU [(0,⟨⟨[.dead, .dead, .vptr 64000000 0, .dead, .dead, .i .i64]++dd 15,[(64000000, .var [.i .i64, .i .i64, .i .i64, .i .i64, .i .i64, .ro br (some 0), .ro br (some 1), .ro br (some 2), .i .i64, .i .i64])]⟩,⟨dd 21,[]⟩,some ⟨dd 4++[.i .i64]++dd 16,[]⟩,false⟩)] n
def Vc:bM:=cw 304 true [i15,i1] [none,none] [i1] EA
theorem EB:Vc.Ok Tryz.prog:=bA eo [] [] [] trivial ab2 Tryz.f304 [.tmp 4] fun x=>by kernel_rfl
abbrev ab3:=(t1×Unit)×XI
abbrev Lr:=(Int×Unit)×(bw×Unit)
def yV:Lr→Out (Round Lr ((Unit)×(Unit)) ((Int×Unit)×(Unit)))
|((p0,_),(p1,p2,p3,p4,p5,p6,p7,p8,p9,_),_)=>
 .ite (decide (p0<8))
 (.ite (decide ((aF p5 p0)<0))
 (.ret (.ret ((p0,()),())))
 (.ret (.again (((IntKind.i64.wrap (p0+1)),()),((p1,p2,p3,p4,p5,p6,p7,p8,p9,()),())))))
 (.ret (.out ((),())))
def EC:t11×t1×Unit→Out ab3
|(a0,a1,_)=>
 .get (iter yV bn ((a1.1,()),((a0.1,a0.2.1,a0.2.2.1,a0.2.2.2.1,a0.2.2.2.2.1,a0.2.2.2.2.2.1,a0.2.2.2.2.2.2.1,a0.2.2.2.2.2.2.2.1,a0.2.2.2.2.2.2.2.2.1,()),()))) fun y1=> .alt y1 (fun _=>
 .ret (((-1,()),()),((),(),()))) (fun y3=>
 .ret (((y3.1.1,()),()),((),(),())))
def ED (x:t11×t1×Unit):=(EC x).eval
abbrev Ls:List (Nat×dT):=[(64000000, .var [.i .i64, .i .i64, .ro (.sl b8) (some 0), .ro jr (some 1), .ro cH (some 2), .ro ck (some 3), .ro ck (some 4), .ro br (some 5), .ro br (some 6)])]
def ab4:Nat→Option aq:=fun n=>bU [(0,⟨⟨[.dead, .dead, .vptr 64000000 0, .dead, .dead, .i .i64]++dd 10,Ls⟩,⟨dd 16,[]⟩,some ⟨dd 4++[.i .i64]++dd 11,[]⟩,false⟩)] n
def ab5:bM:=cw 305 true [i11,i1] [none,none] [i1] EC
theorem Lt:ab5.Ok Tryz.prog:=bA eo [] [] [wL] ⟨ra,trivial⟩ ab4 Tryz.f305 [.tmp 4] fun x=>by kernel_rfl
abbrev ab6:=(t1×Unit)×(Unit×Unit)
abbrev Lu:=(Int×Unit)×(bw×Unit)
def yW:Lu→Out (Round Lu ((Unit)×(Unit)) ((Int×Unit)×(Unit)))
|((p0,_),(p1,p2,p3,p4,p5,p6,p7,p8,p9,_),_)=>
 .ite (decide (p0<3))
 (.ite (decide ((bp p6 p0)<0))
 (.ret (.ret ((p0,()),())))
 (.ret (.again (((IntKind.i64.wrap (p0+1)),()),((p1,p2,p3,p4,p5,p6,p7,p8,p9,()),())))))
 (.ret (.out ((),())))
def EF:t11×Unit→Out ab6
|(a0,_)=>
 .get (iter yW bn ((0,()),((a0.1,a0.2.1,a0.2.2.1,a0.2.2.2.1,a0.2.2.2.2.1,a0.2.2.2.2.2.1,a0.2.2.2.2.2.2.1,a0.2.2.2.2.2.2.2.1,a0.2.2.2.2.2.2.2.2.1,()),()))) fun y1=> .alt y1 (fun _=>
 .ret (((-1,()),()),((),()))) (fun y3=>
 .ret (((y3.1.1,()),()),((),())))
def Qf (x:t11×Unit):=(EF x).eval
def ab7:Nat→Option aq:=fun n=>bU [(0,⟨⟨[.dead, .vptr 64000000 0, .dead, .i .i64]++dd 9,Ls⟩,⟨dd 13,[]⟩,some ⟨[.dead, .dead, .i .i64]++dd 10,[]⟩,false⟩)] n
def agI:bM:=cw 306 true [i11] [none] [i1] EF
theorem Vd:agI.Ok Tryz.prog:=bA eo [] [] [yA] ⟨uI,trivial⟩ ab7 Tryz.f306 [.tmp 2] fun x=>by kernel_rfl
abbrev ab8:=(t13×Unit)×(Unit×XI)
abbrev Lv:=(Int×Int×Unit)×((Int×Int×Unit)×XM×(Int×List Int×Unit)×(Int×Int×Unit)×List (List aw)×List af×List ah×List ag×List ag×List Int×List Int×List ((Int×Int×Int×Int×List Int×Unit))×List (List aw)×List af×List ah×List ag×List ag×List Int×List Int×List ((Int×Int×Int×Int×List Int×Unit))×Unit)
def re:Lv→Out (Round Lv ((Int×Unit)×((Int×Int×Unit)×XM×(Int×List Int×Unit)×(Int×Int×Unit)×List (List aw)×List af×List ah×List ag×List ag×List Int×List Int×List ((Int×Int×Int×Int×List Int×Unit))×List (List aw)×List af×List ah×List ag×List ag×List Int×List Int×List ((Int×Int×Int×Int×List Int×Unit))×Unit)) Empty)
|((p0,p1,_),(p2,p3,_),(p4,p5,p6,p7,p8,p9,cz,cE,dp,dh,_),(du,cP,_),(dG,dX,_),ep,eZ,fR,fZ,jm,lh,od,pN,D7,BM,Uo,Up,p30,p31,p32,p33,_)=>
 .ite (decide (p1<((List.length cE:Nat):Int)))
 (.ite (decide (0≤p1))
 (.get (nth cE (Int.toNat p1)) fun y1=>
 .ite ((y1 != -1))
 (.ite (decide (0≤p1))
 (.get (nth cE (Int.toNat p1)) fun y2=>
 .get (bX ((11,()),(y2,()),(1,()),(0,()),())) fun ((dF,_),_)=>
 .get (bB ((p2,p3,ep,eZ,fR,fZ,jm,lh,od,pN,()),dF,())) fun ((gA,_),_)=>
 .ret (.again ((p0,(IntKind.i64.wrap (p1+1)),()),((gA.1,gA.2.1,()),(p4,p5,p6,p7,p8,p9,cz,cE,dp,dh,()),(du,cP,()),(dG,dX,()),gA.2.2.1,gA.2.2.2.1,gA.2.2.2.2.1,gA.2.2.2.2.2.1,gA.2.2.2.2.2.2.1,gA.2.2.2.2.2.2.2.1,gA.2.2.2.2.2.2.2.2.1,gA.2.2.2.2.2.2.2.2.2.1,D7,BM,Uo,Up,p30,p31,p32,p33,()))))
 .fail)
 (.ret (.again ((p0,(IntKind.i64.wrap (p1+1)),()),((p2,p3,()),(p4,p5,p6,p7,p8,p9,cz,cE,dp,dh,()),(du,cP,()),(dG,dX,()),ep,eZ,fR,fZ,jm,lh,od,pN,D7,BM,Uo,Up,p30,p31,p32,p33,())))))
 .fail)
 (.ret (.out ((p0,()),((p2,p3,()),(p4,p5,p6,p7,p8,p9,cz,cE,dp,dh,()),(du,cP,()),(dG,dX,()),ep,eZ,fR,fZ,jm,lh,od,pN,D7,BM,Uo,Up,p30,p31,p32,p33,()))))
def EG:t13×t15×t14×Unit→Out ab8
|(a0,a1,a2,_)=>
 .ite ((decide (((List.length a0.2.2.2.1:Nat):Int)≥(6:Int)))==false)
 (.ite ((decide (a0.1≥(100000:Int)))==false)
 (.ite ((4:Int)==0)
 .fail
 (.get (oA ((a0.1,a0.2.1,a0.2.2.1,a0.2.2.2.1,a0.2.2.2.2.1,a0.2.2.2.2.2.1,a0.2.2.2.2.2.2.1,a0.2.2.2.2.2.2.2.1,a0.2.2.2.2.2.2.2.2.1,()),((IntKind.i64.wrap (Int.tdiv ((List.length a1.2.2.2.2.2.2.1:Nat):Int) (4:Int))),()),())) fun ((eu,_),_)=>
 .ite (!eu.1)
 (.get (bE (a0,(a1.1,()),a2,(-1,()),())) fun ((b9,_),_)=>
 .ret ((b9,()),((),(),(),())))
 (.get (bX ((4,()),(a0.1,()),(a1.1,()),(0,()),())) fun ((dF,_),_)=>
 .get (bB (a0,dF,())) fun ((gA,_),_)=>
 .get (b5 re bn ((a0.1,0,()),((gA.1,gA.2.1,()),(a1.1,a1.2.1,a1.2.2.1,a1.2.2.2.1,a1.2.2.2.2.1,a1.2.2.2.2.2.1,a1.2.2.2.2.2.2.1,a1.2.2.2.2.2.2.2.1,a1.2.2.2.2.2.2.2.2.1,a1.2.2.2.2.2.2.2.2.2.1,()),(a2.1,a2.2.1,()),(0,0,()),gA.2.2.1,gA.2.2.2.1,gA.2.2.2.2.1,gA.2.2.2.2.2.1,gA.2.2.2.2.2.2.1,gA.2.2.2.2.2.2.2.1,gA.2.2.2.2.2.2.2.2.1,gA.2.2.2.2.2.2.2.2.2.1,([]:List (List aw)),([]:List af),([]:List ah),([]:List ag),([]:List ag),([]:List Int),([]:List Int),([]:List ((Int×Int×Int×Int×List Int×Unit))),()))) fun ((ace,_),(akF,akG,_),(akH,_),(agJ,agK,_),_,akI,akJ,akK,akL,akM,akN,akO,akP,_)=>
 .get (bE ((akF,akG,akI,akJ,akK,akL,akM,akN,akO,akP,()),(ace,()),(agJ,agK,()),(0,()),())) fun ((lp,_),_)=>
 .get (bX ((21,()),(ace,()),(0,()),(0,()),())) fun ((kR,_),_)=>
 .get (bB (lp,kR,())) fun ((lP,_),_)=>
 .get (bE (lP,(akH,()),(agJ,agK,()),(ace,()),())) fun ((uE,_),_)=>
 .ret ((uE,()),((),(),(),())))))
 (.get (bE (a0,(a1.1,()),a2,(-1,()),())) fun ((tE,_),_)=>
 .ret ((tE,()),((),(),(),()))))
 (.get (bE (a0,(a1.1,()),a2,(-1,()),())) fun ((m4,_),_)=>
 .ret ((m4,()),((),(),(),())))
def Qg (x:t13×t15×t14×Unit):=(EG x).eval
abbrev yX:List (Nat×dT):=[(64000000, .var [.i .i64, .i .i64, .aP 64000004, .aP 64000005, .aP 64000006, .aP 64000007, .aP 64000008, .aP 64000009, .aP 64000010, .aP 64000011]),(64000001, .var [.i .i64, .i .i64, .i .i64, .i .i64, .i .i64, .ro br (some 8), .ro br (some 9), .ro br (some 10), .i .i64, .i .i64]),(64000002, .var [.i .i64, .ro br (some 11)]),(64000003, .var [.i .i64, .i .i64, .aP 64000012, .aP 64000013, .aP 64000014, .aP 64000015, .aP 64000016, .aP 64000017, .aP 64000018, .aP 64000019]),(64000004, .arr (.fz b8)),(64000005, .arr eM),(64000006, .arr cH),(64000007, .arr bW),(64000008, .arr bW),(64000009, .arr br),(64000010, .arr br),(64000011, .arr ld),(64000012, .arr (.fz b8)),(64000013, .arr eM),(64000014, .arr cH),(64000015, .arr bW),(64000016, .arr bW),(64000017, .arr br),(64000018, .arr br),(64000019, .arr ld)]
def acf:Nat→Option aq:=fun n=>bU [(0,⟨⟨[.dead, .dead, .dead, .vptr 64000000 0, .vptr 64000001 0, .vptr 64000002 0, .vptr 64000003 0, .i .i64, .i .i64]++dd 70,yX⟩,⟨[.dead, .dead, .dead, .vptr 64000000 0, .vptr 64000001 0, .vptr 64000002 0, .vptr 64000003 0, .i .i64]++dd 71,yX⟩,none,false⟩)] n
def agL:bM:=cw 269 false [i13,i15,i14] [none,none,none] [i13] EG
theorem Ve:agL.Ok Tryz.prog:=bA bF [] [] [Qh,uB,pB,ny] ⟨yY,iM,fJ,eS,trivial⟩ acf Tryz.f269 [.cell 6 154] fun x=>by kernel_rfl
abbrev acg:=(t13×Unit)×(Unit×XI)
abbrev Lw:=(Bool×Int×Unit)×((Int×Int×Unit)×XM×(Int×List Int×Unit)×(Int×Int×Unit)×List (List aw)×List af×List ah×List ag×List ag×List Int×List Int×List ((Int×Int×Int×Int×List Int×Unit))×List (List aw)×List af×List ah×List ag×List ag×List Int×List Int×List ((Int×Int×Int×Int×List Int×Unit))×Unit)
def rf:Lw→Out (Round Lw ((Bool×Unit)×((Int×Int×Unit)×XM×(Int×List Int×Unit)×(Int×Int×Unit)×List (List aw)×List af×List ah×List ag×List ag×List Int×List Int×List ((Int×Int×Int×Int×List Int×Unit))×List (List aw)×List af×List ah×List ag×List ag×List Int×List Int×List ((Int×Int×Int×Int×List Int×Unit))×Unit)) ((Unit)×((Int×Int×Unit)×List (List aw)×List af×List ah×List ag×List ag×List Int×List Int×List ((Int×Int×Int×Int×List Int×Unit))×Unit)))
|((p0,p1,_),(p2,p3,_),(p4,p5,p6,p7,p8,p9,cz,cE,dp,dh,_),(du,cP,_),(dG,dX,_),ep,eZ,fR,fZ,jm,lh,od,pN,D7,BM,Uo,Up,p30,p31,p32,p33,_)=>
 .ite (decide (p1<((List.length eZ:Nat):Int)))
 (.ite (decide (0≤p1∧p1<((List.length eZ:Nat):Int)))
 (.get (nth eZ (Int.toNat p1)) fun y1=>
 .ite ((y1.2.1 != p4))
 (.ret (.again ((p0,(IntKind.i64.wrap (p1+1)),()),((p2,p3,()),(p4,p5,p6,p7,p8,p9,cz,cE,dp,dh,()),(du,cP,()),(dG,dX,()),ep,eZ,fR,fZ,jm,lh,od,pN,D7,BM,Uo,Up,p30,p31,p32,p33,()))))
 (.ite ((y1.2.2.1==6))
 (.get (bX ((6,()),(y1.1,()),(0,()),(0,()),())) fun ((b9,_),_)=>
 .get (bB ((p2,p3,ep,eZ,fR,fZ,jm,lh,od,pN,()),b9,())) fun ((dF,_),_)=>
 .get (wI (dF,(p4,()),(du,cP,()),(y1.1,()),y1.2.2.2.2.2.2.2.2,())) fun ((gA,_),_)=>
 .ret (.ret ((),((gA.1,gA.2.1,()),gA.2.2.1,gA.2.2.2.1,gA.2.2.2.2.1,gA.2.2.2.2.2.1,gA.2.2.2.2.2.2.1,gA.2.2.2.2.2.2.2.1,gA.2.2.2.2.2.2.2.2.1,gA.2.2.2.2.2.2.2.2.2.1,()))))
 (.ret (.again ((false,(IntKind.i64.wrap (p1+1)),()),((p2,p3,()),(p4,p5,p6,p7,p8,p9,cz,cE,dp,dh,()),(du,cP,()),(dG,dX,()),ep,eZ,fR,fZ,jm,lh,od,pN,D7,BM,Uo,Up,p30,p31,p32,p33,()))))))
 .fail)
 (.ret (.out ((p0,()),((p2,p3,()),(p4,p5,p6,p7,p8,p9,cz,cE,dp,dh,()),(du,cP,()),(dG,dX,()),ep,eZ,fR,fZ,jm,lh,od,pN,D7,BM,Uo,Up,p30,p31,p32,p33,()))))
def EH:t13×t15×t14×Unit→Out acg
|(a0,a1,a2,_)=>
 .get (iter rf bn ((true,0,()),((a0.1,a0.2.1,()),(a1.1,a1.2.1,a1.2.2.1,a1.2.2.2.1,a1.2.2.2.2.1,a1.2.2.2.2.2.1,a1.2.2.2.2.2.2.1,a1.2.2.2.2.2.2.2.1,a1.2.2.2.2.2.2.2.2.1,a1.2.2.2.2.2.2.2.2.2.1,()),(a2.1,a2.2.1,()),(0,0,()),a0.2.2.1,a0.2.2.2.1,a0.2.2.2.2.1,a0.2.2.2.2.2.1,a0.2.2.2.2.2.2.1,a0.2.2.2.2.2.2.2.1,a0.2.2.2.2.2.2.2.2.1,a0.2.2.2.2.2.2.2.2.2.1,([]:List (List aw)),([]:List af),([]:List ah),([]:List ag),([]:List ag),([]:List Int),([]:List Int),([]:List ((Int×Int×Int×Int×List Int×Unit))),()))) fun y1=> .alt y1 (fun y2=>
 .ite y2.1.1
 (.get (bE ((y2.2.1.1,y2.2.1.2.1,y2.2.2.2.2.2.1,y2.2.2.2.2.2.2.1,y2.2.2.2.2.2.2.2.1,y2.2.2.2.2.2.2.2.2.1,y2.2.2.2.2.2.2.2.2.2.1,y2.2.2.2.2.2.2.2.2.2.2.1,y2.2.2.2.2.2.2.2.2.2.2.2.1,y2.2.2.2.2.2.2.2.2.2.2.2.2.1,()),(y2.2.2.1.1,()),(y2.2.2.2.1.1,y2.2.2.2.1.2.1,()),(-1,()),())) fun ((gA,_),_)=>
 .ret ((gA,()),((),(),(),())))
 (.get (wJ ((y2.2.1.1,y2.2.1.2.1,y2.2.2.2.2.2.1,y2.2.2.2.2.2.2.1,y2.2.2.2.2.2.2.2.1,y2.2.2.2.2.2.2.2.2.1,y2.2.2.2.2.2.2.2.2.2.1,y2.2.2.2.2.2.2.2.2.2.2.1,y2.2.2.2.2.2.2.2.2.2.2.2.1,y2.2.2.2.2.2.2.2.2.2.2.2.2.1,()),(y2.2.2.1.1,()),(3,()),(0,()),())) fun ((ja,_),_)=>
 .ret ((ja,()),((),(),(),())))) (fun y3=>
 .ret (((y3.2.1.1,y3.2.1.2.1,y3.2.2.1,y3.2.2.2.1,y3.2.2.2.2.1,y3.2.2.2.2.2.1,y3.2.2.2.2.2.2.1,y3.2.2.2.2.2.2.2.1,y3.2.2.2.2.2.2.2.2.1,y3.2.2.2.2.2.2.2.2.2.1,()),()),((),(),(),())))
def Qi (x:t13×t15×t14×Unit):=(EH x).eval
def ach:Nat→Option aq:=fun n=>bU [(0,⟨⟨[.dead, .dead, .dead, .vptr 64000000 0, .vptr 64000001 0, .vptr 64000002 0, .vptr 64000003 0, .b, .i .i64]++dd 47,yX⟩,⟨[.dead, .dead, .dead, .vptr 64000000 0, .vptr 64000001 0, .vptr 64000002 0, .vptr 64000003 0, .b]++dd 48,yX⟩,some ⟨dd 6++[.vptr 64000000 0]++dd 49,[(64000000, .var [.i .i64, .i .i64, .aP 64000001, .aP 64000002, .aP 64000003, .aP 64000004, .aP 64000005, .aP 64000006, .aP 64000007, .aP 64000008]),(64000001, .arr (.fz b8)),(64000002, .arr eM),(64000003, .arr cH),(64000004, .arr bW),(64000005, .arr bW),(64000006, .arr br),(64000007, .arr br),(64000008, .arr ld)]⟩,false⟩)] n
def agM:bM:=cw 270 false [i13,i15,i14] [none,none,none] [i13] EH
theorem Vf:agM.Ok Tryz.prog:=bA bF [] [] [pB,ny,U6,uB,PS] ⟨fJ,eS,Ek,iM,yT,trivial⟩ ach Tryz.f270 [.cell 6 154] fun x=>by kernel_rfl
abbrev Jv:=(t13×Unit)×(Unit×XI)
def yZ (v0:Int) (v1:Int) (v2:Int) (v3:Int) (v4:Int) (v5:Int) (v6:Int) (v7:List Int) (v8:List (List aw)) (v9:List af) (v10:List ah) (v11:List ag) (v12:List ag) (I2:List Int) (NQ:List Int) (Us:List (Int×Int×Int×Int×List Int×Unit)):Out (Jv):=
 .get (bX ((10,()),(v2,()),(2,()),(v0,()),())) fun ((lP,_),_)=>
 .get (bB ((v3,v4,v8,v9,v10,v11,v12,I2,NQ,Us,()),lP,())) fun ((uE,_),_)=>
 .get (bX ((11,()),(v2,()),(1,()),(0,()),())) fun ((m3,_),_)=>
 .get (bB (uE,m3,())) fun ((tE,_),_)=>
 .get (bX ((9,()),(v5,()),(v1,()),(v2,()),())) fun ((m4,_),_)=>
 .get (bB (tE,m4,())) fun ((ox,_),_)=>
 .get (bE (ox,(v5,()),(v6,v7,()),(v1,()),())) fun ((zT,_),_)=>
 .ret ((zT,()),((),(),(),()))
def za (v0:Int) (v1:Int) (v2:Int) (v3:Bool) (v4:Int) (v5:Int) (v6:Int) (v7:Int) (v8:List Int) (v9:List (List aw)) (v10:List af) (v11:List ah) (v12:List ag) (I2:List ag) (NQ:List Int) (Us:List Int) (Z6:List (Int×Int×Int×Int×List Int×Unit)):Out (Jv):=
 .ite (!v3)
 (.get (bX ((18,()),(v0,()),(0,()),(0,()),())) fun ((lp,_),_)=>
 .get (bB ((v4,v5,v9,v10,v11,v12,I2,NQ,Us,Z6,()),lp,())) fun ((kR,_),_)=>
 yZ v0 v1 v2 kR.1 kR.2.1 v6 v7 v8 kR.2.2.1 kR.2.2.2.1 kR.2.2.2.2.1 kR.2.2.2.2.2.1 kR.2.2.2.2.2.2.1 kR.2.2.2.2.2.2.2.1 kR.2.2.2.2.2.2.2.2.1 kR.2.2.2.2.2.2.2.2.2.1)
 (yZ v0 v1 v2 v4 v5 v6 v7 v8 v9 v10 v11 v12 I2 NQ Us Z6)
def EI:t13×t15×t14×Unit→Out Jv
|(a0,a1,a2,_)=>
 .ite (decide (0≤(0:Int)))
 (.get (nth a2.2.1 (Int.toNat (0:Int))) fun y1=>
 .get (zU (a1,(0,()),())) fun ((b9,_),_)=>
 .get (ED ((a0.1,a0.2.1,a0.2.2.1,a0.2.2.2.1,a0.2.2.2.2.1,a0.2.2.2.2.2.1,a0.2.2.2.2.2.2.1,a0.2.2.2.2.2.2.2.1,a0.2.2.2.2.2.2.2.2.1,()),(0,()),())) fun ((dF,_),_)=>
 .ite ((!(dC y1 (0:Int) (5:Int)))==false)
 (.ite ((decide (b9.1<0))==false)
 (.ite ((decide (dF.1<0))==false)
 (.ite ((!(decide ((bt a0.2.2.2.2.2.2.1 y1)≥(0:Int))))==true)
 (.ite (decide (0≤(1:Int)))
 (.get (nth a2.2.1 (Int.toNat (1:Int))) fun y4=>
 .ite ((y4==0))
 (.get (bE (a0,(a1.1,()),a2,(-1,()),())) fun ((ja,_),_)=>
 .ret ((ja,()),((),(),(),())))
 (za y1 b9.1 dF.1 (decide ((bt a0.2.2.2.2.2.2.1 y1)≥(0:Int))) a0.1 a0.2.1 a1.1 a2.1 a2.2.1 a0.2.2.1 a0.2.2.2.1 a0.2.2.2.2.1 a0.2.2.2.2.2.1 a0.2.2.2.2.2.2.1 a0.2.2.2.2.2.2.2.1 a0.2.2.2.2.2.2.2.2.1 a0.2.2.2.2.2.2.2.2.2.1))
 .fail)
 (za y1 b9.1 dF.1 (decide ((bt a0.2.2.2.2.2.2.1 y1)≥(0:Int))) a0.1 a0.2.1 a1.1 a2.1 a2.2.1 a0.2.2.1 a0.2.2.2.1 a0.2.2.2.2.1 a0.2.2.2.2.2.1 a0.2.2.2.2.2.2.1 a0.2.2.2.2.2.2.2.1 a0.2.2.2.2.2.2.2.2.1 a0.2.2.2.2.2.2.2.2.2.1))
 (.get (bE (a0,(a1.1,()),a2,(-1,()),())) fun ((Jw,_),_)=>
 .ret ((Jw,()),((),(),(),()))))
 (.get (bE (a0,(a1.1,()),a2,(-1,()),())) fun ((tF,_),_)=>
 .ret ((tF,()),((),(),(),()))))
 (.get (bE (a0,(a1.1,()),a2,(-1,()),())) fun ((uJ,_),_)=>
 .ret ((uJ,()),((),(),(),()))))
 .fail
def Qj (x:t13×t15×t14×Unit):=(EI x).eval
def agN:bM:=cw 273 false [i13,i15,i14] [none,none,none] [i13] EI
theorem Vg:agN.Ok Tryz.prog:=bA bF [] [] [Vc,ab5,yB,wO,uB,pB,ny] ⟨EB,Lt,uK,kc,iM,fJ,eS,trivial⟩ (fun _=>none) Tryz.f273 [.cell 6 154] fun x=>by kernel_rfl
abbrev aci:=(t16×t10×Unit)×(Unit×XI)
def pV:t11×t15×t1×Unit→Out aci
|(a0,a1,a2,_)=>
 .ite ((decide (a2.1<0))==false)
 (.ite ((decide (a2.1≥((List.length a1.2.2.2.2.2.2.2.1:Nat):Int)))==false)
 (.ite (decide (0≤a2.1))
 (.get (nth a1.2.2.2.2.2.2.2.1 (Int.toNat a2.1)) fun y1=>
 .ite ((y1== -1))
 (.ret (((0,0,0,0,0,()),(false,()),()),((),(),(),())))
 (.ite (decide (0≤a2.1))
 (.get (nth a1.2.2.2.2.2.2.2.1 (Int.toNat a2.1)) fun y2=>
 .ite (decide (0≤(aF a0.2.2.2.2.1 y2)))
 (.get (nth a0.2.2.2.2.1 (Int.toNat (aF a0.2.2.2.2.1 y2))) fun y3=>
 .ret ((y3,(true,()),()),((),(),(),())))
 .fail)
 .fail))
 .fail)
 (.ret (((0,0,0,0,0,()),(false,()),()),((),(),(),()))))
 (.ret (((0,0,0,0,0,()),(false,()),()),((),(),(),())))
def tG (x:t11×t15×t1×Unit):=(pV x).eval
def Qk:bM:=cw 274 true [i11,i15,i1] [none,none,none] [i16,i10] pV
theorem zb:Qk.Ok Tryz.prog:=bA eo [] [] [wL] ⟨ra,trivial⟩ (fun _=>none) Tryz.f274 [.cell 6 78, .tmp 7] fun x=>by kernel_rfl
abbrev acj:=(t13×Unit)×(Unit×XI)
def EJ:t13×t15×t14×Unit→Out acj
|(a0,a1,a2,_)=>
 .ite (decide (0≤(0:Int)))
 (.get (nth a2.2.1 (Int.toNat (0:Int))) fun y1=>
 .get (tG ((a0.1,a0.2.1,a0.2.2.1,a0.2.2.2.1,a0.2.2.2.2.1,a0.2.2.2.2.2.1,a0.2.2.2.2.2.2.1,a0.2.2.2.2.2.2.2.1,a0.2.2.2.2.2.2.2.2.1,()),a1,(y1,()),())) fun ((b9,y2b,_),_)=>
 .ite ((!y2b.1)==false)
 (.ite ((b9.2.1==4))
 (.get (bE (a0,(a1.1,()),a2,(-1,()),())) fun ((dF,_),_)=>
 .ret ((dF,()),((),(),(),())))
 (.ite ((b9.2.1==1))
 (.get (bE (a0,(a1.1,()),a2,(0,()),())) fun ((gA,_),_)=>
 .ret ((gA,()),((),(),(),())))
 (.ite ((b9.2.1==2))
 (.ite (decide (0≤(bt a0.2.2.2.2.2.2.1 b9.2.2.1)∧(bt a0.2.2.2.2.2.2.1 b9.2.2.1)<((List.length a0.2.2.2.2.2.2.1:Nat):Int)))
 (.get (nth a0.2.2.2.2.2.2.1 (Int.toNat (bt a0.2.2.2.2.2.2.1 b9.2.2.1))) fun y5=>
 .ite (decide (b9.2.2.2.1≥((List.length y5.2.1:Nat):Int)))
 (.get (bE (a0,(a1.1,()),a2,(0,()),())) fun ((lp,_),_)=>
 .ret ((lp,()),((),(),(),())))
 (.get (bX ((13,()),(b9.1,()),((IntKind.i64.wrap (b9.2.2.2.1+1)),()),(0,()),())) fun ((kR,_),_)=>
 .get (bB (a0,kR,())) fun ((lP,_),_)=>
 .ite (decide (0≤b9.2.2.2.1))
 (.get (nth y5.2.1 (Int.toNat b9.2.2.2.1)) fun y9=>
 .get (wI (lP,(a1.1,()),a2,(1,()),(y9,()),())) fun ((m3,_),_)=>
 .ret ((m3,()),((),(),(),())))
 .fail))
 .fail)
 (.ite (decide (0≤(bp a0.2.2.2.2.2.1 b9.2.2.1)∧(bp a0.2.2.2.2.2.1 b9.2.2.1)<((List.length a0.2.2.2.2.2.1:Nat):Int)))
 (.get (nth a0.2.2.2.2.2.1 (Int.toNat (bp a0.2.2.2.2.2.1 b9.2.2.1))) fun wC=>
 .ite (decide (((List.length wC.2.1:Nat):Int)>0))
 (.get (bX ((16,()),(b9.2.2.1,()),(0,()),(0,()),())) fun ((m4,_),_)=>
 .get (bB (a0,m4,())) fun ((ox,_),_)=>
 .get (zS (ox,(b9.2.2.1,()),())) fun ((zT,_),_)=>
 .ite (decide (0≤(0:Int)))
 (.get (nth wC.2.1 (Int.toNat (0:Int))) fun tx=>
 .get (wI (zT,(a1.1,()),a2,(1,()),(tx,()),())) fun ((Jw,_),_)=>
 .ret ((Jw,()),((),(),(),())))
 .fail)
 (.ite (((ix a0.2.2.2.2.1 b9.2.2.1 (4:Int))==0))
 (.get (bE (a0,(a1.1,()),a2,(0,()),())) fun ((tF,_),_)=>
 .ret ((tF,()),((),(),(),())))
 (.get (wJ (a0,(a1.1,()),(4,()),(b9.1,()),())) fun ((uJ,_),_)=>
 .ret ((uJ,()),((),(),(),())))))
 .fail))))
 (.get (bE (a0,(a1.1,()),a2,(-1,()),())) fun ((Jx,_),_)=>
 .ret ((Jx,()),((),(),(),()))))
 .fail
def Ql (x:t13×t15×t14×Unit):=(EJ x).eval
def agO:bM:=cw 275 false [i13,i15,i14] [none,none,none] [i13] EJ
theorem Vh:agO.Ok Tryz.prog:=bA bF [] [] [Qk,uB,yB,pB,ny,U6,yA,Va,yz,PS] ⟨zb,iM,uK,fJ,eS,Ek,uI,Et,uG,yT,trivial⟩ (fun _=>none) Tryz.f275 [.cell 6 154] fun x=>by kernel_rfl
abbrev acm:=(t13×Unit)×(Unit×XI)
def EK:t13×t15×t14×Unit→Out acm
|(a0,a1,a2,_)=>
 .ite (decide (0≤(0:Int)))
 (.get (nth a2.2.1 (Int.toNat (0:Int))) fun y1=>
 .get (tG ((a0.1,a0.2.1,a0.2.2.1,a0.2.2.2.1,a0.2.2.2.2.1,a0.2.2.2.2.2.1,a0.2.2.2.2.2.2.1,a0.2.2.2.2.2.2.2.1,a0.2.2.2.2.2.2.2.2.1,()),a1,(y1,()),())) fun ((b9,y2b,_),_)=>
 .ite (decide (0≤(1:Int)))
 (.get (nth a2.2.1 (Int.toNat (1:Int))) fun y3=>
 .ite ((!y2b.1)==false)
 (.ite ((b9.2.1==3))
 (.get (bE (a0,(a1.1,()),a2,(-1,()),())) fun ((gA,_),_)=>
 .ret ((gA,()),((),(),(),())))
 (.ite ((b9.2.1==1))
 (.ite (decide (((List.length a0.2.2.2.2.2.2.2.2.1:Nat):Int)≥(60:Int)))
 (.get (bE (a0,(a1.1,()),a2,(-1,()),())) fun ((ja,_),_)=>
 .ret ((ja,()),((),(),(),())))
 (.get (bX ((23,()),(y3,()),(0,()),(0,()),())) fun ((lp,_),_)=>
 .get (bB (a0,lp,())) fun ((kR,_),_)=>
 .get (bE (kR,(a1.1,()),a2,(1,()),())) fun ((lP,_),_)=>
 .ret ((lP,()),((),(),(),()))))
 (.ite ((b9.2.1==2))
 (.ite (decide (b9.2.2.2.1≥(8:Int)))
 (.get (bE (a0,(a1.1,()),a2,(-1,()),())) fun ((uE,_),_)=>
 .ret ((uE,()),((),(),(),())))
 (.get (bX ((19,()),(b9.2.2.1,()),(b9.2.2.2.1,()),(y3,()),())) fun ((m3,_),_)=>
 .get (bB (a0,m3,())) fun ((tE,_),_)=>
 .get (bX ((13,()),(b9.1,()),((IntKind.i64.wrap (b9.2.2.2.1+1)),()),(0,()),())) fun ((m4,_),_)=>
 .get (bB (tE,m4,())) fun ((ox,_),_)=>
 .get (bE (ox,(a1.1,()),a2,(1,()),())) fun ((zT,_),_)=>
 .ret ((zT,()),((),(),(),()))))
 (.ite (((ix a0.2.2.2.2.1 b9.2.2.1 (3:Int))==0))
 (.get (bE (a0,(a1.1,()),a2,(-1,()),())) fun ((lQ,_),_)=>
 .ret ((lQ,()),((),(),(),())))
 (.ite (decide (0≤(bp a0.2.2.2.2.2.1 b9.2.2.1)∧(bp a0.2.2.2.2.2.1 b9.2.2.1)<((List.length a0.2.2.2.2.2.1:Nat):Int)))
 (.get (nth a0.2.2.2.2.2.1 (Int.toNat (bp a0.2.2.2.2.2.1 b9.2.2.1))) fun Cy=>
 .ite (decide (((List.length Cy.2.1:Nat):Int)≥(4:Int)))
 (.get (wJ (a0,(a1.1,()),(5,()),(b9.1,()),())) fun ((tF,_),_)=>
 .ret ((tF,()),((),(),(),())))
 (.get (bX ((15,()),(b9.2.2.1,()),(y3,()),(0,()),())) fun ((uJ,_),_)=>
 .get (bB (a0,uJ,())) fun ((Jx,_),_)=>
 .get (zS (Jx,(b9.2.2.1,()),())) fun ((Qm,_),_)=>
 .get (bE (Qm,(a1.1,()),a2,(1,()),())) fun ((Qn,_),_)=>
 .ret ((Qn,()),((),(),(),()))))
 .fail)))))
 (.get (bE (a0,(a1.1,()),a2,(-1,()),())) fun ((Qo,_),_)=>
 .ret ((Qo,()),((),(),(),()))))
 .fail)
 .fail
def Qp (x:t13×t15×t14×Unit):=(EK x).eval
def agP:bM:=cw 276 false [i13,i15,i14] [none,none,none] [i13] EK
theorem Vi:agP.Ok Tryz.prog:=bA bF [] [] [Qk,uB,pB,ny,yz,yA,PS,Va] ⟨zb,iM,fJ,eS,uG,uI,yT,Et,trivial⟩ (fun _=>none) Tryz.f276 [.cell 6 154] fun x=>by kernel_rfl
abbrev acn:=(t13×Unit)×(Unit×XI)
def EM:t13×t15×t14×Unit→Out acn
|(a0,a1,a2,_)=>
 .get (Qf ((a0.1,a0.2.1,a0.2.2.1,a0.2.2.2.1,a0.2.2.2.2.1,a0.2.2.2.2.2.1,a0.2.2.2.2.2.2.1,a0.2.2.2.2.2.2.2.1,a0.2.2.2.2.2.2.2.2.1,()),())) fun ((eu,_),_)=>
 .get (zU (a1,(0,()),())) fun ((b9,_),_)=>
 .get (zU (a1,((IntKind.i64.wrap (b9.1+1)),()),())) fun ((dF,_),_)=>
 .get (ED ((a0.1,a0.2.1,a0.2.2.1,a0.2.2.2.1,a0.2.2.2.2.1,a0.2.2.2.2.2.1,a0.2.2.2.2.2.2.1,a0.2.2.2.2.2.2.2.1,a0.2.2.2.2.2.2.2.2.1,()),(0,()),())) fun ((gA,_),_)=>
 .get (ED ((a0.1,a0.2.1,a0.2.2.1,a0.2.2.2.1,a0.2.2.2.2.1,a0.2.2.2.2.2.1,a0.2.2.2.2.2.2.1,a0.2.2.2.2.2.2.2.1,a0.2.2.2.2.2.2.2.2.1,()),((IntKind.i64.wrap (gA.1+1)),()),())) fun ((ja,_),_)=>
 .ite ((decide (eu.1<0))==false)
 (.ite ((decide (b9.1<0))==false)
 (.ite ((decide (dF.1<0))==false)
 (.ite ((decide (gA.1<0))==false)
 (.ite (decide (ja.1<0))
 (.get (bE (a0,(a1.1,()),a2,(-1,()),())) fun ((lp,_),_)=>
 .ret ((lp,()),((),(),(),())))
 (.get (bX ((14,()),eu,(0,()),(0,()),())) fun ((kR,_),_)=>
 .get (bB (a0,kR,())) fun ((lP,_),_)=>
 .get (bX ((10,()),gA,(3,()),eu,())) fun ((uE,_),_)=>
 .get (bB (lP,uE,())) fun ((m3,_),_)=>
 .get (bX ((10,()),ja,(4,()),eu,())) fun ((tE,_),_)=>
 .get (bB (m3,tE,())) fun ((m4,_),_)=>
 .get (bX ((11,()),gA,(1,()),(0,()),())) fun ((ox,_),_)=>
 .get (bB (m4,ox,())) fun ((zT,_),_)=>
 .get (bX ((11,()),ja,(1,()),(0,()),())) fun ((lQ,_),_)=>
 .get (bB (zT,lQ,())) fun ((Jw,_),_)=>
 .get (bX ((9,()),(a1.1,()),b9,gA,())) fun ((tF,_),_)=>
 .get (bB (Jw,tF,())) fun ((uJ,_),_)=>
 .get (bX ((9,()),(a1.1,()),dF,ja,())) fun ((Jx,_),_)=>
 .get (bB (uJ,Jx,())) fun ((Qm,_),_)=>
 .get (wI (Qm,(a1.1,()),a2,b9,dF,())) fun ((Qn,_),_)=>
 .ret ((Qn,()),((),(),(),()))))
 (.get (bE (a0,(a1.1,()),a2,(-1,()),())) fun ((Qq,_),_)=>
 .ret ((Qq,()),((),(),(),()))))
 (.get (bE (a0,(a1.1,()),a2,(-1,()),())) fun ((Jy,_),_)=>
 .ret ((Jy,()),((),(),(),()))))
 (.get (bE (a0,(a1.1,()),a2,(-1,()),())) fun ((Qr,_),_)=>
 .ret ((Qr,()),((),(),(),()))))
 (.get (bE (a0,(a1.1,()),a2,(-1,()),())) fun ((Qs,_),_)=>
 .ret ((Qs,()),((),(),(),())))
def Qt (x:t13×t15×t14×Unit):=(EM x).eval
def agQ:bM:=cw 277 false [i13,i15,i14] [none,none,none] [i13] EM
theorem Vj:agQ.Ok Tryz.prog:=bA bF [] [] [agI,Vc,ab5,uB,pB,ny,U6] ⟨Vd,EB,Lt,iM,fJ,eS,Ek,trivial⟩ (fun _=>none) Tryz.f277 [.cell 6 154] fun x=>by kernel_rfl
abbrev aco:=(t13×Unit)×(Unit×XI)
def EN:t13×t15×t14×Unit→Out aco
|(a0,a1,a2,_)=>
 .ite (decide (0≤(0:Int)))
 (.get (nth a2.2.1 (Int.toNat (0:Int))) fun y1=>
 .get (tG ((a0.1,a0.2.1,a0.2.2.1,a0.2.2.2.1,a0.2.2.2.2.1,a0.2.2.2.2.2.1,a0.2.2.2.2.2.2.1,a0.2.2.2.2.2.2.2.1,a0.2.2.2.2.2.2.2.2.1,()),a1,(y1,()),())) fun ((b9,y2b,_),_)=>
 .get (zU (a1,(0,()),())) fun ((dF,_),_)=>
 .ite ((!y2b.1)==false)
 (.ite (decide (dF.1<0))
 (.get (bE (a0,(a1.1,()),a2,(-1,()),())) fun ((gA,_),_)=>
 .ret ((gA,()),((),(),(),())))
 (.get (bX ((11,()),(b9.1,()),(1,()),(0,()),())) fun ((ja,_),_)=>
 .get (bB (a0,ja,())) fun ((lp,_),_)=>
 .get (bX ((9,()),(a1.1,()),dF,(b9.1,()),())) fun ((kR,_),_)=>
 .get (bB (lp,kR,())) fun ((lP,_),_)=>
 .get (bE (lP,(a1.1,()),a2,dF,())) fun ((uE,_),_)=>
 .ret ((uE,()),((),(),(),()))))
 (.get (bE (a0,(a1.1,()),a2,(-1,()),())) fun ((m3,_),_)=>
 .ret ((m3,()),((),(),(),()))))
 .fail
def Qu (x:t13×t15×t14×Unit):=(EN x).eval
def agR:bM:=cw 278 false [i13,i15,i14] [none,none,none] [i13] EN
theorem Vk:agR.Ok Tryz.prog:=bA bF [] [] [Qk,Vc,uB,pB,ny] ⟨zb,EB,iM,fJ,eS,trivial⟩ (fun _=>none) Tryz.f278 [.cell 6 154] fun x=>by kernel_rfl
abbrev acp:=(t13×Unit)×(Unit×XI)
def EO:t13×t15×t14×Unit→Out acp
|(a0,a1,a2,_)=>
 .ite (decide (0≤(0:Int)))
 (.get (nth a2.2.1 (Int.toNat (0:Int))) fun y1=>
 .ite (decide (y1≤(0:Int)))
 (.get (bE (a0,(a1.1,()),a2,(0,()),())) fun ((b9,_),_)=>
 .ret ((b9,()),((),(),(),())))
 (.ite (decide ((IntKind.i64.wrap (a0.2.1+y1))>1000000))
 (.get (bE (a0,(a1.1,()),a2,(-1,()),())) fun ((dF,_),_)=>
 .ret ((dF,()),((),(),(),())))
 (.get (bE (a0,(a1.1,()),a2,(0,()),())) fun ((gA,_),_)=>
 .get (wJ (gA,(a1.1,()),(2,()),((IntKind.i64.wrap (gA.2.1+y1)),()),())) fun ((ja,_),_)=>
 .ret ((ja,()),((),(),(),())))))
 .fail
def Qv (x:t13×t15×t14×Unit):=(EO x).eval
def agS:bM:=cw 279 false [i13,i15,i14] [none,none,none] [i13] EO
theorem Vl:agS.Ok Tryz.prog:=bA bF [] [] [uB,PS] ⟨iM,yT,trivial⟩ (fun _=>none) Tryz.f279 [.cell 6 154] fun x=>by kernel_rfl
abbrev acq:=(t13×Unit)×(Unit×XI)
def EP:t13×t15×t14×Unit→Out acq
|(a0,a1,a2,_)=>
 .ite (decide (0≤(0:Int)))
 (.get (nth a2.2.1 (Int.toNat (0:Int))) fun y1=>
 .ite ((decide ((ak a0.2.2.2.1 y1)<0))==false)
 (.ite (decide (0≤(ak a0.2.2.2.1 y1)∧(ak a0.2.2.2.1 y1)<((List.length a0.2.2.2.1:Nat):Int)))
 (.get (nth a0.2.2.2.1 (Int.toNat (ak a0.2.2.2.1 y1))) fun y2=>
 .ite ((y2.2.2.1==6))
 (.get (bE (a0,(a1.1,()),a2,(-1,()),())) fun ((dF,_),_)=>
 .ret ((dF,()),((),(),(),())))
 (.ite (decide (0≤(0:Int)))
 (.get (nth a2.2.1 (Int.toNat (0:Int))) fun y4=>
 .ite ((y4==a1.1))
 (.get (wN (a0,(a1.1,()),(-1,()),())) fun ((ja,_),_)=>
 .ret ((ja,()),((),(),(),())))
 (.ite (decide (0≤(0:Int)))
 (.get (nth a2.2.1 (Int.toNat (0:Int))) fun y6=>
 .get (wN (a0,(y6,()),(-1,()),())) fun ((kR,_),_)=>
 .get (bE (kR,(a1.1,()),a2,(0,()),())) fun ((lP,_),_)=>
 .ret ((lP,()),((),(),(),())))
 .fail))
 .fail))
 .fail)
 (.get (bE (a0,(a1.1,()),a2,(-1,()),())) fun ((uE,_),_)=>
 .ret ((uE,()),((),(),(),()))))
 .fail
def Qw (x:t13×t15×t14×Unit):=(EP x).eval
def agT:bM:=cw 280 false [i13,i15,i14] [none,none,none] [i13] EP
theorem Vm:agT.Ok Tryz.prog:=bA bF [] [] [uF,uB,Vb] ⟨oz,iM,Ez,trivial⟩ (fun _=>none) Tryz.f280 [.cell 6 154] fun x=>by kernel_rfl
abbrev acr:=(t13×Unit)×(Unit×XI)
def ER:t13×t15×t14×Unit→Out acr
|(a0,a1,a2,_)=>
 .ite (decide (0≤(0:Int)))
 (.get (nth a2.2.1 (Int.toNat (0:Int))) fun y1=>
 .ite ((decide ((bt a0.2.2.2.2.2.2.1 y1)<0))==false)
 (.ite (decide ((ix a0.2.2.2.2.1 y1 (2:Int))>0))
 (.get (bE (a0,(a1.1,()),a2,(-1,()),())) fun ((b9,_),_)=>
 .ret ((b9,()),((),(),(),())))
 (.get (bX ((20,()),(y1,()),(0,()),(0,()),())) fun ((dF,_),_)=>
 .get (bB (a0,dF,())) fun ((gA,_),_)=>
 .get (bE (gA,(a1.1,()),a2,(0,()),())) fun ((ja,_),_)=>
 .ret ((ja,()),((),(),(),()))))
 (.get (bE (a0,(a1.1,()),a2,(-1,()),())) fun ((lp,_),_)=>
 .ret ((lp,()),((),(),(),()))))
 .fail
def Qx (x:t13×t15×t14×Unit):=(ER x).eval
def agU:bM:=cw 281 false [i13,i15,i14] [none,none,none] [i13] ER
theorem Vn:agU.Ok Tryz.prog:=bA bF [] [] [yB,yz,uB,pB,ny] ⟨uK,uG,iM,fJ,eS,trivial⟩ (fun _=>none) Tryz.f281 [.cell 6 154] fun x=>by kernel_rfl
abbrev acs:=(t13×Unit)×(Unit×XI)
def ES:t13×t15×t14×Unit→Out acs
|(a0,a1,a2,_)=>
 .ite (decide (0≤(0:Int)))
 (.get (nth a2.2.1 (Int.toNat (0:Int))) fun y1=>
 .ite ((decide (y1<0))==false)
 (.ite (decide (y1≥((List.length a0.2.2.1:Nat):Int)))
 (.get (bE (a0,(a1.1,()),a2,(-1,()),())) fun ((b9,_),_)=>
 .ret ((b9,()),((),(),(),())))
 (.get (bX ((8,()),(a1.1,()),(y1,()),(0,()),())) fun ((dF,_),_)=>
 .get (bB (a0,dF,())) fun ((gA,_),_)=>
 .get (pW ((4,()),())) fun ((ja,_),_)=>
 .get (yR (gA,(a1.1,()),(0,ja),())) fun ((lp,_),_)=>
 .ret ((lp,()),((),(),(),()))))
 (.get (bE (a0,(a1.1,()),a2,(-1,()),())) fun ((kR,_),_)=>
 .ret ((kR,()),((),(),(),()))))
 .fail
def Qy (x:t13×t15×t14×Unit):=(ES x).eval
def agV:bM:=cw 282 false [i13,i15,i14] [none,none,none] [i13] ES
theorem Vo:agV.Ok Tryz.prog:=bA bF [] [] [uB,pB,ny,k95,Lj] ⟨iM,fJ,eS,EU,zR,trivial⟩ (fun _=>none) Tryz.f282 [.cell 6 154] fun x=>by kernel_rfl
abbrev acu:=(t13×Unit)×(Unit×XI)
def EV:t13×t15×t14×Unit→Out acu
|(a0,a1,a2,_)=>
 .ite ((4:Int)==0)
 .fail
 (.ite ((decide ((IntKind.i64.wrap (Int.tdiv ((List.length a1.2.2.2.2.2.2.1:Nat):Int) (4:Int)))≥(3:Int)))==false)
 (.get (oA ((a0.1,a0.2.1,a0.2.2.1,a0.2.2.2.1,a0.2.2.2.2.1,a0.2.2.2.2.2.1,a0.2.2.2.2.2.2.1,a0.2.2.2.2.2.2.2.1,a0.2.2.2.2.2.2.2.2.1,()),(1,()),())) fun ((eu,_),_)=>
 .ite (!eu.1)
 (.get (bE (a0,(a1.1,()),a2,(-1,()),())) fun ((b9,_),_)=>
 .ret ((b9,()),((),(),(),())))
 (.get (bX ((7,()),(a1.1,()),(0,()),(0,()),())) fun ((dF,_),_)=>
 .get (bB (a0,dF,())) fun ((gA,_),_)=>
 .get (bE (gA,(a1.1,()),a2,(((List.length a1.2.2.2.2.2.2.1:Nat):Int),()),())) fun ((ja,_),_)=>
 .ret ((ja,()),((),(),(),()))))
 (.get (bE (a0,(a1.1,()),a2,(-1,()),())) fun ((lp,_),_)=>
 .ret ((lp,()),((),(),(),()))))
def Qz (x:t13×t15×t14×Unit):=(EV x).eval
def agX:bM:=cw 272 false [i13,i15,i14] [none,none,none] [i13] EV
theorem Vp:agX.Ok Tryz.prog:=bA bF [] [] [Qh,uB,pB,ny] ⟨yY,iM,fJ,eS,trivial⟩ (fun _=>none) Tryz.f272 [.cell 6 154] fun x=>by kernel_rfl
abbrev acv:=(t13×Unit)×(Unit×Unit×XI)
def EW:t13×t15×t14×t1×Unit→Out acv
|(a0,a1,a2,a3,_)=>
 .ite ((a3.1==1))
 (.ite (decide (0≤(0:Int)))
 (.get (nth a2.2.1 (Int.toNat (0:Int))) fun y1=>
 .get (wN (a0,(a1.1,()),(y1,()),())) fun ((b9,_),_)=>
 .ret ((b9,()),((),(),(),(),())))
 .fail)
 (.ite ((a3.1==2))
 (.get (Qg (a0,a1,a2,())) fun ((dF,_),_)=>
 .ret ((dF,()),((),(),(),(),())))
 (.ite ((a3.1==3))
 (.get (Qi (a0,a1,a2,())) fun ((gA,_),_)=>
 .ret ((gA,()),((),(),(),(),())))
 (.ite ((a3.1==4))
 (.get (bE (a0,(a1.1,()),a2,(a1.1,()),())) fun ((ja,_),_)=>
 .ret ((ja,()),((),(),(),(),())))
 (.ite ((a3.1==5))
 (.get (Qz (a0,a1,a2,())) fun ((lp,_),_)=>
 .ret ((lp,()),((),(),(),(),())))
 (.ite ((a3.1==6))
 (.get (Qj (a0,a1,a2,())) fun ((kR,_),_)=>
 .ret ((kR,()),((),(),(),(),())))
 (.ite ((a3.1==7))
 (.ite (decide (0≤(0:Int)))
 (.get (nth a2.2.1 (Int.toNat (0:Int))) fun y8=>
 .get (tG ((a0.1,a0.2.1,a0.2.2.1,a0.2.2.2.1,a0.2.2.2.2.1,a0.2.2.2.2.2.1,a0.2.2.2.2.2.2.1,a0.2.2.2.2.2.2.2.1,a0.2.2.2.2.2.2.2.2.1,()),a1,(y8,()),())) fun ((_,y9b,_),_)=>
 .ite (!y9b.1)
 (.get (bE (a0,(a1.1,()),a2,(-1,()),())) fun ((m3,_),_)=>
 .ret ((m3,()),((),(),(),(),())))
 (.ite (decide (0≤(0:Int)))
 (.get (nth a2.2.1 (Int.toNat (0:Int))) fun wC=>
 .get (wM (a0,(a1.1,()),(wC,()),())) fun ((m4,_),_)=>
 .get (bE (m4,(a1.1,()),a2,(0,()),())) fun ((ox,_),_)=>
 .ret ((ox,()),((),(),(),(),())))
 .fail))
 .fail)
 (.ite ((a3.1==8))
 (.get (Ql (a0,a1,a2,())) fun ((zT,_),_)=>
 .ret ((zT,()),((),(),(),(),())))
 (.ite ((a3.1==9))
 (.get (Qp (a0,a1,a2,())) fun ((lQ,_),_)=>
 .ret ((lQ,()),((),(),(),(),())))
 (.ite ((a3.1==10))
 (.get (Qt (a0,a1,a2,())) fun ((Jw,_),_)=>
 .ret ((Jw,()),((),(),(),(),())))
 (.ite ((a3.1==11))
 (.get (Qu (a0,a1,a2,())) fun ((tF,_),_)=>
 .ret ((tF,()),((),(),(),(),())))
 (.ite ((a3.1==12))
 (.get (Qv (a0,a1,a2,())) fun ((uJ,_),_)=>
 .ret ((uJ,()),((),(),(),(),())))
 (.ite ((a3.1==13))
 (.get (Qw (a0,a1,a2,())) fun ((Jx,_),_)=>
 .ret ((Jx,()),((),(),(),(),())))
 (.ite ((a3.1==14))
 (.get (Qx (a0,a1,a2,())) fun ((Qm,_),_)=>
 .ret ((Qm,()),((),(),(),(),())))
 (.ite ((a3.1==15))
 (.get (bE (a0,(a1.1,()),a2,(a0.2.1,()),())) fun ((Qn,_),_)=>
 .ret ((Qn,()),((),(),(),(),())))
 (.ite ((a3.1==16))
 (.get (Qy (a0,a1,a2,())) fun ((Qo,_),_)=>
 .ret ((Qo,()),((),(),(),(),())))
 (.ite ((a3.1==17))
 (.get (bE (a0,(a1.1,()),a2,(0,()),())) fun ((Qq,_),_)=>
 .get (bX ((22,()),(a1.1,()),(0,()),(0,()),())) fun ((Jy,_),_)=>
 .get (bB (Qq,Jy,())) fun ((Qr,_),_)=>
 .get (bX ((21,()),(a1.1,()),(0,()),(0,()),())) fun ((Qs,_),_)=>
 .get (bB (Qr,Qs,())) fun ((acw,_),_)=>
 .ret ((acw,()),((),(),(),(),())))
 (.get (bE (a0,(a1.1,()),a2,(-1,()),())) fun ((acx,_),_)=>
 .ret ((acx,()),((),(),(),(),())))))))))))))))))))
def QA (x:t13×t15×t14×t1×Unit):=(EW x).eval
def agZ:bM:=cw 242 false [i13,i15,i14,i1] [none,none,none,none] [i13] EW
theorem Vq:agZ.Ok Tryz.prog:=bA bF [] [] [Vb,agL,agM,uB,agX,agN,Qk,abZ,agO,agP,agQ,agR,agS,agT,agU,agV,pB,ny] ⟨Ez,Ve,Vf,iM,Vp,Vg,zb,Lo,Vh,Vi,Vj,Vk,Vl,Vm,Vn,Vo,fJ,eS,trivial⟩ (fun _=>none) Tryz.f242 [.cell 8 154] fun x=>by kernel_rfl
abbrev acy:=(t13×Unit)×(Unit×Unit)
def EX:t4×Unit→Out acy
|(a0,_)=>
 .ite ((((List.length a0.2.2.2.2.2.2.2.1:Nat):Int)==0))
 (.ret (((a0.1,a0.2.1,a0.2.2.1,a0.2.2.2.1,a0.2.2.2.2.1,a0.2.2.2.2.2.1,a0.2.2.2.2.2.2.1,a0.2.2.2.2.2.2.2.1,a0.2.2.2.2.2.2.2.2.1,([]:List ((Int×Int×Int×Int×List Int×Unit))),()),()),((),())))
 (.ite (decide (0≤(0:Int)∧(0:Int)<((List.length a0.2.2.2.2.2.2.2.1:Nat):Int)))
 (.get (nth a0.2.2.2.2.2.2.2.1 (Int.toNat (0:Int))) fun y1=>
 .ite (decide (0≤(ak a0.2.2.2.1 y1)∧(ak a0.2.2.2.1 y1)<((List.length a0.2.2.2.1:Nat):Int)))
 (.get (nth a0.2.2.2.1 (Int.toNat (ak a0.2.2.2.1 y1))) fun y2=>
 .get (et y2.1 y2.2.1 y2.2.2.1 y2.2.2.2.1 y2.2.2.2.2.1.1 y2.2.2.2.2.1.2.1 y2.2.2.2.2.2.1 y2.2.2.2.2.2.2.1 y2.2.2.2.2.2.2.2.1 y2.2.2.2.2.2.2.2.2.1) fun y3=>
 .ite (decide (0≤y3.2.2.2.1∧y3.2.2.2.1<((List.length a0.2.2.1:Nat):Int)))
 (.get (nth a0.2.2.1 (Int.toNat y3.2.2.2.1)) fun y4=>
 .ite (decide (List.length ([]:List Int)+List.length y3.2.2.2.2.2.1≤bV))
 (.get (QB ((y4,()),(y3.2.2.2.2.1,(([]:List Int)++y3.2.2.2.2.2.1),()),(y3.2.2.2.2.2.2.1,()),())) fun ((ja,Z7,_),_)=>
 .ite ((Z7.1==2))
 (.get (wN ((a0.1,a0.2.1,a0.2.2.1,(List.set a0.2.2.2.1 (Int.toNat (ak a0.2.2.2.1 y1)) y2),a0.2.2.2.2.1,a0.2.2.2.2.2.1,a0.2.2.2.2.2.2.1,a0.2.2.2.2.2.2.2.1,a0.2.2.2.2.2.2.2.2.1,([]:List ((Int×Int×Int×Int×List Int×Unit))),()),(y3.1,()),(-1,()),())) fun ((lp,_),_)=>
 .ret ((lp,()),((),())))
 (.ite ((Z7.1==1))
 (.get (QA ((a0.1,a0.2.1,a0.2.2.1,(List.set a0.2.2.2.1 (Int.toNat (ak a0.2.2.2.1 y1)) y2),a0.2.2.2.2.1,a0.2.2.2.2.2.1,a0.2.2.2.2.2.2.1,a0.2.2.2.2.2.2.2.1,a0.2.2.2.2.2.2.2.2.1,([]:List ((Int×Int×Int×Int×List Int×Unit))),()),(y3.1,y3.2.1,y3.2.2.1,y3.2.2.2.1,y3.2.2.2.2.1,y3.2.2.2.2.2.1,y3.2.2.2.2.2.2.1,y3.2.2.2.2.2.2.2.1,y3.2.2.2.2.2.2.2.2.1,y3.2.2.2.2.2.2.2.2.2,()),ja,Z7.2.2.2,())) fun ((kR,_),_)=>
 .ret ((kR,()),((),())))
 (.get (PO ((a0.1,a0.2.1,a0.2.2.1,(List.set a0.2.2.2.1 (Int.toNat (ak a0.2.2.2.1 y1)) y2),a0.2.2.2.2.1,a0.2.2.2.2.2.1,a0.2.2.2.2.2.2.1,a0.2.2.2.2.2.2.2.1,a0.2.2.2.2.2.2.2.2.1,([]:List ((Int×Int×Int×Int×List Int×Unit))),()),(y3.1,()),ja,())) fun ((lP,_),_)=>
 .ite (decide (Z7.2.1≥(0:Int)))
 (.get (bX ((2,()),(y3.1,()),(Z7.2.1,()),(Z7.2.2.1,()),())) fun ((uE,_),_)=>
 .get (bB (lP,uE,())) fun ((m3,_),_)=>
 .ret ((m3,()),((),())))
 (.ret ((lP,()),((),()))))))
 .fail)
 .fail)
 .fail)
 .fail)
def QC (x:t4×Unit):=(EX x).eval
def ag0:bM:=cw 164 false [i4] [none] [i13] EX
theorem Vr:ag0.Ok Tryz.prog:=bA bF [1035,1298] [(1034,1),(1035,224),(1298,2)] [uF,B1,ag1,Vb,agZ,agE,pB,ny] ⟨oz,zc,Vs,Ez,Vq,U4,fJ,eS,trivial⟩ (fun _=>none) Tryz.f164 [.cell 2 154] fun x=>by kernel_rfl
abbrev QD:=(t13×Unit)×(Unit×Unit)
abbrev Lx:=(Int×Unit)×((Int×Int×Unit)×(Int×Int×Unit)×List Int×List (List aw)×List af×List ah×List ag×List ag×List Int×List Int×List ((Int×Int×Int×Int×List Int×Unit))×List (List aw)×List af×List ah×List ag×List ag×List Int×List Int×List ((Int×Int×Int×Int×List Int×Unit))×Unit)
def rh:Lx→Out (Round Lx ((Unit)×((Int×Int×Unit)×(Int×Int×Unit)×List Int×List (List aw)×List af×List ah×List ag×List ag×List Int×List Int×List ((Int×Int×Int×Int×List Int×Unit))×List (List aw)×List af×List ah×List ag×List ag×List Int×List Int×List ((Int×Int×Int×Int×List Int×Unit))×Unit)) Empty)
|((p0,_),(p1,p2,_),(p3,p4,_),p5,p6,p7,p8,p9,cz,cE,dp,dh,du,cP,dG,dX,ep,eZ,fR,fZ,_)=>
 .ite (decide (p0<((List.length cP:Nat):Int)))
 (.ite (decide (0≤p0∧p0<((List.length cP:Nat):Int)))
 (.get (nth cP (Int.toNat p0)) fun y1=>
 .ite (((y1.2.2.1==2))==true)
 (.ite (decide (0≤p0∧p0<((List.length cP:Nat):Int)))
 (.get (nth cP (Int.toNat p0)) fun y2=>
 .ite (decide (y2.2.2.2.2.2.2.2.1≤p4))
 (.ite (decide (0≤p0∧p0<((List.length cP:Nat):Int)))
 (.get (nth cP (Int.toNat p0)) fun y3=>
 .ite (decide (List.length p5+List.length ([y3.1]:List Int)≤bV))
 (.ret (.again (((IntKind.i64.wrap (p0+1)),()),((p1,p2,()),(p3,p4,()),(p5++([y3.1]:List Int)),p6,p7,p8,p9,cz,cE,dp,dh,du,cP,dG,dX,ep,eZ,fR,fZ,()))))
 .fail)
 .fail)
 (.ret (.again (((IntKind.i64.wrap (p0+1)),()),((p1,p2,()),(p3,p4,()),p5,p6,p7,p8,p9,cz,cE,dp,dh,du,cP,dG,dX,ep,eZ,fR,fZ,())))))
 .fail)
 (.ret (.again (((IntKind.i64.wrap (p0+1)),()),((p1,p2,()),(p3,p4,()),p5,p6,p7,p8,p9,cz,cE,dp,dh,du,cP,dG,dX,ep,eZ,fR,fZ,())))))
 .fail)
 (.ret (.out ((),((p1,p2,()),(p3,p4,()),p5,p6,p7,p8,p9,cz,cE,dp,dh,du,cP,dG,dX,ep,eZ,fR,fZ,()))))
abbrev Ly:=(Int×Unit)×((Int×Int×Unit)×(Int×Int×Unit)×List Int×List (List aw)×List af×List ah×List ag×List ag×List Int×List Int×List ((Int×Int×Int×Int×List Int×Unit))×List (List aw)×List af×List ah×List ag×List ag×List Int×List Int×List ((Int×Int×Int×Int×List Int×Unit))×Unit)
def ri:Ly→Out (Round Ly ((Unit)×((Int×Int×Unit)×(Int×Int×Unit)×List (List aw)×List af×List ah×List ag×List ag×List Int×List Int×List ((Int×Int×Int×Int×List Int×Unit))×List (List aw)×List af×List ah×List ag×List ag×List Int×List Int×List ((Int×Int×Int×Int×List Int×Unit))×Unit)) Empty)
|((p0,_),(p1,p2,_),(p3,p4,_),p5,p6,p7,p8,p9,cz,cE,dp,dh,du,cP,dG,dX,ep,eZ,fR,fZ,_)=>
 .ite (decide (p0<((List.length p5:Nat):Int)))
 (.ite (decide (0≤p0∧p0<((List.length p5:Nat):Int)))
 (.get (nth p5 (Int.toNat p0)) fun y1=>
 .get (pU ((p3,p4,du,cP,dG,dX,ep,eZ,fR,fZ,()),(y1,()),())) fun ((b9,_),_)=>
 .ret (.again (((IntKind.i64.wrap (p0+1)),()),((p1,p2,()),(b9.1,b9.2.1,()),p5,p6,p7,p8,p9,cz,cE,dp,dh,b9.2.2.1,b9.2.2.2.1,b9.2.2.2.2.1,b9.2.2.2.2.2.1,b9.2.2.2.2.2.2.1,b9.2.2.2.2.2.2.2.1,b9.2.2.2.2.2.2.2.2.1,b9.2.2.2.2.2.2.2.2.2.1,()))))
 .fail)
 (.ret (.out ((),((p1,p2,()),(p3,p4,()),p6,p7,p8,p9,cz,cE,dp,dh,du,cP,dG,dX,ep,eZ,fR,fZ,()))))
def zd (v0:Int) (v1:Int) (v2:Int) (v3:Int) (v4:List (List aw)) (v5:List af) (v6:List ah) (v7:List ag) (v8:List ag) (v9:List Int) (v10:List Int) (v11:List (Int×Int×Int×Int×List Int×Unit)) (v12:List (List aw)) (I2:List af) (NQ:List ah) (Us:List ag) (Z6:List ag) (v17:List Int) (v18:List Int) (v19:List (Int×Int×Int×Int×List Int×Unit)):Out (QD):=
 .get (b5 rh bn ((0,()),((v0,v1,()),(v2,v3,()),([]:List Int),v4,v5,v6,v7,v8,v9,v10,v11,v12,I2,NQ,Us,Z6,v17,v18,v19,()))) fun (_,(akQ,akR,_),(akS,akT,_),akU,akV,akW,akX,akY,akZ,ak0,ak1,ak2,ak3,ak4,ak5,ak6,ak7,ak8,ak9,ala,_)=>
 .get (b5 ri bn ((0,()),((akQ,akR,()),(akS,akT,()),akU,akV,akW,akX,akY,akZ,ak0,ak1,ak2,ak3,ak4,ak5,ak6,ak7,ak8,ak9,ala,()))) fun (_,_,(alb,alc,_),_,_,_,_,_,_,_,_,ald,ale,alf,alg,alh,ali,alj,alk,_)=>
 .ret (((alb,alc,ald,ale,alf,alg,alh,ali,alj,alk,()),()),((),()))
def EY:t4×Unit→Out QD
|(a0,_)=>
 .ite (decide (a0.2.1≥(1000000:Int)))
 (.ret (((a0.1,a0.2.1,a0.2.2.1,a0.2.2.2.1,a0.2.2.2.2.1,a0.2.2.2.2.2.1,a0.2.2.2.2.2.2.1,a0.2.2.2.2.2.2.2.1,a0.2.2.2.2.2.2.2.2.1,([]:List ((Int×Int×Int×Int×List Int×Unit))),()),()),((),())))
 (.get (bX ((24,()),(0,()),(0,()),(0,()),())) fun ((eu,_),_)=>
 .get (bB ((a0.1,a0.2.1,a0.2.2.1,a0.2.2.2.1,a0.2.2.2.2.1,a0.2.2.2.2.2.1,a0.2.2.2.2.2.2.1,a0.2.2.2.2.2.2.2.1,a0.2.2.2.2.2.2.2.2.1,([]:List ((Int×Int×Int×Int×List Int×Unit))),()),eu,())) fun ((b9,_),_)=>
 .ite (decide (((List.length b9.2.2.2.2.2.2.2.1:Nat):Int)≥(2:Int)))
 (.ite (decide (0≤(0:Int)∧(0:Int)<((List.length b9.2.2.2.2.2.2.2.1:Nat):Int)))
 (.get (nth b9.2.2.2.2.2.2.2.1 (Int.toNat (0:Int))) fun y3=>
 .get (bX ((22,()),(y3,()),(0,()),(0,()),())) fun ((gA,_),_)=>
 .get (bB (b9,gA,())) fun ((ja,_),_)=>
 .get (bX ((21,()),(y3,()),(0,()),(0,()),())) fun ((lp,_),_)=>
 .get (bB (ja,lp,())) fun ((kR,_),_)=>
 zd (0:Int) (0:Int) kR.1 kR.2.1 ([]:List (List aw)) ([]:List af) ([]:List ah) ([]:List ag) ([]:List ag) ([]:List Int) ([]:List Int) ([]:List ((Int×Int×Int×Int×List Int×Unit))) kR.2.2.1 kR.2.2.2.1 kR.2.2.2.2.1 kR.2.2.2.2.2.1 kR.2.2.2.2.2.2.1 kR.2.2.2.2.2.2.2.1 kR.2.2.2.2.2.2.2.2.1 kR.2.2.2.2.2.2.2.2.2.1)
 .fail)
 (zd (0:Int) (0:Int) b9.1 b9.2.1 ([]:List (List aw)) ([]:List af) ([]:List ah) ([]:List ag) ([]:List ag) ([]:List Int) ([]:List Int) ([]:List ((Int×Int×Int×Int×List Int×Unit))) b9.2.2.1 b9.2.2.2.1 b9.2.2.2.2.1 b9.2.2.2.2.2.1 b9.2.2.2.2.2.2.1 b9.2.2.2.2.2.2.2.1 b9.2.2.2.2.2.2.2.2.1 b9.2.2.2.2.2.2.2.2.2.1))
def QE (x:t4×Unit):=(EY x).eval
def acz:Nat→Option aq:=fun n=>bU [(0,⟨⟨[.dead, .dead, .vptr 64000000 0, .vptr 64000001 0, .dead, .aP 64000002, .i .i64]++dd 82,qZ⟩,⟨[.dead, .dead, .vptr 64000000 0, .vptr 64000001 0, .dead, .aP 64000002]++dd 83,qZ⟩,none,false⟩),(2,⟨⟨[.dead, .dead, .vptr 64000000 0, .vptr 64000001 0, .dead, .aP 64000002, .dead, .i .i64]++dd 81,qZ⟩,⟨[.dead, .dead, .vptr 64000000 0, .vptr 64000001 0]++dd 85,uD⟩,none,false⟩)] n
def ag2:bM:=cw 142 false [i4] [none] [i13] EY
theorem Vt:ag2.Ok Tryz.prog:=bA bF [] [] [pB,ny,U7] ⟨fJ,eS,En,trivial⟩ acz Tryz.f142 [.cell 2 154] fun x=>by kernel_rfl
end
end Go.Proofs.YtohagdoklnkljaaGreat.Dm
