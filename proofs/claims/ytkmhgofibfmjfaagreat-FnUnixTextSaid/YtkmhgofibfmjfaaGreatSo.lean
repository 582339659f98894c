/- The data machine, part 42: the library's sort and compact at lists of numbers, as what is told of functions. -/
import Derived.Test.YtkmhgofibfmjfaaGreatM4
import Derived.Shelf.Sort.Plain
import Derived.Shelf.Slices.CompactI
namespace Go.Proofs.YtkmhgofibfmjfaaGreat.Dm
open Go Go.Sort
variable {z:Fz}
variable {w:World}
theorem YR {v:Value} {k:IntKind} {xs:List Int} {f:List Nat} (h:(Ty.sl (.int k)).aC z w [v] xs f):
  ∃ a cap,v= .slice a xs.length cap∧xs.length≤cap∧xs.length≤cj∧((cap=0∧f=[])∨∃ b o c E,a=some ⟨b,o,none⟩∧w.heap[b]? =some (.cells c E (0,0))∧o+cap≤c.size∧f=[b]∧
    ∀ (i:Nat) (y:Int),xs[i]? =some y→c[o+i]? =some (.int k y)):=by
 simp only [Ty.aC] at h;obtain ⟨a,cap,hv,⟨hc,hb⟩,h⟩:=h;refine ⟨a,cap,(List.cons.inj hv).1,hc,hb,h.imp id ?_⟩
 rintro ⟨b,o,c,E,fps,ha,hh,ho,hl,hf,hi⟩
 simp only [Ty.size,Nat.mul_one] at ho hi;have Fi:∀ (i:Nat) (y:Int),xs[i]? =some y→c[o+i]? =some (.int k y)∧fps[i]? =some []:=by
  intro i y hy;have cf:i<fps.length:=by rw [hl];exact (So.1 hy).1
  have h1:=hi i y (fps[i]'cf) hy (aa7 _);simp only [aK,hh] at h1;refine ⟨?_,by rw [aa7 cf,h1.2]⟩;have h2:=congrArg (λl=>l[0]?) h1.1;simp only [akW,ad5] at h2;simpa using h2
 refine ⟨b,o,c,E,ha,hh,ho, ?_,λi y hy=>(Fi i y hy).1⟩;have:fps.flatten=[]:=by
  refine List.flatten_eq_nil_iff.2 λl hm=> ?_;obtain ⟨i,cf,rfl⟩:=afM hm;have hx:i<xs.length:=Nat.lt_of_lt_of_eq cf hl;have:=(Fi i (xs[i]'hx) (aa7 hx)).2;rw [aa7 cf] at this;exact ac2 this
 rw [hf,this]
theorem Mz {w:World} {k:IntKind} {xs:List Int} {b o cap:Nat} {c:Array Value} {E:TypeId} (hh:w.heap[b]? =some (.cells c E (0,0))) (ho:o+cap≤c.size) (hc:xs.length≤cap) (hb:xs.length≤cj)
  (hi:∀ (i:Nat) (y:Int),xs[i]? =some y→c[o+i]? =some (.int k y)):(Ty.sl (.int k)).aC z w [.slice (some ⟨b,o,none⟩) xs.length cap] xs [b]:=by
 simp only [Ty.aC,Ty.size,Nat.mul_one];refine ⟨_,cap,rfl,⟨hc,hb⟩, .inr ⟨b,o,c,E,List.replicate xs.length [],rfl,hh,ho,List.length_replicate, ?_,λi y f hy hf=> ?_⟩⟩
 . have:(List.replicate xs.length ([]:List Nat)).flatten=[]:=List.flatten_eq_nil_iff.2 λl hm=>(List.mem_replicate.1 hm).2
   rw [this]
 . have cf:i<xs.length:=(So.1 hy).1
   have h1:=hi i y hy;have hf:(List.replicate xs.length ([]:List Nat))[i]? =some f:=hf;rw [afX,aaZ cf] at hf;obtain rfl:=ac2 hf;refine ⟨?_,rfl⟩;simp only [aK,hh];apply ae8;intro j;cases j with
   |zero=>simp only [akW,ad5];simpa using h1
   |succ j=>simp;omega
theorem YS {k:IntKind} {a:Option Addr} {cap:Nat} (h:cap=0):(Ty.sl (.int k)).aC z w [.slice a 0 cap] ([]:List Int) []:=by
 subst h;simp only [Ty.aC];exact ⟨a,0,rfl,⟨afI _,afI _⟩, .inl ⟨rfl,trivial⟩⟩
variable {b o:Nat} {c:Array Value}
theorem OC {E:TypeId} {xs:List Int} (hh:w.heap[b]? =some (.cells c E (0,0))) (hi:∀ (i:Nat) (y:Int),xs[i]? =some y→c[o+i]? =some (.int .i64 y)):Holds (Value.int .i64) w b o xs.toArray:=by
 intro j hj;have NS:j<xs.length:=by simpa using hj
 refine ⟨?_,by simp [World.frozen?, hh]⟩;have h1:=hi j _ (aa7 NS);simp only [World.cell?, hh];simp only [Option.isSome_none,aeF,if_false];rw [h1];simp [NS]
variable {os:Array Obj} {d:Array Int}
theorem sP {n:Nat} {E:TypeId} (hh:w.heap[b]? =some (.cells c E (0,0))):
  (grow (putRow (Value.int .i64) (Sort.ahead w n) b o d) os).heap[b]? =some (.cells (putCells (Value.int .i64) o d c) E (0,0)):=by
 have hg:b<w.heap.size:=(UV.1 hh).1;have e:(grow (putRow (Value.int .i64) (Sort.ahead w n) b o d) os).heap=(w.heap.modify b (onCells (putCells (Value.int .i64) o d)))++os:=rfl;rw [e,Array.getElem?_append_left (by simpa using hg),Array.getElem?_modify,aaZ rfl,hh];rfl
theorem qY {n b':Nat} (hb:b'<w.heap.size) (fE:b'≠b):
  (grow (putRow (Value.int .i64) (Sort.ahead w n) b o d) os).heap[b']? =w.heap[b']? :=by
 have e:(grow (putRow (Value.int .i64) (Sort.ahead w n) b o d) os).heap=(w.heap.modify b (onCells (putCells (Value.int .i64) o d)))++os:=rfl;rw [e,Array.getElem?_append_left (by simpa using hb),Array.getElem?_modify,aae (Ne.symm fE)]
theorem AW {n:Nat}:w.heap.size≤(grow (putRow (Value.int .i64) (Sort.ahead w n) b o d) os).heap.size:=by
 have e:(grow (putRow (Value.int .i64) (Sort.ahead w n) b o d) os).heap=(w.heap.modify b (onCells (putCells (Value.int .i64) o d)))++os:=rfl;rw [e];simp
theorem JE {d:List Int} (hc:o+d.length≤c.size) (i:Nat) (y:Int) (h:d[i]? =some y):(putCells (Value.int .i64) o d.toArray c)[o+i]? =some (.int .i64 y):=by
 have hi:i<d.length:=(So.1 h).1;have cf:o+i<c.size:=by omega
 have hy:d[i]'hi=y:=(So.1 h).2;unfold putCells;rw [Array.getElem?_mapIdx,Array.getElem?_eq_getElem cf];simp [hi,hy]
theorem Sc {P:Program} {S:Nat→Prop} {w:World} {hS:Ie S w} {b o n:Nat} {os:Array Obj} {d:Array Int} {c:Array Value} {E:TypeId} (hh:w.heap[b]? =some (.cells c E (0,0))) (hs:¬ S b)
  (ku:∀ a,a.block<w.heap.size→(grow (putRow (Value.int .i64) (Sort.ahead w n) b o d) os).frozen? a=w.frozen? a):
  Ev (rO P S w [b] [] (λ_=>undef) default hS) (grow (putRow (Value.int .i64) (Sort.ahead w n) b o d) os):=by
 refine ⟨AW,rfl,rfl,λb' cE=>qY (hS.1 b' cE) (λe=>hs (e ▸ cE)),λb' cE=> ?_,ku⟩;by_cases e:b'=b
 . subst e
   refine .inr (.inl ⟨c,_,E,hh,sP hh,by simp [putCells],λj hj=> ?_⟩);exact absurd (.inl (by simp)) hj
 . exact .inl (qY cE e)
structure adP (P:Program) (f:Nat):Prop where
 ex:∃ fn,P.funcs[f]? =some fn∧(fn.name== "runtime.NumGoroutine")=false∧fn.body.isNone=false
abbrev kY (l:List Int):List Int:=l.mergeSort λx y=>decide (x≤y)
def GK (l:List Int):Option (List Int):=if l.length<4611686018427387904 then some (kY l) else none
theorem YT {P:Program} {S:Nat→Prop} {hS:Ie S w}:Ev (rO P S w [] [] (λ_=>undef) default hS) w:=
 ⟨adK _,rfl,rfl,λ_ _=>rfl,λ_ _=> .inl rfl,λ_ _=>rfl⟩
theorem Sd {α:Type} {l:List Int} {g:List Int→α} {y:α} (h:(Out.get (GK l) λy=>Out.ret (g y)).eval=some y):l.length<4611686018427387904∧y=g (kY l):=by
 unfold GK at h;by_cases hl:l.length<4611686018427387904
 . rw [aaZ hl] at h;exact ⟨hl,(ac2 h).symm⟩
 . rw [aae hl] at h;cases h
theorem WC {P:Program} {f:Nat} {lend:Bool} (hfn:adP P f)
  (h1:∀ (Y8 off cap:Nat) (zs:List Int) (w:World),Holds (Value.int .i64) w Y8 off zs.toArray→Y8<w.heap.size→zs.length<4611686018427387904→
   Calls P f #[.slice (some ⟨Y8,off,none⟩) zs.length cap] w λe w'=>e= .returned (.tuple #[])∧∃ n os,w'=grow (putRow (Value.int .i64) (Sort.ahead w n) Y8 off (zs.mergeSort λx y=>decide (x≤y)).toArray) os)
  (h0:∀ (p:Option Addr) (cap:Nat) (w:World),Calls P f #[.slice p 0 cap] w λe w'=>e= .returned (.tuple #[])∧w'=w):
  bK.Ok P { f:=f,lend:=lend,aF:=[⟨false,false,[.mut (.int .i64)]⟩],lay:=[none],rs:=[],F:=λx=> .get (GK x.1.1) λy=> .ret ((),((y,()),())) }:=by
 intro x y hy S w hS ve fp g fc uf Q3;obtain ⟨⟨xs,u⟩,u'⟩:=x;revert xs;intro (xs:List Int) hy fc;obtain ⟨hl,hy⟩:=Sd (l:=xs) (g:=λy=>((),((y,()),()))) hy;subst hy;simp only [ba,cZ,aV] at fc;obtain ⟨v,_,f1,_,g1,_,rfl,rfl,rfl,⟨rfl,⟨v',_,f11,_,hv,rfl,hr,rfl,rfl⟩,_,Fi⟩,rfl,rfl,rfl⟩:=fc;obtain ⟨a,cap,rfl,hc,hb,hr⟩:=YR hr;have hvv:v= .slice a (List.length xs) cap:=by
  have ho:=Fi trivial;cases v<;>cases ho
  all_goals simp [Value.cells] at hv
  all_goals simpa [Value.cells] using hv
 subst hvv;refine ⟨hfn.ex, ?_⟩;have F3:(na [none] [Value.slice a (List.length xs) cap]).toArray= #[.slice a (List.length xs) cap]:=rfl;show Calls P f (na [none] [Value.slice a (List.length xs) cap]).toArray w _;rw [F3];rcases hr with ⟨h0c,rfl⟩|⟨b,o,c,E,rfl,hh,ho,rfl,hi⟩
 . have hx:xs=[]:=aeE (by omega)
   subst hx;refine (h0 a cap w).mono λe w' he=> ?_;obtain ⟨rfl,rfl⟩:=he;refine ⟨⟨[],[],[],[],rfl,⟨S,λ_ h=>h,λb h=>⟨.inl h,hS.1 b h⟩,by simp, ?_, ?_⟩,by simp,by simp⟩,YT⟩
   . simp [ba]
   . simp only [eh,s7,aY]
     refine ⟨_,_,[],[],rfl,rfl,⟨.slice a 0 cap,[],[],[],by simp [Value.cells],rfl, ?_,rfl,rfl⟩,rfl,rfl⟩;have e:kY []=[]:=by simp [kY]
     rw [e];exact YS h0c
 . have aqu:¬ S b:=Q3 b (by simp)
   have cf:b<w.heap.size:=(UV.1 hh).1;refine (h1 b o cap xs w (OC hh hi) cf hl).mono λe w' he=> ?_;obtain ⟨rfl,n,os,rfl⟩:=he;have hlen:(kY xs).length=List.length xs:=List.length_mergeSort _;refine ⟨⟨[],[],[],[b],rfl,⟨S,λ_ h=>h,λb h=>⟨.inl h,aeh (hS.1 b h) AW⟩,by simpa using aqu, ?_, ?_⟩,by simp,by simp⟩,Sc hh aqu λa' QR=> ?_⟩
   . simp [ba]
   . simp only [eh,s7,aY]
     refine ⟨_,_,[b],[],rfl,by simp,⟨_,[],[b],[],by simp [Value.cells];rfl,by simp, ?_,rfl,rfl⟩,rfl,rfl⟩;have:=Mz (z:=⟨S,grow (putRow (Value.int .i64) (Sort.ahead w n) b o (kY xs).toArray) os⟩) (w:=grow (putRow (Value.int .i64) (Sort.ahead w n) b o (kY xs).toArray) os) (k:= .i64) (xs:=kY xs) (b:=b) (o:=o) (cap:=cap) (sP hh) (by simp [putCells];exact ho) (by omega) (by omega)
      λi y hy=>JE (by omega) i y hy
     rw [hlen] at this;exact this
   . by_cases e:a'.block=b
     . simp only [World.frozen?]
       rw [e,sP hh,hh]
     . simp only [World.frozen?]
       rw [qY QR e]
end Go.Proofs.YtkmhgofibfmjfaaGreat.Dm
