/- The data machine, part 42: the library's sort and compact at lists of numbers, as what is told of functions. -/
import Derived.Test.YtohagdoklnkljaaGreatM4
import Derived.Shelf.Sort.Plain
import Derived.Shelf.Slices.CompactI
namespace Go.Proofs.YtohagdoklnkljaaGreat.Dm
open Go Go.Sort
variable {z:Fz}
theorem Uf {w:World} {v:Value} {k:IntKind} {xs:List Int} {f:List Nat} (h:(Ty.sl (.int k)).au z w [v] xs f):
  ∃ a cap,v= .slice a xs.length cap∧xs.length≤cap∧xs.length≤aS∧((cap=0∧f=[])∨∃ b o c E,a=some ⟨b,o,none⟩∧w.heap[b]? =some (.cells c E (0,0))∧o+cap≤c.size∧f=[b]∧
    ∀ (i:Nat) (y:Int),xs[i]? =some y→c[o+i]? =some (.int k y)):=by
 simp only [Ty.au] at h;obtain ⟨a,cap,hv,⟨hc,hb⟩,h⟩:=h;refine ⟨a,cap,(List.cons.inj hv).1,hc,hb,h.imp id ?_⟩
 rintro ⟨b,o,c,E,fps,ha,hh,ho,hl,hf,hi⟩
 simp only [Ty.size,Nat.mul_one] at ho hi;have BV:∀ (i:Nat) (y:Int),xs[i]? =some y→c[o+i]? =some (.int k y)∧fps[i]? =some []:=by
  intro i y hy;have bZ:i<fps.length:=by rw [hl];exact (List.getElem?_eq_some_iff.1 hy).1
  have h1:=hi i y (fps[i]'bZ) hy (aaf _);simp only [aE,hh] at h1;refine ⟨?_,by rw [aaf bZ,h1.2]⟩;have h2:=congrArg (fun l=>l[0]?) h1.1;simp only [ahd,acb] at h2;simpa using h2
 refine ⟨b,o,c,E,ha,hh,ho, ?_,fun i y hy=>(BV i y hy).1⟩;have:fps.flatten=[]:=by
  refine List.flatten_eq_nil_iff.2 fun l hm=> ?_;obtain ⟨i,bZ,rfl⟩:=afQ hm;have hx:i<xs.length:=Nat.lt_of_lt_of_eq bZ hl;have:=(BV i (xs[i]'hx) (aaf hx)).2;rw [aaf bZ] at this;exact aaG this
 rw [hf,this]
theorem IZ {w:World} {k:IntKind} {xs:List Int} {b o cap:Nat} {c:Array Value} {E:TypeId} (hh:w.heap[b]? =some (.cells c E (0,0))) (ho:o+cap≤c.size) (hc:xs.length≤cap) (hb:xs.length≤aS)
  (hi:∀ (i:Nat) (y:Int),xs[i]? =some y→c[o+i]? =some (.int k y)):(Ty.sl (.int k)).au z w [.slice (some ⟨b,o,none⟩) xs.length cap] xs [b]:=by
 simp only [Ty.au,Ty.size,Nat.mul_one];refine ⟨_,cap,rfl,⟨hc,hb⟩, .inr ⟨b,o,c,E,List.replicate xs.length [],rfl,hh,ho,ahE, ?_,fun i y f hy hf=> ?_⟩⟩
 . have:(List.replicate xs.length ([]:List Nat)).flatten=[]:=List.flatten_eq_nil_iff.2 fun l hm=>(List.mem_replicate.1 hm).2
   rw [this]
 . have bZ:i<xs.length:=(List.getElem?_eq_some_iff.1 hy).1
   have h1:=hi i y hy;have hf:(List.replicate xs.length ([]:List Nat))[i]? =some f:=hf;rw [ae8,aaK bZ] at hf;obtain rfl:=aaG hf;have JN:o+i<c.size:=(Array.getElem?_eq_some_iff.1 h1).1;refine ⟨?_,rfl⟩;simp only [aE,hh];apply adQ;intro j;cases j with
   |zero=>simp only [ahd,acb];simpa using h1
   |succ j=>simp;omega
theorem Ug {w:World} {k:IntKind} {a:Option Addr} {cap:Nat} (h:cap=0):(Ty.sl (.int k)).au z w [.slice a 0 cap] ([]:List Int) []:=by
 subst h;simp only [Ty.au];exact ⟨a,0,rfl,⟨afO _,afO _⟩, .inl ⟨rfl,trivial⟩⟩
theorem KU {w:World} {b o:Nat} {c:Array Value} {E:TypeId} {xs:List Int} (hh:w.heap[b]? =some (.cells c E (0,0))) (hi:∀ (i:Nat) (y:Int),xs[i]? =some y→c[o+i]? =some (.int .i64 y)):Holds (Value.int .i64) w b o xs.toArray:=by
 intro j hj;have DZ:j<xs.length:=by simpa using hj
 refine ⟨?_,by simp [World.frozen?, hh]⟩;have h1:=hi j _ (aaf DZ);simp only [World.cell?, hh];simp only [Option.isSome_none,adf,agF];rw [h1];simp [DZ]
theorem qP {w:World} {b o n:Nat} {os:Array Obj} {c:Array Value} {E:TypeId} {d:Array Int} (hh:w.heap[b]? =some (.cells c E (0,0))):
  (grow (putRow (Value.int .i64) (Sort.ahead w n) b o d) os).heap[b]? =some (.cells (putCells (Value.int .i64) o d c) E (0,0)):=by
 have hg:b<w.heap.size:=(Array.getElem?_eq_some_iff.1 hh).1;have e:(grow (putRow (Value.int .i64) (Sort.ahead w n) b o d) os).heap=(w.heap.modify b (onCells (putCells (Value.int .i64) o d)))++os:=rfl;rw [e,Array.getElem?_append_left (by simpa using hg),Array.getElem?_modify,aaK rfl,hh];rfl
theorem ph {w:World} {b o n b':Nat} {os:Array Obj} {d:Array Int} (hb:b'<w.heap.size) (dW:b'≠b):
  (grow (putRow (Value.int .i64) (Sort.ahead w n) b o d) os).heap[b']? =w.heap[b']? :=by
 have e:(grow (putRow (Value.int .i64) (Sort.ahead w n) b o d) os).heap=(w.heap.modify b (onCells (putCells (Value.int .i64) o d)))++os:=rfl;rw [e,Array.getElem?_append_left (by simpa using hb),Array.getElem?_modify,aap (Ne.symm dW)]
theorem yq {w:World} {b o n:Nat} {os:Array Obj} {d:Array Int}:w.heap.size≤(grow (putRow (Value.int .i64) (Sort.ahead w n) b o d) os).heap.size:=by
 have e:(grow (putRow (Value.int .i64) (Sort.ahead w n) b o d) os).heap=(w.heap.modify b (onCells (putCells (Value.int .i64) o d)))++os:=rfl;rw [e];simp
theorem Gl {o:Nat} {d:List Int} {c:Array Value} (hc:o+d.length≤c.size) (i:Nat) (y:Int) (h:d[i]? =some y):(putCells (Value.int .i64) o d.toArray c)[o+i]? =some (.int .i64 y):=by
 have hi:i<d.length:=(List.getElem?_eq_some_iff.1 h).1;have bZ:o+i<c.size:=by omega
 have hy:d[i]'hi=y:=(List.getElem?_eq_some_iff.1 h).2;unfold putCells;rw [Array.getElem?_mapIdx,Array.getElem?_eq_getElem bZ];simp [hi,hy]
theorem O3 {P:Program} {S:Nat→Prop} {w:World} {hS:Gw S w} {b o n:Nat} {os:Array Obj} {d:Array Int} {c:Array Value} {E:TypeId} (hh:w.heap[b]? =some (.cells c E (0,0))) (hs:¬ S b)
  (iX:∀ a,a.block<w.heap.size→(grow (putRow (Value.int .i64) (Sort.ahead w n) b o d) os).frozen? a=w.frozen? a):
  Ev (tu P S w [b] [] (fun _=>undef) default hS) (grow (putRow (Value.int .i64) (Sort.ahead w n) b o d) os):=by
 refine ⟨yq,rfl,rfl,fun b' cf=>ph (hS.1 b' cf) (fun e=>hs (e ▸ cf)),fun b' cf=> ?_,iX⟩;by_cases e:b'=b
 . subst e
   refine .inr (.inl ⟨c,_,E,hh,qP hh,by simp [putCells],fun j hj=> ?_⟩);exact absurd (.inl (by simp)) hj
 . exact .inl (ph cf e)
structure ZR (P:Program) (f:Nat):Prop where
 ex:∃ fn,P.funcs[f]? =some fn∧(fn.name== "runtime.NumGoroutine")=false∧fn.body.isNone=false
abbrev jY (l:List Int):List Int:=l.mergeSort fun x y=>decide (x≤y)
def De (l:List Int):Option (List Int):=if l.length<4611686018427387904 then some (jY l) else none
theorem Uh {P:Program} {S:Nat→Prop} {w:World} {hS:Gw S w}:Ev (tu P S w [] [] (fun _=>undef) default hS) w:=
 ⟨abD _,rfl,rfl,fun _ _=>rfl,fun _ _=> .inl rfl,fun _ _=>rfl⟩
theorem O4 {α:Type} {l:List Int} {g:List Int→α} {y:α} (h:(Out.get (De l) fun y=>Out.ret (g y)).eval=some y):l.length<4611686018427387904∧y=g (jY l):=by
 unfold De at h;by_cases hl:l.length<4611686018427387904
 . rw [aaK hl] at h;exact ⟨hl,(aaG h).symm⟩
 . rw [aap hl] at h;cases h
theorem SB {P:Program} {f:Nat} {lend:Bool} (hfn:ZR P f)
  (h1:∀ (Uz off cap:Nat) (zs:List Int) (w:World),Holds (Value.int .i64) w Uz off zs.toArray→Uz<w.heap.size→zs.length<4611686018427387904→
   Calls P f #[.slice (some ⟨Uz,off,none⟩) zs.length cap] w fun e w'=>e= .returned (.tuple #[])∧∃ n os,w'=grow (putRow (Value.int .i64) (Sort.ahead w n) Uz off (zs.mergeSort fun x y=>decide (x≤y)).toArray) os)
  (h0:∀ (p:Option Addr) (cap:Nat) (w:World),Calls P f #[.slice p 0 cap] w fun e w'=>e= .returned (.tuple #[])∧w'=w):
  bM.Ok P { f:=f,lend:=lend,aK:=[⟨false,false,[.mut (.int .i64)]⟩],lay:=[none],rs:=[],F:=fun x=> .get (De x.1.1) fun y=> .ret ((),((y,()),())) }:=by
 intro x y hy S w hS tw fp g dI pG DX;obtain ⟨⟨xs,u⟩,u'⟩:=x;revert xs;intro (xs:List Int) hy dI;obtain ⟨hl,hy⟩:=O4 (l:=xs) (g:=fun y=>((),((y,()),()))) hy;subst hy;simp only [ba,cR,aT] at dI;obtain ⟨v,_,f1,_,g1,_,rfl,rfl,rfl,⟨rfl,⟨v',_,f11,_,hv,rfl,hr,rfl,rfl⟩,_,BV⟩,rfl,rfl,rfl⟩:=dI;obtain ⟨a,cap,rfl,hc,hb,hr⟩:=Uf hr;have hvv:v= .slice a (List.length xs) cap:=by
  have ho:=BV trivial;cases v<;>first|(cases ho;done)|skip
  all_goals first|(simp [Value.cells] at hv;done)|skip
  all_goals simpa [Value.cells] using hv
 subst hvv;refine ⟨hfn.ex, ?_⟩;have Cv:(lK [none] [Value.slice a (List.length xs) cap]).toArray= #[.slice a (List.length xs) cap]:=rfl;show Calls P f (lK [none] [Value.slice a (List.length xs) cap]).toArray w _;rw [Cv];rcases hr with ⟨h0c,rfl⟩|⟨b,o,c,E,rfl,hh,ho,rfl,hi⟩
 . have hx:xs=[]:=ac4 (by omega)
   subst hx;refine (h0 a cap w).mono fun e w' he=> ?_;obtain ⟨rfl,rfl⟩:=he;refine ⟨⟨[],[],[],[],rfl,⟨S,fun _ h=>h,fun b h=>⟨.inl h,hS.1 b h⟩,by simp, ?_, ?_⟩,by simp,by simp⟩,Uh⟩
   . simp [ba]
   . simp only [dM,qR,aW]
     refine ⟨_,_,[],[],rfl,rfl,⟨.slice a 0 cap,[],[],[],by simp [Value.cells],rfl, ?_,rfl,rfl⟩,rfl,rfl⟩;have e:jY []=[]:=by simp [jY]
     rw [e];exact Ug h0c
 . have NI:¬ S b:=DX b (by simp)
   have bZ:b<w.heap.size:=(Array.getElem?_eq_some_iff.1 hh).1;refine (h1 b o cap xs w (KU hh hi) bZ hl).mono fun e w' he=> ?_;obtain ⟨rfl,n,os,rfl⟩:=he;have hlen:(jY xs).length=List.length xs:=List.length_mergeSort _;refine ⟨⟨[],[],[],[b],rfl,⟨S,fun _ h=>h,fun b h=>⟨.inl h,acO (hS.1 b h) yq⟩,by simpa using NI, ?_, ?_⟩,by simp,by simp⟩,O3 hh NI fun a' E8=> ?_⟩
   . simp [ba]
   . simp only [dM,qR,aW]
     refine ⟨_,_,[b],[],rfl,by simp,⟨_,[],[b],[],by simp [Value.cells];rfl,by simp, ?_,rfl,rfl⟩,rfl,rfl⟩;have:=IZ (z:=⟨S,grow (putRow (Value.int .i64) (Sort.ahead w n) b o (jY xs).toArray) os⟩) (w:=grow (putRow (Value.int .i64) (Sort.ahead w n) b o (jY xs).toArray) os) (k:= .i64) (xs:=jY xs) (b:=b) (o:=o) (cap:=cap) (qP hh) (by simp [putCells];exact ho) (by omega) (by omega)
      fun i y hy=>Gl (by omega) i y hy
     rw [hlen] at this;exact this
   . by_cases e:a'.block=b
     . simp only [World.frozen?]
       rw [e,qP hh,hh]
     . simp only [World.frozen?]
       rw [ph E8 e]
end Go.Proofs.YtohagdoklnkljaaGreat.Dm
