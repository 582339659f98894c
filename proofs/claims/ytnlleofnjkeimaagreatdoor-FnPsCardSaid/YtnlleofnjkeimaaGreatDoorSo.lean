/- The data machine, part 42: the library's sort and compact at lists of numbers, as what is told of functions. -/
import Derived.Test.YtnlleofnjkeimaaGreatDoorM4
import Derived.Shelf.Sort.Plain
import Derived.Shelf.Slices.CompactI
namespace Go.Proofs.YtnlleofnjkeimaaGreatDoor.Dm
open Go Go.Sort
variable {z:Fz}
theorem Qu {w:World} {v:Value} {k:IntKind} {xs:List Int} {f:List Nat} (h:(Ty.sl (.int k)).ar z w [v] xs f):
  ∃ a cap,v= .slice a xs.length cap∧xs.length≤cap∧xs.length≤aM∧((cap=0∧f=[])∨∃ b o c E,a=some ⟨b,o,none⟩∧w.heap[b]? =some (.cells c E (0,0))∧o+cap≤c.size∧f=[b]∧
    ∀ (i:Nat) (y:Int),xs[i]? =some y→c[o+i]? =some (.int k y)):=by
 simp only [Ty.ar] at h;obtain ⟨a,cap,hv,⟨hc,hb⟩,h⟩:=h;refine ⟨a,cap,(List.cons.inj hv).1,hc,hb,h.imp id ?_⟩
 rintro ⟨b,o,c,E,fps,ha,hh,ho,hl,hf,hi⟩
 simp only [Ty.size,Nat.mul_one] at ho hi;have AH:∀ (i:Nat) (y:Int),xs[i]? =some y→c[o+i]? =some (.int k y)∧fps[i]? =some []:=by
  intro i y hy;have bS:i<fps.length:=by rw [hl];exact (List.getElem?_eq_some_iff.1 hy).1
  have h1:=hi i y (fps[i]'bS) hy (aa2 _);simp only [aE,hh] at h1;refine ⟨?_,by rw [aa2 bS,h1.2]⟩;have h2:=congrArg (λl=>l[0]?) h1.1;simp only [afD,ab8] at h2;simpa using h2
 refine ⟨b,o,c,E,ha,hh,ho, ?_,λi y hy=>(AH i y hy).1⟩;have:fps.flatten=[]:=by
  refine List.flatten_eq_nil_iff.2 λl hm=> ?_;obtain ⟨i,bS,rfl⟩:=adf hm;have hx:i<xs.length:=Nat.lt_of_lt_of_eq bS hl;have:=(AH i (xs[i]'hx) (aa2 hx)).2;rw [aa2 bS] at this;exact aa6 this
 rw [hf,this]
theorem GJ {w:World} {k:IntKind} {xs:List Int} {b o cap:Nat} {c:Array Value} {E:TypeId} (hh:w.heap[b]? =some (.cells c E (0,0))) (ho:o+cap≤c.size) (hc:xs.length≤cap) (hb:xs.length≤aM)
  (hi:∀ (i:Nat) (y:Int),xs[i]? =some y→c[o+i]? =some (.int k y)):(Ty.sl (.int k)).ar z w [.slice (some ⟨b,o,none⟩) xs.length cap] xs [b]:=by
 simp only [Ty.ar,Ty.size,Nat.mul_one];refine ⟨_,cap,rfl,⟨hc,hb⟩, .inr ⟨b,o,c,E,List.replicate xs.length [],rfl,hh,ho,afT, ?_,λi y f hy hf=> ?_⟩⟩
 . have:(List.replicate xs.length ([]:List Nat)).flatten=[]:=List.flatten_eq_nil_iff.2 λl hm=>(List.mem_replicate.1 hm).2
   rw [this]
 . have bS:i<xs.length:=(List.getElem?_eq_some_iff.1 hy).1
   have h1:=hi i y hy;have hf:(List.replicate xs.length ([]:List Nat))[i]? =some f:=hf;rw [acK,aa5 bS] at hf;obtain rfl:=aa6 hf;have G9:o+i<c.size:=(Array.getElem?_eq_some_iff.1 h1).1;refine ⟨?_,rfl⟩;simp only [aE,hh];apply acB;intro j;cases j with
   |zero=>simp only [afD,ab8];simpa using h1
   |succ j=>simp;omega
theorem Qv {w:World} {k:IntKind} {a:Option Addr} {cap:Nat} (h:cap=0):(Ty.sl (.int k)).ar z w [.slice a 0 cap] ([]:List Int) []:=by
 subst h;simp only [Ty.ar];exact ⟨a,0,rfl,⟨ac0 _,ac0 _⟩, .inl ⟨rfl,trivial⟩⟩
theorem Ix {w:World} {b o:Nat} {c:Array Value} {E:TypeId} {xs:List Int} (hh:w.heap[b]? =some (.cells c E (0,0))) (hi:∀ (i:Nat) (y:Int),xs[i]? =some y→c[o+i]? =some (.int .i64 y)):Holds (Value.int .i64) w b o xs.toArray:=by
 intro j hj;have GU:j<xs.length:=by simpa using hj
 refine ⟨?_,by simp [World.frozen?, hh]⟩;have h1:=hi j _ (aa2 GU);simp only [World.cell?, hh];simp only [Option.isSome_none,acs,if_false];rw [h1];simp [GU]
theorem pQ {w:World} {b o n:Nat} {os:Array Obj} {c:Array Value} {E:TypeId} {d:Array Int} (hh:w.heap[b]? =some (.cells c E (0,0))):
  (grow (putRow (Value.int .i64) (Sort.ahead w n) b o d) os).heap[b]? =some (.cells (putCells (Value.int .i64) o d c) E (0,0)):=by
 have hg:b<w.heap.size:=(Array.getElem?_eq_some_iff.1 hh).1;have e:(grow (putRow (Value.int .i64) (Sort.ahead w n) b o d) os).heap=(w.heap.modify b (onCells (putCells (Value.int .i64) o d)))++os:=rfl;rw [e,Array.getElem?_append_left (by simpa using hg),Array.getElem?_modify,aa5 rfl,hh];rfl
theorem n9 {w:World} {b o n b':Nat} {os:Array Obj} {d:Array Int} (hb:b'<w.heap.size) (dV:b'≠b):
  (grow (putRow (Value.int .i64) (Sort.ahead w n) b o d) os).heap[b']? =w.heap[b']? :=by
 have e:(grow (putRow (Value.int .i64) (Sort.ahead w n) b o d) os).heap=(w.heap.modify b (onCells (putCells (Value.int .i64) o d)))++os:=rfl;rw [e,Array.getElem?_append_left (by simpa using hb),Array.getElem?_modify,aa3 (Ne.symm dV)]
theorem wU {w:World} {b o n:Nat} {os:Array Obj} {d:Array Int}:w.heap.size≤(grow (putRow (Value.int .i64) (Sort.ahead w n) b o d) os).heap.size:=by
 have e:(grow (putRow (Value.int .i64) (Sort.ahead w n) b o d) os).heap=(w.heap.modify b (onCells (putCells (Value.int .i64) o d)))++os:=rfl;rw [e];simp
theorem Ep {o:Nat} {d:List Int} {c:Array Value} (hc:o+d.length≤c.size) (i:Nat) (y:Int) (h:d[i]? =some y):(putCells (Value.int .i64) o d.toArray c)[o+i]? =some (.int .i64 y):=by
 have hi:i<d.length:=(List.getElem?_eq_some_iff.1 h).1;have bS:o+i<c.size:=by omega
 have hy:d[i]'hi=y:=(List.getElem?_eq_some_iff.1 h).2;unfold putCells;rw [Array.getElem?_mapIdx,Array.getElem?_eq_getElem bS];simp [hi,hy]
theorem LH {P:Program} {S:Nat→Prop} {w:World} {hS:Dd S w} {b o n:Nat} {os:Array Obj} {d:Array Int} {c:Array Value} {E:TypeId} (hh:w.heap[b]? =some (.cells c E (0,0))) (hs:¬ S b)
  (iI:∀ a,a.block<w.heap.size→(grow (putRow (Value.int .i64) (Sort.ahead w n) b o d) os).frozen? a=w.frozen? a):
  Ev (oW P S w [b] [] (λ_=>undef) default hS) (grow (putRow (Value.int .i64) (Sort.ahead w n) b o d) os):=by
 refine ⟨wU,rfl,rfl,λb' b8=>n9 (hS.1 b' b8) (λe=>hs (e ▸ b8)),λb' b8=> ?_,iI⟩;by_cases e:b'=b
 . subst e
   refine .inr (.inl ⟨c,_,E,hh,pQ hh,by simp [putCells],λj hj=> ?_⟩);exact absurd (.inl (by simp)) hj
 . exact .inl (n9 b8 e)
structure agh (P:Program) (f:Nat):Prop where
 ex:∃ fn,P.funcs[f]? =some fn∧(fn.name== "runtime.NumGoroutine")=false∧fn.body.isNone=false
abbrev jE (l:List Int):List Int:=l.mergeSort λx y=>decide (x≤y)
def BA (l:List Int):Option (List Int):=if l.length<4611686018427387904 then some (jE l) else none
theorem Qw {P:Program} {S:Nat→Prop} {w:World} {hS:Dd S w}:Ev (oW P S w [] [] (λ_=>undef) default hS) w:=
 ⟨abE _,rfl,rfl,λ_ _=>rfl,λ_ _=> .inl rfl,λ_ _=>rfl⟩
theorem LI {α:Type} {l:List Int} {g:List Int→α} {y:α} (h:(Out.get (BA l) λy=>Out.ret (g y)).eval=some y):l.length<4611686018427387904∧y=g (jE l):=by
 unfold BA at h;by_cases hl:l.length<4611686018427387904
 . rw [aa5 hl] at h;exact ⟨hl,(aa6 h).symm⟩
 . rw [aa3 hl] at h;cases h
theorem Oe {P:Program} {f:Nat} {lend:Bool} (Ro:agh P f)
  (h1:∀ (QM off cap:Nat) (zs:List Int) (w:World),Holds (Value.int .i64) w QM off zs.toArray→QM<w.heap.size→zs.length<4611686018427387904→
   Calls P f #[.slice (some ⟨QM,off,none⟩) zs.length cap] w λe w'=>e= .returned (.tuple #[])∧∃ n os,w'=grow (putRow (Value.int .i64) (Sort.ahead w n) QM off (zs.mergeSort λx y=>decide (x≤y)).toArray) os)
  (h0:∀ (p:Option Addr) (cap:Nat) (w:World),Calls P f #[.slice p 0 cap] w λe w'=>e= .returned (.tuple #[])∧w'=w):
  bZ.Ok P { f:=f,lend:=lend,aJ:=[⟨false,false,[.mut (.int .i64)]⟩],lay:=[none],rs:=[],F:=λx=> .get (BA x.1.1) λy=> .ret ((),((y,()),())) }:=by
 intro x y hy S w hS rP fp g dp oS EY;obtain ⟨⟨xs,u⟩,u'⟩:=x;revert xs;intro (xs:List Int) hy dp;obtain ⟨hl,hy⟩:=LI (l:=xs) (g:=λy=>((),((y,()),()))) hy;subst hy;simp only [aU,cC,aQ] at dp;obtain ⟨v,_,f1,_,g1,_,rfl,rfl,rfl,⟨rfl,⟨v',_,f11,_,hv,rfl,hr,rfl,rfl⟩,_,AH⟩,rfl,rfl,rfl⟩:=dp;obtain ⟨a,cap,rfl,hc,hb,hr⟩:=Qu hr;have hvv:v= .slice a (List.length xs) cap:=by
  have ho:=AH trivial;cases v<;>first|(cases ho;done)|skip
  all_goals first|(simp [Value.cells] at hv;done)|skip
  all_goals simpa [Value.cells] using hv
 subst hvv;refine ⟨Ro.ex, ?_⟩;have Bo:(lp [none] [Value.slice a (List.length xs) cap]).toArray= #[.slice a (List.length xs) cap]:=rfl;show Calls P f (lp [none] [Value.slice a (List.length xs) cap]).toArray w _;rw [Bo];rcases hr with ⟨h0c,rfl⟩|⟨b,o,c,E,rfl,hh,ho,rfl,hi⟩
 . have hx:xs=[]:=acp (by omega)
   subst hx;refine (h0 a cap w).mono λe w' he=> ?_;obtain ⟨rfl,rfl⟩:=he;refine ⟨⟨[],[],[],[],rfl,⟨S,λ_ h=>h,λb h=>⟨.inl h,hS.1 b h⟩,by simp, ?_, ?_⟩,by simp,by simp⟩,Qw⟩
   . simp [aU]
   . simp only [dz,qf,aS]
     refine ⟨_,_,[],[],rfl,rfl,⟨.slice a 0 cap,[],[],[],by simp [Value.cells],rfl, ?_,rfl,rfl⟩,rfl,rfl⟩;have e:jE []=[]:=by simp [jE]
     rw [e];exact Qv h0c
 . have agi:¬ S b:=EY b (by simp)
   have bS:b<w.heap.size:=(Array.getElem?_eq_some_iff.1 hh).1;refine (h1 b o cap xs w (Ix hh hi) bS hl).mono λe w' he=> ?_;obtain ⟨rfl,n,os,rfl⟩:=he;have hlen:(jE xs).length=List.length xs:=List.length_mergeSort _;refine ⟨⟨[],[],[],[b],rfl,⟨S,λ_ h=>h,λb h=>⟨.inl h,aci (hS.1 b h) wU⟩,by simpa using agi, ?_, ?_⟩,by simp,by simp⟩,LH hh agi λa' CV=> ?_⟩
   . simp [aU]
   . simp only [dz,qf,aS]
     refine ⟨_,_,[b],[],rfl,by simp,⟨_,[],[b],[],by simp [Value.cells];rfl,by simp, ?_,rfl,rfl⟩,rfl,rfl⟩;have:=GJ (z:=⟨S,grow (putRow (Value.int .i64) (Sort.ahead w n) b o (jE xs).toArray) os⟩) (w:=grow (putRow (Value.int .i64) (Sort.ahead w n) b o (jE xs).toArray) os) (k:= .i64) (xs:=jE xs) (b:=b) (o:=o) (cap:=cap) (pQ hh) (by simp [putCells];exact ho) (by omega) (by omega)
      λi y hy=>Ep (by omega) i y hy
     rw [hlen] at this;exact this
   . by_cases e:a'.block=b
     . simp only [World.frozen?]
       rw [e,pQ hh,hh]
     . simp only [World.frozen?]
       rw [n9 CV e]
end Go.Proofs.YtnlleofnjkeimaaGreatDoor.Dm
