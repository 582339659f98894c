/- f -/
import Derived.Test.YtnlleofnjkeimaaGreatDoorM4
import Derived.Lib.ItoaLen
import Derived.Lib.AppendIntMem
import Derived.Test.YtnlleofnjkeimaaGreatDoorJ11
import Derived.Test.YtnlleofnjkeimaaGreatDoorShelf
import Derived.Test.YtnlleofnjkeimaaGreatDoorJ10
import Derived.Test.YtnlleofnjkeimaaGreatDoorJ9
import Derived.Test.YtnlleofnjkeimaaGreatDoorJ5
namespace Go.Proofs.YtnlleofnjkeimaaGreatDoor.Dm
open Go Go.RowKit Go.Sort
section
variable {z:Fz}
structure WJ (P:Program) (f:Nat):Prop where
 ex:∃ fn,P.funcs[f]? =some fn∧(fn.name== "runtime.NumGoroutine")=false∧fn.body.isNone=false
abbrev kh (n:Int):Prop:= -9223372036854775808≤n∧n≤9223372036854775807
def eu (n:Int):Option (List UInt8):=if kh n then some (Lib.itoa n) else none
theorem Bn {α:Type} {n:Int} {g:List UInt8→α} {y:α} (h:(Out.get (eu n) λy=>Out.ret (g y)).eval=some y):kh n∧y=g (Lib.itoa n):=by
 unfold eu at h;by_cases hl:kh n
 . rw [aa5 hl] at h;exact ⟨hl,(aa6 h).symm⟩
 . rw [aa3 hl] at h;cases h
theorem KA {P:Program} {S:Nat→Prop} {w w':World} {hS:Dd S w} (h:Below w.heap.size w w'):Ev (oW P S w [] [] (λ_=>undef) default hS) w':=
 ⟨h.size,h.os,h.output,λb hb=>h.block b (hS.1 b hb),λb hb=> .inl (h.block b hb),λa ha=>by
  have:=h.block a.block ha;show w'.frozen? a=w.frozen? a;simp only [World.frozen?, this]⟩
theorem MP {P:Program} {f g:Nat} {lend:Bool} (Ro:WJ P f) (hg:P.globalNamed "internal/strconv.uint64pow10" =some g) (ht:(g,MQ (Lib.pow10Tab.map λz=>Value.int .u64 z).toArray)∈MR)
  (h1:∀ (n:Int) (_: -9223372036854775808≤n) (_:n≤9223372036854775807) (w:World) (_:Lib.TabIs P w "internal/strconv.uint64pow10" .u64 Lib.pow10Tab),Calls P f #[.int .i64 n] w λe w'=>e= .returned (.string ⟨(Lib.itoa n).toArray⟩)∧∃ k os,w'=grow (w.drewN k) os):
  bZ.Ok P { f:=f,lend:=lend,aJ:=[⟨false,false,[.i .i64]⟩],lay:=[none],rs:=[⟨false,false,[.s]⟩],F:=λx=> .get (eu x.1.1) λy=> .ret (((y,()),()),((),())) }:=by
 intro x y hy S w hS rP fp g' dp oS EY;obtain ⟨⟨n,u⟩,u'⟩:=x;revert n;intro (n:Int) hy dp;obtain ⟨hl,hy⟩:=Bn (n:=n) (g:=λy=>(((y,()),()),((),()))) hy;subst hy;simp only [aU,cC,aQ] at dp;obtain ⟨v,_,f1,_,g1,_,rfl,rfl,rfl,⟨rfl,⟨_,hv,rfl,rfl⟩,_,AH⟩,rfl,rfl,rfl⟩:=dp;have hvv:v= .int .i64 n:=by
  have ho:=AH trivial;cases v<;>first|(cases ho;done)|skip
  all_goals first|(simp [Value.cells] at hv;done)|skip
  all_goals simpa [Value.cells] using hv
 subst hvv;refine ⟨Ro.ex, ?_⟩;have Bo:(lp [none] [Value.int .i64 n]).toArray= #[.int .i64 n]:=rfl;show Calls P f (lp [none] [Value.int .i64 n]).toArray w _;rw [Bo];have WK:Lib.TabIs P w "internal/strconv.uint64pow10" .u64 Lib.pow10Tab:=by
  obtain ⟨_,o,hh,E,m,rfl⟩:=hS.2 _ ht;show w.var? P _=_;unfold World.var?;rw [hg];simp only [acf];rw [hh]
 refine (h1 n hl.1 hl.2 w WK).mono λe w' he=> ?_;obtain ⟨rfl,k,os,rfl⟩:=he;have hb:Below w.heap.size w (grow (w.drewN k) os):=Lib.below_grow _ w (abE _) k os;refine ⟨⟨[.string ⟨(Lib.itoa n).toArray⟩],[],[],[],rfl,⟨S,λ_ h=>h,λb h=>⟨.inl h,aci (hS.1 b h) hb.size⟩,by simp, ?_, ?_⟩,by simp,by simp⟩,KA hb⟩
 . simp only [aU,cC,aQ]
   exact ⟨_,_,[],[],[],[],rfl,rfl,rfl,⟨rfl,⟨_,rfl,abG (Lib.itoa_length_le n hl.1 hl.2) (by decide),rfl,rfl⟩,by simp,λ_=>rfl⟩,rfl,rfl,rfl⟩
 . simp only [dz,qf,aS]
   exact ⟨_,_,[],[],rfl,rfl,⟨.int .i64 n,[],by simp [Value.cells],rfl,rfl⟩,rfl,rfl⟩
end
section
open Go Go.ChangeShapes Go.WideShapes Go.ChangeAt Go.RowKit
def k41:bZ:={ f:=41,lend:=true,aJ:=[⟨false,false,[.i .i64]⟩],lay:=[none],rs:=[⟨false,false,[.s]⟩],F:=λx=> .get (eu x.1.1) λy=> .ret (((y,()),()),((),())) }
theorem WL:k41.Ok Tryz.prog:=MP (g:=0) ⟨⟨_,Tryz.func41,by kernel_rfl,by kernel_rfl⟩⟩ (by kernel_rfl) (by simp [MR]) λn h0 h1 w ht=>Tryz.strconv_Itoa n h0 h1 w ht
def yp (a0:Int):Out (((List UInt8×Unit)×Unit)×(Unit×Unit)):= .get (eu a0) λy1=> .ret (((y1,()),()),((),()))
def Qz:bZ:={ f:=16,lend:=true,aJ:=[⟨false,false,[.i .i64]⟩],lay:=[none],rs:=[⟨false,false,[.s]⟩],F:=λx=> .get (eu x.1.1) λy=> .ret (((y,()),()),((),())) }
theorem WM (x:au Qz.aJ):bo [k41] (λ_=>none) Tryz.f16 Qz [.tmp 2] x=yp x.1.1:=by kernel_rfl
theorem Rp (hr:∀ x:(Int×Unit)×Unit,aD Qz.aJ x→∀ y,(Qz.F x).eval=some y→(yp x.1.1).eval=some y):Qz.Ok Tryz.prog:=aO [k41] ⟨WL,trivial⟩ WM hr
theorem MS:Qz.Ok Tryz.prog:=by
 refine Rp λx hw y hy=> ?_;obtain ⟨⟨a0,_⟩,_⟩:=x;change (Out.get (eu a0) λy=>Out.ret (((y,()),()),((),()))).eval=some y at hy;show (yp a0).eval=some y;exact hy
abbrev MT:=(Int×List UInt8×Bool×Unit)×(Unit)
def yq:MT→Out (Round MT ((List UInt8×Bool×Unit)×(Unit)) Empty)
|((p0,p1,p2,_),_)=> .ite ((p0 != (0:Int))) (.ite ((10:Int)==0) .fail (.ite (decide ((Int.tmod p0 (10:Int))<(0:Int))) (.ite (decide (List.length (List.map (λn:Int=>UInt8.ofNat n.toNat) ([(IntKind.u8.wrap (IntKind.i64.wrap ((48:Int)+(IntKind.i64.wrap (0 - (Int.tmod p0 (10:Int)))))))]:List Int))+List.length p1≤bA)) (.ite ((10:Int)==0) .fail (.ret (.again (((IntKind.i64.wrap (Int.tdiv p0 (10:Int))),((List.map (λn:Int=>UInt8.ofNat n.toNat) ([(IntKind.u8.wrap (IntKind.i64.wrap ((48:Int)+(IntKind.i64.wrap (0 - (Int.tmod p0 (10:Int)))))))]:List Int))++p1),p2,()),())))) .fail) (.ite (decide (List.length (List.map (λn:Int=>UInt8.ofNat n.toNat) ([(IntKind.u8.wrap (IntKind.i64.wrap ((48:Int)+(Int.tmod p0 (10:Int)))))]:List Int))+List.length p1≤bA)) (.ite ((10:Int)==0) .fail (.ret (.again (((IntKind.i64.wrap (Int.tdiv p0 (10:Int))),((List.map (λn:Int=>UInt8.ofNat n.toNat) ([(IntKind.u8.wrap (IntKind.i64.wrap ((48:Int)+(Int.tmod p0 (10:Int)))))]:List Int))++p1),p2,()),())))) .fail))) (.ret (.out ((p1,p2,()),())))
def sC (a0:Int):Out (((List UInt8×Unit)×Unit)×(Unit×Unit)):= .ite ((a0==(0:Int))) (.ret (((([48]:List UInt8),()),()),((),()))) (.get (bx yq bc ((a0,([]:List UInt8),(decide (a0<(0:Int))),()),())) λy1=> .ite y1.1.2.1 (.ite (decide (List.length ([45]:List UInt8)+List.length y1.1.1≤bA)) (.ret ((((([45]:List UInt8)++y1.1.1),()),()),((),()))) .fail) (.ret (((y1.1.1,()),()),((),()))))
def adh:Nat→Option aq:=λn=>b6 [(0,⟨⟨[.i .i64, .dead, .dead, .s, .b]++dd 26,[]⟩,⟨[.dead, .dead, .dead, .s, .b]++dd 26,[]⟩,none,false⟩)] n
theorem EZ (n:Int):(Int.tdiv n 10).natAbs=n.natAbs / 10:=by rw [Int.natAbs_tdiv];rfl
theorem MU (n:Int):(Int.tmod n 10).natAbs=n.natAbs % 10:=by rw [Int.natAbs_tmod];rfl
theorem E0 {n:Int}:UInt8.ofNat (IntKind.u8.wrap (IntKind.i64.wrap ((48:Int)+((n.natAbs % 10:Nat):Int)))).toNat=UInt8.ofNat (48+n.natAbs % 10):=by
 have h:n.natAbs % 10<10:=Nat.mod_lt _ (by decide);rw [b7 (by omega) (by omega)];have e:IntKind.u8.wrap ((48:Int)+((n.natAbs % 10:Nat):Int))=((48+n.natAbs % 10:Nat):Int):=by
  rw [IntKind.wrap_u8];omega
 rw [e,abo]
theorem MV {n:Int} (hn:kh n) (h0:n≠0) {out:yr} {neg:Bool} (ho:out.length≤100):
  (yq ((n,out,neg,()),())).eval=some (.again ((Int.tdiv n 10,UInt8.ofNat (48+n.natAbs % 10)::out,neg,()),())):=by
 have ht:=EZ n;have hm:=MU n;have bS:n.natAbs % 10<10:=Nat.mod_lt _ (by decide);have w1:IntKind.i64.wrap (Int.tdiv n 10)=Int.tdiv n 10:=b7 (by omega) (by omega);have hl:∀ b:UInt8,(decide (List.length (List.map (λn:Int=>UInt8.ofNat n.toNat) ([(0:Int)]:List Int))+List.length out≤bA))=true:=λ_=>aaE (by rw [nF];simp;omega);have hd:decide (1+List.length out≤bA)=true:=aaE (by rw [nF];omega);refine (ab (by simpa using h0)).trans ((ae rfl).trans ?_);by_cases sx:Int.tmod n 10<0
 . refine (ab (aaE sx)).trans ((ab hd).trans ((ae rfl).trans ?_))
   have e:IntKind.i64.wrap (0 - Int.tmod n 10)=((n.natAbs % 10:Nat):Int):=by rw [b7 (by omega) (by omega)];omega
   show some _=some _;rw [e,w1];simp only [acd,afa,E0,List.cons_append,ab0]
 . refine (ae (aa1 sx)).trans ((ab hd).trans ((ae rfl).trans ?_))
   have e:Int.tmod n 10=((n.natAbs % 10:Nat):Int):=by omega
   show some _=some _;rw [e,w1];simp only [acd,afa,E0,List.cons_append,ab0]
theorem MW (j:Nat):∀ (n:Int) (m:Nat) (out:yr) (neg:Bool),kh n→n≠0→n.natAbs<10 ^ j→j<m→out.length+j≤100→
  bx yq m ((n,out,neg,()),())=some ((Lib.decDigits n.natAbs++out,neg,()),()):=by
 induction j with
 |zero=>intro n m out neg _ h0 hj;simp at hj;omega
 |succ j ih=>
  intro n m out neg hn h0 hj hm ho;obtain ⟨m,rfl⟩:∃ m',m=m'+1:=⟨m - 1,by omega⟩
  have hs:=MV hn h0 (out:=out) (neg:=neg) (by omega);have e:bx yq (m+1) ((n,out,neg,()),())=bx yq m ((Int.tdiv n 10,UInt8.ofNat (48+n.natAbs % 10)::out,neg,()),()):=by
   unfold bx;simp only [iter,hs]
  rw [e];have ht:=EZ n;by_cases h1:n.natAbs<10
  . have z:Int.tdiv n 10=0:=by omega
    rw [z,Lib.decDigits_one h1,Nat.mod_eq_of_lt h1];exact rE rfl (by omega)
  . have hp:10 ^ (j+1)=10 ^ j*10:=Nat.pow_succ ..
    have e2:Lib.decDigits n.natAbs=Lib.decDigits (n.natAbs / 10)++[UInt8.ofNat (48+n.natAbs % 10)]:=by (conv=>lhs;rw [Lib.decDigits,dif_neg h1])
    rw [ih (Int.tdiv n 10) m _ neg ⟨by omega,by omega⟩ (by omega) (by omega) (by omega) (by simp only [aby];omega),ht,e2,acj];rfl
def QA:bZ:={ f:=17,lend:=true,aJ:=[⟨false,false,[.i .i64]⟩],lay:=[none],rs:=[⟨false,false,[.s]⟩],F:=λx=> .get (eu x.1.1) λy=> .ret (((y,()),()),((),())) }
theorem WN (x:au QA.aJ):bo [] adh Tryz.f17 QA [.tmp 2] x=sC x.1.1:=by kernel_rfl
theorem Rq (hr:∀ x:(Int×Unit)×Unit,aD QA.aJ x→∀ y,(QA.F x).eval=some y→(sC x.1.1).eval=some y):QA.Ok Tryz.prog:=aO [] trivial WN hr
theorem MX:QA.Ok Tryz.prog:=by
 refine Rq λx hw y hy=> ?_;obtain ⟨⟨a0,_⟩,_⟩:=x;change (Out.get (eu a0) λy=>Out.ret (((y,()),()),((),()))).eval=some y at hy;show (sC a0).eval=some y;obtain ⟨hl,hy⟩:=Bn (n:=a0) (g:=λy=>((((y,()),()),((),())):((yr×Unit)×Unit)×(Unit×Unit))) hy;subst hy;unfold sC;by_cases h0:a0=0
 . subst h0
   rw [show Lib.itoa 0=[48] from (Lib.itoa_nonneg 0).trans (Lib.decDigits_one (by decide))];rfl
 refine (ae (by simpa using h0)).trans ?_;have hj:a0.natAbs<10 ^ 19:=by have:=hl.1;have:=hl.2;omega
 refine (aa (MW 19 a0 bc [] _ hl h0 hj (by decide) (by decide))).trans ?_;have hlen:=Lib.itoa_length_le a0 hl.1 hl.2;unfold Lib.itoa at hlen ⊢;by_cases hn:a0<0
 . rw [aa5 hn] at hlen ⊢
   refine (ab (aaE hn)).trans ((ab ?_).trans ?_)
   . simp only [acG,aby,abA] at hlen ⊢
     exact aaE (by rw [nF];omega)
   . simp [Out.eval]
     rfl
 . rw [aa3 hn]
   refine (ae (aa1 hn)).trans ?_;rw [show a0.toNat=a0.natAbs by omega];simp [Out.eval];rfl
end
section
open Go Go.ChangeShapes Go.WideShapes Go.ChangeAt Go.RowKit
theorem De {α:Type} {key:α→Int} {a:List α} {v:Int} {i:Nat} (h:fj key a v=some i):∃ x∈a,key x=v:=by
 unfold fj at h;obtain ⟨hi,h1,_⟩:=acD.1 h;exact ⟨_,acb hi,by simpa using h1⟩
theorem KB (x:Int):kh (IntKind.i64.wrap x):=by rw [IntKind.wrap_i64];omega
theorem KC (ps:List af) (id:Int):kh (mO ps id):=by
 have h1:∀ (l:List Int) (n:Int),kh n→kh (l.foldl (λn f=>nH f id n) n):=by
  intro l
  induction l with
  |nil=>intro n h;exact h
  |cons f r ih=>
   intro n h;refine ih _ ?_;show kh (if f=id then IntKind.i64.wrap (n+1) else n);split
   . exact KB _
   . exact h
 have h2:∀ (l:List af) (n:Int),kh n→kh (l.foldl (λn p=>p.2.2.2.2.2.2.1.foldl (λn f=>nH f id n) n) n):=by
  intro l
  induction l with
  |nil=>intro n h;exact h
  |cons p r ih=>intro n h;exact ih _ (h1 _ n h)
 exact h2 ps 0 (by decide)
theorem yu {next tick:Int} {dX:List (List az)} {ps:List af} {os:List aj} {bN:List iO} {files:List et} {rd out:List Int} (h:b5 next tick dX ps os bN files rd out=true):
  ∀ p∈ps,kh p.1∧kh p.2.1∧(1≤p.2.2.1∧p.2.2.1≤6)∧p.2.2.2.2.2.1.length≤12:=by
 unfold b5 at h;simp only [aa4] at h;have hn:=h.1.1.1.1.1.1.1.1.1;have ha:=abD.1 (jD h.1.1.2);unfold dh at hn;simp only [aa4,abS] at hn;have w:IntKind.i64.wrap (next - 1)=next - 1:=b7 (by omega) (by omega)
 have key:∀ p∈ps,1≤p.1∧p.1≤100000:=λp hp=>by
  have:=ha p hp;unfold ee dh at this;rw [w] at this;simp only [aa4,abS] at this;omega
 intro p hp;have h1:=key p hp;have:=ha p hp;unfold ee oX cV at this;simp only [aa4] at this;have hs:=this.2.1.1.1.1.1.1.1.1.1.1.1;have hm:=this.2.1.1.1.1.1.1.1.1.2;have yb:=this.2.1.1.2;unfold dh at hs;simp only [aa4,abS] at hs hm;refine ⟨by omega, ?_,hs,hm⟩;unfold bT at yb;rcases acQ _ _ ▸ yb with yb|yb
 . have:p.2.1=0:=by simpa using yb
   omega
 . simp only [aa4] at yb
   have h3:=yb.2;cases hi:fj ao ps p.2.1 with
   |none=>rw [hi] at h3;cases h3
   |some i=>
    obtain ⟨x,hx,e⟩:=De hi;have:=key x hx;have e:x.1=p.2.1:=e;omega
theorem E2 {next tick:Int} {dX:List (List az)} {ps:List af} {os:List aj} {bN:List iO} {files:List et} {rd out:List Int} (h:b5 next tick dX ps os bN files rd out=true):
  ∀ o∈os,kh o.1∧(1≤o.2.1∧o.2.1≤4)∧kh o.2.2.1∧kh o.2.2.2.2.1:=by
 unfold b5 fP at h;simp only [aa4] at h;obtain ⟨⟨_,⟨⟨_,k4⟩,k5⟩,k6⟩,_⟩:=h;have hf:=abD.1 (jD k6);have rf:=abD.1 (jD k5);intro o ho;have:=abD.1 (jD k4) o ho;unfold jb fQ at this;simp only [aa4] at this;obtain ⟨⟨⟨_,hr⟩,hi⟩,hk⟩:=this;have hr:o.2.2.2.2.1=mO ps o.1:=by simpa using hr
 unfold dh at hi;simp only [aa4,abS] at hi;have hr2:=KC ps o.1;rw [← hr] at hr2;unfold nI at hk;have fin:∀ q:(1≤o.2.1∧o.2.1≤4)∧kh o.2.2.1,kh o.1∧(1≤o.2.1∧o.2.1≤4)∧kh o.2.2.1∧kh o.2.2.2.2.1:=λq=>⟨by omega,q.1,q.2,hr2⟩
 refine fin ?_;split at hk
 . rename_i e
   simp only [aa4,acy] at hk;omega
 . split at hk
   . rename_i e
     cases hx:fj aR files o.2.2.1 with
     |none=>rw [hx] at hk;cases hk
     |some i=>
      obtain ⟨x,hx,e2⟩:=De hx;have:=hf x hx;unfold eF dh at this;simp only [aa4,abS] at this;have e2:x.1=o.2.2.1:=e2;omega
   . split at hk
     . rename_i e
       simp only [aa4,abS] at hk;have h1:=hk.1;unfold ba cU at h1;cases hx:fj aB bN o.2.2.1 with
       |none=>rw [hx] at h1;exact absurd h1 (by decide)
       |some i=>
        obtain ⟨x,hx,e2⟩:=De hx;have:=rf x hx;unfold iH dh at this;simp only [aa4,abS] at this;have e2:x.1=o.2.2.1:=e2;omega
     . cases hk
abbrev nJ:List yr:=[([]:List UInt8),([114,101,97,100,121]:List UInt8),([115,108,101,101,112]:List UInt8),([119,97,105,116]:List UInt8),([114,101,97,100]:List UInt8),([119,114,105,116,101]:List UInt8),([122,111,109,98,105,101]:List UInt8)]
abbrev xr:List yr:=[([]:List UInt8),([99,111,110]:List UInt8),([102,105,108,101]:List UInt8),([105,110]:List UInt8),([111,117,116]:List UInt8)]
def ic (p:af):yr:=Lib.itoa p.1++([32]++(Lib.itoa p.2.1++([32]++(nJ.getD p.2.2.1.toNat []++([32]++(Lib.itoa ((p.2.2.2.2.2.1.length / 4:Nat):Int)++[10]))))))
def lq (o:aj):yr:=Lib.itoa o.1++([32]++(xr.getD o.2.1.toNat []++([32]++(Lib.itoa o.2.2.1++([32]++(Lib.itoa o.2.2.2.2.1++[10]))))))
theorem E3 {l:List yr} {m:Nat} (h:∀ x∈l,x.length≤m) (i:Nat):(l.getD i []).length≤m:=by
 rw [ach];cases e:l[i]? with
 |none=>exact ac0 _
 |some x=>exact h x (acx e)
theorem sD {l:List yr} {x:Int} (h:0≤x∧x<((l.length:Nat):Int)):nth l (Int.toNat x)=some (l.getD x.toNat []):=by
 have hi:x.toNat<l.length:=by omega
 show l[x.toNat]? =_;rw [ach,aa2 hi];rfl
theorem rQ {p:af} (h:kh p.1∧kh p.2.1∧(1≤p.2.2.1∧p.2.2.1≤6)∧p.2.2.2.2.2.1.length≤12):(ic p).length≤80:=by
 have h1:=Lib.itoa_length_le p.1 h.1.1 h.1.2;have h2:=Lib.itoa_length_le p.2.1 h.2.1.1 h.2.1.2;have h3:=Lib.itoa_length_le ((p.2.2.2.2.2.1.length / 4:Nat):Int) (by omega) (by omega);have h4:=E3 (l:=nJ) (m:=6) (by decide) p.2.2.1.toNat;unfold ic;simp only [abz,aby,abA];omega
theorem yv {o:aj} (h:kh o.1∧(1≤o.2.1∧o.2.1≤4)∧kh o.2.2.1∧kh o.2.2.2.2.1):(lq o).length≤80:=by
 have h1:=Lib.itoa_length_le o.1 h.1.1 h.1.2;have h2:=Lib.itoa_length_le o.2.2.1 h.2.2.1.1 h.2.2.1.2;have h3:=Lib.itoa_length_le o.2.2.2.2.1 h.2.2.2.1 h.2.2.2.2;have h4:=E3 (l:=xr) (m:=6) (by decide) o.2.1.toNat;unfold lq;simp only [abz,aby,abA];omega
def psV (next tick:Int) (dX:List (List az)) (ps:List af) (os:List aj) (bN:List iO) (files:List et) (rd out:List Int):yr:=
 if b5 next tick dX ps os bN files rd out=true then ps.flatMap ic else []
def Rr (next tick:Int) (dX:List (List az)) (ps:List af) (os:List aj) (bN:List iO) (files:List et) (rd out:List Int):Option yr:=
 if rd.length≤bA then some (psV next tick dX ps os bN files rd out) else none
def E4 (next tick:Int) (dX:List (List az)) (ps:List af) (os:List aj) (bN:List iO) (files:List et) (rd out:List Int):yr:=
 if b5 next tick dX ps os bN files rd out=true then os.flatMap lq else []
def sE (next tick:Int) (dX:List (List az)) (ps:List af) (os:List aj) (bN:List iO) (files:List et) (rd out:List Int):Option yr:=
 if rd.length≤bA then some (E4 next tick dX ps os bN files rd out) else none
theorem quarter {n:Nat} (h:n≤12):IntKind.i64.wrap (Int.tdiv ((n:Nat):Int) (4:Int))=((n / 4:Nat):Int):=by
 rw [show Int.tdiv ((n:Nat):Int) 4=((n / 4:Nat):Int) from rfl];exact b7 (by omega) (by omega)
abbrev Um:=(List UInt8×Int×Unit)×(bw×List (List UInt8)×Unit)
def E5:Um→Out (Round Um ((List UInt8×Unit)×(Unit)) Empty)
|((p0,p1,_),(p2,p3,p4,p5,p6,p7,p8,p9,cH,_),cK,_)=> .ite (decide (p1<((List.length p5:Nat):Int))) (.ite (decide (0≤p1)) (.get (nth p5 (Int.toNat p1)) λy1=> .get (eu y1.1) λy2=> .ite (decide (List.length p0+List.length y2≤bA)) (.ite (decide (List.length (p0++y2)+List.length ([32]:List UInt8)≤bA)) (.get (eu y1.2.1) λy3=> .ite (decide (List.length ((p0++y2)++([32]:List UInt8))+List.length y3≤bA)) (.ite (decide (List.length (((p0++y2)++([32]:List UInt8))++y3)+List.length ([32]:List UInt8)≤bA)) (.ite (decide (0≤y1.2.2.1∧y1.2.2.1<((List.length cK:Nat):Int))) (.get (nth cK (Int.toNat y1.2.2.1)) λy4=> .ite (decide (List.length ((((p0++y2)++([32]:List UInt8))++y3)++([32]:List UInt8))+List.length y4≤bA)) (.ite (decide (List.length (((((p0++y2)++([32]:List UInt8))++y3)++([32]:List UInt8))++y4)+List.length ([32]:List UInt8)≤bA)) (.ite ((4:Int)==0) .fail (.get (eu (IntKind.i64.wrap (Int.tdiv ((List.length y1.2.2.2.2.2.1:Nat):Int) (4:Int)))) λy5=> .ite (decide (List.length ((((((p0++y2)++([32]:List UInt8))++y3)++([32]:List UInt8))++y4)++([32]:List UInt8))+List.length y5≤bA)) (.ite (decide (List.length (((((((p0++y2)++([32]:List UInt8))++y3)++([32]:List UInt8))++y4)++([32]:List UInt8))++y5)+List.length ([10]:List UInt8)≤bA)) (.ret (.again ((((((((((p0++y2)++([32]:List UInt8))++y3)++([32]:List UInt8))++y4)++([32]:List UInt8))++y5)++([10]:List UInt8)),(IntKind.i64.wrap (p1+(1:Int))),()),((p2,p3,p4,p5,p6,p7,p8,p9,cH,()),cK,())))) .fail) .fail)) .fail) .fail) .fail) .fail) .fail) .fail) .fail) .fail) (.ret (.out ((p0,()),())))
def xt (a0:Int) (a1:Int) (a2:List (List az)) (a3:List af) (a4:List aj) (a5:List ag) (a6:List ag) (a7:List Int) (a8:List Int):Out (((List UInt8×Unit)×Unit)×(Unit×Unit)):= .ite (!(b5 a0 a1 a2 a3 a4 a5 a6 a7 a8)) (.ret (((([]:List UInt8),()),()),((),()))) (.get (bx E5 bc ((([]:List UInt8),(0:Int),()),((a0,a1,a2,a3,a4,a5,a6,a7,a8,()),([([]:List UInt8),([114,101,97,100,121]:List UInt8),([115,108,101,101,112]:List UInt8),([119,97,105,116]:List UInt8),([114,101,97,100]:List UInt8),([119,114,105,116,101]:List UInt8),([122,111,109,98,105,101]:List UInt8)]:List (List UInt8)),()))) λy1=> .ret (((y1.1.1,()),()),((),())))
abbrev Uo:List (Nat×eA):=[(64000000, .var [.i .i64, .i .i64, .ro (.sl dk) (some 0), .ro jM (some 1), .ro dZ (some 2), .ro dU (some 3), .ro dU (some 4), .ro (.int .i64) (some 5), .ro (.int .i64) (some 6)]),(64000001, .arr .str)]
def ag8:Nat→Option aq:=λn=>b6 [(0,⟨⟨[.dead, .vptr 64000000 0, .dead, .bg 64000001, .s, .i .i64]++dd 43,Uo⟩,⟨dd 4++[.s]++dd 44,[]⟩,none,false⟩)] n
def k8:bZ:={ f:=8,lend:=true,aJ:=[⟨false,true,[.i .i64, .i .i64, .ro (.sl dk), .ro jM, .ro dZ, .ro dU, .ro dU, .ro (.int .i64), .ro (.int .i64)]⟩],lay:=[none],rs:=[⟨false,false,[.s]⟩],F:=λx=> .get (Rr x.1.1 x.1.2.1 x.1.2.2.1 x.1.2.2.2.1 x.1.2.2.2.2.1 x.1.2.2.2.2.2.1 x.1.2.2.2.2.2.2.1 x.1.2.2.2.2.2.2.2.1 x.1.2.2.2.2.2.2.2.2.1) λy=> .ret (((y,()),()),((),())) }
theorem adi (x:au k8.aJ):bo [LN,QA] ag8 Tryz.f8 k8 [.tmp 2] x=xt x.1.1 x.1.2.1 x.1.2.2.1 x.1.2.2.2.1 x.1.2.2.2.2.1 x.1.2.2.2.2.2.1 x.1.2.2.2.2.2.2.1 x.1.2.2.2.2.2.2.2.1 x.1.2.2.2.2.2.2.2.2.1:=by kernel_rfl
theorem WO (hr:∀ x:bw×Unit,aD k8.aJ x→∀ y,(k8.F x).eval=some y→(xt x.1.1 x.1.2.1 x.1.2.2.1 x.1.2.2.2.1 x.1.2.2.2.2.1 x.1.2.2.2.2.2.1 x.1.2.2.2.2.2.2.1 x.1.2.2.2.2.2.2.2.1 x.1.2.2.2.2.2.2.2.2.1).eval=some y):k8.Ok Tryz.prog:=aO [LN,QA] ⟨Hl,MX,trivial⟩ adi hr
theorem adj:k8.Ok Tryz.prog:=by
 refine WO λx hw y hy=> ?_;obtain ⟨⟨a0,a1,a2,a3,a4,a5,a6,a7,a8,_⟩,_⟩:=x;have l2:List.length a2≤aM:=hw.1.1.1;have l3:List.length a3≤aM:=hw.1.2.1.1;have l4:List.length a4≤aM:=hw.1.2.2.1.1;have l5:List.length a5≤aM:=hw.1.2.2.2.1.1;have l6:List.length a6≤aM:=hw.1.2.2.2.2.1.1;have l7:List.length a7≤aM:=hw.1.2.2.2.2.2.1.1;have l8:List.length a8≤aM:=hw.1.2.2.2.2.2.2.1.1;change (Out.get (Rr a0 a1 a2 a3 a4 a5 a6 a7 a8) λy=>Out.ret (((y,()),()),((),()))).eval=some y at hy;show (xt a0 a1 a2 a3 a4 a5 a6 a7 a8).eval=some y;unfold Rr at hy;by_cases hl:List.length a7≤bA
 case neg=>rw [aa3 hl] at hy;exact nomatch hy
 rw [aa5 hl] at hy;refine Eq.trans ?_ hy;unfold xt psV;by_cases hu:b5 a0 a1 a2 a3 a4 a5 a6 a7 a8=true
 case neg=>rw [aa3 hu,ab (by simp [hu])];rfl
 rw [aa5 hu,ae (by simp [hu])];have hk:=yu hu;have hp:=(nG hu).2.2.1;have hb:=jg ic 80 a3 λx hx=>rQ (hk x hx);have h1:bx E5 bc ((([]:List UInt8),(0:Int),()),((a0,a1,a2,a3,a4,a5,a6,a7,a8,()),([([]:List UInt8),([114,101,97,100,121]:List UInt8),([115,108,101,101,112]:List UInt8),([119,97,105,116]:List UInt8),([114,101,97,100]:List UInt8),([119,114,105,116,101]:List UInt8),([122,111,109,98,105,101]:List UInt8)]:List (List UInt8)),()))=some (((([]:List UInt8)++List.flatMap ic a3),()),()):=qg (f:=E5) ic a3 (λd i=>((d,((i:Nat):Int),()),((a0,a1,a2,a3,a4,a5,a6,a7,a8,()),([([]:List UInt8),([114,101,97,100,121]:List UInt8),([115,108,101,101,112]:List UInt8),([119,97,105,116]:List UInt8),([114,101,97,100]:List UInt8),([119,114,105,116,101]:List UInt8),([122,111,109,98,105,101]:List UInt8)]:List (List UInt8)),()))) (λd=>((d,()),())) 1000000
  (λi hi d hd=>by
   have h1:=aw (i:=i) (by omega);have e8:=hk _ (acb hi);have e1:eu a3[i].1=some (Lib.itoa a3[i].1):=aa5 e8.1;have e2:eu a3[i].2.1=some (Lib.itoa a3[i].2.1):=aa5 e8.2.1;have e9:0≤a3[i].2.2.1∧a3[i].2.2.1<((List.length nJ:Nat):Int):=by (have:=e8.2.2.1;simp only [aby,abA];omega)
   have e3:=aaE e9;have e4:=sD e9;have e5:eu ((a3[i].2.2.2.2.2.1.length / 4:Nat):Int)=some (Lib.itoa ((a3[i].2.2.2.2.2.1.length / 4:Nat):Int)):=aa5 (by have:=e8.2.2.2;omega);have e6:((4:Int)==0)=false:=rfl;unfold ic at hd
   all_goals (try simp only [abz,aby,abA] at hd)
   all_goals (simp only [E5,Out.eval,mP hi,Ay,cL hi,acf,acE,acC,h1,e1,e2,e3,e4,e5,e6,quarter e8.2.2.2])
   all_goals (repeat rw [sB (by (try simp only [abz,aby,abA]);omega)])
   all_goals (try simp only [acj])
   all_goals (try rfl))
  (λd=>by simp [E5,Out.eval]) l3 ([]:List UInt8) (by (try simp only [abA]);omega)
 refine (aa h1).trans ?_;rfl
abbrev Up:=(List UInt8×XS)×(List (List UInt8)×Unit)
def E6:Up→Out (Round Up ((List UInt8×Unit)×(Unit)) Empty)
|((p0,p1,p2,p3,_),p4,_)=> .ite (decide (p3<p2)) (.ite (decide (0≤p3)) (.get (nth p1 (Int.toNat p3)) λy1=> .get (eu y1.1) λy2=> .ite (decide (List.length y2+List.length ([32]:List UInt8)≤bA)) (.get (eu y1.2.1) λy3=> .ite (decide (List.length (y2++([32]:List UInt8))+List.length y3≤bA)) (.ite (decide (List.length ((y2++([32]:List UInt8))++y3)+List.length ([32]:List UInt8)≤bA)) (.ite (decide (0≤y1.2.2.1∧y1.2.2.1<((List.length p4:Nat):Int))) (.get (nth p4 (Int.toNat y1.2.2.1)) λy4=> .ite (decide (List.length (((y2++([32]:List UInt8))++y3)++([32]:List UInt8))+List.length y4≤bA)) (.ite (decide (List.length ((((y2++([32]:List UInt8))++y3)++([32]:List UInt8))++y4)+List.length ([32]:List UInt8)≤bA)) (.ite ((4:Int)==0) .fail (.get (eu (IntKind.i64.wrap (Int.tdiv ((List.length y1.2.2.2.2.2.1:Nat):Int) (4:Int)))) λy5=> .ite (decide (List.length (((((y2++([32]:List UInt8))++y3)++([32]:List UInt8))++y4)++([32]:List UInt8))+List.length y5≤bA)) (.ite (decide (List.length ((((((y2++([32]:List UInt8))++y3)++([32]:List UInt8))++y4)++([32]:List UInt8))++y5)+List.length ([10]:List UInt8)≤bA)) (.ite (decide (List.length p0+List.length (((((((y2++([32]:List UInt8))++y3)++([32]:List UInt8))++y4)++([32]:List UInt8))++y5)++([10]:List UInt8))≤bA)) (.ret (.again (((p0++(((((((y2++([32]:List UInt8))++y3)++([32]:List UInt8))++y4)++([32]:List UInt8))++y5)++([10]:List UInt8))),p1,p2,(IntKind.i64.wrap (p3+(1:Int))),()),(p4,())))) .fail) .fail) .fail)) .fail) .fail) .fail) .fail) .fail) .fail) .fail) (.ret (.out ((p0,()),())))
def xu (a0:Int) (a1:Int) (a2:List (List az)) (a3:List af) (a4:List aj) (a5:List ag) (a6:List ag) (a7:List Int) (a8:List Int):Out (((List UInt8×Unit)×Unit)×(Unit×Unit)):= .get (iW a0 a1 a2 a3 a4 a5 a6 a7 a8) λy1=> .ite (!y1) (.ret (((([]:List UInt8),()),()),((),()))) (.get (bx E6 bc ((([]:List UInt8),a3,((List.length a3:Nat):Int),(0:Int),()),(([([]:List UInt8),([114,101,97,100,121]:List UInt8),([115,108,101,101,112]:List UInt8),([119,97,105,116]:List UInt8),([114,101,97,100]:List UInt8),([119,114,105,116,101]:List UInt8),([122,111,109,98,105,101]:List UInt8)]:List (List UInt8)),()))) λy2=> .ret (((y2.1.1,()),()),((),())))
def ag9:Nat→Option aq:=λn=>b6 [(0,⟨⟨[.dead, .dead, .dead, .bg 64000000, .s]++dd 7++[.ro jM (some 1), .i .i64, .i .i64]++dd 30,[(64000000, .arr .str)]⟩,⟨dd 4++[.s]++dd 40,[]⟩,none,false⟩)] n
def k6:bZ:={ f:=6,lend:=true,aJ:=[⟨false,true,[.i .i64, .i .i64, .ro (.sl dk), .ro jM, .ro dZ, .ro dU, .ro dU, .ro (.int .i64), .ro (.int .i64)]⟩],lay:=[none],rs:=[⟨false,false,[.s]⟩],F:=λx=> .get (Rr x.1.1 x.1.2.1 x.1.2.2.1 x.1.2.2.2.1 x.1.2.2.2.2.1 x.1.2.2.2.2.2.1 x.1.2.2.2.2.2.2.1 x.1.2.2.2.2.2.2.2.1 x.1.2.2.2.2.2.2.2.2.1) λy=> .ret (((y,()),()),((),())) }
theorem adk (x:au k6.aJ):bo [MY,Qz] ag9 Tryz.f6 k6 [.tmp 2] x=xu x.1.1 x.1.2.1 x.1.2.2.1 x.1.2.2.2.1 x.1.2.2.2.2.1 x.1.2.2.2.2.2.1 x.1.2.2.2.2.2.2.1 x.1.2.2.2.2.2.2.2.1 x.1.2.2.2.2.2.2.2.2.1:=by kernel_rfl
theorem WQ (hr:∀ x:bw×Unit,aD k6.aJ x→∀ y,(k6.F x).eval=some y→(xu x.1.1 x.1.2.1 x.1.2.2.1 x.1.2.2.2.1 x.1.2.2.2.2.1 x.1.2.2.2.2.2.1 x.1.2.2.2.2.2.2.1 x.1.2.2.2.2.2.2.2.1 x.1.2.2.2.2.2.2.2.2.1).eval=some y):k6.Ok Tryz.prog:=aO [MY,Qz] ⟨Hm,MS,trivial⟩ adk hr
theorem adl:k6.Ok Tryz.prog:=by
 refine WQ λx hw y hy=> ?_;obtain ⟨⟨a0,a1,a2,a3,a4,a5,a6,a7,a8,_⟩,_⟩:=x;have l2:List.length a2≤aM:=hw.1.1.1;have l3:List.length a3≤aM:=hw.1.2.1.1;have l4:List.length a4≤aM:=hw.1.2.2.1.1;have l5:List.length a5≤aM:=hw.1.2.2.2.1.1;have l6:List.length a6≤aM:=hw.1.2.2.2.2.1.1;have l7:List.length a7≤aM:=hw.1.2.2.2.2.2.1.1;have l8:List.length a8≤aM:=hw.1.2.2.2.2.2.2.1.1;change (Out.get (Rr a0 a1 a2 a3 a4 a5 a6 a7 a8) λy=>Out.ret (((y,()),()),((),()))).eval=some y at hy;show (xu a0 a1 a2 a3 a4 a5 a6 a7 a8).eval=some y;unfold Rr at hy;by_cases hl:List.length a7≤bA
 case neg=>rw [aa3 hl] at hy;exact nomatch hy
 rw [aa5 hl] at hy;refine Eq.trans ?_ hy;unfold xu psV;have e0:iW a0 a1 a2 a3 a4 a5 a6 a7 a8=some (b5 a0 a1 a2 a3 a4 a5 a6 a7 a8):=by
  unfold iW;rw [aa5 hl,vf]
 refine (aa e0).trans ?_;by_cases hu:b5 a0 a1 a2 a3 a4 a5 a6 a7 a8=true
 case neg=>rw [aa3 hu,ab (by simp [hu])];rfl
 rw [aa5 hu,ae (by simp [hu])];have hk:=yu hu;have hp:=(nG hu).2.2.1;have hb:=jg ic 80 a3 λx hx=>rQ (hk x hx);have h1:bx E6 bc ((([]:List UInt8),a3,((List.length a3:Nat):Int),(0:Int),()),(([([]:List UInt8),([114,101,97,100,121]:List UInt8),([115,108,101,101,112]:List UInt8),([119,97,105,116]:List UInt8),([114,101,97,100]:List UInt8),([119,114,105,116,101]:List UInt8),([122,111,109,98,105,101]:List UInt8)]:List (List UInt8)),()))=some (((([]:List UInt8)++List.flatMap ic a3),()),()):=qg (f:=E6) ic a3 (λd i=>((d,a3,((List.length a3:Nat):Int),((i:Nat):Int),()),(([([]:List UInt8),([114,101,97,100,121]:List UInt8),([115,108,101,101,112]:List UInt8),([119,97,105,116]:List UInt8),([114,101,97,100]:List UInt8),([119,114,105,116,101]:List UInt8),([122,111,109,98,105,101]:List UInt8)]:List (List UInt8)),()))) (λd=>((d,()),())) 1000000
  (λi hi d hd=>by
   have h1:=aw (i:=i) (by omega);have e8:=hk _ (acb hi);have e1:eu a3[i].1=some (Lib.itoa a3[i].1):=aa5 e8.1;have e2:eu a3[i].2.1=some (Lib.itoa a3[i].2.1):=aa5 e8.2.1;have e9:0≤a3[i].2.2.1∧a3[i].2.2.1<((List.length nJ:Nat):Int):=by (have:=e8.2.2.1;simp only [aby,abA];omega)
   have e3:=aaE e9;have e4:=sD e9;have e5:eu ((a3[i].2.2.2.2.2.1.length / 4:Nat):Int)=some (Lib.itoa ((a3[i].2.2.2.2.2.1.length / 4:Nat):Int)):=aa5 (by have:=e8.2.2.2;omega);have e6:((4:Int)==0)=false:=rfl;unfold ic at hd
   all_goals (try simp only [abz,aby,abA] at hd)
   all_goals (simp only [E6,Out.eval,mP hi,Ay,cL hi,acf,acE,acC,h1,e1,e2,e3,e4,e5,e6,quarter e8.2.2.2])
   all_goals (repeat rw [sB (by (try simp only [abz,aby,abA]);omega)])
   all_goals (try simp only [acj])
   all_goals (try rfl))
  (λd=>by simp [E6,Out.eval]) l3 ([]:List UInt8) (by (try simp only [abA]);omega)
 refine (aa h1).trans ?_;rfl
abbrev Uq:=(List UInt8×Int×Unit)×(bw×List (List UInt8)×Unit)
def E7:Uq→Out (Round Uq ((List UInt8×Unit)×(Unit)) Empty)
|((p0,p1,_),(p2,p3,p4,p5,p6,p7,p8,p9,cH,_),cK,_)=> .ite (decide (p1<((List.length p6:Nat):Int))) (.ite (decide (0≤p1)) (.get (nth p6 (Int.toNat p1)) λy1=> .get (eu y1.1) λy2=> .ite (decide (List.length p0+List.length y2≤bA)) (.ite (decide (List.length (p0++y2)+List.length ([32]:List UInt8)≤bA)) (.ite (decide (0≤y1.2.1∧y1.2.1<((List.length cK:Nat):Int))) (.get (nth cK (Int.toNat y1.2.1)) λy3=> .ite (decide (List.length ((p0++y2)++([32]:List UInt8))+List.length y3≤bA)) (.ite (decide (List.length (((p0++y2)++([32]:List UInt8))++y3)+List.length ([32]:List UInt8)≤bA)) (.get (eu y1.2.2.1) λy4=> .ite (decide (List.length ((((p0++y2)++([32]:List UInt8))++y3)++([32]:List UInt8))+List.length y4≤bA)) (.ite (decide (List.length (((((p0++y2)++([32]:List UInt8))++y3)++([32]:List UInt8))++y4)+List.length ([32]:List UInt8)≤bA)) (.get (eu y1.2.2.2.2.1) λy5=> .ite (decide (List.length ((((((p0++y2)++([32]:List UInt8))++y3)++([32]:List UInt8))++y4)++([32]:List UInt8))+List.length y5≤bA)) (.ite (decide (List.length (((((((p0++y2)++([32]:List UInt8))++y3)++([32]:List UInt8))++y4)++([32]:List UInt8))++y5)+List.length ([10]:List UInt8)≤bA)) (.ret (.again ((((((((((p0++y2)++([32]:List UInt8))++y3)++([32]:List UInt8))++y4)++([32]:List UInt8))++y5)++([10]:List UInt8)),(IntKind.i64.wrap (p1+(1:Int))),()),((p2,p3,p4,p5,p6,p7,p8,p9,cH,()),cK,())))) .fail) .fail) .fail) .fail) .fail) .fail) .fail) .fail) .fail) .fail) (.ret (.out ((p0,()),())))
def xv (a0:Int) (a1:Int) (a2:List (List az)) (a3:List af) (a4:List aj) (a5:List ag) (a6:List ag) (a7:List Int) (a8:List Int):Out (((List UInt8×Unit)×Unit)×(Unit×Unit)):= .ite (!(b5 a0 a1 a2 a3 a4 a5 a6 a7 a8)) (.ret (((([]:List UInt8),()),()),((),()))) (.get (bx E7 bc ((([]:List UInt8),(0:Int),()),((a0,a1,a2,a3,a4,a5,a6,a7,a8,()),([([]:List UInt8),([99,111,110]:List UInt8),([102,105,108,101]:List UInt8),([105,110]:List UInt8),([111,117,116]:List UInt8)]:List (List UInt8)),()))) λy1=> .ret (((y1.1.1,()),()),((),())))
def aha:Nat→Option aq:=λn=>b6 [(0,⟨⟨[.dead, .vptr 64000000 0, .dead, .bg 64000001, .s, .i .i64]++dd 41,Uo⟩,⟨dd 4++[.s]++dd 42,[]⟩,none,false⟩)] n
def k9:bZ:={ f:=9,lend:=true,aJ:=[⟨false,true,[.i .i64, .i .i64, .ro (.sl dk), .ro jM, .ro dZ, .ro dU, .ro dU, .ro (.int .i64), .ro (.int .i64)]⟩],lay:=[none],rs:=[⟨false,false,[.s]⟩],F:=λx=> .get (sE x.1.1 x.1.2.1 x.1.2.2.1 x.1.2.2.2.1 x.1.2.2.2.2.1 x.1.2.2.2.2.2.1 x.1.2.2.2.2.2.2.1 x.1.2.2.2.2.2.2.2.1 x.1.2.2.2.2.2.2.2.2.1) λy=> .ret (((y,()),()),((),())) }
theorem adm (x:au k9.aJ):bo [LN,QA] aha Tryz.f9 k9 [.tmp 2] x=xv x.1.1 x.1.2.1 x.1.2.2.1 x.1.2.2.2.1 x.1.2.2.2.2.1 x.1.2.2.2.2.2.1 x.1.2.2.2.2.2.2.1 x.1.2.2.2.2.2.2.2.1 x.1.2.2.2.2.2.2.2.2.1:=by kernel_rfl
theorem WR (hr:∀ x:bw×Unit,aD k9.aJ x→∀ y,(k9.F x).eval=some y→(xv x.1.1 x.1.2.1 x.1.2.2.1 x.1.2.2.2.1 x.1.2.2.2.2.1 x.1.2.2.2.2.2.1 x.1.2.2.2.2.2.2.1 x.1.2.2.2.2.2.2.2.1 x.1.2.2.2.2.2.2.2.2.1).eval=some y):k9.Ok Tryz.prog:=aO [LN,QA] ⟨Hl,MX,trivial⟩ adm hr
theorem adn:k9.Ok Tryz.prog:=by
 refine WR λx hw y hy=> ?_;obtain ⟨⟨a0,a1,a2,a3,a4,a5,a6,a7,a8,_⟩,_⟩:=x;have l2:List.length a2≤aM:=hw.1.1.1;have l3:List.length a3≤aM:=hw.1.2.1.1;have l4:List.length a4≤aM:=hw.1.2.2.1.1;have l5:List.length a5≤aM:=hw.1.2.2.2.1.1;have l6:List.length a6≤aM:=hw.1.2.2.2.2.1.1;have l7:List.length a7≤aM:=hw.1.2.2.2.2.2.1.1;have l8:List.length a8≤aM:=hw.1.2.2.2.2.2.2.1.1;change (Out.get (sE a0 a1 a2 a3 a4 a5 a6 a7 a8) λy=>Out.ret (((y,()),()),((),()))).eval=some y at hy;show (xv a0 a1 a2 a3 a4 a5 a6 a7 a8).eval=some y;unfold sE at hy;by_cases hl:List.length a7≤bA
 case neg=>rw [aa3 hl] at hy;exact nomatch hy
 rw [aa5 hl] at hy;refine Eq.trans ?_ hy;unfold xv E4;by_cases hu:b5 a0 a1 a2 a3 a4 a5 a6 a7 a8=true
 case neg=>rw [aa3 hu,ab (by simp [hu])];rfl
 rw [aa5 hu,ae (by simp [hu])];have hk:=E2 hu;have hp:=(nG hu).2.2.2.1;have hb:=jg lq 80 a4 λx hx=>yv (hk x hx);have h1:bx E7 bc ((([]:List UInt8),(0:Int),()),((a0,a1,a2,a3,a4,a5,a6,a7,a8,()),([([]:List UInt8),([99,111,110]:List UInt8),([102,105,108,101]:List UInt8),([105,110]:List UInt8),([111,117,116]:List UInt8)]:List (List UInt8)),()))=some (((([]:List UInt8)++List.flatMap lq a4),()),()):=qg (f:=E7) lq a4 (λd i=>((d,((i:Nat):Int),()),((a0,a1,a2,a3,a4,a5,a6,a7,a8,()),([([]:List UInt8),([99,111,110]:List UInt8),([102,105,108,101]:List UInt8),([105,110]:List UInt8),([111,117,116]:List UInt8)]:List (List UInt8)),()))) (λd=>((d,()),())) 1000000
  (λi hi d hd=>by
   have h1:=aw (i:=i) (by omega);have e8:=hk _ (acb hi);have e1:eu a4[i].1=some (Lib.itoa a4[i].1):=aa5 e8.1;have e2:eu a4[i].2.2.1=some (Lib.itoa a4[i].2.2.1):=aa5 e8.2.2.1;have e9:0≤a4[i].2.1∧a4[i].2.1<((List.length xr:Nat):Int):=by (have:=e8.2.1;simp only [aby,abA];omega)
   have e3:=aaE e9;have e4:=sD e9;have e5:eu a4[i].2.2.2.2.1=some (Lib.itoa a4[i].2.2.2.2.1):=aa5 e8.2.2.2;unfold lq at hd
   all_goals (try simp only [abz,aby,abA] at hd)
   all_goals (simp only [E7,Out.eval,mP hi,Ay,cL hi,acf,acE,h1,e1,e2,e3,e4,e5])
   all_goals (repeat rw [sB (by (try simp only [abz,aby,abA]);omega)])
   all_goals (try simp only [acj])
   all_goals (try rfl))
  (λd=>by simp [E7,Out.eval]) l4 ([]:List UInt8) (by (try simp only [abA]);omega)
 refine (aa h1).trans ?_;rfl
abbrev Ur:=(List UInt8×List aj×Int×Int×Unit)×(List (List UInt8)×Unit)
def E8:Ur→Out (Round Ur ((List UInt8×Unit)×(Unit)) Empty)
|((p0,p1,p2,p3,_),p4,_)=> .ite (decide (p3<p2)) (.ite (decide (0≤p3)) (.get (nth p1 (Int.toNat p3)) λy1=> .get (eu y1.1) λy2=> .ite (decide (List.length y2+List.length ([32]:List UInt8)≤bA)) (.ite (decide (0≤y1.2.1∧y1.2.1<((List.length p4:Nat):Int))) (.get (nth p4 (Int.toNat y1.2.1)) λy3=> .ite (decide (List.length (y2++([32]:List UInt8))+List.length y3≤bA)) (.ite (decide (List.length ((y2++([32]:List UInt8))++y3)+List.length ([32]:List UInt8)≤bA)) (.get (eu y1.2.2.1) λy4=> .ite (decide (List.length (((y2++([32]:List UInt8))++y3)++([32]:List UInt8))+List.length y4≤bA)) (.ite (decide (List.length ((((y2++([32]:List UInt8))++y3)++([32]:List UInt8))++y4)+List.length ([32]:List UInt8)≤bA)) (.get (eu y1.2.2.2.2.1) λy5=> .ite (decide (List.length (((((y2++([32]:List UInt8))++y3)++([32]:List UInt8))++y4)++([32]:List UInt8))+List.length y5≤bA)) (.ite (decide (List.length ((((((y2++([32]:List UInt8))++y3)++([32]:List UInt8))++y4)++([32]:List UInt8))++y5)+List.length ([10]:List UInt8)≤bA)) (.ite (decide (List.length p0+List.length (((((((y2++([32]:List UInt8))++y3)++([32]:List UInt8))++y4)++([32]:List UInt8))++y5)++([10]:List UInt8))≤bA)) (.ret (.again (((p0++(((((((y2++([32]:List UInt8))++y3)++([32]:List UInt8))++y4)++([32]:List UInt8))++y5)++([10]:List UInt8))),p1,p2,(IntKind.i64.wrap (p3+(1:Int))),()),(p4,())))) .fail) .fail) .fail) .fail) .fail) .fail) .fail) .fail) .fail) .fail) (.ret (.out ((p0,()),())))
def xw (a0:Int) (a1:Int) (a2:List (List az)) (a3:List af) (a4:List aj) (a5:List ag) (a6:List ag) (a7:List Int) (a8:List Int):Out (((List UInt8×Unit)×Unit)×(Unit×Unit)):= .get (iW a0 a1 a2 a3 a4 a5 a6 a7 a8) λy1=> .ite (!y1) (.ret (((([]:List UInt8),()),()),((),()))) (.get (bx E8 bc ((([]:List UInt8),a4,((List.length a4:Nat):Int),(0:Int),()),(([([]:List UInt8),([99,111,110]:List UInt8),([102,105,108,101]:List UInt8),([105,110]:List UInt8),([111,117,116]:List UInt8)]:List (List UInt8)),()))) λy2=> .ret (((y2.1.1,()),()),((),())))
def ahb:Nat→Option aq:=λn=>b6 [(0,⟨⟨[.dead, .dead, .dead, .bg 64000000, .s]++dd 7++[.ro dZ (some 2), .i .i64, .i .i64]++dd 28,[(64000000, .arr .str)]⟩,⟨dd 4++[.s]++dd 38,[]⟩,none,false⟩)] n
def k7:bZ:={ f:=7,lend:=true,aJ:=[⟨false,true,[.i .i64, .i .i64, .ro (.sl dk), .ro jM, .ro dZ, .ro dU, .ro dU, .ro (.int .i64), .ro (.int .i64)]⟩],lay:=[none],rs:=[⟨false,false,[.s]⟩],F:=λx=> .get (sE x.1.1 x.1.2.1 x.1.2.2.1 x.1.2.2.2.1 x.1.2.2.2.2.1 x.1.2.2.2.2.2.1 x.1.2.2.2.2.2.2.1 x.1.2.2.2.2.2.2.2.1 x.1.2.2.2.2.2.2.2.2.1) λy=> .ret (((y,()),()),((),())) }
theorem ado (x:au k7.aJ):bo [MY,Qz] ahb Tryz.f7 k7 [.tmp 2] x=xw x.1.1 x.1.2.1 x.1.2.2.1 x.1.2.2.2.1 x.1.2.2.2.2.1 x.1.2.2.2.2.2.1 x.1.2.2.2.2.2.2.1 x.1.2.2.2.2.2.2.2.1 x.1.2.2.2.2.2.2.2.2.1:=by kernel_rfl
theorem WS (hr:∀ x:bw×Unit,aD k7.aJ x→∀ y,(k7.F x).eval=some y→(xw x.1.1 x.1.2.1 x.1.2.2.1 x.1.2.2.2.1 x.1.2.2.2.2.1 x.1.2.2.2.2.2.1 x.1.2.2.2.2.2.2.1 x.1.2.2.2.2.2.2.2.1 x.1.2.2.2.2.2.2.2.2.1).eval=some y):k7.Ok Tryz.prog:=aO [MY,Qz] ⟨Hm,MS,trivial⟩ ado hr
theorem adp:k7.Ok Tryz.prog:=by
 refine WS λx hw y hy=> ?_;obtain ⟨⟨a0,a1,a2,a3,a4,a5,a6,a7,a8,_⟩,_⟩:=x;have l2:List.length a2≤aM:=hw.1.1.1;have l3:List.length a3≤aM:=hw.1.2.1.1;have l4:List.length a4≤aM:=hw.1.2.2.1.1;have l5:List.length a5≤aM:=hw.1.2.2.2.1.1;have l6:List.length a6≤aM:=hw.1.2.2.2.2.1.1;have l7:List.length a7≤aM:=hw.1.2.2.2.2.2.1.1;have l8:List.length a8≤aM:=hw.1.2.2.2.2.2.2.1.1;change (Out.get (sE a0 a1 a2 a3 a4 a5 a6 a7 a8) λy=>Out.ret (((y,()),()),((),()))).eval=some y at hy;show (xw a0 a1 a2 a3 a4 a5 a6 a7 a8).eval=some y;unfold sE at hy;by_cases hl:List.length a7≤bA
 case neg=>rw [aa3 hl] at hy;exact nomatch hy
 rw [aa5 hl] at hy;refine Eq.trans ?_ hy;unfold xw E4;have e0:iW a0 a1 a2 a3 a4 a5 a6 a7 a8=some (b5 a0 a1 a2 a3 a4 a5 a6 a7 a8):=by
  unfold iW;rw [aa5 hl,vf]
 refine (aa e0).trans ?_;by_cases hu:b5 a0 a1 a2 a3 a4 a5 a6 a7 a8=true
 case neg=>rw [aa3 hu,ab (by simp [hu])];rfl
 rw [aa5 hu,ae (by simp [hu])];have hk:=E2 hu;have hp:=(nG hu).2.2.2.1;have hb:=jg lq 80 a4 λx hx=>yv (hk x hx);have h1:bx E8 bc ((([]:List UInt8),a4,((List.length a4:Nat):Int),(0:Int),()),(([([]:List UInt8),([99,111,110]:List UInt8),([102,105,108,101]:List UInt8),([105,110]:List UInt8),([111,117,116]:List UInt8)]:List (List UInt8)),()))=some (((([]:List UInt8)++List.flatMap lq a4),()),()):=qg (f:=E8) lq a4 (λd i=>((d,a4,((List.length a4:Nat):Int),((i:Nat):Int),()),(([([]:List UInt8),([99,111,110]:List UInt8),([102,105,108,101]:List UInt8),([105,110]:List UInt8),([111,117,116]:List UInt8)]:List (List UInt8)),()))) (λd=>((d,()),())) 1000000
  (λi hi d hd=>by
   have h1:=aw (i:=i) (by omega);have e8:=hk _ (acb hi);have e1:eu a4[i].1=some (Lib.itoa a4[i].1):=aa5 e8.1;have e2:eu a4[i].2.2.1=some (Lib.itoa a4[i].2.2.1):=aa5 e8.2.2.1;have e9:0≤a4[i].2.1∧a4[i].2.1<((List.length xr:Nat):Int):=by (have:=e8.2.1;simp only [aby,abA];omega)
   have e3:=aaE e9;have e4:=sD e9;have e5:eu a4[i].2.2.2.2.1=some (Lib.itoa a4[i].2.2.2.2.1):=aa5 e8.2.2.2;unfold lq at hd
   all_goals (try simp only [abz,aby,abA] at hd)
   all_goals (simp only [E8,Out.eval,mP hi,Ay,cL hi,acf,acE,h1,e1,e2,e3,e4,e5])
   all_goals (repeat rw [sB (by (try simp only [abz,aby,abA]);omega)])
   all_goals (try simp only [acj])
   all_goals (try rfl))
  (λd=>by simp [E8,Out.eval]) l4 ([]:List UInt8) (by (try simp only [abA]);omega)
 refine (aa h1).trans ?_;rfl
end
section
open Go Go.ChangeShapes Go.WideShapes Go.ChangeAt Go.RowKit
section
theorem wy:∀ (u:Nat),∀ b∈Lib.decDigits u,48≤b.toNat:=by
 intro u
 induction u using Nat.strongRecOn with
 |_ u ih=>
  intro b hb;rw [Lib.decDigits] at hb;split at hb
  . rw [acq] at hb
    subst hb;have:u<10:=by assumption
    simp;omega
  . rw [abp,acq] at hb
    rcases hb with hb|rfl
    . exact ih (u / 10) (by omega) b hb
    . have:=Nat.mod_lt u (show 10>0 by decide)
      simp;omega
theorem Rs (n:Int):(Lib.itoa n).count 10=0:=by
 rw [List.count_eq_zero];intro hm;unfold Lib.itoa at hm;split at hm
 . rcases abF.1 hm with h|h
   . exact absurd h (by decide)
   . exact absurd (wy _ _ h) (by decide)
 . exact absurd (wy _ _ hm) (by decide)
theorem MZ (i:Nat):(nJ.getD i []).count 10=0:=by
 rw [ach];cases e:nJ[i]? with
 |none=>rfl
 |some x=>exact (by decide:∀ x∈nJ,x.count 10=0) x (acx e)
theorem KD (p:af):(ic p).count 10=1:=by
 unfold ic;simp only [List.count_append,Rs,MZ];decide
theorem Us:∀ ps:List af,(ps.flatMap ic).count 10=ps.length
 |[]=>rfl
 |p::ps=>by rw [aeC,List.count_append,KD,Us ps,aby];omega
def fa (ps:List af) (v:Int):List Int:=(ps.filter λp=>p.2.1==v).map (·.1)
theorem Bp (p:af) (ps:List af) (v:Int):(fa (p::ps) v).length=(fa ps v).length+if p.2.1=v then 1 else 0:=by
 unfold fa;rw [acS];by_cases h:p.2.1=v
 . rw [aa5 (by simpa using h),aa5 h];simp
 . rw [aa3 (by simpa using h),aa3 h];simp
theorem IM:∀ {ks:List Int} {v:Int} {g:Int→Nat},ks.Nodup→(ks.map λk=>g k+if v=k then 1 else 0).sum=(ks.map g).sum+if v∈ks then 1 else 0
 |[],v,g,_=>by simp
 |k::ks,v,g,h=>by
  rw [acu] at h;rw [acd,List.sum_cons,IM h.2,acd,List.sum_cons];by_cases e:v=k
  . subst e
    rw [aa5 rfl,aa3 h.1,aa5 (by simp)];omega
  . rw [aa3 e]
    by_cases m:v∈ks
    . rw [aa5 m,aa5 (by simp [m])];omega
    . rw [aa3 m,aa3 (by simp [e,m])];omega
theorem E9 {ks:List Int} (hn:ks.Nodup) (h0:(0:Int) ∉ ks):∀ qs:List af,(∀ q∈qs,q.2.1=0∨q.2.1∈ks)→(fa qs 0).length+(ks.map λk=>(fa qs k).length).sum=qs.length
 |[],_=>by
  have:∀ l:List Int,(l.map λk=>(fa [] k).length).sum=0:=λl=>by induction l with|nil=>rfl|cons _ _ ih=>rw [acd,List.sum_cons,ih];rfl
  rw [this];rfl
 |q::qs,h=>by
  have ih:=E9 hn h0 qs λz hz=>h z (by simp [hz]);have hq:=h q (by simp);have e:(ks.map λk=>(fa (q::qs) k).length)=ks.map λk=>(fa qs k).length+if q.2.1=k then 1 else 0:=ac7 λk _=>Bp q qs k
  rw [e,IM hn,Bp,aby];rcases hq with hq|hq
  . rw [aa5 hq,aa3 (by rw [hq];exact h0)];omega
  . rw [aa3 (λk:q.2.1=0=>h0 (by rw [← k];exact hq)),aa5 hq];omega
theorem Hn {u:UT} (h:ib u):(fa (bm u) 0).length+((bm u).map λp=>(fa (bm u) p.1).length).sum=(bm u).length:=by
 have:=E9 (ks:=(bm u).map ao) h.cF.nodup (λhm=>by
  obtain ⟨p,hp,e⟩:=List.mem_map.1 hm;have h1:=(h.ctx p hp).pid.1;have e:p.1=0:=e;omega) (bm u) λq hq=>by
   rcases (h.ctx q hq).par with k|⟨_,z,hz,e,_⟩
   . exact .inl k
   . exact .inr (List.mem_map.2 ⟨z,hz,e⟩)
 rw [List.map_map] at this;exact this
end
end
section
open Go Go.ChangeShapes Go.WideShapes Go.ChangeAt Go.RowKit
abbrev adq:=(t4×Unit)×(Unit×Unit)
def IP:t4×Unit→Out adq
|(a0,_)=> .get (Ui (a0,())) λ((cP,_),_)=> .ret (((cP.1,cP.2.1,cP.2.2.1,cP.2.2.2.1,cP.2.2.2.2.1,cP.2.2.2.2.2.1,cP.2.2.2.2.2.2.1,cP.2.2.2.2.2.2.2.1,cP.2.2.2.2.2.2.2.2.1,()),()),((),()))
def Ut (x:t4×Unit):=(IP x).eval
def k53:bZ:=dD 53 false [i4] [none] [i4] IP
theorem WU:k53.Ok Tryz.prog:=cb bI [] [] [k84] ⟨WV,trivial⟩ (λ_=>none) Tryz.f53 [.cell 2 31] λx=>by kernel_rfl
abbrev adr:=(t4×Unit)×(Unit×Unit)
def IQ:t4×Unit→Out adr
|(a0,_)=> .get (Ul (a0,())) λ((cP,_),_)=> .ret (((cP.1,cP.2.1,cP.2.2.1,cP.2.2.2.1,cP.2.2.2.2.1,cP.2.2.2.2.2.1,cP.2.2.2.2.2.2.1,cP.2.2.2.2.2.2.2.1,cP.2.2.2.2.2.2.2.2.1,()),()),((),()))
def Uu (x:t4×Unit):=(IQ x).eval
def k52:bZ:=dD 52 false [i4] [none] [i4] IQ
theorem WW:k52.Ok Tryz.prog:=cb bI [] [] [k83] ⟨WX,trivial⟩ (λ_=>none) Tryz.f52 [.cell 2 31] λx=>by kernel_rfl
abbrev ads:=(t4×t10×Unit)×(Unit×Unit)
abbrev M0:=(List (List az)×Int×Unit)×((Int×Int×Unit)×(Int×Int×Unit)×List (List az)×List af×List aj×List ag×List ag×List Int×List Int×LO)
def vg:M0→Out (Round M0 ((Unit)×((Int×Int×Unit)×(Int×Int×Unit)×List (List az)×List af×List aj×List ag×List ag×List Int×List Int×LO)) Empty)
|((p0,p1,_),(p2,p3,_),(p4,p5,_),p6,p7,p8,p9,cH,cK,eH,eU,ei,dq,eI,fD,fN,fk,_)=> .ite (decide (p1<((List.length p0:Nat):Int))) (.ite (decide (0≤p1)) (.get (nth p0 (Int.toNat p1)) λy1=> .ite (decide (List.length ([]:List az)+List.length y1≤bA)) (.ite (decide (List.length eU+List.length ([(([]:List az)++y1)]:List (List az))≤bA)) (.ret (.again ((p0,(IntKind.i64.wrap (p1+1)),()),((p2,p3,()),(p4,p5,()),p6,p7,p8,p9,cH,cK,eH,(eU++([(([]:List az)++y1)]:List (List az))),ei,dq,eI,fD,fN,fk,())))) .fail) .fail) .fail) (.ret (.out ((),((p2,p3,()),(p4,p5,()),p6,p7,p8,p9,cH,cK,eH,eU,ei,dq,eI,fD,fN,fk,()))))
def IS:t3×Unit→Out ads
|(a0,_)=> .ite (!(cO a0.1)) (.ret (((0,0,([]:List (List az)),([]:List af),([]:List aj),([]:List ag),([]:List ag),([]:List Int),([]:List Int),()),(false,()),()),((),()))) (.get (bx vg bc ((a0.1,0,()),((0,0,()),(2,0,()),([]:List (List az)),([]:List af),([]:List aj),([]:List ag),([]:List ag),([]:List Int),([]:List Int),([]:List (List az)),([]:List af),([(0,1,0,0,2,())]:List aj),([]:List ag),([]:List ag),([(1:Int)]:List Int),([]:List Int),()))) λ(_,_,(Df,wY,_),_,_,_,_,_,_,_,wZ,_,w8,sF,w9,vj,xa,_)=> .get (oP ((4,()),())) λ((cm,_),_)=> .get (oP ((4,()),())) λ((dT,_),_)=> .ret (((Df,wY,wZ,([(1,0,1,0,(0,cm),dT.1,([0,0, -1,(-1:Int)]:List Int),0,0,())]:List af),w8,sF,w9,vj,xa,()),(true,()),()),((),())))
def Uv (x:t3×Unit):=(IS x).eval
abbrev M1:List (Nat×eA):=[(64000000, .var [.i .i64, .i .i64, .bg 64000002, .bg 64000003, .bg 64000004, .bg 64000005, .bg 64000006, .bg 64000007, .bg 64000008]),(64000001, .var [.i .i64, .i .i64, .bg 64000009, .bg 64000010, .bg 64000011, .bg 64000012, .bg 64000013, .bg 64000014, .bg 64000015]),(64000002, .arr (.fz dk)),(64000003, .arr kR),(64000004, .arr dZ),(64000005, .arr dj),(64000006, .arr dj),(64000007, .arr dI),(64000008, .arr dI),(64000009, .arr (.fz dk)),(64000010, .arr kR),(64000011, .arr dZ),(64000012, .arr dj),(64000013, .arr dj),(64000014, .arr dI),(64000015, .arr dI)]
def adt:Nat→Option aq:=λn=>b6 [(0,⟨⟨[.ro (.fz dk) (some 0), .dead, .vptr 64000000 0, .dead, .vptr 64000001 0, .i .i64]++dd 33,M1⟩,⟨[.dead, .dead, .vptr 64000000 0, .dead, .vptr 64000001 0]++dd 34,M1⟩,none,false⟩)] n
def k50:bZ:=dD 50 false [i3] [none] [i4,i10] IS
theorem WY:k50.Ok Tryz.prog:=cb bI [1800,2049] [(1800,1),(2049,1)] [Rt,k29] ⟨M3,Dg,trivial⟩ adt Tryz.f50 [.cell 2 31, .tmp 3] λx=>by kernel_rfl
end
section
open Go Go.ChangeShapes Go.WideShapes Go.ChangeAt Go.RowKit
section
variable {x tl:Int} {u u' w:UT} {p:af} {l l':List ET} {β:Type} {n m:Nat} {v code:Int}
theorem fF {α:Type}:∀ (a acc:List α),a.foldl (λacc y=>acc++[y]) acc=acc++a
 |[],acc=>by simp
 |y::a,acc=>by rw [acn,fF a];simp
theorem vk {l:List az} (h:bH l=true):l.length≤40:=abJ (Bool.and_eq_true_iff.1 h).1
theorem Ru {pg:List (List az)} (h:cO pg=true):M4 ((pg,()),())=some (((pg,()),()),((),())):=by
 unfold cO at h;simp only [aa4,abS] at h;have hL:bA=68719476736:=rfl;have hB:aM=9223372036854775807:=rfl;have h1:=foldl_loop (f:=vm) (λ(acc:List (List az)) i=>acc.length=i) (λacc y=>acc++[y]) pg
  (λacc i=>((pg,(i:Int),()),(acc,()))) (λacc=>((),(acc,()))) (λi hi acc ha=> ?_) (λacc _=> ?_) (λi hi acc ha=> ?_) (by omega) [] rfl
 . rw [fF,ab0] at h1
   show Out.eval (M5 _)=_;dsimp only [M5];exact zG rfl h1
 . have hn:nth pg i=some pg[i]:=aa2 hi
   have hw:IntKind.i64.wrap ((i:Int)+1)=((i+1:Nat):Int):=aw (by omega);have hp:=vk (abD.1 h.2 _ (acb hi));show Out.eval (vm _)=_;dsimp only [vm];simp only [abo,hw];refine zT ?_;refine zT ?_;refine zG ?_;refine zT ?_ (aaE (by simp only [abA];omega));refine zT ?_ (aaE (by simp only [aby,abA];omega));rfl
 . show Out.eval (vm _)=_
   dsimp only [vm];refine zF ?_;rfl
 . rw [abz,ha];rfl
theorem M6 {pg:List (List az)} (h:cO pg=true):Ho ((pg,()),())=some (((pg,()),()),((),())):=by
 unfold cO at h;simp only [aa4,abS] at h;have hL:bA=68719476736:=rfl;have hB:aM=9223372036854775807:=rfl;have h1:=foldl_loop (f:=qh) (λ(acc:List (List az)) i=>acc.length=i) (λacc y=>acc++[y]) pg
  (λacc i=>(((i:Int),()),(pg,acc,()))) (λacc=>((),(acc,()))) (λi hi acc ha=> ?_) (λacc _=> ?_) (λi hi acc ha=> ?_) (by omega) [] rfl
 . rw [fF,ab0] at h1
   show Out.eval (Dh _)=_;dsimp only [Dh];exact zG rfl h1
 . have hn:nth pg i=some pg[i]:=aa2 hi
   have hw:IntKind.i64.wrap ((i:Int)+1)=((i+1:Nat):Int):=aw (by omega);have hp:=vk (abD.1 h.2 _ (acb hi));show Out.eval (qh _)=_;dsimp only [qh];simp only [abo,hw];refine zT ?_;refine zT ?_;refine zG ?_;refine zT ?_ (aaE (by simp only [abA];omega));refine zT ?_ (aaE (by simp only [aby,abA];omega));rfl
 . show Out.eval (qh _)=_
   dsimp only [qh];refine zF ?_;rfl
 . rw [abz,ha];rfl
theorem Bq (h:aL x tl u) (hp:p∈bm u):fV p.1 p.2.1 p.2.2.1 p.2.2.2.1 p.2.2.2.2.1.1 p.2.2.2.2.1.2.1 p.2.2.2.2.2.1 p.2.2.2.2.2.2.1 p.2.2.2.2.2.2.2.1 p.2.2.2.2.2.2.2.2.1=some (p.1,p.2.1,p.2.2.1,p.2.2.2.1,p.2.2.2.2.1.1,p.2.2.2.2.1.2.1,p.2.2.2.2.2.1,p.2.2.2.2.2.2.1,p.2.2.2.2.2.2.2.1,p.2.2.2.2.2.2.2.2.1):=aa5 (by
 have hL:bA=68719476736:=rfl;have G9:=h.loc p hp;have a1:p.2.2.2.2.1.2.1.length=4:=(cY G9.ku).2.1;have a2:p.2.2.2.2.2.1.length≤12:=G9.mem.1;have a3:p.2.2.2.2.2.2.1.length=4:=G9.fds;omega)
theorem ahc (h:aL x tl u):adv (u,())=some ((u,()),((),())):=by
 have hL:bA=68719476736:=rfl;have hB:aM=9223372036854775807:=rfl;have mu:=oc h;have IH:=wq h;have uH:=xU h;have LL:=wx h;have Di:=h.Di.1;have G0:=h.np;have Bk:=Ru h.Bk;have hpc:=λ(p:af) (hp:p∈bm u)=>Bq h hp;have hpd:=λ(y:ag) (hy:y∈oG u)=>(h.rf y hy).data.1;have A7:=λ(y:ag) (hy:y∈od u)=>(jU h hy).1;obtain ⟨nx,tk,pg,ps,os,pi,fi,rd,ou,_⟩:=u;have mu:os.length≤1000:=abG mu (by omega);have IH:pi.length≤1000:=abG IH (by omega);have uH:fi.length≤1000:=abG uH (by omega);have LL:rd.length≤6:=LL;have Di:ou.length≤60:=Di;have G0:ps.length≤6:=G0;have Bk:M4 ((pg,()),())=some (((pg,()),()),((),())):=Bk;have h0:=foldl_loop (f:=vn) (λ(acc:List af) i=>acc.length=i) (λacc y=>acc++[y]) ps
  (λacc i=>(((i:Int),()),((nx,tk,pg,ps,os,pi,fi,rd,ou,()),(0,0,()),(nx,tk,os,pi,fi,rd,ou,()),[],[],[],[],[],[],[],pg,acc,())))
  (λacc=>((),((nx,tk,pg,ps,os,pi,fi,rd,ou,()),(0,0,()),(nx,tk,os,pi,fi,rd,ou,()),[],[],[],[],[],[],[],pg,acc,()))) (λi hi acc ha=> ?_) (λacc _=> ?_) (λi hi acc ha=> ?_) (by omega) [] rfl
 . rw [fF,ab0] at h0
   have h2:=foldl_loop (f:=vp) (λ(acc:List ag) i=>acc.length=i) (λacc y=>acc++[y]) pi
    (λacc i=>(((i:Int),()),((nx,tk,pg,ps,os,pi,fi,rd,ou,()),(0,0,()),(nx,tk,fi,rd,ou,()),[],[],[],[],[],[],[],pg,ps,os,acc,())))
    (λacc=>((),((nx,tk,pg,ps,os,pi,fi,rd,ou,()),(0,0,()),(nx,tk,fi,rd,ou,()),[],[],[],[],[],[],[],pg,ps,os,acc,()))) (λi hi acc ha=> ?_) (λacc _=> ?_) (λi hi acc ha=> ?_) (by omega) [] rfl
   . rw [fF,ab0] at h2
     have h4:=foldl_loop (f:=vq) (λ(acc:List ag) i=>acc.length=i) (λacc y=>acc++[y]) fi
      (λacc i=>(((i:Int),()),((nx,tk,pg,ps,os,pi,fi,rd,ou,()),(0,0,()),(nx,tk,rd,ou,()),[],[],[],[],[],[],[],pg,ps,os,pi,acc,())))
      (λacc=>((),((nx,tk,pg,ps,os,pi,fi,rd,ou,()),(0,0,()),(nx,tk,rd,ou,()),[],[],[],[],[],[],[],pg,ps,os,pi,acc,()))) (λi hi acc ha=> ?_) (λacc _=> ?_) (λi hi acc ha=> ?_) (by omega) [] rfl
     . rw [fF,ab0] at h4
       show Out.eval (M7 _)=_;dsimp only [M7];refine zG ?_ Bk;refine zG ?_ h0;dsimp only;refine zT ?_ (aaE (by simp only [abA];omega));refine zG ?_ h2;refine zG ?_ h4;dsimp only;refine zT ?_ (aaE (by simp only [abA];omega));refine zT ?_ (aaE (by simp only [abA];omega));rfl
     . have hn:nth fi i=some fi[i]:=aa2 hi
       have hw:IntKind.i64.wrap ((i:Int)+1)=((i+1:Nat):Int):=aw (by omega);have hd:=A7 _ (acb hi);show Out.eval (vq _)=_;dsimp only [vq];simp only [abo,hw];refine zT ?_;refine zT ?_;refine zG ?_;refine zT ?_;refine zG ?_;refine zT ?_ (aaE (by simp only [abA];omega));refine zT ?_ (aaE (by simp only [aby,abA];omega));rfl
     . show Out.eval (vq _)=_
       dsimp only [vq];refine zF ?_;rfl
     . rw [abz,ha];rfl
   . have hn:nth pi i=some pi[i]:=aa2 hi
     have hw:IntKind.i64.wrap ((i:Int)+1)=((i+1:Nat):Int):=aw (by omega);have hd:=hpd _ (acb hi);show Out.eval (vp _)=_;dsimp only [vp];simp only [abo,hw];refine zT ?_;refine zT ?_;refine zG ?_;refine zT ?_;refine zG ?_;refine zT ?_ (aaE (by simp only [abA];omega));refine zT ?_ (aaE (by simp only [aby,abA];omega));rfl
   . show Out.eval (vp _)=_
     dsimp only [vp];refine zF ?_;rfl
   . rw [abz,ha];rfl
 . have hn:nth ps i=some ps[i]:=aa2 hi
   have hw:IntKind.i64.wrap ((i:Int)+1)=((i+1:Nat):Int):=aw (by omega);have hc:=hpc _ (acb hi);show Out.eval (vn _)=_;dsimp only [vn];simp only [abo,hw];refine zT ?_;refine zT ?_;refine zG ?_;refine zG ?_ hc;refine zT ?_ (aaE (by simp only [aby,abA];omega));rfl
 . show Out.eval (vn _)=_
   dsimp only [vn];refine zF ?_;rfl
 . rw [abz,ha];rfl
theorem Rv (h:aL x tl u):M8 (u,())=some ((u,()),((),())):=by
 have hL:bA=68719476736:=rfl;have hB:aM=9223372036854775807:=rfl;have mu:=oc h;have IH:=wq h;have uH:=xU h;have LL:=wx h;have Di:=h.Di.1;have G0:=h.np;have Bk:=M6 h.Bk;have hpc:=λ(p:af) (hp:p∈bm u)=>Bq h hp;have hpd:=λ(y:ag) (hy:y∈oG u)=>(h.rf y hy).data.1;have A7:=λ(y:ag) (hy:y∈od u)=>(jU h hy).1;obtain ⟨nx,tk,pg,ps,os,pi,fi,rd,ou,_⟩:=u;have mu:os.length≤1000:=abG mu (by omega);have IH:pi.length≤1000:=abG IH (by omega);have uH:fi.length≤1000:=abG uH (by omega);have LL:rd.length≤6:=LL;have Di:ou.length≤60:=Di;have G0:ps.length≤6:=G0;have Bk:Ho ((pg,()),())=some (((pg,()),()),((),())):=Bk;have h0:=foldl_loop (f:=qi) (λ(acc:List af) i=>acc.length=i) (λacc y=>acc++[y]) ps
  (λacc i=>(((i:Int),()),((nx,tk,()),(0,0,()),(nx,tk,()),ps,os,pi,fi,rd,ou,[],[],[],[],[],[],[],pg,acc,())))
  (λacc=>((),((nx,tk,()),(0,0,()),(nx,tk,()),ps,os,pi,fi,rd,ou,[],[],[],[],[],[],[],pg,acc,()))) (λi hi acc ha=> ?_) (λacc _=> ?_) (λi hi acc ha=> ?_) (by omega) [] rfl
 . rw [fF,ab0] at h0
   have h2:=foldl_loop (f:=qj) (λ(acc:List ag) i=>acc.length=i) (λacc y=>acc++[y]) pi
    (λacc i=>(((i:Int),()),((nx,tk,()),(0,0,()),(nx,tk,()),ps,os,pi,fi,rd,ou,[],[],[],[],[],[],[],pg,ps,os,acc,())))
    (λacc=>((),((nx,tk,()),(0,0,()),(nx,tk,()),ps,os,pi,fi,rd,ou,[],[],[],[],[],[],[],pg,ps,os,acc,()))) (λi hi acc ha=> ?_) (λacc _=> ?_) (λi hi acc ha=> ?_) (by omega) [] rfl
   . rw [fF,ab0] at h2
     have h4:=foldl_loop (f:=qk) (λ(acc:List ag) i=>acc.length=i) (λacc y=>acc++[y]) fi
      (λacc i=>(((i:Int),()),((nx,tk,()),(0,0,()),(nx,tk,()),ps,os,pi,fi,rd,ou,[],[],[],[],[],[],[],pg,ps,os,pi,acc,())))
      (λacc=>((),((nx,tk,()),(0,0,()),(nx,tk,()),ps,os,pi,fi,rd,ou,[],[],[],[],[],[],[],pg,ps,os,pi,acc,()))) (λi hi acc ha=> ?_) (λacc _=> ?_) (λi hi acc ha=> ?_) (by omega) [] rfl
     . rw [fF,ab0] at h4
       show Out.eval (Dj _)=_;dsimp only [Dj];refine zG ?_ Bk;refine zG ?_ h0;dsimp only;refine zT ?_ (aaE (by simp only [abA];omega));refine zG ?_ h2;refine zG ?_ h4;dsimp only;refine zT ?_ (aaE (by simp only [abA];omega));refine zT ?_ (aaE (by simp only [abA];omega));rfl
     . have hn:nth fi i=some fi[i]:=aa2 hi
       have hw:IntKind.i64.wrap ((i:Int)+1)=((i+1:Nat):Int):=aw (by omega);have hd:=A7 _ (acb hi);show Out.eval (qk _)=_;dsimp only [qk];simp only [abo,hw];refine zT ?_;refine zT ?_;refine zG ?_;refine zT ?_;refine zG ?_;refine zT ?_ (aaE (by simp only [abA];omega));refine zT ?_ (aaE (by simp only [aby,abA];omega));rfl
     . show Out.eval (qk _)=_
       dsimp only [qk];refine zF ?_;rfl
     . rw [abz,ha];rfl
   . have hn:nth pi i=some pi[i]:=aa2 hi
     have hw:IntKind.i64.wrap ((i:Int)+1)=((i+1:Nat):Int):=aw (by omega);have hd:=hpd _ (acb hi);show Out.eval (qj _)=_;dsimp only [qj];simp only [abo,hw];refine zT ?_;refine zT ?_;refine zG ?_;refine zT ?_;refine zG ?_;refine zT ?_ (aaE (by simp only [abA];omega));refine zT ?_ (aaE (by simp only [aby,abA];omega));rfl
   . show Out.eval (qj _)=_
     dsimp only [qj];refine zF ?_;rfl
   . rw [abz,ha];rfl
 . have hn:nth ps i=some ps[i]:=aa2 hi
   have hw:IntKind.i64.wrap ((i:Int)+1)=((i+1:Nat):Int):=aw (by omega);have hc:=hpc _ (acb hi);show Out.eval (qi _)=_;dsimp only [qi];simp only [abo,hw];refine zT ?_;refine zT ?_;refine zG ?_;refine zG ?_ hc;refine zT ?_ (aaE (by simp only [aby,abA];omega));rw [iJ (show ps[i]? =some ps[i] from hn)];rfl
 . show Out.eval (qi _)=_
   dsimp only [qi];refine zF ?_;rfl
 . rw [abz,ha];rfl
abbrev Un (r:UT):Option ((UT×Unit)×(Unit×Unit)):=some ((r,()),((),()))
theorem WZ (h:aL 0 tl u):Ut (u,())=Un (yl u):=by
 obtain ⟨l',z,e,_⟩:=ada h;show Out.eval (IP _)=_;dsimp only [IP];exact zG rfl e
theorem Rw (h:ib u):Uu (u,())=Un (yn u):=by
 obtain ⟨l',z,e,_⟩:=WH h;show Out.eval (IQ _)=_;dsimp only [IQ];exact zG rfl e
abbrev adw:UT:=(0,0,[],[],[],[],[],[],[],())
open Classical in
open Classical in
def Uw (pg:List (List az)):UT:=(2,0,pg,[(1,0,1,0,(0,[0,0,0,0],()),[0,0,0,0],[0,0, -1, -1],0,0,())],[(0,1,0,0,2,())],[],[],[1],[],())
theorem W0 {pg:List (List az)} (h:cO pg=true):ib (Uw pg):=by
 refine Bm.1 ?_;have h':=h;unfold cO at h;simp only [aa4,abS] at h;show b5 2 0 pg [(1,0,1,0,(0,[0,0,0,0],()),[0,0,0,0],[0,0, -1, -1],0,0,())] [(0,1,0,0,2,())] [] [] [1] []=true;unfold b5;rw [h'];have h1:=h.1.1;have h4:=h.1.2;generalize List.length pg=n at h1 h4 ⊢;have hn:n=1∨n=2∨n=3∨n=4:=by omega
 rcases hn with rfl|rfl|rfl|rfl<;>first|decide|rfl
theorem W1 {pg:List (List az)}:Uv ((pg,()),())=some (if cO pg=true then ((Uw pg,(true,()),()),((),())) else ((adw,(false,()),()),((),()))):=by
 have hL:bA=68719476736:=rfl;have hB:aM=9223372036854775807:=rfl;show Out.eval (IS _)=_;dsimp only [IS];by_cases h:cO pg=true
 case neg=>
  rw [aa3 h];exact zT rfl (by rw [Bool.eq_false_iff.2 h];rfl)
 rw [aa5 h];refine zF ?_ (by rw [h];rfl);unfold cO at h;simp only [aa4,abS] at h;have h1:=foldl_loop (f:=vg) (λ(acc:List (List az)) i=>acc.length=i) (λacc y=>acc++[y]) pg
  (λacc i=>((pg,(i:Int),()),((0,0,()),(2,0,()),[],[],[],[],[],[],[],acc,[],[(0,1,0,0,2,())],[],[],[1],[],())))
  (λacc=>((),((0,0,()),(2,0,()),[],[],[],[],[],[],[],acc,[],[(0,1,0,0,2,())],[],[],[1],[],()))) (λi hi acc ha=> ?_) (λacc _=> ?_) (λi hi acc ha=> ?_) (by omega) [] rfl
 . rw [fF,ab0] at h1
   have hz:oP ((4,()),())=some ((([0,0,0,0],()),()),((),())):=rfl;refine zG ?_ h1;refine zG ?_ hz;exact zG rfl hz
 . have hn:nth pg i=some pg[i]:=aa2 hi
   have hw:IntKind.i64.wrap ((i:Int)+1)=((i+1:Nat):Int):=aw (by omega);have hp:=vk (abD.1 h.2 _ (acb hi));show Out.eval (vg _)=_;dsimp only [vg];simp only [abo,hw];refine zT ?_;refine zT ?_;refine zG ?_;refine zT ?_ (aaE (by simp only [abA];omega));refine zT ?_ (aaE (by simp only [aby,abA];omega));rfl
 . show Out.eval (vg _)=_
   dsimp only [vg];refine zF ?_;rfl
 . rw [abz,ha];rfl
end
end
section
open Go Go.ChangeShapes Go.WideShapes Go.ChangeAt Go.RowKit
end
section
open Go Go.ChangeShapes Go.WideShapes Go.ChangeAt Go.RowKit
theorem iw {ρ:Type} (o:Option ρ):(Out.get o λy=> .ret y).eval=o:=by cases o<;>rfl
def ie {ρ:Type} (o:Option ρ) (Q:ρ→Prop):Prop:=∃ y,o=some y∧Q y
theorem bn {ρ:Type} {r:ρ} {Q:ρ→Prop} (h:Q r):ie (Out.ret r).eval Q:=⟨r,rfl,h⟩
theorem bR {ρ:Type} {c:Bool} {a b:Out ρ} {Q:ρ→Prop} (ha:c=true→ie a.eval Q) (hb:c=false→ie b.eval Q):ie (Out.ite c a b).eval Q:=by
 cases c
 . exact hb rfl
 . exact ha rfl
theorem fO {ρ:Type} {c:Bool} {a b:Out ρ} {Q:ρ→Prop} (hc:c=true) (ha:ie a.eval Q):ie (Out.ite c a b).eval Q:=by subst hc;exact ha
theorem rj {ρ:Type} {c:Bool} {a b:Out ρ} {Q:ρ→Prop} (hc:c=false) (hb:ie b.eval Q):ie (Out.ite c a b).eval Q:=by subst hc;exact hb
theorem bd {ρ α:Type} {o:Option α} {k:α→Out ρ} {P:α→Prop} {Q:ρ→Prop} (h:ie o P) (hk:∀ y,P y→ie (k y).eval Q):ie (Out.get o k).eval Q:=by
 obtain ⟨y,rfl,p⟩:=h;exact hk y p
def M9 {α β γ:Type} (I:α→Prop) (O:β→Prop) (R:γ→Prop):Round α β γ→Prop
 | .again x=>I x
 | .out y=>O y
 | .ret z=>R z
theorem mQ {α β:Type} {f:α→Out (Round α β Empty)} (I:α→Prop) (m:α→Nat) (O:β→Prop) (h:∀ x,I x→ie (f x).eval (M9 (λx'=>I x'∧m x'<m x) O λ_=>False)):
  ∀ (n:Nat) (x:α),I x→m x<n→ie (bx f n x) O
 |0,x,_,hn=>absurd hn (Nat.not_lt_zero _)
 |n+1,x,hx,hn=>by
  obtain ⟨r,e,hr⟩:=h x hx;cases r with
  |again x'=>rw [wv e];exact mQ I m O h n x' hr.1 (by have:=hr.2;omega)
  |out y=>exact ⟨y,rE e (by omega),hr⟩
  |ret z=>exact z.elim
theorem yw (z:Int) {b:Nat} (hb:b≤aM):0≤IntKind.i64.wrap (((BitVec.ofInt (IntKind.bits .i64) z &&& BitVec.ofInt (IntKind.bits .i64) ((b:Nat):Int)).toNat:Nat):Int)∧IntKind.i64.wrap (((BitVec.ofInt (IntKind.bits .i64) z &&& BitVec.ofInt (IntKind.bits .i64) ((b:Nat):Int)).toNat:Nat):Int)≤b:=by
 have h:(BitVec.ofInt 64 z &&& BitVec.ofInt 64 ((b:Nat):Int)).toNat≤b:=by
  rw [BitVec.toNat_and,KE,BitVec.toNat_ofNat,Nat.mod_eq_of_lt (adP hb (by decide))];exact Nat.and_le_right
 have e:IntKind.i64.wrap (((BitVec.ofInt (IntKind.bits .i64) z &&& BitVec.ofInt (IntKind.bits .i64) ((b:Nat):Int)).toNat:Nat):Int)=_:=Na (abG h hb);rw [e];have h:(BitVec.ofInt (IntKind.bits .i64) z &&& BitVec.ofInt (IntKind.bits .i64) ((b:Nat):Int)).toNat≤b:=h;omega
abbrev Nb:=(List (Int)×Int×Int×Unit)×(Unit)
def Nc:Nb→Out (Round Nb ((List (Int)×Int×Unit)×(Unit)) Empty)
|((p0,p1,p2,_),_)=> .ite ((decide (p2<((List.length p0:Nat):Int)))==true) (.ite (decide (p2<(4000:Int))) (.ite (decide (0≤p2)) (.get (nth p0 (Int.toNat p2)) λy1=> .ret (.again ((p0,(IntKind.i64.wrap (((BitVec.ofInt (IntKind.bits IntKind.i64) (IntKind.i64.wrap ((IntKind.i64.wrap ((IntKind.i64.wrap (p1*(131:Int)))+(IntKind.i64.wrap y1)))+(7:Int))) &&& BitVec.ofInt (IntKind.bits IntKind.i64) (1073741823:Int)).toNat:Int))),(IntKind.i64.wrap (p2+(1:Int))),()),()))) .fail) (.ret (.out ((p0,p1,()),())))) (.ret (.out ((p0,p1,()),())))
def yx (a0:List Int):Out ((XE×Unit)×(Unit×Unit)):= .get (bx Nc bc ((a0,(IntKind.i64.wrap ((10101:Int)+((List.length a0:Nat):Int))),(0:Int),()),())) λy1=> .ret (((y1.1.1,(0:Int),y1.1.2.1,()),()),((),()))
def adx:Nat→Option aq:=λn=>b6 [(0,⟨⟨[.ro (.int .u8) (some 0), .dead, .dead, .i .i64, .i .i64]++dd 27,[]⟩,⟨[.ro (.int .u8) (some 0), .dead, .dead, .i .i64]++dd 28,[]⟩,none,false⟩)] n
def IT:=λa0=>(yx a0).eval
def k12:bZ:={ f:=12,lend:=false,aJ:=[⟨false,false,[.ro (.int .u8)]⟩],lay:=[none],rs:=[⟨true,false,[.ro (.int .u8), .i .i64, .i .i64]⟩],F:=λx=> .get (IT x.1.1) λy=> .ret y }
theorem W2 (x:au k12.aJ):bo [] adx Tryz.f12 k12 [.tmp 2] x=yx x.1.1:=by kernel_rfl
theorem W3:k12.Ok Tryz.prog:=aO [] trivial W2 λ_ _ _ hy=>(iw _).symm.trans hy
theorem Hp {b:List Int} (hb:b.length≤aM):ie (IT b) λy=>y.1.1.1=b∧y.1.1.2.1=0:=by
 unfold IT yx;refine bd (P:=λy=>y.1.1=b) (mQ (λx=>x.1.1=b∧0≤x.1.2.2.1∧x.1.2.2.1≤(b.length:Int)) (λx=>(b.length - x.1.2.2.1.toNat)) _ (λx hx=> ?_) _ _ ⟨rfl,by simp,by simp⟩ (by simp;exact jx hb)) λy hy=>bn ⟨hy,rfl⟩;obtain ⟨⟨l,h,i,_⟩,_⟩:=x;obtain ⟨e1,h1,h2⟩:=hx;simp only at e1 h1 h2;subst e1;unfold Nc;refine bR (λh3=> ?_) (λ_=>bn rfl);have h3:i<(l.length:Int):=abJ (by simpa using h3);refine bR (λ_=> ?_) (λ_=>bn rfl);refine fO (aaE h1) (bd (P:=λ_=>True) ⟨_,aa2 (show i.toNat<l.length by omega),trivial⟩ λy _=>bn ?_);have w:IntKind.i64.wrap (i+1)=i+1:=b7 (by omega) (by unfold aM at hb;omega);exact ⟨⟨rfl,by simp only [w];omega,by simp only [w];omega⟩,by simp only [w];omega⟩
def yz (a0:List Int) (a1:Int) (a2:Int):Out (((Int×Unit)×Unit)×((Int×Int×Unit)×Unit)):= .ite (decide ((33:Int)<0)) .fail (.ite (decide ((45:Int)<0)) .fail (.ite (decide (a1<((List.length a0:Nat):Int))) (.ite (decide (0≤a1)) (.get (nth a0 (Int.toNat a1)) λy1=> .ret ((((IntKind.i64.wrap (((BitVec.ofInt (IntKind.bits IntKind.i64) (IntKind.i64.wrap ((IntKind.i64.wrap (((BitVec.ofInt (IntKind.bits IntKind.i64) (IntKind.i64.wrap (((BitVec.ofInt (IntKind.bits IntKind.i64) (Int.fdiv (IntKind.i64.wrap ((IntKind.i64.wrap (a2*(6364136223846793005:Int)))+(1442695040888963407:Int))) (2 ^ (min (Int.toNat (33:Int)) (IntKind.bits IntKind.i64)))) ^^^ BitVec.ofInt (IntKind.bits IntKind.i64) (Int.fdiv (IntKind.i64.wrap ((IntKind.i64.wrap (a2*(6364136223846793005:Int)))+(1442695040888963407:Int))) (2 ^ (min (Int.toNat (45:Int)) (IntKind.bits IntKind.i64))))).toNat:Int))) &&& BitVec.ofInt (IntKind.bits IntKind.i64) (255:Int)).toNat:Int)))+(IntKind.i64.wrap y1))) &&& BitVec.ofInt (IntKind.bits IntKind.i64) (255:Int)).toNat:Int))),()),()),(((IntKind.i64.wrap (a1+(1:Int))),(IntKind.i64.wrap ((IntKind.i64.wrap (a2*(6364136223846793005:Int)))+(1442695040888963407:Int))),()),()))) .fail) (.ret ((((IntKind.i64.wrap (((BitVec.ofInt (IntKind.bits IntKind.i64) (IntKind.i64.wrap (((BitVec.ofInt (IntKind.bits IntKind.i64) (Int.fdiv (IntKind.i64.wrap ((IntKind.i64.wrap (a2*(6364136223846793005:Int)))+(1442695040888963407:Int))) (2 ^ (min (Int.toNat (33:Int)) (IntKind.bits IntKind.i64)))) ^^^ BitVec.ofInt (IntKind.bits IntKind.i64) (Int.fdiv (IntKind.i64.wrap ((IntKind.i64.wrap (a2*(6364136223846793005:Int)))+(1442695040888963407:Int))) (2 ^ (min (Int.toNat (45:Int)) (IntKind.bits IntKind.i64))))).toNat:Int))) &&& BitVec.ofInt (IntKind.bits IntKind.i64) (255:Int)).toNat:Int))),()),()),((a1,(IntKind.i64.wrap ((IntKind.i64.wrap (a2*(6364136223846793005:Int)))+(1442695040888963407:Int))),()),())))))
def wz:=λa0 a1 a2=>(yz a0 a1 a2).eval
def k55:bZ:={ f:=55,lend:=true,aJ:=[⟨true,false,[.ro (.int .u8), .i .i64, .i .i64]⟩],lay:=[none],rs:=[⟨false,false,[.i .i64]⟩],F:=λx=> .get (wz x.1.1 x.1.2.1 x.1.2.2.1) λy=> .ret y }
theorem W4 (x:au k55.aJ):bo [] (λ_=>none) Tryz.f55 k55 [.tmp 2] x=yz x.1.1 x.1.2.1 x.1.2.2.1:=by kernel_rfl
theorem W5:k55.Ok Tryz.prog:=aO [] trivial W4 λ_ _ _ hy=>(iw _).symm.trans hy
theorem oY {b:List Int} {i h:Int} (hb:b.length≤aM) (hi:0≤i):ie (wz b i h) λy=>(0≤y.1.1.1∧y.1.1.1≤255)∧0≤y.2.1.1:=by
 unfold wz yz;refine rj rfl (rj rfl (bR (λh1=> ?_) λ_=>bn ?_))
 . have h1:i<(b.length:Int):=abJ h1
   refine fO (aaE hi) (bd (P:=λ_=>True) ⟨_,aa2 (show i.toNat<b.length by omega),trivial⟩ λy _=>bn ?_);refine ⟨yw _ (b:=255) (by decide), ?_⟩
   . show 0≤IntKind.i64.wrap (i+1)
     rw [b7 (by omega) (by unfold aM at hb;omega)];omega
 . exact ⟨yw _ (b:=255) (by decide),hi⟩
def yA (a0:List Int) (a1:Int) (a2:Int) (a3:Int):Out (((Int×Unit)×Unit)×((Int×Int×Unit)×Unit×Unit)):= .ite (decide (a3≤(0:Int))) (.ret ((((0:Int),()),()),((a1,a2,()),(),()))) (.ite (decide (a3≤(256:Int))) (.get (wz a0 a1 a2) λy1=> .ite (a3==0) .fail (.ret ((((Int.tmod y1.1.1.1 a3),()),()),((y1.2.1.1,y1.2.1.2.1,()),(),())))) (.get (wz a0 a1 a2) λy2=> .get (wz a0 y2.2.1.1 y2.2.1.2.1) λy3=> .get (wz a0 y3.2.1.1 y3.2.1.2.1) λy4=> .get (wz a0 y4.2.1.1 y4.2.1.2.1) λy5=> .ite (a3==0) .fail (.ret ((((Int.tmod (IntKind.i64.wrap ((IntKind.i64.wrap ((IntKind.i64.wrap ((IntKind.i64.wrap (y2.1.1.1*(16777216:Int)))+(IntKind.i64.wrap (y3.1.1.1*(65536:Int)))))+(IntKind.i64.wrap (y4.1.1.1*(256:Int)))))+y5.1.1.1)) a3),()),()),((y5.2.1.1,y5.2.1.2.1,()),(),())))))
def eY:=λa0 a1 a2 a3=>(yA a0 a1 a2 a3).eval
def LP:bZ:={ f:=27,lend:=true,aJ:=[⟨true,false,[.ro (.int .u8), .i .i64, .i .i64]⟩,⟨false,false,[.i .i64]⟩],lay:=[none,none],rs:=[⟨false,false,[.i .i64]⟩],F:=λx=> .get (eY x.1.1 x.1.2.1 x.1.2.2.1 x.2.1.1) λy=> .ret y }
theorem W6 (x:au LP.aJ):bo [k55] (λ_=>none) Tryz.f27 LP [.tmp 4] x=yA x.1.1 x.1.2.1 x.1.2.2.1 x.2.1.1:=by kernel_rfl
theorem rR:LP.Ok Tryz.prog:=aO [k55] ⟨W5,trivial⟩ W6 λ_ _ _ hy=>(iw _).symm.trans hy
theorem wA {x n:Int} (hx:0≤x) (hn:0<n):0≤Int.tmod x n∧Int.tmod x n<n:=⟨Int.tmod_nonneg _ hx,Int.tmod_lt_of_pos _ hn⟩
theorem bU {b:List Int} {i h n:Int} (hb:b.length≤aM) (hi:0≤i):ie (eY b i h n) λy=>(0≤y.1.1.1∧(0<n→y.1.1.1<n)∧(n≤0→y.1.1.1=0))∧0≤y.2.1.1:=by
 unfold eY yA;refine bR (λh1=>bn ?_) λh1=> ?_
 . have:=abJ h1
   exact ⟨⟨acZ _,λh=>by omega,λ_=>rfl⟩,hi⟩
 have h1:=afG h1;have hz:(n==0)=false:=by simp;omega
 refine bR (λh2=>bd (oY hb hi) λy hy=>rj hz (bn ?_)) λh2=> ?_
 . have:=wA hy.1.1 (show 0<n by omega)
   exact ⟨⟨this.1,λ_=>this.2,λh=>by omega⟩,hy.2⟩
 . refine bd (oY hb hi) λy hy=>bd (oY hb hy.2) λz Br=>bd (oY hb Br.2) λu hu=>bd (oY hb hu.2) λv hv=>rj hz (bn ?_)
   have e1:=hy.1;have e2:=Br.1;have e3:=hu.1;have e4:=hv.1;have w1:IntKind.i64.wrap (y.1.1.1*16777216)=y.1.1.1*16777216:=b7 (by omega) (by omega);have w2:IntKind.i64.wrap (z.1.1.1*65536)=z.1.1.1*65536:=b7 (by omega) (by omega);have w3:IntKind.i64.wrap (u.1.1.1*256)=u.1.1.1*256:=b7 (by omega) (by omega);have w4:IntKind.i64.wrap (y.1.1.1*16777216+z.1.1.1*65536)=y.1.1.1*16777216+z.1.1.1*65536:=b7 (by omega) (by omega);have w5:IntKind.i64.wrap (y.1.1.1*16777216+z.1.1.1*65536+u.1.1.1*256)=y.1.1.1*16777216+z.1.1.1*65536+u.1.1.1*256:=b7 (by omega) (by omega);have w6:IntKind.i64.wrap (y.1.1.1*16777216+z.1.1.1*65536+u.1.1.1*256+v.1.1.1)=y.1.1.1*16777216+z.1.1.1*65536+u.1.1.1*256+v.1.1.1:=b7 (by omega) (by omega);have:=wA (show 0≤y.1.1.1*16777216+z.1.1.1*65536+u.1.1.1*256+v.1.1.1 by omega) (show 0<n by omega);simp only [w1,w2,w3,w4,w5,w6];exact ⟨⟨this.1,λ_=>this.2,λh=>by omega⟩,hv.2⟩
def yB (a0:List Int) (a1:Int) (a2:Int) (a3:Int):Out (((Bool×Unit)×Unit)×((Int×Int×Unit)×Unit×Unit)):= .get (eY a0 a1 a2 a3) λy1=> .ret (((((y1.1.1.1==(0:Int))),()),()),((y1.2.1.1,y1.2.1.2.1,()),(),()))
def Fa:=λa0 a1 a2 a3=>(yB a0 a1 a2 a3).eval
def k26:bZ:={ f:=26,lend:=true,aJ:=[⟨true,false,[.ro (.int .u8), .i .i64, .i .i64]⟩,⟨false,false,[.i .i64]⟩],lay:=[none,none],rs:=[⟨false,false,[.b]⟩],F:=λx=> .get (Fa x.1.1 x.1.2.1 x.1.2.2.1 x.2.1.1) λy=> .ret y }
theorem W7 (x:au k26.aJ):bo [LP] (λ_=>none) Tryz.f26 k26 [.tmp 4] x=yB x.1.1 x.1.2.1 x.1.2.2.1 x.2.1.1:=by kernel_rfl
theorem Nd:k26.Ok Tryz.prog:=aO [LP] ⟨rR,trivial⟩ W7 λ_ _ _ hy=>(iw _).symm.trans hy
theorem Fb {b:List Int} {i h n:Int} (hb:b.length≤aM) (hi:0≤i):ie (Fa b i h n) λy=>0≤y.2.1.1:=by
 unfold Fa yB;exact bd (bU hb hi) λy hy=>bn hy.2
def yC (a0:List Int) (a1:Int) (a2:Int) (a3:List Int):Out (((Int×Unit)×Unit)×((Int×Int×Unit)×Unit×Unit)):= .get (eY a0 a1 a2 ((List.length a3:Nat):Int)) λy1=> .ite (decide (0≤y1.1.1.1)) (.get (nth a3 (Int.toNat y1.1.1.1)) λy2=> .ret (((y2,()),()),((y1.2.1.1,y1.2.1.2.1,()),(),()))) .fail
def rk:=λa0 a1 a2 a3=>(yC a0 a1 a2 a3).eval
def k28:bZ:={ f:=28,lend:=true,aJ:=[⟨true,false,[.ro (.int .u8), .i .i64, .i .i64]⟩,⟨false,false,[.ro (.int .i64)]⟩],lay:=[none,none],rs:=[⟨false,false,[.i .i64]⟩],F:=λx=> .get (rk x.1.1 x.1.2.1 x.1.2.2.1 x.2.1.1) λy=> .ret y }
theorem W8 (x:au k28.aJ):bo [LP] (λ_=>none) Tryz.f28 k28 [.tmp 4] x=yC x.1.1 x.1.2.1 x.1.2.2.1 x.2.1.1:=by kernel_rfl
theorem Nf:k28.Ok Tryz.prog:=aO [LP] ⟨rR,trivial⟩ W8 λ_ _ _ hy=>(iw _).symm.trans hy
theorem lr {b:List Int} {i h:Int} {l:List Int} (hb:b.length≤aM) (hi:0≤i) (hl:0<l.length):ie (rk b i h l) λy=>y.1.1.1∈l∧0≤y.2.1.1:=by
 unfold rk yC;refine bd (bU hb hi) λy hy=> ?_;have h1:=hy.1.1;have h2:=hy.1.2.1 (by omega);refine fO (aaE h1) (bd (P:=λx=>x∈l) ⟨_,aa2 (show y.1.1.1.toNat<l.length by omega),acb _⟩ λx hx=>bn ⟨hx,hy.2⟩)
def yD (a0:List Int) (a1:Int):Out (((Int×Unit)×Unit)×XI):= .ite ((20:Int)==0) .fail (.ite (decide ((IntKind.i64.wrap ((2:Int)+(IntKind.i64.wrap (Int.tdiv ((List.length a0:Nat):Int) (20:Int)))))>a1)) (.ret (((a1,()),()),((),(),()))) (.ret ((((IntKind.i64.wrap ((2:Int)+(IntKind.i64.wrap (Int.tdiv ((List.length a0:Nat):Int) (20:Int))))),()),()),((),(),()))))
def IU:=λa0 a1=>(yD a0 a1).eval
def k14:bZ:={ f:=14,lend:=true,aJ:=[⟨false,false,[.ro (.int .u8)]⟩,⟨false,false,[.i .i64]⟩],lay:=[none,none],rs:=[⟨false,false,[.i .i64]⟩],F:=λx=> .get (IU x.1.1 x.2.1.1) λy=> .ret y }
theorem W9 (x:au k14.aJ):bo [] (λ_=>none) Tryz.f14 k14 [.tmp 4] x=yD x.1.1 x.2.1.1:=by kernel_rfl
theorem Xa:k14.Ok Tryz.prog:=aO [] trivial W9 λ_ _ _ hy=>(iw _).symm.trans hy
theorem Ng {b:List Int} {n:Int} (_:b.length≤aM):ie (IU b n) λy=>y.1.1.1≤n:=by
 unfold IU yD;refine rj rfl (bR (λh=>bn (acZ _)) λh=>bn ?_);have:=afG h;show IntKind.i64.wrap _≤n;omega
def IV (a0:List Int):Out (((Bool×Unit)×Unit)×(Unit×Unit)):= .ret ((((decide (((List.length a0:Nat):Int)>(1048576:Int))),()),()),((),()))
def Xb (c:List Int):Bool:=decide (((c.length:Nat):Int)>1048576)
def k4:bZ:={ f:=4,lend:=true,aJ:=[⟨false,false,[.ro (.int .u8)]⟩],lay:=[none],rs:=[⟨false,false,[.b]⟩],F:=λx=> .ret ((((Xb x.1.1),()),()),((),())) }
theorem adB (x:au k4.aJ):bo [] (λ_=>none) Tryz.f4 k4 [.tmp 2] x=IV x.1.1:=by kernel_rfl
theorem adC (hr:∀ x:(List Int×Unit)×Unit,aD k4.aJ x→(IV x.1.1).eval=(k4.F x).eval):k4.Ok Tryz.prog:=aO [] trivial adB λx hw _ hy=>(hr x hw).trans hy
theorem adD:k4.Ok Tryz.prog:=adC λ_ _=>rfl
end
section
open Go Go.ChangeShapes Go.WideShapes Go.ChangeAt Go.RowKit
def ahf:List (Nat×Ty):=[(24,(.sl (.fz dk))),(25,(.sl (.st (.cons (.int .i64) (.cons (.int .i64) (.cons (.int .i64) (.cons (.int .i64) (.cons dj (.cons (.fz (.int .i64)) (.cons (.fz (.int .i64)) (.cons (.int .i64) (.cons (.int .i64) .nil)))))))))))),(27,(.sl dj)),(28,(.sl dj)),(30,(.st (.cons (.int .i64) (.cons (.int .i64) (.cons (.sl (.fz dk)) (.cons (.sl (.st (.cons (.int .i64) (.cons (.int .i64) (.cons (.int .i64) (.cons (.int .i64) (.cons dj (.cons (.fz (.int .i64)) (.cons (.fz (.int .i64)) (.cons (.int .i64) (.cons (.int .i64) .nil))))))))))) (.cons (.sl dZ) (.cons (.sl dj) (.cons (.sl dj) (.cons (.sl (.int .i64)) (.cons (.sl (.int .i64)) .nil))))))))))),(31,(.st (.cons (.int .i64) (.cons (.int .i64) (.cons (.sl (.fz dk)) (.cons (.sl (.st (.cons (.int .i64) (.cons (.int .i64) (.cons (.int .i64) (.cons (.int .i64) (.cons dj (.cons (.fz (.int .i64)) (.cons (.fz (.int .i64)) (.cons (.int .i64) (.cons (.int .i64) .nil))))))))))) (.cons (.sl dZ) (.cons (.sl dj) (.cons (.sl dj) (.cons (.sl (.int .i64)) (.cons (.sl (.int .i64)) .nil))))))))))),(36,dj),(37,dj),(38,(.st (.cons (.int .i64) (.cons (.int .i64) (.cons (.int .i64) (.cons (.int .i64) (.cons dj (.cons (.fz (.int .i64)) (.cons (.fz (.int .i64)) (.cons (.int .i64) (.cons (.int .i64) .nil))))))))))),(39,(.st (.cons (.int .i64) (.cons (.int .i64) (.cons (.int .i64) (.cons (.int .i64) (.cons dj (.cons (.fz (.int .i64)) (.cons (.fz (.int .i64)) (.cons (.int .i64) (.cons (.int .i64) .nil))))))))))),(58,dj),(59,dj),(60,dj),(61,dj),(91,(.sl wV)),(92,(.st (.cons (.st (.cons (.int .i64) (.cons (.int .i64) (.cons (.sl (.fz dk)) (.cons (.sl (.st (.cons (.int .i64) (.cons (.int .i64) (.cons (.int .i64) (.cons (.int .i64) (.cons dj (.cons (.fz (.int .i64)) (.cons (.fz (.int .i64)) (.cons (.int .i64) (.cons (.int .i64) .nil))))))))))) (.cons (.sl dZ) (.cons (.sl dj) (.cons (.sl dj) (.cons (.sl (.int .i64)) (.cons (.sl (.int .i64)) .nil)))))))))) (.cons (.sl wV) .nil)))),(93,(.st (.cons (.st (.cons (.int .i64) (.cons (.int .i64) (.cons (.sl (.fz dk)) (.cons (.sl (.st (.cons (.int .i64) (.cons (.int .i64) (.cons (.int .i64) (.cons (.int .i64) (.cons dj (.cons (.fz (.int .i64)) (.cons (.fz (.int .i64)) (.cons (.int .i64) (.cons (.int .i64) .nil))))))))))) (.cons (.sl dZ) (.cons (.sl dj) (.cons (.sl dj) (.cons (.sl (.int .i64)) (.cons (.sl (.int .i64)) .nil)))))))))) (.cons (.sl wV) .nil)))),(112,wV),(113,wV)]++LJ
theorem Rx:Ez Tryz.prog ahf=true:=by kernel_rfl
abbrev Xc:=(t6×Unit)×(b17×Unit)
def Dk:t17×Unit→Out Xc
|(a0,_)=> .get (eY a0.1 a0.2.1 a0.2.2.1 (4:Int)) λy1=> .get (eY a0.1 y1.2.1.1 y1.2.1.2.1 (4:Int)) λy2=> .get (eY a0.1 y2.2.1.1 y2.2.1.2.1 (12:Int)) λy3=> .ite ((y3.1.1.1==(0:Int))) (.get (rk a0.1 y3.2.1.1 y3.2.1.2.1 ([(0:Int),(1:Int),(2:Int),(3:Int),(4:Int),(7:Int),(-1:Int),(9:Int)]:List Int)) λy5=> .ret ((((1:Int),y1.1.1.1,y5.1.1.1,(0:Int),()),()),((y5.2.1.1,y5.2.1.2.1,()),()))) (.ite ((y3.1.1.1==(1:Int))) (.get (rk a0.1 y3.2.1.1 y3.2.1.2.1 ([(0:Int),(1:Int),(2:Int),(3:Int),(4:Int),(7:Int),(-1:Int),(9:Int)]:List Int)) λy6=> .ret ((((1:Int),y1.1.1.1,y6.1.1.1,(0:Int),()),()),((y6.2.1.1,y6.2.1.2.1,()),()))) (.ite ((y3.1.1.1==(2:Int))) (.get (rk a0.1 y3.2.1.1 y3.2.1.2.1 ([(0:Int),(1:Int),(2:Int),(3:Int),(4:Int),(7:Int),(-1:Int),(9:Int)]:List Int)) λy7=> .ret ((((1:Int),y1.1.1.1,y7.1.1.1,(0:Int),()),()),((y7.2.1.1,y7.2.1.2.1,()),()))) (.ite ((y3.1.1.1==(3:Int))) (.get (eY a0.1 y3.2.1.1 y3.2.1.2.1 (4:Int)) λy8=> .ret ((((2:Int),y1.1.1.1,y2.1.1.1,y8.1.1.1,()),()),((y8.2.1.1,y8.2.1.2.1,()),()))) (.ite ((y3.1.1.1==(4:Int))) (.get (eY a0.1 y3.2.1.1 y3.2.1.2.1 (4:Int)) λy9=> .ret ((((3:Int),y1.1.1.1,y2.1.1.1,y9.1.1.1,()),()),((y9.2.1.1,y9.2.1.2.1,()),()))) (.ite ((y3.1.1.1==(5:Int))) (.ret ((((4:Int),y1.1.1.1,y2.1.1.1,(0:Int),()),()),((y3.2.1.1,y3.2.1.2.1,()),()))) (.ite ((y3.1.1.1==(6:Int))) (.ret ((((5:Int),y1.1.1.1,y2.1.1.1,(0:Int),()),()),((y3.2.1.1,y3.2.1.2.1,()),()))) (.ite ((y3.1.1.1==(7:Int))) (.get (eY a0.1 y3.2.1.1 y3.2.1.2.1 (12:Int)) λRy=> .ret ((((6:Int),Ry.1.1.1,(0:Int),(0:Int),()),()),((Ry.2.1.1,Ry.2.1.2.1,()),()))) (.ite ((y3.1.1.1==(8:Int))) (.get (eY a0.1 y3.2.1.1 y3.2.1.2.1 (12:Int)) λEU=> .ret ((((7:Int),y1.1.1.1,EU.1.1.1,(0:Int),()),()),((EU.2.1.1,EU.2.1.2.1,()),()))) (.get (eY a0.1 y3.2.1.1 y3.2.1.2.1 (17:Int)) λQB=> .ret ((((8:Int),(IntKind.i64.wrap ((1:Int)+QB.1.1.1)),(0:Int),(0:Int),()),()),((QB.2.1.1,QB.2.1.2.1,()),())))))))))))
def Nh (x:t17×Unit):=(Dk x).eval
def adF:bZ:=dD 104 true [i17] [none] [i6] Dk
theorem Rz:adF.Ok Tryz.prog:=cb ja [] [] [LP,k28] ⟨rR,Nf,trivial⟩ (λ_=>none) Tryz.f104 [.cell 2 82] λx=>by kernel_rfl
abbrev adG:=(t18×Unit)×(b17×Unit×Unit)
abbrev Ni:=(Int×Unit)×(XE×List az×Unit)
def Nj:Ni→Out (Round Ni ((Unit)×(List az×XE×Unit)) Empty)
|((p0,_),(p1,p2,p3,_),p4,_)=> .ite (decide (p0>(0:Int))) (.get (Nh ((p1,p2,p3,()),())) λ((cP,_),(Ux,_))=> .ite (decide (List.length p4+List.length ([cP]:List az)≤bA)) (.ret (.again (((IntKind.i64.wrap (p0 - (1:Int))),()),((p1,Ux.1,Ux.2.1,()),(p4++([cP]:List az)),())))) .fail) (.ret (.out ((),(p4,(p1,p2,p3,()),()))))
def IW:t17×t1×Unit→Out adG
|(a0,a1,_)=> .get (eY a0.1 a0.2.1 a0.2.2.1 (IntKind.i64.wrap (a1.1+(1:Int)))) λy1=> .get (bx Nj bc ((y1.1.1.1,()),((a0.1,y1.2.1.1,y1.2.1.2.1,()),([]:List az),()))) λy2=> .ret (((y2.2.1,()),()),((y2.2.2.1.2.1,y2.2.2.1.2.2.1,()),(),()))
def Uy (x:t17×t1×Unit):=(IW x).eval
def adH:Nat→Option aq:=λn=>b6 [(0,⟨⟨[.vptr 0 0]++dd 4++[.bg 64000000, .i .i64]++dd 15,[(0, .var [.ro (.int .u8) (some 1), .i .i64, .i .i64]),(64000000, .arr dk)]⟩,⟨[.vptr 0 0]++dd 4++[.bg 64000000]++dd 16,[(64000000, .arr dk),(0, .var [.ro (.int .u8) (some 1), .i .i64, .i .i64])]⟩,none,false⟩)] n
def k82:bZ:=dD 82 true [i17,i1] [none,none] [i18] IW
theorem Xd:k82.Ok Tryz.prog:=cb ja [] [] [LP,adF] ⟨rR,Rz,trivial⟩ adH Tryz.f82 [.tmp 4] λx=>by kernel_rfl
abbrev adI:=(t2×Unit)×(b17×Unit)
abbrev Hq:=(List az×List az×List az×Int×Unit)×(XE×List (List az)×Unit)
def Nk:Hq→Out (Round Hq ((Unit)×(List (List az)×XE×Unit)) Empty)
|((p0,p1,p2,p3,_),(p4,p5,p6,_),p7,_)=> .ite (decide (p3>(0:Int))) (.get (eY p4 p5 p6 (5:Int)) λy1=> .ite ((y1.1.1.1==(0:Int))) (.ite (decide (List.length p7+List.length ([p0]:List (List az))≤bA)) (.ret (.again ((p0,p1,p2,(IntKind.i64.wrap (p3 - (1:Int))),()),((p4,y1.2.1.1,y1.2.1.2.1,()),(p7++([p0]:List (List az))),())))) .fail) (.ite ((y1.1.1.1==(1:Int))) (.ite (decide (List.length p7+List.length ([p1]:List (List az))≤bA)) (.ret (.again ((p0,p1,p2,(IntKind.i64.wrap (p3 - (1:Int))),()),((p4,y1.2.1.1,y1.2.1.2.1,()),(p7++([p1]:List (List az))),())))) .fail) (.ite ((y1.1.1.1==(2:Int))) (.ite (decide (List.length p7+List.length ([p2]:List (List az))≤bA)) (.ret (.again ((p0,p1,p2,(IntKind.i64.wrap (p3 - (1:Int))),()),((p4,y1.2.1.1,y1.2.1.2.1,()),(p7++([p2]:List (List az))),())))) .fail) (.get (Uy ((p4,y1.2.1.1,y1.2.1.2.1,()),((16:Int),()),())) λ((cm,_),(y2A,_))=> .ite (decide (List.length p7+List.length ([cm.1]:List (List az))≤bA)) (.ret (.again ((p0,p1,p2,(IntKind.i64.wrap (p3 - (1:Int))),()),((p4,y2A.1,y2A.2.1,()),(p7++([cm.1]:List (List az))),())))) .fail)))) (.ret (.out ((),(p7,(p4,p5,p6,()),()))))
def IX:t17×Unit→Out adI
|(a0,_)=> .get (eY a0.1 a0.2.1 a0.2.2.1 (3:Int)) λy1=> .get (eY a0.1 y1.2.1.1 y1.2.1.2.1 (3:Int)) λy2=> .get (bx Nk bc ((([((8:Int),(2:Int),(0:Int),(0:Int),()),((7:Int),(0:Int),(5:Int),(0:Int),()),((8:Int),(3:Int),(0:Int),(0:Int),()),((8:Int),(17:Int),(0:Int),(0:Int),()),((6:Int),(2:Int),(0:Int),(0:Int),()),((1:Int),(0:Int),(1:Int),(0:Int),()),((1:Int),(1:Int),(7:Int),(0:Int),()),((8:Int),(9:Int),(0:Int),(0:Int),()),((1:Int),(0:Int),(3:Int),(0:Int),()),((8:Int),(1:Int),(0:Int),(0:Int),())]:List az),([((8:Int),(10:Int),(0:Int),(0:Int),()),((1:Int),(2:Int),(0:Int),(0:Int),()),((2:Int),(3:Int),(0:Int),(2:Int),()),((8:Int),(2:Int),(0:Int),(0:Int),()),((7:Int),(0:Int),(9:Int),(0:Int),()),((1:Int),(0:Int),(3:Int),(0:Int),()),((1:Int),(1:Int),(8:Int),(0:Int),()),((8:Int),(9:Int),(0:Int),(0:Int),()),((6:Int),(5:Int),(0:Int),(0:Int),()),((1:Int),(0:Int),(2:Int),(0:Int),()),((8:Int),(8:Int),(0:Int),(0:Int),()),((1:Int),(0:Int),(1:Int),(0:Int),()),((8:Int),(9:Int),(0:Int),(0:Int),()),((6:Int),(9:Int),(0:Int),(0:Int),())]:List az),([((1:Int),(0:Int),y1.1.1.1,(0:Int),()),((1:Int),(1:Int),(1:Int),(0:Int),()),((8:Int),(6:Int),(0:Int),(0:Int),()),((2:Int),(3:Int),(0:Int),(2:Int),()),((1:Int),(1:Int),(5:Int),(0:Int),()),((8:Int),(9:Int),(0:Int),(0:Int),()),((8:Int),(11:Int),(0:Int),(0:Int),()),((8:Int),(5:Int),(0:Int),(0:Int),()),((1:Int),(0:Int),(2:Int),(0:Int),()),((8:Int),(12:Int),(0:Int),(0:Int),()),((8:Int),(15:Int),(0:Int),(0:Int),()),((1:Int),(0:Int),(1:Int),(0:Int),()),((8:Int),(16:Int),(0:Int),(0:Int),())]:List az),(IntKind.i64.wrap ((1:Int)+y2.1.1.1)),()),((a0.1,y2.2.1.1,y2.2.1.2.1,()),([]:List (List az)),()))) λy3=> .ret (((y3.2.1,()),()),((y3.2.2.1.2.1,y3.2.2.1.2.2.1,()),()))
def Uz (x:t17×Unit):=(IX x).eval
def adJ:Nat→Option aq:=λn=>b6 [(0,⟨⟨[.vptr 0 0, .dead, .dead, .ro dk none, .ro dk none, .ro dk none, .bg 64000000, .i .i64]++dd 76,[(0, .var [.ro (.int .u8) (some 1), .i .i64, .i .i64]),(64000000, .arr (.fz dk))]⟩,⟨[.vptr 0 0]++dd 5++[.bg 64000000]++dd 77,[(64000000, .arr (.fz dk)),(0, .var [.ro (.int .u8) (some 1), .i .i64, .i .i64])]⟩,none,false⟩)] n
def k51:bZ:=dD 51 false [i17] [none] [i2] IX
theorem Xe:k51.Ok Tryz.prog:=cb bI [267,527,784,2307] [(267,1),(527,1),(784,1),(2307,1)] [LP,k82] ⟨rR,Xd,trivial⟩ adJ Tryz.f51 [.tmp 2] λx=>by kernel_rfl
abbrev adK:=(t4×Unit)×(b17×Unit×Unit)
abbrev Hr:=(Int×Unit)×(XE×(Int×Int×Unit)×(Int×Int×Unit)×List (List az)×List af×List aj×List ag×List ag×List Int×List Int×LO)
def Nl:Hr→Out (Round Hr ((Unit)×((Int×Int×Unit)×(Int×Int×Unit)×List (List az)×List af×List aj×List ag×List ag×List Int×List Int×List (List az)×List af×List aj×List ag×List ag×List Int×List Int×XE×Unit)) Empty)
|((p0,_),(p1,p2,p3,_),(p4,p5,_),(p6,p7,_),p8,p9,cH,cK,eH,eU,ei,dq,eI,fD,fN,fk,gm,gh,_)=> .ite (decide (p0>(0:Int))) (.get (Fa p1 p2 p3 (8:Int)) λy1=> .ite y1.1.1.1 (.get (Uu ((p6,p7,dq,eI,fD,fN,fk,gm,gh,()),())) λ((cm,_),_)=> .ret (.again (((IntKind.i64.wrap (p0 - (1:Int))),()),((p1,y1.2.1.1,y1.2.1.2.1,()),(p4,p5,()),(cm.1,cm.2.1,()),p8,p9,cH,cK,eH,eU,ei,cm.2.2.1,cm.2.2.2.1,cm.2.2.2.2.1,cm.2.2.2.2.2.1,cm.2.2.2.2.2.2.1,cm.2.2.2.2.2.2.2.1,cm.2.2.2.2.2.2.2.2.1,())))) (.get (Ut ((p6,p7,dq,eI,fD,fN,fk,gm,gh,()),())) λ((dT,_),_)=> .ret (.again (((IntKind.i64.wrap (p0 - (1:Int))),()),((p1,y1.2.1.1,y1.2.1.2.1,()),(p4,p5,()),(dT.1,dT.2.1,()),p8,p9,cH,cK,eH,eU,ei,dT.2.2.1,dT.2.2.2.1,dT.2.2.2.2.1,dT.2.2.2.2.2.1,dT.2.2.2.2.2.2.1,dT.2.2.2.2.2.2.2.1,dT.2.2.2.2.2.2.2.2.1,()))))) (.ret (.out ((),((p4,p5,()),(p6,p7,()),p8,p9,cH,cK,eH,eU,ei,dq,eI,fD,fN,fk,gm,gh,(p1,p2,p3,()),()))))
def IY:t17×t1×Unit→Out adK
|(a0,a1,_)=> .get (Uz (a0,())) λ((cP,_),(Ux,_))=> .get (Uv (cP,())) λ((cm,_),_)=> .get (eY a0.1 Ux.1 Ux.2.1 a1.1) λy3=> .get (bx Nl bc ((y3.1.1.1,()),((a0.1,y3.2.1.1,y3.2.1.2.1,()),((0:Int),(0:Int),()),(cm.1,cm.2.1,()),([]:List (List az)),([]:List af),([]:List aj),([]:List ag),([]:List ag),([]:List Int),([]:List Int),cm.2.2.1,cm.2.2.2.1,cm.2.2.2.2.1,cm.2.2.2.2.2.1,cm.2.2.2.2.2.2.1,cm.2.2.2.2.2.2.2.1,cm.2.2.2.2.2.2.2.2.1,()))) λ(_,_,(KF,KG,_),_,_,_,_,_,_,_,KH,KI,Nn,No,Np,Nq,Nr,(_,ahg,ahh,_),_)=> .get (M8 ((KF,KG,KH,KI,Nn,No,Np,Nq,Nr,()),())) λ((jt,_),_)=> .ret ((jt,()),((ahg,ahh,()),(),()))
def UA (x:t17×t1×Unit):=(IY x).eval
def adL:Nat→Option aq:=λn=>b6 [(0,⟨⟨[.vptr 0 0, .dead, .dead, .dead, .vptr 64000000 0, .vptr 64000001 0, .dead, .i .i64]++dd 21,[(0, .var [.ro (.int .u8) (some 1), .i .i64, .i .i64]),(64000000, .var [.i .i64, .i .i64, .bg 64000002, .bg 64000003, .bg 64000004, .bg 64000005, .bg 64000006, .bg 64000007, .bg 64000008]),(64000001, .var [.i .i64, .i .i64, .bg 64000009, .bg 64000010, .bg 64000011, .bg 64000012, .bg 64000013, .bg 64000014, .bg 64000015]),(64000002, .arr (.fz dk)),(64000003, .arr kR),(64000004, .arr dZ),(64000005, .arr dj),(64000006, .arr dj),(64000007, .arr (.int .i64)),(64000008, .arr (.int .i64)),(64000009, .arr (.fz dk)),(64000010, .arr kR),(64000011, .arr dZ),(64000012, .arr dj),(64000013, .arr dj),(64000014, .arr (.int .i64)),(64000015, .arr (.int .i64))]⟩,⟨[.vptr 0 0, .dead, .dead, .dead, .vptr 64000000 0, .vptr 64000001 0]++dd 23,[(64000000, .var [.i .i64, .i .i64, .bg 64000002, .bg 64000003, .bg 64000004, .bg 64000005, .bg 64000006, .bg 64000007, .bg 64000008]),(64000001, .var [.i .i64, .i .i64, .bg 64000009, .bg 64000010, .bg 64000011, .bg 64000012, .bg 64000013, .bg 64000014, .bg 64000015]),(64000002, .arr (.fz dk)),(64000003, .arr kR),(64000004, .arr dZ),(64000005, .arr dj),(64000006, .arr dj),(64000007, .arr (.int .i64)),(64000008, .arr (.int .i64)),(64000009, .arr (.fz dk)),(64000010, .arr kR),(64000011, .arr dZ),(64000012, .arr dj),(64000013, .arr dj),(64000014, .arr (.int .i64)),(64000015, .arr (.int .i64)),(0, .var [.ro (.int .u8) (some 1), .i .i64, .i .i64])]⟩,none,false⟩)] n
def k25:bZ:=dD 25 false [i17,i1] [none,none] [i4] IY
theorem Xf:k25.Ok Tryz.prog:=cb bI [258] [(258,1)] [k51,k50,LP,k26,k52,k53,adM] ⟨Xe,WY,rR,Nd,WW,WU,RA,trivial⟩ adL Tryz.f25 [.cell 4 31] λx=>by kernel_rfl
abbrev UB:=(t5×Unit)×(b17×Unit×Unit)
def Dl (v0:Int) (v1:List Int) (v2:Int) (v3:Int) (v4:Int) (v5:Int) (v6:List (List az)) (v7:List af) (v8:List aj) (v9:List ag) (v10:List ag) (v11:List Int) (v12:List Int):Out (UB):= .get (eY v1 v2 v3 (12:Int)) λy4=> .ite ((y4.1.1.1==(0:Int))) (.get (rk v1 y4.2.1.1 y4.2.1.2.1 ([(0:Int),(1:Int),(100000:Int),(100001:Int)]:List Int)) λy5=> .ret (((y5.1.1.1,v5,v6,v7,v8,v9,v10,v11,v12,()),()),((y5.2.1.1,y5.2.1.2.1,()),(),()))) (.ite ((y4.1.1.1==(1:Int))) (.get (rk v1 y4.2.1.1 y4.2.1.2.1 ([(-1:Int),(9:Int),(1000000:Int),(1000001:Int)]:List Int)) λy6=> .ret (((v4,y6.1.1.1,v6,v7,v8,v9,v10,v11,v12,()),()),((y6.2.1.1,y6.2.1.2.1,()),(),()))) (.ite ((y4.1.1.1==(2:Int))) (.get (eY v1 y4.2.1.1 y4.2.1.2.1 (4:Int)) λy7=> .ite (decide (List.length v11+List.length ([y7.1.1.1]:List Int)≤bA)) (.ret (((v4,v5,v6,v7,v8,v9,v10,(v11++([y7.1.1.1]:List Int)),v12,()),()),((y7.2.1.1,y7.2.1.2.1,()),(),()))) .fail) (.ite ((y4.1.1.1==(3:Int))) (.get (rk v1 y4.2.1.1 y4.2.1.2.1 ([(1000000:Int),(1000001:Int)]:List Int)) λy8=> .ite (decide (List.length v12+List.length ([y8.1.1.1]:List Int)≤bA)) (.ret (((v4,v5,v6,v7,v8,v9,v10,v11,(v12++([y8.1.1.1]:List Int)),()),()),((y8.2.1.1,y8.2.1.2.1,()),(),()))) .fail) (.ite ((y4.1.1.1==(4:Int))) (.get (eY v1 y4.2.1.1 y4.2.1.2.1 (9:Int)) λy9=> .get (eY v1 y9.2.1.1 y9.2.1.2.1 (6:Int)) λRy=> .get (eY v1 Ry.2.1.1 Ry.2.1.2.1 (3:Int)) λEU=> .ite (decide (List.length v8+List.length ([(y9.1.1.1,Ry.1.1.1,EU.1.1.1,(0:Int),(0:Int),())]:List aj)≤bA)) (.ret (((v4,v5,v6,v7,(v8++([(y9.1.1.1,Ry.1.1.1,EU.1.1.1,(0:Int),(0:Int),())]:List aj)),v9,v10,v11,v12,()),()),((EU.2.1.1,EU.2.1.2.1,()),(),()))) .fail) (.ite ((y4.1.1.1==(5:Int))) (.get (eY v1 y4.2.1.1 y4.2.1.2.1 (4:Int)) λQB=> .ite (decide (List.length v9+List.length ([(QB.1.1.1,([]:List Int),())]:List ag)≤bA)) (.ret (((v4,v5,v6,v7,v8,(v9++([(QB.1.1.1,([]:List Int),())]:List ag)),v10,v11,v12,()),()),((QB.2.1.1,QB.2.1.2.1,()),(),()))) .fail) (.ite ((y4.1.1.1==(6:Int))) (.get (eY v1 y4.2.1.1 y4.2.1.2.1 (8:Int)) λy13=> .ite (decide (List.length v10+List.length ([(y13.1.1.1,([(1:Int)]:List Int),())]:List ag)≤bA)) (.ret (((v4,v5,v6,v7,v8,v9,(v10++([(y13.1.1.1,([(1:Int)]:List Int),())]:List ag)),v11,v12,()),()),((y13.2.1.1,y13.2.1.2.1,()),(),()))) .fail) (.ite ((y4.1.1.1==(7:Int))) (.ite (decide (((List.length v7:Nat):Int)>(0:Int))) (.get (eY v1 y4.2.1.1 y4.2.1.2.1 (8:Int)) λy14=> .ite (decide (0≤v0∧v0<((List.length v7:Nat):Int))) (.get (nth v7 (Int.toNat v0)) λy15=> .ret (((v4,v5,v6,(List.set v7 (Int.toNat v0) (y15.1,(y15.2.1,(y14.1.1.1,y15.2.2.2)))),v8,v9,v10,v11,v12,()),()),((y14.2.1.1,y14.2.1.2.1,()),(),()))) .fail) (.ret (((v4,v5,v6,v7,v8,v9,v10,v11,v12,()),()),((y4.2.1.1,y4.2.1.2.1,()),(),())))) (.ite ((y4.1.1.1==(8:Int))) (.ite (decide (((List.length v7:Nat):Int)>(0:Int))) (.ite (decide (0≤v0∧v0<((List.length v7:Nat):Int))) (.get (nth v7 (Int.toNat v0)) λQV=> .get (rk v1 y4.2.1.1 y4.2.1.2.1 ([(1:Int),(4:Int),(8:Int)]:List Int)) λRB=> .get (oP ((RB.1.1.1,()),())) λ((sG,_),_)=> .ite (decide (List.length QV.2.2.2.2.2.1+List.length sG.1≤bA)) (.ite (decide (0≤v0∧v0<((List.length v7:Nat):Int))) (.ite ((Int.toNat v0)==(Int.toNat v0)) (.get (nth v7 (Int.toNat v0)) λUC=> .ret (((v4,v5,v6,(List.set v7 (Int.toNat v0) (UC.1,(UC.2.1,(UC.2.2.1,(UC.2.2.2.1,(UC.2.2.2.2.1,((QV.2.2.2.2.2.1++sG.1),UC.2.2.2.2.2.2))))))),v8,v9,v10,v11,v12,()),()),((RB.2.1.1,RB.2.1.2.1,()),(),()))) .fail) .fail) .fail) .fail) (.ret (((v4,v5,v6,v7,v8,v9,v10,v11,v12,()),()),((y4.2.1.1,y4.2.1.2.1,()),(),())))) (.ite ((y4.1.1.1==(9:Int))) (.ite (decide (((List.length v7:Nat):Int)>(0:Int))) (.ite (decide (0≤v0∧v0<((List.length v7:Nat):Int))) (.get (nth v7 (Int.toNat v0)) λNs=> .get (eY v1 y4.2.1.1 y4.2.1.2.1 (4:Int)) λUD=> .get (eY v1 UD.2.1.1 UD.2.1.2.1 (5:Int)) λy22=> .ite (decide (0≤UD.1.1.1∧UD.1.1.1<((List.length Ns.2.2.2.2.2.2.1:Nat):Int))) (.get (nth Ns.2.2.2.2.2.2.1 (Int.toNat UD.1.1.1)) λ_=> .ret (((v4,v5,v6,(List.set v7 (Int.toNat v0) (Ns.1,(Ns.2.1,(Ns.2.2.1,(Ns.2.2.2.1,(Ns.2.2.2.2.1,(Ns.2.2.2.2.2.1,((List.set Ns.2.2.2.2.2.2.1 (Int.toNat UD.1.1.1) (IntKind.i64.wrap (y22.1.1.1 - (1:Int)))),Ns.2.2.2.2.2.2.2)))))))),v8,v9,v10,v11,v12,()),()),((y22.2.1.1,y22.2.1.2.1,()),(),()))) .fail) .fail) (.ret (((v4,v5,v6,v7,v8,v9,v10,v11,v12,()),()),((y4.2.1.1,y4.2.1.2.1,()),(),())))) (.ite ((y4.1.1.1==(10:Int))) (.ite (decide (((List.length v7:Nat):Int)>(0:Int))) (.get (eY v1 y4.2.1.1 y4.2.1.2.1 (4:Int)) λy24=> .ite (decide (0≤v0∧v0<((List.length v7:Nat):Int))) (.get (nth v7 (Int.toNat v0)) λy25=> .ret (((v4,v5,v6,(List.set v7 (Int.toNat v0) (y25.1,(y24.1.1.1,y25.2.2))),v8,v9,v10,v11,v12,()),()),((y24.2.1.1,y24.2.1.2.1,()),(),()))) .fail) (.ret (((v4,v5,v6,v7,v8,v9,v10,v11,v12,()),()),((y4.2.1.1,y4.2.1.2.1,()),(),())))) (.ite (decide (((List.length v7:Nat):Int)>(0:Int))) (.ite (decide (0≤v0∧v0<((List.length v7:Nat):Int))) (.get (nth v7 (Int.toNat v0)) λy26=> .ite (decide (List.length (List.set v7 (Int.toNat v0) y26)+List.length ([y26]:List af)≤bA)) (.ret (((v4,v5,v6,((List.set v7 (Int.toNat v0) y26)++([y26]:List af)),v8,v9,v10,v11,v12,()),()),((y4.2.1.1,y4.2.1.2.1,()),(),()))) .fail) .fail) (.ret (((v4,v5,v6,v7,v8,v9,v10,v11,v12,()),()),((y4.2.1.1,y4.2.1.2.1,()),(),()))))))))))))))
def IZ:t17×t1×Unit→Out UB
|(a0,a1,_)=> .get (UA (a0,a1,())) λ((cP,_),(Ux,_))=> .get (Fa a0.1 Ux.1 Ux.2.1 (8:Int)) λy2=> .ite (!y2.1.1.1) (.ret ((cP,()),((y2.2.1.1,y2.2.1.2.1,()),(),()))) (.ite (decide (((List.length cP.2.2.2.1:Nat):Int)>(0:Int))) (.get (eY a0.1 y2.2.1.1 y2.2.1.2.1 ((List.length cP.2.2.2.1:Nat):Int)) λy3=>
 Dl y3.1.1.1 a0.1 y3.2.1.1 y3.2.1.2.1 cP.1 cP.2.1 cP.2.2.1 cP.2.2.2.1 cP.2.2.2.2.1 cP.2.2.2.2.2.1 cP.2.2.2.2.2.2.1 cP.2.2.2.2.2.2.2.1 cP.2.2.2.2.2.2.2.2.1) (Dl (0:Int) a0.1 y2.2.1.1 y2.2.1.2.1 cP.1 cP.2.1 cP.2.2.1 cP.2.2.2.1 cP.2.2.2.2.1 cP.2.2.2.2.2.1 cP.2.2.2.2.2.2.1 cP.2.2.2.2.2.2.2.1 cP.2.2.2.2.2.2.2.2.1))
def UE (x:t17×t1×Unit):=(IZ x).eval
def k13:bZ:=dD 13 false [i17,i1] [none,none] [i5] IZ
theorem Xg:k13.Ok Tryz.prog:=cb Rx [5893] [(2310,4),(2311,1),(5893,1)] [k25,k26,LP,k28,k29] ⟨Xf,Nd,rR,Nf,Dg,trivial⟩ (λ_=>none) Tryz.f13 [.cell 4 31] λx=>by kernel_rfl
end
section
open Go Go.ChangeShapes Go.WideShapes Go.ChangeAt Go.RowKit
section
variable {b:List Int} {i h:Int}
theorem ik1 {r v:Int} (hr:Bi r) (hv: -1000000≤v∧v≤1000000):df (1,r,v,0,())=true:=by unfold df fU;simp [cA,dh,hr.1,hr.2,hv.1,hv.2]
theorem ik2 {r q s:Int} (hr:Bi r) (hq:Bi q) (hs:Bi s):df (2,r,q,s,())=true∧df (3,r,q,s,())=true:=by unfold df fU;simp [cA,hr.1,hr.2,hq.1,hq.2,hs.1,hs.2]
theorem ik4 {r q:Int} (hr:Bi r) (hq:Bi q):df (4,r,q,0,())=true∧df (5,r,q,0,())=true:=by unfold df fU;simp [cA,hr.1,hr.2,hq.1,hq.2]
theorem ik6 {v:Int} (hv:0≤v∧v≤40):df (6,v,0,0,())=true:=by unfold df fU;simp [dh,hv.1,hv.2]
theorem ik7 {r v:Int} (hr:Bi r) (hv:0≤v∧v≤40):df (7,r,v,0,())=true:=by unfold df fU;simp [cA,dh,hr.1,hr.2,hv.1,hv.2]
theorem ik8 {v:Int} (hv:1≤v∧v≤20):df (8,v,0,0,())=true:=by unfold df fU;simp [dh,hv.1,hv.2]
theorem RC (hb:b.length≤aM) (hi:0≤i):ie (Nh ((b,i,h,()),())) λy=>df y.1.1=true∧0≤y.2.1.1:=by
 show ie (Out.eval (Dk _)) _;dsimp only [Dk];refine bd (bU hb hi) λy hy=>bd (bU hb hy.2) λz hz=>bd (bU hb hz.2) λu hu=> ?_;have r1:Bi y.1.1.1:=⟨hy.1.1,hy.1.2.1 (by decide)⟩
 have r2:Bi z.1.1.1:=⟨hz.1.1,hz.1.2.1 (by decide)⟩
 have pk:∀ v:Int,v∈[(0:Int),1,2,3,4,7, -1,9]→ -1000000≤v∧v≤1000000:=λv hv=>by simp at hv;omega
 refine bR (λ_=>bd (lr hb hu.2 (by decide)) λv hv=>bn ⟨ik1 r1 (pk _ hv.1),hv.2⟩) λ_=> ?_;refine bR (λ_=>bd (lr hb hu.2 (by decide)) λv hv=>bn ⟨ik1 r1 (pk _ hv.1),hv.2⟩) λ_=> ?_;refine bR (λ_=>bd (lr hb hu.2 (by decide)) λv hv=>bn ⟨ik1 r1 (pk _ hv.1),hv.2⟩) λ_=> ?_;refine bR (λ_=>bd (bU hb hu.2) λv hv=>bn ⟨(ik2 r1 r2 ⟨hv.1.1,hv.1.2.1 (by decide)⟩).1,hv.2⟩) λ_=> ?_;refine bR (λ_=>bd (bU hb hu.2) λv hv=>bn ⟨(ik2 r1 r2 ⟨hv.1.1,hv.1.2.1 (by decide)⟩).2,hv.2⟩) λ_=> ?_;refine bR (λ_=>bn ⟨(ik4 r1 r2).1,hu.2⟩) λ_=>bR (λ_=>bn ⟨(ik4 r1 r2).2,hu.2⟩) λ_=> ?_;refine bR (λ_=>bd (bU hb hu.2) λv hv=>bn ⟨ik6 ⟨hv.1.1,by have:=hv.1.2.1 (by decide);omega⟩,hv.2⟩) λ_=> ?_;refine bR (λ_=>bd (bU hb hu.2) λv hv=>bn ⟨ik7 r1 ⟨hv.1.1,by have:=hv.1.2.1 (by decide);omega⟩,hv.2⟩) λ_=> ?_;refine bd (bU hb hu.2) λv hv=>bn ⟨?_,hv.2⟩;have h1:=hv.1.1;have h2:=hv.1.2.1 (by decide);have w:IntKind.i64.wrap ((1:Int)+v.1.1.1)=1+v.1.1.1:=b7 (by omega) (by omega);rw [w];exact ik8 (by omega)
theorem KJ {p:List az} {x:az} (hp:p.all df=true) (hx:df x=true):(p++[x]).all df=true:=by rw [adE,hp];simp [hx]
theorem KK (hb:b.length≤aM) (hi:0≤i):ie (Uy ((b,i,h,()),(16,()),())) λy=>bH y.1.1.1=true∧0≤y.2.1.1:=by
 show ie (Out.eval (IW _)) _;dsimp only [IW];refine bd (bU hb hi) λy hy=> ?_;have h1:=hy.1.1;have h2:y.1.1.1<17:=hy.1.2.1 (by decide);refine bd (P:=λx=>(x.2.1.length≤16∧x.2.1.all df=true)∧0≤x.2.2.1.2.1) (mQ (λx=>x.2.1.1=b∧0≤x.1.1∧0≤x.2.1.2.1∧(x.2.2.1.length:Int)+x.1.1≤16∧x.2.2.1.all df=true) (λx=>x.1.1.toNat) _ (λx hx=> ?_) _ _ ?_ ?_) λx hx=>bn ⟨?_,hx.2⟩
 . obtain ⟨⟨k,_⟩,⟨b',i,h,_⟩,out,_⟩:=x
   obtain ⟨e1,h1,h2,h3,h4⟩:=hx;simp only at e1 h1 h2 h3 h4;subst e1;dsimp only [Nj];refine bR (λh4=> ?_) (λh4=>bn ?_)
   . have h4:k>0:=abJ h4
     have w:IntKind.i64.wrap (k - 1)=k - 1:=b7 (by omega) (by omega);refine bd (RC hb h2) λu hu=> ?_;obtain ⟨⟨ua,_⟩,⟨⟨ui,uh,_⟩,_⟩⟩:=u;refine fO (aaE (by rw [nF];simp;omega)) (bn ?_);exact ⟨⟨rfl,by simp only [w];omega,hu.2,by simp only [w];simp;omega,KJ ‹_› hu.1⟩,by simp only [w];omega⟩
   . exact ⟨⟨by simp only at *; omega, ‹_›⟩,h2⟩
 . exact ⟨rfl,h1,hy.2,by simp;omega,rfl⟩
 . exact adP (show y.1.1.1.toNat≤16 by omega) (by decide)
 . unfold bH
   rw [aa4,abS];exact ⟨abG hx.1.1 (by decide),hx.1.2⟩
theorem Hs {g:List (List az)} {x:List az} (hg:g.all bH=true) (hx:bH x=true):(g++[x]).all bH=true:=by rw [adE,hg];simp [hx]
theorem KL (hb:b.length≤aM) (hi:0≤i):ie (Uz ((b,i,h,()),())) λy=>cO y.1.1.1=true∧0≤y.2.1.1:=by
 show ie (Out.eval (IX _)) _;dsimp only [IX];refine bd (bU hb hi) λy hy=>bd (bU hb hy.2) λz hz=> ?_;have h1:=hz.1.1;have h2:z.1.1.1<3:=hz.1.2.1 (by decide);have y1:=hy.1.1;have y2:y.1.1.1<3:=hy.1.2.1 (by decide);have w0:IntKind.i64.wrap ((1:Int)+z.1.1.1)=1+z.1.1.1:=b7 (by omega) (by omega);refine bd (P:=λx=>((1≤x.2.1.length∧x.2.1.length≤3)∧x.2.1.all bH=true)∧0≤x.2.2.1.2.1) (mQ (λx=>(x.2.1.1=b∧0≤x.1.2.2.2.1∧0≤x.2.1.2.1∧(x.2.2.1.length:Int)+x.1.2.2.2.1≤3∧1≤(x.2.2.1.length:Int)+x.1.2.2.2.1)∧(bH x.1.1=true∧bH x.1.2.1=true∧bH x.1.2.2.1=true)∧x.2.2.1.all bH=true) (λx=>x.1.2.2.2.1.toNat) _ (λx hx=> ?_) _ _ ?_ ?_) λx hx=>bn ⟨?_,hx.2⟩
 . obtain ⟨⟨p1,p2,p3,k,_⟩,⟨b',i,h,_⟩,out,_⟩:=x
   obtain ⟨⟨e1,h1,h2,h3,h4⟩,⟨q1,q2,q3⟩,q4⟩:=hx;simp only at e1 h1 h2 h3 h4 q1 q2 q3 q4;subst e1;dsimp only [Nk];refine bR (λh5=> ?_) (λh5=>bn ?_)
   . have h5:k>0:=abJ h5
     have w:IntKind.i64.wrap (k - 1)=k - 1:=b7 (by omega) (by omega);have lim:∀ v:List az,decide (List.length out+List.length ([v]:List (List az))≤bA)=true:=λv=>aaE (by rw [nF];simp;omega);have fin:∀ (v:List az) (i h:Int),bH v=true→0≤i→M9 (λx:Hq=>((x.2.1.1=b'∧0≤x.1.2.2.2.1∧0≤x.2.1.2.1∧(x.2.2.1.length:Int)+x.1.2.2.2.1≤3∧1≤(x.2.2.1.length:Int)+x.1.2.2.2.1)∧(bH x.1.1=true∧bH x.1.2.1=true∧bH x.1.2.2.1=true)∧x.2.2.1.all bH=true)∧x.1.2.2.2.1.toNat<k.toNat) (λx:(Unit)×(List (List az)×XE×Unit)=>((1≤x.2.1.length∧x.2.1.length≤3)∧x.2.1.all bH=true)∧0≤x.2.2.1.2.1) (λ_:Empty=>False)
       (.again ((p1,p2,p3,IntKind.i64.wrap (k - 1),()),((b',i,h,()),(out++([v]:List (List az))),()))):=λv i h hv hi=>by
      refine ⟨⟨⟨rfl, ?_,hi, ?_, ?_⟩,⟨q1,q2,q3⟩,Hs q4 hv⟩, ?_⟩<;>simp only [w,abz,aby,abA]<;>omega
     refine bd (bU hb h2) λu hu=>bR (λ_=>fO (lim _) (bn (fin _ _ _ q1 hu.2))) λ_=>bR (λ_=>fO (lim _) (bn (fin _ _ _ q2 hu.2))) λ_=>bR (λ_=>fO (lim _) (bn (fin _ _ _ q3 hu.2))) λ_=> ?_;refine bd (KK hb hu.2) λv hv=> ?_;obtain ⟨⟨⟨va,_⟩,_⟩,⟨⟨vi,vh,_⟩,_⟩⟩:=v;exact fO (lim _) (bn (fin _ _ _ hv.1 hv.2))
   . have h5:¬ k>0:=afG h5
     exact ⟨⟨⟨by simp only;omega,by simp only;omega⟩,q4⟩,h2⟩
 . have hf:df (1,0,y.1.1.1,0,())=true:=ik1 ⟨by decide,by decide⟩ (by omega)
   refine ⟨⟨rfl, ?_,hz.2, ?_, ?_⟩,⟨by rfl,by rfl, ?_⟩,rfl⟩
   . simp only [w0];omega
   . simp only [w0,abA];omega
   . simp only [w0,abA];omega
   . unfold bH
     simp only [ack,hf];rfl
 . simp only [w0]
   exact adP (show (1+z.1.1.1).toNat≤3 by omega) (by decide)
 . unfold cO
   rw [aa4,aa4,abS,abS];exact ⟨⟨hx.1.1.1,abG hx.1.1.2 (by decide)⟩,hx.1.2⟩
end
end
section
open Go Go.ChangeShapes Go.WideShapes Go.ChangeAt Go.RowKit
section
variable {b:List Int} {i h:Int}
theorem kz {ρ α:Type} {o:Option α} {z:α} {k:α→Out ρ} {Q:ρ→Prop} (e:o=some z) (hk:ie (k z).eval Q):ie (Out.get o k).eval Q:=by subst e;exact hk
abbrev adQ (x:Hr):UT:=(x.2.2.2.1.1,x.2.2.2.1.2.1,x.2.2.2.2.2.2.2.2.2.2.2.1,x.2.2.2.2.2.2.2.2.2.2.2.2.1,x.2.2.2.2.2.2.2.2.2.2.2.2.2.1,x.2.2.2.2.2.2.2.2.2.2.2.2.2.2.1,x.2.2.2.2.2.2.2.2.2.2.2.2.2.2.2.1,x.2.2.2.2.2.2.2.2.2.2.2.2.2.2.2.2.1,x.2.2.2.2.2.2.2.2.2.2.2.2.2.2.2.2.2.1,())
abbrev UF:Type:=(Unit)×((Int×Int×Unit)×(Int×Int×Unit)×List (List az)×List af×List aj×List ag×List ag×List Int×List Int×List (List az)×List af×List aj×List ag×List ag×List Int×List Int×XE×Unit)
abbrev adR (x:UF):UT:=(x.2.2.1.1,x.2.2.1.2.1,x.2.2.2.2.2.2.2.2.2.2.1,x.2.2.2.2.2.2.2.2.2.2.2.1,x.2.2.2.2.2.2.2.2.2.2.2.2.1,x.2.2.2.2.2.2.2.2.2.2.2.2.2.1,x.2.2.2.2.2.2.2.2.2.2.2.2.2.2.1,x.2.2.2.2.2.2.2.2.2.2.2.2.2.2.2.1,x.2.2.2.2.2.2.2.2.2.2.2.2.2.2.2.2.1,())
theorem Nt {n:Int} (hb:b.length≤aM) (hi:0≤i) (hn:n≤1000):ie (UA ((b,i,h,()),(n,()),())) λy=>ib y.1.1∧0≤y.2.1.1:=by
 show ie (Out.eval (IY _)) _;dsimp only [IY];refine bd (KL hb hi) λy hy=> ?_;obtain ⟨⟨⟨pg,_⟩,_⟩,⟨⟨ui,uh,_⟩,_⟩⟩:=y;obtain ⟨hp,hu⟩:=hy;refine kz (W1.trans (by rw [aa5 hp])) ?_;refine bd (bU hb hu) λz hz=> ?_;have h1:=hz.1.1;have h2:z.1.1.1≤1000:=by
  by_cases q:0<n
  . have:=hz.1.2.1 q;omega
  . rw [hz.1.2.2 (by omega)];decide
 have hR:=W0 hp;refine bd (P:=λx:UF=>ib (adR x)∧0≤x.2.2.2.2.2.2.2.2.2.2.2.2.2.2.2.2.2.1.2.1) (mQ (λx=>x.2.1.1=b∧0≤x.2.1.2.1∧x.1.1≤1000∧ib (adQ x)) (λx=>x.1.1.toNat) _ (λx hx=> ?_) _ _ ?_ ?_) λx hx=> ?_
 . obtain ⟨⟨k,_⟩,⟨b',i,h,_⟩,⟨d1,d2,_⟩,⟨nx,tk,_⟩,e1,e2,e3,e4,e5,e6,e7,pg,ps,os,pi,fi,rd,ou,_⟩:=x
   obtain ⟨e1,h2,hk,h3⟩:=hx;simp only at e1 h2 hk;have h3:ib (nx,tk,pg,ps,os,pi,fi,rd,ou,()):=h3;subst e1;dsimp only [Nl];refine bR (λh5=> ?_) (λh5=>bn ⟨h3,h2⟩);have h5:k>0:=abJ h5;have w:IntKind.i64.wrap (k - 1)=k - 1:=b7 (by omega) (by omega);refine bd (Fb hb h2) λu hu=>bR (λ_=>kz (Rw h3) ?_) λ_=>kz (WZ h3) ?_
   . exact bn ⟨⟨rfl,hu,by simp only [w];omega,WI h3⟩,by simp only [w];omega⟩
   . exact bn ⟨⟨rfl,hu,by simp only [w];omega,adg h3⟩,by simp only [w];omega⟩
 . exact ⟨rfl,hz.2,h2,hR⟩
 . exact adP (show z.1.1.1.toNat≤1000 by omega) (by decide)
 . obtain ⟨_,⟨d1,d2,_⟩,⟨nx,tk,_⟩,e1,e2,e3,e4,e5,e6,e7,pg,ps,os,pi,fi,rd,ou,⟨b',i,h,_⟩,_⟩:=x
   obtain ⟨h3,h4⟩:=hx;have h3:ib (nx,tk,pg,ps,os,pi,fi,rd,ou,()):=h3;exact kz (Rv h3) (bn ⟨h3,h4⟩)
end
end
section
open Go Go.ChangeShapes Go.WideShapes Go.ChangeAt Go.RowKit
section
variable {b:List Int} {i h:Int} {u:UT}
structure ahk (nx tk:Int) (pg:List (List az)) (ps:List af) (os:List aj) (pi fi:List ag) (rd ou:List Int):Prop where
 pg:cO pg=true
 np:ps.length≤7
 pr:∀ p∈ps,(Db p).2.1.length≤4∧(cd p).length≤20∧(aA p).length≤4
 os:os.length≤9
 UG:pi.length≤4
 pi:∀ y∈pi,y.2.1.length≤4
 nf:fi.length≤7
 fi:∀ y∈fi,y.2.1.length≤8
 rd:rd.length≤7
 ou:ou.length≤61
abbrev wB (u:UT):Prop:=ahk u.1 u.2.1 u.2.2.1 u.2.2.2.1 u.2.2.2.2.1 u.2.2.2.2.2.1 u.2.2.2.2.2.2.1 u.2.2.2.2.2.2.2.1 u.2.2.2.2.2.2.2.2.1
theorem yE (h:ib u):wB u:=⟨h.Bk,abG h.np (by omega),λp hp=>by
 have hl:=h.loc p hp;exact ⟨aeB (cY hl.ku).2.1,abG hl.mem.1 (by omega),aeB hl.fds⟩,abG (oc h) (by omega),abG (wq h) (by omega),λy hy=>(h.rf y hy).data.1,abG (xU h) (by omega),λy hy=>(jU h hy).1,abG (wx h) (by omega),abG h.Di.1 (by omega)⟩
theorem yF {α:Type} {a:List α} {x y:α} (h:y∈a++[x]):y∈a∨y=x:=by simpa using h
theorem RD {n:Int} (h:n=1∨n=4∨n=8):∃ l:List Int,oP ((n,()),())=some (((l,()),()),((),()))∧l.length≤8:=by
 rcases h with rfl|rfl|rfl
 . exact ⟨[0],rfl,by decide⟩
 . exact ⟨[0,0,0,0],rfl,by decide⟩
 . exact ⟨[0,0,0,0,0,0,0,0],rfl,by decide⟩
theorem Fc {nx tk k:Int} {pg:List (List az)} {ps:List af} {os:List aj} {pi fi:List ag} {rd ou:List Int} (hb:b.length≤aM) (hi:0≤i) (hR:ib (nx,tk,pg,ps,os,pi,fi,rd,ou,())) (hk:0≤k∧(0<ps.length→k<(ps.length:Nat))):
  ie (Dl k b i h nx tk pg ps os pi fi rd ou).eval λy=>wB y.1.1∧0≤y.2.1.1:=by
 have hL:=nF;have T:wB (nx,tk,pg,ps,os,pi,fi,rd,ou,()):=yE hR;have hps:ps.length≤6:=hR.np;have hos:os.length≤8:=oc hR;have rf:pi.length≤3:=wq hR;have Er:fi.length≤6:=xU hR;have Et:rd.length≤6:=wx hR;have Di:ou.length≤60:=hR.Di.1;have Ht:0<ps.length→∃ p∈ps,nth ps k.toNat=some p∧(Db p).2.1.length=4∧(cd p).length≤12∧(aA p).length=4:=λh0=>by
  have:=hk.2 h0;have hm:ps[k.toNat]'(by omega)∈ps:=acb _;have hl:=hR.loc _ hm;exact ⟨_,hm,aa2 _,(cY hl.ku).2.1,hl.mem.1,hl.fds⟩
 have Fe:∀ {p':af},((Db p').2.1.length≤4∧(cd p').length≤20∧(aA p').length≤4)→wB (nx,tk,pg,ps.set k.toNat p',os,pi,fi,rd,ou,()):=λ{p'} Cr=>by
  refine ⟨T.pg, ?_,λq hq=> ?_,T.os,T.UG,T.pi,T.nf,T.fi,T.rd,T.ou⟩
  . show (ps.set _ _).length≤7
    rw [acz];omega
  . rcases afl hq with e|e
    . exact T.pr q e
    . rw [e];exact Cr
 have Bs:∀ {α:Type} (a:List α) (x:α),(a++[x]).length=a.length+1:=λa x=>by rw [abz];rfl
 dsimp only [Dl];refine bd (bU hb hi) λy hy=> ?_;refine bR (λ_=>bd (lr hb hy.2 (by decide)) λz hz=>bn ⟨⟨T.pg,T.np,T.pr,T.os,T.UG,T.pi,T.nf,T.fi,T.rd,T.ou⟩,hz.2⟩) λ_=> ?_;refine bR (λ_=>bd (lr hb hy.2 (by decide)) λz hz=>bn ⟨⟨T.pg,T.np,T.pr,T.os,T.UG,T.pi,T.nf,T.fi,T.rd,T.ou⟩,hz.2⟩) λ_=> ?_;refine bR (λ_=>bd (bU hb hy.2) λz hz=>fO (aaE (by simp only [aby,abA];omega)) (bn ⟨⟨T.pg,T.np,T.pr,T.os,T.UG,T.pi,T.nf,T.fi,by rw [Bs];omega,T.ou⟩,hz.2⟩)) λ_=> ?_;refine bR (λ_=>bd (lr hb hy.2 (by decide)) λz hz=>fO (aaE (by simp only [aby,abA];omega)) (bn ⟨⟨T.pg,T.np,T.pr,T.os,T.UG,T.pi,T.nf,T.fi,T.rd,by rw [Bs];omega⟩,hz.2⟩)) λ_=> ?_;refine bR (λ_=>bd (bU hb hy.2) λz hz=>bd (bU hb hz.2) λz2 hz2=>bd (bU hb hz2.2) λz3 hz3=>fO (aaE (by simp only [aby,abA];omega)) (bn ⟨⟨T.pg,T.np,T.pr,by rw [Bs];omega,T.UG,T.pi,T.nf,T.fi,T.rd,T.ou⟩,hz3.2⟩)) λ_=> ?_;refine bR (λ_=>bd (bU hb hy.2) λz hz=>fO (aaE (by simp only [aby,abA];omega)) (bn ⟨⟨T.pg,T.np,T.pr,T.os,by rw [Bs];omega,λy hy=>(yF hy).elim (T.pi y) λe=>by rw [e];exact ac0 _,T.nf,T.fi,T.rd,T.ou⟩,hz.2⟩)) λ_=> ?_;refine bR (λ_=>bd (bU hb hy.2) λz hz=>fO (aaE (by simp only [aby,abA];omega)) (bn ⟨⟨T.pg,T.np,T.pr,T.os,T.UG,T.pi,by rw [Bs];omega,λy hy=>(yF hy).elim (T.fi y) λe=>by rw [e];show 1≤8;omega,T.rd,T.ou⟩,hz.2⟩)) λ_=> ?_;have same:ie (Out.ret (((nx,tk,pg,ps,os,pi,fi,rd,ou,()),()),((y.2.1.1,y.2.1.2.1,()),(),()))).eval λy=>wB y.1.1∧0≤y.2.1.1:=bn ⟨T,hy.2⟩;by_cases h0:((ps.length:Nat):Int)>0
 case neg=>
  refine bR (λ_=>rj (aa1 h0) same) λ_=>bR (λ_=>rj (aa1 h0) same) λ_=>bR (λ_=>rj (aa1 h0) same) λ_=>bR (λ_=>rj (aa1 h0) same) λ_=>rj (aa1 h0) same
 obtain ⟨p,hp,hn,l1,l2,l3⟩:=Ht (by omega);have UH:=hk.2 (by omega);have jN:decide (0≤k∧k<((ps.length:Nat):Int))=true:=aaE ⟨hk.1,UH⟩;have h0:decide (((ps.length:Nat):Int)>0)=true:=aaE h0;refine bR (λ_=>fO h0 (bd (bU hb hy.2) λz hz=>fO jN (kz hn (bn ⟨Fe ⟨aeB l1,by show (cd p).length≤20;omega,aeB l3⟩,hz.2⟩)))) λ_=> ?_;refine bR (λ_=>fO h0 (fO jN (kz hn (bd (lr hb hy.2 (by decide)) λz hz=> ?_)))) λ_=> ?_
 . obtain ⟨l,e,hl⟩:=RD (n:=z.1.1.1) (by have:=hz.1;simp at this;omega)
   refine kz e (fO (aaE (by show (cd p).length+l.length≤bA;omega)) (fO jN (fO (by simp) (kz hn (bn ⟨Fe ⟨aeB l1, ?_,aeB l3⟩,hz.2⟩)))));show (cd p++l).length≤20;rw [abz];omega
 refine bR (λ_=>fO h0 (fO jN (kz hn (bd (bU hb hy.2) λz hz=>bd (bU hb hz.2) λz2 hz2=> ?_)))) λ_=> ?_
 . have z0:=hz.1.1
   have z4:z.1.1.1<4:=hz.1.2.1 (by decide);refine fO (aaE ⟨z0,by show z.1.1.1<(((aA p).length:Nat):Int);omega⟩) (kz (aa2 (show z.1.1.1.toNat<(aA p).length by omega)) (bn ⟨Fe ⟨aeB l1,by show (cd p).length≤20;omega, ?_⟩,hz2.2⟩));show ((aA p).set _ _).length≤4;rw [acz];omega
 refine bR (λ_=>fO h0 (bd (bU hb hy.2) λz hz=>fO jN (kz hn (bn ⟨Fe ⟨aeB l1,by show (cd p).length≤20;omega,aeB l3⟩,hz.2⟩)))) λ_=> ?_;refine fO h0 (fO jN (kz hn ?_));rw [iJ hn];refine fO (aaE (by simp only [aby,abA];omega)) (bn ⟨⟨T.pg,by rw [Bs];omega,λq hq=>(yF hq).elim (T.pr q) λe=>by rw [e];exact T.pr p hp,T.os,T.UG,T.pi,T.nf,T.fi,T.rd,T.ou⟩,hy.2⟩)
theorem RE {n:Int} (hb:b.length≤aM) (hi:0≤i) (hn:n≤1000):ie (UE ((b,i,h,()),(n,()),())) λy=>wB y.1.1∧0≤y.2.1.1:=by
 show ie (Out.eval (IZ _)) _;dsimp only [IZ];refine bd (Nt hb hi hn) λy hy=> ?_;obtain ⟨⟨⟨nx,tk,pg,ps,os,pi,fi,rd,ou,_⟩,_⟩,⟨⟨ui,uh,_⟩,_⟩⟩:=y;obtain ⟨hR,hu⟩:=hy;refine bd (Fb hb hu) λz hz=>bR (λ_=>bn ⟨yE hR,hz⟩) λ_=> ?_;refine bR (λh0=>bd (bU hb hz) λw hw=> ?_) λh0=> ?_
 . have h0:((ps.length:Nat):Int)>0:=abJ h0
   exact Fc hb hw.2 hR ⟨hw.1.1,λ_=>hw.1.2.1 h0⟩
 . have h0:¬ ((ps.length:Nat):Int)>0:=afG h0
   exact Fc hb hz hR ⟨acZ 0,λe=>absurd (show ((ps.length:Nat):Int)>0 by have e:0<ps.length:=e;omega) h0⟩
end
end
section
open Go Go.ChangeShapes Go.WideShapes Go.ChangeAt Go.RowKit
abbrev ahl:=(t5×Unit)×(Unit×Unit)
def RF:t19×Unit→Out ahl
|(a0,_)=> .get (IT a0.1) λy1=> .get (IU a0.1 (150:Int)) λy2=> .get (UE ((y1.1.1.1,y1.1.1.2.1,y1.1.1.2.2.1,()),(y2.1.1.1,()),())) λ((dT,_),_)=> .ret ((dT,()),((),()))
def adT (x:t19×Unit):=(RF x).eval
def k5:bZ:=dD 5 false [i19] [none] [i5] RF
theorem adU:k5.Ok Tryz.prog:=cb bI [] [] [k12,k14,k13] ⟨W3,Xa,Xg,trivial⟩ (λ_=>none) Tryz.f5 [.cell 2 31] λx=>by kernel_rfl
abbrev adV:=(t0×Unit)×XI
abbrev Nu:=(Int×XS)×(List Int×Unit)
def vt:Nu→Out (Round Nu ((Unit)×(List Int×Unit)) Empty)
|((p0,p1,p2,p3,_),p4,_)=> .ite (decide (p3<p2)) (.ite (decide (0≤p3)) (.get (nth p1 (Int.toNat p3)) λy1=> .ite ((y1.2.1==p0)) (.ite (decide (List.length p4+List.length ([y1.1]:List Int)≤bA)) (.ret (.again ((p0,p1,p2,(IntKind.i64.wrap (p3+(1:Int))),()),((p4++([y1.1]:List Int)),())))) .fail) (.ret (.again ((p0,p1,p2,(IntKind.i64.wrap (p3+(1:Int))),()),(p4,()))))) .fail) (.ret (.out ((),(p4,()))))
def I0:t11×t1×Unit→Out adV
|(a0,a1,_)=> .get (iW a0.1 a0.2.1 a0.2.2.1 a0.2.2.2.1 a0.2.2.2.2.1 a0.2.2.2.2.2.1 a0.2.2.2.2.2.2.1 a0.2.2.2.2.2.2.2.1 a0.2.2.2.2.2.2.2.2.1) λy1=> .ite (!y1) (.ret (((([]:List Int),()),()),((),(),()))) (.get (bx vt bc ((a1.1,a0.2.2.2.1,((List.length a0.2.2.2.1:Nat):Int),(0:Int),()),(([]:List Int),()))) λy2=> .ret (((y2.2.1,()),()),((),(),())))
def Ff (x:t11×t1×Unit):=(I0 x).eval
abbrev Nv:List (Nat×eA):=[(64000000, .arr (.int .i64))]
def adW:Nat→Option aq:=λn=>b6 [(0,⟨⟨[.dead, .i .i64, .dead, .dead, .dead, .bg 64000000]++dd 7++[.ro jM (some 1), .i .i64, .i .i64]++dd 14,Nv⟩,⟨dd 5++[.bg 64000000]++dd 24,Nv⟩,none,false⟩)] n
def k11:bZ:=dD 11 true [i11,i1] [none,none] [i0] I0
theorem Xh:k11.Ok Tryz.prog:=cb ja [] [] [MY] ⟨Hm,trivial⟩ adW Tryz.f11 [.tmp 4] λx=>by kernel_rfl
end
section
open Go Go.ChangeShapes Go.WideShapes Go.ChangeAt Go.RowKit
section
variable {b:List Int} {u:UT} {v:Int}
theorem Hu (hb:b.length≤aM):ie (adT ((b,()),())) λy=>wB y.1.1:=by
 have hB:aM=9223372036854775807:=rfl;show ie (Out.eval (RF _)) _;dsimp only [RF];refine bd (Hp hb) λc hc=> ?_;have h0:0≤c.1.1.2.1:=by rw [hc.2];exact acZ _
 rw [hc.1];refine bd (Ng hb) λw hw=> ?_;refine bd (RE hb h0 (by omega)) λy hy=> ?_;obtain ⟨⟨y,_⟩,_⟩:=y;exact bn hy.1
abbrev Hv (u:UT):Bool:=b5 u.1 u.2.1 u.2.2.1 (bm u) (eP u) (oG u) (od u) (qU u) (GL u)
theorem Xi (h:(qU u).length≤1000):iW u.1 u.2.1 u.2.2.1 (bm u) (eP u) (oG u) (od u) (qU u) (GL u)=some (Hv u):=by
 have hL:bA=68719476736:=rfl;unfold iW;rw [aa5 (show (qU u).length≤bA by omega),vf]
theorem Bt:∀ (ps:List af) (acc:List Int),ps.foldl (λacc p=>if p.2.1=v then acc++[p.1] else acc) acc=acc++fa ps v
 |[],acc=>by simp [fa]
 |p::ps,acc=>by
  rw [acn,Bt ps];unfold fa;rw [acS];by_cases h:p.2.1=v
  . rw [aa5 h,aa5 (by simpa using h)];simp
  . rw [aa3 h,aa3 (by simpa using h)]
theorem Xj (h:(qU u).length≤1000) (hp:(bm u).length≤1000):Ff (u,(v,()),())=some (((if Hv u=true then fa (bm u) v else [],()),()),((),(),())):=by
 have hL:bA=68719476736:=rfl;have hB:aM=9223372036854775807:=rfl;have h1:=foldl_loop (f:=vt) (λ(acc:List Int) i=>acc.length≤i) (λacc p=>if p.2.1=v then acc++[p.1] else acc) (bm u) (λacc i=>((v,bm u,(((bm u).length:Nat):Int),(i:Int),()),(acc,()))) (λacc=>((),(acc,()))) (λi hi acc ha=> ?_) (λacc _=> ?_) (λi hi acc ha=> ?_) (by omega) [] (abE 0)
 . show Out.eval (I0 _)=_
   dsimp only [I0];refine zG ?_ (Xi h);rw [Bt,ab0] at h1;cases e:Hv u with
   |false=>exact (ab rfl).trans rfl
   |true=>
    refine (ae rfl).trans ?_;exact zG rfl h1
 . have hn:nth (bm u) i=some (bm u)[i]:=aa2 hi
   have hw:IntKind.i64.wrap ((i:Int)+1)=((i+1:Nat):Int):=aw (by omega);show Out.eval (vt _)=_;dsimp only [vt];simp only [abo,hw];refine zT ?_;refine zT ?_;refine zG ?_;by_cases e:(bm u)[i].2.1=v
   . rw [aa5 e]
     refine zT ?_ (acy.2 e);refine zT ?_ (aaE (by simp only [aby,abA];omega));rfl
   . rw [aa3 e]
     refine zF ?_ (beq_false_of_ne e);rfl
 . show Out.eval (vt _)=_
   dsimp only [vt];refine zF ?_;rfl
 . try dsimp only
   split
   . rw [abz,List.length_singleton];omega
   . omega
theorem yG:∀ (s:yr) (n:Int),s.foldl (λ(n:Int) (b:UInt8)=>if b=10 then n+1 else n) n=n+((s.count 10:Nat):Int)
 |[],n=>by simp
 |b::s,n=>by
  rw [acn,yG s,List.count_cons];by_cases h:b=10
  . rw [aa5 h,aa5 (by simpa using h)];omega
  . rw [aa3 h,aa3 (by simpa using h)];omega
theorem Fg {f:af→Nat}:∀ (ps:List af) (m:Int),ps.foldl (λ(m:Int) p=>m+((f p:Nat):Int)) m=m+(((ps.map f).sum:Nat):Int)
 |[],m=>by simp
 |p::ps,m=>by
  rw [acn,Fg ps,acd,List.sum_cons];omega
theorem RG (ps:List af):(fa ps v).length≤ps.length:=by
 unfold fa;rw [acF];exact adA _ _
end
end
end Go.Proofs.YtnlleofnjkeimaaGreatDoor.Dm
