/- The statement FnPs: for every code the two lists of what there is agree with the reference, each process has its line, and each is the child of one. Conditions: none but those of the given statement. -/
import Derived.Test.YtnlleofnjkeimaaGreatDoorJ12
import Derived.Test.YtnlleofnjkeimaaGreatDoorFacts
import Derived.Test.YtnlleofnjkeimaaGreatDoorRows
import Derived.Test.YtnlleofnjkeimaaGreatDoorCards
import Derived.Test.YtnlleofnjkeimaaGreatDoorTie
import Derived.ChangeCalls
import Derived.SevenTiedAt
import Derived.LaidLaws
import Derived.Lib.LaidTab
import Derived.Lib.LaidIn
import Derived.Stop.LaidErr
import Derived.Handed
import Derived.Stop.Joined
namespace Go.Proofs.YtnlleofnjkeimaaGreatDoor.Dm
open Go Go.ChangeShapes Go.WideShapes Go.ChangeAt Go.RowKit
noncomputable def cellsOf:DataW Unit→Array Value
 | .agg l=>(l.map fun| .lit (.int k z)=>Value.int k z|_=>Go.undef).toArray
 |_=> #[]
noncomputable def Iw (d:DataW Unit):Obj→Obj
 | .cells _ t frozen=> .cells (cellsOf d) t frozen
 |o=>o
noncomputable def Cg (os:Os):World:=
 let w0:=World.holding Tryz.prog os ⟨#[], #[],[]⟩
 { w0 with heap:=((w0.heap.modify 0 (Iw Rows.laid_internal_strconv_uint64pow10)).modify 1 (Iw Rows.laid_math_bits_deBruijn32tab)).modify 2 (Iw Rows.laid_math_bits_deBruijn64tab) }
theorem agc:Tryz.prog.globalNamed "internal/strconv.uint64pow10" =some 0:=by kernel_rfl
theorem T1 {W:World} {l:List (String×DataW Unit)} (hL:laidMet Tryz.prog (("internal/strconv.uint64pow10", Lib.tabData .u64 Lib.pow10Tab)::l) W):K2 (λb=>b<W.heap.size) W:=by
 have ht:Lib.TabIs Tryz.prog W "internal/strconv.uint64pow10" .u64 Lib.pow10Tab:=Lib.tabIs_of_head (t:=156) (e:=136) (n:=20) agc (by kernel_rfl) (by kernel_rfl) (by kernel_rfl) (by kernel_rfl) (by kernel_rfl) hL;intro p hp;have hp:p=(0,MQ (Lib.pow10Tab.map λz=>Value.int .u64 z).toArray):=by simpa [MR] using hp
 subst hp;unfold Lib.TabIs World.var? at ht;rw [agc] at ht;simp only [Option.bind_some] at ht;cases h:W.heap[0]? with
 |none=>rw [h] at ht;cases ht
 |some o=>
  rw [h] at ht;cases o with
  |cells cs E n=>
   obtain rfl:=Option.some.inj ht;exact ⟨(Array.getElem?_eq_some_iff.1 h).1,_,rfl,E,n,rfl⟩
  |_=>cases ht
abbrev VR:=(List UInt8×Int×Int×Unit)×(bw×Unit)
def Ch:VR→Out (Round VR ((Int×Unit)×(bw×Unit)) Empty)
|((p0,p1,p2,_),(p3,p4,p5,p6,p7,p8,p9,cH,cK,_),_)=> .ite (decide (p2<((List.length p0:Nat):Int))) (.ite (decide (0≤p2)) (.get (nth p0 (Int.toNat p2)) λy1=> .ite ((((UInt8.toNat y1:Nat):Int)==(10:Int))) (.ret (.again ((p0,(IntKind.i64.wrap (p1+(1:Int))),(IntKind.i64.wrap (p2+(1:Int))),()),((p3,p4,p5,p6,p7,p8,p9,cH,cK,()),())))) (.ret (.again ((p0,p1,(IntKind.i64.wrap (p2+(1:Int))),()),((p3,p4,p5,p6,p7,p8,p9,cH,cK,()),()))))) .fail) (.ret (.out ((p1,()),((p3,p4,p5,p6,p7,p8,p9,cH,cK,()),()))))
abbrev VS:=(Int×Int×Int×Unit)×(bw×Unit)
def Ci:VS→Out (Round VS ((Int×Int×Unit)×(bw×Unit)) Empty)
|((p0,p1,p2,_),(p3,p4,p5,p6,p7,p8,p9,cH,cK,_),_)=> .ite (decide (p2<((List.length p6:Nat):Int))) (.ite (decide (0≤p2)) (.get (nth p6 (Int.toNat p2)) λy1=> .get (Ff ((p3,p4,p5,p6,p7,p8,p9,cH,cK,()),(y1.1,()),())) λ((cm,_),_)=> .ret (.again ((p0,(IntKind.i64.wrap (p1+((List.length cm.1:Nat):Int))),(IntKind.i64.wrap (p2+(1:Int))),()),((p3,p4,p5,p6,p7,p8,p9,cH,cK,()),())))) .fail) (.ret (.out ((p0,p1,()),((p3,p4,p5,p6,p7,p8,p9,cH,cK,()),()))))
def xQ (a0:List Int):Out (((Bool×Unit)×Unit)×(Unit×Unit)):= .ite (Xb a0) (.ret (((true,()),()),((),()))) (.get (adT ((a0,()),())) λ((cP,_),_)=> .get (Rr cP.1 cP.2.1 cP.2.2.1 cP.2.2.2.1 cP.2.2.2.2.1 cP.2.2.2.2.2.1 cP.2.2.2.2.2.2.1 cP.2.2.2.2.2.2.2.1 cP.2.2.2.2.2.2.2.2.1) λy2=> .get (sE cP.1 cP.2.1 cP.2.2.1 cP.2.2.2.1 cP.2.2.2.2.1 cP.2.2.2.2.2.1 cP.2.2.2.2.2.2.1 cP.2.2.2.2.2.2.2.1 cP.2.2.2.2.2.2.2.2.1) λy3=> .get (Rr cP.1 cP.2.1 cP.2.2.1 cP.2.2.2.1 cP.2.2.2.2.1 cP.2.2.2.2.2.1 cP.2.2.2.2.2.2.1 cP.2.2.2.2.2.2.2.1 cP.2.2.2.2.2.2.2.2.1) λy4=> .ite ((y2 != y4)==false) (.get (sE cP.1 cP.2.1 cP.2.2.1 cP.2.2.2.1 cP.2.2.2.2.1 cP.2.2.2.2.2.1 cP.2.2.2.2.2.2.1 cP.2.2.2.2.2.2.2.1 cP.2.2.2.2.2.2.2.2.1) λy5=> .ite (y3 != y5) (.ret (((false,()),()),((),()))) (.ite (!(b5 cP.1 cP.2.1 cP.2.2.1 cP.2.2.2.1 cP.2.2.2.2.1 cP.2.2.2.2.2.1 cP.2.2.2.2.2.2.1 cP.2.2.2.2.2.2.2.1 cP.2.2.2.2.2.2.2.2.1)) (.ite ((y2==([]:List UInt8))==true) (.ite ((y3==([]:List UInt8))==true) (.get (Ff (cP,((1:Int),()),())) λ((oB,_),_)=> .ret (((((((List.length oB.1:Nat):Int)==(0:Int))),()),()),((),()))) (.ret (((false,()),()),((),())))) (.ret (((false,()),()),((),())))) (.get (bx Ch bc ((y2,(0:Int),(0:Int),()),((cP.1,cP.2.1,cP.2.2.1,cP.2.2.2.1,cP.2.2.2.2.1,cP.2.2.2.2.2.1,cP.2.2.2.2.2.2.1,cP.2.2.2.2.2.2.2.1,cP.2.2.2.2.2.2.2.2.1,()),()))) λy7=> .get (Ff ((y7.2.1.1,y7.2.1.2.1,y7.2.1.2.2.1,y7.2.1.2.2.2.1,y7.2.1.2.2.2.2.1,y7.2.1.2.2.2.2.2.1,y7.2.1.2.2.2.2.2.2.1,y7.2.1.2.2.2.2.2.2.2.1,y7.2.1.2.2.2.2.2.2.2.2.1,()),((0:Int),()),())) λ((lf,_),_)=> .get (bx Ci bc ((y7.1.1,((List.length lf.1:Nat):Int),(0:Int),()),((y7.2.1.1,y7.2.1.2.1,y7.2.1.2.2.1,y7.2.1.2.2.2.1,y7.2.1.2.2.2.2.1,y7.2.1.2.2.2.2.2.1,y7.2.1.2.2.2.2.2.2.1,y7.2.1.2.2.2.2.2.2.2.1,y7.2.1.2.2.2.2.2.2.2.2.1,()),()))) λy9=> .ite (((y9.1.1==((List.length y9.2.1.2.2.2.1:Nat):Int)))==true) (.ret (((((y9.1.2.1==y9.1.1)),()),()),((),()))) (.ret (((false,()),()),((),())))))) (.ret (((false,()),()),((),()))))
abbrev Kj:List (Nat×eA):=[(64000000, .var [.i .i64, .i .i64, .ro (.fz dk) none, .ro kR none, .ro dZ none, .ro dj none, .ro dj none, .ro (.int .i64) none, .ro (.int .i64) none])]
def ajJ:Nat→Option aq:=λn=>b6 [(0,⟨⟨[.dead, .dead, .dead, .vptr 64000000 0, .s, .dead, .i .i64, .i .i64]++dd 78,Kj⟩,⟨[.dead, .dead, .dead, .vptr 64000000 0, .dead, .dead, .i .i64]++dd 79,Kj⟩,none,false⟩),(2,⟨⟨[.dead, .dead, .dead, .vptr 64000000 0, .dead, .dead, .i .i64, .dead, .i .i64, .i .i64]++dd 76,Kj⟩,⟨[.dead, .dead, .dead, .vptr 64000000 0, .dead, .dead, .i .i64, .dead, .i .i64]++dd 77,Kj⟩,none,false⟩)] n
def ab5 (_:List Int):Bool:=true
def k3:bZ:={ f:=3,lend:=true,aJ:=[⟨false,false,[.ro (.int .u8)]⟩],lay:=[none],rs:=[⟨false,false,[.b]⟩],F:=λx=> .ret ((((ab5 x.1.1),()),()),((),())) }
theorem agd (x:au k3.aJ):bo [k4,k5,k6,k7,k8,k9,LN,k11] ajJ Tryz.f3 k3 [.tmp 2] x=xQ x.1.1:=by kernel_rfl
theorem age (hr:∀ x:(List Int×Unit)×Unit,aD k3.aJ x→(xQ x.1.1).eval=(k3.F x).eval):k3.Ok Tryz.prog:=aO [k4,k5,k6,k7,k8,k9,LN,k11] ⟨adD,adU,adl,adp,adj,adn,Hl,Xh,trivial⟩ agd λx hw _ hy=>(hr x hw).trans hy
theorem agf:k3.Ok Tryz.prog:=by
 refine age λx hw=> ?_;obtain ⟨⟨c,_⟩,_⟩:=x;have hc:c.length≤aM:=hw.1.1.1;have hL:bA=68719476736:=rfl;have hB:aM=9223372036854775807:=rfl;show (xQ c).eval=some (((true,()),()),((),()));unfold xQ;by_cases hb:Xb c=true
 . rw [ab hb];rfl
 rw [ae (by simpa using hb)];obtain ⟨⟨⟨u,_⟩,_⟩,d1,hy⟩:=Hu hc;have hy:wB u:=hy;have hps:(bm u).length≤7:=hy.np;have Et:(qU u).length≤7:=hy.rd;have e1:Rr u.1 u.2.1 u.2.2.1 (bm u) (eP u) (oG u) (od u) (qU u) (GL u)=some (psV u.1 u.2.1 u.2.2.1 (bm u) (eP u) (oG u) (od u) (qU u) (GL u)):=if_pos (by omega);have e2:sE u.1 u.2.1 u.2.2.1 (bm u) (eP u) (oG u) (od u) (qU u) (GL u)=some (E4 u.1 u.2.1 u.2.2.1 (bm u) (eP u) (oG u) (od u) (qU u) (GL u)):=if_pos (by omega);have hK:=λw=>Xj (u:=u) (v:=w) (by omega) (by omega);refine zG ?_ d1;refine zG ?_ e1;refine zG ?_ e2;refine zG ?_ e1;refine zT ?_ (by rw [bne_self_eq_false];rfl);refine zG ?_ e2;refine zF ?_ (bne_self_eq_false _);cases hk:Hv u with
 |false=>
  have kH:¬ Hv u=true:=by rw [hk];decide
  have s1:psV u.1 u.2.1 u.2.2.1 (bm u) (eP u) (oG u) (od u) (qU u) (GL u)=[]:=if_neg kH;have s2:E4 u.1 u.2.1 u.2.2.1 (bm u) (eP u) (oG u) (od u) (qU u) (GL u)=[]:=if_neg kH;have hK1:=hK 1;rw [if_neg kH] at hK1;rw [s1,s2];refine zT ?_ (by show (!Hv u)=true;rw [hk];rfl);refine zT ?_ rfl;refine zT ?_ rfl;exact zG rfl hK1
 |true=>
  have hR:ib u:=Bm.1 hk;have s1:psV u.1 u.2.1 u.2.2.1 (bm u) (eP u) (oG u) (od u) (qU u) (GL u)=(bm u).flatMap ic:=if_pos hk;have hlen:=jg ic 80 (bm u) λx hx=>rQ (yu hk x hx);refine zF ?_ (by show (!Hv u)=false;rw [hk];rfl);rw [s1];have Tu:=Us (bm u);have hks:=Hn hR;generalize hs:(bm u).flatMap ic=s at hlen Tu;have hK':∀ w,Ff (u,(w,()),())=some (((fa (bm u) w,()),()),((),(),())):=λw=>by rw [hK w,if_pos hk]
  have hkl:=λw=>RG (v:=w) (bm u);have h1:=foldl_loop (f:=Ch) (λ(n:Int) i=>0≤n∧n≤(i:Int)) (λn b=>if b=10 then n+1 else n) s (λn i=>((s,n,(i:Int),()),(u,()))) (λn=>((n,()),(u,()))) (λi hi n hn=> ?_) (λn _=> ?_) (λi hi n hn=> ?_) (by omega) 0 ⟨Int.le_refl 0,Int.le_refl 0⟩
  . have h2:=foldl_loop (f:=Ci) (λ(m:Int) i=>0≤m∧m≤((7*i+7:Nat):Int)) (λm p=>m+(((fa (bm u) p.1).length:Nat):Int)) (bm u) (λm i=>(((((bm u).length:Nat):Int),m,(i:Int),()),(u,()))) (λm=>(((((bm u).length:Nat):Int),m,()),(u,()))) (λi hi m hm=> ?_) (λm _=> ?_) (λi hi m hm=> ?_) (by omega) (((fa (bm u) 0).length:Nat):Int) ⟨by omega,by have:=hkl 0;omega⟩
    . rw [yG,Tu,Int.zero_add] at h1
      rw [Fg (f:=λp=>(fa (bm u) p.1).length), ← Int.natCast_add,hks] at h2;refine zG ?_ h1;refine zG ?_ (hK' 0);refine zG ?_ h2;refine zT ?_ (by simp);simp [Out.eval]
    . have hn:nth (bm u) i=some (bm u)[i]:=List.getElem?_eq_getElem hi
      have hw:IntKind.i64.wrap ((i:Int)+1)=((i+1:Nat):Int):=aw (by omega);have hq:=hkl (bm u)[i].1;have hw2:IntKind.i64.wrap (m+(((fa (bm u) (bm u)[i].1).length:Nat):Int))=m+(((fa (bm u) (bm u)[i].1).length:Nat):Int):=b7 (by omega) (by omega);show Out.eval (Ci _)=_;unfold Ci;simp only [Int.toNat_natCast,hw];refine zT ?_ (decide_eq_true (show (i:Int)<(((bm u).length:Nat):Int) by omega));refine zT ?_ (decide_eq_true (by omega));refine zG ?_ hn;refine zG ?_ (hK' (bm u)[i].1);simp only [hw2];rfl
    . show Out.eval (Ci _)=_
      unfold Ci;refine zF ?_ (decide_eq_false (by simp));rfl
    . have hq:=hkl (bm u)[i].1
      try dsimp only
      omega
  . have Ud:nth s i=some s[i]:=List.getElem?_eq_getElem hi
    have hw:IntKind.i64.wrap ((i:Int)+1)=((i+1:Nat):Int):=aw (by omega);have hw2:IntKind.i64.wrap (n+1)=n+1:=b7 (by omega) (by omega);show Out.eval (Ch _)=_;unfold Ch;simp only [Int.toNat_natCast,hw,hw2];refine zT ?_ (decide_eq_true (by omega));refine zT ?_ (decide_eq_true (by omega));refine zG ?_ Ud;by_cases e:s[i]=10
    . rw [if_pos e]
      refine zT ?_ (by rw [e];rfl);rfl
    . rw [if_neg e]
      refine zF ?_ (beq_false_of_ne λk=>e (UInt8.toNat_inj.1 (by have k:((s[i].toNat:Nat):Int)=10:=k;show s[i].toNat=10;omega)));rfl
  . show Out.eval (Ch _)=_
    unfold Ch;refine zF ?_ (decide_eq_false (by simp));rfl
  . try dsimp only
    split<;>omega
theorem ab6:ownKnob Tryz.prog.godebug=none:=by kernel_rfl
set_option maxRecDepth 100000 in
theorem GH (H:Type) (enc:TypeId×Value→H) (W:World) (base:Nat) (args:Array Value) (ds gs:List (DataW H)) (before:List MemPlace)
  (H7:∀ (j:Nat) t v,Tryz.f3.params[j]? =some t→args[j]? =some v→Value.okWide Tryz.prog W .any base t v)
  (hL:laidMetH Tryz.prog Rows.fnPsRow.laid W) (hW:DataW.Whole enc Tryz.prog Tryz.f3.params.toList Rows.fnPsSpec.vars false W args.toList ds gs before):
  Calls Tryz.prog 3 args W λe W'=>∃ v,e= .returned v∧Rows.fnPsSpec.post enc Tryz.prog Tryz.f3 false true false false W args v W':=by
 have hW':=hW;obtain ⟨p,q,hA0,hV,rfl,_,_⟩:=hW;have hA:DataW.TrodAll enc Tryz.prog W 0 (λ_=>true) true [22] args.toList ds p:=hA0;have bS:=hW'.lt;obtain ⟨rfl,rfl⟩:=trodVars_none hV;simp only [List.append_nil] at hW' bS;have hlen:ds.length=1:=(trodAll_length hA).2;obtain ⟨d0,e0⟩:=List.length_eq_one_iff.1 hlen;subst e0;have hu:Tryz.prog.underlying 4=some .bool:=by kernel_rfl
 refine (LD (ts:=[(.sl (.int .u8))]) (tids:=[22]) (f:=3) (lend:=k3.lend) (F:=k3.F) agf (GF (by kernel_rfl)) (λx hw=> ?_) (b0:=base) (λj t v ht hv=>H7 j t v ?_ hv) hA (T1 (l:=[]) (show laidMet Tryz.prog _ _ from hL).tail.tail)).mono λe W' ⟨he,hg,hs⟩=> ?_
 . exact ⟨_,rfl⟩
 . rw [← ht,Tryz.params3];first|rfl|simp
 . subst he
   exact ⟨_,rfl,Em (pa:=p) (pv:=[]) hW' (λ_ _ _=>trodAll_mk1 (shut_bool hu true)) (λsp Kv=>rB (by kernel_rfl) hs (by kernel_rfl) hA bS Kv) (λ_ _=>rfl) (by simp) hg (ok_one (by kernel_rfl) rfl (okWide_bool_mk hu true))⟩
set_option maxRecDepth 100000 in
theorem ab7 (os:Os):laidMetH Tryz.prog Rows.fnPsRow.laid ((Cg os).forCall (λ_ _=>0) ⟨#[], #[.slice none 0 0],[]⟩).memory:=
 show laidMet Tryz.prog Rows.fnPsRow.laid _ from (LaidIn.of_run [0,1,2] 8 (by kernel_rfl) (by kernel_rfl) (by kernel_rfl) (by kernel_rfl)).met
set_option maxRecDepth 100000 in
theorem LF (os:Os) (started:os.Started) (H:Type) (enc:TypeId×Value→H):
  ReturnsInHanded {} Tryz.checked os 3 .any (λw args=>(Rows.fnPsSpec.pre enc Tryz.prog Tryz.f3 [] false w args∧laidMetH Tryz.prog Rows.fnPsRow.laid w)∧sizedMet enc Tryz.prog Tryz.f3 (OpenSpec.ofChange Rows.fnPsSpec) false w args)
   (Rows.fnPsSpec.post enc Tryz.prog Tryz.f3 false true false false):=by
 refine returnsInHanded_of_change_and (C:=Tryz.checked) (X:=λw _=>laidMetH Tryz.prog Rows.fnPsRow.laid w) (λ_ _ _ hh h=>h.of_heap hh) ab6 started (by kernel_rfl) Tryz.func3
  (ChangeSpec.witness_at (enc:=enc) (C:=Tryz.checked) (os:=os) (X:=λw _=>laidMetH Tryz.prog Rows.fnPsRow.laid w) false (Cg os) #[.slice none 0 0] 8 rfl (by kernel_rfl) (by kernel_rfl) (by kernel_rfl) (by kernel_rfl) (by kernel_rfl) (ab7 os)) ?_
 intro W base args ds gs before H7 hW _ _ hL _;exact GH H enc W base args ds gs before H7 hL hW
theorem LG:joinedFacts Tryz.prog 3 Tryz.f3 Rows.fnPsSpec Rows.fnPsRow=true:=by
 unfold joinedFacts;rw [EB,L2,QR]
 kernel_rfl
theorem T3:Rows.FnPsSaid:=
 OpenClaim.holds_of_wide 3 Tryz.f3 rfl rfl rfl rfl rfl rfl rfl ⟨rfl,rfl,rfl,rfl,rfl⟩ rfl rfl rfl rfl rfl (by kernel_rfl) Tryz.func3 LG
  (of_decide_eq_true (by kernel_rfl)) (by unfold Func.isWrapper;first|(rw [if_pos (by decide+kernel)];kernel_rfl)|(rw [if_neg (by decide+kernel)];exact ⟨rfl,rfl⟩))
  (λos started H enc _=>LF os started H enc)
end Go.Proofs.YtnlleofnjkeimaaGreatDoor.Dm
namespace Go.Proofs.YtnlleofnjkeimaaGreatDoor
theorem Qs:Rows.FnPsSaid:=Dm.T3
set_option maxRecDepth 100000 in
theorem fnPs_said:Rows.FnPsCardSaid:=
 Claim7.holds_tied_plain_at .later [] [.data, .data, .data] true (true, "8085526362f24b2bf67fb7735f845da1c68b39da9dde2869e49510c67edbc75a") false
  Qs (λ_ h=>by cases h) (by kernel_rfl) (λ_ h=>by cases h) fnPs_row_tie rfl ⟨rfl,rfl⟩ (by kernel_rfl) rfl
  (λf fn hf Ro=>by
   obtain rfl:f=3:=Option.some.inj ((show Tryz.prog.funcNamed "loop.example/g00781/laws.FnPs" =some 3 by kernel_rfl).symm.trans hf) |>.symm;obtain rfl:fn=Tryz.f3:=(Option.some.inj (Tryz.func3.symm.trans Ro)).symm;exact ⟨by kernel_rfl,λj t ht=>by
    rw [Tryz.params3] at ht;have h3:t=22:=by
     rcases j with _|j
     . simpa using ht.symm
     . simp at ht
    subst h3;exact (show Tryz.prog.wantsStandIn 22=false by kernel_rfl)⟩)
  (by kernel_rfl)
end Go.Proofs.YtnlleofnjkeimaaGreatDoor
namespace Go.Proofs.YtnlleofnjkeimaaGreatDoor.Dm
end Go.Proofs.YtnlleofnjkeimaaGreatDoor.Dm
