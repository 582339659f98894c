/- f -/
import Derived.Test.YtohagdoklnkljaaGreatJ12
import Derived.Test.YtohagdoklnkljaaGreatFacts
import Derived.Test.YtohagdoklnkljaaGreatRows
import Derived.ChangeCalls
namespace Go.Proofs.YtohagdoklnkljaaGreat.Dm
open Go Go.ChangeShapes Go.WideShapes Go.ChangeAt Go.RowKit
def zF (a0:List Int):Out (((Bool×Unit)×Unit)×(Unit×Unit)):=
 .ite (adH a0)
 (.ret (((true,()),()),((),())))
 (.get (aar ((a0,()),())) fun ((eu,_),_)=>
 .get (L9 (eu,())) fun ((b9,_),_)=>
 .get (aau (eu,())) fun ((dF,_),_)=>
 .ite (!(b9.1==dF.1))
 (.ret (((false,()),()),((),())))
 (.get (PF (eu,())) fun ((gA,_),_)=>
 .get (aah (eu,())) fun ((ja,_),_)=>
 .get (aaA (gA,ja,())) fun ((lp,_),_)=>
 .ite (!lp.1)
 (.ret (((false,()),()),((),())))
 (.ite ((!b9.1)==false)
 (.get (Z1 (eu,())) fun ((kR,_),_)=>
 .get (L9 (kR,())) fun ((lP,_),_)=>
 .ite (lP.1==true)
 (.ite (((eu.2.1==(1000000:Int)))==false)
 (.get (PF (eu,())) fun ((uE,_),_)=>
 .get (L9 (uE,())) fun ((m3,_),_)=>
 .ite (m3.1==true)
 (.get (La (eu,())) fun ((tE,_),_)=>
 .ret (((((((List.length tE.1:Nat):Int)==(0:Int))),()),()),((),())))
 (.ret (((false,()),()),((),()))))
 (.get (La (eu,())) fun ((m4,_),_)=>
 .ret (((((((List.length m4.1:Nat):Int)==(0:Int))),()),()),((),()))))
 (.ret (((false,()),()),((),()))))
 (.ret (((true,()),()),((),()))))))
def afE (_:List Int):Bool:=true
def k5:bM:={ f:=5,lend:=true,aK:=[⟨false,false,[.ro (.int .u8)]⟩],lay:=[none],rs:=[⟨false,false,[.b]⟩],F:=fun x=> .ret ((((afE x.1.1),()),()),((),())) }
theorem ajz (x:az k5.aK):bo [k7,k19,k20,k21,k22,k23,k11,k24,k25] (fun _=>none) Tryz.f5 k5 [.tmp 2] x=zF x.1.1:=by kernel_rfl
theorem ajA (hr:∀ x:(List Int×Unit)×Unit,aD k5.aK x→(zF x.1.1).eval=(k5.F x).eval):k5.Ok Tryz.prog:=aU [k7,k19,k20,k21,k22,k23,k11,k24,k25] ⟨ahH,adN,adW,adU,abC,adr,ad1,abB,PC,trivial⟩ ajz fun x hw _ hy=>(hr x hw).trans hy
theorem ajB:k5.Ok Tryz.prog:=by
 refine ajA fun x hw=> ?_;obtain ⟨⟨c,_⟩,_⟩:=x;have hc:c.length≤aS:=hw.1.1.1;show (zF c).eval=some (((true,()),()),((),()));unfold zF;by_cases hb:adH c=true
 . rw [ab hb];rfl
 rw [ae (by simpa using hb)];obtain ⟨⟨⟨u,_⟩,_⟩,d1,hy⟩:=Ob hc;have hu:=AJ (show lk u from hy);refine (aa d1).trans ?_;refine (aa (AI hu.ps hu.rd)).trans ?_;refine (aa (RV hu.ps)).trans ?_;refine (ae (by cases iW u<;>rfl)).trans ?_;refine (aa (Mg hu.rd)).trans ?_;refine (aa (adx u)).trans ?_;refine (aa (ad3 tS)).trans ?_;refine (ae rfl).trans ?_;cases hs:iW u with
 |false=>rfl
 |true=>
  have hR:=FH hs;have hr:=Hh hs;refine (ab rfl).trans ?_;refine (aa (J7 hR hr)).trans ?_;refine (aa (AI hu.ps hu.rd)).trans ?_;refine (ab (by show (iW u==true)=true;rw [hs];rfl)).trans ?_;by_cases ht:u.2.1=1000000
  . refine (ae (by show ((u.2.1==1000000)==false)=false;rw [ht];rfl)).trans ?_
    exact (aa (FF hR hr)).trans rfl
  . refine (ab (by rw [show (u.2.1==1000000)=false from beq_false_of_ne ht];rfl)).trans ?_
    refine (aa (Mg hu.rd)).trans ?_;refine (aa (AI tS.ps tS.rd)).trans ?_;refine (ab (by show (iW (xT u)==true)=true;rw [show xT u=mI u from if_pos hR,J9 hs ht];rfl)).trans ?_;exact (aa (FF hR hr)).trans rfl
theorem afF:ownKnob Tryz.prog.godebug=none:=by kernel_rfl
set_option maxRecDepth 100000 in
theorem IX (H:Type) (enc:TypeId×Value→H) (W:World) (base:Nat) (args:Array Value) (ds gs:List (DataW H)) (before:List MemPlace)
  (Kx:∀ (j:Nat) t v,Tryz.f5.params[j]? =some t→args[j]? =some v→Value.okWide Tryz.prog W .any base t v)
  (hW:DataW.Whole enc Tryz.prog Tryz.f5.params.toList Rows.fnStuckSpec.vars false W args.toList ds gs before):
  Calls Tryz.prog 5 args W fun e W'=>∃ v,e= .returned v∧Rows.fnStuckSpec.post enc Tryz.prog Tryz.f5 false true false false W args v W':=by
 have hW':=hW;obtain ⟨p,q,hA0,hV,rfl,_,_⟩:=hW;have hA:DataW.TrodAll enc Tryz.prog W 0 (fun _=>true) true [22] args.toList ds p:=hA0;have bZ:=hW'.lt;obtain ⟨rfl,rfl⟩:=trodVars_none hV;simp only [List.append_nil] at hW' bZ;have hlen:ds.length=1:=(trodAll_length hA).2;obtain ⟨d0,e0⟩:=List.length_eq_one_iff.1 hlen;subst e0;have hu:Tryz.prog.underlying 4=some .bool:=by kernel_rfl
 refine (OZ (ts:=[(.sl (.int .u8))]) (tids:=[22]) (f:=5) (lend:=k5.lend) (F:=k5.F) ajB (IU (by kernel_rfl)) (fun x hw=> ?_) (b0:=base) (fun j t v ht hv=>Kx j t v ?_ hv) hA).mono fun e W' ⟨he,hg,hs⟩=> ?_
 . exact ⟨_,rfl⟩
 . rw [← ht,Tryz.params5];first|rfl|simp
 . subst he
   exact ⟨_,rfl,Gj (pa:=p) (pv:=[]) hW' (fun _ _ _=>trodAll_mk1 (shut_bool hu true)) (fun sp NY=>tv (by kernel_rfl) hs (by kernel_rfl) hA bZ NY) (fun _ _=>rfl) (by simp) hg (ok_one (by kernel_rfl) rfl (okWide_bool_mk hu true))⟩
set_option maxRecDepth 100000 in
theorem O0 (os:Os) (started:os.Started) (H:Type) (enc:TypeId×Value→H):
  ReturnsInHanded {} Tryz.checked os 5 .any (Rows.fnStuckSpec.pre6 enc Tryz.prog Tryz.f5 Rows.fnStuckRow.domain false) (Rows.fnStuckSpec.post enc Tryz.prog Tryz.f5 false true false false):=by
 refine returnsInHanded_of_change (C:=Tryz.checked) afF started (by kernel_rfl) Tryz.func5
  (ChangeSpec.witness6 (enc:=enc) (C:=Tryz.checked) false ⟨#[], #[.slice none 0 0],[]⟩ 8 (by kernel_rfl) (by kernel_rfl) (by kernel_rfl) (by kernel_rfl)) ?_
 intro W base args ds gs before Kx hW _ _;exact IX H enc W base args ds gs before Kx hW
theorem O1:joinedFacts Tryz.prog 5 Tryz.f5 Rows.fnStuckSpec Rows.fnStuckRow=true:=by
 unfold joinedFacts;rw [GC,Pf,UD]
 kernel_rfl
theorem ZP:Rows.FnStuckSaid:=
 OpenClaim.holds_of_wide 5 Tryz.f5 rfl rfl rfl rfl rfl rfl rfl ⟨rfl,rfl,rfl,rfl,rfl⟩ rfl rfl rfl rfl rfl (by kernel_rfl) Tryz.func5 O1
  (of_decide_eq_true (by kernel_rfl)) (by unfold Func.isWrapper;first|(rw [if_pos (by decide+kernel)];kernel_rfl)|(rw [if_neg (by decide+kernel)];exact ⟨rfl,rfl⟩))
  (fun os started H enc _=>O0 os started H enc)
end Go.Proofs.YtohagdoklnkljaaGreat.Dm
namespace Go.Proofs.YtohagdoklnkljaaGreat
theorem fnStuck_said:Rows.FnStuckSaid:=Dm.ZP
end Go.Proofs.YtohagdoklnkljaaGreat
namespace Go.Proofs.YtohagdoklnkljaaGreat.Dm
end Go.Proofs.YtohagdoklnkljaaGreat.Dm
