/- The statement FnUnixText: for every code what there is is read from the text that it is shown as, and no other text is read. Conditions: none but those of the given statement. -/
import Derived.Test.YtkmhgofibfmjfaaGreatJ12
import Derived.Test.YtkmhgofibfmjfaaGreatFacts
import Derived.Test.YtkmhgofibfmjfaaGreatRows
import Derived.ChangeCalls
namespace Go.Proofs.YtkmhgofibfmjfaaGreat.Dm
open Go Go.ChangeShapes Go.WideShapes Go.ChangeAt Go.RowKit
def BQ (a0:List Int):Out ci:= .ite (ahJ a0) (.ret (((true,()),()),((),()))) (.get (anU ((a0,()),())) λ((fC,_),_)=> .get (eB fC.1 fC.2.1 fC.2.2.1 fC.2.2.2.1 fC.2.2.2.2.1 fC.2.2.2.2.2.1 fC.2.2.2.2.2.2.1 fC.2.2.2.2.2.2.2.1 fC.2.2.2.2.2.2.2.2.1) λy2=> .ite ((!((ao y2).2.2.2.2.2.2.2.2.2==(cw fC.1 fC.2.1 fC.2.2.1 fC.2.2.2.1 fC.2.2.2.2.1 fC.2.2.2.2.2.1 fC.2.2.2.2.2.2.1 fC.2.2.2.2.2.2.2.1 fC.2.2.2.2.2.2.2.2.1)))==false) (.ite ((ao y2).2.2.2.2.2.2.2.2.2==true) (.get (an2 (((ao y2).1,(ao y2).2.1,(ao y2).2.2.1,(ao y2).2.2.2.1,(ao y2).2.2.2.2.1,(ao y2).2.2.2.2.2.1,(ao y2).2.2.2.2.2.2.1,(ao y2).2.2.2.2.2.2.2.1,(ao y2).2.2.2.2.2.2.2.2.1,()),fC,())) λ((dW,_),_)=> .ite (!dW.1) (.ret (((false,()),()),((),()))) (.get (U1 ((a0,()),())) λ((gD,_),_)=> .ite (((ao gD.1).2.2.2.2.2.2.2.2.2==(ao gD.1).2.2.2.2.2.2.2.2.2)==true) (.ite ((!(ao gD.1).2.2.2.2.2.2.2.2.2)==false) (.get (eB (ao gD.1).1 (ao gD.1).2.1 (ao gD.1).2.2.1 (ao gD.1).2.2.2.1 (ao gD.1).2.2.2.2.1 (ao gD.1).2.2.2.2.2.1 (ao gD.1).2.2.2.2.2.2.1 (ao gD.1).2.2.2.2.2.2.2.1 (ao gD.1).2.2.2.2.2.2.2.2.1) λy5=> .ret ((((y5==gD.1),()),()),((),()))) (.ret (((true,()),()),((),())))) (.ret (((false,()),()),((),()))))) (.get (U1 ((a0,()),())) λ((mH,_),_)=> .ite (((ao mH.1).2.2.2.2.2.2.2.2.2==(ao mH.1).2.2.2.2.2.2.2.2.2)==true) (.ite ((!(ao mH.1).2.2.2.2.2.2.2.2.2)==false) (.get (eB (ao mH.1).1 (ao mH.1).2.1 (ao mH.1).2.2.1 (ao mH.1).2.2.2.1 (ao mH.1).2.2.2.2.1 (ao mH.1).2.2.2.2.2.1 (ao mH.1).2.2.2.2.2.2.1 (ao mH.1).2.2.2.2.2.2.2.1 (ao mH.1).2.2.2.2.2.2.2.2.1) λy7=> .ret ((((y7==mH.1),()),()),((),()))) (.ret (((true,()),()),((),())))) (.ret (((false,()),()),((),()))))) (.ret (((false,()),()),((),()))))
def al2 (_:List Int):Bool:=true
def k3:bK:={ f:=3,lend:=true,aF:=[GE],lay:=[none],rs:=[wn],F:=λx=> .ret ((((al2 x.1.1),()),()),((),())) }
theorem aqr (x:aw k3.aF):bo [k4,k5,k7,k6,k8,k9,k10,k11] (λ_=>none) Tryz.f3 k3 [.tmp 2] x=BQ x.1.1:=by kernel_rfl
theorem aqs (hr:∀ x:(List Int×Unit)×Unit,aB k3.aF x→(BQ x.1.1).eval=(k3.F x).eval):k3.Ok acl:=aD [k4,k5,k7,k6,k8,k9,k10,k11] ⟨anK,anV,ad4,ano,ad8,an3,ahR,ahl,trivial⟩ aqr λx hw _ hy=>(hr x hw).trans hy
theorem aqt:k3.Ok acl:=by
 refine aqs λx hw=> ?_;obtain ⟨⟨c,_⟩,_⟩:=x;have hc:c.length≤cj:=hw.1.1.1;have hL:bn=68719476736:=rfl;show (BQ c).eval=some (((true,()),()),((),()));unfold BQ;by_cases hb:ahJ c=true
 . rw [ab hb];rfl
 rw [ae (by simpa using hb)];obtain ⟨⟨⟨u,_⟩,_⟩,d1,hy⟩:=Iv hc;have hy:wT u:=hy;have hr:(oZ u).length≤1000:=Nat.le_trans hy.rd (by omega);obtain ⟨⟨⟨⟨t,_⟩,_⟩,_⟩,d2,_⟩:=Iw hc;have hs:eB (ao t).1 (ao t).2.1 (ao t).2.2.1 (ao t).2.2.2.1 (ao t).2.2.2.2.1 (ao t).2.2.2.2.2.1 (ao t).2.2.2.2.2.2.1 (ao t).2.2.2.2.2.2.2.1 (ao t).2.2.2.2.2.2.2.2.1=some (fM (ao t).1 (ao t).2.1 (ao t).2.2.1 (ao t).2.2.2.1 (ao t).2.2.2.2.1 (ao t).2.2.2.2.2.1 (ao t).2.2.2.2.2.2.1 (ao t).2.2.2.2.2.2.2.1 (ao t).2.2.2.2.2.2.2.2.1):=if_pos (by have:=aal t;omega);refine zG ?_ d1;refine zG ?_ (Pg hr);cases hk:aak u with
 |true=>
  have hR:gU u:=yL.1 hk;rw [Nj hR ⟨λp hp=>(hy.pr p hp).2.2.2⟩];refine zT ?_ (by show ((!(true==aak u))==false)=true;rw [hk];rfl);refine zT ?_ rfl;refine zG ?_ (ah0 (Nv hy));refine zF ?_ rfl;refine zG ?_ d2;dsimp only;cases e:(ao t).2.2.2.2.2.2.2.2.2 with
  |false=>rfl
  |true=>
   refine zT ?_ rfl;refine zT ?_ rfl;refine zG ?_ hs;rw [O1 e];simp [Out.eval]
 |false=>
  rw [show fM u.1 u.2.1 u.2.2.1 (bE u) (eY u) (nW u) (nT u) (oZ u) (Ca u)=[] from if_neg (by show ¬ aak u=true;rw [hk];decide)];refine zT ?_ (by show ((!(false==aak u))==false)=true;rw [hk];rfl);refine zF ?_ rfl;refine zG ?_ d2;dsimp only;cases e:(ao t).2.2.2.2.2.2.2.2.2 with
  |false=>rfl
  |true=>
   refine zT ?_ rfl;refine zT ?_ rfl;refine zG ?_ hs;rw [O1 e];simp [Out.eval]
theorem al3:ownKnob Tryz.prog.godebug=none:=by kernel_rfl
set_option maxRecDepth 100000 in
theorem Mx (H:Type) (enc:TypeId×Value→H) (W:World) (base:Nat) (args:Array Value) (ds gs:List (DataW H)) (before:List MemPlace)
  (Oc:∀ (j:Nat) t v,Tryz.f3.params[j]? =some t→args[j]? =some v→Value.okWide Tryz.prog W .any base t v)
  (hW:DataW.Whole enc Tryz.prog Tryz.f3.params.toList Rows.fnUnixTextSpec.vars false W args.toList ds gs before):
  Calls Tryz.prog 3 args W λe W'=>∃ v,e= .returned v∧Rows.fnUnixTextSpec.post enc Tryz.prog Tryz.f3 false true false false W args v W':=by
 have hW':=hW;obtain ⟨p,q,hA0,hV,rfl,_,_⟩:=hW;have hA:DataW.TrodAll enc Tryz.prog W 0 (λ_=>true) true [22] args.toList ds p:=hA0;have cf:=hW'.lt;obtain ⟨rfl,rfl⟩:=trodVars_none hV;simp only [List.append_nil] at hW' cf;have hlen:ds.length=1:=(trodAll_length hA).2;obtain ⟨d0,e0⟩:=Pi.1 hlen;subst e0;have hu:Tryz.prog.underlying 4=some .bool:=by kernel_rfl
 refine (R9 (ts:=[(.sl (.int .u8))]) (tids:=[22]) (f:=3) (lend:=k3.lend) (F:=k3.F) aqt (Mv (by kernel_rfl)) (λx hw=> ?_) (b0:=base) (λj t v ht hv=>Oc j t v ?_ hv) hA).mono λe W' ⟨he,hg,hs⟩=> ?_
 . exact ⟨_,rfl⟩
 . rw [← ht,Tryz.params3];first|rfl|simp
 . subst he
   exact ⟨_,rfl,JC (pa:=p) (pv:=[]) hW' (λ_ _ _=>trodAll_mk1 (shut_bool hu true)) (λsp QP=>uL (by kernel_rfl) hs (by kernel_rfl) hA cf QP) (λ_ _=>rfl) (by simp) hg (ok_one (by kernel_rfl) rfl (okWide_bool_mk hu true))⟩
set_option maxRecDepth 100000 in
theorem Sa (os:Os) (started:os.Started) (H:Type) (enc:TypeId×Value→H):
  ReturnsInHanded {} Tryz.checked os 3 .any (Rows.fnUnixTextSpec.pre6 enc Tryz.prog Tryz.f3 Rows.fnUnixTextRow.domain false) (Rows.fnUnixTextSpec.post enc Tryz.prog Tryz.f3 false true false false):=by
 refine returnsInHanded_of_change (C:=Tryz.checked) al3 started (by kernel_rfl) Tryz.func3
  (ChangeSpec.witness6 (enc:=enc) (C:=Tryz.checked) false ⟨#[], #[.slice none 0 0],[]⟩ 8 (by kernel_rfl) (by kernel_rfl) (by kernel_rfl) (by kernel_rfl)) ?_
 intro W base args ds gs before Oc hW _ _;exact Mx H enc W base args ds gs before Oc hW
theorem Sb:joinedFacts Tryz.prog 3 Tryz.f3 Rows.fnUnixTextSpec Rows.fnUnixTextRow=true:=by
 unfold joinedFacts;rw [JP,Sv,Zd]
 kernel_rfl
theorem adB:Rows.FnUnixTextSaid:=
 OpenClaim.holds_of_wide 3 Tryz.f3 rfl rfl rfl rfl rfl rfl rfl ⟨rfl,rfl,rfl,rfl,rfl⟩ rfl rfl rfl rfl rfl (by kernel_rfl) Tryz.func3 Sb
  (of_decide_eq_true (by kernel_rfl)) (by unfold Func.isWrapper;first|(rw [if_pos (by decide+kernel)];kernel_rfl)|(rw [if_neg (by decide+kernel)];exact ⟨rfl,rfl⟩))
  (λos started H enc _=>Sa os started H enc)
end Go.Proofs.YtkmhgofibfmjfaaGreat.Dm
namespace Go.Proofs.YtkmhgofibfmjfaaGreat
theorem fnUnixText_said:Rows.FnUnixTextSaid:=Dm.adB
end Go.Proofs.YtkmhgofibfmjfaaGreat
namespace Go.Proofs.YtkmhgofibfmjfaaGreat.Dm
end Go.Proofs.YtkmhgofibfmjfaaGreat.Dm
