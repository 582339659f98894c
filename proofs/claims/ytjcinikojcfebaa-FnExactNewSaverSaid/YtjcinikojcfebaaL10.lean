/- Functions of the program, and what they compute. -/
import Derived.Test.YtjcinikojcfebaaA8
import Derived.Test.YtjcinikojcfebaaFacts
import Derived.Test.YtjcinikojcfebaaRows
import Derived.ChangeCalls
namespace Go.Proofs.Ytjcinikojcfebaa.Dm
open Go Go.ChangeShapes Go.WideShapes Go.ChangeAt Go.RowKit

def f8_tree  : Out (((Bool × Unit) × Unit) × (Unit)) :=
 .ite (!(eqSaverV newSaverV.1 newSaverV.2.1 newSaverV.2.2.1 newSaverV.2.2.2.1 newSaverV.2.2.2.2.1 newSaverV.2.2.2.2.2 newSaverV.1 newSaverV.2.1 newSaverV.2.2.1 newSaverV.2.2.2.1 newSaverV.2.2.2.2.1 newSaverV.2.2.2.2.2))
 (.ret (((false, ()), ()), ()))
 (.ite (decide ((heldSaverV (markSaverV newSaverV.1 newSaverV.2.1 newSaverV.2.2.1 newSaverV.2.2.2.1 newSaverV.2.2.2.2.1 newSaverV.2.2.2.2.2 (1 : Int)).2.1 (markSaverV newSaverV.1 newSaverV.2.1 newSaverV.2.2.1 newSaverV.2.2.2.1 newSaverV.2.2.2.2.1 newSaverV.2.2.2.2.2 (1 : Int)).2.2.1 (markSaverV newSaverV.1 newSaverV.2.1 newSaverV.2.2.1 newSaverV.2.2.2.1 newSaverV.2.2.2.2.1 newSaverV.2.2.2.2.2 (1 : Int)).2.2.2.1 (markSaverV newSaverV.1 newSaverV.2.1 newSaverV.2.2.1 newSaverV.2.2.2.1 newSaverV.2.2.2.2.1 newSaverV.2.2.2.2.2 (1 : Int)).2.2.2.2 newSaverV.2.2.2.2.1 newSaverV.2.2.2.2.2 (1 : Int)) < (0 : Int)))
 (.ret (((false, ()), ()), ()))
 (.ite (((heldSaverV (markSaverV newSaverV.1 newSaverV.2.1 newSaverV.2.2.1 newSaverV.2.2.2.1 newSaverV.2.2.2.2.1 newSaverV.2.2.2.2.2 (1 : Int)).2.1 (markSaverV newSaverV.1 newSaverV.2.1 newSaverV.2.2.1 newSaverV.2.2.2.1 newSaverV.2.2.2.2.1 newSaverV.2.2.2.2.2 (1 : Int)).2.2.1 (markSaverV newSaverV.1 newSaverV.2.1 newSaverV.2.2.1 newSaverV.2.2.2.1 newSaverV.2.2.2.2.1 newSaverV.2.2.2.2.2 (1 : Int)).2.2.2.1 (markSaverV newSaverV.1 newSaverV.2.1 newSaverV.2.2.1 newSaverV.2.2.2.1 newSaverV.2.2.2.2.1 newSaverV.2.2.2.2.2 (1 : Int)).2.2.2.2 newSaverV.2.2.2.2.1 newSaverV.2.2.2.2.2 (1 : Int)) != (markSaverV newSaverV.1 newSaverV.2.1 newSaverV.2.2.1 newSaverV.2.2.2.1 newSaverV.2.2.2.2.1 newSaverV.2.2.2.2.2 (1 : Int)).1))
 (.ret (((false, ()), ()), ()))
 (.ite (!(eqSaverV newSaverV.1 newSaverV.2.1 newSaverV.2.2.1 newSaverV.2.2.2.1 newSaverV.2.2.2.2.1 newSaverV.2.2.2.2.2 newSaverV.1 newSaverV.2.1 newSaverV.2.2.1 newSaverV.2.2.2.1 newSaverV.2.2.2.2.1 newSaverV.2.2.2.2.2))
 (.ret (((false, ()), ()), ()))
 (.ite (decide ((heldSaverV (markSaverV newSaverV.1 newSaverV.2.1 newSaverV.2.2.1 newSaverV.2.2.2.1 newSaverV.2.2.2.2.1 newSaverV.2.2.2.2.2 (1 : Int)).2.1 (markSaverV newSaverV.1 newSaverV.2.1 newSaverV.2.2.1 newSaverV.2.2.2.1 newSaverV.2.2.2.2.1 newSaverV.2.2.2.2.2 (1 : Int)).2.2.1 (markSaverV newSaverV.1 newSaverV.2.1 newSaverV.2.2.1 newSaverV.2.2.2.1 newSaverV.2.2.2.2.1 newSaverV.2.2.2.2.2 (1 : Int)).2.2.2.1 (markSaverV newSaverV.1 newSaverV.2.1 newSaverV.2.2.1 newSaverV.2.2.2.1 newSaverV.2.2.2.2.1 newSaverV.2.2.2.2.2 (1 : Int)).2.2.2.2 newSaverV.2.2.2.2.1 newSaverV.2.2.2.2.2 (1 : Int)) < (0 : Int)))
 (.ret (((false, ()), ()), ()))
 (.ite (((heldSaverV (markSaverV newSaverV.1 newSaverV.2.1 newSaverV.2.2.1 newSaverV.2.2.2.1 newSaverV.2.2.2.2.1 newSaverV.2.2.2.2.2 (1 : Int)).2.1 (markSaverV newSaverV.1 newSaverV.2.1 newSaverV.2.2.1 newSaverV.2.2.2.1 newSaverV.2.2.2.2.1 newSaverV.2.2.2.2.2 (1 : Int)).2.2.1 (markSaverV newSaverV.1 newSaverV.2.1 newSaverV.2.2.1 newSaverV.2.2.2.1 newSaverV.2.2.2.2.1 newSaverV.2.2.2.2.2 (1 : Int)).2.2.2.1 (markSaverV newSaverV.1 newSaverV.2.1 newSaverV.2.2.1 newSaverV.2.2.2.1 newSaverV.2.2.2.2.1 newSaverV.2.2.2.2.2 (1 : Int)).2.2.2.2 newSaverV.2.2.2.2.1 newSaverV.2.2.2.2.2 (1 : Int)) != (markSaverV newSaverV.1 newSaverV.2.1 newSaverV.2.2.1 newSaverV.2.2.2.1 newSaverV.2.2.2.2.1 newSaverV.2.2.2.2.2 (1 : Int)).1))
 (.ret (((false, ()), ()), ()))
 (.ret (((true, ()), ()), ())))))))
def k8 : Con := { f := 8, lend := true, its := [], lay := [], rs := [⟨false, false, [.b]⟩], F := fun x => .ret ((((true), ()), ()), ()) }
theorem f8_eq (x : itemsD k8.its) : bodyOut (cxOf [k50, k51, k52, k53, k54]) (fun _ => none) (codeOf Try.f8) k8.its k8.lay Try.f8.ntmps k8.rs [.tmp 0] x = f8_tree  := by kernel_rfl
theorem f8_ok (hr : ∀ x : Unit, itemsWF k8.its x → (f8_tree ).eval = (k8.F x).eval) : k8.Ok Try.prog :=
  con_fn [k50, k51, k52, k53, k54] ⟨k50_ok, k51_ok, k52_ok, k53_ok, k54_ok, trivial⟩ (by kernel_rfl) (codeOf_eq (by kernel_rfl)) (by kernel_rfl) (by kernel_rfl) (by kernel_rfl) f8_eq fun x hw _ hy => (hr x hw).trans hy
theorem k8_ok : k8.Ok Try.prog := by
  refine f8_ok fun x _ => ?_
  show f8_tree.eval = some (((true, ()), ()), ())
  unfold f8_tree
  have m := held_markSaver (a := newSaverV.1) (b := newSaverV.2.1) (c := newSaverV.2.2.1) (d := newSaverV.2.2.2.1) (q := newSaverV.2.2.2.2.1) (p := newSaverV.2.2.2.2.2) (q' := newSaverV.2.2.2.2.1) (p' := newSaverV.2.2.2.2.2) (by decide)
  simp [Out.eval, eqSaverV_self, m.1, m.2]

theorem f8_own : ownKnob Try.prog.godebug = none := by kernel_rfl
set_option maxRecDepth 100000 in
theorem f8_contract (H : Type) (enc : TypeId × Value → H) (W : World) (base : Nat) (args : Array Value) (ds gs : List (DataW H)) (before : List MemPlace)
    (hval : ∀ (j : Nat) t v, Try.f8.params[j]? = some t → args[j]? = some v → Value.okWide Try.prog W .any base t v)
    (hW : DataW.Whole enc Try.prog Try.f8.params.toList Rows.fnExactNewSaverSpec.vars false W args.toList ds gs before) :
    Calls Try.prog 8 args W fun e W' => ∃ v, e = .returned v ∧ Rows.fnExactNewSaverSpec.post enc Try.prog Try.f8 false true false false W args v W' := by
  have hW' := hW
  obtain ⟨p, q, hA0, hV, rfl, _, _⟩ := hW
  have hA : DataW.TrodAll enc Try.prog W 0 (fun _ => true) true [] args.toList ds p := hA0
  have hlt := hW'.lt
  obtain ⟨rfl, rfl⟩ := trodVars_none hV
  simp only [List.append_nil] at hW' hlt
  have hlen : ds.length = 0 := (trodAll_length hA).2
  have e0 : ds = [] := List.eq_nil_of_length_eq_zero hlen
  subst e0
  have hu : Try.prog.underlying 4 = some .bool := by kernel_rfl
  refine (law_calls (ts := []) (tids := []) (f := 8) (lend := k8.lend) (F := k8.F) k8_ok (parsB_ok (by kernel_rfl)) (fun x hw => ?_) (b0 := base) (fun j t v ht hv => hval j t v ?_ hv) hA).mono fun e W' ⟨he, hg, hs⟩ => ?_
  · exact ⟨_, rfl⟩
  · rw [← ht, Try.params8]; first | rfl | simp
  · subst he
    exact ⟨_, rfl, post_of_same (pa := p) (pv := []) hW' (fun _ _ _ => trodAll_mk1 (shut_bool hu true)) (fun sp hsp => trodAll_stays (by kernel_rfl) hs (by kernel_rfl) hA hlt hsp) (fun _ _ => rfl) (by simp) (hg.frame _) hg.2.1 (ok_one (by kernel_rfl) rfl (okWide_bool_mk hu true))⟩
set_option maxRecDepth 100000 in
theorem f8_lifted (os : Os) (started : os.Started) (H : Type) (enc : TypeId × Value → H) :
    ReturnsInHanded {} Try.checked os 8 .any (Rows.fnExactNewSaverSpec.pre6 enc Try.prog Try.f8 Rows.fnExactNewSaverRow.domain false) (Rows.fnExactNewSaverSpec.post enc Try.prog Try.f8 false true false false) := by
  refine returnsInHanded_of_change (C := Try.checked) f8_own started (by kernel_rfl) Try.func8
    (ChangeSpec.witness6 (enc := enc) (C := Try.checked) false ⟨#[], #[], []⟩ 8 (by kernel_rfl) (by kernel_rfl) (by kernel_rfl) (by kernel_rfl)) ?_
  intro W base args ds gs before hval hW _ _
  exact f8_contract H enc W base args ds gs before hval hW
theorem f8_closed : joinedFacts Try.prog 8 Try.f8 Rows.fnExactNewSaverSpec Rows.fnExactNewSaverRow = true := by
  unfold joinedFacts
  rw [mayEnter_ok, lifts_ok, make_ok]
  kernel_rfl
theorem f8_said : Rows.FnExactNewSaverSaid :=
  OpenClaim.holds_of_wide 8 Try.f8 rfl rfl rfl rfl rfl rfl rfl ⟨rfl, rfl, rfl, rfl, rfl⟩ rfl rfl rfl rfl rfl (by kernel_rfl) Try.func8 f8_closed
    (of_decide_eq_true (by kernel_rfl)) (by unfold Func.isWrapper; first | (rw [if_pos (by decide +kernel)]; kernel_rfl) | (rw [if_neg (by decide +kernel)]; exact ⟨rfl, rfl⟩))
    (fun os started H enc _ => f8_lifted os started H enc)
end Go.Proofs.Ytjcinikojcfebaa.Dm
namespace Go.Proofs.Ytjcinikojcfebaa
theorem fnExactNewSaver_said : Rows.FnExactNewSaverSaid := Dm.f8_said
end Go.Proofs.Ytjcinikojcfebaa
namespace Go.Proofs.Ytjcinikojcfebaa.Dm


end Go.Proofs.Ytjcinikojcfebaa.Dm
