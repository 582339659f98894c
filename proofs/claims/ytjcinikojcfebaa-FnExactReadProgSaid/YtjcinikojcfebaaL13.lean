/- Functions of the program, and what they compute. -/
import Derived.Test.YtjcinikojcfebaaA12
import Derived.Test.YtjcinikojcfebaaFacts
import Derived.Test.YtjcinikojcfebaaRows
import Derived.ChangeCalls
namespace Go.Proofs.Ytjcinikojcfebaa.Dm
open Go Go.ChangeShapes Go.WideShapes Go.ChangeAt Go.RowKit

def f13_tree (a0 : List UInt8) : Out (((Bool × Unit) × Unit) × (Unit × Unit)) :=
 .ite (decide (((List.length a0 : Nat) : Int) > (1048576 : Int)))
 (.ret (((true, ()), ()), ((), ())))
 (.ite ((!(eqInssV (readProgV a0).1 (readProgV a0).1)) == false)
 (.ite (!((readProgV a0).2 == (readProgV a0).2))
 (.ret (((false, ()), ()), ((), ())))
 (.ite (decide ((heldInsSV (markInsSV (readProgV a0).1 (1 : Int)).2 (1 : Int)) < (0 : Int)))
 (.ret (((false, ()), ()), ((), ())))
 (.ite (((heldInsSV (markInsSV (readProgV a0).1 (1 : Int)).2 (1 : Int)) != (markInsSV (readProgV a0).1 (1 : Int)).1))
 (.ret (((false, ()), ()), ((), ())))
 (.ite ((!(eqInssV (readProgV a0).1 (readProgV a0).1)) == false)
 (.ite (!((readProgV a0).2 == (readProgV a0).2))
 (.ret (((false, ()), ()), ((), ())))
 (.ite (decide ((heldInsSV (markInsSV (readProgV a0).1 (1 : Int)).2 (1 : Int)) < (0 : Int)))
 (.ret (((false, ()), ()), ((), ())))
 (.ite (((heldInsSV (markInsSV (readProgV a0).1 (1 : Int)).2 (1 : Int)) != (markInsSV (readProgV a0).1 (1 : Int)).1))
 (.ret (((false, ()), ()), ((), ())))
 (.ret (((true, ()), ()), ((), ()))))))
 (.ret (((false, ()), ()), ((), ())))))))
 (.ret (((false, ()), ()), ((), ()))))
def true1s (_ : Str) : Bool := true
def k13 : Con := { f := 13, lend := true, its := [⟨false, false, [.s]⟩], lay := [none], rs := [⟨false, false, [.b]⟩], F := fun x => .ret ((((true1s x.1.1), ()), ()), ((), ())) }
theorem f13_eq (x : itemsD k13.its) : bodyOut (cxOf [k72, k73, k74, k75, k76]) (fun _ => none) (codeOf Try.f13) k13.its k13.lay Try.f13.ntmps k13.rs [.tmp 2] x = f13_tree x.1.1 := by kernel_rfl
theorem f13_ok (hr : ∀ x : (List UInt8 × Unit) × Unit, itemsWF k13.its x → (f13_tree x.1.1).eval = (k13.F x).eval) : k13.Ok Try.prog :=
  con_fn [k72, k73, k74, k75, k76] ⟨k72_ok, k73_ok, k74_ok, k75_ok, k76_ok, trivial⟩ (by kernel_rfl) (codeOf_eq (by kernel_rfl)) (by kernel_rfl) (by kernel_rfl) (by kernel_rfl) f13_eq fun x hw _ hy => (hr x hw).trans hy
theorem k13_ok : k13.Ok Try.prog := by
  refine f13_ok fun x _ => ?_
  obtain ⟨⟨s, _⟩, _⟩ := x
  show (f13_tree s).eval = some (((true, ()), ()), ((), ()))
  unfold f13_tree
  have e1 : ∀ l : List InsD, eqInssV l l = true := fun l => decide_eq_true rfl
  have hl := readProgV_len s
  have m2 : heldInsSV (markInsSV (readProgV s).1 1).2 1 = (markInsSV (readProgV s).1 1).1 := by unfold heldInsSV markInsSV; simp
  have m3 : ¬ (markInsSV (readProgV s).1 1).1 < 0 := up_nonneg (n := 4 * (readProgV s).1.length) (by unfold BIG; omega)
  by_cases h : ((s.length : Nat) : Int) > 1048576
  · rw [eval_ite_t (decide_eq_true h)]; rfl
  · rw [eval_ite_f (decide_eq_false h)]
    simp [Out.eval, e1, m2, m3]

theorem f13_own : ownKnob Try.prog.godebug = none := by kernel_rfl
set_option maxRecDepth 100000 in
theorem f13_contract (H : Type) (enc : TypeId × Value → H) (W : World) (base : Nat) (args : Array Value) (ds gs : List (DataW H)) (before : List MemPlace)
    (hval : ∀ (j : Nat) t v, Try.f13.params[j]? = some t → args[j]? = some v → Value.okWide Try.prog W .any base t v)
    (hW : DataW.Whole enc Try.prog Try.f13.params.toList Rows.fnExactReadProgSpec.vars false W args.toList ds gs before) :
    Calls Try.prog 13 args W fun e W' => ∃ v, e = .returned v ∧ Rows.fnExactReadProgSpec.post enc Try.prog Try.f13 false true false false W args v W' := by
  have hW' := hW
  obtain ⟨p, q, hA0, hV, rfl, _, _⟩ := hW
  have hA : DataW.TrodAll enc Try.prog W 0 (fun _ => true) true [9] args.toList ds p := hA0
  have hlt := hW'.lt
  obtain ⟨rfl, rfl⟩ := trodVars_none hV
  simp only [List.append_nil] at hW' hlt
  have hlen : ds.length = 1 := (trodAll_length hA).2
  obtain ⟨d0, e0⟩ := List.length_eq_one_iff.1 hlen
  subst e0
  have hu : Try.prog.underlying 4 = some .bool := by kernel_rfl
  refine (law_calls (ts := [.str]) (tids := [9]) (f := 13) (lend := k13.lend) (F := k13.F) k13_ok (parsB_ok (by kernel_rfl)) (fun x hw => ?_) (b0 := base) (fun j t v ht hv => hval j t v ?_ hv) hA).mono fun e W' ⟨he, hg, hs⟩ => ?_
  · exact ⟨_, rfl⟩
  · rw [← ht, Try.params13]; first | rfl | simp
  · subst he
    exact ⟨_, rfl, post_of_same (pa := p) (pv := []) hW' (fun _ _ _ => trodAll_mk1 (shut_bool hu true)) (fun sp hsp => trodAll_stays (by kernel_rfl) hs (by kernel_rfl) hA hlt hsp) (fun _ _ => rfl) (by simp) (hg.frame _) hg.2.1 (ok_one (by kernel_rfl) rfl (okWide_bool_mk hu true))⟩
set_option maxRecDepth 100000 in
theorem f13_lifted (os : Os) (started : os.Started) (H : Type) (enc : TypeId × Value → H) :
    ReturnsInHanded {} Try.checked os 13 .any (Rows.fnExactReadProgSpec.pre6 enc Try.prog Try.f13 Rows.fnExactReadProgRow.domain false) (Rows.fnExactReadProgSpec.post enc Try.prog Try.f13 false true false false) := by
  refine returnsInHanded_of_change (C := Try.checked) f13_own started (by kernel_rfl) Try.func13
    (ChangeSpec.witness6 (enc := enc) (C := Try.checked) false ⟨#[], #[.string ⟨#[]⟩], []⟩ 8 (by kernel_rfl) (by kernel_rfl) (by kernel_rfl) (by kernel_rfl)) ?_
  intro W base args ds gs before hval hW _ _
  exact f13_contract H enc W base args ds gs before hval hW
theorem f13_closed : joinedFacts Try.prog 13 Try.f13 Rows.fnExactReadProgSpec Rows.fnExactReadProgRow = true := by
  unfold joinedFacts
  rw [mayEnter_ok, lifts_ok, make_ok]
  kernel_rfl
theorem f13_said : Rows.FnExactReadProgSaid :=
  OpenClaim.holds_of_wide 13 Try.f13 rfl rfl rfl rfl rfl rfl rfl ⟨rfl, rfl, rfl, rfl, rfl⟩ rfl rfl rfl rfl rfl (by kernel_rfl) Try.func13 f13_closed
    (of_decide_eq_true (by kernel_rfl)) (by unfold Func.isWrapper; first | (rw [if_pos (by decide +kernel)]; kernel_rfl) | (rw [if_neg (by decide +kernel)]; exact ⟨rfl, rfl⟩))
    (fun os started H enc _ => f13_lifted os started H enc)
end Go.Proofs.Ytjcinikojcfebaa.Dm
namespace Go.Proofs.Ytjcinikojcfebaa
theorem fnExactReadProg_said : Rows.FnExactReadProgSaid := Dm.f13_said
end Go.Proofs.Ytjcinikojcfebaa
namespace Go.Proofs.Ytjcinikojcfebaa.Dm


end Go.Proofs.Ytjcinikojcfebaa.Dm
