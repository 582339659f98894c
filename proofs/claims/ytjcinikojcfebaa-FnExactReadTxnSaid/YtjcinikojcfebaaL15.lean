/- Functions of the program, and what they compute. -/
import Derived.Test.YtjcinikojcfebaaA13
import Derived.Test.YtjcinikojcfebaaFacts
import Derived.Test.YtjcinikojcfebaaRows
import Derived.ChangeCalls
namespace Go.Proofs.Ytjcinikojcfebaa.Dm
open Go Go.ChangeShapes Go.WideShapes Go.ChangeAt Go.RowKit

def f15_tree (a0 : List UInt8) : Out (((Bool × Unit) × Unit) × (Unit × Unit)) :=
 .ite (decide (((List.length a0 : Nat) : Int) > (1048576 : Int)))
 (.ret (((true, ()), ()), ((), ())))
 (.ite ((!(eqTxnV (readTxnRV a0).1 (readTxnRV a0).2.1 (readTxnRV a0).1 (readTxnRV a0).2.1)) == false)
 (.ite (!((readTxnRV a0).2.2 == (readTxnRV a0).2.2))
 (.ret (((false, ()), ()), ((), ())))
 (.ite (decide ((heldTxnV (readTxnRV a0).1 (markTxnV (readTxnRV a0).1 (readTxnRV a0).2.1 (1 : Int)).2 (1 : Int)) < (0 : Int)))
 (.ret (((false, ()), ()), ((), ())))
 (.ite (((heldTxnV (readTxnRV a0).1 (markTxnV (readTxnRV a0).1 (readTxnRV a0).2.1 (1 : Int)).2 (1 : Int)) != (markTxnV (readTxnRV a0).1 (readTxnRV a0).2.1 (1 : Int)).1))
 (.ret (((false, ()), ()), ((), ())))
 (.ite ((!(eqTxnV (readTxnRV a0).1 (readTxnRV a0).2.1 (readTxnRV a0).1 (readTxnRV a0).2.1)) == false)
 (.ite (!((readTxnRV a0).2.2 == (readTxnRV a0).2.2))
 (.ret (((false, ()), ()), ((), ())))
 (.ite (decide ((heldTxnV (readTxnRV a0).1 (markTxnV (readTxnRV a0).1 (readTxnRV a0).2.1 (1 : Int)).2 (1 : Int)) < (0 : Int)))
 (.ret (((false, ()), ()), ((), ())))
 (.ite (((heldTxnV (readTxnRV a0).1 (markTxnV (readTxnRV a0).1 (readTxnRV a0).2.1 (1 : Int)).2 (1 : Int)) != (markTxnV (readTxnRV a0).1 (readTxnRV a0).2.1 (1 : Int)).1))
 (.ret (((false, ()), ()), ((), ())))
 (.ret (((true, ()), ()), ((), ()))))))
 (.ret (((false, ()), ()), ((), ())))))))
 (.ret (((false, ()), ()), ((), ()))))
def true1s (_ : Str) : Bool := true
def k15 : Con := { f := 15, lend := true, its := [⟨false, false, [.s]⟩], lay := [none], rs := [⟨false, false, [.b]⟩], F := fun x => .ret ((((true1s x.1.1), ()), ()), ((), ())) }
theorem f15_eq (x : itemsD k15.its) : bodyOut (cxOf [k81, k82, k44, k83, k84]) (fun _ => none) (codeOf Try.f15) k15.its k15.lay Try.f15.ntmps k15.rs [.tmp 2] x = f15_tree x.1.1 := by kernel_rfl
theorem f15_ok (hr : ∀ x : (List UInt8 × Unit) × Unit, itemsWF k15.its x → (f15_tree x.1.1).eval = (k15.F x).eval) : k15.Ok Try.prog :=
  con_fn [k81, k82, k44, k83, k84] ⟨k81_ok, k82_ok, k44_ok, k83_ok, k84_ok, trivial⟩ (by kernel_rfl) (codeOf_eq (by kernel_rfl)) (by kernel_rfl) (by kernel_rfl) (by kernel_rfl) f15_eq fun x hw _ hy => (hr x hw).trans hy
theorem k15_ok : k15.Ok Try.prog := by
  refine f15_ok fun x _ => ?_
  obtain ⟨⟨s, _⟩, _⟩ := x
  show (f15_tree s).eval = some (((true, ()), ()), ((), ()))
  unfold f15_tree
  have e1 : ∀ (q : Int) (l : List WriteD), eqTxnV q l q l = true := fun q l => by simp [eqTxnV, eqWritesV]
  have hl := readTxnRV_len s
  have m3 : ¬ (markWriteSV (readTxnRV s).2.1 1).1 < 0 := up_nonneg (n := 2 * (readTxnRV s).2.1.length) (by unfold BIG; omega)
  have m2 : heldTxnV (readTxnRV s).1 (markTxnV (readTxnRV s).1 (readTxnRV s).2.1 1).2 1 = (markTxnV (readTxnRV s).1 (readTxnRV s).2.1 1).1 := by
    unfold heldTxnV markTxnV
    rw [held_markWrites]
    exact thenV_ok m3
  have m3 : ¬ (markTxnV (readTxnRV s).1 (readTxnRV s).2.1 1).1 < 0 := m3
  by_cases h : ((s.length : Nat) : Int) > 1048576
  · rw [eval_ite_t (decide_eq_true h)]; rfl
  · rw [eval_ite_f (decide_eq_false h)]
    simp [Out.eval, e1, m2, m3]

theorem f15_own : ownKnob Try.prog.godebug = none := by kernel_rfl
set_option maxRecDepth 100000 in
theorem f15_contract (H : Type) (enc : TypeId × Value → H) (W : World) (base : Nat) (args : Array Value) (ds gs : List (DataW H)) (before : List MemPlace)
    (hval : ∀ (j : Nat) t v, Try.f15.params[j]? = some t → args[j]? = some v → Value.okWide Try.prog W .any base t v)
    (hW : DataW.Whole enc Try.prog Try.f15.params.toList Rows.fnExactReadTxnSpec.vars false W args.toList ds gs before) :
    Calls Try.prog 15 args W fun e W' => ∃ v, e = .returned v ∧ Rows.fnExactReadTxnSpec.post enc Try.prog Try.f15 false true false false W args v W' := by
  have hW' := hW
  obtain ⟨p, q, hA0, hV, rfl, _, _⟩ := hW
  have hA : DataW.TrodAll enc Try.prog W 0 (fun _ => true) true [9] args.toList ds p := hA0
  have hlt := hW'.lt
  obtain ⟨rfl, rfl⟩ := trodVars_none hV
  simp only [List.append_nil] at hW' hlt
  have hlen : ds.length = 1 := (trodAll_length hA).2
  obtain ⟨d0, e0⟩ := List.length_eq_one_iff.1 hlen
  subst e0
  have hu : Try.prog.underlying 4 = some .bool := by kernel_rfl
  refine (law_calls (ts := [.str]) (tids := [9]) (f := 15) (lend := k15.lend) (F := k15.F) k15_ok (parsB_ok (by kernel_rfl)) (fun x hw => ?_) (b0 := base) (fun j t v ht hv => hval j t v ?_ hv) hA).mono fun e W' ⟨he, hg, hs⟩ => ?_
  · exact ⟨_, rfl⟩
  · rw [← ht, Try.params15]; first | rfl | simp
  · subst he
    exact ⟨_, rfl, post_of_same (pa := p) (pv := []) hW' (fun _ _ _ => trodAll_mk1 (shut_bool hu true)) (fun sp hsp => trodAll_stays (by kernel_rfl) hs (by kernel_rfl) hA hlt hsp) (fun _ _ => rfl) (by simp) (hg.frame _) hg.2.1 (ok_one (by kernel_rfl) rfl (okWide_bool_mk hu true))⟩
set_option maxRecDepth 100000 in
theorem f15_lifted (os : Os) (started : os.Started) (H : Type) (enc : TypeId × Value → H) :
    ReturnsInHanded {} Try.checked os 15 .any (Rows.fnExactReadTxnSpec.pre6 enc Try.prog Try.f15 Rows.fnExactReadTxnRow.domain false) (Rows.fnExactReadTxnSpec.post enc Try.prog Try.f15 false true false false) := by
  refine returnsInHanded_of_change (C := Try.checked) f15_own started (by kernel_rfl) Try.func15
    (ChangeSpec.witness6 (enc := enc) (C := Try.checked) false ⟨#[], #[.string ⟨#[]⟩], []⟩ 8 (by kernel_rfl) (by kernel_rfl) (by kernel_rfl) (by kernel_rfl)) ?_
  intro W base args ds gs before hval hW _ _
  exact f15_contract H enc W base args ds gs before hval hW
theorem f15_closed : joinedFacts Try.prog 15 Try.f15 Rows.fnExactReadTxnSpec Rows.fnExactReadTxnRow = true := by
  unfold joinedFacts
  rw [mayEnter_ok, lifts_ok, make_ok]
  kernel_rfl
theorem f15_said : Rows.FnExactReadTxnSaid :=
  OpenClaim.holds_of_wide 15 Try.f15 rfl rfl rfl rfl rfl rfl rfl ⟨rfl, rfl, rfl, rfl, rfl⟩ rfl rfl rfl rfl rfl (by kernel_rfl) Try.func15 f15_closed
    (of_decide_eq_true (by kernel_rfl)) (by unfold Func.isWrapper; first | (rw [if_pos (by decide +kernel)]; kernel_rfl) | (rw [if_neg (by decide +kernel)]; exact ⟨rfl, rfl⟩))
    (fun os started H enc _ => f15_lifted os started H enc)
end Go.Proofs.Ytjcinikojcfebaa.Dm
namespace Go.Proofs.Ytjcinikojcfebaa
theorem fnExactReadTxn_said : Rows.FnExactReadTxnSaid := Dm.f15_said
end Go.Proofs.Ytjcinikojcfebaa
namespace Go.Proofs.Ytjcinikojcfebaa.Dm


end Go.Proofs.Ytjcinikojcfebaa.Dm
